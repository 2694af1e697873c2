/- The versions from which a version comes; the reference and the program. No statement of the seat is proved here. -/
import Derived.Test.YtjolahiflldepaaPiFLine
namespace Go.Proofs.Ytjolahiflldepaa.Pi
open Go
set_option maxRecDepth 10000
set_option linter.unusedVariables false

theorem s_lineOfO (xs : List Version) (hk : okHistory xs = true) (n : Int) (h0 : 0 ≤ n) (h1 : n ≤ xs.length) : Sat Try.prog 43 [(false, Enc.enc xs), (false, [.int .i64 n])] (.one (.rs 0), [(0, .arr 1 ((line xs 32 n).map Enc.enc))]) := by
  have h32 := okHistory_len hk
  refine Sat.intro tok mixed Try.func43 rfl rfl ?_
  ((conv => whnf); repeat first | (refine Br.no ?_; conv => whnf) | (refine Br.yes ?_; conv => whnf) | (refine Pick.draw rfl (by kernel_rfl) ?_; conv => whnf) | (refine Pick.drawM (by kernel_rfl) ?_; conv => whnf) | (refine CallC.r ?_; conv => whnf))
  refine Pick.mk [0, 1, 5] trivial ?_
  ((conv => whnf); repeat first | (refine Br.no ?_; conv => whnf) | (refine Br.yes ?_; conv => whnf) | (refine Pick.draw rfl (by kernel_rfl) ?_; conv => whnf) | (refine Pick.drawM (by kernel_rfl) ?_; conv => whnf) | (refine CallC.r ?_; conv => whnf))
  refine LoopL.run (fun p : Int × List Int => St.mk [.one (.c (.slice 4 (xs.map Enc.enc))), .one (.c (.int .i64 p.1)), .one .dead, .one .dead, .one .dead, .one (.rs 320), .one .dead, .one .dead, .one .dead, .one .dead, .one .dead, .one .dead, .one .dead, .one .dead, .one .dead, .one .dead, .one .dead, .one .dead, .one .dead] [(320, .arr 1 (p.2.map Enc.enc))]) (fun p => p.1.toNat) (fun p => 0 ≤ p.1 ∧ p.1 ≤ xs.length ∧ p.2.length + p.1 ≤ 32 ∧ p.2 ++ line xs 32 p.1 = line xs 32 n) ?_ (n, []) ⟨h0, h1, by simp; omega, by simp⟩
  intro ⟨m, acc⟩ ⟨h2, h3, h4, h5⟩ ih
  simp only at h2 h3 h4 h5
  ((conv => whnf); repeat first | (refine Br.no ?_; conv => whnf) | (refine Br.yes ?_; conv => whnf) | (refine Pick.draw rfl (by kernel_rfl) ?_; conv => whnf) | (refine Pick.drawM (by kernel_rfl) ?_; conv => whnf) | (refine CallC.r ?_; conv => whnf))
  refine Br.mk (fun h => ?_) (fun h => ?_) <;> ((conv => whnf); repeat first | (refine Br.no ?_; conv => whnf) | (refine Br.yes ?_; conv => whnf) | (refine Pick.draw rfl (by kernel_rfl) ?_; conv => whnf) | (refine Pick.drawM (by kernel_rfl) ?_; conv => whnf) | (refine CallC.r ?_; conv => whnf))
  · simp at h
    obtain ⟨hix, e⟩ := up_at (xs := xs) (n := m) (by omega) h3
    obtain ⟨g1, g2⟩ := up_ok hk (n := m) (by omega) h3
    have e2 : line xs 32 m = m :: line xs 32 (up xs m) := by
      rw [line_fuel hk h3 (g := 33) (by omega) (by omega), line_step h]
    refine Side.mk (by simp only [List.length_map, List.length_cons, List.length_nil]; omega) ?_
    ((conv => whnf); repeat first | (refine Br.no ?_; conv => whnf) | (refine Br.yes ?_; conv => whnf) | (refine Pick.draw rfl (by kernel_rfl) ?_; conv => whnf) | (refine Pick.drawM (by kernel_rfl) ?_; conv => whnf) | (refine CallC.r ?_; conv => whnf))
    refine Pick.at64 (z := m - 1) rfl (by omega) ?_
    ((conv => whnf); repeat first | (refine Br.no ?_; conv => whnf) | (refine Br.yes ?_; conv => whnf) | (refine Pick.draw rfl (by kernel_rfl) ?_; conv => whnf) | (refine Pick.drawM (by kernel_rfl) ?_; conv => whnf) | (refine CallC.r ?_; conv => whnf))
    refine Pick.mk (Enc.enc xs[(m - 1).toNat]) ⟨by omega, by rw [List.getElem?_map, List.getElem?_eq_getElem hix]; rfl⟩ ?_
    ((conv => whnf); repeat first | (refine Br.no ?_; conv => whnf) | (refine Br.yes ?_; conv => whnf) | (refine Pick.draw rfl (by kernel_rfl) ?_; conv => whnf) | (refine Pick.drawM (by kernel_rfl) ?_; conv => whnf) | (refine CallC.r ?_; conv => whnf))
    have hn := ih (up xs m, acc ++ [m]) ⟨g1, by simp only []; omega, by simp; omega, by simp only [List.append_assoc, List.cons_append, List.nil_append]; rw [← e2]; exact h5⟩ (by simp only []; omega)
    simp only [e, List.map_append] at hn
    exact hn
  · simp at h
    rw [line_zero (by omega), List.append_nil] at h5
    exact ResOK.same (by rw [← h5])

def ancs (xs : List Version) (n : Int) : List Int := line xs 32 (up xs n)
def ancOf (xs : List Version) (n : Int) : List Int × Int := if askC xs [n] = 0 then (ancs xs n, 0) else ([], askC xs [n])
theorem ancOf_no {xs : List Version} {n : Int} (h : ¬ askC xs [n] = 0) : ancOf xs n = ([], askC xs [n]) := by rw [ancOf, if_neg h]
theorem ancOf_ok {xs : List Version} {n : Int} (h : askC xs [n] = 0) : ancOf xs n = (ancs xs n, 0) := by rw [ancOf, if_pos h]
theorem ancs_len (xs : List Version) (n : Int) : (ancs xs n).length ≤ 32 := line_len xs 32 _

theorem s_impl_AncNo (xs : List Version) (o : Enc.ok xs) (n : Int) (h : ¬ askC xs [n] = 0) : Sat Try.prog 9 [(false, Enc.enc xs), (false, [.int .i64 n])] (.tup [(false, [.ds 0]), (false, [.c (.int .i64 (askC xs [n]))])], [(0, .deep true 1 [])]) := by
  refine Sat.intro tok mixed Try.func9 rfl rfl ?_
  ((conv => whnf); repeat first | (refine Br.no ?_; conv => whnf) | (refine Br.yes ?_; conv => whnf) | (refine Pick.draw rfl (by kernel_rfl) ?_; conv => whnf) | (refine Pick.drawM (by kernel_rfl) ?_; conv => whnf) | (refine CallC.r ?_; conv => whnf))
  refine Pick.mk _ (s_versioned xs o [n] (by simp [maxLen])) ?_
  ((conv => whnf); repeat first | (refine Br.no ?_; conv => whnf) | (refine Br.yes ?_; conv => whnf) | (refine Pick.draw rfl (by kernel_rfl) ?_; conv => whnf) | (refine Pick.drawM (by kernel_rfl) ?_; conv => whnf) | (refine CallC.r ?_; conv => whnf))
  refine Br.mk (fun g => ?_) (fun g => ?_) <;> ((conv => whnf); repeat first | (refine Br.no ?_; conv => whnf) | (refine Br.yes ?_; conv => whnf) | (refine Pick.draw rfl (by kernel_rfl) ?_; conv => whnf) | (refine Pick.drawM (by kernel_rfl) ?_; conv => whnf) | (refine CallC.r ?_; conv => whnf))
  · exact ResOK.own rfl ⟨(fun r hr => nomatch hr), trivial⟩
  · simp at g; exact absurd g h

theorem s_impl_AncOk (xs : List Version) (o : Enc.ok xs) (n : Int) (h : askC xs [n] = 0) : Sat Try.prog 9 [(false, Enc.enc xs), (false, [.int .i64 n])] (.tup [(false, [.ru 0 1 ((ancs xs n).map (Enc.enc (α := Int))).length]), (false, [.c (.int .i64 0)])], [(0, .arr 1 (Enc.enc n :: (ancs xs n).map Enc.enc))]) := by
  refine Sat.intro tok mixed Try.func9 rfl rfl ?_
  ((conv => whnf); repeat first | (refine Br.no ?_; conv => whnf) | (refine Br.yes ?_; conv => whnf) | (refine Pick.draw rfl (by kernel_rfl) ?_; conv => whnf) | (refine Pick.drawM (by kernel_rfl) ?_; conv => whnf) | (refine CallC.r ?_; conv => whnf))
  refine Pick.mk _ (s_versioned xs o [n] (by simp [maxLen])) ?_
  ((conv => whnf); repeat first | (refine Br.no ?_; conv => whnf) | (refine Br.yes ?_; conv => whnf) | (refine Pick.draw rfl (by kernel_rfl) ?_; conv => whnf) | (refine Pick.drawM (by kernel_rfl) ?_; conv => whnf) | (refine CallC.r ?_; conv => whnf))
  rw [h]
  refine Br.mk (fun g => by simp at g) (fun _ => ?_)
  ((conv => whnf); repeat first | (refine Br.no ?_; conv => whnf) | (refine Br.yes ?_; conv => whnf) | (refine Pick.draw rfl (by kernel_rfl) ?_; conv => whnf) | (refine Pick.drawM (by kernel_rfl) ?_; conv => whnf) | (refine CallC.r ?_; conv => whnf))
  obtain ⟨hk, hn⟩ := askC_ok h
  have h1 := hn n (by simp)
  have e2 : line xs 32 n = n :: ancs xs n := by
    have := okHistory_len hk
    rw [line_fuel hk h1.2 (g := 33) (by omega) (by omega), line_step (by omega)]; rfl
  have hs := s_lineOfO xs hk n (by omega) h1.2
  rw [e2] at hs
  refine Pick.mk _ hs ?_
  ((conv => whnf); repeat first | (refine Br.no ?_; conv => whnf) | (refine Br.yes ?_; conv => whnf) | (refine Pick.draw rfl (by kernel_rfl) ?_; conv => whnf) | (refine Pick.drawM (by kernel_rfl) ?_; conv => whnf) | (refine CallC.r ?_; conv => whnf))
  refine Side.mk (by simp; omega) ?_
  ((conv => whnf); repeat first | (refine Br.no ?_; conv => whnf) | (refine Br.yes ?_; conv => whnf) | (refine Pick.draw rfl (by kernel_rfl) ?_; conv => whnf) | (refine Pick.drawM (by kernel_rfl) ?_; conv => whnf) | (refine CallC.r ?_; conv => whnf))
  exact ResOK.same (by simp)

theorem s_spec_AncestorsOf (xs : List Version) (o : Enc.ok xs) (n : Int) : Sat Try.prog 7 [(false, Enc.enc xs), (false, [.int .i64 n])] (.tup [(false, [.c (.slice 1 ((ancOf xs n).1.map Enc.enc))]), (false, [.c (.int .i64 (ancOf xs n).2)])], []) := by
  refine Sat.intro tok mixed Try.func7 rfl rfl ?_
  ((conv => whnf); repeat first | (refine Br.no ?_; conv => whnf) | (refine Br.yes ?_; conv => whnf) | (refine Pick.draw rfl (by kernel_rfl) ?_; conv => whnf) | (refine Pick.drawM (by kernel_rfl) ?_; conv => whnf) | (refine CallC.r ?_; conv => whnf))
  refine Pick.mk _ (s_l27Ok xs o) ?_
  ((conv => whnf); repeat first | (refine Br.no ?_; conv => whnf) | (refine Br.yes ?_; conv => whnf) | (refine Pick.draw rfl (by kernel_rfl) ?_; conv => whnf) | (refine Pick.drawM (by kernel_rfl) ?_; conv => whnf) | (refine CallC.r ?_; conv => whnf))
  refine Br.mk (fun h => ?_) (fun h => ?_) <;> ((conv => whnf); repeat first | (refine Br.no ?_; conv => whnf) | (refine Br.yes ?_; conv => whnf) | (refine Pick.draw rfl (by kernel_rfl) ?_; conv => whnf) | (refine Pick.drawM (by kernel_rfl) ?_; conv => whnf) | (refine CallC.r ?_; conv => whnf))
  · simp at h
    have e : askC xs [n] = 1 := by simp [askC, h]
    rw [ancOf_no (by rw [e]; decide), e]
    exact ResOK.frz rfl rfl
  · simp at h
    refine Pick.mk _ (s_l27Number xs n) ?_
    ((conv => whnf); repeat first | (refine Br.no ?_; conv => whnf) | (refine Br.yes ?_; conv => whnf) | (refine Pick.draw rfl (by kernel_rfl) ?_; conv => whnf) | (refine Pick.drawM (by kernel_rfl) ?_; conv => whnf) | (refine CallC.r ?_; conv => whnf))
    refine Br.mk (fun h3 => ?_) (fun h3 => ?_) <;> ((conv => whnf); repeat first | (refine Br.no ?_; conv => whnf) | (refine Br.yes ?_; conv => whnf) | (refine Pick.draw rfl (by kernel_rfl) ?_; conv => whnf) | (refine Pick.drawM (by kernel_rfl) ?_; conv => whnf) | (refine CallC.r ?_; conv => whnf))
    · simp at h3
      have e : askC xs [n] = 3 := by simp [askC, h, h3]
      rw [ancOf_no (by rw [e]; decide), e]
      exact ResOK.frz rfl rfl
    · simp at h3
      have e : askC xs [n] = 0 := by simp [askC, h, h3]
      obtain ⟨hk, hn⟩ := askC_ok e
      have h1 := hn n (by simp)
      refine Pick.mk _ (s_l27Above xs hk n h1.1 h1.2) ?_
      ((conv => whnf); repeat first | (refine Br.no ?_; conv => whnf) | (refine Br.yes ?_; conv => whnf) | (refine Pick.draw rfl (by kernel_rfl) ?_; conv => whnf) | (refine Pick.drawM (by kernel_rfl) ?_; conv => whnf) | (refine CallC.r ?_; conv => whnf))
      rw [ancOf_ok e]
      exact ResOK.same rfl
end Go.Proofs.Ytjolahiflldepaa.Pi
