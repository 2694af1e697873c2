/- Undoing a version; the reference and the program. No statement of the seat is proved here. -/
import Derived.Test.YtjolahiflldepaaDoorPiFDecS
import Derived.Test.YtjolahiflldepaaDoorPiFCommit
import Derived.Test.YtjolahiflldepaaDoorPiFLine
namespace Go.Proofs.YtjolahiflldepaaDoor.Pi
open Go
set_option maxRecDepth 10000
set_option maxHeartbeats 1600000
set_option linter.unusedVariables false

def stV (xs : List Version) (p : Int) : List Setting := if p = 0 then [] else match xs[(p - 1).toNat]? with | some v => v.state | none => []
def undoMemo (n : Nat) : ByteArray := ByteArray.mk #[117, 110, 100, 111, 32] ++ decB n
def undoOf (xs : List Version) (n : Int) : List Version × Int := if askC xs [n] = 0 then added xs n (undoMemo n.toNat) (stV xs (up xs n)) else ([], askC xs [n])

theorem decB_size (n : Nat) : (decB n).size ≤ 2 := by
  unfold decB; split <;> simp [ByteArray.size]
theorem s_stateOf (xs : List Version) (p : Int) (h32 : xs.length ≤ 32) (h0 : 0 ≤ p) (h1 : p ≤ xs.length) : Sat Tryd.prog 49 [(false, Enc.enc xs), (false, [.int .i64 p])] (.one (.c (.slice 2 ((stV xs p).map Enc.enc))), []) := by
  refine Sat.intro tok mixed Tryd.func49 rfl rfl ?_
  ((conv => whnf); repeat first | (refine Br.no ?_; conv => whnf) | (refine Br.yes ?_; conv => whnf) | (refine Pick.draw rfl (by kernel_rfl) ?_; conv => whnf) | (refine Pick.drawM (by kernel_rfl) ?_; conv => whnf) | (refine CallC.r ?_; conv => whnf))
  refine Br.mk (fun h => ?_) (fun h => ?_) <;> ((conv => whnf); repeat first | (refine Br.no ?_; conv => whnf) | (refine Br.yes ?_; conv => whnf) | (refine Pick.draw rfl (by kernel_rfl) ?_; conv => whnf) | (refine Pick.drawM (by kernel_rfl) ?_; conv => whnf) | (refine CallC.r ?_; conv => whnf))
  · simp at h
    subst h
    exact ResOK.frz rfl rfl
  · simp at h
    have hix : (p - 1).toNat < xs.length := by omega
    refine Pick.at64 (z := p - 1) rfl (by omega) ?_
    ((conv => whnf); repeat first | (refine Br.no ?_; conv => whnf) | (refine Br.yes ?_; conv => whnf) | (refine Pick.draw rfl (by kernel_rfl) ?_; conv => whnf) | (refine Pick.drawM (by kernel_rfl) ?_; conv => whnf) | (refine CallC.r ?_; conv => whnf))
    refine Pick.mk (Enc.enc xs[(p - 1).toNat]) ⟨by omega, by rw [List.getElem?_map, List.getElem?_eq_getElem hix]; rfl⟩ ?_
    ((conv => whnf); repeat first | (refine Br.no ?_; conv => whnf) | (refine Br.yes ?_; conv => whnf) | (refine Pick.draw rfl (by kernel_rfl) ?_; conv => whnf) | (refine Pick.drawM (by kernel_rfl) ?_; conv => whnf) | (refine CallC.r ?_; conv => whnf))
    exact ResOK.same (by rw [stV, if_neg h, List.getElem?_eq_getElem hix])
theorem s_l27StateOf (xs : List Version) (p : Int) (h32 : xs.length ≤ 32) (h0 : 0 ≤ p) (h1 : p ≤ xs.length) : Sat Tryd.prog 46 [(false, Enc.enc xs), (false, [.int .i64 p])] (.one (.c (.slice 2 ((stV xs p).map Enc.enc))), []) := by
  refine Sat.intro tok mixed Tryd.func46 rfl rfl ?_
  ((conv => whnf); repeat first | (refine Br.no ?_; conv => whnf) | (refine Br.yes ?_; conv => whnf) | (refine Pick.draw rfl (by kernel_rfl) ?_; conv => whnf) | (refine Pick.drawM (by kernel_rfl) ?_; conv => whnf) | (refine CallC.r ?_; conv => whnf))
  refine Br.mk (fun h => ?_) (fun h => ?_) <;> ((conv => whnf); repeat first | (refine Br.no ?_; conv => whnf) | (refine Br.yes ?_; conv => whnf) | (refine Pick.draw rfl (by kernel_rfl) ?_; conv => whnf) | (refine Pick.drawM (by kernel_rfl) ?_; conv => whnf) | (refine CallC.r ?_; conv => whnf))
  · simp at h
    subst h
    exact ResOK.frz rfl rfl
  · simp at h
    have hix : (p - 1).toNat < xs.length := by omega
    refine Pick.at64 (z := p - 1) rfl (by omega) ?_
    ((conv => whnf); repeat first | (refine Br.no ?_; conv => whnf) | (refine Br.yes ?_; conv => whnf) | (refine Pick.draw rfl (by kernel_rfl) ?_; conv => whnf) | (refine Pick.drawM (by kernel_rfl) ?_; conv => whnf) | (refine CallC.r ?_; conv => whnf))
    refine Pick.mk (Enc.enc xs[(p - 1).toNat]) ⟨by omega, by rw [List.getElem?_map, List.getElem?_eq_getElem hix]; rfl⟩ ?_
    ((conv => whnf); repeat first | (refine Br.no ?_; conv => whnf) | (refine Br.yes ?_; conv => whnf) | (refine Pick.draw rfl (by kernel_rfl) ?_; conv => whnf) | (refine Pick.drawM (by kernel_rfl) ?_; conv => whnf) | (refine CallC.r ?_; conv => whnf))
    exact ResOK.same (by rw [stV, if_neg h, List.getElem?_eq_getElem hix])

theorem stV_len {xs : List Version} (hb : Enc.wt xs ≤ 1048576) (p : Int) : (stV xs p).length ≤ 1048576 := by
  unfold stV
  split
  · simp
  · split
    · rename_i v hv
      obtain ⟨hi, rfl⟩ := List.getElem?_eq_some_iff.1 hv
      have hw := wt_get xs _ hi
      have hw2 : Enc.wt xs[(p - 1).toNat] = Enc.wt xs[(p - 1).toNat].number + Enc.wt xs[(p - 1).toNat].parent + Enc.wt xs[(p - 1).toNat].memo + Enc.wt xs[(p - 1).toNat].state := rfl
      have hw3 := lenwt_list xs[(p - 1).toNat].state
      omega
    · simp

theorem s_impl_UndoVersion (xs : List Version) (o : Enc.ok xs) (hb : Enc.wt xs ≤ 1048576) (n : Int) : Sat Tryd.prog 19 [(false, Enc.enc xs), (false, [.int .i64 n])]
    (.tup [(false, [.ds 0]), (false, [.c (.int .i64 (undoOf xs n).2)])], [(0, .deep true 4 ((undoOf xs n).1.map Enc.enc))]) := by
  refine Sat.intro tok mixed Tryd.func19 rfl rfl ?_
  ((conv => whnf); repeat first | (refine Br.no ?_; conv => whnf) | (refine Br.yes ?_; conv => whnf) | (refine Pick.draw rfl (by kernel_rfl) ?_; conv => whnf) | (refine Pick.drawM (by kernel_rfl) ?_; conv => whnf) | (refine CallC.r ?_; conv => whnf))
  refine Pick.mk _ (s_versioned xs o [n] (by simp [maxLen])) ?_
  ((conv => whnf); repeat first | (refine Br.no ?_; conv => whnf) | (refine Br.yes ?_; conv => whnf) | (refine Pick.draw rfl (by kernel_rfl) ?_; conv => whnf) | (refine Pick.drawM (by kernel_rfl) ?_; conv => whnf) | (refine CallC.r ?_; conv => whnf))
  refine Br.mk (fun h => ?_) (fun h => ?_)
  · ((conv => whnf); repeat first | (refine Br.no ?_; conv => whnf) | (refine Br.yes ?_; conv => whnf) | (refine Pick.draw rfl (by kernel_rfl) ?_; conv => whnf) | (refine Pick.drawM (by kernel_rfl) ?_; conv => whnf) | (refine CallC.r ?_; conv => whnf))
    simp at h
    rw [show undoOf xs n = ([], askC xs [n]) by rw [undoOf, if_neg h]]
    exact ResOK.own rfl ⟨(fun r hr => nomatch hr), trivial⟩
  · simp at h
    obtain ⟨hk, hn⟩ := askC_ok h
    have h1 := hn n (by simp)
    have h32 := okHistory_len hk
    obtain ⟨hix, e⟩ := up_at (xs := xs) (n := n) h1.1 h1.2
    obtain ⟨g1, g2⟩ := up_ok hk h1.1 h1.2
    have hd := s_Decimal n.toNat (by omega)
    rw [show ((n.toNat : Nat) : Int) = n by omega] at hd
    have hst := s_stateOf xs (up xs n) h32 g1 (by omega)
    rw [e] at hst
    have hc := s_commit xs hk hb n (undoMemo n.toNat) (stV xs (up xs n)) (stV_len hb _)
    rw [show undoOf xs n = added xs n (undoMemo n.toNat) (stV xs (up xs n)) by rw [undoOf, if_pos h]]
    rw [e] at hc ⊢
    ((conv => whnf); repeat first | (refine Br.no ?_; conv => whnf) | (refine Br.yes ?_; conv => whnf) | (refine CallC.r ?_; conv => whnf))
    refine Pick.drawC 13 (by kernel_rfl) ?_
    ((conv => whnf); repeat first | (refine Br.no ?_; conv => whnf) | (refine Br.yes ?_; conv => whnf) | (refine Pick.draw rfl (by kernel_rfl) ?_; conv => whnf) | (refine Pick.drawM (by kernel_rfl) ?_; conv => whnf) | (refine CallC.r ?_; conv => whnf))
    refine Pick.mk _ hd ?_
    ((conv => whnf); repeat first | (refine Br.no ?_; conv => whnf) | (refine Br.yes ?_; conv => whnf) | (refine Pick.draw rfl (by kernel_rfl) ?_; conv => whnf) | (refine Pick.drawM (by kernel_rfl) ?_; conv => whnf) | (refine CallC.r ?_; conv => whnf))
    refine Side.mk (by have := decB_size n.toNat; have h9 : IntKind.i64.max = 9223372036854775807 := rfl; rw [h9]; show ((5 + (decB n.toNat).size : Nat) : Int) ≤ _; omega) ?_
    ((conv => whnf); repeat first | (refine Br.no ?_; conv => whnf) | (refine Br.yes ?_; conv => whnf) | (refine Pick.draw rfl (by kernel_rfl) ?_; conv => whnf) | (refine Pick.drawM (by kernel_rfl) ?_; conv => whnf) | (refine CallC.r ?_; conv => whnf))
    refine Pick.at64 (z := n - 1) rfl (by omega) ?_
    ((conv => whnf); repeat first | (refine Br.no ?_; conv => whnf) | (refine Br.yes ?_; conv => whnf) | (refine Pick.draw rfl (by kernel_rfl) ?_; conv => whnf) | (refine Pick.drawM (by kernel_rfl) ?_; conv => whnf) | (refine CallC.r ?_; conv => whnf))
    refine Pick.mk (Enc.enc xs[(n - 1).toNat]) ⟨by omega, by rw [List.getElem?_map, List.getElem?_eq_getElem hix]; rfl⟩ ?_
    ((conv => whnf); repeat first | (refine Br.no ?_; conv => whnf) | (refine Br.yes ?_; conv => whnf) | (refine Pick.draw rfl (by kernel_rfl) ?_; conv => whnf) | (refine Pick.drawM (by kernel_rfl) ?_; conv => whnf) | (refine CallC.r ?_; conv => whnf))
    refine Pick.mk _ (hst) ?_
    ((conv => whnf); repeat first | (refine Br.no ?_; conv => whnf) | (refine Br.yes ?_; conv => whnf) | (refine Pick.draw rfl (by kernel_rfl) ?_; conv => whnf) | (refine Pick.drawM (by kernel_rfl) ?_; conv => whnf) | (refine CallC.r ?_; conv => whnf))
    refine Pick.mk _ (hc) ?_
    ((conv => whnf); repeat first | (refine Br.no ?_; conv => whnf) | (refine Br.yes ?_; conv => whnf) | (refine Pick.draw rfl (by kernel_rfl) ?_; conv => whnf) | (refine Pick.drawM (by kernel_rfl) ?_; conv => whnf) | (refine CallC.r ?_; conv => whnf))
    exact ResOK.same rfl

theorem s_spec_UndoVersion (xs : List Version) (o : Enc.ok xs) (hb : Enc.wt xs ≤ 1048576) (n : Int) : Sat Tryd.prog 17 [(false, Enc.enc xs), (false, [.int .i64 n])]
    (.tup [(false, [.c (.slice 4 ((undoOf xs n).1.map Enc.enc))]), (false, [.c (.int .i64 (undoOf xs n).2)])], []) := by
  refine Sat.intro tok mixed Tryd.func17 rfl rfl ?_
  ((conv => whnf); repeat first | (refine Br.no ?_; conv => whnf) | (refine Br.yes ?_; conv => whnf) | (refine Pick.draw rfl (by kernel_rfl) ?_; conv => whnf) | (refine Pick.drawM (by kernel_rfl) ?_; conv => whnf) | (refine CallC.r ?_; conv => whnf))
  refine Pick.mk _ (s_l27Ok xs o) ?_
  ((conv => whnf); repeat first | (refine Br.no ?_; conv => whnf) | (refine Br.yes ?_; conv => whnf) | (refine Pick.draw rfl (by kernel_rfl) ?_; conv => whnf) | (refine Pick.drawM (by kernel_rfl) ?_; conv => whnf) | (refine CallC.r ?_; conv => whnf))
  refine Br.mk (fun h => ?_) (fun h => ?_) <;> ((conv => whnf); repeat first | (refine Br.no ?_; conv => whnf) | (refine Br.yes ?_; conv => whnf) | (refine Pick.draw rfl (by kernel_rfl) ?_; conv => whnf) | (refine Pick.drawM (by kernel_rfl) ?_; conv => whnf) | (refine CallC.r ?_; conv => whnf))
  · simp at h
    have e : askC xs [n] = 1 := by simp [askC, h]
    rw [show undoOf xs n = ([], 1) by rw [undoOf, e, if_neg (by decide)]]
    exact ResOK.frz rfl rfl
  · simp at h
    refine Pick.mk _ (s_l27Number xs n) ?_
    ((conv => whnf); repeat first | (refine Br.no ?_; conv => whnf) | (refine Br.yes ?_; conv => whnf) | (refine Pick.draw rfl (by kernel_rfl) ?_; conv => whnf) | (refine Pick.drawM (by kernel_rfl) ?_; conv => whnf) | (refine CallC.r ?_; conv => whnf))
    refine Br.mk (fun h3 => ?_) (fun h3 => ?_) <;> ((conv => whnf); repeat first | (refine Br.no ?_; conv => whnf) | (refine Br.yes ?_; conv => whnf) | (refine Pick.draw rfl (by kernel_rfl) ?_; conv => whnf) | (refine Pick.drawM (by kernel_rfl) ?_; conv => whnf) | (refine CallC.r ?_; conv => whnf))
    · simp at h3
      have e : askC xs [n] = 3 := by simp [askC, h, h3]
      rw [show undoOf xs n = ([], 3) by rw [undoOf, e, if_neg (by decide)]]
      exact ResOK.frz rfl rfl
    · simp at h3
      have h0 : askC xs [n] = 0 := by simp [askC, h, h3]
      obtain ⟨hk, hn⟩ := askC_ok h0
      have h1 := hn n (by simp)
      have h32 := okHistory_len hk
      obtain ⟨hix, e⟩ := up_at (xs := xs) (n := n) h1.1 h1.2
      obtain ⟨g1, g2⟩ := up_ok hk h1.1 h1.2
      have hd := s_l01Dec n.toNat (by omega) (by omega)
      rw [show ((n.toNat : Nat) : Int) = n by omega] at hd
      have hst := s_l27StateOf xs (up xs n) h32 g1 (by omega)
      have hc := s_l27Add xs hk hb n (undoMemo n.toNat) (stV xs (up xs n)) (stV_len hb _)
      rw [show undoOf xs n = added xs n (undoMemo n.toNat) (stV xs (up xs n)) by rw [undoOf, if_pos h0]]
      rw [e] at hc hst ⊢
      refine Pick.mk _ hd ?_
      ((conv => whnf); repeat first | (refine Br.no ?_; conv => whnf) | (refine Br.yes ?_; conv => whnf) | (refine Pick.draw rfl (by kernel_rfl) ?_; conv => whnf) | (refine Pick.drawM (by kernel_rfl) ?_; conv => whnf) | (refine CallC.r ?_; conv => whnf))
      refine Side.mk (by have := decB_size n.toNat; have h9 : IntKind.i64.max = 9223372036854775807 := rfl; rw [h9]; show ((5 + (decB n.toNat).size : Nat) : Int) ≤ _; omega) ?_
      ((conv => whnf); repeat first | (refine Br.no ?_; conv => whnf) | (refine Br.yes ?_; conv => whnf) | (refine Pick.draw rfl (by kernel_rfl) ?_; conv => whnf) | (refine Pick.drawM (by kernel_rfl) ?_; conv => whnf) | (refine CallC.r ?_; conv => whnf))
      refine Pick.at64 (z := n - 1) rfl (by omega) ?_
      ((conv => whnf); repeat first | (refine Br.no ?_; conv => whnf) | (refine Br.yes ?_; conv => whnf) | (refine Pick.draw rfl (by kernel_rfl) ?_; conv => whnf) | (refine Pick.drawM (by kernel_rfl) ?_; conv => whnf) | (refine CallC.r ?_; conv => whnf))
      refine Pick.mk (Enc.enc xs[(n - 1).toNat]) ⟨by omega, by rw [List.getElem?_map, List.getElem?_eq_getElem hix]; rfl⟩ ?_
      ((conv => whnf); repeat first | (refine Br.no ?_; conv => whnf) | (refine Br.yes ?_; conv => whnf) | (refine Pick.draw rfl (by kernel_rfl) ?_; conv => whnf) | (refine Pick.drawM (by kernel_rfl) ?_; conv => whnf) | (refine CallC.r ?_; conv => whnf))
      refine Pick.mk _ (hst) ?_
      ((conv => whnf); repeat first | (refine Br.no ?_; conv => whnf) | (refine Br.yes ?_; conv => whnf) | (refine Pick.draw rfl (by kernel_rfl) ?_; conv => whnf) | (refine Pick.drawM (by kernel_rfl) ?_; conv => whnf) | (refine CallC.r ?_; conv => whnf))
      refine Pick.mk _ (hc) ?_
      ((conv => whnf); repeat first | (refine Br.no ?_; conv => whnf) | (refine Br.yes ?_; conv => whnf) | (refine Pick.draw rfl (by kernel_rfl) ?_; conv => whnf) | (refine Pick.drawM (by kernel_rfl) ?_; conv => whnf) | (refine CallC.r ?_; conv => whnf))
      exact ResOK.same rfl
end Go.Proofs.YtjolahiflldepaaDoor.Pi
