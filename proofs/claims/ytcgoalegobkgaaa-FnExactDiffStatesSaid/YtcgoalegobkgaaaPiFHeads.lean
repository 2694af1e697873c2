/- Versions that are asked for; the heads; the reference and the program. No statement of the seat is proved here. -/
import Derived.Test.YtcgoalegobkgaaaPiFValidHistory
import Derived.Test.YtcgoalegobkgaaaPiFSlices
namespace Go.Proofs.Ytcgoalegobkgaaa.Pi
open Go
set_option maxRecDepth 10000
set_option linter.unusedVariables false

def okNum (n : Nat) (x : Int) : Bool := decide (1 ≤ x) && decide (x ≤ (n : Int))
def askC (xs : List Version) (ns : List Int) : Int := if okHistory xs then (if ns.any (fun n => !okNum xs.length n) then 3 else 0) else 1

theorem okHistory_len {xs : List Version} (h : okHistory xs = true) : xs.length ≤ 32 := by
  simp only [okHistory, Bool.and_eq_true, decide_eq_true_eq] at h; exact h.2

theorem s_sizeVersion (xs : List Version) : Sat Try.prog 116 [(false, Enc.enc xs)] (.one (.c (.int .i64 xs.length)), []) := by
  have hl : (xs.map (Enc.enc (α := Version))).length = xs.length := by simp
  refine Sat.intro tok mixed Try.func116 rfl rfl ?_
  ((conv => whnf); repeat first | (refine Br.no ?_; conv => whnf) | (refine Br.yes ?_; conv => whnf) | (refine Pick.draw (by kernel_rfl) ?_; conv => whnf))
  exact ResOK.same (by rw [hl])

theorem s_versioned1 (xs : List Version) (x : Int) : Sat Try.prog 164 ((false, Enc.enc x) :: [CV.ptr 1 (Enc.enc xs)].map fun y => (false, [y])) (.one (.c (.bool (!okNum xs.length x))), []) := by
  refine Sat.intro tok mixed Try.func164 rfl rfl ?_
  ((conv => whnf); repeat first | (refine Br.no ?_; conv => whnf) | (refine Br.yes ?_; conv => whnf) | (refine Pick.draw (by kernel_rfl) ?_; conv => whnf))
  refine Pick.mk _ (s_sizeVersion xs) ?_
  ((conv => whnf); repeat first | (refine Br.no ?_; conv => whnf) | (refine Br.yes ?_; conv => whnf) | (refine Pick.draw (by kernel_rfl) ?_; conv => whnf))
  refine Pick.mk _ (s_within x 1 xs.length) ?_
  ((conv => whnf); repeat first | (refine Br.no ?_; conv => whnf) | (refine Br.yes ?_; conv => whnf) | (refine Pick.draw (by kernel_rfl) ?_; conv => whnf))
  exact ResOK.same rfl

theorem s_versioned (xs : List Version) (o : Enc.ok xs) (ns : List Int) (hn : ns.length ≤ maxLen) : Sat Try.prog 99 [(false, Enc.enc xs), (false, Enc.enc ns)] (.one (.c (.int .i64 (askC xs ns))), []) := by
  refine Sat.intro tok mixed Try.func99 rfl rfl ?_
  ((conv => whnf); repeat first | (refine Br.no ?_; conv => whnf) | (refine Br.yes ?_; conv => whnf) | (refine Pick.draw (by kernel_rfl) ?_; conv => whnf))
  refine Pick.mk _ (s_impl_ValidHistory xs o) ?_
  ((conv => whnf); repeat first | (refine Br.no ?_; conv => whnf) | (refine Br.yes ?_; conv => whnf) | (refine Pick.draw (by kernel_rfl) ?_; conv => whnf))
  refine Br.mk (fun h => ?_) (fun h => ?_) <;> ((conv => whnf); repeat first | (refine Br.no ?_; conv => whnf) | (refine Br.yes ?_; conv => whnf) | (refine Pick.draw (by kernel_rfl) ?_; conv => whnf))
  · simp at h
    exact ResOK.same (by simp [askC, h])
  · simp at h
    refine Pick.mk _ (s_ContainsFuncInt64 ns 164 [CV.ptr 1 (Enc.enc xs)] (fun n => !okNum xs.length n) hn fun x _ => s_versioned1 xs x) ?_
    ((conv => whnf); repeat first | (refine Br.no ?_; conv => whnf) | (refine Br.yes ?_; conv => whnf) | (refine Pick.draw (by kernel_rfl) ?_; conv => whnf))
    refine Br.mk (fun h2 => ?_) (fun h2 => ?_) <;> ((conv => whnf); repeat first | (refine Br.no ?_; conv => whnf) | (refine Br.yes ?_; conv => whnf) | (refine Pick.draw (by kernel_rfl) ?_; conv => whnf))
    · exact ResOK.same (by simp only [askC, h, h2, if_true])
    · exact ResOK.same (by simp only [askC, h, h2, if_true]; simp)

def isHead (xs : List Version) (v : Version) : Bool := !(xs.any fun w => w.parent == v.number)
def headsUp (xs : List Version) (i : Nat) : List Int := ((xs.take i).filter (isHead xs)).map (·.number)
def headsOf (xs : List Version) : List Int × Int := if okHistory xs then (headsUp xs xs.length, 0) else ([], 1)

theorem headsUp_zero (xs : List Version) : headsUp xs 0 = [] := by simp [headsUp]
theorem headsUp_yes (xs : List Version) (i : Nat) (h : i < xs.length) (hh : isHead xs xs[i] = true) : headsUp xs (i + 1) = headsUp xs i ++ [xs[i].number] := by
  simp only [headsUp, List.take_add_one, List.getElem?_eq_getElem h, Option.toList_some, List.filter_append, List.filter_cons, hh, if_true, List.filter_nil, List.map_append, List.map_cons, List.map_nil]
theorem headsUp_no (xs : List Version) (i : Nat) (h : i < xs.length) (hh : isHead xs xs[i] = false) : headsUp xs (i + 1) = headsUp xs i := by
  simp only [headsUp, List.take_add_one, List.getElem?_eq_getElem h, Option.toList_some, List.filter_append, List.filter_cons, hh, List.filter_nil, Bool.false_eq_true, if_false, List.append_nil]
theorem headsUp_len (xs : List Version) (i : Nat) : (headsUp xs i).length ≤ i := by
  simp only [headsUp, List.length_map]
  exact Nat.le_trans (List.length_filter_le _ _) (by simp; omega)

theorem s_HeadsOf1 (v w : Version) : Sat Try.prog 103 ((true, Enc.enc w) :: [CV.ptr 4 (Enc.enc v)].map fun y => (false, [y])) (.one (.c (.bool (w.parent == v.number))), []) := by
  refine Sat.intro tok mixed Try.func103 rfl rfl ?_
  ((conv => whnf); repeat first | (refine Br.no ?_; conv => whnf) | (refine Br.yes ?_; conv => whnf) | (refine Pick.draw (by kernel_rfl) ?_; conv => whnf))
  exact ResOK.same rfl

theorem s_impl_HeadsOf (xs : List Version) (o : Enc.ok xs) : Sat Try.prog 45 [(false, Enc.enc xs)] (.tup [(false, [.ds 0]), (false, [.c (.int .i64 (headsOf xs).2)])], [(0, .deep true 1 ((headsOf xs).1.map Enc.enc))]) := by
  have o1 := o.1
  simp only [maxLen] at o1
  have hl : (xs.map (Enc.enc (α := Version))).length = xs.length := by simp
  refine Sat.intro tok mixed Try.func45 rfl rfl ?_
  ((conv => whnf); repeat first | (refine Br.no ?_; conv => whnf) | (refine Br.yes ?_; conv => whnf) | (refine Pick.draw (by kernel_rfl) ?_; conv => whnf))
  refine Pick.mk _ (s_versioned xs o [] (by simp [maxLen])) ?_
  ((conv => whnf); repeat first | (refine Br.no ?_; conv => whnf) | (refine Br.yes ?_; conv => whnf) | (refine Pick.draw (by kernel_rfl) ?_; conv => whnf))
  refine Br.mk (fun h => ?_) (fun h => ?_) <;> ((conv => whnf); repeat first | (refine Br.no ?_; conv => whnf) | (refine Br.yes ?_; conv => whnf) | (refine Pick.draw (by kernel_rfl) ?_; conv => whnf))
  · simp at h
    have e : okHistory xs = false := by
      cases hh : okHistory xs with
      | false => rfl
      | true => simp [askC, hh] at h
    have ec : askC xs [] = 1 := by simp [askC, e]
    refine ResOK.deep (by rw [ec]; simp only [headsOf, e]; rfl) ?_
    exact ⟨by simp [flatRows], trivial⟩
  · simp at h
    have e : okHistory xs = true := by
      cases hh : okHistory xs with
      | true => rfl
      | false => simp [askC, hh] at h
    refine Pick.mk [0, 5, 13, 14, 15] trivial ?_
    ((conv => whnf); repeat first | (refine Br.no ?_; conv => whnf) | (refine Br.yes ?_; conv => whnf) | (refine Pick.draw (by kernel_rfl) ?_; conv => whnf))
    refine LoopL.run (fun i : Nat => St.mk [.one (.c (.slice 4 (xs.map Enc.enc))), .one .dead, .one .dead, .one .dead, .one .dead, .one (.rs 320), .one .dead, .one .dead, .one .dead, .one .dead, .one .dead, .one .dead, .one .dead, .one (.c (.slice 4 (xs.map Enc.enc))), .one (.c (.int .i64 (xs.map (Enc.enc (α := Version))).length)), .one (.c (.int .i64 i)), .one .dead, .one .dead, .one .dead, .one .dead, .one .dead, .one .dead, .one .dead, .one .dead, .one .dead, .one .dead, .one .dead, .one .dead, .one .dead, .one .dead] [(320, .arr 1 ((headsUp xs i).map Enc.enc))]) (fun i => xs.length - i) (fun i => i ≤ xs.length) ?_ 0 (Nat.zero_le _)
    intro i h2 ih
    ((conv => whnf); repeat first | (refine Br.no ?_; conv => whnf) | (refine Br.yes ?_; conv => whnf) | (refine Pick.draw (by kernel_rfl) ?_; conv => whnf))
    refine Br.mk (fun h => ?_) (fun h => ?_) <;> ((conv => whnf); repeat first | (refine Br.no ?_; conv => whnf) | (refine Br.yes ?_; conv => whnf) | (refine Pick.draw (by kernel_rfl) ?_; conv => whnf))
    · simp at h
      have hix := h
      have hlen := headsUp_len xs i
      have h32 := okHistory_len e
      refine Pick.ix hix ?_
      ((conv => whnf); repeat first | (refine Br.no ?_; conv => whnf) | (refine Br.yes ?_; conv => whnf) | (refine Pick.draw (by kernel_rfl) ?_; conv => whnf))
      refine Pick.mk _ (s_ContainsFuncVersion xs 103 [CV.ptr 4 (Enc.enc xs[i])] (fun w => w.parent == xs[i].number) o.1 fun w _ => s_HeadsOf1 xs[i] w) ?_
      ((conv => whnf); repeat first | (refine Br.no ?_; conv => whnf) | (refine Br.yes ?_; conv => whnf) | (refine Pick.draw (by kernel_rfl) ?_; conv => whnf))
      refine Br.mk (fun h3 => ?_) (fun h3 => ?_) <;> ((conv => whnf); repeat first | (refine Br.no ?_; conv => whnf) | (refine Br.yes ?_; conv => whnf) | (refine Pick.draw (by kernel_rfl) ?_; conv => whnf))
      · have hh : isHead xs xs[i] = true := h3
        refine Side.mk (by simp only [List.length_map, List.length_cons, List.length_nil]; omega) ?_
        ((conv => whnf); repeat first | (refine Br.no ?_; conv => whnf) | (refine Br.yes ?_; conv => whnf) | (refine Pick.draw (by kernel_rfl) ?_; conv => whnf))
        refine Pick.at64 (z := (i + 1 : Nat)) (by simp) (by omega) ?_
        ((conv => whnf); repeat first | (refine Br.no ?_; conv => whnf) | (refine Br.yes ?_; conv => whnf) | (refine Pick.draw (by kernel_rfl) ?_; conv => whnf))
        refine cast (congrArg (fun r => LoopL _ _ _ ⟨_, [(_, .arr 1 r)]⟩) ?_) (ih (i + 1) (by omega) (by omega))
        rw [headsUp_yes xs i hix hh, List.map_append]; rfl
      · have hh : isHead xs xs[i] = false := h3
        refine Pick.at64 (z := (i + 1 : Nat)) (by simp) (by omega) ?_
        ((conv => whnf); repeat first | (refine Br.no ?_; conv => whnf) | (refine Br.yes ?_; conv => whnf) | (refine Pick.draw (by kernel_rfl) ?_; conv => whnf))
        refine cast (congrArg (fun r => LoopL _ _ _ ⟨_, [(_, .arr 1 r)]⟩) ?_) (ih (i + 1) (by omega) (by omega))
        rw [headsUp_no xs i hix hh]
    · simp at h
      have hi : i = xs.length := by omega
      subst hi
      refine ResOK.deep (by simp only [headsOf, e, if_true]; rfl) ?_
      refine ⟨fun r hr c hc => ?_, trivial⟩
      obtain ⟨x, _, rfl⟩ := List.mem_map.1 hr
      have : c = .int .i64 x := by simpa [Enc.enc] using hc
      subst this; rfl

theorem s_spec_HeadsOf (xs : List Version) (o : Enc.ok xs) : Sat Try.prog 44 [(false, Enc.enc xs)] (.tup [(false, [.c (.slice 1 ((headsOf xs).1.map Enc.enc))]), (false, [.c (.int .i64 (headsOf xs).2)])], []) := by
  have o1 := o.1
  simp only [maxLen] at o1
  have hl : (xs.map (Enc.enc (α := Version))).length = xs.length := by simp
  refine Sat.intro tok mixed Try.func44 rfl rfl ?_
  ((conv => whnf); repeat first | (refine Br.no ?_; conv => whnf) | (refine Br.yes ?_; conv => whnf) | (refine Pick.draw (by kernel_rfl) ?_; conv => whnf))
  refine Pick.mk _ (s_l27Ok xs o) ?_
  ((conv => whnf); repeat first | (refine Br.no ?_; conv => whnf) | (refine Br.yes ?_; conv => whnf) | (refine Pick.draw (by kernel_rfl) ?_; conv => whnf))
  refine Br.mk (fun h => ?_) (fun h => ?_) <;> ((conv => whnf); repeat first | (refine Br.no ?_; conv => whnf) | (refine Br.yes ?_; conv => whnf) | (refine Pick.draw (by kernel_rfl) ?_; conv => whnf))
  · simp at h
    exact ResOK.frz (by simp only [headsOf, h]; rfl) rfl
  · simp at h
    have e := h
    have h32 := okHistory_len e
    refine Pick.mk [0, 4, 5] trivial ?_
    ((conv => whnf); repeat first | (refine Br.no ?_; conv => whnf) | (refine Br.yes ?_; conv => whnf) | (refine Pick.draw (by kernel_rfl) ?_; conv => whnf))
    refine LoopL.run (fun i : Nat => St.mk [.one (.c (.slice 4 (xs.map Enc.enc))), .one .dead, .one .dead, .one .dead, .one (.rs 256), .one (.c (.int .i64 i)), .one .dead, .one .dead, .one .dead, .one .dead, .one .dead, .one .dead, .one .dead, .one .dead, .one .dead, .one .dead, .one .dead, .one .dead, .one .dead, .one .dead, .one .dead, .one .dead, .one .dead, .one .dead, .one .dead, .one .dead, .one .dead, .one .dead, .one .dead, .one .dead, .one .dead, .one .dead, .one .dead, .one .dead, .one .dead, .one .dead, .one .dead, .one .dead, .one .dead, .one .dead, .one .dead, .one .dead, .one .dead, .one .dead, .one .dead, .one .dead, .one .dead, .one .dead] [(256, .arr 1 ((headsUp xs i).map Enc.enc))]) (fun i => xs.length - i) (fun i => i ≤ xs.length) ?_ 0 (Nat.zero_le _)
    intro i h2 ih
    ((conv => whnf); repeat first | (refine Br.no ?_; conv => whnf) | (refine Br.yes ?_; conv => whnf) | (refine Pick.draw (by kernel_rfl) ?_; conv => whnf))
    refine Br.mk (fun h => ?_) (fun h => ?_) <;> ((conv => whnf); repeat first | (refine Br.no ?_; conv => whnf) | (refine Br.yes ?_; conv => whnf) | (refine Pick.draw (by kernel_rfl) ?_; conv => whnf))
    · simp at h
      have hix := h
      have hlen := headsUp_len xs i
      refine Pick.mk [0, 4, 5, 6, 7] trivial ?_
      ((conv => whnf); repeat first | (refine Br.no ?_; conv => whnf) | (refine Br.yes ?_; conv => whnf) | (refine Pick.draw (by kernel_rfl) ?_; conv => whnf))
      refine LoopL.run (fun k : Nat => St.mk [.one (.c (.slice 4 (xs.map Enc.enc))), .one .dead, .one .dead, .one .dead, .one (.rs 256), .one (.c (.int .i64 i)), .one (.c (.bool (!((xs.take k).any fun w => w.parent == xs[i].number)))), .one (.c (.int .i64 k)), .one .dead, .one .dead, .one .dead, .one .dead, .one .dead, .one .dead, .one .dead, .one .dead, .one .dead, .one .dead, .one .dead, .one .dead, .one .dead, .one .dead, .one .dead, .one .dead, .one .dead, .one .dead, .one .dead, .one .dead, .one .dead, .one .dead, .one .dead, .one .dead, .one .dead, .one .dead, .one .dead, .one .dead, .one .dead, .one .dead, .one .dead, .one .dead, .one .dead, .one .dead, .one .dead, .one .dead, .one .dead, .one .dead, .one .dead, .one .dead] [(256, .arr 1 ((headsUp xs i).map Enc.enc))]) (fun k => xs.length - k) (fun k => k ≤ xs.length) ?_ 0 (Nat.zero_le _)
      intro k h4 ih2
      have hnext : ∀ (h : k < xs.length), (xs.take (k + 1)).any (fun w => w.parent == xs[i].number) = ((xs.take k).any (fun w => w.parent == xs[i].number) || (xs[k].parent == xs[i].number)) := fun h => by
        rw [List.take_add_one, List.getElem?_eq_getElem h]
        simp only [Option.toList_some, List.any_append, List.any_cons, List.any_nil, Bool.or_false]
      ((conv => whnf); repeat first | (refine Br.no ?_; conv => whnf) | (refine Br.yes ?_; conv => whnf) | (refine Pick.draw (by kernel_rfl) ?_; conv => whnf))
      refine Br.mk (fun h => ?_) (fun h => ?_) <;> ((conv => whnf); repeat first | (refine Br.no ?_; conv => whnf) | (refine Br.yes ?_; conv => whnf) | (refine Pick.draw (by kernel_rfl) ?_; conv => whnf))
      · simp at h
        have hn := hnext h
        refine Br.mk (fun h5 => ?_) (fun h5 => ?_) <;> ((conv => whnf); repeat first | (refine Br.no ?_; conv => whnf) | (refine Br.yes ?_; conv => whnf) | (refine Pick.draw (by kernel_rfl) ?_; conv => whnf))
        · simp only [Bool.not_eq_true'] at h5
          refine Pick.ix h ?_
          ((conv => whnf); repeat first | (refine Br.no ?_; conv => whnf) | (refine Br.yes ?_; conv => whnf) | (refine Pick.draw (by kernel_rfl) ?_; conv => whnf))
          refine Pick.ix hix ?_
          ((conv => whnf); repeat first | (refine Br.no ?_; conv => whnf) | (refine Br.yes ?_; conv => whnf) | (refine Pick.draw (by kernel_rfl) ?_; conv => whnf))
          refine Pick.at64 (z := (k + 1 : Nat)) (by simp) (by omega) ?_
          ((conv => whnf); repeat first | (refine Br.no ?_; conv => whnf) | (refine Br.yes ?_; conv => whnf) | (refine Pick.draw (by kernel_rfl) ?_; conv => whnf))
          have hnn := ih2 (k + 1) (by omega) (by omega)
          rw [hn, h5, Bool.false_or] at hnn
          exact hnn
        · simp only [Bool.not_eq_false'] at h5
          refine Pick.at64 (z := (k + 1 : Nat)) (by simp) (by omega) ?_
          ((conv => whnf); repeat first | (refine Br.no ?_; conv => whnf) | (refine Br.yes ?_; conv => whnf) | (refine Pick.draw (by kernel_rfl) ?_; conv => whnf))
          have hnn := ih2 (k + 1) (by omega) (by omega)
          rw [hn, h5, Bool.true_or] at hnn
          exact hnn
      · simp at h
        have hk : k = xs.length := by omega
        subst hk
        rw [List.take_length]
        refine Br.mk (fun h3 => ?_) (fun h3 => ?_) <;> ((conv => whnf); repeat first | (refine Br.no ?_; conv => whnf) | (refine Br.yes ?_; conv => whnf) | (refine Pick.draw (by kernel_rfl) ?_; conv => whnf))
        · have hh : isHead xs xs[i] = true := h3
          refine Pick.ix hix ?_
          ((conv => whnf); repeat first | (refine Br.no ?_; conv => whnf) | (refine Br.yes ?_; conv => whnf) | (refine Pick.draw (by kernel_rfl) ?_; conv => whnf))
          refine Side.mk (by simp only [List.length_map, List.length_cons, List.length_nil]; omega) ?_
          ((conv => whnf); repeat first | (refine Br.no ?_; conv => whnf) | (refine Br.yes ?_; conv => whnf) | (refine Pick.draw (by kernel_rfl) ?_; conv => whnf))
          refine Pick.at64 (z := (i + 1 : Nat)) (by simp) (by omega) ?_
          ((conv => whnf); repeat first | (refine Br.no ?_; conv => whnf) | (refine Br.yes ?_; conv => whnf) | (refine Pick.draw (by kernel_rfl) ?_; conv => whnf))
          refine cast (congrArg (fun r => LoopL _ _ _ ⟨_, [(_, .arr 1 r)]⟩) ?_) (ih (i + 1) (by omega) (by omega))
          rw [headsUp_yes xs i hix hh, List.map_append]; rfl
        · have hh : isHead xs xs[i] = false := h3
          refine Pick.at64 (z := (i + 1 : Nat)) (by simp) (by omega) ?_
          ((conv => whnf); repeat first | (refine Br.no ?_; conv => whnf) | (refine Br.yes ?_; conv => whnf) | (refine Pick.draw (by kernel_rfl) ?_; conv => whnf))
          refine cast (congrArg (fun r => LoopL _ _ _ ⟨_, [(_, .arr 1 r)]⟩) ?_) (ih (i + 1) (by omega) (by omega))
          rw [headsUp_no xs i hix hh]
    · simp at h
      have hi : i = xs.length := by omega
      subst hi
      exact ResOK.frz (by simp only [headsOf, e, if_true]; rfl) rfl

theorem headsOf_wt (xs : List Version) : Enc.wt (headsOf xs).1 ≤ 32 := by
  rw [wt_list, wt_ints]
  unfold headsOf
  split
  · rename_i h
    have := headsUp_len xs xs.length
    have := okHistory_len h
    simp only; omega
  · simp

end Go.Proofs.Ytcgoalegobkgaaa.Pi
