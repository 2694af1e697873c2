/- Versions that are asked for; the heads; the reference and the program. No statement of the seat is proved here. -/
import Derived.Test.YtjolahiflldepabPiFValidHistory
import Derived.Test.YtjolahiflldepabPiFSlices
namespace Go.Proofs.Ytjolahiflldepab.Pi
open Go
set_option maxRecDepth 10000
set_option linter.unusedVariables false

def okNum (n : Nat) (x : Int) : Bool := decide (1 ≤ x) && decide (x ≤ (n : Int))
def askC (xs : List Version) (ns : List Int) : Int := if okHistory xs then (if ns.any (fun n => !okNum xs.length n) then 3 else 0) else 1

theorem okHistory_len {xs : List Version} (h : okHistory xs = true) : xs.length ≤ 32 := by
  simp only [okHistory, Bool.and_eq_true, decide_eq_true_eq] at h; exact h.2

theorem s_sizeVersion (xs : List Version) : Sat Try.prog 103 [(false, Enc.enc xs)] (.one (.c (.int .i64 xs.length)), []) := by
  have hl : (xs.map (Enc.enc (α := Version))).length = xs.length := by simp
  refine Sat.intro tok mixed Try.func103 rfl rfl ?_
  ((conv => whnf); repeat ((first | refine B0 ?_ | refine B1 ?_ | refine D1 ?_ | refine D2 ?_ | refine CallC.r ?_); conv => whnf))
  exact ResOK.same (by rw [hl])

theorem s_versioned1 (xs : List Version) (x : Int) : Sat Try.prog 102 ((false, Enc.enc x) :: [CV.ptr 1 (Enc.enc xs)].map fun y => (false, [y])) (.one (.c (.bool (!okNum xs.length x))), []) := by
  refine Sat.intro tok mixed Try.func102 rfl rfl ?_
  ((conv => whnf); repeat ((first | refine B0 ?_ | refine B1 ?_ | refine D1 ?_ | refine D2 ?_ | refine CallC.r ?_); conv => whnf))
  refine Pick.mk _ (s_sizeVersion xs) ?_
  ((conv => whnf); repeat ((first | refine B0 ?_ | refine B1 ?_ | refine D1 ?_ | refine D2 ?_ | refine CallC.r ?_); conv => whnf))
  refine Pick.mk _ (s_within x 1 xs.length) ?_
  ((conv => whnf); repeat ((first | refine B0 ?_ | refine B1 ?_ | refine D1 ?_ | refine D2 ?_ | refine CallC.r ?_); conv => whnf))
  exact ResOK.same rfl

theorem s_versioned (xs : List Version) (o : Enc.ok xs) (ns : List Int) (hn : ns.length ≤ maxLen) : Sat Try.prog 61 [(false, Enc.enc xs), (false, Enc.enc ns)] (.one (.c (.int .i64 (askC xs ns))), []) := by
  refine Sat.intro tok mixed Try.func61 rfl rfl ?_
  ((conv => whnf); repeat ((first | refine B0 ?_ | refine B1 ?_ | refine D1 ?_ | refine D2 ?_ | refine CallC.r ?_); conv => whnf))
  refine Pick.mk _ (s_impl_ValidHistory xs o) ?_
  ((conv => whnf); repeat ((first | refine B0 ?_ | refine B1 ?_ | refine D1 ?_ | refine D2 ?_ | refine CallC.r ?_); conv => whnf))
  refine Br.mk (fun h => ?_) (fun h => ?_) <;> ((conv => whnf); repeat ((first | refine B0 ?_ | refine B1 ?_ | refine D1 ?_ | refine D2 ?_ | refine CallC.r ?_); conv => whnf))
  · simp at h
    exact ResOK.same (by simp [askC, h])
  · simp at h
    refine Pick.mk _ (s_ContainsFuncInt64 ns 102 [CV.ptr 1 (Enc.enc xs)] (fun n => !okNum xs.length n) hn fun x _ => s_versioned1 xs x) ?_
    ((conv => whnf); repeat ((first | refine B0 ?_ | refine B1 ?_ | refine D1 ?_ | refine D2 ?_ | refine CallC.r ?_); conv => whnf))
    refine Br.mk (fun h2 => ?_) (fun h2 => ?_) <;> ((conv => whnf); repeat ((first | refine B0 ?_ | refine B1 ?_ | refine D1 ?_ | refine D2 ?_ | refine CallC.r ?_); conv => whnf))
    · exact ResOK.same (by simp only [askC, h, h2, if_true])
    · exact ResOK.same (by simp only [askC, h, h2, if_true]; simp)

def isHead (xs : List Version) (v : Version) : Bool := !(xs.any fun w => w.parent == v.number)
def headsUp (xs : List Version) (i : Nat) : List Int := ((xs.take i).filter (isHead xs)).map (·.number)
def headsOf (xs : List Version) : List Int × Int := if okHistory xs then (headsUp xs xs.length, 0) else ([], 1)

theorem headsUp_zero (xs : List Version) : headsUp xs 0 = [] := by simp [headsUp]
theorem headsUp_yes (xs : List Version) (i : Nat) (h : i < xs.length) (hh : isHead xs xs[i] = true) : headsUp xs (i + 1) = headsUp xs i ++ [xs[i].number] := by
  simp only [headsUp, List.take_add_one, List.getElem?_eq_getElem h, Option.toList_some, List.filter_append, List.filter_cons, hh, if_true, List.filter_nil, List.map_append, List.map_cons, List.map_nil]
theorem headsUp_no (xs : List Version) (i : Nat) (h : i < xs.length) (hh : isHead xs xs[i] = false) : headsUp xs (i + 1) = headsUp xs i := by
  simp only [headsUp, List.take_add_one, List.getElem?_eq_getElem h, Option.toList_some, List.filter_append, List.filter_cons, hh, List.filter_nil, Bool.false_eq_true, if_false, List.append_nil]
theorem headsUp_len (xs : List Version) (i : Nat) : (headsUp xs i).length ≤ i := by
  simp only [headsUp, List.length_map]
  exact Nat.le_trans (List.length_filter_le _ _) (by simp; omega)

theorem headsOf_wt (xs : List Version) : Enc.wt (headsOf xs).1 ≤ 32 := by
  rw [wt_list, wt_ints]
  unfold headsOf
  split
  · rename_i h
    have := headsUp_len xs xs.length
    have := okHistory_len h
    simp only; omega
  · simp

end Go.Proofs.Ytjolahiflldepab.Pi
