/- Items of their own; an item that is touched. No statement of the seat is proved here. -/
import Derived.Test.YtcgoalegobkgaaaPiFOrder
import Derived.Test.YtcgoalegobkgaaaPiM4
namespace Go.Proofs.Ytcgoalegobkgaaa.Pi
open Go
set_option maxRecDepth 10000
set_option maxHeartbeats 1600000
set_option linter.unusedVariables false

theorem s_CloneString (xs : List ByteArray) (hb : xs.length ≤ 1048576) : Sat Try.prog 176 [(false, Enc.enc xs)] (.one (.ds 0), [(0, .deep true 1 (xs.map Enc.enc))]) := by
  have hl : (xs.map (Enc.enc (α := ByteArray))).length = xs.length := by simp
  refine Sat.intro tok mixed Try.func176 rfl rfl ?_
  ((conv => whnf); repeat first | (refine Br.no ?_; conv => whnf) | (refine Br.yes ?_; conv => whnf) | (refine Pick.draw (by kernel_rfl) ?_; conv => whnf))
  intro b hb0
  ((conv => whnf); repeat first | (refine Br.no ?_; conv => whnf) | (refine Br.yes ?_; conv => whnf) | (refine Pick.draw (by kernel_rfl) ?_; conv => whnf))
  refine Br.mk (fun h => ?_) (fun h => ?_) <;> ((conv => whnf); repeat first | (refine Br.no ?_; conv => whnf) | (refine Br.yes ?_; conv => whnf) | (refine Pick.draw (by kernel_rfl) ?_; conv => whnf))
  · have e : xs = [] := by simpa using hb0 h
    subst e
    exact ResOK.deep rfl ⟨by simp [flatRows], trivial⟩
  · refine Side.mk (by rw [hl]; simp only [List.length_nil]; omega) ?_
    ((conv => whnf); repeat first | (refine Br.no ?_; conv => whnf) | (refine Br.yes ?_; conv => whnf) | (refine Pick.draw (by kernel_rfl) ?_; conv => whnf))
    exact ResOK.deep rfl ⟨flat_str xs, trivial⟩

theorem s_copyItems (xs : List Item) (hb : Enc.wt xs ≤ 1048576) : Sat Try.prog 122 [(false, Enc.enc xs)] (.one (.ds 0), [(0, .deep true 4 (xs.map Enc.enc))]) := by
  have hl : (xs.map (Enc.enc (α := Item))).length = xs.length := by simp
  have hlb := lenwt_ItemS xs
  refine Sat.intro tok mixed Try.func122 rfl rfl ?_
  ((conv => whnf); repeat first | (refine Br.no ?_; conv => whnf) | (refine Br.yes ?_; conv => whnf) | (refine Pick.draw (by kernel_rfl) ?_; conv => whnf))
  refine Pick.mk [0, 3, 6, 7, 8, 2000192] trivial ?_
  ((conv => whnf); repeat first | (refine Br.no ?_; conv => whnf) | (refine Br.yes ?_; conv => whnf) | (refine Pick.draw (by kernel_rfl) ?_; conv => whnf))
  refine Side.mk (by simp [flatRows]) ?_
  ((conv => whnf); repeat first | (refine Br.no ?_; conv => whnf) | (refine Br.yes ?_; conv => whnf) | (refine Pick.draw (by kernel_rfl) ?_; conv => whnf))
  refine LoopL.run (fun i : Nat => St.mk [.one (.c (.slice 4 (xs.map Enc.enc))), .one .dead, .one .dead, .one (.ds 192), .one .dead, .one .dead, .one (.c (.slice 4 (xs.map Enc.enc))), .one (.c (.int .i64 (xs.map (Enc.enc (α := Item))).length)), .one (.c (.int .i64 i)), .one .dead, .one .dead, .one .dead, .one .dead, .one .dead, .one .dead, .one .dead, .one .dead, .one .dead, .one .dead, .one .dead, .one .dead, .one .dead] [(192, .deep true 4 ((xs.take i).map Enc.enc))]) (fun i => xs.length - i) (fun i => i ≤ xs.length) ?_ 0 (Nat.zero_le _)
  intro i h2 ih
  ((conv => whnf); repeat first | (refine Br.no ?_; conv => whnf) | (refine Br.yes ?_; conv => whnf) | (refine Pick.draw (by kernel_rfl) ?_; conv => whnf))
  refine Br.mk (fun h => ?_) (fun h => ?_) <;> ((conv => whnf); repeat first | (refine Br.no ?_; conv => whnf) | (refine Br.yes ?_; conv => whnf) | (refine Pick.draw (by kernel_rfl) ?_; conv => whnf))
  · simp at h
    have hw := wt_get xs i h
    have hw2 : Enc.wt xs[i] = Enc.wt xs[i].name + Enc.wt xs[i].needs + Enc.wt xs[i].made + Enc.wt xs[i].cost := rfl
    have hw3 := lenwt_list xs[i].needs
    refine Pick.ix h ?_
    ((conv => whnf); repeat first | (refine Br.no ?_; conv => whnf) | (refine Br.yes ?_; conv => whnf) | (refine Pick.draw (by kernel_rfl) ?_; conv => whnf))
    refine Pick.mk _ (s_CloneString xs[i].needs (by omega)) ?_
    ((conv => whnf); repeat first | (refine Br.no ?_; conv => whnf) | (refine Br.yes ?_; conv => whnf) | (refine Pick.draw (by kernel_rfl) ?_; conv => whnf))
    refine Pick.mk true trivial ?_
    ((conv => whnf); repeat first | (refine Br.no ?_; conv => whnf) | (refine Br.yes ?_; conv => whnf) | (refine Pick.draw (by kernel_rfl) ?_; conv => whnf))
    refine Side.mk (by simp; omega) ?_
    ((conv => whnf); repeat first | (refine Br.no ?_; conv => whnf) | (refine Br.yes ?_; conv => whnf) | (refine Pick.draw (by kernel_rfl) ?_; conv => whnf))
    refine Pick.at64 (z := (i + 1 : Nat)) (by simp) (by omega) ?_
    ((conv => whnf); repeat first | (refine Br.no ?_; conv => whnf) | (refine Br.yes ?_; conv => whnf) | (refine Pick.draw (by kernel_rfl) ?_; conv => whnf))
    refine cast (congrArg (fun r => LoopL _ _ _ ⟨_, [(_, .deep true 4 r)]⟩) ?_) (ih (i + 1) (by omega) (by omega))
    rw [List.take_add_one, List.getElem?_eq_getElem h, List.map_append]; rfl
  · simp at h
    have hi : i = xs.length := by omega
    subst hi
    rw [List.take_length]
    exact ResOK.same rfl

theorem s_l28Own (xs : List Item) (hb : Enc.wt xs ≤ 1048576) : Sat Try.prog 120 [(false, Enc.enc xs)] (.one (.rs 0), [(0, .arr 4 (xs.map Enc.enc))]) := by
  have hl : (xs.map (Enc.enc (α := Item))).length = xs.length := by simp
  have hlb := lenwt_ItemS xs
  refine Sat.intro tok mixed Try.func120 rfl rfl ?_
  ((conv => whnf); repeat first | (refine Br.no ?_; conv => whnf) | (refine Br.yes ?_; conv => whnf) | (refine Pick.draw (by kernel_rfl) ?_; conv => whnf))
  refine Pick.mk [0, 3, 4] trivial ?_
  ((conv => whnf); repeat first | (refine Br.no ?_; conv => whnf) | (refine Br.yes ?_; conv => whnf) | (refine Pick.draw (by kernel_rfl) ?_; conv => whnf))
  refine LoopL.run (fun i : Nat => St.mk [.one (.c (.slice 4 (xs.map Enc.enc))), .one .dead, .one .dead, .one (.rs 192), .one (.c (.int .i64 i)), .one .dead, .one .dead, .one .dead, .one .dead, .one .dead, .one .dead, .one .dead, .one .dead, .one .dead, .one .dead, .one .dead, .one .dead, .one .dead, .one .dead, .one .dead, .one .dead, .one .dead, .one .dead, .one .dead, .one .dead, .one .dead, .one .dead] [(192, .arr 4 ((xs.take i).map Enc.enc))]) (fun i => xs.length - i) (fun i => i ≤ xs.length) ?_ 0 (Nat.zero_le _)
  intro i h2 ih
  ((conv => whnf); repeat first | (refine Br.no ?_; conv => whnf) | (refine Br.yes ?_; conv => whnf) | (refine Pick.draw (by kernel_rfl) ?_; conv => whnf))
  refine Br.mk (fun h => ?_) (fun h => ?_) <;> ((conv => whnf); repeat first | (refine Br.no ?_; conv => whnf) | (refine Br.yes ?_; conv => whnf) | (refine Pick.draw (by kernel_rfl) ?_; conv => whnf))
  · simp at h
    have hw := wt_get xs i h
    have hw2 : Enc.wt xs[i] = Enc.wt xs[i].name + Enc.wt xs[i].needs + Enc.wt xs[i].made + Enc.wt xs[i].cost := rfl
    have hw3 := lenwt_list xs[i].needs
    refine Pick.ix h ?_
    ((conv => whnf); repeat first | (refine Br.no ?_; conv => whnf) | (refine Br.yes ?_; conv => whnf) | (refine Pick.draw (by kernel_rfl) ?_; conv => whnf))
    refine Side.mk (by simp; omega) ?_
    ((conv => whnf); repeat first | (refine Br.no ?_; conv => whnf) | (refine Br.yes ?_; conv => whnf) | (refine Pick.draw (by kernel_rfl) ?_; conv => whnf))
    refine Pick.mk false trivial ?_
    ((conv => whnf); repeat first | (refine Br.no ?_; conv => whnf) | (refine Br.yes ?_; conv => whnf) | (refine Pick.draw (by kernel_rfl) ?_; conv => whnf))
    refine Side.mk (by simp; omega) ?_
    ((conv => whnf); repeat first | (refine Br.no ?_; conv => whnf) | (refine Br.yes ?_; conv => whnf) | (refine Pick.draw (by kernel_rfl) ?_; conv => whnf))
    refine Pick.at64 (z := (i + 1 : Nat)) (by simp) (by omega) ?_
    ((conv => whnf); repeat first | (refine Br.no ?_; conv => whnf) | (refine Br.yes ?_; conv => whnf) | (refine Pick.draw (by kernel_rfl) ?_; conv => whnf))
    refine cast (congrArg (fun r => LoopL _ _ _ ⟨_, [(_, .arr 4 r)]⟩) ?_) (ih (i + 1) (by omega) (by omega))
    rw [List.take_add_one, List.getElem?_eq_getElem h, List.map_append]; rfl
  · simp at h
    have hi : i = xs.length := by omega
    subst hi
    rw [List.take_length]
    exact ResOK.same rfl

def setMade (xs : List Item) (k : Nat) (s : Int) : List Item := match xs[k]? with
  | some x => xs.set k ⟨x.name, x.needs, s, x.cost⟩
  | none => xs
def touchOf (xs : List Item) (t : ByteArray) (s : Int) : List Item × Int :=
  if okItems xs then (if 1 ≤ s ∧ s ≤ 1000000 then (if atName Item.name xs t < 0 then ([], 3) else (setMade xs (atName Item.name xs t).toNat s, 0)) else ([], 2)) else ([], 1)

theorem s_impl_TouchItem (xs : List Item) (o : Enc.ok xs) (hb : Enc.wt xs ≤ 1048576) (t : ByteArray) (s : Int) : Sat Try.prog 58 [(false, Enc.enc xs), (false, [.str t]), (false, [.int .i64 s])] (.tup [(false, [.ds 0]), (false, [.c (.int .i64 (touchOf xs t s).2)])], [(0, .deep true 4 ((touchOf xs t s).1.map Enc.enc))]) := by
  have hlb := lenwt_ItemS xs
  refine Sat.intro tok mixed Try.func58 rfl rfl ?_
  ((conv => whnf); repeat first | (refine Br.no ?_; conv => whnf) | (refine Br.yes ?_; conv => whnf) | (refine Pick.draw (by kernel_rfl) ?_; conv => whnf))
  refine Pick.mk _ (s_impl_ValidItems xs o (by omega)) ?_
  ((conv => whnf); repeat first | (refine Br.no ?_; conv => whnf) | (refine Br.yes ?_; conv => whnf) | (refine Pick.draw (by kernel_rfl) ?_; conv => whnf))
  refine Br.mk (fun h => ?_) (fun h => ?_) <;> ((conv => whnf); repeat first | (refine Br.no ?_; conv => whnf) | (refine Br.yes ?_; conv => whnf) | (refine Pick.draw (by kernel_rfl) ?_; conv => whnf))
  · rw [Bool.not_eq_true'] at h
    exact ResOK.deep (by simp only [touchOf, h]; rfl) ⟨by simp [flatRows], trivial⟩
  rw [Bool.not_eq_false'] at h
  refine Pick.mk _ (s_within s 1 1000000) ?_
  ((conv => whnf); repeat first | (refine Br.no ?_; conv => whnf) | (refine Br.yes ?_; conv => whnf) | (refine Pick.draw (by kernel_rfl) ?_; conv => whnf))
  refine Br.mk (fun h2 => ?_) (fun h2 => ?_) <;> ((conv => whnf); repeat first | (refine Br.no ?_; conv => whnf) | (refine Br.yes ?_; conv => whnf) | (refine Pick.draw (by kernel_rfl) ?_; conv => whnf))
  · have h2 : ¬ (1 ≤ s ∧ s ≤ 1000000) := by simp at h2; omega
    exact ResOK.deep (by simp only [touchOf, h, if_true, if_neg h2]; rfl) ⟨by simp [flatRows], trivial⟩
  have h2 : 1 ≤ s ∧ s ≤ 1000000 := by simp at h2; omega
  have ho := form_ord (okItems_form h).1
  have hs := s_itemAt xs t ho (by omega)
  rcases search_cases ho t with ⟨k, hk, _, e1, e2, e3⟩ | ⟨e2, e3⟩
  · rw [e1, e2] at hs
    refine Pick.mk _ hs ?_
    ((conv => whnf); repeat first | (refine Br.no ?_; conv => whnf) | (refine Br.yes ?_; conv => whnf) | (refine Pick.draw (by kernel_rfl) ?_; conv => whnf))
    refine Pick.mk _ (s_copyItems xs hb) ?_
    ((conv => whnf); repeat first | (refine Br.no ?_; conv => whnf) | (refine Br.yes ?_; conv => whnf) | (refine Pick.draw (by kernel_rfl) ?_; conv => whnf))
    refine Side.mk (by simp; omega) ?_
    ((conv => whnf); repeat first | (refine Br.no ?_; conv => whnf) | (refine Br.yes ?_; conv => whnf) | (refine Pick.draw (by kernel_rfl) ?_; conv => whnf))
    refine Pick.mk (Enc.enc xs[k]) (by show (xs.map Enc.enc)[k]? = _; simp [hk]) ?_
    ((conv => whnf); repeat first | (refine Br.no ?_; conv => whnf) | (refine Br.yes ?_; conv => whnf) | (refine Pick.draw (by kernel_rfl) ?_; conv => whnf))
    have et : touchOf xs t s = (setMade xs k s, 0) := by
      simp only [touchOf, h, h2, e3, and_self, if_true]; rw [if_neg (by omega)]; rfl
    have es : ((setMade xs k s).map Enc.enc) = ((xs.map Enc.enc).set k [.str xs[k].name, .slice 1 (xs[k].needs.map Enc.enc), .int .i64 s, .int .i64 xs[k].cost]) := by
      simp only [setMade, List.getElem?_eq_getElem hk, List.map_set]; rfl
    exact ResOK.same (by rw [et, es]; rfl)
  · rw [e2] at hs
    refine Pick.mk _ hs ?_
    ((conv => whnf); repeat first | (refine Br.no ?_; conv => whnf) | (refine Br.yes ?_; conv => whnf) | (refine Pick.draw (by kernel_rfl) ?_; conv => whnf))
    exact ResOK.deep (by simp only [touchOf, h, h2, e3, and_self, if_true]; rfl) ⟨by simp [flatRows], trivial⟩

theorem s_spec_TouchItem (xs : List Item) (o : Enc.ok xs) (hb : Enc.wt xs ≤ 1048576) (t : ByteArray) (s : Int) : Sat Try.prog 57 [(false, Enc.enc xs), (false, [.str t]), (false, [.int .i64 s])] (.tup [(false, [.c (.slice 4 ((touchOf xs t s).1.map Enc.enc))]), (false, [.c (.int .i64 (touchOf xs t s).2)])], []) := by
  have hlb := lenwt_ItemS xs
  refine Sat.intro tok mixed Try.func57 rfl rfl ?_
  ((conv => whnf); repeat first | (refine Br.no ?_; conv => whnf) | (refine Br.yes ?_; conv => whnf) | (refine Pick.draw (by kernel_rfl) ?_; conv => whnf))
  refine Pick.mk _ (s_l28Ok xs o) ?_
  ((conv => whnf); repeat first | (refine Br.no ?_; conv => whnf) | (refine Br.yes ?_; conv => whnf) | (refine Pick.draw (by kernel_rfl) ?_; conv => whnf))
  refine Br.mk (fun h => ?_) (fun h => ?_) <;> ((conv => whnf); repeat first | (refine Br.no ?_; conv => whnf) | (refine Br.yes ?_; conv => whnf) | (refine Pick.draw (by kernel_rfl) ?_; conv => whnf))
  · rw [Bool.not_eq_true'] at h
    exact ResOK.frz (by simp only [touchOf, h]; rfl) rfl
  rw [Bool.not_eq_false'] at h
  refine Pick.mk _ (s_l00In s 1 1000000) ?_
  ((conv => whnf); repeat first | (refine Br.no ?_; conv => whnf) | (refine Br.yes ?_; conv => whnf) | (refine Pick.draw (by kernel_rfl) ?_; conv => whnf))
  refine Br.mk (fun h2 => ?_) (fun h2 => ?_) <;> ((conv => whnf); repeat first | (refine Br.no ?_; conv => whnf) | (refine Br.yes ?_; conv => whnf) | (refine Pick.draw (by kernel_rfl) ?_; conv => whnf))
  · have h2 : ¬ (1 ≤ s ∧ s ≤ 1000000) := by simp at h2; omega
    exact ResOK.frz (by simp only [touchOf, h, if_true, if_neg h2]; rfl) rfl
  have h2 : 1 ≤ s ∧ s ≤ 1000000 := by simp at h2; omega
  have hs := s_l28Find xs t o.1
  rcases name_cases Item.name xs t with ⟨e3, _⟩ | ⟨k, hk, e3, _⟩
  · rw [e3] at hs
    refine Pick.mk _ hs ?_
    ((conv => whnf); repeat first | (refine Br.no ?_; conv => whnf) | (refine Br.yes ?_; conv => whnf) | (refine Pick.draw (by kernel_rfl) ?_; conv => whnf))
    exact ResOK.frz (by simp only [touchOf, h, h2, e3, and_self, if_true]; rfl) rfl
  · rw [e3] at hs
    refine Pick.mk _ hs ?_
    ((conv => whnf); repeat first | (refine Br.no ?_; conv => whnf) | (refine Br.yes ?_; conv => whnf) | (refine Pick.draw (by kernel_rfl) ?_; conv => whnf))
    refine Pick.mk _ (s_l28Own xs hb) ?_
    ((conv => whnf); repeat first | (refine Br.no ?_; conv => whnf) | (refine Br.yes ?_; conv => whnf) | (refine Pick.draw (by kernel_rfl) ?_; conv => whnf))
    refine Side.mk (by simp; omega) ?_
    ((conv => whnf); repeat first | (refine Br.no ?_; conv => whnf) | (refine Br.yes ?_; conv => whnf) | (refine Pick.draw (by kernel_rfl) ?_; conv => whnf))
    refine Pick.mk (Enc.enc xs[k]) (by show (xs.map Enc.enc)[k]? = _; simp [hk]) ?_
    ((conv => whnf); repeat first | (refine Br.no ?_; conv => whnf) | (refine Br.yes ?_; conv => whnf) | (refine Pick.draw (by kernel_rfl) ?_; conv => whnf))
    have et : touchOf xs t s = (setMade xs k s, 0) := by
      simp only [touchOf, h, h2, e3, and_self, if_true]; rw [if_neg (by omega)]; rfl
    have es : ((setMade xs k s).map Enc.enc) = ((xs.map Enc.enc).set k [.str xs[k].name, .slice 1 (xs[k].needs.map Enc.enc), .int .i64 s, .int .i64 xs[k].cost]) := by
      simp only [setMade, List.getElem?_eq_getElem hk, List.map_set]; rfl
    exact ResOK.frz (by rw [et, es]; rfl) rfl

theorem touchOf_wt (xs : List Item) (t : ByteArray) (s : Int) (hb : Enc.wt xs ≤ 1048576) : Enc.wt (touchOf xs t s).1 ≤ 1048576 := by
  have : ∀ (xs : List Item) (k : Nat), Enc.wt (setMade xs k s) = Enc.wt xs := fun xs => by
    induction xs with
    | nil => intro k; rfl
    | cons x xs ih =>
      intro k
      cases k with
      | zero => simp only [setMade, List.getElem?_cons_zero, List.set_cons_zero, wt_list, List.map_cons, List.sum_cons, List.length_cons]; rfl
      | succ k =>
        have := ih k
        simp only [setMade, List.getElem?_cons_succ] at this ⊢
        split at this
        · rename_i y hy
          simp only [List.set_cons_succ, wt_list, List.map_cons, List.sum_cons, List.length_cons] at this ⊢
          omega
        · rename_i hy
          simp only
  unfold touchOf
  split
  · split
    · split
      · simp [wt_list]
      · simp only [this]; exact hb
    · simp [wt_list]
  · simp [wt_list]

end Go.Proofs.Ytcgoalegobkgaaa.Pi
