/- Duals, certificates: the program and the reference. No statement of the seat is proved here. -/
import Derived.Test.YtaplnfcnajpmgaaPiFSolve
namespace Go.Proofs.Ytaplnfcnajpmgaa.Pi
open Go
set_option maxRecDepth 10000
set_option maxHeartbeats 3200000
set_option linter.unusedVariables false

def unitV (n i : Nat) : List Int := (List.replicate n 0).set i 1
theorem unitV_len (n i : Nat) : (unitV n i).length = n := by simp [unitV]
theorem unitV_el {n i : Nat} {p : Int} (hp : 2 ≤ p) : El p (unitV n i) := fun x hx => by
  rcases List.mem_or_eq_of_mem_set hx with h | h
  · have := List.eq_of_mem_replicate h; omega
  · omega
theorem unit_row {p : Int} {n i : Nat} (hp : 2 ≤ p ∧ p ≤ 251) (hn : n ≤ 4096) (hi : i < n) : rowL (unitM p n) i = unitV n i := by
  have ok := unit_ok hp hn
  refine List.ext_getElem? fun j => ?_
  have hl := ok.rowLen hi
  by_cases hj : j < n
  · have h1 := ok.rowGet hi hj
    rw [unit_cell hi hj, List.getD_eq_getElem?_getD, List.getElem?_eq_getElem (by omega), Option.getD_some] at h1
    rw [List.getElem?_eq_getElem (by omega), h1, unitV, List.getElem?_set]
    by_cases e : i = j
    · subst e; simp [hi]
    · simp [e, hj]
  · rw [List.getElem?_eq_none (by omega), List.getElem?_eq_none (by rw [unitV_len]; omega)]

def duUp (m : Matrix) (r c : Nat) : Nat → Option (List (List Int))
  | 0 => some []
  | i + 1 => match duUp m r c i with
    | none => none
    | some l => if (solOf m r c (unitV r i)).2 then some (l ++ [(solOf m r c (unitV r i)).1]) else none
theorem duUp_none {m : Matrix} {r c i : Nat} (h : duUp m r c i = none) : ∀ k, duUp m r c (i + k) = none
  | 0 => h
  | k + 1 => by rw [← Nat.add_assoc, duUp, duUp_none h k]
theorem solOf_len {m : Matrix} {r w : Nat} {b : List Int} (h : (solOf m r w b).2 = true) : (solOf m r w b).1.length = w := by
  unfold solOf at h ⊢
  split at h
  · cases h
  · rename_i hc; rw [if_neg hc]; exact solV_len _ _ _
theorem duUp_len {m : Matrix} {r c : Nat} : ∀ {i : Nat} {l : List (List Int)}, duUp m r c i = some l → l.length = i ∧ ∀ x ∈ l, x.length = c
  | 0, l, h => by simp only [duUp, Option.some.injEq] at h; subst h; simp
  | i + 1, l, h => by
    simp only [duUp] at h
    split at h
    · cases h
    · rename_i l0 h0
      obtain ⟨h1, h2⟩ := duUp_len h0
      split at h
      · rename_i hs
        simp only [Option.some.injEq] at h
        subst h
        refine ⟨by simp [h1], fun x hx => ?_⟩
        rcases List.mem_append.1 hx with hx | hx
        · exact h2 x hx
        · simp only [List.mem_singleton] at hx; subst hx; exact solOf_len hs
      · cases h
def dualOf (p : Int) (c : Nat) (vs : List (List Int)) : List (List Int) × Bool := match duUp (ofRows p c vs) vs.length c vs.length with | some l => (l, true) | none => ([], false)

theorem s_duals (p : Int) (c : Nat) (vs : List (List Int)) (hp : 2 ≤ p ∧ p ≤ 251) (hv : VecsOK p c vs) (hc : c ≤ 4095) (hl : vs.length ≤ 4096) : Sat Try.prog 53 [(false, [.int .i64 p]), (false, [.int .i64 c]), (false, Enc.enc vs)]
    (.tup [(false, [.c (.slice 1 ((dualOf p c vs).1.map Enc.enc))]), (false, [.c (.bool (dualOf p c vs).2)])], []) := by
  have ok := ofRows_ok hv hp (by omega) hl
  have hfl : vs.flatten.length ≤ 16777216 := by
    rw [flatten_len (fun x hx => (hv x hx).1)]
    exact Nat.mul_le_mul hl (by omega : c ≤ 4096)
  refine Sat.intro tok mixed Try.func53 rfl rfl ?_
  ((conv => whnf); repeat first | (refine Br.no ?_; conv => whnf) | (refine Br.yes ?_; conv => whnf) | (refine Pick.draw rfl (by kernel_rfl) ?_; conv => whnf) | (refine Pick.drawM (by kernel_rfl) ?_; conv => whnf) | (refine CallC.r ?_; conv => whnf))
  refine Pick.mk _ (s_matrixOf p c vs (by omega) hfl) ?_
  ((conv => whnf); repeat first | (refine Br.no ?_; conv => whnf) | (refine Br.yes ?_; conv => whnf) | (refine Pick.draw rfl (by kernel_rfl) ?_; conv => whnf) | (refine Pick.drawM (by kernel_rfl) ?_; conv => whnf) | (refine CallC.r ?_; conv => whnf))
  refine Pick.mk [0, 8, 9, 18, 19] trivial ?_
  ((conv => whnf); repeat first | (refine Br.no ?_; conv => whnf) | (refine Br.yes ?_; conv => whnf) | (refine Pick.draw rfl (by kernel_rfl) ?_; conv => whnf) | (refine Pick.drawM (by kernel_rfl) ?_; conv => whnf) | (refine CallC.r ?_; conv => whnf))
  refine LoopL.over (fun (x : Nat × List (List Int)) => [(19, .one (.c (.int .i64 ((x.1 : Int)))))]) (fun (x : Nat × List (List Int)) => [(576, Ob.arr 1 (x.2.map Enc.enc))]) (fun (x : Nat × List (List Int)) => vs.length - x.1) (fun (x : Nat × List (List Int)) => x.1 ≤ vs.length ∧ duUp (ofRows p c vs) vs.length c x.1 = some x.2) ?_ (0, []) ⟨Nat.zero_le _, rfl⟩
  intro ⟨i, l⟩ ⟨hi, hd⟩ ih
  simp only at hi hd ih ⊢
  obtain ⟨hdl, hdc⟩ := duUp_len hd
  ((conv => whnf); repeat first | (refine Br.no ?_; conv => whnf) | (refine Br.yes ?_; conv => whnf) | (refine Pick.draw rfl (by kernel_rfl) ?_; conv => whnf) | (refine Pick.drawM (by kernel_rfl) ?_; conv => whnf) | (refine CallC.r ?_; conv => whnf))
  refine Br.mk (fun h => ?_) (fun h => ?_) <;> ((conv => whnf); repeat first | (refine Br.no ?_; conv => whnf) | (refine Br.yes ?_; conv => whnf) | (refine Pick.draw rfl (by kernel_rfl) ?_; conv => whnf) | (refine Pick.drawM (by kernel_rfl) ?_; conv => whnf) | (refine CallC.r ?_; conv => whnf))
  · have h : i < vs.length := by simpa [ofRows] using h
    refine Pick.mk _ (s_unit p vs.length ⟨by omega, by omega⟩) ?_
    ((conv => whnf); repeat first | (refine Br.no ?_; conv => whnf) | (refine Br.yes ?_; conv => whnf) | (refine Pick.draw rfl (by kernel_rfl) ?_; conv => whnf) | (refine Pick.drawM (by kernel_rfl) ?_; conv => whnf) | (refine CallC.r ?_; conv => whnf))
    refine Pick.mk _ (s_row (unitM p vs.length) (unit_ok hp hl) i h) ?_
    ((conv => whnf); repeat first | (refine Br.no ?_; conv => whnf) | (refine Br.yes ?_; conv => whnf) | (refine Pick.draw rfl (by kernel_rfl) ?_; conv => whnf) | (refine Pick.drawM (by kernel_rfl) ?_; conv => whnf) | (refine CallC.r ?_; conv => whnf))
    rw [unit_row hp hl h]
    refine Pick.mk _ (s_solve (ofRows p c vs) ok (unitV vs.length i) hc (unitV_len _ _) (unitV_el hp.1)) ?_
    ((conv => whnf); repeat first | (refine Br.no ?_; conv => whnf) | (refine Br.yes ?_; conv => whnf) | (refine Pick.draw rfl (by kernel_rfl) ?_; conv => whnf) | (refine Pick.drawM (by kernel_rfl) ?_; conv => whnf) | (refine CallC.r ?_; conv => whnf))
    have hnext : duUp (ofRows p c vs) vs.length c (i + 1) = if (solOf (ofRows p c vs) vs.length c (unitV vs.length i)).2 then some (l ++ [(solOf (ofRows p c vs) vs.length c (unitV vs.length i)).1]) else none := by simp only [duUp, hd]
    generalize solOf (ofRows p c vs) vs.length c (unitV vs.length i) = z at hnext ⊢
    obtain ⟨y, b⟩ := z
    cases b with
    | false =>
      simp only [Bool.false_eq_true, if_false] at hnext
      have hno := duUp_none hnext (vs.length - (i + 1))
      rw [show i + 1 + (vs.length - (i + 1)) = vs.length by omega] at hno
      ((conv => whnf); repeat first | (refine Br.no ?_; conv => whnf) | (refine Br.yes ?_; conv => whnf) | (refine Pick.draw rfl (by kernel_rfl) ?_; conv => whnf) | (refine Pick.drawM (by kernel_rfl) ?_; conv => whnf) | (refine CallC.r ?_; conv => whnf))
      exact ResOK.frz (by simp only [dualOf, hno]; rfl) rfl
    | true =>
      simp only [if_true] at hnext
      ((conv => whnf); repeat first | (refine Br.no ?_; conv => whnf) | (refine Br.yes ?_; conv => whnf) | (refine Pick.draw rfl (by kernel_rfl) ?_; conv => whnf) | (refine Pick.drawM (by kernel_rfl) ?_; conv => whnf) | (refine CallC.r ?_; conv => whnf))
      refine Side.mk (by simp [hdl]; omega) ?_
      ((conv => whnf); repeat first | (refine Br.no ?_; conv => whnf) | (refine Br.yes ?_; conv => whnf) | (refine Pick.draw rfl (by kernel_rfl) ?_; conv => whnf) | (refine Pick.drawM (by kernel_rfl) ?_; conv => whnf) | (refine CallC.r ?_; conv => whnf))
      refine Pick.at64 (z := (i + 1 : Nat)) (by simp) (by omega) ?_
      ((conv => whnf); repeat first | (refine Br.no ?_; conv => whnf) | (refine Br.yes ?_; conv => whnf) | (refine Pick.draw rfl (by kernel_rfl) ?_; conv => whnf) | (refine Pick.drawM (by kernel_rfl) ?_; conv => whnf) | (refine CallC.r ?_; conv => whnf))
      have hn := ih (i + 1, l ++ [y]) ⟨by simp only; omega, hnext⟩ (by simp only; omega)
      simp only [List.map_append] at hn
      exact hn
  · have h : vs.length ≤ i := by simpa [ofRows] using h
    obtain rfl : i = vs.length := by omega
    exact ResOK.frz (by simp only [dualOf, hd]; rfl) rfl

theorem s_l04Rows (p : Int) (c : Nat) (rows : List (List Int)) (hb : rows.length ≤ 4096) (hl : rows.flatten.length ≤ 16777216) : Sat Try.prog 91 [(false, [.int .i64 p]), (false, [.int .i64 c]), (false, Enc.enc rows)] (.agg ((Enc.enc (ofRows p c rows)).map .c), []) := by
  refine Sat.intro tok mixed Try.func91 rfl rfl ?_
  ((conv => whnf); repeat first | (refine Br.no ?_; conv => whnf) | (refine Br.yes ?_; conv => whnf) | (refine Pick.draw rfl (by kernel_rfl) ?_; conv => whnf) | (refine Pick.drawM (by kernel_rfl) ?_; conv => whnf) | (refine CallC.r ?_; conv => whnf))
  refine Pick.mk [2, 6, 7, 8, 3000483] trivial ?_
  ((conv => whnf); repeat first | (refine Br.no ?_; conv => whnf) | (refine Br.yes ?_; conv => whnf) | (refine Pick.draw rfl (by kernel_rfl) ?_; conv => whnf) | (refine Pick.drawM (by kernel_rfl) ?_; conv => whnf) | (refine CallC.r ?_; conv => whnf))
  refine LoopL.over (fun (i : Nat) => [(8, .one (.c (.int .i64 ((i : Int)))))]) (fun (i : Nat) => [(483, Ob.arr 1 ((rows.take i).flatten.map Enc.enc))]) (fun (i : Nat) => rows.length - i) (fun (i : Nat) => i ≤ rows.length) ?_ 0 (Nat.zero_le _)
  intro i hi ih
  ((conv => whnf); repeat first | (refine Br.no ?_; conv => whnf) | (refine Br.yes ?_; conv => whnf) | (refine Pick.draw rfl (by kernel_rfl) ?_; conv => whnf) | (refine Pick.drawM (by kernel_rfl) ?_; conv => whnf) | (refine CallC.r ?_; conv => whnf))
  refine Br.mk (fun h => ?_) (fun h => ?_) <;> ((conv => whnf); repeat first | (refine Br.no ?_; conv => whnf) | (refine Br.yes ?_; conv => whnf) | (refine Pick.draw rfl (by kernel_rfl) ?_; conv => whnf) | (refine Pick.drawM (by kernel_rfl) ?_; conv => whnf) | (refine CallC.r ?_; conv => whnf))
  · simp at h
    have hf := flat_take rows i h
    have hl1 := flat_take_len rows i
    have hl2 := flat_take_len rows (i + 1)
    have hs := lens_succ rows i h
    have hli2 := lens_le rows (i + 1)
    refine Pick.ix (h) ?_
    ((conv => whnf); repeat first | (refine Br.no ?_; conv => whnf) | (refine Br.yes ?_; conv => whnf) | (refine Pick.draw rfl (by kernel_rfl) ?_; conv => whnf) | (refine Pick.drawM (by kernel_rfl) ?_; conv => whnf) | (refine CallC.r ?_; conv => whnf))
    refine Side.mk (by simp only [List.length_map]; omega) ?_
    ((conv => whnf); repeat first | (refine Br.no ?_; conv => whnf) | (refine Br.yes ?_; conv => whnf) | (refine Pick.draw rfl (by kernel_rfl) ?_; conv => whnf) | (refine Pick.drawM (by kernel_rfl) ?_; conv => whnf) | (refine CallC.r ?_; conv => whnf))
    refine Pick.at64 (z := (i + 1 : Nat)) (by simp) (by omega) ?_
    ((conv => whnf); repeat first | (refine Br.no ?_; conv => whnf) | (refine Br.yes ?_; conv => whnf) | (refine Pick.draw rfl (by kernel_rfl) ?_; conv => whnf) | (refine Pick.drawM (by kernel_rfl) ?_; conv => whnf) | (refine CallC.r ?_; conv => whnf))
    have hn := ih (i + 1) (by omega) (by omega)
    rw [hf, List.map_append] at hn
    exact hn
  · simp at h
    obtain rfl : i = rows.length := by omega
    rw [List.take_length, List.length_map]
    exact ResOK.frz rfl rfl

theorem s_l26Units (p : Int) (c : Nat) (vs : List (List Int)) (hp : 2 ≤ p ∧ p ≤ 251) (hv : VecsOK p c vs) (hc : c ≤ 4095) (hl : vs.length ≤ 4096) : Sat Try.prog 51 [(false, [.int .i64 p]), (false, [.int .i64 c]), (false, Enc.enc vs)]
    (.tup [(false, [.c (.slice 1 ((dualOf p c vs).1.map Enc.enc))]), (false, [.c (.bool (dualOf p c vs).2)])], []) := by
  have ok := ofRows_ok hv hp (by omega) hl
  have hfl : vs.flatten.length ≤ 16777216 := by
    rw [flatten_len (fun x hx => (hv x hx).1)]
    exact Nat.mul_le_mul hl (by omega : c ≤ 4096)
  have hvl : (vs.map (Enc.enc (α := List Int))).length = vs.length := by simp
  refine Sat.intro tok mixed Try.func51 rfl rfl ?_
  ((conv => whnf); repeat first | (refine Br.no ?_; conv => whnf) | (refine Br.yes ?_; conv => whnf) | (refine Pick.draw rfl (by kernel_rfl) ?_; conv => whnf) | (refine Pick.drawM (by kernel_rfl) ?_; conv => whnf) | (refine CallC.r ?_; conv => whnf))
  refine Pick.mk _ (s_l04Rows p c vs (by omega) hfl) ?_
  ((conv => whnf); repeat first | (refine Br.no ?_; conv => whnf) | (refine Br.yes ?_; conv => whnf) | (refine Pick.draw rfl (by kernel_rfl) ?_; conv => whnf) | (refine Pick.drawM (by kernel_rfl) ?_; conv => whnf) | (refine CallC.r ?_; conv => whnf))
  refine Pick.mk [2, 8, 9, 10, 1000512] trivial ?_
  ((conv => whnf); repeat first | (refine Br.no ?_; conv => whnf) | (refine Br.yes ?_; conv => whnf) | (refine Pick.draw rfl (by kernel_rfl) ?_; conv => whnf) | (refine Pick.drawM (by kernel_rfl) ?_; conv => whnf) | (refine CallC.r ?_; conv => whnf))
  refine LoopL.over (fun (x : Nat × List (List Int)) => [(10, .one (.c (.int .i64 ((x.1 : Int)))))]) (fun (x : Nat × List (List Int)) => [(576, Ob.arr 1 (x.2.map Enc.enc))]) (fun (x : Nat × List (List Int)) => vs.length - x.1) (fun (x : Nat × List (List Int)) => x.1 ≤ vs.length ∧ duUp (ofRows p c vs) vs.length c x.1 = some x.2) ?_ (0, []) ⟨Nat.zero_le _, rfl⟩
  intro ⟨i, l⟩ ⟨hi, hd⟩ ih
  simp only at hi hd ih ⊢
  obtain ⟨hdl, hdc⟩ := duUp_len hd
  ((conv => whnf); repeat first | (refine Br.no ?_; conv => whnf) | (refine Br.yes ?_; conv => whnf) | (refine Pick.draw rfl (by kernel_rfl) ?_; conv => whnf) | (refine Pick.drawM (by kernel_rfl) ?_; conv => whnf) | (refine CallC.r ?_; conv => whnf))
  refine Br.mk (fun h => ?_) (fun h => ?_) <;> ((conv => whnf); repeat first | (refine Br.no ?_; conv => whnf) | (refine Br.yes ?_; conv => whnf) | (refine Pick.draw rfl (by kernel_rfl) ?_; conv => whnf) | (refine Pick.drawM (by kernel_rfl) ?_; conv => whnf) | (refine CallC.r ?_; conv => whnf))
  · have h : i < vs.length := by simpa using h
    refine Side.mk (by rw [hvl]; omega) ?_
    ((conv => whnf); repeat first | (refine Br.no ?_; conv => whnf) | (refine Br.yes ?_; conv => whnf) | (refine Pick.draw rfl (by kernel_rfl) ?_; conv => whnf) | (refine Pick.drawM (by kernel_rfl) ?_; conv => whnf) | (refine CallC.r ?_; conv => whnf))
    refine Side.mk (by simp; omega) ?_
    ((conv => whnf); repeat first | (refine Br.no ?_; conv => whnf) | (refine Br.yes ?_; conv => whnf) | (refine Pick.draw rfl (by kernel_rfl) ?_; conv => whnf) | (refine Pick.drawM (by kernel_rfl) ?_; conv => whnf) | (refine CallC.r ?_; conv => whnf))
    have hun : ∀ (z : List CV) (n k : Nat) (y : List CV), z = [.int .i64 0] → n = vs.length → k = i → y = [.int .i64 1] → (List.replicate n z).set k y = (unitV vs.length i).map Enc.enc := fun z n k y e0 e1 e2 e3 => by
      rw [e0, e1, e2, e3, unitV, List.map_set, List.map_replicate]; rfl
    rw [hun]
    rotate_left
    · rfl
    · rw [hvl]; rfl
    · rfl
    · rfl
    refine Pick.mk _ (s_l03Solve (ofRows p c vs) ok hc (unitV vs.length i) (unitV_len _ _) (unitV_el hp.1)) ?_
    ((conv => whnf); repeat first | (refine Br.no ?_; conv => whnf) | (refine Br.yes ?_; conv => whnf) | (refine Pick.draw rfl (by kernel_rfl) ?_; conv => whnf) | (refine Pick.drawM (by kernel_rfl) ?_; conv => whnf) | (refine CallC.r ?_; conv => whnf))
    have hnext : duUp (ofRows p c vs) vs.length c (i + 1) = if (solOf (ofRows p c vs) vs.length c (unitV vs.length i)).2 then some (l ++ [(solOf (ofRows p c vs) vs.length c (unitV vs.length i)).1]) else none := by simp only [duUp, hd]
    have hsl := solOf_len (m := ofRows p c vs) (r := vs.length) (w := c) (b := unitV vs.length i)
    generalize solOf (ofRows p c vs) vs.length c (unitV vs.length i) = z at hnext hsl ⊢
    obtain ⟨y, b⟩ := z
    cases b with
    | false =>
      simp only [Bool.false_eq_true, if_false] at hnext
      have hno := duUp_none hnext (vs.length - (i + 1))
      rw [show i + 1 + (vs.length - (i + 1)) = vs.length by omega] at hno
      ((conv => whnf); repeat first | (refine Br.no ?_; conv => whnf) | (refine Br.yes ?_; conv => whnf) | (refine Pick.draw rfl (by kernel_rfl) ?_; conv => whnf) | (refine Pick.drawM (by kernel_rfl) ?_; conv => whnf) | (refine CallC.r ?_; conv => whnf))
      exact ResOK.frz (by simp only [dualOf, hno]; rfl) rfl
    | true =>
      simp only [if_true] at hnext
      have hsl := hsl rfl
      simp only at hsl
      ((conv => whnf); repeat first | (refine Br.no ?_; conv => whnf) | (refine Br.yes ?_; conv => whnf) | (refine Pick.draw rfl (by kernel_rfl) ?_; conv => whnf) | (refine Pick.drawM (by kernel_rfl) ?_; conv => whnf) | (refine CallC.r ?_; conv => whnf))
      refine Pick.mk _ (s_l00Own y (by omega)) ?_
      ((conv => whnf); repeat first | (refine Br.no ?_; conv => whnf) | (refine Br.yes ?_; conv => whnf) | (refine Pick.draw rfl (by kernel_rfl) ?_; conv => whnf) | (refine Pick.drawM (by kernel_rfl) ?_; conv => whnf) | (refine CallC.r ?_; conv => whnf))
      refine Pick.mk false trivial ?_
      ((conv => whnf); repeat first | (refine Br.no ?_; conv => whnf) | (refine Br.yes ?_; conv => whnf) | (refine Pick.draw rfl (by kernel_rfl) ?_; conv => whnf) | (refine Pick.drawM (by kernel_rfl) ?_; conv => whnf) | (refine CallC.r ?_; conv => whnf))
      refine Side.mk (by simp [hdl]; omega) ?_
      ((conv => whnf); repeat first | (refine Br.no ?_; conv => whnf) | (refine Br.yes ?_; conv => whnf) | (refine Pick.draw rfl (by kernel_rfl) ?_; conv => whnf) | (refine Pick.drawM (by kernel_rfl) ?_; conv => whnf) | (refine CallC.r ?_; conv => whnf))
      refine Pick.at64 (z := (i + 1 : Nat)) (by simp) (by omega) ?_
      ((conv => whnf); repeat first | (refine Br.no ?_; conv => whnf) | (refine Br.yes ?_; conv => whnf) | (refine Pick.draw rfl (by kernel_rfl) ?_; conv => whnf) | (refine Pick.drawM (by kernel_rfl) ?_; conv => whnf) | (refine CallC.r ?_; conv => whnf))
      have hn := ih (i + 1, l ++ [y]) ⟨by simp only; omega, hnext⟩ (by simp only; omega)
      simp only [List.map_append] at hn
      exact hn
  · have h : vs.length ≤ i := by simpa using h
    obtain rfl : i = vs.length := by omega
    exact ResOK.frz (by simp only [dualOf, hd]; rfl) rfl
end Go.Proofs.Ytaplnfcnajpmgaa.Pi
