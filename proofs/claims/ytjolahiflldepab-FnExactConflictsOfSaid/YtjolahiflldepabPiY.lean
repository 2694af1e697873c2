/- Drawn regions that make a slice: their own order serves every order. No statement of the seat is proved here. -/
import Derived.Test.YtjolahiflldepabPiS18
namespace Go.Proofs.Ytjolahiflldepab.Pi
open Go Go.RowKit
set_option linter.unusedVariables false
set_option linter.unusedSimpArgs false

/-! ### what is read stays as it is when the heap grows -/
def Grows (h h' : Heap) : Prop := ∀ k o, find h k = some o → find h' k = some o
theorem Grows.ins {h : Heap} {k : Nat} {o : Ob} (hn : find h k = none) : Grows h (ins k o h) := fun j o' hj => by
  rw [find_ins k o h j hn, if_neg (fun e => by rw [e, hn] at hj; cases hj)]; exact hj

theorem load_grow {h h' : Heap} (hg : Grows h h') {t : TI} {a : PV} {K : PV → Prop} (hl : loadK h t a K) : loadK h' t a K := by
  unfold loadK at hl ⊢
  split at hl
  · exact hl
  · split at hl
    · exact hl
    · split at hl
      · rename_i h1 h2; rw [hg _ _ h1, h2]; exact hl
      · exact hl.elim
    · split at hl
      · rename_i h1 h2; rw [hg _ _ h1, h2]; exact hl
      · exact hl.elim
    · split at hl
      · rename_i h1 h2; rw [hg _ _ h1, h2]; exact hl
      · exact hl.elim
    · exact hl.elim
theorem ixAddr_grow {h h' : Heap} (hg : Grows h h') {t : TI} {a i : PV} {K : PV → Prop} (hl : indexAddrK h t a i K) : indexAddrK h' t a i K := by
  unfold indexAddrK intIx at hl ⊢
  split at hl
  · split at hl
    · exact hl
    · split at hl
      · rename_i h1; rw [hg _ _ h1]; exact hl
      · exact hl.elim
    · split at hl
      · rename_i h1; rw [hg _ _ h1]; exact hl
      · exact hl.elim
    · split at hl
      · rename_i h1; rw [hg _ _ h1]; exact hl
      · exact hl.elim
    · exact hl.elim
  · exact hl.elim
theorem len_grow {h h' : Heap} (hg : Grows h h') {t : TI} {a : PV} {K : PV → Prop} (hl : lenK h t a K) : lenK h' t a K := by
  unfold lenK at hl ⊢
  split at hl
  · exact hl
  · exact hl
  · split at hl
    · rename_i h1; rw [hg _ _ h1]; exact hl
    · exact hl.elim
  · exact hl
  · split at hl
    · rename_i h1; rw [hg _ _ h1]; exact hl
    · exact hl.elim
  · exact hl
  · exact hl.elim
theorem slice_grow {h h' : Heap} (hg : Grows h h') {t : TI} {x : PV} {lo hi : Option Int} {K : PV → Prop} (hl : sliceK h t x lo hi K) : sliceK h' t x lo hi K := by
  unfold sliceK at hl ⊢
  split at hl
  · exact hl
  · exact hl
  · split at hl
    · rename_i h1; rw [hg _ _ h1]; exact hl
    · exact hl.elim
  · exact hl
  · exact hl.elim
theorem snapX_grow {h h' : Heap} (hg : Grows h h') : ∀ {n : Nat} {x : XV} {y : CV}, snapX h n x = some y → snapX h' n x = some y := by
  have base : ∀ {n : Nat}, (∀ {x y}, snapX h n x = some y → snapX h' n x = some y) → ∀ {xs ys}, snapX.snapXs (snapX h n) xs = some ys → snapX.snapXs (snapX h' n) xs = some ys := fun {n} ih {xs} => by
    induction xs with
    | nil => exact fun h => h
    | cons x xs ihx =>
      intro ys hs
      simp only [snapX.snapXs] at hs ⊢
      split at hs
      · rename_i h1 h2
        rw [ih h1, ihx h2]; exact hs
      · cases hs
  intro n
  induction n with
  | zero =>
    intro x y hs
    cases x <;> simp only [snapX] at hs ⊢ <;> first | exact hs | (split at hs <;> first | (rename_i h1; rw [hg _ _ h1]; exact hs) | cases hs)
  | succ n ih =>
    intro x y hs
    cases x with
    | pb k off len =>
      simp only [snapX] at hs ⊢
      split at hs
      · rename_i h1
        rw [hg _ _ h1]
        simp only
        split at hs
        · rename_i h2
          rw [base ih h2]; exact hs
        · cases hs
      · cases hs
    | fb f pre k m post =>
      simp only [snapX] at hs ⊢
      split at hs
      · rename_i h1
        rw [hg _ _ h1]
        simp only
        split at hs
        · rename_i h2
          rw [base ih h2]; exact hs
        · cases hs
      · cases hs
    | _ => simp only [snapX] at hs ⊢; first | exact hs | (split at hs <;> first | (rename_i h1; rw [hg _ _ h1]; exact hs) | cases hs)
theorem snapXs_grow {h h' : Heap} (hg : Grows h h') {n : Nat} : ∀ {xs : List XV} {ys : List CV}, snapX.snapXs (snapX h n) xs = some ys → snapX.snapXs (snapX h' n) xs = some ys
  | [], ys, hs => hs
  | x :: xs, ys, hs => by
    simp only [snapX.snapXs] at hs ⊢
    split at hs
    · rename_i h1 h2
      rw [snapX_grow hg h1, snapXs_grow hg h2]; exact hs
    · cases hs
theorem snapB_grow {h h' : Heap} (hg : Grows h h') : ∀ {vs : List PV} {ys : List Comp}, snapB h vs = some ys → snapB h' vs = some ys
  | [], ys, hs => hs
  | v :: vs, ys, hs => by
    cases v with
    | tup _ => simp only [snapB] at hs; cases hs
    | one x =>
      simp only [snapB] at hs ⊢
      split at hs
      · rename_i y ys' h1 h2
        rw [snapB_grow hg h2]
        cases hx : snapX h 3 x with
        | none => simp [hx] at h1
        | some z => rw [hx] at h1; rw [snapX_grow hg hx, h1]; exact hs
      · cases hs
    | agg xs =>
      simp only [snapB] at hs ⊢
      split at hs
      · rename_i y ys' h1 h2
        rw [snapB_grow hg h2]
        cases hx : snapX.snapXs (snapX h 3) xs with
        | none => simp [hx] at h1
        | some z => rw [hx] at h1; rw [snapXs_grow hg hx, h1]; exact hs
      · cases hs
theorem callQ_grow {h h' : Heap} (hg : Grows h h') {P : Program} {f : PV} {vs : List PV} {K : PV → Prop} (hl : callQ P h f vs K) : callQ P h' f vs K := by
  unfold callQ at hl ⊢
  split at hl
  · rename_i h1
    rw [snapB_grow hg h1]
    exact hl
  · exact hl.elim
theorem optInt_mon' {r : List PV} {tt : TT} {x : Option Operand} {F G : Option Int → Prop} (h : ∀ n, F n → G n) (hx : optInt r tt x F) : optInt r tt x G := by
  unfold optInt at hx ⊢
  cases x with
  | none => exact h _ hx
  | some x =>
    refine (ex_opd _ _ _).mon _ _ (fun v hv => ?_) hx
    unfold intIx at hv ⊢
    split at hv
    · exact h _ hv
    · exact hv

theorem opQ_grow {P : Program} {tt : TT} {r : List PV} {h h' : Heap} (hg : Grows h h') {o : Oper} {K : PV → Prop} (hq : opQ P tt ⟨r, h⟩ o K) : opQ P tt ⟨r, h'⟩ o K := by
  cases hop : o.op <;> simp only [opQ, hop] at hq ⊢ <;> try exact hq
  case load t x => exact (ex_opd _ _ _).mon _ _ (fun v h => load_grow hg h) hq
  case slice t x lo hi mx =>
    cases mx with
    | some m => exact hq
    | none =>
      simp only at hq ⊢
      exact (ex_opd _ _ _).mon _ _ (fun v h => optInt_mon' (fun l h => optInt_mon' (fun m h => slice_grow hg h) h) h) hq
  case makeFunc fn first captured => cases fn <;> simp only at hq ⊢ <;> exact hq
  case indexAddr t x i => exact (ex_opd _ _ _).mon _ _ (fun v h => (ex_opd _ _ _).mon _ _ (fun u h => ixAddr_grow hg h) h) hq
  case call c =>
    split at hq
    · split at hq
      · exact (ex_opd _ _ _).mon _ _ (fun v h => len_grow hg h) hq
      · exact hq
    · exact hq
    · exact (ex_opd _ _ _).mon _ _ (fun v h => (ex_args _ _ _ _).mon _ _ (fun u h => callQ_grow hg h) h) hq
    · exact hq

section
variable {P : Program} {C : Ctx} {L : Lay} {I : Nat → Prop} {s : St} {a : Act} {w : World}

theorem ins_comm {k k2 : Nat} {o o2 : Ob} (hne : k ≠ k2) : ∀ h : Heap, ins k o (ins k2 o2 h) = ins k2 o2 (ins k o h)
  | [] => by
    simp only [ins]
    cases h1 : Nat.blt k k2 with
    | true =>
      have h1' := Nat.blt_eq.mp h1
      have h2 : Nat.blt k2 k = false := by
        cases h2 : Nat.blt k2 k with
        | false => rfl
        | true => have := Nat.blt_eq.mp h2; omega
      simp only [h2, ins]
    | false =>
      have h2 : Nat.blt k2 k = true := Nat.blt_eq.mpr (by
        have : ¬ k < k2 := fun h => by rw [Nat.blt_eq.mpr h] at h1; cases h1
        omega)
      simp only [h2, ins]
  | (k', o') :: h => by
    have ih := ins_comm (o := o) (o2 := o2) hne h
    have lt : ∀ a b : Nat, Nat.blt a b = decide (a < b) := fun a b => by
      cases hb : Nat.blt a b with
      | true => have := Nat.blt_eq.mp hb; simp [this]
      | false =>
        have : ¬ a < b := fun h => by rw [Nat.blt_eq.mpr h] at hb; cases hb
        simp; omega
    have eqs : ∀ a x (l : Heap) b y, ins a x ((b, y) :: l) = if a < b then (a, x) :: (b, y) :: l else (b, y) :: ins a x l := fun a x l b y => by
      simp only [ins, lt]
      by_cases hab : a < b <;> simp [hab]
    rw [eqs k2, eqs k]
    by_cases h1 : k < k' <;> by_cases h2 : k2 < k' <;> simp only [h1, h2, if_true, if_false] <;> rw [eqs, eqs]
    · by_cases h3 : k < k2
      · have : ¬ k2 < k := by omega
        simp [h3, this, eqs, h2]
      · have : k2 < k := by omega
        simp [h3, this, eqs, h1]
    · have : ¬ k2 < k := by omega
      simp [h1, this, eqs, h2]
    · have : ¬ k < k2 := by omega
      simp [h2, this, eqs, h1]
    · simp [h1, h2, ih]

/-! ### several new objects -/
def NoDup : Heap → Prop
  | [] => True
  | (k, _) :: N => find N k = none ∧ NoDup N
def FreshN (N h : Heap) : Prop := NoDup N ∧ ∀ k o, find N k = some o → find h k = none
theorem find_cons {k j : Nat} {o : Ob} {h : Heap} : find ((k, o) :: h) j = if k = j then some o else find h j := by
  simp only [find]
  by_cases e : k = j
  · subst e; rw [beq_iff.2 rfl, if_pos rfl]
  · rw [beq_false.2 e, if_neg e]
theorem FreshN.one {k : Nat} {o : Ob} {h : Heap} (hn : find h k = none) : FreshN [(k, o)] h := ⟨⟨rfl, trivial⟩, fun j o' hj => by
  rw [find_cons] at hj
  split at hj
  · rename_i e; subst e; exact hn
  · cases hj⟩
theorem FreshN.one_iff {k : Nat} {o : Ob} {h : Heap} (hf : FreshN [(k, o)] h) : find h k = none := hf.2 k o (by rw [find_cons, if_pos rfl])
theorem FreshN.tail {k : Nat} {o : Ob} {N h : Heap} (hf : FreshN ((k, o) :: N) h) : FreshN N (ins k o h) := by
  obtain ⟨⟨h1, h2⟩, h3⟩ := hf
  have hk : find h k = none := h3 k o (by rw [find_cons, if_pos rfl])
  refine ⟨h2, fun j o' hj => ?_⟩
  have hne : k ≠ j := fun e => by rw [← e, h1] at hj; cases hj
  rw [find_ins _ _ _ _ hk, if_neg (Ne.symm hne)]
  exact h3 j o' (by rw [find_cons, if_neg hne]; exact hj)
theorem find_insAll : ∀ {N h : Heap} (j : Nat), FreshN N h → find (insAll N h) j = match find N j with | some o => some o | none => find h j
  | [], h, j, _ => rfl
  | (k, o) :: N, h, j, hf => by
    have hk : find h k = none := hf.2 k o (by rw [find_cons, if_pos rfl])
    simp only [insAll]
    rw [find_insAll j hf.tail, find_cons, find_ins _ _ _ _ hk]
    by_cases e : k = j
    · subst e
      rw [if_pos rfl, hf.1.1]; simp
    · rw [if_neg e, if_neg (Ne.symm e)]
theorem Grows.insAll {N h : Heap} (hf : FreshN N h) : Grows h (insAll N h) := fun k o hk => by
  rw [find_insAll k hf]
  cases e : find N k with
  | none => exact hk
  | some o' => have := hf.2 k o' e; rw [hk] at this; cases this
theorem ins_insAll : ∀ {N : Heap} {k : Nat} {o : Ob} {h : Heap}, find N k = none → ins k o (insAll N h) = insAll N (ins k o h)
  | [], k, o, h, _ => rfl
  | (k', o') :: N, k, o, h, hn => by
    rw [find_cons] at hn
    split at hn
    · cases hn
    · rename_i e
      simp only [insAll]
      rw [ins_insAll hn, ins_comm (Ne.symm e)]
theorem insAll_comm : ∀ {N1 N2 h : Heap}, (∀ k o, find N1 k = some o → find N2 k = none) → insAll N1 (insAll N2 h) = insAll N2 (insAll N1 h)
  | [], N2, h, _ => rfl
  | (k, o) :: N1, N2, h, hd => by
    simp only [insAll]
    rw [ins_insAll (hd k o (by rw [find_cons, if_pos rfl]))]
    refine insAll_comm fun j o' hj => ?_
    by_cases e : k = j
    · exact hd j o (by rw [find_cons, if_pos e])
    · exact hd j o' (by rw [find_cons, if_neg e]; exact hj)
theorem freshN_spec {d : Nat} : ∀ {h H N : Heap}, freshN d h H = some N → FreshN N H ∧ (∀ j, find N (d + j) = find h j) ∧ ∀ H', FreshN N H' → freshN d h H' = some N
  | [], H, N, e => by
    simp only [freshN, Option.some.injEq] at e
    subst e
    exact ⟨⟨trivial, fun k o h => by simp [find] at h⟩, fun j => rfl, fun H' _ => rfl⟩
  | (k, o) :: h, H, N, e => by
    have key : ∀ {N' : Heap}, find H (d + k) = none → find h k = none → freshN d h H = some N' → N = (d + k, o) :: N' → (∀ H', find H' (d + k) = none → freshN d h H' = some N' → freshN d ((k, o) :: h) H' = some N) → FreshN N H ∧ (∀ j, find N (d + j) = find ((k, o) :: h) j) ∧ ∀ H', FreshN N H' → freshN d ((k, o) :: h) H' = some N := fun {N'} h1 h2 h3 h4 h5 => by
      obtain ⟨g1, g2, g3⟩ := freshN_spec h3
      subst h4
      have hnk : find N' (d + k) = none := by rw [g2]; exact h2
      refine ⟨⟨⟨hnk, g1.1⟩, fun j o' hj => ?_⟩, fun j => ?_, fun H' hf => ?_⟩
      · rw [find_cons] at hj
        split at hj
        · rename_i e; rw [← e]; exact h1
        · exact g1.2 j o' hj
      · rw [find_cons, find_cons, g2]
        by_cases e : k = j
        · subst e; simp
        · rw [if_neg e, if_neg (by omega)]
      · refine h5 H' (hf.2 _ o (by rw [find_cons, if_pos rfl])) (g3 H' ⟨hf.1.2, fun j o' hj => hf.2 j o' ?_⟩)
        rw [find_cons]
        split
        · rename_i e; rw [← e, hnk] at hj; cases hj
        · exact hj
    cases o with
    | box cs => simp [freshN] at e
    | arr sz rows =>
      simp only [freshN] at e
      split at e
      · rename_i h1 h2 h3 h4
        cases e
        exact key h1 h3 h4 rfl fun H' q1 q2 => by simp only [freshN, q1, h2, h3, q2]
      · cases e
    | deep a sz rows =>
      simp only [freshN] at e
      split at e
      · rename_i h1 h2 h3 h4
        cases e
        exact key h1 h3 h4 rfl fun H' q1 q2 => by simp only [freshN, q1, h2, h3, q2]
      · cases e
theorem freshN_pin {d : Nat} {k : Nat} {o : Ob} {h H N : Heap} (e : freshN d ((k, o) :: h) H = some N) : pinK (d + k) = false ∧ find H (d + k) = none ∧ find h k = none ∧ (∀ cs, o ≠ .box cs) ∧ ∃ N', N = (d + k, o) :: N' ∧ freshN d h H = some N' := by
  cases o with
  | box cs => simp [freshN] at e
  | arr sz rows =>
    simp only [freshN] at e
    split at e
    · rename_i h1 h2 h3 h4; cases e; exact ⟨h2, h1, h3, fun _ h => (by cases h), _, rfl, h4⟩
    · cases e
  | deep a sz rows =>
    simp only [freshN] at e
    split at e
    · rename_i h1 h2 h3 h4; cases e; exact ⟨h2, h1, h3, fun _ h => (by cases h), _, rfl, h4⟩
    · cases e
theorem newsK_fresh {d : Nat} : ∀ {h : Heap} {s : St} {N : Heap} {K : St → Prop}, freshN d h s.heap = some N → K ⟨s.regs, insAll N s.heap⟩ → newsK d h s K
  | [], s, N, K, e, hK => by
    simp only [freshN, Option.some.injEq] at e
    subst e
    exact hK
  | (k, o) :: h, s, N, K, e, hK => by
    obtain ⟨h1, h2, h3, h4, N', rfl, h5⟩ := freshN_pin e
    have hfr := (freshN_spec e).1
    have hnx : freshN d h (ins (d + k) o s.heap) = some N' := (freshN_spec h5).2.2 _ hfr.tail
    have hnew : newK (d + k) o s fun s => newsK d h s K := by
      unfold newK killK
      simp only [h1, h2, forceH_eq]
      exact newsK_fresh (s := ⟨s.regs, ins (d + k) o s.heap⟩) hnx hK
    cases o with
    | box cs => exact absurd rfl (h4 cs)
    | arr sz rows => simp only [newsK, h3]; exact hnew
    | deep a sz rows => simp only [newsK, h3]; exact hnew

theorem opF_ex {tt : TT} {o : Oper} {K : PV → St → Prop} (h : opF P tt s o K) : ∃ u N, FreshN N s.heap ∧ K u ⟨s.regs, insAll N s.heap⟩ ∧ ∀ (s' : St) (K' : PV → St → Prop), (∀ n, Operand.tmp n ∈ o.op.operands → s.regs[n]? = s'.regs[n]?) → FreshN N s'.heap → K' u ⟨s'.regs, insAll N s'.heap⟩ → opF P tt s' o K' := by
  unfold opF at h
  split at h
  · rename_i t len ps hop
    split at h
    · rename_i sz by' hsl hlen hbig
      obtain ⟨vs, h, hall⟩ := ex_parts _ _ _ _ _ h
      split at h
      · rename_i hk
        split at h
        · rename_i rows hrows
          unfold dstK at h
          split at h
          · rename_i d hd
            split at h
            · rename_i hf hp
              simp only [forceH_eq] at h
              refine ⟨_, [(64 * d, .arr sz rows)], .one hf, h, fun s' K' hr hf' hK => ?_⟩
              replace hf' := hf'.one_iff
              unfold opF
              simp only [hop, hsl, hlen]
              have hbig' : Nat.ble (len * ((tt t).slice.getD (0, 0)).1) 16777216 = true := hbig
              rw [hsl] at hbig'
              simp only [hbig']
              rw [← parts_congr (xs := ps.toList) (r := s.regs) (r' := s'.regs) (fun n hn => hr n (by
                simp only [hop, Op.operands]
                simpa using hn))]
              refine hall _ ?_
              simp only [hk, hrows, dstK, hd, hf', hp, forceH_eq]
              exact hK
            · exact h.elim
          · exact h.elim
        · exact h.elim
      · exact h.elim
    · exact h.elim
  · rename_i t hop
    split at h
    · rename_i z zs hz
      unfold dstK at h
      split at h
      · rename_i d hd
        split at h
        · rename_i hf hp hfb
          simp only [forceH_eq] at h
          refine ⟨_, [(64 * d, .box (z :: zs))], .one hf, h, fun s' K' hr hf' hK => ?_⟩
          replace hf' := hf'.one_iff
          unfold opF
          simp only [hop, hz, dstK, hd, hf', hp, hfb, forceH_eq]
          exact hK
        · exact h.elim
      · exact h.elim
    · exact h.elim
  · rename_i t l c hop
    obtain ⟨vl, h, hl⟩ := ex_opd _ _ _ _ h
    obtain ⟨vc, h, hc⟩ := ex_opd _ _ _ _ h
    unfold intIx at h
    split at h
    · rename_i l' 
      split at h
      · rename_i c'
        split at h
        · rename_i sz by' hsl
          split at h
          · exact h.elim
          · rename_i z zs hez
            obtain ⟨h1, h⟩ := h
            unfold dstK at h
            split at h
            · rename_i d hd
              split at h
              · rename_i hf hp
                simp only [forceH_eq] at h
                refine ⟨_, [(64 * d, _)], .one hf, h, fun s' K' hr hf' hK => ?_⟩
                replace hf' := hf'.one_iff
                unfold opF
                simp only [hop]
                have e1 := opd_congr (x := l) (r := s.regs) (r' := s'.regs) (fun n hn => hr n (by simp [hop, Op.operands, hn])) (tt 0)
                have e2 := opd_congr (x := c) (r := s.regs) (r' := s'.regs) (fun n hn => hr n (by simp [hop, Op.operands, hn])) (tt 0)
                rw [← e1, ← e2]
                refine hl _ (hc _ ?_)
                simp only [intIx, hsl, hez]
                refine ⟨h1, ?_⟩
                simp only [dstK, hd, hf', hp, forceH_eq]
                rw [hez] at hK
                exact hK
              · exact h.elim
            · exact h.elim
        · exact h.elim
      · exact h.elim
    · exact h.elim
  · rename_i c hop
    split at h
    · rename_i f hcal
      obtain ⟨g, h, hg⟩ := ex_opd _ _ _ _ h
      split at h
      · rename_i g' caps
        obtain ⟨vs, h, hvs⟩ := ex_args _ _ _ _ _ h
        split at h
        · rename_i comps h1 h2 h3
          obtain ⟨res, hsat, h⟩ := h
          split at h
          · rename_i sz rows
            unfold dstK at h
            split at h
            · rename_i d hd
              split at h
              · rename_i hf hp
                simp only [forceH_eq] at h
                refine ⟨_, [(64 * d, _)], .one hf, h, fun s' K' hr hf' hK => ?_⟩
                replace hf' := hf'.one_iff
                unfold opF
                simp only [hop, hcal]
                rw [← opd_congr (x := f) (r := s.regs) (r' := s'.regs) (fun n e => hr n (by simp [hop, Op.operands, Call.operands, hcal, e])) (tt 0)]
                refine hg _ ?_
                simp only
                rw [← args_congr (xs := c.args.toList) (r := s.regs) (r' := s'.regs) (fun n hn => hr n (by simp only [hop, Op.operands, Call.operands, hcal]; simp at hn ⊢; exact Or.inr hn)) c.argTypes.toList]
                refine hvs _ ?_
                simp only [h1, h2, h3]
                refine ⟨_, hsat, ?_⟩
                simp only [dstK, hd, hf', hp, forceH_eq]
                exact hK
              · exact h.elim
            · exact h.elim
          · rename_i pv
            simp only [forceP_eq] at h
            refine ⟨pv, [], ⟨trivial, fun k o h => by simp [find] at h⟩, h, fun s' K' hr _ hK => ?_⟩
            unfold opF
            simp only [hop, hcal]
            rw [← opd_congr (x := f) (r := s.regs) (r' := s'.regs) (fun n e => hr n (by simp [hop, Op.operands, Call.operands, hcal, e])) (tt 0)]
            refine hg _ ?_
            simp only
            rw [← args_congr (xs := c.args.toList) (r := s.regs) (r' := s'.regs) (fun n hn => hr n (by simp only [hop, Op.operands, Call.operands, hcal]; simp at hn ⊢; exact Or.inr hn)) c.argTypes.toList]
            refine hvs _ ?_
            simp only [h1, h2, h3]
            refine ⟨_, hsat, ?_⟩
            simp only [forceP_eq]
            exact hK
          · rename_i pv x xs hno
            unfold dstK at h
            split at h
            · rename_i d hd
              split at h
              · rename_i N hN hru
                simp only [forceP_eq, forceH_eq] at h
                obtain ⟨q1, _, q3⟩ := freshN_spec hN
                refine ⟨_, N, q1, h, fun s' K' hr hf' hK => ?_⟩
                unfold opF
                simp only [hop, hcal]
                rw [← opd_congr (x := f) (r := s.regs) (r' := s'.regs) (fun n e => hr n (by simp [hop, Op.operands, Call.operands, hcal, e])) (tt 0)]
                refine hg _ ?_
                simp only
                rw [← args_congr (xs := c.args.toList) (r := s.regs) (r' := s'.regs) (fun n hn => hr n (by simp only [hop, Op.operands, Call.operands, hcal]; simp at hn ⊢; exact Or.inr hn)) c.argTypes.toList]
                refine hvs _ ?_
                simp only [h1, h2, h3]
                refine ⟨_, hsat, ?_⟩
                simp only [dstK, hd, q3 _ hf', forceP_eq, forceH_eq]
                simp only [hru]; exact hK
              · exact h.elim
            · exact h.elim
        · exact h.elim
      · exact h.elim
    · exact h.elim
  · exact h.elim

theorem opM_of_F {tt : TT} {o : Oper} {K : PV → St → Prop} (h : opF P tt s o K) : opM P tt s o K := by
  unfold opF at h
  split at h
  · rename_i t len ps hop
    split at h
    · rename_i sz by' hsl hlen hbig
      have hbig' : Nat.ble (len * sz) 16777216 = true := by simpa only [hsl, Option.getD_some] using hbig
      simp only [opM, hop, hsl, hlen, Option.getD_some, hbig']
      obtain ⟨vs, h, hall⟩ := ex_parts _ _ _ _ _ h
      refine hall _ ?_
      split at h
      · rename_i hk
        have key : buildF tt t len sz ps.toList o vs s K := by
          unfold buildF
          rw [hk]
          simp only [frzKeys]
          refine hall _ ?_
          split at h
          · rename_i rows hrows
            unfold dstK at h ⊢
            split at h
            · split at h
              · rename_i hf hp
                unfold newK killK
                simp only [hp, hf]
                exact h
              · exact h.elim
            · exact h.elim
          · exact h.elim
        split
        · rename_i h1; rw [hk] at h1; cases h1
        · exact key
      · exact h.elim
    · exact h.elim
  · rename_i t hop
    simp only [opM, hop]
    split at h
    · rename_i z zs hz
      unfold dstK at h ⊢
      split at h
      · rename_i d _
        split at h
        · rename_i hf hp hfb
          simp only [hz]
          unfold freshBox at hfb
          split at hfb
          · cases hfb
          · rename_i hnn
            split at hfb
            · rename_i hal
              have key : boxM (64 * d) (z :: zs) s K := by
                unfold boxM
                simp only [hal, hfb]
                unfold newK killK
                simp only [hp, hf]
                exact h
              cases zs with
              | cons z2 zs2 => cases z <;> exact key
              | nil =>
                cases z with
                | nil sz => exact absurd rfl (hnn sz)
                | _ => exact key
            · cases hfb
        · exact h.elim
      · exact h.elim
    · exact h.elim
  · rename_i t l c hop
    simp only [opM, hop]
    obtain ⟨vl, h, hl⟩ := ex_opd _ _ _ _ h
    obtain ⟨vc, h, hc⟩ := ex_opd _ _ _ _ h
    refine hl _ (hc _ ?_)
    unfold intIx at h ⊢
    split at h
    · split at h
      · split at h
        · rename_i sz by' hsl
          split at h
          · exact h.elim
          · rename_i z zs hez
            simp only [hez]
            refine ⟨h.1, ?_⟩
            replace h := h.2
            unfold dstK at h ⊢
            split at h
            · split at h
              · rename_i hf hp
                unfold newK killK
                simp only [hp, hf]
                rw [hez] at h; exact h
              · exact h.elim
            · exact h.elim
        · exact h.elim
      · exact h.elim
    · exact h.elim
  · rename_i c hop
    simp only [opM, hop]
    split at h
    · rename_i f hcal
      obtain ⟨g, h, hg⟩ := ex_opd _ _ _ _ h
      simp only [hcal]
      refine hg _ ?_
      split at h
      · rename_i g' caps
        obtain ⟨vs, h, hvs⟩ := ex_args _ _ _ _ _ h
        simp only [callM]
        refine hvs _ ?_
        split at h
        · rename_i comps h1 h2 h3
          simp only [h2]
          have fin : ∀ {g1 : Nat} {caps1 : List CV} (hvs0 : True), callR P tt s g' caps c.args.toList c.argTypes.toList o.dst vs K → callE P tt s g' caps c.args.toList c.argTypes.toList o.dst vs K := fun _ hR => by
            unfold callE
            split
            · exact hR
            · exact CallC.r hR
          refine fin (g1 := 0) (caps1 := []) trivial ?_
          unfold callR
          rw [h1]
          simp only [frzKeys]
          refine hvs _ ?_
          simp only [h3]
          obtain ⟨res, hsat, h⟩ := h
          refine ⟨res, hsat, ?_⟩
          split at h
          · rename_i sz rows
            unfold dstK at h
            split at h
            · rename_i d hd
              split at h
              · rename_i hf hp
                simp only [forceH_eq] at h
                have hsc : PV.scalar (.one (.rs 0)) = false := rfl
                simp only [hsc, hd]
                have key : newsK (64 * d) [(0, .arr sz rows)] s fun s'' => forceP (PV.map (shiftX (64 * d)) (.one (.rs 0))) fun pv => K pv s'' := by
                  simp only [newsK, find, newK, killK, Nat.add_zero, hf, hp, forceH_eq, forceP_eq]
                  exact h
                split
                · exact key
                · simp only [ruRes]; exact key
              · exact h.elim
            · exact h.elim
          · rename_i pv
            cases hsc : PV.scalar pv with
            | true => simp only [hsc]; exact h
            | false => simp only [hsc]; exact h
          · rename_i pv x xs hno
            unfold dstK at h
            split at h
            · rename_i d hd
              split at h
              · rename_i N hN hru
                simp only [forceP_eq, forceH_eq] at h
                have key : newsK (64 * d) (x :: xs) s fun s'' => forceP (PV.map (shiftX (64 * d)) pv) fun pv => K pv s'' := newsK_fresh hN (by simp only [forceP_eq]; exact h)
                simp only [hd]
                split
                · rename_i e; cases e
                · rename_i e _; cases e
                · have e : ∀ {d' : Nat}, some d = some d' → d = d' := fun h => by cases h; rfl
                  obtain rfl := e (by assumption)
                  split
                  · exact key
                  · simp only [hru]; exact key
                · rename_i e _ _; cases e
              · exact h.elim
            · exact h.elim
        · exact h.elim
      · exact h.elim
    · exact h.elim
  · exact h.elim

theorem rowsOf_ex {h : Heap} {sz : Nat} {v : PV} {K : List (List CV) → Prop} (hh : rowsOf h sz v K) : ∃ es, K es ∧ ∀ K' : List (List CV) → Prop, K' es → rowsOf h sz v K' := by
  unfold rowsOf at hh ⊢
  split at hh
  · split at hh
    · exact ⟨_, hh, fun K' h => h⟩
    · exact hh.elim
  · exact ⟨_, hh, fun K' h => h⟩
  · split at hh
    · exact ⟨_, hh, fun K' h => h⟩
    · exact hh.elim
  · split at hh
    · split at hh
      · exact ⟨_, hh, fun K' h => h⟩
      · exact hh.elim
    · exact hh.elim
  · split at hh
    · split at hh
      · exact ⟨_, hh, fun K' h => h⟩
      · exact hh.elim
    · exact hh.elim
  · exact hh.elim

theorem opS_ex {tt : TT} {o : Oper} {K : PV → St → Prop} (h : opS tt s o K) : ∃ u H, K u ⟨s.regs, H⟩ ∧ ∀ (s' : St) (K' : PV → St → Prop), (∀ n, Operand.tmp n ∈ o.op.operands → s.regs[n]? = s'.regs[n]?) → s'.heap = s.heap → K' u ⟨s'.regs, H⟩ → opS tt s' o K' := by
  unfold opS at h
  split at h
  · rename_i t a x hop
    split at h
    · exact h.elim
    · rename_i m hm
      obtain ⟨p, h, hp⟩ := ex_opd _ _ _ _ h
      obtain ⟨v, h, hv⟩ := ex_opd _ _ _ _ h
      split at h
      · rename_i k r o2 n hk _
        split at h
        · rename_i ys sz rows h1 h2 h3
          split at h
          · rename_i h4 h5
            simp only [forceH_eq] at h
            refine ⟨_, _, h, fun s' K' hr hh hK => ?_⟩
            unfold opS
            simp only [hop, hm]
            rw [← opd_congr (x := a) (r := s.regs) (r' := s'.regs) (fun n hn => hr n (by simp [hop, Op.operands, hn])) (tt 0)]
            refine hp _ ?_
            rw [← opd_congr (x := x) (r := s.regs) (r' := s'.regs) (fun n hn => hr n (by simp [hop, Op.operands, hn])) (tt t)]
            refine hv _ ?_
            simp only [hk, h1, hh, h2, h3, h4, h5, forceH_eq]
            exact hK
          · exact h.elim
        · exact h.elim
      · exact h.elim
  · rename_i c hop
    split at h
    · rename_i x y t t2 hcal hargs hts
      obtain ⟨d, hd, h⟩ := dstK_iff h
      obtain ⟨v, h, hv⟩ := ex_opd _ _ _ _ h
      obtain ⟨u, h, hu⟩ := ex_opd _ _ _ _ h
      split at h
      · have hik : (tt t2).ik = none := by assumption
        unfold appendT at h
        split at h
        · rename_i sz bytes hsl hok
          obtain ⟨es, h, hes⟩ := rowsOf_ex h
          split at h
          · rename_i ap sz1 rows hf1 hf2 hp
            obtain ⟨p, hpp, h⟩ := h
            have hb := h.b
            simp only [forceH_eq] at hb
            refine ⟨_, _, hb, fun s' K' hr hh hK => ?_⟩
            unfold opS
            simp only [hop, hcal, hargs, hts]
            unfold dstK
            rw [hd]
            simp only
            have hmx : ∀ z : Operand, z ∈ [x, y] → ∀ n, z = .tmp n → s.regs[n]? = s'.regs[n]? := fun z hz n hn => hr n (by
              subst hn
              have hz : Operand.tmp n ∈ c.args := by rw [← Array.mem_toList_iff, hargs]; exact hz
              simp only [hop, Op.operands, Call.operands, hcal]
              simp [hz])
            rw [← opd_congr (x := x) (r := s.regs) (r' := s'.regs) (fun n hn => hmx x (by simp) n hn) (tt t)]
            refine hv _ ?_
            rw [← opd_congr (x := y) (r := s.regs) (r' := s'.regs) (fun n hn => hmx y (by simp) n hn) (tt t2)]
            refine hu _ ?_
            simp only [hik]
            unfold appendT
            simp only [hsl, hok, hh]
            refine hes _ ?_
            simp only [hf1, hf2, hp]
            refine ⟨p, hpp, h.a, ?_⟩
            simp only [forceH_eq]
            obtain ⟨g', h'⟩ := s'
            simp only at hh hK ⊢
            first | exact hK | (subst hh; exact hK)
          · exact h.elim
        · exact h.elim
      · exact h.elim
    · exact h.elim
  · exact h.elim

theorem opM_of_S {tt : TT} {o : Oper} {K : PV → St → Prop} (h : opS tt s o K) : opM P tt s o K := by
  unfold opS at h
  split at h
  · rename_i t a x hop
    simp only [opM, hop, storeM]
    split at h
    · exact h.elim
    · rename_i m hm
      obtain ⟨p, h, hp⟩ := ex_opd _ _ _ _ h
      obtain ⟨v, h, hv⟩ := ex_opd _ _ _ _ h
      refine hp _ (hv _ ?_)
      split at h
      · rename_i k r o2 n hk _
        simp only [hk, frzKeys]
        refine hp _ (hv _ ?_)
        split at h
        · rename_i ys sz rows h1 h2 h3
          simp only [h1, h2, h3]
          split at h
          · rename_i h4 h5
            simp only [h4, h5]
            exact h
          · exact h.elim
        · exact h.elim
      · exact h.elim
  · rename_i c hop
    split at h
    · rename_i x y t t2 hcal hargs hts
      simp only [opM, hop, hcal, restM, hargs, hts]
      refine dstK_mon _ _ _ (fun k h => (ex_opd _ _ _).mon _ _ (fun v h => (ex_opd _ _ _).mon _ _ (fun u h => ?_) h) h) h
      split at h
      · have hik : (tt t2).ik = none := by assumption
        simp only [hik, appendA]
        exact h
      · exact h.elim
    · exact h.elim
  · exact h.elim

variable (P) in
def stepF (tt : TT) (ops : Array Oper) (n i : Nat) (K : St → Prop) (s : St) : Prop :=
  match ops[i]? with
  | none => K s
  | some o => guardK ops.toList o s fun run => match run, isQ n i o, isG n i o with
    | true, true, _ => opQ P tt s o fun v => putK o.dst v s K
    | true, false, true => opF P tt s o fun v s => putK o.dst v s K
    | true, false, false => match isS n o with
      | true => opS tt s o fun v s => putK o.dst v s K
      | false => opM P tt s o fun v s => putK o.dst v s K
    | false, _, _ => putK o.dst (.one .undef) s K

theorem isQ_lt {n i : Nat} {o : Oper} (h : isQ n i o = true) : i < n := by
  unfold isQ at h
  split at h
  · unfold isB at h
    split at h
    · split at h
      · rename_i _ h1 h2
        exact Nat.lt_of_lt_of_le (Nat.blt_eq.mp h2) (Nat.mod_le _ _)
      · cases h
    · cases h
  · split at h
    · rename_i h1; exact Nat.lt_of_lt_of_le (Nat.blt_eq.mp h1) (Nat.mod_le _ _)
    · unfold isP at h
      split at h
      · split at h
        · rename_i h1 h2
          have h1 := Nat.le_of_ble_eq_true h1
          have h2 := Nat.blt_eq.mp h2
          omega
        · cases h
      · split at h
        · rename_i h1 h2
          have h1 := Nat.le_of_ble_eq_true h1
          have h2 := Nat.blt_eq.mp h2
          omega
        · cases h
      · cases h

theorem stepF_mono {tt : TT} {ops : Array Oper} {n i : Nat} {K K' : St → Prop} (hk : ∀ s, K s → K' s) (h : stepF P tt ops n i K s) : stepF P tt ops n i K' s := by
  unfold stepF at h ⊢
  cases ho : ops[i]? with
  | none => simp only [ho] at h ⊢; exact hk _ h
  | some o =>
    simp only [ho] at h ⊢
    obtain ⟨run, h1, h2⟩ := guardK_ex _ h
    refine h2 _ ?_
    have pm : ∀ {v : PV} {s : St}, putK o.dst v s K → putK o.dst v s K' := fun h => putK_iff.2 ⟨(putK_iff.1 h).1, hk _ (putK_iff.1 h).2⟩
    cases run with
    | false => exact pm h1
    | true =>
      cases hd : isQ n i o with
      | true => simp only [hd] at h1 ⊢; exact (ex_opQ P tt s o).mon _ _ (fun v h => pm h) h1
      | false =>
        simp only [hd] at h1 ⊢
        cases hf : isG n i o with
        | true =>
          simp only [hf] at h1 ⊢
          obtain ⟨u, N, g1, g2, g3⟩ := opF_ex h1
          exact g3 s _ (fun _ _ => rfl) g1 (pm g2)
        | false =>
          simp only [hf] at h1 ⊢
          cases hS : isS n o with
          | true =>
            simp only [hS] at h1 ⊢
            obtain ⟨_, H, g1, g2⟩ := opS_ex h1
            exact g2 s _ (fun _ _ => rfl) rfl (pm g1)
          | false => simp only [hS] at h1 ⊢; exact opM_mono (fun v s h => pm h) h1

theorem stepF_Q {tt : TT} {ops : Array Oper} {n i : Nat} {o : Oper} {K : St → Prop} (ho : ops[i]? = some o) (hn : isQ n i o = true) : stepF P tt ops n i K s ↔ stepA P tt ops n i K s := by
  unfold stepF stepA
  rw [ho]
  have e : (fun run => match run, isQ n i o, isG n i o with
      | true, true, _ => opQ P tt s o fun v => putK o.dst v s K
      | true, false, true => opF P tt s o fun v s => putK o.dst v s K
      | true, false, false => match isS n o with
        | true => opS tt s o fun v s => putK o.dst v s K
        | false => opM P tt s o fun v s => putK o.dst v s K
      | false, _, _ => putK o.dst (.one .undef) s K) = (fun run => match run, decide (i < n) with
      | true, true => opQ P tt s o fun v => putK o.dst v s K
      | true, false => opM P tt s o fun v s => putK o.dst v s K
      | false, _ => putK o.dst (.one .undef) s K) := by
    funext run
    cases run <;> simp [hn, isQ_lt hn]
  simp only [e]
  exact Iff.rfl

theorem YieldQ.grow {tt : TT} {ops : Array Oper} {o : Oper} {v : PV} {s s' : St} (hy : YieldQ P tt ops o v s) (hg : Grows s.heap s'.heap) (hr : ∀ n ∈ o.looksAt ops, s.regs[n]? = s'.regs[n]?) (hd : s'.has o.dst ↔ s.has o.dst) : YieldQ P tt ops o v s' := by
  have h1 : YieldQ P tt ops o v ⟨s'.regs, s.heap⟩ := hy.of_same rfl hr (by cases hdst : o.dst <;> simp only [hdst, St.has] at hd ⊢ <;> exact hd)
  obtain ⟨h0, run, g1, g2⟩ := h1
  refine ⟨by cases hdst : o.dst <;> simp only [hdst, St.has] at h0 ⊢ <;> exact h0, run, fun K hk => ?_, ?_⟩
  · rw [guardK_congr (s := s') (s' := ⟨s'.regs, s.heap⟩) (fun n _ => rfl)]; exact g1 K hk
  · cases run with
    | false => exact g2
    | true => exact fun K hk => opQ_grow hg (g2 K hk)

/-- A new slice is made while a read is still to come. -/
theorem stepF_put {tt : TT} {ops : Array Oper} {n j : Nat} {oi oj : Oper} {v : PV} (hj : ops[j]? = some oj) (hn : isQ n j oj = false) (hf : isG n j oj = true) (hap : oi.apart ops oj = true) {K : St → Prop} (hy : YieldQ P tt ops oi v s) (h : stepF P tt ops n j K (s.put oi.dst v)) :
    stepF P tt ops n j (fun s' => YieldQ P tt ops oi v s' ∧ K (s'.put oi.dst v)) s := by
  obtain ⟨h1, h2, h3⟩ := Oper.apart_spec hap
  have hregs : ∀ m ∈ oj.looksAt ops, (s.put oi.dst v).regs[m]? = s.regs[m]? := fun m hm => St.put_get fun e he => fun e2 => h1 e he (e2 ▸ hm)
  unfold stepF at h ⊢
  simp only [hj] at h ⊢
  obtain ⟨run, g1, g2⟩ := guardK_ex _ h
  rw [guardK_congr hregs] at g2
  refine g2 _ ?_
  have hput : ∀ {u : PV} {t : St}, Grows s.heap t.heap → t.regs = s.regs → putK oj.dst u (⟨(s.put oi.dst v).regs, t.heap⟩ : St) K → putK oj.dst u t (fun s' => YieldQ P tt ops oi v s' ∧ K (s'.put oi.dst v)) := fun {u t} hg ht hk => by
    rw [putK_iff] at hk ⊢
    have e : (⟨(s.put oi.dst v).regs, t.heap⟩ : St) = t.put oi.dst v := by
      cases hd : oi.dst <;> simp only [St.put, hd, ← ht]
    rw [e] at hk
    refine ⟨(St.has_put (d := oi.dst) (v := v)).1 hk.1, ?_, ?_⟩
    · refine hy.grow (by rw [St.put_heap]; exact hg) (fun m hm => ?_) ?_
      · rw [St.put_get (fun e he => fun e2 => h3 e he (e2 ▸ hm)), ht]
      · rw [St.has_put]
        cases hd : oi.dst <;> simp only [St.has, ht]
    · rw [← St.put_comm h2]; exact hk.2
  cases run with
  | false =>
    simp only at g1 ⊢
    exact hput (fun _ _ h => h) rfl (by rw [← St.put_heap s oi.dst v]; exact g1)
  | true =>
    simp only [hn, hf] at g1 ⊢
    obtain ⟨u, N, q1, q2, q3⟩ := opF_ex g1
    rw [St.put_heap] at q1 q2
    exact q3 s _ (fun m hm => hregs m (mem_looks hm)) q1 (hput (t := ⟨s.regs, insAll N s.heap⟩) (Grows.insAll q1) rfl q2)

theorem opQ_R {tt : TT} {r : List PV} {h h' : Heap} {o : Oper} (hR : isR o = true) {K : PV → Prop} (hq : opQ P tt ⟨r, h⟩ o K) : opQ P tt ⟨r, h'⟩ o K := by
  unfold isR at hR
  split at hR
  · rename_i x hop; simp only [opQ, hop] at hq ⊢; exact hq
  · rename_i t x y z hop; simp only [opQ, hop] at hq ⊢; exact hq
  · cases hR
theorem YieldQ.heap {tt : TT} {ops : Array Oper} {o : Oper} {v : PV} {s s' : St} (hR : isR o = true) (hy : YieldQ P tt ops o v s) (hr : ∀ n ∈ o.looksAt ops, s.regs[n]? = s'.regs[n]?) (hd : s'.has o.dst ↔ s.has o.dst) : YieldQ P tt ops o v s' := by
  have h1 : YieldQ P tt ops o v ⟨s'.regs, s.heap⟩ := hy.of_same rfl hr (by cases hdst : o.dst <;> simp only [hdst, St.has] at hd ⊢ <;> exact hd)
  obtain ⟨h0, run, g1, g2⟩ := h1
  refine ⟨by cases hdst : o.dst <;> simp only [hdst, St.has] at h0 ⊢ <;> exact h0, run, fun K hk => ?_, ?_⟩
  · rw [guardK_congr (s := s') (s' := ⟨s'.regs, s.heap⟩) (fun n _ => rfl)]; exact g1 K hk
  · cases run with
    | false => exact g2
    | true => exact fun K hk => opQ_R hR (g2 K hk)

/-- A store while something is still to come that looks at registers alone. -/
theorem stepF_putS {tt : TT} {ops : Array Oper} {n j : Nat} {oi oj : Oper} {v : PV} (hj : ops[j]? = some oj) (hn : isQ n j oj = false) (hf : isG n j oj = false) (hS : isS n oj = true) (hR : isR oi = true) (hap : oi.apart ops oj = true) {K : St → Prop} (hy : YieldQ P tt ops oi v s) (h : stepF P tt ops n j K (s.put oi.dst v)) :
    stepF P tt ops n j (fun s' => YieldQ P tt ops oi v s' ∧ K (s'.put oi.dst v)) s := by
  obtain ⟨h1, h2, h3⟩ := Oper.apart_spec hap
  have hregs : ∀ m ∈ oj.looksAt ops, (s.put oi.dst v).regs[m]? = s.regs[m]? := fun m hm => St.put_get fun e he => fun e2 => h1 e he (e2 ▸ hm)
  unfold stepF at h ⊢
  simp only [hj] at h ⊢
  obtain ⟨run, g1, g2⟩ := guardK_ex _ h
  rw [guardK_congr hregs] at g2
  refine g2 _ ?_
  have hput : ∀ {u : PV} {t : St}, t.regs = s.regs → putK oj.dst u (⟨(s.put oi.dst v).regs, t.heap⟩ : St) K → putK oj.dst u t (fun s' => YieldQ P tt ops oi v s' ∧ K (s'.put oi.dst v)) := fun {u t} ht hk => by
    rw [putK_iff] at hk ⊢
    have e : (⟨(s.put oi.dst v).regs, t.heap⟩ : St) = t.put oi.dst v := by
      cases hd : oi.dst <;> simp only [St.put, hd, ← ht]
    rw [e] at hk
    refine ⟨(St.has_put (d := oi.dst) (v := v)).1 hk.1, ?_, ?_⟩
    · refine hy.heap hR (fun m hm => ?_) ?_
      · rw [St.put_get (fun e he => fun e2 => h3 e he (e2 ▸ hm)), ht]
      · rw [St.has_put]
        cases hd : oi.dst <;> simp only [St.has, ht]
    · rw [← St.put_comm h2]; exact hk.2
  cases run with
  | false =>
    simp only at g1 ⊢
    exact hput rfl (by rw [← St.put_heap s oi.dst v]; exact g1)
  | true =>
    simp only [hn, hf, hS] at g1 ⊢
    obtain ⟨_, H, q1, q2⟩ := opS_ex g1
    exact q2 s _ (fun m hm => hregs m (mem_looks hm)) (St.put_heap s oi.dst v).symm (hput (t := ⟨s.regs, H⟩) rfl q1)

/-- What is made new, whenever it is made. -/
def YieldF (P : Program) (tt : TT) (o : Oper) (u : PV) (N : Heap) (s : St) : Prop :=
  s.has o.dst ∧ FreshN N s.heap ∧ ∀ (s' : St) (K' : PV → St → Prop), (∀ n, Operand.tmp n ∈ o.op.operands → s.regs[n]? = s'.regs[n]?) → FreshN N s'.heap → K' u ⟨s'.regs, insAll N s'.heap⟩ → opF P tt s' o K'
def St.putF (s : St) (d : Option Nat) (u : PV) (N : Heap) : St := (⟨s.regs, insAll N s.heap⟩ : St).put d u

theorem guard_none {ops : List Oper} {o : Oper} (hg : o.guard.isNone = true) {s : St} {K : Bool → Prop} : guardK ops o s K ↔ K true := by
  unfold guardK
  cases hgo : o.guard with
  | none => exact Iff.rfl
  | some x => rw [hgo] at hg; cases hg

theorem yieldF_of_step {tt : TT} {ops : Array Oper} {n i : Nat} {o : Oper} {K : St → Prop} (hi : ops[i]? = some o) (hq : isQ n i o = false) (hf : isG n i o = true) (hg : o.guard.isNone = true) (h : stepF P tt ops n i K s) : ∃ u N, YieldF P tt o u N s ∧ K (s.putF o.dst u N) := by
  unfold stepF at h
  simp only [hi] at h
  rw [guard_none hg] at h
  simp only [hq, hf] at h
  obtain ⟨u, N, h1, h2, h3⟩ := opF_ex h
  rw [putK_iff] at h2
  exact ⟨u, N, ⟨by cases hd : o.dst <;> simp only [hd, St.has] at h2 ⊢ <;> exact h2.1, h1, h3⟩, h2.2⟩
theorem YieldF.step {tt : TT} {ops : Array Oper} {n i : Nat} {o : Oper} {u : PV} {N : Heap} {K : St → Prop} (hi : ops[i]? = some o) (hq : isQ n i o = false) (hf : isG n i o = true) (hg : o.guard.isNone = true) (hy : YieldF P tt o u N s) (h : K (s.putF o.dst u N)) : stepF P tt ops n i K s := by
  unfold stepF
  simp only [hi]
  rw [guard_none hg]
  simp only [hq, hf]
  refine hy.2.2 s _ (fun _ _ => rfl) hy.2.1 (putK_iff.2 ⟨?_, h⟩)
  have := hy.1
  cases hd : o.dst <;> simp only [hd, St.has] at this ⊢ <;> exact this

/-- Two that make something new. -/
theorem stepF_putF {tt : TT} {ops : Array Oper} {n j : Nat} {oi oj : Oper} {u : PV} {N : Heap} (hj : ops[j]? = some oj) (hn : isQ n j oj = false) (hf : isG n j oj = true) (hgj : oj.guard.isNone = true) (hap : oi.apart ops oj = true) {K : St → Prop} (hy : YieldF P tt oi u N s) (h : stepF P tt ops n j K (s.putF oi.dst u N)) :
    stepF P tt ops n j (fun s' => YieldF P tt oi u N s' ∧ K (s'.putF oi.dst u N)) s := by
  obtain ⟨h1, h2, h3⟩ := Oper.apart_spec hap
  obtain ⟨u2, N2, hy2, hk⟩ := yieldF_of_step hj hn hf hgj h
  have hh : (s.putF oi.dst u N).heap = insAll N s.heap := by unfold St.putF; rw [St.put_heap]
  have hk2 := hy2.2.1
  rw [hh] at hk2
  have hdis : ∀ k o, find N2 k = some o → find N k = none ∧ find s.heap k = none := fun k o h => by
    have := hk2.2 k o h
    rw [find_insAll k hy.2.1] at this
    cases e : find N k with
    | none => rw [e] at this; exact ⟨rfl, this⟩
    | some o' => rw [e] at this; cases this
  have hdis2 : ∀ k o, find N k = some o → find N2 k = none := fun k o h => by
    cases e : find N2 k with
    | none => rfl
    | some o' => have := (hdis k o' e).1; rw [h] at this; cases this
  have hk3 : FreshN N2 s.heap := ⟨hk2.1, fun k o h => (hdis k o h).2⟩
  have hregs : ∀ m ∈ oj.looksAt ops, (s.putF oi.dst u N).regs[m]? = s.regs[m]? := fun m hm => by
    unfold St.putF
    rw [St.put_get fun e he => fun e2 => h1 e he (e2 ▸ hm)]
  have hy2' : YieldF P tt oj u2 N2 s := ⟨by
      have := hy2.1
      unfold St.putF at this
      rw [St.has_put] at this
      cases hd : oj.dst <;> simp only [hd, St.has] at this ⊢ <;> exact this, hk3, fun s' K' hr hf' hK => hy2.2.2 s' K' (fun m hm => (hregs m (mem_looks hm)).trans (hr m hm)) hf' hK⟩
  refine hy2'.step hj hn hf hgj ⟨⟨?_, ?_, fun s' K' hr hf' hK => hy.2.2 s' K' (fun m hm => ?_) hf' hK⟩, ?_⟩
  · unfold St.putF
    rw [St.has_put]
    have := hy.1
    cases hd : oi.dst <;> simp only [hd, St.has] at this ⊢ <;> exact this
  · unfold St.putF
    rw [St.put_heap]
    refine ⟨hy.2.1.1, fun k o h => ?_⟩
    show find (insAll N2 s.heap) k = none
    rw [find_insAll k hk3, hdis2 k o h]
    exact hy.2.1.2 k o h
  · refine Eq.trans ?_ (hr m hm)
    unfold St.putF
    rw [St.put_get fun e he => fun e2 => h3 e he (e2 ▸ mem_looks hm)]
  · have e : (s.putF oj.dst u2 N2).putF oi.dst u N = (s.putF oi.dst u N).putF oj.dst u2 N2 := by
      unfold St.putF
      have e1 : ∀ (t : St) (d : Option Nat) (v : PV) (H : Heap), (⟨(t.put d v).regs, H⟩ : St) = (⟨t.regs, H⟩ : St).put d v := fun t d v H => by cases d <;> rfl
      rw [e1, e1, St.put_heap, St.put_heap, ← St.put_comm h2, insAll_comm hdis2]
    rw [e]; exact hk

/-! ### what waits for what -/
inductive Dep (ops : Array Oper) : Nat → Nat → Prop
  | one {j i : Nat} {oj : Oper} (h : ops[j]? = some oj) (hw : waitsFor oj i = true) : Dep ops j i
  | via {j l i : Nat} {oj : Oper} (h : ops[j]? = some oj) (hw : waitsFor oj l = true) (hd : Dep ops l i) : Dep ops j i

theorem depsOf_waits {o : Oper} {i : Nat} (h : i ∈ depsOf o) : waitsFor o i = true := by
  obtain ⟨e, he, h⟩ := List.mem_filterMap.1 h
  split at h
  · rename_i hb
    cases h
    exact Array.any_eq_true'.2 ⟨e, by simpa using he, by simp [hb]⟩
  · cases h

theorem clos_dep {ops : Array Oper} : ∀ {r : List Oper} {acc : List (List Nat)}, (∀ j, r[j]? = ops[acc.length + j]?) → (∀ j i, i ∈ acc.getD j [] → Dep ops j i) → ∀ j i, i ∈ (clos r acc).getD j [] → Dep ops j i
  | [], acc, _, h => h
  | o :: r, acc, hr, h => by
    refine clos_dep (r := r) (acc := acc ++ [dedup (depsOf o ++ (depsOf o).flatMap fun d => acc.getD d [])]) (fun j => ?_) (fun j i hi => ?_)
    · have := hr (j + 1)
      rw [List.length_append, List.length_singleton, show acc.length + 1 + j = acc.length + (j + 1) by omega]
      simpa using this
    · have ho : ops[acc.length]? = some o := by simpa using (hr 0).symm
      rw [List.getD_eq_getElem?_getD] at hi
      by_cases hj : j < acc.length
      · rw [List.getElem?_append_left hj, ← List.getD_eq_getElem?_getD] at hi
        exact h j i hi
      · by_cases e : j = acc.length
        · subst e
          rw [List.getElem?_append_right (Nat.le_refl _), Nat.sub_self] at hi
          simp only [List.getElem?_cons_zero, Option.getD_some] at hi
          rcases List.mem_append.1 (dedup_mem.1 hi) with hi | hi
          · exact .one ho (depsOf_waits hi)
          · obtain ⟨l, hl, hi⟩ := List.mem_flatMap.1 hi
            exact .via ho (depsOf_waits hl) (h l i hi)
        · rw [List.getElem?_eq_none (by simp; omega)] at hi
          simp at hi

/-- What has been taken is closed. -/
def Closed (ops : Array Oper) (listed : Array Bool) : Prop := ∀ j i, listed.getD j true = true → j < ops.size → Dep ops j i → listed.getD i true = true
theorem ready_dep {ops : Array Oper} {listed : Array Bool} (hc : Closed ops listed) {j i : Nat} (hj : j ∈ Region.ready .any ops listed) (hd : Dep ops j i) : listed.getD i true = true := by
  obtain ⟨_, oj, hoj, hall⟩ := mem_ready.1 hj
  have key : ∀ {l : Nat}, waitsFor oj l = true → listed.getD l true = true := fun {l} hw => by
    unfold waitsFor at hw
    obtain ⟨e, he, hb⟩ := Array.any_eq_true'.1 hw
    simp only [Bool.and_eq_true, beq_iff_eq] at hb
    have h1 := hall e he hb.1
    rw [hb.2] at h1
    rcases Nat.lt_or_ge l listed.size with h | h
    · simp only [Array.getD_eq_getD_getElem?, Array.getElem?_eq_getElem h, Option.getD_some] at h1 ⊢; exact h1
    · simp [Array.getD_eq_getD_getElem?, Array.getElem?_eq_none h]
  cases hd with
  | one h hw => rw [hoj] at h; cases h; exact key hw
  | via h hw hd =>
    rw [hoj] at h; cases h
    rename_i l
    have hl := key hw
    rcases Nat.lt_or_ge l ops.size with hlt | hge
    · exact hc l i hl hlt hd
    · cases hd with
      | one h _ => rw [Array.getElem?_eq_none hge] at h; cases h
      | via h _ _ => rw [Array.getElem?_eq_none hge] at h; cases h
theorem Closed.add {ops : Array Oper} {listed : Array Bool} (hc : Closed ops listed) {k : Nat} (hk : k ∈ Region.ready .any ops listed) : Closed ops (listed.setIfInBounds k true) := fun j i hj hlt hd => by
  have up : ∀ {i : Nat}, listed.getD i true = true → (listed.setIfInBounds k true).getD i true = true := fun {i} h => by
    by_cases e : k = i
    · subst e
      rcases Nat.lt_or_ge k listed.size with h2 | h2
      · simp [Array.getD_eq_getD_getElem?, h2]
      · simp [Array.getD_eq_getD_getElem?, Array.getElem?_eq_none (xs := listed.setIfInBounds k true) (i := k) (by simpa using h2)]
    · rw [getD_set_ne true e]; exact h
  by_cases e : k = j
  · subst e; exact up (ready_dep hc hk hd)
  · rw [getD_set_ne true e] at hj
    exact up (hc j i hj hlt hd)

variable (P) in
def anyF (tt : TT) (ops : Array Oper) (n : Nat) (K : St → Prop) : Nat → Array Bool → St → Prop
  | 0, listed, s => Region.ready .any ops listed = [] ∧ K s
  | f + 1, listed, s => (Region.ready .any ops listed = [] → K s) ∧ ∀ i ∈ Region.ready .any ops listed, stepF P tt ops n i (anyF tt ops n K f (listed.setIfInBounds i true)) s

theorem wpAny_of_anyF {tt : TT} (hT : TOK P tt) {ops : Array Oper} {n : Nat} {Q : Exit → Act → World → Prop} {K : St → Prop} (hQ : True) (hK : ∀ s' a' w' L' I', K s' → Inv C L' I' s' a' w' → Q .normal a' w') :
    ∀ (f : Nat) (listed : Array Bool) (s : St) (a : Act) (w : World) (L : Lay) (I : Nat → Prop), anyF P tt ops n K f listed s → Inv C L I s a w → wpAny P .any ops Q f listed a w
  | 0, listed, s, a, w, L, I, h, hi => ⟨h.1, hK s a w L I h.2 hi⟩
  | f + 1, listed, s, a, w, L, I, h, hi => by
    refine ⟨fun h0 => hK s a w L I (h.1 h0) hi, fun i hm => ?_⟩
    have h := h.2 i hm
    unfold stepF at h
    unfold wpOp
    split at h
    · rename_i ho
      simp only [ho]
      exact wpAny_of_anyF hT hQ hK f _ s a w L I h hi
    · rename_i o ho
      simp only [ho]
      obtain ⟨run, h, hw⟩ := guardK_sound hi h
      rw [hw]
      split at h
      · simp only [if_true]
        obtain ⟨pv, h, hg⟩ := opQ_sound hT hi h
        refine hg _ Q hQ fun v w' I' hi' hv => ?_
        obtain ⟨s2, h2, hi2⟩ := hi'.put h hv
        exact wpAny_of_anyF hT hQ hK f _ _ _ _ _ _ h2 hi2
      · simp only [if_true]
        obtain ⟨pv, s', h, hg⟩ := opM_sound hT hi (opM_of_F h)
        refine hg _ Q hQ fun v w' I' L' hi' hv => ?_
        obtain ⟨s2, h2, hi2⟩ := hi'.put h hv
        exact wpAny_of_anyF hT hQ hK f _ _ _ _ _ _ h2 hi2
      · simp only [if_true]
        have h : opM P tt s o fun v s => putK o.dst v s (anyF P tt ops n K f (listed.setIfInBounds i true)) := by
          split at h
          · exact opM_of_S h
          · exact h
        obtain ⟨pv, s', h, hg⟩ := opM_sound hT hi h
        refine hg _ Q hQ fun v w' I' L' hi' hv => ?_
        obtain ⟨s2, h2, hi2⟩ := hi'.put h hv
        exact wpAny_of_anyF hT hQ hK f _ _ _ _ _ _ h2 hi2
      · simp only [Bool.false_eq_true, if_false]
        obtain ⟨s2, h2, hi2⟩ := hi.put (v := undef) h rfl
        exact wpAny_of_anyF hT hQ hK f _ _ _ _ _ _ h2 hi2

theorem anyF_first {tt : TT} {ops : Array Oper} {n : Nat} {K : St → Prop} {i : Nat} {oi : Oper} {v : PV} (hi : ops[i]? = some oi) (hin : isQ n i oi = true) :
    ∀ (f : Nat) (listed : Array Bool) (s : St), Closed ops listed →
      (∀ j oj, ops[j]? = some oj → j ≠ i → listed.getD j true = false → ¬ Dep ops j i → (isQ n j oj = true ∨ isG n j oj = true ∨ (isR oi = true ∧ isS n oj = true)) ∧ oi.apart ops oj = true) →
      i ∈ Region.ready .any ops listed → YieldQ P tt ops oi v s →
      anyF P tt ops n K f (listed.setIfInBounds i true) (s.put oi.dst v) → anyF P tt ops n K (f + 1) listed s := by
  intro f
  induction f with
  | zero =>
    intro listed s _ _ hr hy H
    refine ⟨fun h => (by rw [h] at hr; cases hr), fun j hj => ?_⟩
    by_cases hji : j = i
    · subst hji; exact (stepF_Q hi hin).2 (hy.step hi (isQ_lt hin) H)
    · have := ready_mono hj hji
      rw [H.1] at this
      cases this
  | succ f ih =>
    intro listed s hcl hfree hr hy H
    refine ⟨fun h => (by rw [h] at hr; cases hr), fun j hj => ?_⟩
    by_cases hji : j = i
    · subst hji; exact (stepF_Q hi hin).2 (hy.step hi (isQ_lt hin) H)
    · have h1 := H.2 j (ready_mono hj hji)
      obtain ⟨hjun, oj, hoj, hall⟩ := mem_ready.1 hj
      have hnot : ¬ Dep ops j i := fun hd => by
        have := ready_dep hcl hj hd
        rw [(mem_ready.1 hr).1] at this; cases this
      obtain ⟨hjn, hap⟩ := hfree j oj hoj hji hjun hnot
      have h2 : stepF P tt ops n j (fun s' => YieldQ P tt ops oi v s' ∧ anyF P tt ops n K f ((listed.setIfInBounds i true).setIfInBounds j true) (s'.put oi.dst v)) s := by
        cases hq : isQ n j oj with
        | true => exact (stepF_Q hoj hq).2 (step_put hoj (isQ_lt hq) hap hy ((stepF_Q hoj hq).1 h1))
        | false =>
          cases hf : isG n j oj with
          | true => exact stepF_put hoj hq hf hap hy h1
          | false =>
            rcases hjn with hjn | hjn | hjn
            · rw [hq] at hjn; cases hjn
            · rw [hf] at hjn; cases hjn
            · exact stepF_putS hoj hq hf hjn.2 hjn.1 hap hy h1
      have hfree' : ∀ k ok, ops[k]? = some ok → k ≠ i → (listed.setIfInBounds j true).getD k true = false → ¬ Dep ops k i → (isQ n k ok = true ∨ isG n k ok = true ∨ (isR oi = true ∧ isS n ok = true)) ∧ oi.apart ops ok = true := fun k ok hk hki hun hno => by
        refine hfree k ok hk hki ?_ hno
        by_cases hjk : j = k
        · subst hjk; exact hjun
        · rw [getD_set_ne true hjk] at hun; exact hun
      refine stepF_mono (fun s' h3 => ih (listed.setIfInBounds j true) s' (hcl.add hj) hfree' (ready_mono hr (Ne.symm hji)) h3.1 ?_) h2
      rw [Array.setIfInBounds_comm _ _ hji]
      exact h3.2

theorem anyF_firstF {tt : TT} {ops : Array Oper} {n : Nat} {K : St → Prop} {i : Nat} {oi : Oper} {u : PV} {N : Heap} (hi : ops[i]? = some oi) (hiq : isQ n i oi = false) (hig : isG n i oi = true) (hgd : oi.guard.isNone = true) :
    ∀ (f : Nat) (listed : Array Bool) (s : St), Closed ops listed →
      (∀ j oj, ops[j]? = some oj → j ≠ i → listed.getD j true = false → ¬ Dep ops j i → isQ n j oj = false ∧ isG n j oj = true ∧ oj.guard.isNone = true ∧ oi.apart ops oj = true) →
      i ∈ Region.ready .any ops listed → YieldF P tt oi u N s →
      anyF P tt ops n K f (listed.setIfInBounds i true) (s.putF oi.dst u N) → anyF P tt ops n K (f + 1) listed s := by
  intro f
  induction f with
  | zero =>
    intro listed s _ _ hr hy H
    refine ⟨fun h => (by rw [h] at hr; cases hr), fun j hj => ?_⟩
    by_cases hji : j = i
    · subst hji; exact hy.step hi hiq hig hgd H
    · have := ready_mono hj hji
      rw [H.1] at this
      cases this
  | succ f ih =>
    intro listed s hcl hfree hr hy H
    refine ⟨fun h => (by rw [h] at hr; cases hr), fun j hj => ?_⟩
    by_cases hji : j = i
    · subst hji; exact hy.step hi hiq hig hgd H
    · have h1 := H.2 j (ready_mono hj hji)
      obtain ⟨hjun, oj, hoj, hall⟩ := mem_ready.1 hj
      have hnot : ¬ Dep ops j i := fun hd => by
        have := ready_dep hcl hj hd
        rw [(mem_ready.1 hr).1] at this; cases this
      obtain ⟨hjq, hjg, hjgd, hap⟩ := hfree j oj hoj hji hjun hnot
      have h2 := stepF_putF hoj hjq hjg hjgd hap hy h1
      have hfree' : ∀ k ok, ops[k]? = some ok → k ≠ i → (listed.setIfInBounds j true).getD k true = false → ¬ Dep ops k i → isQ n k ok = false ∧ isG n k ok = true ∧ ok.guard.isNone = true ∧ oi.apart ops ok = true := fun k ok hk hki hun hno => by
        refine hfree k ok hk hki ?_ hno
        by_cases hjk : j = k
        · subst hjk; exact hjun
        · rw [getD_set_ne true hjk] at hun; exact hun
      refine stepF_mono (fun s' h3 => ih (listed.setIfInBounds j true) s' (hcl.add hj) hfree' (ready_mono hr (Ne.symm hji)) h3.1 ?_) h2
      rw [Array.setIfInBounds_comm _ _ hji]
      exact h3.2

variable (P) in
def lexF (tt : TT) (ops : Array Oper) (n : Nat) (K : St → Prop) : List (Nat × Bool × Oper) → St → Prop
  | [], s => K s
  | x :: r, s => stepF P tt ops n x.1 (lexF tt ops n K r) s

theorem regG_lex {tt : TT} {ops : Array Oper} {n : Nat} {K : St → Prop} : ∀ {σ : List (Nat × Bool × Oper)} {s : St}, (∀ x ∈ σ, ops[x.1]? = some x.2.2 ∧ x.2.1 = isQ n x.1 x.2.2) → regG P tt n ops.toList σ s K → lexF P tt ops n K σ s
  | [], s, _, h => h
  | (i, q, o) :: r, s, hr, h => by
    obtain ⟨ho, hq⟩ := hr _ (List.mem_cons_self ..)
    replace ho : ops[_]? = some o := ho
    replace hq : q = isQ n _ o := hq
    have hr' : ∀ x ∈ r, ops[x.1]? = some x.2.2 ∧ x.2.1 = isQ n x.1 x.2.2 := fun x hx => hr x (List.mem_cons_of_mem _ hx)
    simp only [regG] at h
    simp only [lexF, stepF, ho]
    obtain ⟨run, h1, h2⟩ := guardK_ex _ h
    refine h2 _ ?_
    rw [← hq]
    have fin : ∀ {v : PV} {s' : St}, splitK (isGuard i (r.map (·.2.2))) v (fun v => putK o.dst v s' fun s => regG P tt n ops.toList r s K) → putK o.dst v s' (lexF P tt ops n K r) := fun h => by
      have := splitK_sound h
      rw [putK_iff] at this ⊢
      exact ⟨this.1, regG_lex hr' this.2⟩
    cases run with
    | false => simp only at h1 ⊢; exact putK_iff.2 ⟨(putK_iff.1 h1).1, regG_lex hr' (putK_iff.1 h1).2⟩
    | true =>
      cases q with
      | true => simp only at h1 ⊢; exact (ex_opQ P tt s o).mon _ _ (fun v h => fin h) h1
      | false =>
        cases hf : isG n i o with
        | true =>
          simp only [hf] at h1 ⊢
          obtain ⟨u, N, g1, g2, g3⟩ := opF_ex h1
          exact g3 s _ (fun _ _ => rfl) g1 (fin g2)
        | false =>
          simp only [hf] at h1 ⊢
          cases hS : isS n o with
          | true =>
            simp only [hS] at h1 ⊢
            obtain ⟨_, H, g1, g2⟩ := opS_ex h1
            refine g2 s _ (fun _ _ => rfl) rfl ?_
            rw [putK_iff] at g1 ⊢
            exact ⟨g1.1, regG_lex hr' g1.2⟩
          | false => simp only [hS] at h1 ⊢; exact opM_mono (fun v s' h => fin h) h1

theorem anyF_lex {tt : TT} {ops : Array Oper} {n : Nat} {K : St → Prop} {cl : List (List Nat)} (hcl0 : ∀ j i, i ∈ cl.getD j [] → Dep ops j i) : ∀ {σ : List (Nat × Bool × Oper)} {done : List Nat} {listed : Array Bool} {s : St},
    (∀ x ∈ σ, ops[x.1]? = some x.2.2 ∧ x.2.1 = isQ n x.1 x.2.2) → okG ops n cl done σ = true → (σ.map (·.1)).Nodup → (∀ x ∈ σ, x.1 ∉ done) → (∀ j ∈ done, j < ops.size) → (∀ j, j < ops.size → j ∈ done ∨ j ∈ σ.map (·.1)) → listed.size = ops.size → (∀ j, j < ops.size → (listed.getD j true = true ↔ j ∈ done)) → Closed ops listed →
    lexF P tt ops n K σ s → anyF P tt ops n K σ.length listed s
  | [], done, listed, s, _, _, _, _, _, hall, hsz, hl, _, h => by
    refine ⟨?_, h⟩
    cases hr : Region.ready .any ops listed with
    | nil => rfl
    | cons i l =>
      exfalso
      have hm : i ∈ Region.ready .any ops listed := by rw [hr]; simp
      obtain ⟨hun, o, ho, _⟩ := mem_ready.1 hm
      have hlt : i < ops.size := (Array.getElem?_eq_some_iff.1 ho).1
      have := (hl i hlt).2 (by simpa using hall i hlt)
      rw [hun] at this; cases this
  | (k, q, o) :: r, done, listed, s, hσ, hok, hnd, hfr, hdl, hall, hsz, hl, hcl, h => by
    simp only [okG, Bool.and_eq_true] at hok
    obtain ⟨⟨hok1, hok2⟩, hok3⟩ := hok
    obtain ⟨ho, hq⟩ := hσ _ (List.mem_cons_self ..)
    replace ho : ops[_]? = some o := ho
    replace hq : q = isQ n _ o := hq
    have hr' : ∀ x ∈ r, ops[x.1]? = some x.2.2 ∧ x.2.1 = isQ n x.1 x.2.2 := fun x hx => hσ x (List.mem_cons_of_mem _ hx)
    have hklt : k < ops.size := (Array.getElem?_eq_some_iff.1 ho).1
    have hnd' := List.nodup_cons.1 hnd
    have hready : k ∈ Region.ready .any ops listed := by
      refine mem_ready.2 ⟨?_, o, ho, fun e he hb => ?_⟩
      · have := mt (hl k hklt).1 (hfr _ (List.mem_cons_self ..))
        simpa using this
      · have h1 := (Array.all_eq_true_iff_forall_mem.1 hok1) e he
        simp only [hb, Bool.not_true, Bool.false_or] at h1
        have hm := memB_iff.1 h1
        rcases Nat.lt_or_ge e.on ops.size with hlt | hge
        · have h2 := (hl e.on hlt).2 hm
          have h3 : e.on < listed.size := by omega
          simp only [Array.getD_eq_getD_getElem?, Array.getElem?_eq_getElem h3, Option.getD_some] at h2 ⊢
          exact h2
        · exact absurd (hdl _ hm) (by omega)
    have hl' : ∀ j, j < ops.size → ((listed.setIfInBounds k true).getD j true = true ↔ j ∈ k :: done) := fun j hj => by
      by_cases e : k = j
      · subst e
        have : k < listed.size := by omega
        simp [Array.getD_eq_getD_getElem?, this]
      · rw [getD_set_ne true e, hl j hj]
        simp [Ne.symm e]
    have hfr' : ∀ x ∈ r, x.1 ∉ k :: done := fun x hx hm => by
      rcases List.mem_cons.1 hm with e | hm
      · exact hnd'.1 (List.mem_map.2 ⟨x, hx, e⟩)
      · exact hfr x (List.mem_cons_of_mem _ hx) hm
    have hall' : ∀ j, j < ops.size → j ∈ k :: done ∨ j ∈ r.map (·.1) := fun j hj => by
      rcases hall j hj with h | h
      · exact .inl (List.mem_cons_of_mem _ h)
      · rcases List.mem_cons.1 h with e | h
        · exact .inl (by simp at e; simp [e])
        · exact .inr h
    have hrest : ∀ j oj, ops[j]? = some oj → j ≠ k → listed.getD j true = false → ∃ x ∈ r, x.1 = j ∧ x.2.2 = oj ∧ x.2.1 = isQ n j oj := fun j oj hj hjk hun => by
      have hjlt : j < ops.size := (Array.getElem?_eq_some_iff.1 hj).1
      rcases hall' j hjlt with h | h
      · rcases List.mem_cons.1 h with e | h
        · exact absurd e hjk
        · rw [(hl j hjlt).2 h] at hun; cases hun
      · obtain ⟨x, hx, e⟩ := List.mem_map.1 h
        obtain ⟨h1, h2⟩ := hr' x hx
        rw [e, hj] at h1
        cases h1
        exact ⟨x, hx, e, rfl, e ▸ h2⟩
    simp only [lexF] at h
    have go : ∀ {s' : St}, lexF P tt ops n K r s' → anyF P tt ops n K r.length (listed.setIfInBounds k true) s' := fun h => anyF_lex hcl0 hr' hok3 hnd'.2 hfr' (fun j hj => (List.mem_cons.1 hj).elim (fun e => e ▸ hklt) (hdl j)) hall' (by simpa using hsz) hl' (hcl.add hready) h
    cases q with
    | true =>
      obtain ⟨v, hy, hK⟩ := yieldQ_of_step ho (isQ_lt hq.symm) ((stepF_Q ho hq.symm).1 h)
      refine anyF_first ho hq.symm r.length listed s hcl (fun j oj hj hjk hun hno => ?_) hready hy (go hK)
      obtain ⟨x, hx, e1, e2, e3⟩ := hrest j oj hj hjk hun
      have := List.all_eq_true.1 hok2 x hx
      simp only [Bool.and_eq_true, Bool.or_eq_true, e1, e2, e3] at this
      obtain ⟨h1, h2⟩ := this
      refine ⟨?_, ?_⟩
      · rcases h2 with ((h2 | h2) | h2) | h2
        · exact .inl h2
        · exact .inr (.inl h2)
        · exact .inr (.inr h2)
        · exact absurd (hcl0 j k (memB_iff.1 h2)) hno
      · rcases h1 with h | h
        · exact absurd (.one hj h) hno
        · exact h
    | false =>
      by_cases hall2 : (r.all fun x => memB k (cl.getD x.1 [])) = true
      · refine ⟨fun h => (by rw [h] at hready; cases hready), fun i hi => ?_⟩
        have hik : i = k := by
          refine Classical.byContradiction fun hne => ?_
          obtain ⟨hun, oi, hoi, _⟩ := mem_ready.1 hi
          obtain ⟨x, hx, e1, e2, e3⟩ := hrest i oi hoi hne hun
          have := List.all_eq_true.1 hall2 x hx
          rw [e1] at this
          have hd := ready_dep hcl hi (hcl0 i k (memB_iff.1 this))
          rw [(mem_ready.1 hready).1] at hd; cases hd
        subst hik
        exact stepF_mono (fun s' h => go h) h
      · have hex : ∃ x ∈ r, ¬ memB k (cl.getD x.1 []) = true := by
          refine Classical.byContradiction fun hn => hall2 (List.all_eq_true.2 fun x hx => ?_)
          exact Classical.byContradiction fun h2 => hn ⟨x, hx, h2⟩
        obtain ⟨x0, hx0, hx1⟩ := hex
        have h0 := List.all_eq_true.1 hok2 x0 hx0
        simp only [Bool.or_eq_true, Bool.and_eq_true] at h0
        obtain ⟨⟨⟨⟨hgk, hgn⟩, _⟩, _⟩, _⟩ := h0.resolve_left hx1
        obtain ⟨u, N, hy, hK⟩ := yieldF_of_step ho hq.symm hgk hgn h
        refine anyF_firstF ho hq.symm hgk hgn r.length listed s hcl (fun j oj hj hjk hun hno => ?_) hready hy (go hK)
        obtain ⟨x, hx, e1, e2, e3⟩ := hrest j oj hj hjk hun
        have := List.all_eq_true.1 hok2 x hx
        simp only [Bool.or_eq_true, Bool.and_eq_true, Bool.not_eq_true', e1, e2, e3] at this
        rcases this with h2 | h2
        · exact absurd (hcl0 j k (memB_iff.1 h2)) hno
        · exact ⟨h2.1.1.2, h2.1.2.1, h2.1.2.2, h2.2⟩

def isE (n : Nat) (x : Nat × Bool × Oper) : Bool := isQ n x.1 x.2.2 && Nat.blt x.1 (Nat.mod n 1000)
theorem qsOf_cons {n i : Nat} {o : Oper} {os : List Oper} (q : Bool) : (isE n (i, q, o) = true ∧ qsOf n i (o :: os) = (i, true, o) :: qsOf n (i + 1) os ∧ nqOf n i (o :: os) = nqOf n (i + 1) os ∧ isQ n i o = true) ∨ (isE n (i, q, o) = false ∧ qsOf n i (o :: os) = qsOf n (i + 1) os ∧ nqOf n i (o :: os) = (i, isQ n i o, o) :: nqOf n (i + 1) os) := by
  unfold isE
  simp only [qsOf, nqOf]
  cases h1 : isQ n i o <;> cases h2 : Nat.blt i (Nat.mod n 1000) <;> simp
theorem places {i : Nat} {o : Oper} {os : List Oper} {x : Nat × Bool × Oper} : (∃ j, x.1 = i + j ∧ (o :: os)[j]? = some x.2.2) ↔ (x.1 = i ∧ o = x.2.2) ∨ ∃ j, x.1 = i + 1 + j ∧ os[j]? = some x.2.2 := by
  constructor
  · rintro ⟨j, h1, h2⟩
    cases j with
    | zero => exact .inl ⟨by simpa using h1, by simpa using h2⟩
    | succ j => exact .inr ⟨j, by omega, by simpa using h2⟩
  · rintro (⟨h1, h2⟩ | ⟨j, h1, h2⟩)
    · exact ⟨0, by simpa using h1, by simpa using h2⟩
    · exact ⟨j + 1, by omega, by simpa using h2⟩
theorem mem_qsOf {n : Nat} {x : Nat × Bool × Oper} : ∀ {os : List Oper} {i : Nat}, x ∈ qsOf n i os ↔ x.2.1 = true ∧ isE n x = true ∧ ∃ j, x.1 = i + j ∧ os[j]? = some x.2.2
  | [], i => by simp [qsOf]
  | o :: os, i => by
    have ih := mem_qsOf (n := n) (x := x) (os := os) (i := i + 1)
    rw [places]
    rcases qsOf_cons (n := n) (i := i) (o := o) (os := os) true with ⟨h1, h2, _, h3⟩ | ⟨h1, h2, _⟩
    · rw [h2, List.mem_cons, ih]
      constructor
      · rintro (h | ⟨g1, g2, g3⟩)
        · subst h; exact ⟨rfl, h1, .inl ⟨rfl, rfl⟩⟩
        · exact ⟨g1, g2, .inr g3⟩
      · rintro ⟨g1, g2, ⟨g3, g4⟩ | g3⟩
        · refine .inl ?_
          obtain ⟨a, b, c⟩ := x
          simp only at g1 g3 g4; subst g1 g3 g4; rfl
        · exact .inr ⟨g1, g2, g3⟩
    · rw [h2, ih]
      constructor
      · rintro ⟨g1, g2, g3⟩; exact ⟨g1, g2, .inr g3⟩
      · rintro ⟨g1, g2, ⟨g3, g4⟩ | g3⟩
        · unfold isE at g2 h1
          rw [g3, ← g4] at g2
          simp only at h1
          rw [h1] at g2; cases g2
        · exact ⟨g1, g2, g3⟩
theorem mem_nqOf {n : Nat} {x : Nat × Bool × Oper} : ∀ {os : List Oper} {i : Nat}, x ∈ nqOf n i os ↔ x.2.1 = isQ n x.1 x.2.2 ∧ isE n x = false ∧ ∃ j, x.1 = i + j ∧ os[j]? = some x.2.2
  | [], i => by simp [nqOf]
  | o :: os, i => by
    have ih := mem_nqOf (n := n) (x := x) (os := os) (i := i + 1)
    rw [places]
    rcases qsOf_cons (n := n) (i := i) (o := o) (os := os) true with ⟨h1, _, h2, h3⟩ | ⟨h1, _, h2⟩
    · rw [h2, ih]
      constructor
      · rintro ⟨g1, g2, g3⟩; exact ⟨g1, g2, .inr g3⟩
      · rintro ⟨g1, g2, ⟨g3, g4⟩ | g3⟩
        · unfold isE at g2 h1
          rw [g3, ← g4] at g2
          simp only at h1
          rw [h1] at g2; cases g2
        · exact ⟨g1, g2, g3⟩
    · rw [h2, List.mem_cons, ih]
      constructor
      · rintro (h | ⟨g1, g2, g3⟩)
        · subst h; exact ⟨rfl, h1, .inl ⟨rfl, rfl⟩⟩
        · exact ⟨g1, g2, .inr g3⟩
      · rintro ⟨g1, g2, ⟨g3, g4⟩ | g3⟩
        · refine .inl ?_
          obtain ⟨a, b, c⟩ := x
          simp only at g1 g3 g4; subst g3 g4; rw [g1]
        · exact .inr ⟨g1, g2, g3⟩
theorem nodup_qs {n : Nat} : ∀ {os : List Oper} {i : Nat}, ((qsOf n i os).map (·.1)).Nodup ∧ ((nqOf n i os).map (·.1)).Nodup
  | [], i => by simp [qsOf, nqOf]
  | o :: os, i => by
    have ih := nodup_qs (n := n) (os := os) (i := i + 1)
    rcases qsOf_cons (n := n) (i := i) (o := o) (os := os) true with ⟨_, h1, h2, _⟩ | ⟨_, h1, h2⟩
    · rw [h1, h2]
      refine ⟨List.nodup_cons.2 ⟨fun h => ?_, ih.1⟩, ih.2⟩
      obtain ⟨x, hx, e⟩ := List.mem_map.1 h
      obtain ⟨_, _, j, h1, _⟩ := mem_qsOf.1 hx
      simp only at e; omega
    · rw [h1, h2]
      refine ⟨ih.1, List.nodup_cons.2 ⟨fun h => ?_, ih.2⟩⟩
      obtain ⟨x, hx, e⟩ := List.mem_map.1 h
      obtain ⟨_, _, j, h1, _⟩ := mem_nqOf.1 hx
      simp only at e; omega
theorem len_qs {n : Nat} : ∀ {os : List Oper} {i : Nat}, (qsOf n i os).length + (nqOf n i os).length = os.length
  | [], i => rfl
  | o :: os, i => by
    have ih := len_qs (n := n) (os := os) (i := i + 1)
    rcases qsOf_cons (n := n) (i := i) (o := o) (os := os) true with ⟨_, h1, h2, _⟩ | ⟨_, h1, h2⟩ <;> rw [h1, h2] <;> simp only [List.length_cons] <;> omega

theorem anyF_draw {tt : TT} {ops : Array Oper} {n : Nat} {K : St → Prop} (hd : drawF ops n = true) {s : St} (h : regG P tt n ops.toList (ordG ops n) s K) : anyF P tt ops n K ops.size (Array.replicate ops.size false) s := by
  have hd2 := hd
  unfold drawF at hd2
  simp only [Bool.and_eq_true] at hd2
  replace hd2 := hd2.2
  have hmem : ∀ x ∈ ordG ops n, ops[x.1]? = some x.2.2 ∧ x.2.1 = isQ n x.1 x.2.2 := fun x hx => by
    rcases List.mem_append.1 hx with hx | hx
    · obtain ⟨h1, h2, j, h3, h4⟩ := mem_qsOf.1 hx
      unfold isE at h2
      rw [Bool.and_eq_true] at h2
      exact ⟨by rw [h3, Nat.zero_add]; simpa using h4, by rw [h1, h2.1]⟩
    · obtain ⟨h1, h2, j, h3, h4⟩ := mem_nqOf.1 hx
      exact ⟨by rw [h3, Nat.zero_add]; simpa using h4, h1⟩
  have hlen : (ordG ops n).length = ops.size := by
    rw [ordG, List.length_append, len_qs]; simp
  rw [← hlen]
  have := anyF_lex (P := P) (tt := tt) (K := K) (n := n) (cl := clos ops.toList []) (fun j i => clos_dep (ops := ops) (r := ops.toList) (acc := []) (fun j => by simp) (fun j i h => by simp at h) j i) (σ := ordG ops n) (done := []) (listed := Array.replicate ops.size false) (s := s) hmem hd2 ?_ (by simp) (by simp) (fun j hj => .inr ?_) (by simp) (fun j hj => by simp [hj]) (fun j i hj hlt hd => by simp [hlt] at hj) (regG_lex hmem h)
  · rw [hlen] at this ⊢; exact this
  · rw [ordG, List.map_append]
    refine List.nodup_append.2 ⟨nodup_qs.1, nodup_qs.2, fun a ha b hb e => ?_⟩
    obtain ⟨x, hx, ex⟩ := List.mem_map.1 ha
    obtain ⟨z, hz, ez⟩ := List.mem_map.1 hb
    obtain ⟨_, h2, j, h3, h4⟩ := mem_qsOf.1 hx
    obtain ⟨_, g2, j', g3, g4⟩ := mem_nqOf.1 hz
    have : j = j' := by omega
    subst this
    have g5 : x.2.2 = z.2.2 := Option.some.inj (h4.symm.trans g4)
    unfold isE at h2 g2
    rw [show z.1 = x.1 by omega, ← g5, h2] at g2; cases g2
  · have ho : ops.toList[j]? = some ops[j] := by simp [hj]
    cases hq : isE n (j, true, ops[j]) with
    | true => exact List.mem_map.2 ⟨(j, true, ops[j]), List.mem_append_left _ (mem_qsOf.2 ⟨rfl, hq, j, by simp, ho⟩), rfl⟩
    | false => exact List.mem_map.2 ⟨(j, isQ n j ops[j], ops[j]), List.mem_append_right _ (mem_nqOf.2 ⟨rfl, hq, j, by simp, ho⟩), rfl⟩
end

end Go.Proofs.Ytjolahiflldepab.Pi
