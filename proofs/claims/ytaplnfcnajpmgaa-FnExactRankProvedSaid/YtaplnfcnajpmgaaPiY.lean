/- Drawn regions that make a slice: their own order serves every order. No statement of the seat is proved here. -/
import Derived.Test.YtaplnfcnajpmgaaPiS18
namespace Go.Proofs.Ytaplnfcnajpmgaa.Pi
open Go Go.RowKit
set_option linter.unusedVariables false
set_option linter.unusedSimpArgs false

/-! ### what is read stays as it is when the heap grows -/
def Grows (h h' : Heap) : Prop := ∀ k o, find h k = some o → find h' k = some o
theorem Grows.ins {h : Heap} {k : Nat} {o : Ob} (hn : find h k = none) : Grows h (ins k o h) := fun j o' hj => by
  rw [find_ins k o h j hn, if_neg (fun e => by rw [e, hn] at hj; cases hj)]; exact hj

theorem load_grow {h h' : Heap} (hg : Grows h h') {t : TI} {a : PV} {K : PV → Prop} (hl : loadK h t a K) : loadK h' t a K := by
  unfold loadK at hl ⊢
  split at hl
  · exact hl
  · split at hl
    · exact hl
    · split at hl
      · rename_i h1 h2; rw [hg _ _ h1, h2]; exact hl
      · exact hl.elim
    · split at hl
      · rename_i h1 h2; rw [hg _ _ h1, h2]; exact hl
      · exact hl.elim
    · split at hl
      · rename_i h1 h2; rw [hg _ _ h1, h2]; exact hl
      · exact hl.elim
    · exact hl.elim
theorem ixAddr_grow {h h' : Heap} (hg : Grows h h') {t : TI} {a i : PV} {K : PV → Prop} (hl : indexAddrK h t a i K) : indexAddrK h' t a i K := by
  unfold indexAddrK intIx at hl ⊢
  split at hl
  · split at hl
    · exact hl
    · split at hl
      · rename_i h1; rw [hg _ _ h1]; exact hl
      · exact hl.elim
    · split at hl
      · rename_i h1; rw [hg _ _ h1]; exact hl
      · exact hl.elim
    · split at hl
      · rename_i h1; rw [hg _ _ h1]; exact hl
      · exact hl.elim
    · exact hl.elim
  · exact hl.elim
theorem len_grow {h h' : Heap} (hg : Grows h h') {t : TI} {a : PV} {K : PV → Prop} (hl : lenK h t a K) : lenK h' t a K := by
  unfold lenK at hl ⊢
  split at hl
  · exact hl
  · exact hl
  · split at hl
    · rename_i h1; rw [hg _ _ h1]; exact hl
    · exact hl.elim
  · exact hl
  · split at hl
    · rename_i h1; rw [hg _ _ h1]; exact hl
    · exact hl.elim
  · exact hl
  · exact hl.elim
theorem slice_grow {h h' : Heap} (hg : Grows h h') {t : TI} {x : PV} {lo hi : Option Int} {K : PV → Prop} (hl : sliceK h t x lo hi K) : sliceK h' t x lo hi K := by
  unfold sliceK at hl ⊢
  split at hl
  · exact hl
  · exact hl
  · split at hl
    · rename_i h1; rw [hg _ _ h1]; exact hl
    · exact hl.elim
  · exact hl
  · exact hl.elim
theorem snapX_grow {h h' : Heap} (hg : Grows h h') : ∀ {n : Nat} {x : XV} {y : CV}, snapX h n x = some y → snapX h' n x = some y := by
  have base : ∀ {n : Nat}, (∀ {x y}, snapX h n x = some y → snapX h' n x = some y) → ∀ {xs ys}, snapX.snapXs (snapX h n) xs = some ys → snapX.snapXs (snapX h' n) xs = some ys := fun {n} ih {xs} => by
    induction xs with
    | nil => exact fun h => h
    | cons x xs ihx =>
      intro ys hs
      simp only [snapX.snapXs] at hs ⊢
      split at hs
      · rename_i h1 h2
        rw [ih h1, ihx h2]; exact hs
      · cases hs
  intro n
  induction n with
  | zero =>
    intro x y hs
    cases x <;> simp only [snapX] at hs ⊢ <;> first | exact hs | (split at hs <;> first | (rename_i h1; rw [hg _ _ h1]; exact hs) | cases hs)
  | succ n ih =>
    intro x y hs
    cases x with
    | pb k off len =>
      simp only [snapX] at hs ⊢
      split at hs
      · rename_i h1
        rw [hg _ _ h1]
        simp only
        split at hs
        · rename_i h2
          rw [base ih h2]; exact hs
        · cases hs
      · cases hs
    | fb f pre k m post =>
      simp only [snapX] at hs ⊢
      split at hs
      · rename_i h1
        rw [hg _ _ h1]
        simp only
        split at hs
        · rename_i h2
          rw [base ih h2]; exact hs
        · cases hs
      · cases hs
    | _ => simp only [snapX] at hs ⊢; first | exact hs | (split at hs <;> first | (rename_i h1; rw [hg _ _ h1]; exact hs) | cases hs)
theorem snapXs_grow {h h' : Heap} (hg : Grows h h') {n : Nat} : ∀ {xs : List XV} {ys : List CV}, snapX.snapXs (snapX h n) xs = some ys → snapX.snapXs (snapX h' n) xs = some ys
  | [], ys, hs => hs
  | x :: xs, ys, hs => by
    simp only [snapX.snapXs] at hs ⊢
    split at hs
    · rename_i h1 h2
      rw [snapX_grow hg h1, snapXs_grow hg h2]; exact hs
    · cases hs
theorem snapB_grow {h h' : Heap} (hg : Grows h h') : ∀ {vs : List PV} {ys : List Comp}, snapB h vs = some ys → snapB h' vs = some ys
  | [], ys, hs => hs
  | v :: vs, ys, hs => by
    cases v with
    | tup _ => simp only [snapB] at hs; cases hs
    | one x =>
      simp only [snapB] at hs ⊢
      split at hs
      · rename_i y ys' h1 h2
        rw [snapB_grow hg h2]
        cases hx : snapX h 3 x with
        | none => simp [hx] at h1
        | some z => rw [hx] at h1; rw [snapX_grow hg hx, h1]; exact hs
      · cases hs
    | agg xs =>
      simp only [snapB] at hs ⊢
      split at hs
      · rename_i y ys' h1 h2
        rw [snapB_grow hg h2]
        cases hx : snapX.snapXs (snapX h 3) xs with
        | none => simp [hx] at h1
        | some z => rw [hx] at h1; rw [snapXs_grow hg hx, h1]; exact hs
      · cases hs
theorem callQ_grow {h h' : Heap} (hg : Grows h h') {P : Program} {f : PV} {vs : List PV} {K : PV → Prop} (hl : callQ P h f vs K) : callQ P h' f vs K := by
  unfold callQ at hl ⊢
  split at hl
  · rename_i h1
    rw [snapB_grow hg h1]
    exact hl
  · exact hl.elim
theorem optInt_mon' {r : List PV} {tt : TT} {x : Option Operand} {F G : Option Int → Prop} (h : ∀ n, F n → G n) (hx : optInt r tt x F) : optInt r tt x G := by
  unfold optInt at hx ⊢
  cases x with
  | none => exact h _ hx
  | some x =>
    refine (ex_opd _ _ _).mon _ _ (fun v hv => ?_) hx
    unfold intIx at hv ⊢
    split at hv
    · exact h _ hv
    · exact hv

theorem opQ_grow {P : Program} {tt : TT} {r : List PV} {h h' : Heap} (hg : Grows h h') {o : Oper} {K : PV → Prop} (hq : opQ P tt ⟨r, h⟩ o K) : opQ P tt ⟨r, h'⟩ o K := by
  cases hop : o.op <;> simp only [opQ, hop] at hq ⊢ <;> try exact hq
  case load t x => exact (ex_opd _ _ _).mon _ _ (fun v h => load_grow hg h) hq
  case slice t x lo hi mx =>
    cases mx with
    | some m => exact hq
    | none =>
      simp only at hq ⊢
      exact (ex_opd _ _ _).mon _ _ (fun v h => optInt_mon' (fun l h => optInt_mon' (fun m h => slice_grow hg h) h) h) hq
  case makeFunc fn first captured => cases fn <;> simp only at hq ⊢ <;> exact hq
  case indexAddr t x i => exact (ex_opd _ _ _).mon _ _ (fun v h => (ex_opd _ _ _).mon _ _ (fun u h => ixAddr_grow hg h) h) hq
  case call c =>
    split at hq
    · split at hq
      · exact (ex_opd _ _ _).mon _ _ (fun v h => len_grow hg h) hq
      · exact hq
    · exact hq
    · exact (ex_opd _ _ _).mon _ _ (fun v h => (ex_args _ _ _ _).mon _ _ (fun u h => callQ_grow hg h) h) hq
    · exact hq

section
variable {P : Program} {C : Ctx} {L : Lay} {I : Nat → Prop} {s : St} {a : Act} {w : World}

theorem opF_ex {tt : TT} {o : Oper} {K : PV → St → Prop} (h : opF tt s o K) : ∃ u k ob, find s.heap k = none ∧ K u ⟨s.regs, ins k ob s.heap⟩ ∧ ∀ (s' : St) (K' : PV → St → Prop), (∀ n, Operand.tmp n ∈ o.op.operands → s.regs[n]? = s'.regs[n]?) → find s'.heap k = none → K' u ⟨s'.regs, ins k ob s'.heap⟩ → opF tt s' o K' := by
  unfold opF at h
  split at h
  · rename_i t len ps hop
    split at h
    · rename_i sz by' hsl hlen hbig
      obtain ⟨vs, h, hall⟩ := ex_parts _ _ _ _ _ h
      split at h
      · rename_i hk
        split at h
        · rename_i rows hrows
          unfold dstK at h
          split at h
          · rename_i d hd
            split at h
            · rename_i hf hp
              simp only [forceH_eq] at h
              refine ⟨_, 64 * d, .arr sz rows, hf, h, fun s' K' hr hf' hK => ?_⟩
              unfold opF
              simp only [hop, hsl, hlen]
              have hbig' : Nat.ble (len * ((tt t).slice.getD (0, 0)).1) 16777216 = true := hbig
              rw [hsl] at hbig'
              simp only [hbig']
              rw [← parts_congr (xs := ps.toList) (r := s.regs) (r' := s'.regs) (fun n hn => hr n (by
                simp only [hop, Op.operands]
                simpa using hn))]
              refine hall _ ?_
              simp only [hk, hrows, dstK, hd, hf', hp, forceH_eq]
              exact hK
            · exact h.elim
          · exact h.elim
        · exact h.elim
      · exact h.elim
    · exact h.elim
  · rename_i t hop
    split at h
    · rename_i z zs hz
      unfold dstK at h
      split at h
      · rename_i d hd
        split at h
        · rename_i hf hp hfb
          simp only [forceH_eq] at h
          refine ⟨_, 64 * d, .box (z :: zs), hf, h, fun s' K' hr hf' hK => ?_⟩
          unfold opF
          simp only [hop, hz, dstK, hd, hf', hp, hfb, forceH_eq]
          exact hK
        · exact h.elim
      · exact h.elim
    · exact h.elim
  · exact h.elim

theorem opM_of_F {tt : TT} {o : Oper} {K : PV → St → Prop} (h : opF tt s o K) : opM P tt s o K := by
  unfold opF at h
  split at h
  · rename_i t len ps hop
    split at h
    · rename_i sz by' hsl hlen hbig
      have hbig' : Nat.ble (len * sz) 16777216 = true := by simpa only [hsl, Option.getD_some] using hbig
      simp only [opM, hop, hsl, hlen, Option.getD_some, hbig']
      obtain ⟨vs, h, hall⟩ := ex_parts _ _ _ _ _ h
      refine hall _ ?_
      split at h
      · rename_i hk
        have key : buildF tt t len sz ps.toList o vs s K := by
          unfold buildF
          rw [hk]
          simp only [frzKeys]
          refine hall _ ?_
          split at h
          · rename_i rows hrows
            unfold dstK at h ⊢
            split at h
            · split at h
              · rename_i hf hp
                unfold newK killK
                simp only [hp, hf]
                exact h
              · exact h.elim
            · exact h.elim
          · exact h.elim
        split
        · rename_i h1; rw [hk] at h1; cases h1
        · exact key
      · exact h.elim
    · exact h.elim
  · rename_i t hop
    simp only [opM, hop]
    split at h
    · rename_i z zs hz
      unfold dstK at h ⊢
      split at h
      · rename_i d _
        split at h
        · rename_i hf hp hfb
          simp only [hz]
          unfold freshBox at hfb
          split at hfb
          · cases hfb
          · rename_i hnn
            split at hfb
            · rename_i hal
              have key : boxM (64 * d) (z :: zs) s K := by
                unfold boxM
                simp only [hal, hfb]
                unfold newK killK
                simp only [hp, hf]
                exact h
              cases zs with
              | cons z2 zs2 => cases z <;> exact key
              | nil =>
                cases z with
                | nil sz => exact absurd rfl (hnn sz)
                | _ => exact key
            · cases hfb
        · exact h.elim
      · exact h.elim
    · exact h.elim
  · exact h.elim

variable (P) in
def stepF (tt : TT) (ops : Array Oper) (n i : Nat) (K : St → Prop) (s : St) : Prop :=
  match ops[i]? with
  | none => K s
  | some o => guardK ops.toList o s fun run => match run, decide (i < n), isF o with
    | true, true, _ => opQ P tt s o fun v => putK o.dst v s K
    | true, false, true => opF tt s o fun v s => putK o.dst v s K
    | true, false, false => opM P tt s o fun v s => putK o.dst v s K
    | false, _, _ => putK o.dst (.one .undef) s K

theorem stepA_of_F {tt : TT} {ops : Array Oper} {n i : Nat} {K : St → Prop} (h : stepF P tt ops n i K s) : stepA P tt ops n i K s := by
  unfold stepF at h
  unfold stepA
  cases ho : ops[i]? with
  | none => simp only [ho] at h ⊢; exact h
  | some o =>
    simp only [ho] at h ⊢
    obtain ⟨run, h1, h2⟩ := guardK_ex _ h
    refine h2 _ ?_
    cases run with
    | false => exact h1
    | true =>
      cases hd : decide (i < n) with
      | true => simp only [hd] at h1 ⊢; exact h1
      | false =>
        simp only [hd] at h1 ⊢
        cases hf : isF o with
        | true => simp only [hf] at h1; exact opM_of_F h1
        | false => simp only [hf] at h1; exact h1

theorem stepF_mono {tt : TT} {ops : Array Oper} {n i : Nat} {K K' : St → Prop} (hk : ∀ s, K s → K' s) (h : stepF P tt ops n i K s) : stepF P tt ops n i K' s := by
  unfold stepF at h ⊢
  cases ho : ops[i]? with
  | none => simp only [ho] at h ⊢; exact hk _ h
  | some o =>
    simp only [ho] at h ⊢
    obtain ⟨run, h1, h2⟩ := guardK_ex _ h
    refine h2 _ ?_
    have pm : ∀ {v : PV} {s : St}, putK o.dst v s K → putK o.dst v s K' := fun h => putK_iff.2 ⟨(putK_iff.1 h).1, hk _ (putK_iff.1 h).2⟩
    cases run with
    | false => exact pm h1
    | true =>
      cases hd : decide (i < n) with
      | true => simp only [hd] at h1 ⊢; exact (ex_opQ P tt s o).mon _ _ (fun v h => pm h) h1
      | false =>
        simp only [hd] at h1 ⊢
        cases hf : isF o with
        | true =>
          simp only [hf] at h1 ⊢
          obtain ⟨u, k, ob, g1, g2, g3⟩ := opF_ex h1
          exact g3 s _ (fun _ _ => rfl) g1 (pm g2)
        | false => simp only [hf] at h1 ⊢; exact opM_mono (fun v s h => pm h) h1

theorem stepF_Q {tt : TT} {ops : Array Oper} {n i : Nat} {K : St → Prop} (hn : i < n) : stepF P tt ops n i K s ↔ stepA P tt ops n i K s := by
  unfold stepF stepA
  cases ops[i]? with
  | none => exact Iff.rfl
  | some o =>
    have e : (fun run => match run, decide (i < n), isF o with
      | true, true, _ => opQ P tt s o fun v => putK o.dst v s K
      | true, false, true => opF tt s o fun v s => putK o.dst v s K
      | true, false, false => opM P tt s o fun v s => putK o.dst v s K
      | false, _, _ => putK o.dst (.one .undef) s K) = (fun run => match run, decide (i < n) with
      | true, true => opQ P tt s o fun v => putK o.dst v s K
      | true, false => opM P tt s o fun v s => putK o.dst v s K
      | false, _ => putK o.dst (.one .undef) s K) := by
      funext run
      cases run <;> simp [hn]
    simp only [e]
    exact Iff.rfl

theorem YieldQ.grow {tt : TT} {ops : Array Oper} {o : Oper} {v : PV} {s s' : St} (hy : YieldQ P tt ops o v s) (hg : Grows s.heap s'.heap) (hr : ∀ n ∈ o.looksAt ops, s.regs[n]? = s'.regs[n]?) (hd : s'.has o.dst ↔ s.has o.dst) : YieldQ P tt ops o v s' := by
  have h1 : YieldQ P tt ops o v ⟨s'.regs, s.heap⟩ := hy.of_same rfl hr (by cases hdst : o.dst <;> simp only [hdst, St.has] at hd ⊢ <;> exact hd)
  obtain ⟨h0, run, g1, g2⟩ := h1
  refine ⟨by cases hdst : o.dst <;> simp only [hdst, St.has] at h0 ⊢ <;> exact h0, run, fun K hk => ?_, ?_⟩
  · rw [guardK_congr (s := s') (s' := ⟨s'.regs, s.heap⟩) (fun n _ => rfl)]; exact g1 K hk
  · cases run with
    | false => exact g2
    | true => exact fun K hk => opQ_grow hg (g2 K hk)

/-- A new slice is made while a read is still to come. -/
theorem stepF_put {tt : TT} {ops : Array Oper} {n j : Nat} {oi oj : Oper} {v : PV} (hj : ops[j]? = some oj) (hn : ¬ j < n) (hf : isF oj = true) (hap : oi.apart ops oj = true) {K : St → Prop} (hy : YieldQ P tt ops oi v s) (h : stepF P tt ops n j K (s.put oi.dst v)) :
    stepF P tt ops n j (fun s' => YieldQ P tt ops oi v s' ∧ K (s'.put oi.dst v)) s := by
  obtain ⟨h1, h2, h3⟩ := Oper.apart_spec hap
  have hregs : ∀ m ∈ oj.looksAt ops, (s.put oi.dst v).regs[m]? = s.regs[m]? := fun m hm => St.put_get fun e he => fun e2 => h1 e he (e2 ▸ hm)
  unfold stepF at h ⊢
  simp only [hj] at h ⊢
  obtain ⟨run, g1, g2⟩ := guardK_ex _ h
  rw [guardK_congr hregs] at g2
  refine g2 _ ?_
  have hdn : decide (j < n) = false := by simpa using hn
  have hput : ∀ {u : PV} {t : St}, Grows s.heap t.heap → t.regs = s.regs → putK oj.dst u (⟨(s.put oi.dst v).regs, t.heap⟩ : St) K → putK oj.dst u t (fun s' => YieldQ P tt ops oi v s' ∧ K (s'.put oi.dst v)) := fun {u t} hg ht hk => by
    rw [putK_iff] at hk ⊢
    have e : (⟨(s.put oi.dst v).regs, t.heap⟩ : St) = t.put oi.dst v := by
      cases hd : oi.dst <;> simp only [St.put, hd, ← ht]
    rw [e] at hk
    refine ⟨(St.has_put (d := oi.dst) (v := v)).1 hk.1, ?_, ?_⟩
    · refine hy.grow (by rw [St.put_heap]; exact hg) (fun m hm => ?_) ?_
      · rw [St.put_get (fun e he => fun e2 => h3 e he (e2 ▸ hm)), ht]
      · rw [St.has_put]
        cases hd : oi.dst <;> simp only [St.has, ht]
    · rw [← St.put_comm h2]; exact hk.2
  cases run with
  | false =>
    simp only at g1 ⊢
    exact hput (fun _ _ h => h) rfl (by rw [← St.put_heap s oi.dst v]; exact g1)
  | true =>
    simp only [hdn, hf] at g1 ⊢
    obtain ⟨u, k, ob, q1, q2, q3⟩ := opF_ex g1
    rw [St.put_heap] at q1 q2
    exact q3 s _ (fun m hm => hregs m (mem_looks hm)) q1 (hput (t := ⟨s.regs, ins k ob s.heap⟩) (Grows.ins q1) rfl q2)

/-! ### what waits for what -/
inductive Dep (ops : Array Oper) : Nat → Nat → Prop
  | one {j i : Nat} {oj : Oper} (h : ops[j]? = some oj) (hw : waitsFor oj i = true) : Dep ops j i
  | via {j l i : Nat} {oj : Oper} (h : ops[j]? = some oj) (hw : waitsFor oj l = true) (hd : Dep ops l i) : Dep ops j i

theorem depsOf_waits {o : Oper} {i : Nat} (h : i ∈ depsOf o) : waitsFor o i = true := by
  obtain ⟨e, he, h⟩ := List.mem_filterMap.1 h
  split at h
  · rename_i hb
    cases h
    exact Array.any_eq_true'.2 ⟨e, by simpa using he, by simp [hb]⟩
  · cases h

theorem clos_dep {ops : Array Oper} : ∀ {r : List Oper} {acc : List (List Nat)}, (∀ j, r[j]? = ops[acc.length + j]?) → (∀ j i, i ∈ acc.getD j [] → Dep ops j i) → ∀ j i, i ∈ (clos r acc).getD j [] → Dep ops j i
  | [], acc, _, h => h
  | o :: r, acc, hr, h => by
    refine clos_dep (r := r) (acc := acc ++ [dedup (depsOf o ++ (depsOf o).flatMap fun d => acc.getD d [])]) (fun j => ?_) (fun j i hi => ?_)
    · have := hr (j + 1)
      rw [List.length_append, List.length_singleton, show acc.length + 1 + j = acc.length + (j + 1) by omega]
      simpa using this
    · have ho : ops[acc.length]? = some o := by simpa using (hr 0).symm
      rw [List.getD_eq_getElem?_getD] at hi
      by_cases hj : j < acc.length
      · rw [List.getElem?_append_left hj, ← List.getD_eq_getElem?_getD] at hi
        exact h j i hi
      · by_cases e : j = acc.length
        · subst e
          rw [List.getElem?_append_right (Nat.le_refl _), Nat.sub_self] at hi
          simp only [List.getElem?_cons_zero, Option.getD_some] at hi
          rcases List.mem_append.1 (dedup_mem.1 hi) with hi | hi
          · exact .one ho (depsOf_waits hi)
          · obtain ⟨l, hl, hi⟩ := List.mem_flatMap.1 hi
            exact .via ho (depsOf_waits hl) (h l i hi)
        · rw [List.getElem?_eq_none (by simp; omega)] at hi
          simp at hi

/-- What has been taken is closed. -/
def Closed (ops : Array Oper) (listed : Array Bool) : Prop := ∀ j i, listed.getD j true = true → j < ops.size → Dep ops j i → listed.getD i true = true
theorem ready_dep {ops : Array Oper} {listed : Array Bool} (hc : Closed ops listed) {j i : Nat} (hj : j ∈ Region.ready .any ops listed) (hd : Dep ops j i) : listed.getD i true = true := by
  obtain ⟨_, oj, hoj, hall⟩ := mem_ready.1 hj
  have key : ∀ {l : Nat}, waitsFor oj l = true → listed.getD l true = true := fun {l} hw => by
    unfold waitsFor at hw
    obtain ⟨e, he, hb⟩ := Array.any_eq_true'.1 hw
    simp only [Bool.and_eq_true, beq_iff_eq] at hb
    have h1 := hall e he hb.1
    rw [hb.2] at h1
    rcases Nat.lt_or_ge l listed.size with h | h
    · simp only [Array.getD_eq_getD_getElem?, Array.getElem?_eq_getElem h, Option.getD_some] at h1 ⊢; exact h1
    · simp [Array.getD_eq_getD_getElem?, Array.getElem?_eq_none h]
  cases hd with
  | one h hw => rw [hoj] at h; cases h; exact key hw
  | via h hw hd =>
    rw [hoj] at h; cases h
    rename_i l
    have hl := key hw
    rcases Nat.lt_or_ge l ops.size with hlt | hge
    · exact hc l i hl hlt hd
    · cases hd with
      | one h _ => rw [Array.getElem?_eq_none hge] at h; cases h
      | via h _ _ => rw [Array.getElem?_eq_none hge] at h; cases h
theorem Closed.add {ops : Array Oper} {listed : Array Bool} (hc : Closed ops listed) {k : Nat} (hk : k ∈ Region.ready .any ops listed) : Closed ops (listed.setIfInBounds k true) := fun j i hj hlt hd => by
  have up : ∀ {i : Nat}, listed.getD i true = true → (listed.setIfInBounds k true).getD i true = true := fun {i} h => by
    by_cases e : k = i
    · subst e
      rcases Nat.lt_or_ge k listed.size with h2 | h2
      · simp [Array.getD_eq_getD_getElem?, h2]
      · simp [Array.getD_eq_getD_getElem?, Array.getElem?_eq_none (xs := listed.setIfInBounds k true) (i := k) (by simpa using h2)]
    · rw [getD_set_ne true e]; exact h
  by_cases e : k = j
  · subst e; exact up (ready_dep hc hk hd)
  · rw [getD_set_ne true e] at hj
    exact up (hc j i hj hlt hd)

variable (P) in
def anyF (tt : TT) (ops : Array Oper) (n : Nat) (K : St → Prop) : Nat → Array Bool → St → Prop
  | 0, listed, s => Region.ready .any ops listed = [] ∧ K s
  | f + 1, listed, s => (Region.ready .any ops listed = [] → K s) ∧ ∀ i ∈ Region.ready .any ops listed, stepF P tt ops n i (anyF tt ops n K f (listed.setIfInBounds i true)) s

theorem stepA_mono2 {tt : TT} {ops : Array Oper} {n i : Nat} {K K' : St → Prop} (hk : ∀ s, K s → K' s) (h : stepA P tt ops n i K s) : stepA P tt ops n i K' s := by
  by_cases hn : i < n
  · exact stepA_mono hn hk h
  · cases ho : ops[i]? with
    | none => unfold stepA at h ⊢; simp only [ho] at h ⊢; exact hk _ h
    | some o => exact stepA_monoM ho (by simpa using hn) hk h

theorem anyA_of_F {tt : TT} {ops : Array Oper} {n : Nat} {K : St → Prop} : ∀ (f : Nat) (listed : Array Bool) (s : St), anyF P tt ops n K f listed s → anyA P tt ops n K f listed s
  | 0, listed, s, h => h
  | f + 1, listed, s, h => ⟨h.1, fun i hi => stepA_mono2 (fun s h => anyA_of_F f _ s h) (stepA_of_F (h.2 i hi))⟩

theorem anyF_first {tt : TT} {ops : Array Oper} {n : Nat} {K : St → Prop} {i : Nat} {oi : Oper} {v : PV} (hi : ops[i]? = some oi) (hin : i < n) :
    ∀ (f : Nat) (listed : Array Bool) (s : St), Closed ops listed →
      (∀ j oj, ops[j]? = some oj → j ≠ i → listed.getD j true = false → ¬ Dep ops j i → (j < n ∨ isF oj = true) ∧ oi.apart ops oj = true) →
      i ∈ Region.ready .any ops listed → YieldQ P tt ops oi v s →
      anyF P tt ops n K f (listed.setIfInBounds i true) (s.put oi.dst v) → anyF P tt ops n K (f + 1) listed s := by
  intro f
  induction f with
  | zero =>
    intro listed s _ _ hr hy H
    refine ⟨fun h => (by rw [h] at hr; cases hr), fun j hj => ?_⟩
    by_cases hji : j = i
    · subst hji; exact (stepF_Q hin).2 (hy.step hi hin H)
    · have := ready_mono hj hji
      rw [H.1] at this
      cases this
  | succ f ih =>
    intro listed s hcl hfree hr hy H
    refine ⟨fun h => (by rw [h] at hr; cases hr), fun j hj => ?_⟩
    by_cases hji : j = i
    · subst hji; exact (stepF_Q hin).2 (hy.step hi hin H)
    · have h1 := H.2 j (ready_mono hj hji)
      obtain ⟨hjun, oj, hoj, hall⟩ := mem_ready.1 hj
      have hnot : ¬ Dep ops j i := fun hd => by
        have := ready_dep hcl hj hd
        rw [(mem_ready.1 hr).1] at this; cases this
      obtain ⟨hjn, hap⟩ := hfree j oj hoj hji hjun hnot
      have h2 : stepF P tt ops n j (fun s' => YieldQ P tt ops oi v s' ∧ anyF P tt ops n K f ((listed.setIfInBounds i true).setIfInBounds j true) (s'.put oi.dst v)) s := by
        by_cases hlt : j < n
        · exact (stepF_Q hlt).2 (step_put hoj hlt hap hy ((stepF_Q hlt).1 h1))
        · exact stepF_put hoj hlt (hjn.resolve_left hlt) hap hy h1
      have hfree' : ∀ k ok, ops[k]? = some ok → k ≠ i → (listed.setIfInBounds j true).getD k true = false → ¬ Dep ops k i → (k < n ∨ isF ok = true) ∧ oi.apart ops ok = true := fun k ok hk hki hun hno => by
        refine hfree k ok hk hki ?_ hno
        by_cases hjk : j = k
        · subst hjk; exact hjun
        · rw [getD_set_ne true hjk] at hun; exact hun
      refine stepF_mono (fun s' h3 => ih (listed.setIfInBounds j true) s' (hcl.add hj) hfree' (ready_mono hr (Ne.symm hji)) h3.1 ?_) h2
      rw [Array.setIfInBounds_comm _ _ hji]
      exact h3.2

variable (P) in
def lexF (tt : TT) (ops : Array Oper) (n : Nat) (K : St → Prop) : Nat → List Oper → St → Prop
  | _, [], s => K s
  | k, _ :: r, s => stepF P tt ops n k (lexF tt ops n K (k + 1) r) s

theorem regF_lex {tt : TT} {ops : Array Oper} {n : Nat} {K : St → Prop} : ∀ {r : List Oper} {i : Nat} {s : St}, (∀ j, r[j]? = ops[i + j]?) → n ≤ i → regF P tt ops.toList i r s K → lexF P tt ops n K i r s
  | [], i, s, _, _, h => h
  | o :: r, i, s, hr, hn, h => by
    have ho : ops[i]? = some o := by simpa using (hr 0).symm
    have hr' : ∀ j, r[j]? = ops[i + 1 + j]? := fun j => by
      have := hr (j + 1)
      rw [show i + 1 + j = i + (j + 1) by omega]; simpa using this
    simp only [regF] at h
    simp only [lexF, stepF, ho]
    obtain ⟨run, h1, h2⟩ := guardK_ex _ h
    refine h2 _ ?_
    have hni : decide (i < n) = false := by simpa using hn
    rw [hni]
    have fin : ∀ {v : PV} {s' : St}, splitK (isGuard i r) v (fun v => putK o.dst v s' fun s => regF P tt ops.toList (i + 1) r s K) → putK o.dst v s' (lexF P tt ops n K (i + 1) r) := fun h => by
      have := splitK_sound h
      rw [putK_iff] at this ⊢
      exact ⟨this.1, regF_lex hr' (by omega) this.2⟩
    cases run with
    | true =>
      simp only at h1 ⊢
      cases hf : isF o with
      | true =>
        simp only [hf] at h1 ⊢
        obtain ⟨u, k, ob, g1, g2, g3⟩ := opF_ex h1
        exact g3 s _ (fun _ _ => rfl) g1 (fin g2)
      | false =>
        simp only [hf] at h1 ⊢
        exact opM_mono (fun v s' h => fin h) h1
    | false => simp only at h1 ⊢; exact putK_iff.2 ⟨(putK_iff.1 h1).1, regF_lex hr' (by omega) (putK_iff.1 h1).2⟩

theorem regQ_lexF {tt : TT} {ops : Array Oper} {n : Nat} {K K0 : St → Prop} {l2 : List Oper} : ∀ {r : List Oper} {i : Nat} {s : St}, (∀ j, (r ++ l2)[j]? = ops[i + j]?) → i + r.length ≤ n → (∀ s', K0 s' → lexF P tt ops n K (i + r.length) l2 s') → regQ P tt ops.toList i r s K0 → lexF P tt ops n K i (r ++ l2) s
  | [], i, s, _, _, hk, h => by simpa using hk s h
  | o :: r, i, s, hr, hn, hk, h => by
    have ho : ops[i]? = some o := by simpa using (hr 0).symm
    simp only [List.length_cons] at hn hk
    have hr' : ∀ j, (r ++ l2)[j]? = ops[i + 1 + j]? := fun j => by
      have := hr (j + 1)
      rw [show i + 1 + j = i + (j + 1) by omega]; simpa using this
    simp only [regQ] at h
    show lexF P tt ops n K i (o :: (r ++ l2)) s
    simp only [lexF]
    refine (stepF_Q (by omega)).2 ?_
    refine stepA_mono' ho (K := fun s => regQ P tt ops.toList (i + 1) r s K0) (fun s' h => regQ_lexF hr' (by omega) (fun s h => by have := hk s h; rwa [show i + 1 + r.length = i + (r.length + 1) by omega]) h) (by simp; omega) ?_
    obtain ⟨run, h1, h2⟩ := guardK_ex _ h
    refine h2 _ ?_
    cases run with
    | true =>
      simp only at h1 ⊢
      obtain ⟨v, h3, h4⟩ := ex_opQ P tt s o _ h1
      exact h4 _ (splitK_sound h3)
    | false => exact h1

theorem anyF_lex {tt : TT} {ops : Array Oper} {n : Nat} {K : St → Prop} (hd : drawF ops n = true) : ∀ {r : List Oper} {k : Nat} {listed : Array Bool} {s : St}, (∀ j, r[j]? = ops[k + j]?) → k + r.length = ops.size → listed.size = ops.size → (∀ j, j < ops.size → listed.getD j true = decide (j < k)) → Closed ops listed →
    lexF P tt ops n K k r s → anyF P tt ops n K r.length listed s
  | [], k, listed, s, _, hk, hsz, hl, _, h => by
    refine ⟨?_, h⟩
    cases hr : Region.ready .any ops listed with
    | nil => rfl
    | cons i l =>
      exfalso
      have hm : i ∈ Region.ready .any ops listed := by rw [hr]; simp
      obtain ⟨hun, o, ho, _⟩ := mem_ready.1 hm
      have hlt : i < ops.size := (Array.getElem?_eq_some_iff.1 ho).1
      rw [hl i hlt] at hun
      simp at hk hun; omega
  | o :: r, k, listed, s, hr, hk, hsz, hl, hcl, h => by
    simp only [List.length_cons] at hk ⊢
    have ho : ops[k]? = some o := by simpa using (hr 0).symm
    have hr' : ∀ j, r[j]? = ops[k + 1 + j]? := fun j => by
      have := hr (j + 1)
      rw [show k + 1 + j = k + (j + 1) by omega]; simpa using this
    have hklt : k < ops.size := by omega
    have hd2 := hd
    unfold drawF at hd2
    simp only [Bool.and_eq_true, List.all_eq_true, List.mem_range] at hd2
    replace hd2 := hd2.2
    have hclos := fun j i => clos_dep (ops := ops) (r := ops.toList) (acc := []) (fun j => by simp) (fun j i h => by simp at h) j i
    have hchk : ∀ i oi, ops[i]? = some oi → (∀ e ∈ oi.after, Region.binds .any e = true → e.on < i) ∧ (i < n → ∀ j oj, ops[j]? = some oj → i < j → waitsFor oj i = true ∨ oi.apart ops oj = true) ∧ (n ≤ i → ∀ j, j < i → Dep ops i j ∨ (j < n ∧ isF oi = true)) := fun i oi hi => by
      have hilt : i < ops.size := (Array.getElem?_eq_some_iff.1 hi).1
      have := hd2 i hilt
      simp only [hi, Bool.and_eq_true] at this
      obtain ⟨h1, h2⟩ := this
      refine ⟨fun e he hb => ?_, fun hin j oj hj hij => ?_, fun hni j hj => ?_⟩
      · have := (Array.all_eq_true_iff_forall_mem.1 h1) e he
        simpa [hb] using this
      · rw [if_pos hin] at h2
        have hjlt : j < ops.size := (Array.getElem?_eq_some_iff.1 hj).1
        have := List.all_eq_true.1 h2 j (List.mem_range.2 hjlt)
        simp only [hj, Bool.or_eq_true, decide_eq_true_eq] at this
        rcases this with h | h
        · omega
        · exact h
      · rw [if_neg (by omega)] at h2
        have := List.all_eq_true.1 h2 j (List.mem_range.2 hj)
        simp only [Bool.or_eq_true, Bool.and_eq_true, decide_eq_true_eq] at this
        rcases this with h | h
        · exact .inl (hclos i j (memB_iff.1 h))
        · exact .inr h
    have hready : k ∈ Region.ready .any ops listed := by
      refine mem_ready.2 ⟨by rw [hl k hklt]; simp, o, ho, fun e he hb => ?_⟩
      have hlt := (hchk k o ho).1 e he hb
      have h1 := hl e.on (by omega)
      have h2 : e.on < listed.size := by omega
      simp only [Array.getD_eq_getD_getElem?, Array.getElem?_eq_getElem h2, Option.getD_some] at h1 ⊢
      rw [h1]; simpa using hlt
    have hl' : ∀ j, j < ops.size → (listed.setIfInBounds k true).getD j true = decide (j < k + 1) := fun j hj => by
      by_cases e : k = j
      · subst e
        have : k < listed.size := by omega
        simp [Array.getD_eq_getD_getElem?, this]
      · rw [getD_set_ne true e, hl j hj]
        by_cases h : j < k
        · simp [h]; omega
        · simp [h]; omega
    simp only [lexF] at h
    by_cases hkn : k < n
    · obtain ⟨v, hy, hK⟩ := yieldQ_of_step ho hkn ((stepF_Q hkn).1 h)
      refine anyF_first ho hkn r.length listed s hcl (fun j oj hj hjk hun hno => ?_) hready hy (anyF_lex hd hr' (by omega) (by simpa using hsz) hl' (hcl.add hready) hK)
      have hjlt : j < ops.size := (Array.getElem?_eq_some_iff.1 hj).1
      rw [hl j hjlt] at hun
      have hkj : k < j := by simp at hun; omega
      refine ⟨?_, ?_⟩
      · rcases Nat.lt_or_ge j n with h | h
        · exact .inl h
        · rcases (hchk j oj hj).2.2 h k hkj with h | h
          · exact absurd h hno
          · exact .inr h.2
      · rcases (hchk k o ho).2.1 hkn j oj hj hkj with h | h
        · exact absurd (.one hj h) hno
        · exact h
    · refine ⟨fun h => (by rw [h] at hready; cases hready), fun i hi => ?_⟩
      have hik : i = k := by
        obtain ⟨hun, oi, hoi, hall⟩ := mem_ready.1 hi
        have hilt : i < ops.size := (Array.getElem?_eq_some_iff.1 hoi).1
        rw [hl i hilt] at hun
        rcases Nat.lt_or_ge k i with h | h
        · exfalso
          rcases (hchk i oi hoi).2.2 (by omega) k h with hw | hw
          · have := ready_dep hcl hi hw
            rw [hl k hklt] at this
            simp at this
          · exact hkn hw.1
        · simp at hun; omega
      subst hik
      exact stepF_mono (fun s' h => anyF_lex hd hr' (by omega) (by simpa using hsz) hl' (hcl.add hready) h) h

end

end Go.Proofs.Ytaplnfcnajpmgaa.Pi
