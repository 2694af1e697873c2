/- A part of the layer Pi: pure values, abstract states, a predicate transformer over Go code and its soundness. No statement of the seat is proved here. -/
import Derived.Test.YtnafogjagbhdbaaDoorPiA
import Derived.Laws.StructEq
import Derived.Laws.Tables
import Derived.IntWalk
/- Operands, addresses, loads: the continuation forms against the machine. No statement of the seat is proved here. -/
namespace Go.Proofs.YtnafogjagbhdbaaDoor.Pi
open Go Go.RowKit
set_option linter.unusedVariables false
set_option linter.unusedSimpArgs false

section
variable {P : Program} {C : Ctx} {L : Lay} {I : Nat → Prop} {s : St} {a : Act} {w : World}

theorem constK_sound {v : Value} {t : TI} {K : PV → Prop} (h : constK v t K) : ∃ pv, K pv ∧ RepP L s.heap I w v pv := by
  unfold constK at h
  split at h
  · exact ⟨_, h, RepC.int _ _⟩
  · exact ⟨_, h, RepC.bool _⟩
  · exact ⟨_, h, RepC.str _⟩
  · split at h
    · exact ⟨_, h, rfl⟩
    · exact h.elim
  · exact ⟨_, h, RepC.nilI⟩
  · exact ⟨_, h, RepC.nilP⟩
  · exact h.elim

theorem opd_sound (hi : Inv C L I s a w) {x : Operand} {t : TI} {K : PV → Prop} (h : opd s.regs x t K) : ∃ pv, K pv ∧ RepP L s.heap I w (a.eval x) pv := by
  cases x with
  | tmp n =>
    simp only [opd, look_iff] at h
    obtain ⟨pv, h1, h2⟩ := h
    have hlt : n < a.tmps.size := by rw [hi.len]; exact (List.getElem?_eq_some_iff.1 h1).1
    refine ⟨pv, h2, ?_⟩
    have := hi.regs n pv a.tmps[n] h1 (Array.getElem?_eq_getElem hlt)
    simpa [Act.eval, hlt] using this
  | const v => exact constK_sound h
  | global g => exact h.elim
  | func f =>
    refine ⟨_, h, ?_⟩
    exact RepC.fn f #[] [] rfl (fun i c v h => by simp at h)

theorem argsK_sound (hi : Inv C L I s a w) {tt : TT} : ∀ {xs : List Operand} {ts : List TypeId} {K : List PV → Prop}, argsK s.regs tt xs ts K → ∃ pvs, K pvs ∧ pvs.length = xs.length ∧ ∀ (i : Nat) (pv : PV) (x : Operand), pvs[i]? = some pv → xs[i]? = some x → RepP L s.heap I w (a.eval x) pv
  | [], ts, K, h => ⟨[], h, rfl, fun i pv x h => by simp at h⟩
  | x :: xs, ts, K, h => by
    simp only [argsK] at h
    obtain ⟨pv, h1, h2⟩ := opd_sound hi h
    obtain ⟨pvs, h3, h4, h5⟩ := argsK_sound hi h1
    refine ⟨pv :: pvs, h3, by simp [h4], fun i pv' x' g1 g2 => ?_⟩
    cases i with
    | zero => simp only [List.getElem?_cons_zero, Option.some.injEq] at g1 g2; subst g1; subst g2; exact h2
    | succ i => simp only [List.getElem?_cons_succ] at g1 g2; exact h5 i pv' x' g1 g2

def OptI : Option Value → Option Int → Prop
  | none, none => True
  | some v, some n => ∃ k, v = .int k n
  | _, _ => False

theorem optInt_sound (hi : Inv C L I s a w) {tt : TT} {x : Option Operand} {K : Option Int → Prop} (h : optInt s.regs tt x K) : ∃ n, K n ∧ OptI (x.map a.eval) n := by
  cases x with
  | none => exact ⟨none, h, trivial⟩
  | some x =>
    simp only [optInt] at h
    obtain ⟨pv, h1, h2⟩ := opd_sound hi h
    unfold intIx at h1
    split at h1
    · rename_i k n
      refine ⟨some n, h1, k, ?_⟩
      have h2 : RepC I w (a.eval x) (.int k n) := h2
      generalize a.eval x = v at h2
      cases h2; rfl
    · exact h1.elim

theorem rep_int {v : Value} {k : IntKind} {n : Int} (h : RepP L s.heap I w v (.one (.c (.int k n)))) : v = .int k n := by
  have h : RepC I w v (.int k n) := h
  cases h; rfl
theorem rep_bool {v : Value} {b : Bool} (h : RepP L s.heap I w v (.one (.c (.bool b)))) : v = .bool b := by
  have h : RepC I w v (.bool b) := h
  cases h; rfl
theorem rep_str {v : Value} {b : ByteArray} (h : RepP L s.heap I w v (.one (.c (.str b)))) : v = .string b := by
  have h : RepC I w v (.str b) := h
  cases h; rfl

theorem intIx_sound {v : Value} {pv : PV} {K : Int → Prop} (h : intIx pv K) (hr : RepP L s.heap I w v pv) : ∃ k n, v = .int k n ∧ K n := by
  unfold intIx at h
  split at h
  · exact ⟨_, _, rep_int hr, h⟩
  · exact h.elim

theorem sub_length {α : Type} (xs : List α) (o n : Nat) (h : o + n ≤ xs.length) : (sub xs o n).length = n := by
  rw [sub_eq]; simp only [List.length_take, List.length_drop]; omega

theorem sub_get {α : Type} (xs : List α) (o n i : Nat) (x : α) (h : (sub xs o n)[i]? = some x) : i < n ∧ xs[o + i]? = some x := by
  rw [sub_eq, List.getElem?_take] at h
  split at h
  · rename_i hlt; exact ⟨hlt, by simpa [List.getElem?_drop] using h⟩
  · cases h

theorem oneOr_sound {agg : Bool} {xs : List XV} {K : PV → Prop} {n : Nat} {f : Nat → Value} (h : oneOr agg xs K) (hl : xs.length = n) (hr : ∀ (i : Nat) (x : XV), xs[i]? = some x → RepX L s.heap I w (f i) x) :
    ∃ pv, K pv ∧ RepP L s.heap I w (if agg then .agg ((List.range n).map f).toArray else f 0) pv ∧ (agg = false → n = 1) := by
  unfold oneOr at h
  split at h
  · refine ⟨_, h, ⟨_, rfl, by simp [hl], fun i x v h1 h2 => ?_⟩, by simp⟩
    have hlt : i < n := by rw [← hl]; exact (List.getElem?_eq_some_iff.1 h1).1
    have : v = f i := by simp [hlt] at h2; exact h2.symm
    rw [this]; exact hr i x h1
  · exact ⟨_, h, hr 0 _ (by simp), fun _ => by simpa using hl.symm⟩
  · exact h.elim

theorem box_at (hi : Inv C L I s a w) {k b : Nat} {cs : List XV} (hf : find s.heap k = some (.box cs)) (hb : L.blk k = some b) (hB : bK k = false) :
    ∃ f : Nat → Value, ∀ (i : Nat) (x : XV), cs[i]? = some x → w.cell? ⟨b, i, none⟩ = some (f i) ∧ RepX L s.heap I w (f i) x := by
  have ho := hi.heap.ob k _ hf
  simp only [RepO, hB] at ho
  obtain ⟨b', vs, e, fr, h1, h2, h3, h5, hsz, h4⟩ := ho
  rw [hb] at h1; cases h1
  refine ⟨fun i => vs.getD i undef, fun i x hx => ?_⟩
  have hlt : i < vs.size := by rw [hsz]; exact (List.getElem?_eq_some_iff.1 hx).1
  have e : vs.getD i undef = vs[i] := by simp [hlt]
  rw [cell_row h2]
  show vs[i]? = some (vs.getD i undef) ∧ RepX L s.heap I w (vs.getD i undef) x
  rw [e]
  exact ⟨Array.getElem?_eq_getElem hlt, h4 i x vs[i] hx (Array.getElem?_eq_getElem hlt)⟩

theorem row_at (hi : Inv C L I s a w) {k b sz : Nat} {rows : List (List CV)} (hf : find s.heap k = some (.arr sz rows)) (hb : L.blk k = some b) :
    ∃ f : Nat → Value, ∀ (i : Nat) (r : List CV) (j : Nat) (c : CV), rows[i]? = some r → r[j]? = some c → w.cell? ⟨b, i * sz + j, none⟩ = some (f (i * sz + j)) ∧ RepC I w (f (i * sz + j)) c := by
  have ho := hi.heap.ob k _ hf
  simp only [RepO, hb] at ho
  obtain ⟨h0, hrl, vs, e, fr, h2, h3, h5, h4⟩ := ho
  refine ⟨fun i => vs.getD i undef, fun i r j c hr hc => ?_⟩
  obtain ⟨v, g1, g2⟩ := h4 i r j c hr hc
  have e : vs.getD (i * sz + j) undef = v := by simp [g1]
  rw [cell_row h2]
  show vs[i * sz + j]? = some (vs.getD (i * sz + j) undef) ∧ RepC I w (vs.getD (i * sz + j) undef) c
  rw [e]
  exact ⟨g1, g2⟩

theorem dcells_length (k r : Nat) : ∀ (row : List CV) (j : Nat), (dcells k r j row).length = row.length
  | [], j => rfl
  | c :: cs, j => by simp [dcells, dcells_length k r cs]
theorem dcells_get (k r : Nat) : ∀ (row : List CV) (j i : Nat), (dcells k r j row)[i]? = (row[i]?).map (dcell k r (j + i))
  | [], j, i => by simp [dcells]
  | c :: cs, j, 0 => by simp [dcells]
  | c :: cs, j, i + 1 => by simp [dcells, dcells_get k r cs]; congr 2; omega

theorem deep_at (hi : Inv C L I s a w) {k b sz : Nat} {ap : Bool} {rows : List (List CV)} (hf : find s.heap k = some (.deep ap sz rows)) (hb : L.blk k = some b) :
    ∃ f : Nat → Value, ∀ (i : Nat) (r : List CV) (j : Nat) (c : CV), rows[i]? = some r → r[j]? = some c → w.cell? ⟨b, i * sz + j, none⟩ = some (f (i * sz + j)) ∧ RepX L s.heap I w (f (i * sz + j)) (dcell k i j c) := by
  have ho := hi.heap.ob k _ hf
  simp only [RepO, hb] at ho
  obtain ⟨⟨_, _, vs, e, fr, Js, h3, _, _, h6, h7, _⟩, _⟩ := ho
  refine ⟨fun i => vs.getD i undef, fun i r j c hr hc => ?_⟩
  obtain ⟨v, g1, g2, g3⟩ := h6 i r j c hr hc
  have e : vs.getD (i * sz + j) undef = v := by simp [g1]
  rw [cell_row h3]
  show vs[i * sz + j]? = some (vs.getD (i * sz + j) undef) ∧ RepX L s.heap I w (vs.getD (i * sz + j) undef) (dcell k i j c)
  rw [e]
  refine ⟨g1, ?_⟩
  cases c with
  | int k n => cases g2; exact RepC.int _ _
  | bool b => cases g2; exact RepC.bool _
  | str b => cases g2; exact RepC.str _
  | iface b => cases g2 <;> constructor
  | ptr sz cs => trivial
  | fn f cs => trivial
  | slice sz' es => exact ⟨ap, sz, rows, hf, (List.getElem?_eq_some_iff.1 hr).1, g3 rfl, g2.isSlice⟩
  | own sz' es => exact ⟨ap, sz, rows, hf, (List.getElem?_eq_some_iff.1 hr).1, g3 rfl, by cases g2 with | own _ _ _ _ q1 q2 => exact q1.isSlice⟩
  | hole => trivial

theorem row_len (hi : Inv C L I s a w) {k b sz : Nat} {rows : List (List CV)} (hf : find s.heap k = some (.arr sz rows)) (hb : L.blk k = some b) : ∀ (i : Nat) (r : List CV), rows[i]? = some r → r.length = sz := by
  have ho := hi.heap.ob k _ hf
  simp only [RepO, hb] at ho
  exact ho.2.1

theorem loadK_sound (hi : Inv C L I s a w) {t : TypeId} {ti : TI} (ht : tiOk P t ti = true) {v : Value} {pv : PV} {K : PV → Prop} (h : loadK s.heap ti pv K) (hr : RepP L s.heap I w v pv) :
    ∃ pv' v', K pv' ∧ (Instr.loadAt t v).run P w = .ok v' w ∧ RepP L s.heap I w v' pv' := by
  unfold loadK at h
  cases hsz : ti.size with
  | zero => simp [hsz] at h
  | succ m =>
    have hkn := known_of ht (by omega)
    simp only [hsz] at h
    have fin : ∀ {xs : List XV} {b o : Nat} {f : Nat → Value}, v = .pointer (some ⟨b, o, none⟩) → xs.length = m + 1 → oneOr ti.agg xs K → (∀ (i : Nat) (x : XV), xs[i]? = some x → w.cell? ⟨b, o + i, none⟩ = some (f i) ∧ RepX L s.heap I w (f i) x) →
        ∃ pv' v', K pv' ∧ (Instr.loadAt t v).run P w = .ok v' w ∧ RepP L s.heap I w v' pv' := fun {xs b o f} hv hl h1 h2 => by
      obtain ⟨pv', g1, g2, g3⟩ := oneOr_sound (f := f) h1 hl (fun i x hx => (h2 i x hx).2)
      refine ⟨pv', _, g1, ?_, g2⟩
      subst hv
      simp only [Instr.loadAt, Instr.sureAddr, Sem.run_bind, Sem.run_pure, Result.andThen_ok]
      rw [← hsz] at hl g3 ⊢
      exact run_loadVar' hkn (fun j hj => (h2 j xs[j] (List.getElem?_eq_getElem (by omega))).1) g3
    split at h
    · rename_i sz cs
      split at h
      · rename_i hb
        have e := beq_iff.1 hb
        simp only [forceXs_eq] at h
        have hr : RepC I w v (.ptr sz cs) := hr
        cases hr with
        | ptr b off _ _ vs hI hl hc hrc =>
          refine fin rfl (by simp; omega) h (f := vs) fun i x hx => ?_
          rw [List.getElem?_map] at hx
          cases hci : cs[i]? with
          | none => simp [hci] at hx
          | some c => simp only [hci, Option.map_some, Option.some.injEq] at hx; subst hx; exact ⟨hc i c hci, hrc i c hci⟩
        | nilP => exact absurd e (by omega)
      · exact h.elim
    · rename_i k o n
      split at h
      · rename_i cs hf hb
        obtain ⟨hf, hB⟩ := findB_some hf
        have e := beq_iff.1 hb
        simp only [subK_eq] at h
        obtain ⟨cs', b, g1, g2, g3, rfl⟩ := hr
        rw [hf] at g1; cases g1
        obtain ⟨f, hf'⟩ := box_at hi hf g2 hB
        refine fin rfl (by rw [sub_length _ _ _ g3, e]) h (f := fun i => f (o + i)) fun i x hx => ?_
        obtain ⟨q1, q2⟩ := sub_get _ _ _ _ _ hx
        exact hf' _ x q2
      · exact h.elim
    · rename_i k r o n
      split at h
      · rename_i sz rows hf hb
        have e := beq_iff.1 hb
        obtain ⟨row, hrow, h⟩ := h
        simp only [subK_eq] at h
        obtain ⟨sz', rows', b, g1, g2, g3, g4, rfl⟩ := hr
        rw [hf] at g1; cases g1
        obtain ⟨f, hf'⟩ := row_at hi hf g2
        have hrl := row_len hi hf g2 r row hrow
        refine fin rfl (by rw [sub_length _ _ _ (by simp; omega), e]) h (f := fun i => f (r * sz + (o + i))) fun i x hx => ?_
        obtain ⟨q1, q2⟩ := sub_get _ _ _ _ _ hx
        rw [List.getElem?_map] at q2
        cases hci : row[o + i]? with
        | none => simp [hci] at q2
        | some c =>
          simp only [hci, Option.map_some, Option.some.injEq] at q2; subst q2
          have := hf' r row _ c hrow hci
          rw [Nat.add_assoc]; exact this
      · exact h.elim
    · rename_i k r o n
      split at h
      · rename_i ap sz rows hf hb
        have e := beq_iff.1 hb
        obtain ⟨row, hrow, h⟩ := h
        simp only [subK_eq] at h
        obtain ⟨_, sz', rows', b, g1, g2, g3, g4, rfl⟩ := hr
        rw [hf] at g1; cases g1
        obtain ⟨f, hf'⟩ := deep_at hi hf g2
        have ho := hi.heap.ob k _ hf
        simp only [RepO, g2] at ho
        have hrl := ho.1.2.1 r row hrow
        refine fin rfl (by rw [sub_length _ _ _ (by rw [dcells_length]; omega), e]) h (f := fun i => f (r * sz + (o + i))) fun i x hx => ?_
        obtain ⟨q1, q2⟩ := sub_get _ _ _ _ _ hx
        rw [dcells_get, Nat.zero_add] at q2
        cases hci : row[o + i]? with
        | none => simp [hci] at q2
        | some c =>
          simp only [hci, Option.map_some, Option.some.injEq] at q2; subst q2
          have := hf' r row _ c hrow hci
          rw [Nat.add_assoc]; exact this
      · exact h.elim
    · exact h.elim

theorem fieldsOk_get : ∀ {fs : List Field} {gs : List (Nat × Nat × Bool)}, fieldsOk P fs gs = true → ∀ {f : Nat} {o n : Nat} {ag : Bool}, gs[f]? = some (o, n, ag) → ∃ fd i, fs[f]? = some fd ∧ fd.offset = o ∧ P.info? fd.type = some i ∧ i.size = n ∧ aggOf P fd.type = ag ∧ ∃ d, P.underlying fd.type = some d
  | [], [], _, f, o, n, ag, h => by simp at h
  | fd :: fs, (o', n', a') :: gs, hk, f, o, n, ag, h => by
    simp only [fieldsOk, Bool.and_eq_true] at hk
    obtain ⟨⟨⟨⟨⟨h1, h2⟩, h3⟩, h6⟩, h4⟩, h5⟩ := hk
    cases f with
    | zero =>
      simp only [List.getElem?_cons_zero, Option.some.injEq, Prod.mk.injEq] at h
      obtain ⟨rfl, rfl, rfl⟩ := h
      obtain ⟨i, hi⟩ := Option.isSome_iff_exists.1 h3
      have h2 := eq_of_beq h2
      simp only [Program.cellsOf, hi, Option.map_some, Option.getD_some] at h2
      exact ⟨fd, i, rfl, eq_of_beq h1, hi, h2, eq_of_beq h4, Option.isSome_iff_exists.1 h6⟩
    | succ f => exact fieldsOk_get h5 (by simpa using h)
  | [], _ :: _, hk, _, _, _, _, _ => by simp [fieldsOk] at hk
  | _ :: _, [], hk, _, _, _, _, _ => by simp [fieldsOk] at hk

theorem fieldAddrK_sound (hi : Inv C L I s a w) {t : TypeId} {ti : TI} (ht : tiOk P t ti = true) {v : Value} {pv : PV} {f : Nat} {K : PV → Prop} (h : fieldAddrK ti pv f K) (hr : RepP L s.heap I w v pv) :
    ∃ pv' v', K pv' ∧ (Instr.fieldAt t v f).run P w = .ok v' w ∧ RepP L s.heap I w v' pv' := by
  unfold fieldAddrK at h
  split at h
  · rename_i off n ag hg
    have hne : ti.fields ≠ [] := fun e => by rw [e] at hg; simp at hg
    obtain ⟨fs, hu, hfo⟩ := (known_any ht (.inr (.inl hne))).fields hne
    obtain ⟨fd, i, hfd, ho, hinfo, hn, _, _⟩ := fieldsOk_get hfo hg
    have run : ∀ {b o : Nat}, Nat.beq n 0 = false → (Instr.fieldAt t (.pointer (some ⟨b, o, none⟩)) f).run P w = .ok (.pointer (some ⟨b, o + off, none⟩)) w := fun {b o} hb => by
      have hn0 : n ≠ 0 := beq_false.1 hb
      have hfd' : fs[f]? = some fd := by simpa using hfd
      simp only [Instr.fieldAt, Sem.run_bind, run_underlying hu, Result.andThen_ok, hfd', Instr.sureAddr, Sem.run_pure, fieldPlace, run_size hinfo, hn]
      simp [hn0, add_plain, ho]
    split at h
    · rename_i sz cs hb
      split at h
      · rename_i hle
        have hle := Nat.le_of_ble_eq_true hle
        have hr : RepC I w v (.ptr sz cs) := hr
        cases hr with
        | ptr b o _ _ vs hI hl hc hrc =>
          refine ⟨_, _, h, run hb, RepC.ptr b (o + off) n _ (fun j => vs (off + j)) hI (sub_length _ _ _ (by omega)) (fun j c hj => ?_) (fun j c hj => hrc _ c (sub_get _ _ _ _ _ hj).2)⟩
          rw [Nat.add_assoc]; exact hc _ c (sub_get _ _ _ _ _ hj).2
        | nilP => exact absurd (beq_false.1 hb) (by omega)
      · exact h.elim
    · rename_i k o m hb
      split at h
      · rename_i hle
        have hle := Nat.le_of_ble_eq_true hle
        obtain ⟨cs, b, g1, g2, g3, rfl⟩ := hr
        exact ⟨_, _, h, run hb, cs, b, g1, g2, by omega, rfl⟩
      · exact h.elim
    · rename_i k r o m hb
      split at h
      · rename_i hle
        have hle := Nat.le_of_ble_eq_true hle
        obtain ⟨sz, rows, b, g1, g2, g3, g4, rfl⟩ := hr
        exact ⟨_, _, h, run hb, sz, rows, b, g1, g2, g3, by omega, by rw [Nat.add_assoc]⟩
      · exact h.elim
    · rename_i k r o m hb
      split at h
      · rename_i hle
        have hle := Nat.le_of_ble_eq_true hle
        obtain ⟨ap, sz, rows, b, g1, g2, g3, g4, rfl⟩ := hr
        exact ⟨_, _, h, run hb, ap, sz, rows, b, g1, g2, g3, by omega, by rw [Nat.add_assoc]⟩
      · exact h.elim
    · exact h.elim
  · exact h.elim

theorem indexAddrK_sound (hi : Inv C L I s a w) {t : TypeId} {ti : TI} (ht : tiOk P t ti = true) {v u : Value} {pv pu : PV} {K : PV → Prop} (h : indexAddrK s.heap ti pv pu K) (hr : RepP L s.heap I w v pv) (hru : RepP L s.heap I w u pu) :
    ∃ pv' v', K pv' ∧ (Instr.indexAt t v u).run P w = .ok v' w ∧ RepP L s.heap I w v' pv' := by
  unfold indexAddrK at h
  replace h := intIx_sound h hru
  obtain ⟨ik, n, rfl, h⟩ := h
  have slice : ∀ {sz' bb : Nat}, ti.slice = some (sz', bb) → ∀ {b o len cap : Nat}, 0 ≤ n → n < len → (Instr.indexAt t (.slice (some ⟨b, o, none⟩) len cap) (.int ik n)).run P w = .ok (.pointer (some ⟨b, o + n.toNat * sz', none⟩)) w := fun {sz' bb} hsl {b o len cap} h0 h1 => by
    obtain ⟨hu, _, ie, hie, hs, _⟩ := (known_any ht (.inl (by rw [hsl]; simp))).slice _ _ hsl
    simp only [Instr.indexAt, asIntOf, Sem.run_bind, Sem.run_pure, Result.andThen_ok, run_underlying hu, h0, h1, and_self, if_true, run_size hie, hs, add_plain]
  split at h
  · rename_i sz es sz' bb hsl
    split at h
    · rename_i hb
      have e := beq_iff.1 hb
      subst e
      obtain ⟨row, ⟨h0, hrow⟩, h⟩ := h
      have hr : RepC I w v (.slice sz es) := hr
      have hlt : n.toNat < es.length := (List.getElem?_eq_some_iff.1 hrow).1
      cases hr with
      | nil _ => simp at hlt
      | empty _ _ _ => simp at hlt
      | slice b off cap _ m _ vs hI hn hcap hsz hc hrc =>
        refine ⟨_, _, h, slice hsl h0 (by omega), RepC.ptr b _ sz row (fun j => vs n.toNat j) hI (hsz _ _ hrow) (fun j c hj => ?_) (fun j c hj => hrc _ _ _ _ hrow hj)⟩
        rw [Nat.add_assoc]; exact hc _ _ _ _ hrow hj
    · exact h.elim
  · rename_i k sz' bb hsl
    split at h
    · rename_i sz rows hf
      split at h
      · rename_i hb
        have e := beq_iff.1 hb
        subst e
        obtain ⟨⟨h0, h1⟩, h⟩ := h
        obtain ⟨_, _, g1, g2⟩ := hr
        rw [hf] at g1; cases g1
        cases hbk : L.blk k with
        | none =>
          have ho := hi.heap.ob k _ hf
          simp only [RepO, hbk] at ho
          subst ho; simp at h1; omega
        | some b =>
          simp only [hbk] at g2
          subst g2
          refine ⟨_, _, h, slice hsl h0 h1, _, _, b, hf, hbk, by omega, by omega, ?_⟩
          simp
      · exact h.elim
    · exact h.elim
  · rename_i k sz' bb hsl
    split at h
    · rename_i ap sz rows hf
      split at h
      · rename_i hb
        have e := beq_iff.1 hb
        subst e
        obtain ⟨⟨h0, h1⟩, h⟩ := h
        obtain ⟨_, _, _, g1, g2⟩ := hr
        rw [hf] at g1; cases g1
        cases hbk : L.blk k with
        | none =>
          have ho := hi.heap.ob k _ hf
          simp only [RepO, hbk] at ho
          subst ho; simp at h1; omega
        | some b =>
          simp only [hbk] at g2
          subst g2
          refine ⟨_, _, h, slice hsl h0 h1, ap, _, _, b, hf, hbk, by omega, by omega, ?_⟩
          simp
      · exact h.elim
    · exact h.elim
  · rename_i k o l sz' bb hsl
    split at h
    · rename_i sz rows hf
      split at h
      · rename_i hb
        have e := beq_iff.1 hb
        subst e
        obtain ⟨⟨h0, h1, h2⟩, h⟩ := h
        obtain ⟨_, _, g1, g3, g2⟩ := hr
        rw [hf] at g1; cases g1
        cases hbk : L.blk k with
        | none =>
          have ho := hi.heap.ob k _ hf
          simp only [RepO, hbk] at ho
          subst ho; simp at h2; omega
        | some b =>
          simp only [hbk] at g2
          obtain ⟨q, q1, q2, rfl⟩ := g2
          refine ⟨_, _, h, slice hsl h0 h1, _, _, b, hf, hbk, by omega, by omega, ?_⟩
          rw [q2 (.inl (by omega)), Nat.add_mul]; simp
      · exact h.elim
    · exact h.elim
  · exact h.elim

end

end Go.Proofs.YtnafogjagbhdbaaDoor.Pi
/- Operators: the continuation forms against the machine. No statement of the seat is proved here. -/
namespace Go.Proofs.YtnafogjagbhdbaaDoor.Pi
open Go Go.RowKit
set_option linter.unusedVariables false
set_option linter.unusedSimpArgs false

def valEq : List LK → List Value → List Value → Option Bool
  | [], [], [] => some true
  | .int k :: ls, .int k1 a :: xs, .int k2 b :: ys => match decide (k1 = k), decide (k2 = k), valEq ls xs ys with
    | true, true, some r => some ((a == b) && r)
    | _, _, _ => none
  | .bool :: ls, .bool a :: xs, .bool b :: ys => match valEq ls xs ys with | some r => some ((a == b) && r) | none => none
  | .str :: ls, .string a :: xs, .string b :: ys => match valEq ls xs ys with | some r => some ((a == b) && r) | none => none
  | _, _, _ => none

theorem valEq_length : ∀ {ls : List LK} {xs ys : List Value} {r : Bool}, valEq ls xs ys = some r → xs.length = ls.length ∧ ys.length = ls.length
  | [], xs, ys, r, h => by cases xs <;> cases ys <;> simp [valEq] at h ⊢
  | l :: ls, xs, ys, r, h => by
    cases xs with
    | nil => cases l <;> simp [valEq] at h
    | cons x xs =>
      cases ys with
      | nil => cases l <;> cases x <;> simp [valEq] at h
      | cons y ys =>
        have key : ∀ r, valEq ls xs ys = some r → (x :: xs).length = (l :: ls).length ∧ (y :: ys).length = (l :: ls).length := fun r h => by
          obtain ⟨h1, h2⟩ := valEq_length h
          simp [h1, h2]
        cases l <;> cases x <;> first | (simp [valEq] at h; done) | skip
        all_goals (cases y <;> first | (simp [valEq] at h; done) | skip)
        all_goals (simp only [valEq] at h; split at h <;> first | exact key _ (by assumption) | cases h)

theorem valEq_append : ∀ {ls1 ls2 : List LK} {xs ys : List Value} {r : Bool}, valEq (ls1 ++ ls2) xs ys = some r →
    ∃ r1 r2, valEq ls1 (xs.take ls1.length) (ys.take ls1.length) = some r1 ∧ valEq ls2 (xs.drop ls1.length) (ys.drop ls1.length) = some r2 ∧ r = (r1 && r2)
  | [], ls2, xs, ys, r, h => ⟨true, r, by simp [valEq], by simpa using h, by simp⟩
  | l :: ls1, ls2, xs, ys, r, h => by
    cases xs with
    | nil => cases l <;> cases ys <;> simp [valEq] at h
    | cons x xs =>
      cases ys with
      | nil => cases l <;> cases x <;> simp [valEq] at h
      | cons y ys =>
        cases l with
        | int k =>
          cases x <;> cases y <;> simp only [List.cons_append, valEq, reduceCtorEq] at h
          rename_i k1 a k2 b
          split at h
          · rename_i h1 h2 h3
            obtain ⟨r1, r2, g1, g2, g3⟩ := valEq_append h3
            cases h
            refine ⟨(a == b) && r1, r2, ?_, by simpa using g2, by rw [g3, Bool.and_assoc]⟩
            simp only [List.length_cons, List.take_succ_cons, valEq, h1, h2, g1]
          · cases h
        | bool =>
          cases x <;> cases y <;> simp only [List.cons_append, valEq, reduceCtorEq] at h
          rename_i a b
          split at h
          · rename_i h3
            obtain ⟨r1, r2, g1, g2, g3⟩ := valEq_append h3
            cases h
            refine ⟨(a == b) && r1, r2, ?_, by simpa using g2, by rw [g3, Bool.and_assoc]⟩
            simp only [List.length_cons, List.take_succ_cons, valEq, g1]
          · cases h
        | str =>
          cases x <;> cases y <;> simp only [List.cons_append, valEq, reduceCtorEq] at h
          rename_i a b
          split at h
          · rename_i h3
            obtain ⟨r1, r2, g1, g2, g3⟩ := valEq_append h3
            cases h
            refine ⟨(a == b) && r1, r2, ?_, by simpa using g2, by rw [g3, Bool.and_assoc]⟩
            simp only [List.length_cons, List.take_succ_cons, valEq, g1]
          · cases h

section
variable {P : Program} {w : World}

def pack (P : Program) (t : TypeId) (xs : List Value) : Value := if aggOf P t then .agg xs.toArray else xs.headD undef

theorem eqLeaves_one {d : Nat} {t : TypeId} {ls : List LK} (h : eqLeaves P d t = some ls) (ha : aggOf P t = false) : ls.length = 1 := by
  cases d with
  | zero => simp [eqLeaves] at h
  | succ d =>
    simp only [eqLeaves] at h
    unfold aggOf at ha
    split at h
    · cases h; rfl
    · cases h; rfl
    · cases h; rfl
    · rename_i fs hu; simp [hu] at ha
    · cases h

theorem eqLeaves_under {d : Nat} {t : TypeId} {ls : List LK} (h : eqLeaves P d t = some ls) : ∃ u, P.underlying t = some u := by
  cases d with
  | zero => simp [eqLeaves] at h
  | succ d =>
    simp only [eqLeaves] at h
    split at h <;> first | exact ⟨_, by assumption⟩ | cases h

theorem run_part {t : TypeId} {xs : List Value} {off n : Nat} (hu : ∃ u, P.underlying t = some u) (hn : P.cellsOf t = n) (hi : ∃ i, P.info? t = some i) (h1 : aggOf P t = false → n = 1) (hl : off + n ≤ xs.length) :
    (part t xs.toArray off).run P w = .ok (pack P t ((xs.drop off).take n)) w := by
  obtain ⟨u, hu⟩ := hu
  obtain ⟨i, hi⟩ := hi
  simp only [Program.cellsOf, hi, Option.map_some, Option.getD_some] at hn
  simp only [part, Sem.run_bind, run_isAgg' hu, Result.andThen_ok, pack]
  cases ha : aggOf P t with
  | true =>
    simp only [if_true, Sem.run_bind, run_size hi, Result.andThen_ok, hn, Sem.run_pure]
    congr 2
    apply Array.ext'
    simp
  | false =>
    have h1 := h1 ha
    subst h1
    have hlt : off < xs.length := by omega
    simp only [Bool.false_eq_true, if_false]
    have e : ((xs.drop off).take 1).headD undef = xs[off] := by rw [List.drop_eq_getElem_cons hlt]; rfl
    simp only [List.getElem?_toArray, List.getElem?_eq_getElem hlt, Sem.run_pure, e]

theorem eq_leaf : ∀ (d : Nat) (t : TypeId) (ls : List LK), eqLeaves P d t = some ls → ∀ D, d ≤ D → ∀ (xs ys : List Value) (r : Bool), valEq ls xs ys = some r → (Op.equalIn D t (pack P t xs) (pack P t ys)).run P w = .ok r w := by
  intro d
  induction d with
  | zero => intro t ls h; simp [eqLeaves] at h
  | succ d ih =>
    intro t ls h D hD xs ys r hv
    obtain ⟨D, rfl⟩ : ∃ E, D = E + 1 := ⟨D - 1, by omega⟩
    obtain ⟨hx, hy⟩ := valEq_length hv
    simp only [eqLeaves] at h
    split at h
    · rename_i hu
      cases h
      match xs, ys, hv with
      | [.bool a], [.bool b], hv =>
        simp only [valEq, Bool.and_true, Option.some.injEq] at hv
        simp [pack, aggOf, hu, Op.equalIn, run_underlying hu, hv]
    · rename_i k hu
      cases h
      match xs, ys, hv with
      | [.int k1 a], [.int k2 b], hv =>
        by_cases h1 : k1 = k
        · by_cases h2 : k2 = k
          · subst h1; subst h2
            simp [valEq] at hv
            simp [pack, aggOf, hu, Op.equalIn, run_underlying hu, hv]
          · simp [valEq, h2] at hv
        · simp [valEq, h1] at hv
    · rename_i hu
      cases h
      match xs, ys, hv with
      | [.string a], [.string b], hv =>
        simp only [valEq, Bool.and_true, Option.some.injEq] at hv
        simp [pack, aggOf, hu, Op.equalIn, run_underlying hu, hv]
    · rename_i fs hu
      split at h
      · cases h
      · rename_i hst
        have hf : P.fieldsOf t = fs := by simp [Program.fieldsOf, hu]
        have hpx : ∀ zs : List Value, pack P t zs = .agg zs.toArray := fun zs => by simp [pack, aggOf, hu]
        rw [hpx, hpx, run_equalIn_struct (P := P) w D t _ _ (by rw [hf]; exact hu) hst, hf]
        have key : ∀ (fl : List Field) (off : Nat) (ls' : List LK) (r' : Bool), leavesOf P (eqLeaves P d) fl off = some ls' → valEq ls' (xs.drop off) (ys.drop off) = some r' → (Op.eqFields D xs.toArray ys.toArray fl).run P w = .ok r' w := by
          intro fl
          induction fl with
          | nil =>
            intro off ls' r' h1 h2
            simp only [leavesOf, Option.some.injEq] at h1
            subst h1
            cases hd1 : xs.drop off <;> cases hd2 : ys.drop off <;> simp [hd1, hd2, valEq] at h2
            subst h2
            simp [Op.eqFields]
          | cons f fl ihf =>
            intro off ls' r' h1 h2
            simp only [leavesOf] at h1
            split at h1
            · rename_i ls1 hnm hof hg
              split at h1
              · rename_i r2 hcl hr2
                cases h1
                have hnm' : f.name ≠ "_" := of_decide_eq_false hnm
                have hof' := of_decide_eq_true hof
                have hcl' := of_decide_eq_true hcl
                obtain ⟨q1, q2, g1, g2, g3⟩ := valEq_append h2
                obtain ⟨l1, l2⟩ := valEq_length g1
                simp only [List.length_take, List.length_drop] at l1 l2
                obtain ⟨e1, e2⟩ := valEq_length h2
                simp only [List.length_drop, List.length_append] at e1 e2
                have hinfo : ∃ i, P.info? f.type = some i := by
                  obtain ⟨u, hu'⟩ := eqLeaves_under hg
                  unfold Program.underlying at hu'
                  cases hi : P.info? f.type with
                  | none => simp [hi] at hu'
                  | some i => exact ⟨i, rfl⟩
                have hlen : 0 < ls1.length ∨ ls1.length = 0 := by omega
                have p1 : (part f.type xs.toArray f.offset).run P w = .ok (pack P f.type ((xs.drop off).take ls1.length)) w := by
                  rw [hof']
                  rcases hlen with hp | h0
                  · exact run_part (eqLeaves_under hg) hcl' hinfo (fun ha => eqLeaves_one hg ha) (by omega)
                  · have ha : aggOf P f.type = true := by
                      cases ha : aggOf P f.type with
                      | true => rfl
                      | false => have := eqLeaves_one hg ha; omega
                    obtain ⟨u, hu'⟩ := eqLeaves_under hg
                    obtain ⟨i, hi⟩ := hinfo
                    have hn : i.size = 0 := by simpa [Program.cellsOf, hi, h0] using hcl'
                    simp only [part, Sem.run_bind, run_isAgg' hu', Result.andThen_ok, pack, ha, if_true, run_size hi, hn, Sem.run_pure, h0]
                    congr 2
                    apply Array.ext'
                    simp
                have p2 : (part f.type ys.toArray f.offset).run P w = .ok (pack P f.type ((ys.drop off).take ls1.length)) w := by
                  rw [hof']
                  rcases hlen with hp | h0
                  · exact run_part (eqLeaves_under hg) hcl' hinfo (fun ha => eqLeaves_one hg ha) (by omega)
                  · have ha : aggOf P f.type = true := by
                      cases ha : aggOf P f.type with
                      | true => rfl
                      | false => have := eqLeaves_one hg ha; omega
                    obtain ⟨u, hu'⟩ := eqLeaves_under hg
                    obtain ⟨i, hi⟩ := hinfo
                    have hn : i.size = 0 := by simpa [Program.cellsOf, hi, h0] using hcl'
                    simp only [part, Sem.run_bind, run_isAgg' hu', Result.andThen_ok, pack, ha, if_true, run_size hi, hn, Sem.run_pure, h0]
                    congr 2
                    apply Array.ext'
                    simp
                have p3 := ih f.type ls1 hg D (by omega) _ _ q1 g1
                rw [List.drop_drop, List.drop_drop] at g2
                have p4 := ihf (off + ls1.length) r2 q2 hr2 g2
                simp only [Op.eqFields, if_pos hnm', Sem.run_bind, p1, p2, p3, Result.andThen_ok]
                cases q1 with
                | true => simp [p4, g3]
                | false => simp [g3]
              · cases h1
            · cases h1
        exact key fs.toList 0 ls r h (by simpa using hv)
    · cases h

end

end Go.Proofs.YtnafogjagbhdbaaDoor.Pi
/- Operators: the continuation forms against the machine, more. No statement of the seat is proved here. -/
namespace Go.Proofs.YtnafogjagbhdbaaDoor.Pi
open Go Go.RowKit
set_option linter.unusedVariables false
set_option linter.unusedSimpArgs false

section
variable {P : Program} {C : Ctx} {L : Lay} {I : Nat → Prop} {s : St} {a : Act} {w : World}

def Runs (P : Program) (L : Lay) (H : Heap) (I : Nat → Prop) (w : World) (m : Sem Value) (K : PV → Prop) : Prop :=
  ∃ pv v, K pv ∧ m.run P w = .ok v w ∧ RepP L H I w v pv

theorem runs_int {k : IntKind} {n z : Int} {K : PV → Prop} {m : Sem Value} (hr : m.run P w = .ok (.int k n) w) (e : n = z) (h : K (.one (.c (.int k z)))) : Runs P L s.heap I w m K :=
  ⟨_, _, h, hr, e ▸ RepC.int k n⟩
theorem runs_bool {b : Bool} {K : PV → Prop} {m : Sem Value} (hr : m.run P w = .ok (.bool b) w) (h : K (.one (.c (.bool b)))) : Runs P L s.heap I w m K :=
  ⟨_, _, h, hr, RepC.bool b⟩
theorem runs_str {b : ByteArray} {K : PV → Prop} {m : Sem Value} (hr : m.run P w = .ok (.string b) w) (h : K (.one (.c (.str b)))) : Runs P L s.heap I w m K :=
  ⟨_, _, h, hr, RepC.str b⟩

theorem binInt_sound {op : BinOp} {t : TypeId} {ti : TI} {yc : Bool} {k k' : IntKind} {m n : Int} {K : PV → Prop} (h : binK op ti yc (.one (.c (.int k m))) (.one (.c (.int k' n))) K) :
    Runs P L s.heap I w (binOp op t (.int k m) (.int k' n)) K := by
  have nsh : ∀ {A : Prop}, (match decide (k = k') with | false => False | true => A) → k = k' ∧ A := fun {A} h => by
    by_cases e : k = k'
    · simp only [e, decide_true] at h; exact ⟨e, h⟩
    · simp [e] at h
  cases op <;> simp only [binK] at h
  case shl => obtain ⟨h0, z, hz, h⟩ := h; exact runs_int (by simp [binOp, Op.shift, Int.not_lt.2 h0]) hz h
  case shr => obtain ⟨h0, h⟩ := h; exact runs_int (by simp [binOp, Op.shift, Int.not_lt.2 h0]) rfl h
  all_goals (replace h := nsh h; obtain ⟨e, h⟩ := h; subst e)
  case add => obtain ⟨z, hz, h⟩ := h; exact runs_int (by simp [binOp, Op.intArith]) hz h
  case sub => obtain ⟨z, hz, h⟩ := h; exact runs_int (by simp [binOp, Op.intArith]) hz h
  case mul => obtain ⟨z, hz, h⟩ := h; exact runs_int (by simp [binOp, Op.intArith]) hz h
  case quo => obtain ⟨h0, z, hz, h⟩ := h; exact runs_int (by simp [binOp, Op.intDiv, h0]) hz h
  case rem => obtain ⟨h0, h⟩ := h; exact runs_int (by simp [binOp, Op.intDiv, h0]) rfl h
  case and => exact runs_int (by rw [binOp_and]; rfl) rfl h
  case or => exact runs_int (by rw [binOp_or]; rfl) rfl h
  case xor => exact runs_int (by rw [binOp_xor]; rfl) rfl h
  case eql => exact runs_bool (by simp [binOp, Op.intCmp]) h
  case neq => exact runs_bool (by simp [binOp, Op.intCmp]) h
  case lss => exact runs_bool (by simp [binOp, Op.intCmp]) h
  case leq => exact runs_bool (by simp [binOp, Op.intCmp]) h
  case gtr => exact runs_bool (by simp [binOp, Op.intCmp]) h
  case geq => exact runs_bool (by simp [binOp, Op.intCmp]) h
  all_goals exact h.elim

theorem binStr_sound {op : BinOp} {t : TypeId} {ti : TI} {yc : Bool} {x y : ByteArray} {K : PV → Prop} (h : binK op ti yc (.one (.c (.str x))) (.one (.c (.str y))) K) :
    Runs P L s.heap I w (binOp op t (.string x) (.string y)) K := by
  cases op <;> simp only [binK] at h
  case add =>
    obtain ⟨h0, h⟩ := h
    refine runs_str ?_ h
    simp only [binOp, Op.stringOp]
    rw [if_neg (by omega)]; rfl
  case eql => exact runs_bool (by simp [binOp, Op.stringOp]) h
  case neq => exact runs_bool (by simp [binOp, Op.stringOp]) h
  case lss => exact runs_bool (by simp [binOp, Op.stringOp]) h
  case leq => exact runs_bool (by simp [binOp, Op.stringOp]) h
  case gtr => exact runs_bool (by simp [binOp, Op.stringOp]) h
  case geq => exact runs_bool (by simp [binOp, Op.stringOp]) h
  all_goals exact h.elim

theorem guard_int (op : BinOp) (t : TypeId) (X Y : Operand) (k : IntKind) (n : Int) (v : Value) : eqGuard op t X Y (.int k n) v = pure () := by cases op <;> rfl
theorem guard_str (op : BinOp) (t : TypeId) (X Y : Operand) (b : ByteArray) (v : Value) : eqGuard op t X Y (.string b) v = pure () := by cases op <;> rfl
theorem guard_bool (op : BinOp) (t : TypeId) (X Y : Operand) (b : Bool) (v : Value) : eqGuard op t X Y (.bool b) v = pure () := by cases op <;> rfl

theorem cellsEq_val {ls : List LK} : ∀ {xs ys : List XV} {vs us : List Value} {r : Bool}, cellsEq ls xs ys = some r → vs.length = xs.length → us.length = ys.length →
    (∀ (i : Nat) (x : XV) (v : Value), xs[i]? = some x → vs[i]? = some v → RepX L s.heap I w v x) → (∀ (i : Nat) (x : XV) (v : Value), ys[i]? = some x → us[i]? = some v → RepX L s.heap I w v x) → valEq ls vs us = some r := by
  induction ls with
  | nil =>
    intro xs ys vs us r h h1 h2 _ _
    cases xs <;> cases ys <;> simp only [cellsEq, reduceCtorEq] at h
    simp only [List.length_nil, List.length_eq_zero_iff] at h1 h2
    subst h1; subst h2
    simpa [valEq] using h
  | cons l ls ih =>
    intro xs ys vs us r h h1 h2 hx hy
    cases xs with
    | nil => cases l <;> cases ys <;> simp [cellsEq] at h
    | cons x xs =>
      cases ys with
      | nil => cases l <;> cases x <;> first | (simp [cellsEq] at h; done) | (rename_i y; cases y <;> simp [cellsEq] at h)
      | cons y ys =>
        cases vs with
        | nil => simp at h1
        | cons v vs =>
          cases us with
          | nil => simp at h2
          | cons u us =>
            have g1 := hx 0 x v rfl rfl
            have g2 := hy 0 y u rfl rfl
            have ih' := fun r h => ih (xs := xs) (ys := ys) (vs := vs) (us := us) (r := r) h (by simpa using h1) (by simpa using h2) (fun i x v a b => hx (i + 1) x v (by simpa using a) (by simpa using b)) (fun i x v a b => hy (i + 1) x v (by simpa using a) (by simpa using b))
            cases x with
            | c cx =>
              cases y with
              | c cy =>
                have g1 : RepC I w v cx := g1
                have g2 : RepC I w u cy := g2
                cases l <;> cases cx <;> first | (simp [cellsEq] at h; done) | (cases cy <;> first | (simp [cellsEq] at h; done) | skip)
                · cases g1; cases g2
                  simp only [cellsEq] at h
                  split at h
                  · rename_i e1 e2 e3
                    simp only [valEq, e1, e2, ih' _ e3]; exact h
                  · cases h
                · cases g1; cases g2
                  simp only [cellsEq] at h
                  split at h
                  · rename_i e3
                    simp only [valEq, ih' _ e3]; exact h
                  · cases h
                · cases g1; cases g2
                  simp only [cellsEq] at h
                  split at h
                  · rename_i e3
                    simp only [valEq, ih' _ e3]; exact h
                  · cases h
              | _ => cases l <;> cases cx <;> simp [cellsEq] at h
            | _ => cases l <;> simp [cellsEq] at h

theorem equal_bool {t : TypeId} (hu : P.underlying t = some .bool) (m n : Bool) : (Op.equal t (.bool m) (.bool n)).run P w = .ok (m == n) w := by
  change (Op.equalIn (9999 + 1) t (.bool m) (.bool n)).run P w = _
  generalize 9999 = d
  simp [Op.equalIn, run_underlying hu]
theorem equal_nil {t : TypeId} {ms : Array (String × TypeId)} (hu : P.underlying t = some (.interface ms)) : (Op.equal t .nilIface .nilIface).run P w = .ok true w := by
  change (Op.equalIn (9999 + 1) t .nilIface .nilIface).run P w = _
  generalize 9999 = d
  simp [Op.equalIn, run_underlying hu]
theorem equal_some {t : TypeId} {ms : Array (String × TypeId)} (hu : P.underlying t = some (.interface ms)) (t' : TypeId) (v' : Value) : (Op.equal t (.iface t' v') .nilIface).run P w = .ok false w := by
  change (Op.equalIn (9999 + 1) t (.iface t' v') .nilIface).run P w = _
  generalize 9999 = d
  simp [Op.equalIn, run_underlying hu]

theorem binK_sound {op : BinOp} {t : TypeId} {ti : TI} (ht : tiOk P t ti = true) {X Y : Operand} {yc : Bool} (hyc : yc = true → ∃ c, Y = .const c) {v u : Value} {x y : PV} {K : PV → Prop} (h : binK op ti yc x y K) (hx : RepP L s.heap I w v x) (hy : RepP L s.heap I w u y) :
    Runs P L s.heap I w (do eqGuard op t X Y v u; binOp op t v u) K := by
  unfold binK at h
  split at h
  · rename_i k m k' n
    have e1 := rep_int hx; have e2 := rep_int hy
    subst e1; subst e2
    obtain ⟨pv, v', g1, g2, g3⟩ := binInt_sound (P := P) (t := t) (s := s) (L := L) (I := I) (w := w) (op := op) (ti := ti) (yc := yc) (k := k) (k' := k') (m := m) (n := n) (K := K) h
    exact ⟨pv, v', g1, by simp only [guard_int, Sem.run_bind, Sem.run_pure, Result.andThen_ok, g2], g3⟩
  · rename_i m n
    have e1 := rep_str hx; have e2 := rep_str hy
    subst e1; subst e2
    obtain ⟨pv, v', g1, g2, g3⟩ := binStr_sound (P := P) (t := t) (s := s) (L := L) (I := I) (w := w) (op := op) (ti := ti) (yc := yc) (x := m) (y := n) (K := K) h
    exact ⟨pv, v', g1, by simp only [guard_str, Sem.run_bind, Sem.run_pure, Result.andThen_ok, g2], g3⟩
  · rename_i m n
    have e1 := rep_bool hx; have e2 := rep_bool hy
    subst e1; subst e2
    split at h
    · rename_i hbo
      have hu := (known_any ht (.inr (.inr (.inr (.inr (.inr (.inr (.inr (.inr hbo))))))))).bool hbo
      refine runs_bool ?_ h
      simp only [guard_bool, Sem.run_bind, Sem.run_pure, Result.andThen_ok, binOp]
      simp only [Sem.run_bind, equal_bool hu, Result.andThen_ok, Sem.run_pure]
    · rename_i hbo
      have hu := (known_any ht (.inr (.inr (.inr (.inr (.inr (.inr (.inr (.inr hbo))))))))).bool hbo
      refine runs_bool ?_ h
      simp only [guard_bool, Sem.run_bind, Sem.run_pure, Result.andThen_ok, binOp]
      simp only [Sem.run_bind, equal_bool hu, Result.andThen_ok, Sem.run_pure]
    · exact h.elim
  · rename_i m n
    split at h
    · rename_i hif
      obtain ⟨c, rfl⟩ := hyc rfl
      have hu := (known_any ht (.inr (.inr (.inr (.inr (.inr (.inr (.inl hif)))))))).iface hif
      obtain ⟨ms, hu⟩ := hu
      have hx : RepC I w v (.iface m) := hx
      have hy : RepC I w u (.iface true) := hy
      cases hy
      cases hx with
      | nilI =>
        have hg : eqGuard op t X (.const c) .nilIface .nilIface = pure () := by cases op <;> cases X <;> rfl
        cases op <;> simp only at h
        · exact runs_bool (by simp only [hg, binOp, Sem.run_bind, Sem.run_pure, Result.andThen_ok, equal_nil hu]) h
        · exact runs_bool (by simp only [hg, binOp, Sem.run_bind, Sem.run_pure, Result.andThen_ok, equal_nil hu]) h
      | someI t' v' =>
        have hg : eqGuard op t X (.const c) (.iface t' v') .nilIface = pure () := by cases op <;> rfl
        cases op <;> simp only at h
        · exact runs_bool (by simp only [hg, binOp, Sem.run_bind, Sem.run_pure, Result.andThen_ok, equal_some hu]) h
        · exact runs_bool (by simp only [hg, binOp, Sem.run_bind, Sem.run_pure, Result.andThen_ok, equal_some hu]) h
    · exact h.elim
  · rename_i xs ys
    split at h
    · rename_i ls hag heq
      have hkn := known_any ht (.inr (.inr (.inl (by rw [heq]; simp))))
      have hag' := hkn.agg
      obtain ⟨he, hm⟩ := hkn.eq _ heq
      obtain ⟨vs, rfl, hvs⟩ := hx
      obtain ⟨us, rfl, hus⟩ := hy
      have hce : ∀ b, cellsEq ls xs ys = some b → (Op.equalIn 10000 t (.agg vs) (.agg us)).run P w = .ok b w := fun b hb => by
        have hv := cellsEq_val (s := s) (L := L) (I := I) (w := w) (vs := vs.toList) (us := us.toList) hb (by simpa using hvs.1) (by simpa using hus.1) (fun i x v a b => hvs.2 i x v a (by simpa using b)) (fun i x v a b => hus.2 i x v a (by simpa using b))
        have := eq_leaf (P := P) (w := w) 8 t ls he 10000 (by omega) vs.toList us.toList b hv
        simpa [pack, hag', hag] using this
      split at h
      · rename_i b hb
        refine runs_bool ?_ h
        simp only [Sem.run_bind, run_eqGuard_agg (P := P) w .eql t X Y vs us hm, Result.andThen_ok, run_eql_struct, hce b hb]
      · rename_i b hb
        refine runs_bool ?_ h
        simp only [Sem.run_bind, run_eqGuard_agg (P := P) w .neq t X Y vs us hm, Result.andThen_ok, run_neq_struct, hce b hb]
      · exact h.elim
    · exact h.elim
  · exact h.elim

end

end Go.Proofs.YtnafogjagbhdbaaDoor.Pi
/- The operations that leave the abstract state alone, against the machine. No statement of the seat is proved here. -/
namespace Go.Proofs.YtnafogjagbhdbaaDoor.Pi
open Go Go.RowKit
set_option linter.unusedVariables false
set_option linter.unusedSimpArgs false

section
variable {P : Program} {C : Ctx} {L : Lay} {I : Nat → Prop} {s : St} {a : Act} {w : World}

theorem unK_sound {op : UnOp} {v : Value} {x : PV} {K : PV → Prop} (h : unK op x K) (hx : RepP L s.heap I w v x) : Runs P L s.heap I w (Op.unary op v) K := by
  unfold unK at h
  split at h
  · have e := rep_bool hx; subst e
    exact runs_bool (by simp [Op.unary]) h
  · have e := rep_int hx; subst e
    obtain ⟨z, hz, h⟩ := h
    exact runs_int (k := _) (n := _) (by simp only [Op.unary, Op.intArith]; rfl) hz h
  · exact h.elim

theorem convertQ_sound {src dst : TypeId} {tis tid : TI} (hs : tiOk P dst tid = true) (hsrc : tiOk P src tis = true) {v : Value} {x : PV} {K : PV → Prop} {h0 : Heap} (h : convertQ h0 tis tid tid.ik x K) (hx : RepP L s.heap I w v x) : Runs P L s.heap I w (convert src dst v) K := by
  unfold convertQ at h
  split at h
  · rename_i hik hsz
    have e := rep_int hx; subst e
    obtain ⟨z, hz, h⟩ := h
    have hu := (known_any hs (.inr (.inr (.inr (.inl (by rw [hik]; simp)))))).ik _ hik
    obtain ⟨d, hd⟩ := (known_of hsrc (by omega)).under
    refine runs_int ?_ hz h
    simp only [convert, Sem.run_bind, run_underlying hd, run_underlying hu, Result.andThen_ok, Conv.intToInt, Sem.run_pure]
  · exact h.elim

theorem lenK_sound {t ty : TypeId} {ti : TI} (ht : tiOk P t ti = true) {v : Value} {x : PV} {K : PV → Prop} (hi : Inv C L I s a w) (h : lenK s.heap ti x K) (hx : RepP L s.heap I w v x) (ats : Array TypeId) (hats : ats[0]? = some t) : Runs P L s.heap I w (Builtin.len_ ats ty #[v]) K := by
  have sl : ∀ {sz b : Nat}, ti.slice = some (sz, b) → ∀ (base : Option Addr) (n c : Nat), (Builtin.len_ ats ty #[.slice base n c]).run P w = .ok (.int .i64 n) w := fun {sz b} hsl base n c => by
    have hu := ((known_any ht (.inl (by rw [hsl]; simp))).slice _ _ hsl).1
    simp [Builtin.len_, hats, run_underlying hu, goInt]
  unfold lenK at h
  split at h
  · rename_i sz' sz es hsl
    have hx : RepC I w v (.slice sz es) := hx
    cases hx with
    | nil _ => exact runs_int (sl hsl _ _ _) (by simp) h
    | empty _ _ _ => exact runs_int (sl hsl _ _ _) (by simp) h
    | slice b off cap _ n _ vs hI hn hcap hsz hc hrc => exact runs_int (sl hsl _ _ _) (by rw [hn]) h
  · rename_i sz' sz hsl
    have hx : v = .slice none 0 0 := hx
    subst hx
    exact runs_int (sl hsl _ _ _) (by simp) h
  · rename_i sz' k hsl
    split at h
    · rename_i sz rows hf
      obtain ⟨_, _, g1, g2⟩ := hx
      rw [hf] at g1; cases g1
      cases hbk : L.blk k with
      | none =>
        have ho := hi.heap.ob k _ hf
        simp only [RepO, hbk] at ho
        simp only [hbk] at g2
        subst g2; subst ho
        exact runs_int (sl hsl _ _ _) (by simp) h
      | some b => simp only [hbk] at g2; subst g2; exact runs_int (sl hsl _ _ _) rfl h
    · exact h.elim
  · rename_i sz' k o l hsl
    obtain ⟨sz, rows, g1, g3, g2⟩ := hx
    cases hbk : L.blk k with
    | none =>
      have ho := hi.heap.ob k _ g1
      simp only [RepO, hbk] at ho
      simp only [hbk] at g2
      subst g2; subst ho
      exact runs_int (sl hsl _ _ _) (by simp at g3; simp [g3.2]) h
    | some b => simp only [hbk] at g2; obtain ⟨q, _, _, rfl⟩ := g2; exact runs_int (sl hsl _ _ _) rfl h
  · rename_i sz' k hsl
    split at h
    · rename_i ap sz rows hf
      obtain ⟨_, _, _, g1, g2⟩ := hx
      rw [hf] at g1; cases g1
      cases hbk : L.blk k with
      | none =>
        have ho := hi.heap.ob k _ hf
        simp only [RepO, hbk] at ho
        simp only [hbk] at g2
        subst ho
        rcases g2.1 with g2 | ⟨_, _, g2⟩ <;> subst g2 <;> exact runs_int (sl hsl _ _ _) (by simp) h
      | some b => simp only [hbk] at g2; subst g2; exact runs_int (sl hsl _ _ _) rfl h
    · exact h.elim
  · rename_i s' hst
    have e := rep_str hx; subst e
    have hu := (known_any ht (.inr (.inr (.inr (.inr (.inl (by assumption))))))).str (by assumption)
    exact runs_int (by simp [Builtin.len_, hats, run_underlying hu, goInt]) rfl h
  · exact h.elim

theorem sliceBounds_ok {isS : Bool} {n c : Nat} (hnc : n ≤ c) {lo hi : Option Int} {K : Nat → Nat → Prop} (h : boundsOf n lo hi K) {lv hv : Option Value}
    (hlo : OptI lv lo) (hhi : OptI hv hi) :
    ∃ l h', K l h' ∧ l ≤ h' ∧ h' ≤ n ∧ (Instr.sliceBounds isS n c lv hv none).run P w = .ok (l, h', c) w := by
  have one : ∀ (k : IntKind) (m : Int) (y : Nat) (code : BoundsCode), 0 ≤ m → m ≤ y → (Instr.sliceBound (.int k m) y code).run P w = .ok m.toNat w := fun k m y code h0 h1 => by
    simp [Instr.sliceBound, asIntOf, h0, h1]
  unfold boundsOf at h
  cases lo with
  | none =>
    cases lv with
    | some v => exact hlo.elim
    | none =>
      cases hi with
      | none =>
        cases hv with
        | some v => exact hhi.elim
        | none => exact ⟨0, n, h, by omega, by omega, by simp [Instr.sliceBounds]⟩
      | some m =>
        cases hv with
        | none => exact hhi.elim
        | some v =>
          obtain ⟨k, rfl⟩ := hhi
          obtain ⟨⟨h0, h1⟩, h⟩ := h
          refine ⟨0, m.toNat, h, by omega, by omega, ?_⟩
          simp only [Instr.sliceBounds, Sem.run_bind, Sem.run_pure, Result.andThen_ok, one k m c _ h0 (by omega)]
  | some l =>
    cases lv with
    | none => exact hlo.elim
    | some v =>
      obtain ⟨kl, rfl⟩ := hlo
      cases hi with
      | none =>
        cases hv with
        | some v => exact hhi.elim
        | none =>
          obtain ⟨⟨h0, h1⟩, h⟩ := h
          refine ⟨l.toNat, n, h, by omega, by omega, ?_⟩
          simp only [Instr.sliceBounds, Sem.run_bind, Sem.run_pure, Result.andThen_ok, one kl l n _ h0 h1]
      | some m =>
        cases hv with
        | none => exact hhi.elim
        | some v =>
          obtain ⟨k, rfl⟩ := hhi
          obtain ⟨⟨h0, h1, h2⟩, h⟩ := h
          refine ⟨l.toNat, m.toNat, h, by omega, by omega, ?_⟩
          simp only [Instr.sliceBounds, Sem.run_bind, Sem.run_pure, Result.andThen_ok, one k m c _ (by omega) (by omega), one kl l m.toNat _ h0 (by omega)]

theorem sliceK_sound {t : TypeId} {ti : TI} (ht : tiOk P t ti = true) (hi : Inv C L I s a w) {v : Value} {x : PV} {lo hi' : Option Int} {K : PV → Prop} (h : sliceK s.heap ti x lo hi' K) (hx : RepP L s.heap I w v x) {lv hv : Option Value}
    (hlo : OptI lv lo) (hhi : OptI hv hi') :
    Runs P L s.heap I w (Instr.sliceAt t v lv hv none) K := by
  have sl : ∀ {sz b : Nat}, ti.slice = some (sz, b) → ∀ (base : Option Addr) (n c : Nat) (K' : Nat → Nat → Prop), n ≤ c → boundsOf n lo hi' K' → ∃ l h', K' l h' ∧ l ≤ h' ∧ h' ≤ n ∧
      (Instr.sliceAt t (.slice base n c) lv hv none).run P w = .ok (.slice (if c = l then base else base.map (·.add (l * sz))) (h' - l) (c - l)) w := fun {sz b} hsl base n c K' hnc hb => by
    obtain ⟨hu, _, ie, hie, hs, _⟩ := (known_any ht (.inl (by rw [hsl]; simp))).slice _ _ hsl
    obtain ⟨l, h', g1, g2, g3, g4⟩ := sliceBounds_ok (P := P) (w := w) (isS := true) hnc hb hlo hhi
    refine ⟨l, h', g1, g2, g3, ?_⟩
    simp only [Instr.sliceAt, Instr.slice, Sem.run_bind, run_underlying hu, Result.andThen_ok, g4, run_size hie, hs, Sem.run_pure]
  unfold sliceK at h
  split at h
  · rename_i st hst
    have e := rep_str hx; subst e
    have hu := (known_any ht (.inr (.inr (.inr (.inr (.inl (by assumption))))))).str (by assumption)
    obtain ⟨l, h', g1, g2, g3, g4⟩ := sliceBounds_ok (P := P) (w := w) (isS := false) (Nat.le_refl _) h hlo hhi
    exact runs_str (by simp only [Instr.sliceAt, Instr.slice, Sem.run_bind, run_underlying hu, Result.andThen_ok, g4, Sem.run_pure]; simp [g4]) g1
  · rename_i sz' _ sz es hsl
    split at h
    · rename_i hb
      have e := beq_iff.1 hb
      subst e
      have hx : RepC I w v (.slice sz es) := hx
      cases hx with
      | nil _ =>
        obtain ⟨l, h', g1, g2, g3, g4⟩ := sl hsl none 0 0 _ (Nat.le_refl _) h
        obtain rfl : h' = 0 := by simpa using g3
        obtain rfl : l = 0 := by omega
        exact ⟨_, _, g1, g4, by simp only [List.take_nil, List.drop_nil]; exact RepC.nil sz⟩
      | empty b cap _ =>
        obtain ⟨l, h', g1, g2, g3, g4⟩ := sl hsl (some b) 0 cap _ (Nat.zero_le _) h
        obtain rfl : h' = 0 := by simpa using g3
        obtain rfl : l = 0 := by omega
        refine ⟨_, _, g1, g4, ?_⟩
        simp only [List.take_nil, List.drop_nil]
        split
        · exact RepC.empty _ _ sz
        · exact RepC.empty _ _ sz
      | slice b off cap _ n _ vs hI hn hcap hsz hc hrc =>
        subst hn
        obtain ⟨l, h', g1, g2, g3, g4⟩ := sl hsl _ _ cap _ hcap h
        have hget : ∀ (i : Nat) (r : List CV), ((es.take h').drop l)[i]? = some r → i < h' - l ∧ es[l + i]? = some r := fun i r hr => by
          rw [List.getElem?_drop, List.getElem?_take] at hr
          split at hr
          · exact ⟨by omega, hr⟩
          · cases hr
        refine ⟨_, _, g1, g4, ?_⟩
        by_cases e : cap = l
        · have : ((es.take h').drop l) = [] := by
            apply List.eq_nil_of_length_eq_zero; simp; omega
          rw [if_pos e, this]
          refine RepC.slice b off _ sz _ [] (fun _ _ => undef) hI (by simp; omega) (by omega) (fun i r h => by simp at h) (fun i r j c h => by simp at h) (fun i r j c h => by simp at h)
        · rw [if_neg e]
          simp only [Option.map_some, add_plain]
          refine RepC.slice b (off + l * sz) _ sz _ _ (fun i j => vs (l + i) j) hI (by simp; omega) (by omega) (fun i r hr => hsz _ r (hget i r hr).2) (fun i r j c h1 h2 => ?_) (fun i r j c h1 h2 => hrc _ r j c (hget i r h1).2 h2)
          have := hc _ r j c (hget i r h1).2 h2
          rw [Nat.add_mul, Nat.add_assoc] at this
          rw [Nat.add_assoc]; exact this
    · exact h.elim
  · rename_i sz' _ k hsl
    split at h
    · rename_i sz rows hf
      split at h
      · rename_i hb
        have e := beq_iff.1 hb
        subst e
        obtain ⟨_, _, g1, g2⟩ := hx
        rw [hf] at g1; cases g1
        have ho := hi.heap.ob k _ hf
        cases hbk : L.blk k with
        | none =>
          simp only [RepO, hbk] at ho
          simp only [hbk] at g2
          subst g2; subst ho
          obtain ⟨l, h', q1, q2, q3, q4⟩ := sl hsl none 0 0 _ (Nat.le_refl _) h
          obtain rfl : h' = 0 := by simpa using q3
          obtain rfl : l = 0 := by omega
          exact ⟨_, _, q1, q4, sz, [], hf, by simp, by simp [hbk]⟩
        | some b =>
          simp only [RepO, hbk] at ho
          simp only [hbk] at g2
          subst g2
          obtain ⟨l, h', q1, q2, q3, q4⟩ := sl hsl _ _ (L.cap k) _ ho.1 h
          refine ⟨_, _, q1, q4, sz, rows, hf, by omega, ?_⟩
          simp only [hbk]
          by_cases e : L.cap k = l
          · rw [if_pos e]
            exact ⟨0, by omega, fun h => by rcases h with h | h <;> first | omega | (subst h; simp), rfl⟩
          · rw [if_neg e]
            exact ⟨l * sz, by omega, fun _ => rfl, by simp [add_plain]⟩
      · exact h.elim
    · exact h.elim
  · rename_i sz' _ sz hsl
    have hx : v = .slice none 0 0 := hx
    subst hx
    obtain ⟨l, h', q1, q2, q3, q4⟩ := sl hsl none 0 0 _ (Nat.le_refl _) h
    obtain rfl : h' = 0 := by simpa using q3
    obtain rfl : l = 0 := by omega
    exact ⟨_, _, q1, q4, rfl⟩
  · exact h.elim

theorem extractK_sound {v : Value} {x : PV} {i : Nat} {K : PV → Prop} (h : extractK x i K) (hx : RepP L s.heap I w v x) : Runs P L s.heap I w (Instr.extract v i) K := by
  unfold extractK at h
  split at h
  · rename_i vs
    split at h
    · rename_i b xs hg
      obtain ⟨us, rfl, hsz, hr⟩ := hx
      have hlt : i < us.size := by rw [hsz]; exact (List.getElem?_eq_some_iff.1 hg).1
      have := hr i (b, xs) us[i] hg (Array.getElem?_eq_getElem hlt)
      have run : (Instr.extract (.tuple us) i).run P w = .ok us[i] w := by simp [Instr.extract, hlt]
      unfold oneOr at h
      split at h
      · obtain ⟨cs, e, hcs⟩ := this; exact ⟨_, _, h, run, cs, e, hcs⟩
      · exact ⟨_, _, h, run, this⟩
      · exact h.elim
    · exact h.elim
  · exact h.elim

theorem fieldK_sound {t : TypeId} {ti : TI} (ht : tiOk P t ti = true) {v : Value} {x : PV} {f : Nat} {K : PV → Prop} (h : fieldK ti x f K) (hx : RepP L s.heap I w v x) : Runs P L s.heap I w (Instr.field t v f) K := by
  unfold fieldK at h
  split at h
  · rename_i off n ag xs hg
    have hne : ti.fields ≠ [] := fun e => by rw [e] at hg; simp at hg
    obtain ⟨fs, hu, hfo⟩ := (known_any ht (.inr (.inl hne))).fields hne
    obtain ⟨fd, i, hfd, ho, hinfo, hn, hag, d, hun⟩ := fieldsOk_get hfo hg
    obtain ⟨vs, rfl, hvs⟩ := hx
    simp only [subK_eq] at h
    have hfd' : fs[f]? = some fd := by simpa using hfd
    have hget : ∀ (j : Nat) (x : XV), (sub xs off n)[j]? = some x → ∃ v, vs[off + j]? = some v ∧ RepX L s.heap I w v x ∧ j < n := fun j x hx => by
      obtain ⟨h1, h2⟩ := sub_get _ _ _ _ _ hx
      have hlt : off + j < vs.size := by rw [hvs.1]; exact (List.getElem?_eq_some_iff.1 h2).1
      exact ⟨_, Array.getElem?_eq_getElem hlt, hvs.2 _ x _ h2 (Array.getElem?_eq_getElem hlt), h1⟩
    unfold oneOr at h
    split at h
    · refine ⟨_, .agg (vs.extract off (off + n)), h, ?_, _, rfl, ?_, fun j x v hx hv => ?_⟩
      · simp only [Instr.field, Sem.run_bind, run_underlying hu, Result.andThen_ok, hfd', asAgg, Sem.run_pure, part, run_isAgg' hun, hag, if_true, run_size hinfo, hn, ho]
      · rw [sub_eq]; simp [hvs.1]; omega
      · obtain ⟨v', h1, h2, h3⟩ := hget j x hx
        have : v = v' := by
          rw [Array.getElem?_extract] at hv
          split at hv
          · rw [h1] at hv; exact (Option.some.inj hv).symm
          · cases hv
        rw [this]; exact h2
    · rename_i x hsub
      obtain ⟨v', h1, h2, h3⟩ := hget 0 x (by rw [hsub]; rfl)
      refine ⟨_, v', h, ?_, h2⟩
      simp only [Nat.add_zero] at h1
      simp only [Instr.field, Sem.run_bind, run_underlying hu, Result.andThen_ok, hfd', asAgg, Sem.run_pure, part, run_isAgg' hun, hag, Bool.false_eq_true, if_false, ho, h1]
    · exact h.elim
  · exact h.elim

end

end Go.Proofs.YtnafogjagbhdbaaDoor.Pi
/- Building aggregates; calls that leave the abstract state alone. No statement of the seat is proved here. -/
namespace Go.Proofs.YtnafogjagbhdbaaDoor.Pi
open Go Go.RowKit
set_option linter.unusedVariables false
set_option linter.unusedSimpArgs false

theorem fold_get : ∀ (l : List Value) (k off : Nat) (cells : Array Value) (i : Nat), off + k + l.length ≤ cells.size →
    ((l.zipIdx k).foldl (fun cs (p : Value × Nat) => cs.setIfInBounds (off + p.2) p.1) cells)[i]? = if off + k ≤ i ∧ i < off + k + l.length then l[i - (off + k)]? else cells[i]?
  | [], k, off, cells, i, _ => by rw [if_neg (by simp only [List.length_nil]; omega)]; rfl
  | v :: l, k, off, cells, i, h => by
    simp only [List.length_cons] at h
    simp only [List.zipIdx_cons, List.foldl_cons]
    rw [fold_get l (k + 1) off _ i (by simp; omega)]
    by_cases e1 : i = off + k
    · subst e1
      rw [if_neg (by omega), if_pos (by simp)]
      have : off + k < cells.size := by omega
      simp [this]
    · by_cases e2 : off + k ≤ i ∧ i < off + k + (l.length + 1)
      · rw [if_pos (by omega), if_pos (by simpa using e2)]
        have : i - (off + k) = (i - (off + (k + 1))) + 1 := by omega
        rw [this]; simp
      · rw [if_neg (by omega), if_neg (by simpa using e2)]
        rw [Array.getElem?_setIfInBounds_ne (by omega)]

theorem fold_size : ∀ (l : List (Value × Nat)) (off : Nat) (cells : Array Value), (l.foldl (fun cs (p : Value × Nat) => cs.setIfInBounds (off + p.2) p.1) cells).size = cells.size
  | [], off, cells => rfl
  | v :: l, off, cells => by simp [fold_size l]

section
variable {P : Program} {C : Ctx} {L : Lay} {I : Nat → Prop} {s : St} {a : Act} {w : World}

theorem indexQ_sound {t : TypeId} {ti : TI} (ht : tiOk P t ti = true) (hst : ti.str = true) {v u : Value} {x y : PV} {K : PV → Prop} (h : indexQ x y K) (hx : RepP L s.heap I w v x) (hy : RepP L s.heap I w u y) : Runs P L s.heap I w (Instr.index t v u) K := by
  have hu := (known_any ht (.inr (.inr (.inr (.inr (.inl hst)))))).str hst
  unfold indexQ at h
  split at h
  · have e1 := rep_str hx; have e2 := rep_int hy
    subst e1; subst e2
    obtain ⟨b, ⟨h0, hb⟩, h⟩ := h
    refine runs_int ?_ rfl h
    simp only [Instr.index, asIntOf, Sem.run_bind, Sem.run_pure, Result.andThen_ok, run_underlying hu, if_pos h0, hb]
  · exact h.elim

def PartsRep (L : Lay) (H : Heap) (I : Nat → Prop) (w : World) : List (Nat × PV) → List (Nat × Value) → Prop
  | [], [] => True
  | (i, p) :: ps, (j, v) :: vs => i = j ∧ RepP L H I w v p ∧ PartsRep L H I w ps vs
  | _, _ => False

theorem partsK_sound (hi : Inv C L I s a w) {tt : TT} {ft : Nat → Nat} : ∀ {xs : List (Nat × Operand)} {K : List (Nat × PV) → Prop}, partsK s.regs tt ft xs K → ∃ ps, K ps ∧ PartsRep L s.heap I w ps (xs.map fun p => (p.1, a.eval p.2))
  | [], K, h => ⟨[], h, trivial⟩
  | (i, x) :: xs, K, h => by
    simp only [partsK] at h
    obtain ⟨pv, h1, h2⟩ := opd_sound hi h
    obtain ⟨ps, h3, h4⟩ := partsK_sound hi h1
    exact ⟨(i, pv) :: ps, h3, rfl, h2, h4⟩

theorem cellsX_rep {v : Value} {p : PV} {xs : List XV} (hp : p.cellsX = some xs) (hl : allLive xs = true ∨ ∃ ys, p = .agg ys) (h : RepP L s.heap I w v p) : RepXs L s.heap I w v.cells xs := by
  cases p with
  | one x =>
    simp only [PV.cellsX, Option.some.injEq] at hp
    subst hp
    have ho : oneCell v := by
      rcases hl with hl | ⟨ys, hy⟩
      · exact RepX.oneCell (allLive_iff.1 hl x (by simp)) h
      · cases hy
    rw [ho.cells]
    refine ⟨rfl, fun i y u h1 h2 => ?_⟩
    cases i with
    | zero => simp only [List.getElem?_cons_zero, Option.some.injEq] at h1; subst h1; simp at h2; subst h2; exact h
    | succ i => simp at h1
  | agg ys =>
    simp only [PV.cellsX, Option.some.injEq] at hp
    subst hp
    obtain ⟨vs, rfl, hvs⟩ := h
    exact hvs
  | tup _ => cases hp

theorem buildK_sound {ti : TI} {K : PV → Prop} : ∀ {ps : List (Nat × PV)} {vs : List (Nat × Value)} {cells : Array Value} {xs : List XV}, buildK ti ps xs K → PartsRep L s.heap I w ps vs → RepXs L s.heap I w cells xs →
    ∃ out xs', K (.agg xs') ∧ Instr.fill (fun i => (ti.fields.map fun g => (g.1, g.2.1))[i]?) cells vs = some out ∧ RepXs L s.heap I w out xs'
  | [], [], cells, xs, h, _, hc => by
    simp only [buildK, forceXs_eq] at h
    exact ⟨cells, xs, h, rfl, hc⟩
  | (f, p) :: ps, (g, v) :: vs, cells, xs, h, hp, hc => by
    obtain ⟨rfl, hpv, hp⟩ := hp
    simp only [buildK] at h
    split at h
    · rename_i off n ag ys hg hys
      split at h
      · rename_i hl hle hlv
        have hl := lenIs_iff.1 hl
        have hle := Nat.le_of_ble_eq_true hle
        have hlive : allLive ys = true ∨ ∃ zs, p = .agg zs := Or.inl hlv
        have hv := cellsX_rep hys hlive hpv
        have hplace : (ti.fields.map fun g => (g.1, g.2.1))[f]? = some (off, n) := by simp [hg]
        have hsz : v.cells.size = n := by rw [hv.1, hl]
        have hnot : ¬ (v.cells.size ≠ n ∨ off + v.cells.size > cells.size) := by
          rw [hsz, hc.1]; omega
        obtain ⟨out, xs', g1, g2, g3⟩ := buildK_sound (cells := v.cells.zipIdx.foldl (fun cs (p : Value × Nat) => cs.setIfInBounds (off + p.2) p.1) cells) h hp (by
          rw [← Array.foldl_toList]
          refine ⟨by rw [fold_size, fillX_length]; exact hc.1, fun i x u h1 h2 => ?_⟩
          have hzi : v.cells.zipIdx.toList = v.cells.toList.zipIdx := by simp
          rw [hzi, fold_get v.cells.toList 0 off cells i (by simp [hsz, hc.1]; omega)] at h2
          rw [fillX_get ys xs off i (by omega)] at h1
          simp only [Nat.add_zero, Array.length_toList, hsz] at h2
          rw [hl] at h1
          split at h1
          · rename_i hc'
            rw [if_pos hc'] at h2
            exact hv.2 _ x u h1 (by simpa using h2)
          · rename_i hc'
            rw [if_neg hc'] at h2
            exact hc.2 i x u h1 h2)
        refine ⟨out, xs', g1, ?_, g3⟩
        simp only [Instr.fill, hplace, Bool.or_eq_true, decide_eq_true_eq, ne_eq]
        rw [if_neg hnot]
        exact g2
      · exact h.elim
    · exact h.elim
  | [], _ :: _, _, _, _, hp, _ => hp.elim
  | _ :: _, [], _, _, _, hp, _ => hp.elim

/-! ### calls -/
def Iall (L : Lay) (H : Heap) (I : Nat → Prop) : Nat → Prop := fun b => I b ∨ ∃ k o, find H k = some o ∧ Foot L k b

theorem snapXs_get {g : XV → Option CV} : ∀ {xs : List XV} {ys : List CV}, snapX.snapXs g xs = some ys → xs.length = ys.length ∧ ∀ (i : Nat) (x : XV), xs[i]? = some x → ∃ y, ys[i]? = some y ∧ g x = some y
  | [], ys, h => by simp only [snapX.snapXs, Option.some.injEq] at h; subst h; simp
  | x :: xs, ys, h => by
    simp only [snapX.snapXs] at h
    split at h
    · rename_i y ys' h1 h2
      cases h
      obtain ⟨g1, g2⟩ := snapXs_get h2
      refine ⟨by simp [g1], fun i z hz => ?_⟩
      cases i with
      | zero => simp only [List.getElem?_cons_zero, Option.some.injEq] at hz ⊢; subst hz; exact ⟨y, rfl, h1⟩
      | succ i => simp only [List.getElem?_cons_succ] at hz ⊢; exact g2 i z hz
    · cases h

theorem snapX_sound {O : Nat → Prop} {H : Heap} (hh : HeapOK O L H I w) : ∀ (n : Nat) {x : XV} {v : Value} {y : CV}, RepX L H I w v x → snapX H n x = some y → RepC (Iall L H I) w v y := by
  have hII : ∀ b, I b → Iall L H I b := fun b h => Or.inl h
  have hk : ∀ {k o}, find H k = some o → ∀ b, L.blk k = some b → Iall L H I b := fun hf b hb => Or.inr ⟨_, _, hf, .inl hb⟩
  have hkd : ∀ {k o}, find H k = some o → ∀ b, Foot L k b → Iall L H I b := fun hf b hb => Or.inr ⟨_, _, hf, hb⟩
  intro n
  induction n with
  | zero =>
    intro x v y hx h
    cases x <;> simp only [snapX, reduceCtorEq] at h
    · cases h; exact RepC.mono hII (fun _ _ => rfl) hx
    · cases h; have hx : v = _ := hx; subst hx; exact .nil _
    · split at h
      · rename_i sz rows hf; cases h; exact slice_of_arr hII (hk hf) (hh.ob _ _ hf) hf hx
      · cases h
    · split at h
      · rename_i sz rows hf; cases h; exact part_of_arr hII (hk hf) (hh.ob _ _ hf) hf hx
      · cases h
    · split at h
      · rename_i ap sz rows hf; cases h; exact slice_of_deep (hkd hf) (hh.ob _ _ hf) hf hx
      · cases h
  | succ n ih =>
    intro x v y hx h
    cases x <;> simp only [snapX, reduceCtorEq] at h
    · cases h; exact RepC.mono hII (fun _ _ => rfl) hx
    · cases h; have hx : v = _ := hx; subst hx; exact .nil _
    · split at h
      · rename_i sz rows hf; cases h; exact slice_of_arr hII (hk hf) (hh.ob _ _ hf) hf hx
      · cases h
    · split at h
      · rename_i sz rows hf; cases h; exact part_of_arr hII (hk hf) (hh.ob _ _ hf) hf hx
      · cases h
    · rename_i k off len
      split at h
      · rename_i cs hf
        split at h
        · rename_i ys hys
          cases h
          obtain ⟨hf, hB⟩ := findB_some hf
          obtain ⟨cs', b, g1, g2, g3, rfl⟩ := hx
          rw [hf] at g1; cases g1
          have ho := hh.ob _ _ hf
          simp only [RepO, hB] at ho
          obtain ⟨b', vs, e, fr, h1, h2, h3, h5, hsz, h4⟩ := ho
          rw [g2] at h1; cases h1
          obtain ⟨hl, hget⟩ := snapXs_get hys
          refine RepC.ptr b off len _ (fun j => vs.getD (off + j) undef) (hk hf b g2) (sub_length _ _ _ (by omega)) (fun j c hc => ?_) (fun j c hc => ?_)
          all_goals
            obtain ⟨q1, q2⟩ := sub_get _ _ _ _ _ hc
            have hj : off + j < cs.length := by omega
            have hjv : off + j < vs.size := by omega
            obtain ⟨y, e1, e2⟩ := hget _ cs[off + j] (List.getElem?_eq_getElem hj)
            rw [q2] at e1; cases e1
            have e3 : vs.getD (off + j) undef = vs[off + j] := by simp [hjv]
          · rw [cell_row h2]
            show vs[off + j]? = some (vs.getD (off + j) undef)
            rw [e3]; exact Array.getElem?_eq_getElem hjv
          · show RepC _ w (vs.getD (off + j) undef) c
            rw [e3]
            exact ih (h4 _ _ _ (List.getElem?_eq_getElem hj) (Array.getElem?_eq_getElem hjv)) e2
        · cases h
      · cases h
    · split at h
      · rename_i ap sz rows hf; cases h; exact slice_of_deep (hkd hf) (hh.ob _ _ hf) hf hx
      · cases h
    · rename_i g pre k len post
      split at h
      · rename_i cs hf
        split at h
        · rename_i ys hys
          cases h
          obtain ⟨hf, hB⟩ := findB_some hf
          obtain ⟨hl, hget⟩ := snapXs_get hys
          refine fn_of_box (cs := cs) hl hII (fun b g2 => ?_) hf hx
          have ho := hh.ob _ _ hf
          simp only [RepO, hB] at ho
          obtain ⟨b', vs, e, fr, h1, h2, h3, h5, hsz, h4⟩ := ho
          rw [g2] at h1; cases h1
          obtain ⟨_, _, _, _, g1, _, g3, _⟩ := hx
          rw [hf] at g1; cases g1
          refine RepC.ptr b 0 _ _ (fun j => vs.getD j undef) (hk hf b g2) (by omega) (fun j c hc => ?_) (fun j c hc => ?_)
          all_goals
            have hj : j < cs.length := by rw [hl]; exact (List.getElem?_eq_some_iff.1 hc).1
            have hjv : j < vs.size := by omega
            obtain ⟨y, e1, e2⟩ := hget _ cs[j] (List.getElem?_eq_getElem hj)
            rw [hc] at e1; cases e1
            have e3 : vs.getD j undef = vs[j] := by simp [hjv]
          · rw [Nat.zero_add, cell_row h2]
            show vs[j]? = some (vs.getD j undef)
            rw [e3]; exact Array.getElem?_eq_getElem hjv
          · show RepC _ w (vs.getD j undef) c
            rw [e3]
            exact ih (h4 _ _ _ (List.getElem?_eq_getElem hj) (Array.getElem?_eq_getElem hjv)) e2
        · cases h
      · cases h

theorem frzXs_get {H : Heap} : ∀ {xs ys : List XV}, frzXs H xs = some ys → xs.length = ys.length ∧ ∀ (i : Nat) (x : XV), xs[i]? = some x → ∃ y, ys[i]? = some (.c y) ∧ snapX H 3 x = some y
  | [], ys, h => by simp only [frzXs, Option.some.injEq] at h; subst h; simp
  | x :: xs, ys, h => by
    simp only [frzXs] at h
    split at h
    · rename_i y ys' h1 h2
      cases h
      obtain ⟨g1, g2⟩ := frzXs_get h2
      refine ⟨by simp [g1], fun i z hz => ?_⟩
      cases i with
      | zero => simp only [List.getElem?_cons_zero, Option.some.injEq] at hz ⊢; subst hz; exact ⟨y, rfl, h1⟩
      | succ i => simp only [List.getElem?_cons_succ] at hz ⊢; exact g2 i z hz
    · cases h

theorem frzXs_rep {O : Nat → Prop} {H : Heap} (hh : HeapOK O L H I w) {L' : Lay} {H' : Heap} {I' : Nat → Prop} (hI : ∀ b, Iall L H I b → I' b) {xs ys : List XV} (h : frzXs H xs = some ys) {vs : Array Value} (hr : RepXs L H I w vs xs) : RepXs L' H' I' w vs ys := by
  obtain ⟨g1, g2⟩ := frzXs_get h
  refine ⟨by rw [← g1]; exact hr.1, fun i y v hy hv => ?_⟩
  have hi : i < xs.length := by rw [g1]; exact (List.getElem?_eq_some_iff.1 hy).1
  obtain ⟨z, e1, e2⟩ := g2 i xs[i] (List.getElem?_eq_getElem hi)
  rw [hy] at e1; cases e1
  exact (snapX_sound hh 3 (hr.2 i _ v (List.getElem?_eq_getElem hi) hv) e2).mono hI (fun _ _ => rfl)

theorem frzT_get {H : Heap} : ∀ {ps qs : List (Bool × List XV)}, frzT H ps = some qs → ps.length = qs.length ∧ ∀ (i : Nat) (b : Bool) (xs : List XV), ps[i]? = some (b, xs) → ∃ ys, qs[i]? = some (b, ys) ∧ frzXs H xs = some ys
  | [], qs, h => by simp only [frzT, Option.some.injEq] at h; subst h; simp
  | (b, xs) :: ps, qs, h => by
    simp only [frzT] at h
    split at h
    · rename_i ys qs' h1 h2
      cases h
      obtain ⟨g1, g2⟩ := frzT_get h2
      refine ⟨by simp [g1], fun i b' z hz => ?_⟩
      cases i with
      | zero => simp only [List.getElem?_cons_zero, Option.some.injEq, Prod.mk.injEq] at hz ⊢; obtain ⟨rfl, rfl⟩ := hz; exact ⟨ys, ⟨rfl, rfl⟩, h1⟩
      | succ i => simp only [List.getElem?_cons_succ] at hz ⊢; exact g2 i b' z hz
    · cases h

theorem frzP_rep {O : Nat → Prop} {H : Heap} (hh : HeapOK O L H I w) {L' : Lay} {H' : Heap} {I' : Nat → Prop} (hI : ∀ b, Iall L H I b → I' b) {p q : PV} (h : frzP (p, H) = some q) {v : Value} (hr : RepP L H I w v p) : RepP L' H' I' w v q := by
  cases p with
  | one x =>
    simp only [frzP] at h
    split at h
    · rename_i y hy; cases h; exact (snapX_sound hh 3 hr hy).mono hI (fun _ _ => rfl)
    · cases h
  | agg xs =>
    simp only [frzP] at h
    split at h
    · rename_i ys hys; cases h; obtain ⟨vs, rfl, hvs⟩ := hr; exact ⟨vs, rfl, frzXs_rep hh hI hys hvs⟩
    · cases h
  | tup ps =>
    simp only [frzP] at h
    split at h
    · rename_i qs hqs
      cases h
      obtain ⟨vs, rfl, hsz, hvs⟩ := hr
      obtain ⟨g1, g2⟩ := frzT_get hqs
      refine ⟨vs, rfl, by rw [hsz, g1], fun i q u hq hu => ?_⟩
      have hi : i < ps.length := by rw [g1]; exact (List.getElem?_eq_some_iff.1 hq).1
      obtain ⟨ys, e1, e2⟩ := g2 i ps[i].1 ps[i].2 (List.getElem?_eq_getElem hi)
      rw [hq] at e1; cases e1
      have hr := hvs i ps[i] u (List.getElem?_eq_getElem hi) hu
      obtain ⟨g3, g4⟩ := frzXs_get e2
      generalize ps[i] = p at *
      obtain ⟨b, xs⟩ := p
      cases b with
      | true => obtain ⟨cs, rfl, hcs⟩ := hr; exact ⟨cs, rfl, frzXs_rep hh hI e2 hcs⟩
      | false =>
        match xs, hr with
        | [x], hr =>
          match ys, g3 with
          | [y], _ =>
            obtain ⟨z, e3, e4⟩ := g4 0 x rfl
            simp only [List.getElem?_cons_zero, Option.some.injEq] at e3
            subst e3
            exact (snapX_sound hh 3 hr e4).mono hI (fun _ _ => rfl)
    · cases h

theorem RepC.scalar_any {I I' : Nat → Prop} {w w' : World} {v : Value} {c : CV} (hs : c.scalar = true) (h : RepC I w v c) : RepC I' w' v c := by
  cases h <;> first | (simp [CV.scalar] at hs; done) | constructor

theorem RepX.scalar_any {L L' : Lay} {H H' : Heap} {I I' : Nat → Prop} {w w' : World} {v : Value} {x : XV} (hs : x.scalar = true) (h : RepX L H I w v x) : RepX L' H' I' w' v x := by
  cases x <;> simp only [XV.scalar, Bool.false_eq_true] at hs
  exact RepC.scalar_any hs h

theorem RepXs.scalar_any {L L' : Lay} {H H' : Heap} {I I' : Nat → Prop} {w w' : World} {vs : Array Value} {xs : List XV} (hs : xs.all XV.scalar = true) (h : RepXs L H I w vs xs) : RepXs L' H' I' w' vs xs :=
  ⟨h.1, fun i x v h1 h2 => RepX.scalar_any (List.all_eq_true.1 hs x (List.mem_of_getElem? h1)) (h.2 i x v h1 h2)⟩

theorem RepP.scalar_any {L L' : Lay} {H H' : Heap} {I I' : Nat → Prop} {w w' : World} {v : Value} {p : PV} (hs : p.scalar = true) (h : RepP L H I w v p) : RepP L' H' I' w' v p := by
  cases p with
  | one x => exact RepX.scalar_any hs h
  | agg xs => obtain ⟨vs, rfl, h⟩ := h; exact ⟨vs, rfl, RepXs.scalar_any hs h⟩
  | tup ps =>
    obtain ⟨vs, rfl, hsz, hr⟩ := h
    refine ⟨vs, rfl, hsz, fun i p v h1 h2 => ?_⟩
    have hp := List.all_eq_true.1 hs p (List.mem_of_getElem? h1)
    have := hr i p v h1 h2
    obtain ⟨b, xs⟩ := p
    cases b with
    | true => obtain ⟨cs, rfl, hcs⟩ := this; exact ⟨cs, rfl, RepXs.scalar_any hp hcs⟩
    | false =>
      match xs, this, hp with
      | [x], this, hp => exact RepX.scalar_any (by simpa using hp) this

theorem noKeyX_iff : ∀ {xs : List XV}, noKeyX xs = true ↔ ∀ x ∈ xs, x.key? = none
  | [] => by simp [noKeyX]
  | x :: xs => by
    simp only [noKeyX]
    cases h : x.key? with
    | none => simp [h, noKeyX_iff (xs := xs)]
    | some k => simp [h]

theorem snapX_pure {H : Heap} {n : Nat} {x : XV} {v : Value} {y : CV} (hk : x.key? = none) (hx : RepX L H I w v x) (h : snapX H n x = some y) : RepC I w v y := by
  cases x <;> simp only [XV.key?, reduceCtorEq] at hk
  · cases n <;> (simp only [snapX, Option.some.injEq] at h; subst h; exact hx)
  · cases n <;> (simp only [snapX, Option.some.injEq] at h; subst h; have hx : v = _ := hx; subst hx; exact .nil _)
  · cases n <;> simp [snapX] at h
  · cases n <;> simp [snapX] at h

theorem snapB_get {H : Heap} : ∀ {vs : List PV} {cs : List Comp}, snapB H vs = some cs → vs.length = cs.length ∧ ∀ (i : Nat) (p : PV), vs[i]? = some p → ∃ c, cs[i]? = some c ∧ ((∃ x y, p = .one x ∧ snapX H 3 x = some y ∧ c = (false, [y])) ∨ ∃ xs ys, p = .agg xs ∧ snapX.snapXs (snapX H 3) xs = some ys ∧ c = (true, ys))
  | [], cs, h => by simp only [snapB, Option.some.injEq] at h; subst h; simp
  | p :: vs, cs, h => by
    simp only [snapB] at h
    split at h
    · rename_i c cs' h1 h2
      cases h
      obtain ⟨g1, g2⟩ := snapB_get h2
      refine ⟨by simp [g1], fun i q hq => ?_⟩
      cases i with
      | zero =>
        simp only [List.getElem?_cons_zero, Option.some.injEq] at hq ⊢
        subst hq
        refine ⟨c, rfl, ?_⟩
        cases p with
        | one x =>
          simp only [Option.map_eq_some_iff] at h1
          obtain ⟨y, e1, e2⟩ := h1
          exact Or.inl ⟨x, y, rfl, e1, e2.symm⟩
        | agg xs =>
          simp only [Option.map_eq_some_iff] at h1
          obtain ⟨y, e1, e2⟩ := h1
          exact Or.inr ⟨xs, y, rfl, e1, e2.symm⟩
        | tup _ => cases h1
      | succ i => simp only [List.getElem?_cons_succ] at hq ⊢; exact g2 i q hq
    · cases h

theorem comp_of_snap {O : Nat → Prop} {H : Heap} (hh : HeapOK O L H I w) {p : PV} {v : Value} {c : Comp} (hr : RepP L H I w v p) (h : (∃ x y, p = .one x ∧ snapX H 3 x = some y ∧ c = (false, [y])) ∨ ∃ xs ys, p = .agg xs ∧ snapX.snapXs (snapX H 3) xs = some ys ∧ c = (true, ys)) :
    RepComp (Iall L H I) w v c ∧ (noKeyP p = true → RepComp I w v c) := by
  rcases h with ⟨x, y, rfl, h1, rfl⟩ | ⟨xs, ys, rfl, h1, rfl⟩
  · exact ⟨snapX_sound hh 3 hr h1, fun hk => snapX_pure (noKeyX_iff.1 hk x (by simp)) hr h1⟩
  · obtain ⟨vs, rfl, hsz, hvs⟩ := hr
    obtain ⟨g1, g2⟩ := snapXs_get h1
    refine ⟨⟨vs, rfl, by rw [hsz, g1], fun i y v hy hv => ?_⟩, fun hk => ⟨vs, rfl, by rw [hsz, g1], fun i y v hy hv => ?_⟩⟩
    all_goals
      have hi : i < xs.length := by rw [g1]; exact (List.getElem?_eq_some_iff.1 hy).1
      obtain ⟨z, e1, e2⟩ := g2 i xs[i] (List.getElem?_eq_getElem hi)
      rw [hy] at e1; cases e1
      have hr := hvs i _ v (List.getElem?_eq_getElem hi) hv
    · exact snapX_sound hh 3 hr e2
    · exact snapX_pure (noKeyX_iff.1 hk _ (List.getElem_mem hi)) hr e2

theorem noKeys_iff : ∀ {vs : List PV}, noKeys vs = true ↔ ∀ p ∈ vs, noKeyP p = true
  | [] => by simp [noKeys]
  | p :: vs => by
    simp only [noKeys]
    cases h : noKeyP p with
    | true => simp [h, noKeys_iff (vs := vs)]
    | false => simp [h]

end

end Go.Proofs.YtnafogjagbhdbaaDoor.Pi
/- One operation that leaves the abstract state alone: sound. No statement of the seat is proved here. -/
namespace Go.Proofs.YtnafogjagbhdbaaDoor.Pi
open Go Go.RowKit
set_option linter.unusedVariables false
set_option linter.unusedSimpArgs false

section
variable {P : Program} {C : Ctx} {L : Lay} {I : Nat → Prop} {s : St} {a : Act} {w : World}

theorem cells_pure {v : Value} {p : PV} {ys : List CV} (hp : p.cellsX.bind pures = some ys) (h : RepP L s.heap I w v p) : v.cells.size = ys.length ∧ ∀ (i : Nat) (y : CV) (u : Value), ys[i]? = some y → v.cells[i]? = some u → RepC I w u y := by
  cases hx : p.cellsX with
  | none => simp [hx] at hp
  | some xs =>
    simp only [hx, Option.bind_some] at hp
    obtain ⟨g1, g2⟩ := pures_iff hp
    have hlive : allLive xs = true := allLive_iff.2 fun x hm => by
      obtain ⟨i, hi, rfl⟩ := List.mem_iff_getElem.1 hm
      obtain ⟨y, _, e⟩ := g2 i _ (List.getElem?_eq_getElem hi)
      generalize xs[i] = x at e
      cases x <;> first | rfl | simp [XV.pure?] at e
    have hr := cellsX_rep hx (Or.inl hlive) h
    refine ⟨by rw [hr.1, g1], fun i y u hy hu => ?_⟩
    have hi : i < xs.length := by rw [g1]; exact (List.getElem?_eq_some_iff.1 hy).1
    obtain ⟨z, e1, e2⟩ := g2 i xs[i] (List.getElem?_eq_getElem hi)
    rw [hy] at e1; cases e1
    exact RepX.pure e2 (hr.2 i _ u (List.getElem?_eq_getElem hi) hu)

theorem fill_rows {sz : Nat} (hsz : 0 < sz) : ∀ {ps : List (Nat × PV)} {vs : List (Nat × Value)} {start : Nat} {cells : Array Value} {rows : List (List CV)}, listRows sz start ps = some rows → PartsRep L s.heap I w ps vs → (start + rows.length) * sz ≤ cells.size →
    ∃ out, Instr.fill (fun i => some (i * sz, sz)) cells vs = some out ∧ out.size = cells.size ∧ (∀ q, q < start * sz → out[q]? = cells[q]?) ∧ (∀ (i : Nat) (r : List CV), rows[i]? = some r → r.length = sz) ∧
      ∀ (i : Nat) (r : List CV) (j : Nat) (c : CV), rows[i]? = some r → r[j]? = some c → ∃ u, out[(start + i) * sz + j]? = some u ∧ RepC I w u c
  | [], [], start, cells, rows, h, _, _ => by
    simp only [listRows, Option.some.injEq] at h
    subst h
    exact ⟨cells, rfl, rfl, fun _ _ => rfl, fun i r h => by simp at h, fun i r j c h => by simp at h⟩
  | (j0, p) :: ps, (_, v) :: vs, start, cells, rows, h, hp, hfit => by
    obtain ⟨rfl, hpv, hp⟩ := hp
    simp only [listRows] at h
    split at h
    · rename_i ys rows' hb hys hrows
      have e := beq_iff.1 hb
      subst e
      split at h
      · rename_i hl
        cases h
        have hl := lenIs_iff.1 hl
        obtain ⟨hvs, hvr⟩ := cells_pure hys hpv
        simp only [List.length_cons] at hfit
        have hfit1 : start * sz + sz ≤ cells.size := by
          have : (start + 1) * sz ≤ (start + (rows'.length + 1)) * sz := Nat.mul_le_mul_right _ (by omega)
          rw [Nat.add_mul] at this; omega
        have hnot : ¬ (v.cells.size ≠ sz ∨ start * sz + v.cells.size > cells.size) := by omega
        have hget : ∀ i, (v.cells.zipIdx.foldl (fun cs (p : Value × Nat) => cs.setIfInBounds (start * sz + p.2) p.1) cells)[i]? = if start * sz ≤ i ∧ i < start * sz + sz then v.cells[i - start * sz]? else cells[i]? := fun i => by
          rw [← Array.foldl_toList]
          have hzi : v.cells.zipIdx.toList = v.cells.toList.zipIdx := by simp
          rw [hzi, fold_get v.cells.toList 0 (start * sz) cells i (by simp; omega)]
          simp only [Nat.add_zero, Array.length_toList, hvs, hl, Array.getElem?_toList]
        have hszf : (v.cells.zipIdx.foldl (fun cs (p : Value × Nat) => cs.setIfInBounds (start * sz + p.2) p.1) cells).size = cells.size := by
          rw [← Array.foldl_toList, fold_size]
        obtain ⟨out, g1, g2, g3, g4, g5⟩ := fill_rows hsz (start := start + 1) (cells := v.cells.zipIdx.foldl (fun cs (p : Value × Nat) => cs.setIfInBounds (start * sz + p.2) p.1) cells) hrows hp (by rw [hszf, Nat.add_assoc, Nat.add_comm 1]; exact hfit)
        refine ⟨out, ?_, by rw [g2, hszf], fun q hq => ?_, fun i r hr => ?_, fun i r j c hr hc => ?_⟩
        · simp only [Instr.fill, Bool.or_eq_true, decide_eq_true_eq, ne_eq]
          rw [if_neg hnot]
          exact g1
        · rw [g3 q (by rw [Nat.add_mul]; omega), hget, if_neg (by omega)]
        · cases i with
          | zero => simp at hr; subst hr; exact hl
          | succ i => simp at hr; exact g4 i r hr
        · cases i with
          | zero =>
            simp at hr; subst hr
            have hj : j < sz := by rw [← hl]; exact (List.getElem?_eq_some_iff.1 hc).1
            rw [Nat.add_zero, g3 _ (by rw [Nat.add_mul]; omega), hget, if_pos (by omega), Nat.add_sub_cancel_left]
            have hjv : j < v.cells.size := by omega
            exact ⟨v.cells[j], Array.getElem?_eq_getElem hjv, hvr j c _ hc (Array.getElem?_eq_getElem hjv)⟩
          | succ i =>
            simp at hr
            have := g5 i r j c hr hc
            rw [show start + (i + 1) = start + 1 + i by omega]; exact this
      · cases h
    · cases h
  | [], _ :: _, _, _, _, _, hp, _ => hp.elim
  | _ :: _, [], _, _, _, _, hp, _ => hp.elim


def Goes (P : Program) (C : Ctx) (L : Lay) (s : St) (a : Act) (w : World) (o : Oper) (pv : PV) : Prop :=
  ∀ (next : Act → World → Prop) (Q : Exit → Act → World → Prop), True → (∀ v w' I', Inv C L I' s a w' → RepP L s.heap I' w' v pv → next (a.put o.dst v) w') → o.wp P a w next Q ∨ (o.asks P a w ∧ LetsOut Q)

theorem goes_runs {o : Oper} {m : Sem Value} {K : PV → Prop} (hi : Inv C L I s a w) (ho : execOp a.eval o = (do pure (.value (← m)))) (hr : Runs P L s.heap I w m K) : ∃ pv, K pv ∧ Goes P C L s a w o pv := by
  obtain ⟨pv, v, h1, h2, h3⟩ := hr
  refine ⟨pv, h1, fun next Q _ hn => Or.inl ?_⟩
  unfold Oper.wp
  rw [ho, Sem.run_bind, h2]
  exact hn v w I hi h3

theorem exec_call {o : Oper} {c : Call} {f : Operand} {g : FuncId} {caps : Array Value} (ho : o.op = .call c) (hc : c.callee = .value f) (hf : a.eval f = .func (.func g) #[] caps) (he : Ent P g) :
    (execOp a.eval o).run P w = .ok (.enter g (c.args.map a.eval ++ caps)) w := by
  obtain ⟨fn, h1, h2, h3⟩ := he
  have h1' : P.funcs[g]? = some fn := h1
  simp only [execOp, ho, resolve, hc, hf, Deferred.ofValue, Sem.run_bind, Sem.run_pure, Result.andThen_ok, invoke, callFunc, run_program, h1', h2, h3, Bool.false_eq_true, if_false, Array.empty_append]

theorem wp_call {o : Oper} {g : FuncId} {vals : Array Value} {comps : List Comp} {r : Res} (hs : Sat P g comps r) (hlw : LaidIn (fun _ => False) w) (hrun : (execOp a.eval o).run P w = .ok (.enter g vals) w) {I1 : Nat → Prop} (hIb : ∀ b, I1 b → b < w.heap.size)
    (hsz : vals.size = comps.length) (hrep : ∀ (i : Nat) (c : Comp) (v : Value), comps[i]? = some c → vals[i]? = some v → RepComp I1 w v c) {next : Act → World → Prop} {Q : Exit → Act → World → Prop} (hQ : True)
    (hn : ∀ v w', Back I1 w r v w' → next (a.put o.dst v) w') : o.wp P a w next Q := by
  unfold Oper.wp
  rw [hrun]
  simp only [Oper.upon]
  refine (hs.2 I1 w vals hlw hIb hsz hrep).mono fun e w' h => ?_
  cases e with
  | returned v => exact hn v w' h
  | panicked c => exact h.elim
  | outgrown => exact h.elim

theorem Inv.growI {I' : Nat → Prop} {w' : World} (hi : Inv C L I s a w) (hb : Blw w w') (hI : ∀ b, I b → I' b) (hold : ∀ b, b < w.heap.size → I' b → I b) (hIb : ∀ b, I' b → b < w'.heap.size) : Inv C L I' s a w' := by
  have hw : ∀ b, I b → w'.heap[b]? = w.heap[b]? := fun b h => hb.block b (hi.Ib b h)
  have hf : ∀ v x, RepX L s.heap I w v x → RepX L s.heap I' w' v x := fun v x h => h.mono hI hw
  refine hi.change (f := fun y => y) hf (map_id_regs _).symm ?_ hIb (fun b h1 h2 => hi.Io b h1 (hold b (Nat.lt_of_lt_of_le h1 hi.fr.size) h2)) ?_ (fun k o _ h => ⟨o, h, rfl, rfl⟩)
  · exact ⟨fun k o h => (hi.heap.ob k o h).ext' hf hI hw .rfl (fun b hb' => hb.block b (hi.heap.own k o b h hb').2.2), fun k o b g1 g2 => ⟨(hi.heap.own k o b g1 g2).1, fun h => (hi.heap.own k o b g1 g2).2.1 (hold b (hi.heap.own k o b g1 g2).2.2 h), Nat.lt_of_lt_of_le (hi.heap.own k o b g1 g2).2.2 hb.size⟩, hi.heap.inj⟩
  · exact ⟨hb.os.trans hi.fr.os, hb.tape.trans hi.fr.tape, hb.output.trans hi.fr.output, Nat.le_trans hi.fr.size hb.size, fun b g1 g2 => (hb.block b (Nat.lt_of_lt_of_le g1 hi.fr.size)).trans (hi.fr.block b g1 g2)⟩

theorem args_caps {vals : Array Value} {comps : List Comp} {caps : List CV} {cv : Array Value} {I1 : Nat → Prop} (hl : vals.size = comps.length) (hr : ∀ (i : Nat) (c : Comp) (v : Value), comps[i]? = some c → vals[i]? = some v → RepComp I1 w v c)
    (hcl : cv.size = caps.length) (hcr : ∀ (i : Nat) (c : CV) (v : Value), caps[i]? = some c → cv[i]? = some v → RepC I1 w v c) :
    (vals ++ cv).size = (comps ++ caps.map fun y => (false, [y])).length ∧ ∀ (i : Nat) (c : Comp) (v : Value), (comps ++ caps.map fun y => (false, [y]))[i]? = some c → (vals ++ cv)[i]? = some v → RepComp I1 w v c := by
  refine ⟨by simp [hl, hcl], fun i c v h1 h2 => ?_⟩
  by_cases hi : i < comps.length
  · rw [List.getElem?_append_left hi] at h1
    rw [Array.getElem?_append_left (by omega)] at h2
    exact hr i c v h1 h2
  · rw [List.getElem?_append_right (by omega)] at h1
    rw [Array.getElem?_append_right (by omega)] at h2
    rw [List.getElem?_map] at h1
    cases hc : caps[i - comps.length]? with
    | none => simp [hc] at h1
    | some y =>
      simp only [hc, Option.map_some, Option.some.injEq] at h1
      subst h1
      exact hcr _ y v hc (by rw [← hl]; exact h2)

theorem ownX_iff : ∀ {xs : List XV}, ownX xs = true → ∀ x ∈ xs, (∃ c, x = .c c ∧ c.scalar = true) ∨ ∃ k, x = .ds k
  | [], _, x, hx => by simp at hx
  | y :: ys, h, x, hx => by
    cases y <;> simp only [ownX, Bool.false_eq_true] at h
    · rename_i c
      split at h
      · rename_i hc
        rcases List.mem_cons.1 hx with rfl | hx
        · exact Or.inl ⟨c, rfl, hc⟩
        · exact ownX_iff h x hx
      · cases h
    · rcases List.mem_cons.1 hx with rfl | hx
      · exact Or.inr ⟨_, rfl⟩
      · exact ownX_iff h x hx

theorem RepX.own {L : Lay} {H : Heap} {I I' : Nat → Prop} {w : World} {v : Value} {x : XV} (hs : (∃ c, x = .c c ∧ c.scalar = true) ∨ ∃ k, x = .ds k) (h : RepX L H I w v x) : RepX L H I' w v x := by
  rcases hs with ⟨c, rfl, hc⟩ | ⟨k, rfl⟩
  · exact RepC.scalar_any hc h
  · exact h

theorem RepP.own {L : Lay} {H : Heap} {I I' : Nat → Prop} {w : World} {v : Value} {p : PV} (hs : ownP p = true) (h : RepP L H I w v p) : RepP L H I' w v p := by
  cases p with
  | one x => exact RepX.own (ownX_iff hs x (by simp)) h
  | agg xs => obtain ⟨vs, rfl, hsz, h⟩ := h; exact ⟨vs, rfl, hsz, fun i x v h1 h2 => RepX.own (ownX_iff hs x (List.mem_of_getElem? h1)) (h i x v h1 h2)⟩
  | tup ps =>
    obtain ⟨vs, rfl, hsz, hr⟩ := h
    refine ⟨vs, rfl, hsz, fun i p v h1 h2 => ?_⟩
    have hp := List.all_eq_true.1 hs p (List.mem_of_getElem? h1)
    have := hr i p v h1 h2
    obtain ⟨b, xs⟩ := p
    cases b with
    | true => obtain ⟨cs, rfl, hsz, hcs⟩ := this; exact ⟨cs, rfl, hsz, fun i x v h1 h2 => RepX.own (ownX_iff hp x (List.mem_of_getElem? h1)) (hcs i x v h1 h2)⟩
    | false =>
      match xs, this, hp with
      | [x], this, hp => exact RepX.own (ownX_iff hp x (by simp)) this

theorem ruRes_iff {L : Lay} {I I' : Nat → Prop} {w : World} {p : PV} {h : Heap} {rows : List (List CV)} (hr : ruRes p h = some rows) :
    (∀ k o, find h k = some o → ∃ sz, o = .arr sz rows) ∧ ∀ v, RepP L h I w v p → RepP L h I' w v p := by
  unfold ruRes at hr
  split at hr
  · rename_i a b c vs k sz rows'
    split at hr
    · rename_i hall
      cases hr
      refine ⟨fun k' o hf => ?_, fun v hv => ?_⟩
      · simp only [find] at hf
        split at hf
        · cases hf; exact ⟨_, rfl⟩
        · cases hf
      · obtain ⟨us, rfl, hsz, h⟩ := hv
        refine ⟨us, rfl, hsz, fun i p v h1 h2 => ?_⟩
        have h3 := h i p v h1 h2
        cases i with
        | zero =>
          simp only [List.getElem?_cons_zero, Option.some.injEq] at h1
          subst h1
          exact h3
        | succ i =>
          simp only [List.getElem?_cons_succ] at h1
          have hp := List.all_eq_true.1 hall p (List.mem_of_getElem? h1)
          obtain ⟨b, xs⟩ := p
          cases b with
          | true => obtain ⟨cs, rfl, hsz, hcs⟩ := h3; exact ⟨cs, rfl, hsz, fun i x v h1 h2 => RepX.own (ownX_iff hp x (List.mem_of_getElem? h1)) (hcs i x v h1 h2)⟩
          | false =>
            match xs, h3, hp with
            | [x], h3, hp => exact RepX.own (ownX_iff hp x (by simp)) h3
    · cases hr
  · cases hr
theorem ownH_iff : ∀ {h : Heap}, ownH h = true → ∀ k o, find h k = some o → ∃ a sz rows, o = .deep a sz rows
  | [], _, k, o, h => by simp [find] at h
  | (k, o0) :: h, hh, k', o, hf => by
    cases o0 <;> simp only [ownH, Bool.false_eq_true] at hh
    simp only [find] at hf
    split at hf
    · cases hf; exact ⟨_, _, _, rfl⟩
    · exact ownH_iff hh k' o hf

theorem callQ_goes {o : Oper} {c : Call} {f : Operand} (hi : Inv C L I s a w) (ho : o.op = .call c) (hc : c.callee = .value f) {pf : PV} {vs : List PV} {K : PV → Prop} (hpf : RepP L s.heap I w (a.eval f) pf) (hvl : vs.length = c.args.toList.length)
    (hvs : ∀ (i : Nat) (pv : PV) (x : Operand), vs[i]? = some pv → c.args.toList[i]? = some x → RepP L s.heap I w (a.eval x) pv) (h : callQ P s.heap pf vs K) : ∃ pv, K pv ∧ Goes P C L s a w o pv := by
  unfold callQ at h
  split at h
  · rename_i g caps comps hcomps
    obtain ⟨r, hs, h⟩ := h
    have hpf : RepC I w (a.eval f) (.fn g caps) := hpf
    generalize hv : a.eval f = vf at hpf
    cases hpf with
    | fn _ cv _ hcl hcr =>
      have hrun := exec_call (P := P) (w := w) ho hc hv hs.1
      obtain ⟨hcl', hcg⟩ := snapB_get hcomps
      have hall : ∀ b, Iall L s.heap I b → b < w.heap.size := fun b hb => hb.elim (hi.Ib b) fun ⟨k, o', h1, h2⟩ => (hi.heap.own k o' b h1 h2).2.2
      have hpair : ∀ (i : Nat) (cc : Comp) (v : Value), comps[i]? = some cc → (c.args.map a.eval)[i]? = some v → ∃ p, p ∈ vs ∧ RepComp (Iall L s.heap I) w v cc ∧ (noKeyP p = true → RepComp I w v cc) := fun i cc v h1 h2 => by
        have hil : i < vs.length := by rw [hcl']; exact (List.getElem?_eq_some_iff.1 h1).1
        obtain ⟨c', e1, e2⟩ := hcg i vs[i] (List.getElem?_eq_getElem hil)
        rw [h1] at e1; cases e1
        have hia : i < c.args.toList.length := by omega
        have hr := hvs i vs[i] c.args.toList[i] (List.getElem?_eq_getElem hil) (List.getElem?_eq_getElem hia)
        have : v = a.eval c.args.toList[i] := by
          have hia' : i < c.args.size := by simpa using hia
          rw [Array.getElem?_map] at h2
          simp [hia'] at h2
          simp [h2]
        rw [this]
        exact ⟨vs[i], List.getElem_mem hil, comp_of_snap hi.heap hr e2⟩
      have hsz0 : (c.args.map a.eval).size = comps.length := by simp; rw [← hcl', hvl]; simp
      split at h
      · rename_i hk
        split at h
        · rename_i pv hpv
          simp only [forceP_eq] at h
          refine ⟨pv, h, fun next Q hQ hn => Or.inl ?_⟩
          obtain ⟨g1, g2⟩ := args_caps (I1 := I) hsz0 (fun i cc v h1 h2 => by
            obtain ⟨p, q1, _, q3⟩ := hpair i cc v h1 h2
            exact q3 (noKeys_iff.1 hk p q1)) hcl hcr
          refine wp_call hs (hi.laid fun _ h => h.elim) hrun hi.Ib g1 g2 hQ fun v w' ⟨hb, L2, I2, h1, h2, h3, h4⟩ => ?_
          have hII : ∀ b, Iall L2 r.2 I2 b → (I b ∨ (w.heap.size ≤ b ∧ Iall L2 r.2 I2 b)) := fun b hb' => by
            by_cases hlt : b < w.heap.size
            · rcases hb' with hb' | ⟨k, o', q1, q2⟩
              · exact Or.inl (h1 b hlt hb')
              · exact absurd (h4.own k o' b q1 q2).1 (by omega)
            · exact Or.inr ⟨by omega, hb'⟩
          refine hn v w' (fun b => I b ∨ (w.heap.size ≤ b ∧ Iall L2 r.2 I2 b)) (hi.growI hb (fun b h => Or.inl h) (fun b hlt h => h.elim id fun h => absurd h.1 (by omega)) fun b h => ?_) (frzP_rep h4 hII hpv h3)
          rcases h with h | ⟨_, h | ⟨k, o', q1, q2⟩⟩
          · exact Nat.lt_of_lt_of_le (hi.Ib b h) hb.size
          · exact h2 b h
          · exact (h4.own k o' b q1 q2).2.2
        · exact h.elim
      · split at h
        · rename_i hsc
          simp only [forceP_eq] at h
          refine ⟨r.1, h, fun next Q hQ hn => Or.inl ?_⟩
          obtain ⟨g1, g2⟩ := args_caps (I1 := Iall L s.heap I) hsz0 (fun i cc v h1 h2 => by
            obtain ⟨p, q1, q2, _⟩ := hpair i cc v h1 h2
            exact q2) hcl (fun i c v h1 h2 => (hcr i c v h1 h2).mono (fun b h => Or.inl h) (fun _ _ => rfl))
          refine wp_call hs (hi.laid fun _ h => h.elim) hrun hall g1 g2 hQ fun v w' ⟨hb, L2, I2, h1, h2, h3, h4⟩ => ?_
          exact hn v w' I (hi.growI hb (fun b h => h) (fun b _ h => h) fun b h => Nat.lt_of_lt_of_le (hi.Ib b h) hb.size) (RepP.scalar_any hsc h3)
        · split at h
          · rename_i how
            have hoh : ownH r.2 = true ∧ ownP r.1 = true := by
              simp only [ownRes] at how
              split at how
              · rename_i e; exact ⟨e, how⟩
              · cases how
            split at h
            · rename_i pv hpv
              simp only [forceP_eq] at h
              refine ⟨pv, h, fun next Q hQ hn => Or.inl ?_⟩
              obtain ⟨g1, g2⟩ := args_caps (I1 := Iall L s.heap I) hsz0 (fun i cc v h1 h2 => by
                obtain ⟨p, q1, q2, _⟩ := hpair i cc v h1 h2
                exact q2) hcl (fun i c v h1 h2 => (hcr i c v h1 h2).mono (fun b h => Or.inl h) (fun _ _ => rfl))
              refine wp_call hs (hi.laid fun _ h => h.elim) hrun hall g1 g2 hQ fun v w' ⟨hb, L2, I2, h1, h2, h3, h4⟩ => ?_
              have h4' : HeapOK (fun b => w.heap.size ≤ b) L2 r.2 (fun _ => False) w' := ⟨fun k o hk => by
                obtain ⟨a', sz, rows, rfl⟩ := ownH_iff hoh.1 k o hk
                exact h4.ob k _ hk, fun k o b hk hf => ⟨(h4.own k o b hk hf).1, fun h => h, (h4.own k o b hk hf).2.2⟩, h4.inj⟩
              refine hn v w' (fun b => I b ∨ Iall L2 r.2 (fun _ => False) b) (hi.growI hb (fun b h => Or.inl h) (fun b hlt h => ?_) fun b h => ?_) (frzP_rep h4' (fun b h => Or.inr h) hpv (RepP.own hoh.2 h3))
              · rcases h with h | h | ⟨k, o', q1, q2⟩
                · exact h
                · exact h.elim
                · exact absurd (h4.own k o' b q1 q2).1 (by omega)
              · rcases h with h | h | ⟨k, o', q1, q2⟩
                · exact Nat.lt_of_lt_of_le (hi.Ib b h) hb.size
                · exact h.elim
                · exact (h4.own k o' b q1 q2).2.2
            · exact h.elim
          · exact h.elim
  · exact h.elim

theorem zeroOk_rep : ∀ {vs : List Value} {xs : List XV}, zeroOk vs xs = true → vs.length = xs.length ∧ ∀ (i : Nat) (x : XV) (v : Value), xs[i]? = some x → vs[i]? = some v → RepX L s.heap I w v x := by
  intro vs xs
  induction vs generalizing xs with
  | nil =>
    intro h
    cases xs with
    | nil => exact ⟨rfl, fun i x v h => by simp at h⟩
    | cons x xs => simp [zeroOk] at h
  | cons v vs ih =>
    intro h
    cases xs with
    | nil => cases v <;> simp [zeroOk] at h
    | cons x xs =>
      have key : RepX L s.heap I w v x ∧ zeroOk vs xs = true := by
        unfold zeroOk at h
        split at h
        · rename_i e1 e2; cases e1
        · rename_i e1 e2
          cases e1; cases e2
          simp only [Bool.and_eq_true, decide_eq_true_eq] at h
          obtain ⟨⟨rfl, rfl⟩, h⟩ := h
          exact ⟨RepC.int _ _, h⟩
        · rename_i e1 e2
          cases e1; cases e2
          simp only [Bool.and_eq_true, beq_iff_eq] at h
          obtain ⟨rfl, h⟩ := h
          exact ⟨RepC.bool _, h⟩
        · rename_i e1 e2
          cases e1; cases e2
          simp only [Bool.and_eq_true, decide_eq_true_eq] at h
          obtain ⟨rfl, h⟩ := h
          exact ⟨RepC.str _, h⟩
        · rename_i e1 e2
          cases e1; cases e2
          exact ⟨rfl, h⟩
        · rename_i e1 e2
          cases e1; cases e2
          exact ⟨RepC.nilI, h⟩
        · rename_i e1 e2
          cases e1; cases e2
          exact ⟨RepC.nilP, h⟩
        · cases h
      obtain ⟨h1, h2⟩ := ih key.2
      refine ⟨by simp [h1], fun i y u hy hu => ?_⟩
      cases i with
      | zero => simp only [List.getElem?_cons_zero, Option.some.injEq] at hy hu; subst hy; subst hu; exact key.1
      | succ i => simp only [List.getElem?_cons_succ] at hy hu; exact h2 i y u hy hu

theorem fieldsOk_places : ∀ {fs : List Field} {gs : List (Nat × Nat × Bool)}, fieldsOk P fs gs = true → fs.mapM (fun f => (P.info? f.type).map fun i => (f.offset, i.size)) = some (gs.map fun g => (g.1, g.2.1))
  | [], [], _ => by simp
  | f :: fs, (o, n, ag) :: gs, h => by
    simp only [fieldsOk, Bool.and_eq_true] at h
    obtain ⟨⟨⟨⟨⟨h1, h2⟩, h3⟩, h6⟩, h4⟩, h5⟩ := h
    obtain ⟨i, hi⟩ := Option.isSome_iff_exists.1 h3
    have h2 := eq_of_beq h2
    simp only [Program.cellsOf, hi, Option.map_some, Option.getD_some] at h2
    have ih := fieldsOk_places h5
    simp only [List.mapM_cons, hi, Option.map_some, ih, List.map_cons, eq_of_beq h1, h2]
    rfl
  | [], _ :: _, h => by simp [fieldsOk] at h
  | _ :: _, [], h => by simp [fieldsOk] at h

theorem pureB_get : ∀ {vs : List PV} {cs : List Comp}, pureB vs = some cs → vs.length = cs.length ∧ ∀ (i : Nat) (p : PV), vs[i]? = some p → ∃ c, cs[i]? = some c ∧ ((∃ x y, p = .one x ∧ x.pure? = some y ∧ c = (false, [y])) ∨ ∃ xs ys, p = .agg xs ∧ pures xs = some ys ∧ c = (true, ys))
  | [], cs, h => by simp only [pureB, Option.some.injEq] at h; subst h; simp
  | p :: vs, cs, h => by
    simp only [pureB] at h
    split at h
    · rename_i c cs' h1 h2
      cases h
      obtain ⟨g1, g2⟩ := pureB_get h2
      refine ⟨by simp [g1], fun i q hq => ?_⟩
      cases i with
      | zero =>
        simp only [List.getElem?_cons_zero, Option.some.injEq] at hq ⊢
        subst hq
        refine ⟨c, rfl, ?_⟩
        cases p with
        | one x =>
          simp only [Option.map_eq_some_iff] at h1
          obtain ⟨y, e1, e2⟩ := h1
          exact Or.inl ⟨x, y, rfl, e1, e2.symm⟩
        | agg xs =>
          simp only [Option.map_eq_some_iff] at h1
          obtain ⟨y, e1, e2⟩ := h1
          exact Or.inr ⟨xs, y, rfl, e1, e2.symm⟩
        | tup _ => cases h1
      | succ i => simp only [List.getElem?_cons_succ] at hq ⊢; exact g2 i q hq
    · cases h

theorem comp_of_pure {p : PV} {v : Value} {c : Comp} (hr : RepP L s.heap I w v p) (h : (∃ x y, p = .one x ∧ x.pure? = some y ∧ c = (false, [y])) ∨ ∃ xs ys, p = .agg xs ∧ pures xs = some ys ∧ c = (true, ys)) : RepComp I w v c := by
  rcases h with ⟨x, y, rfl, h1, rfl⟩ | ⟨xs, ys, rfl, h1, rfl⟩
  · exact RepX.pure h1 hr
  · obtain ⟨vs, rfl, hsz, hvs⟩ := hr
    obtain ⟨g1, g2⟩ := pures_iff h1
    refine ⟨vs, rfl, by rw [hsz, g1], fun i y v hy hv => ?_⟩
    have hi : i < xs.length := by rw [g1]; exact (List.getElem?_eq_some_iff.1 hy).1
    obtain ⟨z, e1, e2⟩ := g2 i xs[i] (List.getElem?_eq_getElem hi)
    rw [hy] at e1; cases e1
    exact RepX.pure e2 (hvs i _ v (List.getElem?_eq_getElem hi) hv)

theorem flat_get : ∀ {cs : List Comp}, cs.all (fun p => !p.1) = true → (∀ c ∈ cs, c.1 = false → ∃ y, c = (false, [y])) → (cs.flatMap (·.2)).length = cs.length ∧ ∀ (i : Nat) (y : CV), (cs.flatMap (·.2))[i]? = some y → cs[i]? = some (false, [y])
  | [], _, _ => ⟨rfl, fun i y h => by simp at h⟩
  | c :: cs, h1, h3 => by
    simp only [List.all_cons, Bool.and_eq_true, Bool.not_eq_true'] at h1
    obtain ⟨y, rfl⟩ := h3 c (by simp) h1.1
    obtain ⟨g1, g2⟩ := flat_get h1.2 (fun c hc => h3 c (by simp [hc]))
    refine ⟨by simp [g1], fun i z hz => ?_⟩
    cases i with
    | zero => simp at hz; subst hz; rfl
    | succ i => simp at hz; simpa using g2 i z hz

theorem zeroOkC_rep : ∀ {vs : List Value} {ys : List CV}, zeroOkC vs ys = true → vs.length = ys.length ∧ ∀ (i : Nat) (y : CV) (v : Value), ys[i]? = some y → vs[i]? = some v → RepC I w v y := by
  intro vs ys
  induction vs generalizing ys with
  | nil =>
    intro h
    cases ys with
    | nil => exact ⟨rfl, fun i x v h => by simp at h⟩
    | cons x xs => simp [zeroOkC] at h
  | cons v vs ih =>
    intro h
    cases ys with
    | nil => cases v <;> simp [zeroOkC] at h
    | cons x xs =>
      have key : RepC I w v x ∧ zeroOkC vs xs = true := by
        unfold zeroOkC at h
        split at h
        · rename_i e1 e2; cases e1
        · rename_i e1 e2
          cases e1; cases e2
          simp only [Bool.and_eq_true, decide_eq_true_eq] at h
          obtain ⟨⟨rfl, rfl⟩, h⟩ := h
          exact ⟨RepC.int _ _, h⟩
        · rename_i e1 e2
          cases e1; cases e2
          simp only [Bool.and_eq_true, beq_iff_eq] at h
          obtain ⟨rfl, h⟩ := h
          exact ⟨RepC.bool _, h⟩
        · rename_i e1 e2
          cases e1; cases e2
          simp only [Bool.and_eq_true, decide_eq_true_eq] at h
          obtain ⟨rfl, h⟩ := h
          exact ⟨RepC.str _, h⟩
        · rename_i e1 e2
          cases e1; cases e2
          exact ⟨.nil _, h⟩
        · rename_i e1 e2
          cases e1; cases e2
          exact ⟨.nilI, h⟩
        · rename_i e1 e2
          cases e1; cases e2
          exact ⟨.nilP, h⟩
        · cases h
      obtain ⟨h1, h2⟩ := ih key.2
      refine ⟨by simp [h1], fun i y u hy hu => ?_⟩
      cases i with
      | zero => simp only [List.getElem?_cons_zero, Option.some.injEq] at hy hu; subst hy; subst hu; exact key.1
      | succ i => simp only [List.getElem?_cons_succ] at hy hu; exact h2 i y u hy hu

theorem zero_row {z : Array Value} {n sz i j : Nat} (hz : z.size = sz) (hi : i < n) (hj : j < sz) : ((Array.range (n * sz)).map (z[· % z.size]!))[i * sz + j]? = z[j]? := by
  have hq : i * sz + j < n * sz := by
    have : (i + 1) * sz ≤ n * sz := Nat.mul_le_mul_right _ hi
    rw [Nat.add_mul] at this; omega
  have e2 : (i * sz + j) % sz = j := by rw [Nat.mul_comm, Nat.mul_add_mod, Nat.mod_eq_of_lt hj]
  have hjz : j < z.size := by omega
  rw [Array.getElem?_eq_getElem hjz, ← getElem!_pos z j hjz]
  simp [hq, hz, e2]


theorem opQ_sound {tt : TT} (hT : TOK P tt) {o : Oper} {K : PV → Prop} (hi : Inv C L I s a w) (h : opQ P tt s o K) : ∃ pv, K pv ∧ Goes P C L s a w o pv := by
  have val : ∀ {x : Operand} {K : PV → Prop}, (execOp a.eval o = pure (.value (a.eval x))) → (∃ pv, K pv ∧ RepP L s.heap I w (a.eval x) pv) → ∃ pv, K pv ∧ Goes P C L s a w o pv := fun {x K} he ⟨pv, h1, h2⟩ => by
    refine ⟨pv, h1, fun next Q _ hn => Or.inl ?_⟩
    unfold Oper.wp
    rw [he]
    exact hn _ w I hi h2
  cases hop : o.op <;> simp only [opQ, hop] at h
  case move x => exact val (by simp only [execOp, hop]) (opd_sound hi h)
  case assign x => exact val (by simp only [execOp, hop]) (opd_sound hi h)
  case pick c x y =>
    obtain ⟨pc, h, hc⟩ := opd_sound hi h
    split at h
    · have e := rep_bool hc
      obtain ⟨pv, h1, h2⟩ := opd_sound hi h
      exact goes_runs hi (m := pure (a.eval x)) (by simp only [execOp, hop, e, asBool]; rfl) ⟨pv, _, h1, rfl, h2⟩
    · have e := rep_bool hc
      obtain ⟨pv, h1, h2⟩ := opd_sound hi h
      exact goes_runs hi (m := pure (a.eval y)) (by simp only [execOp, hop, e, asBool]; rfl) ⟨pv, _, h1, rfl, h2⟩
    · exact h.elim
  case load t x =>
    obtain ⟨px, h, hx⟩ := opd_sound hi h
    obtain ⟨pv, v, h1, h2, h3⟩ := loadK_sound hi (hT t) h hx
    exact goes_runs hi (m := Instr.loadAt t (a.eval x)) (by simp only [execOp, hop]) ⟨pv, v, h1, h2, h3⟩
  case nilCheck x =>
    obtain ⟨px, h, hx⟩ := opd_sound hi h
    split at h
    · rename_i sz cs
      have hx' : RepC I w (a.eval x) (.ptr sz cs) := hx
      split at h
      · exact h.elim
      rename_i hb0
      generalize hv : a.eval x = v at hx'
      cases hx' with
      | ptr b off _ _ _ hI hsz hc hr => exact goes_runs hi (m := pure (a.eval x)) (by simp only [execOp, hop, hv]; rfl) ⟨_, _, h, rfl, hx⟩
      | nilP => cases hb0
    · obtain ⟨_, _, _, _, _, hv⟩ := id hx
      exact goes_runs hi (m := pure (a.eval x)) (by simp only [execOp, hop, hv]; rfl) ⟨_, _, h, rfl, hx⟩
    · obtain ⟨_, _, _, _, _, _, _, hv⟩ := id hx
      exact goes_runs hi (m := pure (a.eval x)) (by simp only [execOp, hop, hv]; rfl) ⟨_, _, h, rfl, hx⟩
    · obtain ⟨_, _, _, _, _, _, _, _, hv⟩ := id hx
      exact goes_runs hi (m := pure (a.eval x)) (by simp only [execOp, hop, hv]; rfl) ⟨_, _, h, rfl, hx⟩
    · exact h.elim
  case binOp op t x y yt =>
    obtain ⟨px, h, hx⟩ := opd_sound hi h
    obtain ⟨py, h, hy⟩ := opd_sound hi h
    exact goes_runs hi (by simp only [execOp, hop]) (binK_sound (hT t) (X := x) (Y := y) (fun hyc => by cases y <;> simp at hyc; exact ⟨_, rfl⟩) h hx hy)
  case unOp op t x =>
    obtain ⟨px, h, hx⟩ := opd_sound hi h
    exact goes_runs hi (by simp only [execOp, hop]) (unK_sound h hx)
  case convert src dst x =>
    obtain ⟨px, h, hx⟩ := opd_sound hi h
    exact goes_runs hi (by simp only [execOp, hop]) (convertQ_sound (hT dst) (hT src) h hx)
  case slice t x lo hi' mx =>
    cases mx with
    | some m => exact h.elim
    | none =>
      obtain ⟨px, h, hx⟩ := opd_sound hi h
      obtain ⟨l, h, hl⟩ := optInt_sound hi h
      obtain ⟨u, h, hu⟩ := optInt_sound hi h
      exact goes_runs hi (by simp only [execOp, hop]; rfl) (sliceK_sound (hT t) hi h hx hl hu)
  case fieldAddr t x f =>
    obtain ⟨px, h, hx⟩ := opd_sound hi h
    obtain ⟨pv, v, h1, h2, h3⟩ := fieldAddrK_sound hi (hT t) h hx
    exact goes_runs hi (m := Instr.fieldAt t (a.eval x) f) (by simp only [execOp, hop]) ⟨pv, v, h1, h2, h3⟩
  case field t x f =>
    obtain ⟨px, h, hx⟩ := opd_sound hi h
    exact goes_runs hi (by simp only [execOp, hop]) (fieldK_sound (hT t) h hx)
  case indexAddr t x i =>
    obtain ⟨px, h, hx⟩ := opd_sound hi h
    obtain ⟨pi, h, hpi⟩ := opd_sound hi h
    obtain ⟨pv, v, h1, h2, h3⟩ := indexAddrK_sound hi (hT t) h hx hpi
    exact goes_runs hi (m := Instr.indexAt t (a.eval x) (a.eval i)) (by simp only [execOp, hop]) ⟨pv, v, h1, h2, h3⟩
  case index t x i =>
    obtain ⟨px, h, hx⟩ := opd_sound hi h
    obtain ⟨pi, h, hpi⟩ := opd_sound hi h
    split at h
    · rename_i hst
      exact goes_runs hi (by simp only [execOp, hop]) (indexQ_sound (hT t) hst h hx hpi)
    · exact h.elim
  case extract x i =>
    obtain ⟨px, h, hx⟩ := opd_sound hi h
    exact goes_runs hi (by simp only [execOp, hop]) (extractK_sound h hx)
  case build t ps =>
    split at h
    · exact h.elim
    · exact h.elim
    · rename_i g gs z zs hfl hz
      obtain ⟨pvs, h, hps⟩ := partsK_sound hi h
      have hkn := known_any (hT t) (.inr (.inl (by rw [hfl]; simp)))
      obtain ⟨fs, hu, hfo⟩ := hkn.fields (by rw [hfl]; simp)
      obtain ⟨it, hit, hs, hby, hzz⟩ := hkn.info
      obtain ⟨zv, hzv, hzok⟩ := hzz (by rw [hz]; simp)
      obtain ⟨z1, z2⟩ := zeroOk_rep (L := L) (s := s) (I := I) (w := w) hzok
      have hzr : RepXs L s.heap I w zv.cells (tt t).zero := ⟨by simpa using z1, fun i x v h1 h2 => z2 i x v h1 (by simpa using h2)⟩
      obtain ⟨out, xs', g1, g2, g3⟩ := buildK_sound h hps hzr
      have hb : P.built t ((ps.map fun (p : Nat × Operand) => (p.1, a.eval p.2)).toList) = some out := by
        have hpl := fieldsOk_places hfo
        simp only [Program.built, hit, hu, hzv, hpl]
        simpa using g2
      exact goes_runs hi (m := Instr.build t (ps.map fun (i, x) => (i, a.eval x))) (by simp only [execOp, hop]) ⟨_, .agg out, g1, run_build w t _ out hb, out, rfl, g3⟩
  case buildSlice t len ps =>
    split at h
    · rename_i sz bb hsl hlen hbig
      obtain ⟨pvs, h, hps⟩ := partsK_sound hi h
      split at h
      · rename_i rows hrows
        have hkn := known_any (hT t) (.inl (by rw [hsl]; simp))
        obtain ⟨hu, hsz0, ie, hie, hs, hby, _, zv, hzv, hzs, _⟩ := hkn.slice _ _ hsl
        have hlen' := beq_iff.1 hlen
        simp only [hsl, Option.getD_some] at hbig
        have hbig' := Nat.le_of_ble_eq_true hbig
        have hrl : ∀ {i : Nat} {ps : List (Nat × PV)} {rows : List (List CV)}, listRows sz i ps = some rows → rows.length = ps.length := by
          intro i ps
          induction ps generalizing i with
          | nil => intro rows h; simp only [listRows, Option.some.injEq] at h; subst h; rfl
          | cons p ps ih =>
            intro rows h
            obtain ⟨j, v⟩ := p
            simp only [listRows] at h
            split at h
            · rename_i _ _ hr
              split at h
              · cases h; simp [ih hr]
              · cases h
            · cases h
        have hpl : ∀ {pv : List (Nat × PV)} {vs : List (Nat × Value)}, PartsRep L s.heap I w pv vs → pv.length = vs.length := by
          intro pv
          induction pv with
          | nil => intro vs h; cases vs with | nil => rfl | cons _ _ => exact h.elim
          | cons p pv ih => intro vs h; cases vs with | nil => exact h.elim | cons q vs => obtain ⟨_, _, h⟩ := h; simp [ih h]
        have hn : rows.length = len := by rw [hrl hrows, hpl hps, List.length_map]; exact hlen'.symm
        let zero : Array Value := if len * sz = 0 then #[] else zv.cells
        have hzsz : ((Array.range (len * sz)).map (zero[· % zero.size]!)).size = len * sz := by simp
        obtain ⟨out, g1, g2, g3, g4, g5⟩ := fill_rows (L := L) (s := s) (I := I) (w := w) hsz0 (cells := (Array.range (len * sz)).map (zero[· % zero.size]!)) hrows hps (by rw [hzsz, Nat.zero_add, hn]; exact Nat.le_refl _)
        have hnew : (w.alloc (.cells out (tt t).elem)).heap[w.heap.size]? = some (.cells out (tt t).elem (0, 0)) := by
          show (w.heap.push _)[w.heap.size]? = _
          simp
        have hold : ∀ b, b < w.heap.size → (w.alloc (.cells out (tt t).elem)).heap[b]? = w.heap[b]? := fun b hb => Below.heap_alloc w _ b hb
        refine ⟨_, h, fun next Q _ hn' => Or.inl ?_⟩
        unfold Oper.wp
        have hrun : (execOp a.eval o).run P w = .ok (.value (.slice (some ⟨w.heap.size, 0, none⟩) len len)) (w.alloc (.cells out (tt t).elem)) := by
          have hparts : (ps.map fun (x : Nat × Operand) => (x.1, a.eval x.2)).toList = ps.toList.map fun p => (p.1, a.eval p.2) := by simp
          simp only [execOp, hop, Instr.buildSlice, Sem.run_bind, run_underlying hu, Result.andThen_ok, run_size hie, hs, Sem.run_ite]
          rw [if_neg (by omega)]
          by_cases h0 : len * sz = 0
          · simp only [h0, if_true, Sem.run_pure, Result.andThen_ok, Sem.run_bind]
            simp only [h0, if_true, zero] at g1
            simp only [hparts]
            rw [g1]
            simp only [newRow, Sem.run_bind, run_newObj, Result.andThen_ok, Sem.run_pure]
            rfl
          · simp only [h0, if_false, Sem.run_pure, Result.andThen_ok, Sem.run_bind, zeroValue, run_info hie, hzv]
            simp only [h0, if_false, zero] at g1
            simp only [hparts]
            rw [g1]
            simp only [newRow, Sem.run_bind, run_newObj, Result.andThen_ok, Sem.run_pure]
            rfl
        rw [hrun]
        have hb : Blw w (w.alloc (.cells out (tt t).elem)) := ⟨rfl, rfl, ⟨rfl, fun _ => Nat.le_refl _⟩, by simp, hold⟩
        have hgI := hi.growI hb (I' := fun b => I b ∨ b = w.heap.size) (fun b h => Or.inl h) (fun b hlt h => h.elim id fun h => absurd h (by omega)) fun b h => by
          rcases h with h | h
          · have := hi.Ib b h; simp; omega
          · subst h; simp
        have hcell : ∀ (i : Nat) (r : List CV) (j : Nat) (c : CV), rows[i]? = some r → r[j]? = some c → ∃ u, out[i * sz + j]? = some u ∧ RepC (fun b => I b ∨ b = w.heap.size) (w.alloc (.cells out (tt t).elem)) u c := fun i r j c h1 h2 => by
          obtain ⟨u, h3, h4⟩ := g5 i r j c h1 h2
          rw [Nat.zero_add] at h3
          exact ⟨u, h3, RepC.mono (fun b h => Or.inl h) (fun b hb => hold b (hi.Ib b hb)) h4⟩
        refine hn' _ _ (fun b => I b ∨ b = w.heap.size) hgI ?_
        rw [← hn]
        refine RepC.slice w.heap.size 0 rows.length sz rows.length _ (fun i j => (out[i * sz + j]?).getD undef) (Or.inr rfl) rfl (Nat.le_refl _) (fun i r hr => g4 i r hr) (fun i r j c hr hcc => ?_) (fun i r j c hr hcc => ?_)
        · obtain ⟨u, h1, h2⟩ := hcell i r j c hr hcc
          rw [cell_row hnew, Nat.zero_add, h1]; rfl
        · obtain ⟨u, h1, h2⟩ := hcell i r j c hr hcc
          simp only [h1, Option.getD_some]
          exact h2
      · exact h.elim
    · exact h.elim
  case makeSlice t l c =>
    obtain ⟨vl, h, hl⟩ := opd_sound hi h
    obtain ⟨vc, h, hc⟩ := opd_sound hi h
    obtain ⟨kl, nl, el, h⟩ := intIx_sound h hl
    obtain ⟨kc, nc, ec, h⟩ := intIx_sound h hc
    split at h
    · rename_i sz bytes hsl
      split at h
      · exact h.elim
      · rename_i z zs hez
        obtain ⟨⟨h0, h1, h2⟩, h⟩ := h
        have hkn := known_any (hT t) (.inl (by rw [hsl]; simp))
        obtain ⟨hu, hsz0, ie, hie, hs, hby, ⟨hb0, hb1⟩, zv, hzv, hzs, hzo⟩ := hkn.slice _ _ hsl
        have hzo := hzo (by rw [hez]; simp)
        subst hby
        have hnc : nc ≤ 2 ^ 46 := by
          have : nc * 1 ≤ nc * (ie.bytes : Int) := Int.mul_le_mul_of_nonneg_left (by omega) (by omega)
          omega
        have hwl : IntKind.i64.wrap nl = nl := IntWalk.i64_in _ (by omega)
        have hwc : IntKind.i64.wrap nc = nc := IntWalk.i64_in _ (by omega)
        generalize hcs : ((Array.range (nc.toNat * sz)).map ((if nc.toNat * sz = 0 then (#[] : Array Value) else zv.cells)[· % (if nc.toNat * sz = 0 then (#[] : Array Value) else zv.cells).size]!)) = cells
        have hlen0 : (tt t).ez.length = sz := by
          rw [← (zeroOkC_rep (I := I) (w := w) hzo).1]; simpa using hzs
        have hnew : (w.alloc (.cells cells (tt t).elem)).heap[w.heap.size]? = some (.cells cells (tt t).elem (0, 0)) := by
          show (w.heap.push _)[w.heap.size]? = _
          simp
        have hold : ∀ b, b < w.heap.size → (w.alloc (.cells cells (tt t).elem)).heap[b]? = w.heap[b]? := fun b hb => Below.heap_alloc w _ b hb
        refine ⟨_, h, fun next Q _ hn => Or.inl ?_⟩
        unfold Oper.wp
        have hrun : (execOp a.eval o).run P w = .ok (.value (.slice (some ⟨w.heap.size, 0, none⟩) nl.toNat nc.toNat)) (w.alloc (.cells cells (tt t).elem)) := by
          have hbig : ¬ (ie.bytes : Int) * nc > 2 ^ 48 := by rw [Int.mul_comm]; omega
          simp only [execOp, hop, el, ec, Instr.makeSlice, Sem.run_bind, run_underlying hu, Result.andThen_ok, asInt, asIntOf, Sem.run_pure, run_info hie, hwl, hwc, Sem.run_ite]
          rw [if_neg (by simp only [Bool.or_eq_true, decide_eq_true_eq, not_or]; omega)]
          simp only [Sem.run_bind, run_askRoom, Result.andThen_ok, run_size hie, hs]
          rw [← hcs]
          by_cases hz0 : nc.toNat * sz = 0
          · simp only [hz0, if_true, Sem.run_pure, Result.andThen_ok, Sem.run_bind, newRow, run_newObj]
            rfl
          · simp only [hz0, if_false, Sem.run_pure, Result.andThen_ok, Sem.run_bind, zeroValue, run_info hie, hzv, newRow, run_newObj]
            rfl
        rw [hrun]
        have hb : Blw w (w.alloc (.cells cells (tt t).elem)) := ⟨rfl, rfl, ⟨rfl, fun _ => Nat.le_refl _⟩, by simp, hold⟩
        have hcell : ∀ (i : Nat) (r : List CV) (j : Nat) (c : CV), (List.replicate nl.toNat (tt t).ez)[i]? = some r → r[j]? = some c → ∃ u, cells[i * sz + j]? = some u ∧ RepC (fun b => I b ∨ b = w.heap.size) (w.alloc (.cells cells (tt t).elem)) u c := fun i r j c hr hcc => by
          have hrr := List.eq_of_mem_replicate (List.mem_of_getElem? hr)
          subst hrr
          have hi' : i < nl.toNat := by have := (List.getElem?_eq_some_iff.1 hr).1; simpa using this
          have hj : j < sz := by rw [← hlen0]; exact (List.getElem?_eq_some_iff.1 hcc).1
          have hne : ¬ nc.toNat * sz = 0 := by
            intro e0
            rcases Nat.mul_eq_zero.1 e0 with e0 | e0 <;> omega
          rw [← hcs]
          simp only [if_neg hne]
          rw [zero_row hzs (by omega) hj]
          have hjz : j < zv.cells.size := by omega
          exact ⟨zv.cells[j], Array.getElem?_eq_getElem hjz, (zeroOkC_rep hzo).2 j c _ hcc (by simp [hjz])⟩
        refine hn _ _ (fun b => I b ∨ b = w.heap.size) (hi.growI hb (fun b h => Or.inl h) (fun b hlt h => h.elim id fun h => absurd h (by omega)) fun b h => ?_) ?_
        · rcases h with h | h
          · have := hi.Ib b h; simp; omega
          · subst h; simp
        · refine RepC.slice w.heap.size 0 nc.toNat sz nl.toNat _ (fun i j => (cells[i * sz + j]?).getD undef) (Or.inr rfl) (by simp) (by omega) (fun i r hr => ?_) (fun i r j c hr hcc => ?_) (fun i r j c hr hcc => ?_)
          · have := List.eq_of_mem_replicate (List.mem_of_getElem? hr)
            rw [this]; exact hlen0
          · obtain ⟨u, h1, h2⟩ := hcell i r j c hr hcc
            rw [cell_row hnew, Nat.zero_add, h1]; rfl
          · obtain ⟨u, h1, h2⟩ := hcell i r j c hr hcc
            simp only [h1, Option.getD_some]
            exact h2
    · exact h.elim
  case makeFunc fn first captured =>
    cases fn <;> (first | exact h.elim | skip)
    rename_i f
    simp only [opQ] at h
    split at h
    · rename_i hfirst
      obtain ⟨pvs, h, hl, hr⟩ := argsK_sound hi h
      split at h
      · rename_i comps hcomps
        split at h
        · rename_i hall
          obtain ⟨g1, g2⟩ := pureB_get hcomps
          have hone : ∀ c ∈ comps, c.1 = false → ∃ y, c = (false, [y]) := fun c hc hf => by
            obtain ⟨i, hi', rfl⟩ := List.mem_iff_getElem.1 hc
            obtain ⟨c', e1, e2⟩ := g2 i (pvs[i]'(by omega)) (List.getElem?_eq_getElem _)
            rw [List.getElem?_eq_getElem hi'] at e1; cases e1
            rcases e2 with ⟨x, y, _, _, e3⟩ | ⟨_, _, _, _, e3⟩
            · exact ⟨y, e3⟩
            · rw [e3] at hf; cases hf
          obtain ⟨q1, q2⟩ := flat_get hall hone
          have hfe : first = #[] := by apply Array.ext'; simpa using hfirst
          refine goes_runs hi (m := Instr.makeFunc (.func f) (first.map a.eval) (captured.map a.eval)) (by simp only [execOp, hop]) ⟨_, _, h, rfl, ?_⟩
          have hfm : first.map a.eval = #[] := by rw [hfe]; simp
          rw [hfm]
          show RepC I w _ _
          refine RepC.fn f (captured.map a.eval) _ (by rw [q1, ← g1, hl, Array.size_map, Array.length_toList]) fun i y v hy hv => ?_
          have hcy := q2 i y hy
          have hil : i < pvs.length := by rw [g1]; exact (List.getElem?_eq_some_iff.1 hcy).1
          obtain ⟨c', e1, e2⟩ := g2 i pvs[i] (List.getElem?_eq_getElem hil)
          rw [hcy] at e1; cases e1
          have hia : i < captured.toList.length := by omega
          have hrr := hr i pvs[i] captured.toList[i] (List.getElem?_eq_getElem hil) (List.getElem?_eq_getElem hia)
          have : v = a.eval captured.toList[i] := by
            have hia' : i < captured.size := by simpa using hia
            rw [Array.getElem?_map] at hv
            simp [hia'] at hv
            simp [hv]
          rw [this]
          exact comp_of_pure hrr e2
        · exact h.elim
      · exact h.elim
    · exact h.elim
  case call c =>
    split at h
    · rename_i x hb hargs
      split at h
      · rename_i t ts hts
        obtain ⟨px, h, hx⟩ := opd_sound hi h
        have hca : c.args = #[x] := by apply Array.ext'; simpa using hargs
        have hat : c.argTypes[0]? = some t := by rw [← Array.getElem?_toList, hts]; rfl
        obtain ⟨pv, v, h1, h2, h3⟩ := lenK_sound (ty := o.type) (hT t) hi h hx c.argTypes hat
        refine ⟨pv, h1, fun next Q _ hn => Or.inl ?_⟩
        have hrun : (execOp a.eval o).run P w = .ok (.value v) w := by
          simp [execOp, hop, resolve, hb, hca, invoke, builtin, h2]
        unfold Oper.wp
        rw [hrun]
        exact hn v w I hi h3
      · exact h.elim
    · rename_i x y hb hargs
      obtain ⟨px, h, hx⟩ := opd_sound hi h
      obtain ⟨py, h, hy⟩ := opd_sound hi h
      have hca : c.args = #[x, y] := by apply Array.ext'; simpa using hargs
      obtain ⟨m, n, rfl, rfl, h⟩ : ∃ m n, px = .one (.c (.int .i64 m)) ∧ py = .one (.c (.int .i64 n)) ∧ K (.one (.c (.int .i64 (if n > m then n else m)))) := by
        unfold maxK at h
        split at h
        · exact ⟨_, _, rfl, rfl, h⟩
        · exact h.elim
      have ei : ∀ (v : Value) (z : Int), RepC I w v (.int .i64 z) → v = .int .i64 z := fun v z hv => by cases hv; rfl
      have e1 := ei _ m hx
      have e2 := ei _ n hy
      refine ⟨_, h, fun next Q _ hn => Or.inl ?_⟩
      have hrun : (execOp a.eval o).run P w = .ok (.value (.int .i64 (if n > m then n else m))) w := by
        simp [execOp, hop, resolve, hb, hca, invoke, builtin, e1, e2, Builtin.max_, Builtin.max2]
      unfold Oper.wp
      rw [hrun]
      exact hn _ w I hi (RepC.int .i64 _)
    · rename_i x y hb hargs
      obtain ⟨px, h, hx⟩ := opd_sound hi h
      obtain ⟨py, h, hy⟩ := opd_sound hi h
      have hca : c.args = #[x, y] := by apply Array.ext'; simpa using hargs
      obtain ⟨m, n, rfl, rfl, h⟩ : ∃ m n, px = .one (.c (.int .i64 m)) ∧ py = .one (.c (.int .i64 n)) ∧ K (.one (.c (.int .i64 (if n < m then n else m)))) := by
        unfold minK at h
        split at h
        · exact ⟨_, _, rfl, rfl, h⟩
        · exact h.elim
      have ei : ∀ (v : Value) (z : Int), RepC I w v (.int .i64 z) → v = .int .i64 z := fun v z hv => by cases hv; rfl
      have e1 := ei _ m hx
      have e2 := ei _ n hy
      refine ⟨_, h, fun next Q _ hn => Or.inl ?_⟩
      have hrun : (execOp a.eval o).run P w = .ok (.value (.int .i64 (if n < m then n else m))) w := by
        simp [execOp, hop, resolve, hb, hca, invoke, builtin, e1, e2, Builtin.min_, Builtin.min2]
      unfold Oper.wp
      rw [hrun]
      exact hn _ w I hi (RepC.int .i64 _)
    · rename_i f args hc
      obtain ⟨pf, h, hpf⟩ := opd_sound hi h
      obtain ⟨pvs, h, hl, hr⟩ := argsK_sound hi h
      exact callQ_goes hi hop hc hpf hl hr h
    · exact h.elim
  all_goals exact h.elim

end

end Go.Proofs.YtnafogjagbhdbaaDoor.Pi
/- The operations that change the abstract state: sound. No statement of the seat is proved here. -/
namespace Go.Proofs.YtnafogjagbhdbaaDoor.Pi
open Go Go.RowKit
set_option linter.unusedVariables false
set_option linter.unusedSimpArgs false

theorem killK_fn (k : Nat) (s : St) : ∃ s', ∀ K : St → Prop, killK k s K ↔ K s' := by
  unfold killK
  cases find s.heap k with
  | none => exact ⟨s, fun K => Iff.rfl⟩
  | some o => exact ⟨⟨s.regs.map (PV.map (XV.kill k)), (del k s.heap).mapX (XV.kill k)⟩, fun K => by simp only [force_eq]⟩

theorem newsK_cons {d k : Nat} {o : Ob} {h : Heap} {s : St} {K : St → Prop} (hK : newsK d ((k, o) :: h) s K) : find h k = none ∧ newK (d + k) o s (fun s => newsK d h s K) ∧ ∀ cs, o ≠ .box cs := by
  cases o with
  | box cs => exact hK.elim
  | arr sz rows =>
    simp only [newsK] at hK
    cases hf : find h k with
    | some o => simp [hf] at hK
    | none => simp only [hf] at hK; exact ⟨rfl, hK, fun cs h => by cases h⟩
  | deep a sz rows =>
    simp only [newsK] at hK
    cases hf : find h k with
    | some o => simp [hf] at hK
    | none => simp only [hf] at hK; exact ⟨rfl, hK, fun cs h => by cases h⟩

theorem newK_fnD {k : Nat} {o : Ob} {s : St} {K : St → Prop} (h : newK k o s K) : ∃ s', ∀ K : St → Prop, newK k o s K ↔ K s' := by
  unfold newK at h ⊢
  split at h
  · exact h.elim
  · simp only [*]
    obtain ⟨⟨r, h⟩, h1⟩ := killK_fn k s
    exact ⟨⟨r, ins k o h⟩, fun K => by rw [h1]; simp only [forceH_eq]⟩

theorem newsK_fn {d : Nat} : ∀ {h : Heap} {s : St} {K : St → Prop}, newsK d h s K → ∃ s', ∀ K' : St → Prop, newsK d h s K' ↔ K' s'
  | [], s, K, _ => ⟨s, fun K' => Iff.rfl⟩
  | (k, .box _) :: h, s, K, hK => hK.elim
  | (k, .arr sz rows) :: h, s, K, hK => by
    obtain ⟨hf, hK, _⟩ := newsK_cons hK
    obtain ⟨s1, h1⟩ := newK_fnD hK
    obtain ⟨s2, h2⟩ := newsK_fn ((h1 _).1 hK)
    exact ⟨s2, fun K' => by simp only [newsK, hf]; rw [h1, h2]⟩
  | (k, .deep a sz rows) :: h, s, K, hK => by
    obtain ⟨hf, hK, _⟩ := newsK_cons hK
    obtain ⟨s1, h1⟩ := newK_fnD hK
    obtain ⟨s2, h2⟩ := newsK_fn ((h1 _).1 hK)
    exact ⟨s2, fun K' => by simp only [newsK, hf]; rw [h1, h2]⟩

section
variable {P : Program} {C : Ctx} {L : Lay} {I : Nat → Prop} {s : St} {a : Act} {w : World}

def GoesM (P : Program) (C : Ctx) (s' : St) (a : Act) (w : World) (o : Oper) (pv : PV) : Prop :=
  ∀ (next : Act → World → Prop) (Q : Exit → Act → World → Prop), True → (∀ v w' I' L', Inv C L' I' s' a w' → RepP L' s'.heap I' w' v pv → next (a.put o.dst v) w') → o.wp P a w next Q ∨ (o.asks P a w ∧ LetsOut Q)

theorem Goes.m {o : Oper} {pv : PV} (h : Goes P C L s a w o pv) : GoesM P C s a w o pv := fun next Q hQ hn => h next Q hQ fun v w' I' => hn v w' I' L

theorem goesM_run {o : Oper} {v : Value} {w' : World} {L' : Lay} {I' : Nat → Prop} {s' : St} {pv : PV} (hrun : (execOp a.eval o).run P w = .ok (.value v) w') (hi : Inv C L' I' s' a w') (hr : RepP L' s'.heap I' w' v pv) : GoesM P C s' a w o pv := fun next Q _ hn => Or.inl (by
  unfold Oper.wp
  rw [hrun]
  exact hn v w' I' L' hi hr)

theorem newsK_inv {d : Nat} {L2 : Lay} {H2 : Heap} : ∀ {h : Heap} {s : St} {K : St → Prop} {L : Lay}, newsK d h s K → Inv C L I s a w →
    (∀ k o, find h k = some o → RepO L2 H2 I w k o) →
    (∀ k o b, find h k = some o → Foot L2 k b → C.O b ∧ ¬ I b ∧ b < w.heap.size ∧ ∀ j o', find s.heap j = some o' → ¬ Foot L j b) →
    (∀ k k' o o' b, find h k = some o → find h k' = some o' → Foot L2 k b → Foot L2 k' b → k = k') →
    ∃ s' L', K s' ∧ Inv C L' I s' a w ∧ (∀ k o, find h k = some o → find s'.heap (d + k) = some o ∧ L'.blk (d + k) = L2.blk k ∧ L'.cap (d + k) = L2.cap k) ∧
      (∀ j o, (∀ k o, find h k = some o → j ≠ d + k) → (∀ cs, o ≠ .box cs) → find s.heap j = some o → find s'.heap j = some o ∧ L'.blk j = L.blk j ∧ L'.cap j = L.cap j)
  | [], s, K, L, hK, hi, _, _, _ => ⟨s, L, hK, hi, fun k o h => by simp [find] at h, fun j o _ _ h => ⟨h, rfl, rfl⟩⟩
  | (k, o0) :: h, s, K, L, hK, hi, hrep, hown, hinj => by
    obtain ⟨hf, hK, hnb⟩ := newsK_cons hK
    have hhead : find ((k, o0) :: h) k = some o0 := by simp [find]
    have htail : ∀ {k' o}, find h k' = some o → k' ≠ k ∧ find ((k, o0) :: h) k' = some o := fun {k' o} h' => by
      have hne : k' ≠ k := fun e => by rw [e, hf] at h'; cases h'
      refine ⟨hne, ?_⟩
      have : Nat.beq k k' = false := beq_false.2 (Ne.symm hne)
      simp only [find, this]; exact h'
    obtain ⟨s1, hK1, hi1, g1, _, g2⟩ := newK_invD (w' := w) hK hi (fun _ _ => rfl) (Nat.le_refl _) rfl rfl .rfl (L2.blk k) (L2.cap k) (L2.fp k) (L2.hd k) (fun b hb => by
      obtain ⟨q1, q2, q3, q4⟩ := hown k _ b hhead hb
      exact ⟨q1, q2, q3, fun j o' _ h => q4 j o' h⟩) (fun H' _ _ => by
      have := hrep k o0 hhead
      cases o0 with
      | box cs => exact absurd rfl (hnb cs)
      | arr sz rows =>
        simp only [RepO, Lay.updD, if_true] at this ⊢
        exact this
      | deep a sz rows =>
        simp only [RepO, Lay.updD, if_true] at this ⊢
        exact this)
    have hfoot : ∀ {j b}, j ≠ d + k → Foot (L.updD (d + k) (L2.blk k) (L2.cap k) (L2.fp k) (L2.hd k)) j b → Foot L j b := fun {j b} e hf => by
      obtain ⟨e1, _, e3, _⟩ := L.updD_same (nb := L2.blk k) (cap := L2.cap k) (fp := L2.fp k) (hd := L2.hd k) e
      rcases hf with hf | hf
      · exact .inl (e1 ▸ hf)
      · exact .inr (e3 ▸ hf)
    obtain ⟨s', L', q1, q2, q3, q4⟩ := newsK_inv (L2 := L2) (H2 := H2) hK1 hi1 (fun k' o' h' => hrep k' o' (htail h').2) (fun k' o b h' hb => by
        obtain ⟨e1, e2⟩ := htail h'
        obtain ⟨p1, p2, p3, p4⟩ := hown k' o b e2 hb
        refine ⟨p1, p2, p3, fun j o' hj hbj => ?_⟩
        by_cases e : j = d + k
        · subst e
          have hbj : Foot L2 k b := by simpa [Foot, Lay.updD] using hbj
          exact e1 (hinj k' k _ _ b e2 hhead hb hbj)
        · rw [g2 j e] at hj
          cases hj' : find s.heap j with
          | none => simp [hj'] at hj
          | some o3 => exact p4 j o3 hj' (hfoot e hbj)) (fun k1 k2 o1 o2 b h1 h2 => hinj k1 k2 o1 o2 b (htail h1).2 (htail h2).2)
    refine ⟨s', L', q1, q2, fun k' o' h' => ?_, fun j o' hne hno h' => ?_⟩
    · by_cases e : k' = k
      · subst e
        rw [hhead] at h'
        cases h'
        obtain ⟨e1, e2, e3⟩ := q4 (d + k') o0 (fun k2 o2 h2 e => (htail h2).1 (by omega)) hnb g1
        exact ⟨e1, by rw [e2]; simp [Lay.updD], by rw [e3]; simp [Lay.updD]⟩
      · have : Nat.beq k k' = false := beq_false.2 (Ne.symm e)
        simp only [find, this] at h'
        exact q3 k' o' h'
    · have hjk : j ≠ d + k := hne k _ hhead
      have hmap : (some o').map (Ob.map (XV.kill (d + k))) = some o' := by
        cases o' with
        | box cs => exact absurd rfl (hno cs)
        | arr sz rows => rfl
        | deep a sz rows => rfl
      obtain ⟨e1, e2, e3⟩ := q4 j o' (fun k2 o2 h2 => hne k2 o2 (htail h2).2) hno (by rw [g2 j hjk, h']; exact hmap)
      exact ⟨e1, by rw [e2]; simp [Lay.updD, hjk], by rw [e3]; simp [Lay.updD, hjk]⟩

theorem RepX.shift {L L2 : Lay} {H H2 : Heap} {I I2 : Nat → Prop} {w : World} {d : Nat} (hI : ∀ b, I2 b → I b) (harr : ∀ k o, find H2 k = some o → ∀ cs, o ≠ .box cs) (h : ∀ k o, find H2 k = some o → find H (d + k) = some o ∧ L.blk (d + k) = L2.blk k ∧ L.cap (d + k) = L2.cap k)
    {v : Value} {x : XV} (hx : RepX L2 H2 I2 w v x) : RepX L H I w v (shiftX d x) := by
  cases x with
  | c y => exact RepC.mono hI (fun _ _ => rfl) hx
  | nil _ => exact hx
  | undef => exact hx
  | dead => trivial
  | dp _ _ _ _ => trivial
  | dn _ _ _ => trivial
  | fb _ _ _ _ _ => trivial
  | rs k =>
    obtain ⟨sz, rows, g1, g2⟩ := hx
    obtain ⟨e1, e2, e3⟩ := h k _ g1
    exact ⟨sz, rows, e1, by rw [e2, e3]; exact g2⟩
  | ds k =>
    obtain ⟨a, sz, rows, g1, g2⟩ := hx
    obtain ⟨e1, e2, e3⟩ := h k _ g1
    exact ⟨a, sz, rows, e1, by rw [e2, e3]; exact g2⟩
  | ru k o l =>
    obtain ⟨sz, rows, g1, g3, g2⟩ := hx
    obtain ⟨e1, e2, e3⟩ := h k _ g1
    exact ⟨sz, rows, e1, g3, by rw [e2, e3]; exact g2⟩
  | pb k o l =>
    obtain ⟨cs, b, g1, _⟩ := hx
    exact absurd rfl (harr k _ g1 cs)
  | pe k r o l =>
    obtain ⟨sz, rows, b, g1, g2, g3⟩ := hx
    obtain ⟨e1, e2, e3⟩ := h k _ g1
    exact ⟨sz, rows, b, e1, by rw [e2]; exact g2, g3⟩

theorem newsK_arr {d : Nat} : ∀ {h : Heap} {s : St} {K : St → Prop}, newsK d h s K → ∀ k o, find h k = some o → ∀ cs, o ≠ .box cs
  | [], _, _, _, k, o, h => by simp [find] at h
  | (k, o0) :: h, s, K, hK, k', o, hf => by
    obtain ⟨hf2, hK, hnb⟩ := newsK_cons hK
    obtain ⟨s1, h1⟩ := newK_fnD hK
    simp only [find] at hf
    split at hf
    · cases hf; exact hnb
    · exact newsK_arr ((h1 _).1 hK) k' o hf

theorem callR_goes {tt : TT} {o : Oper} {c : Call} {f : Operand} {g : Nat} {caps : List CV} {vs : List PV} (hi : Inv C L I s a w) (ho : o.op = .call c) (hc : c.callee = .value f) {K : PV → St → Prop} (hpf : RepP L s.heap I w (a.eval f) (.one (.c (.fn g caps))))
    (h : callR P tt s g caps c.args.toList c.argTypes.toList o.dst vs K) : ∃ pv s', K pv s' ∧ GoesM P C s' a w o pv := by
  unfold callR at h
  obtain ⟨s', I', h, hi', hII⟩ := frzKeys_inv h hi
  obtain ⟨vs', h, hvl', hvr'⟩ := argsK_sound hi' h
  split at h
  · rename_i comps hcomps
    obtain ⟨r, hs, h⟩ := h
    have hpf : RepC I w (a.eval f) (.fn g caps) := hpf
    generalize hv : a.eval f = vf at hpf
    cases hpf with
    | fn _ cv _ hcl hcr =>
      have hrun := exec_call (P := P) (w := w) ho hc hv hs.1
      obtain ⟨g1, g2⟩ := pureB_get hcomps
      have hsz0 : (c.args.map a.eval).size = comps.length := by rw [← g1, hvl', Array.size_map, Array.length_toList]
      obtain ⟨q1, q2⟩ := args_caps (I1 := I') hsz0 (fun i cc v h1 h2 => by
        have hil : i < vs'.length := by rw [g1]; exact (List.getElem?_eq_some_iff.1 h1).1
        obtain ⟨c', e1, e2⟩ := g2 i vs'[i] (List.getElem?_eq_getElem hil)
        rw [h1] at e1; cases e1
        have hia : i < c.args.toList.length := by omega
        have hr := hvr' i vs'[i] c.args.toList[i] (List.getElem?_eq_getElem hil) (List.getElem?_eq_getElem hia)
        have : v = a.eval c.args.toList[i] := by
          have hia' : i < c.args.size := by simpa using hia
          rw [Array.getElem?_map] at h2
          simp [hia'] at h2
          simp [h2]
        rw [this]
        exact comp_of_pure hr e2) hcl (fun i c v h1 h2 => (hcr i c v h1 h2).mono hII (fun _ _ => rfl))
      have hnoth : ∀ (I2 : Nat → Prop), (∀ b, b < w.heap.size → I2 b → I' b) → ∀ b, I2 b → (I' b ∨ (w.heap.size ≤ b ∧ I2 b)) := fun I2 h b hb => by
        by_cases hlt : b < w.heap.size
        · exact Or.inl (h b hlt hb)
        · exact Or.inr ⟨by omega, hb⟩
      have hgrow : ∀ {w' : World} {I2 : Nat → Prop}, Blw w w' → (∀ b, I2 b → b < w'.heap.size) → Inv C L (fun b => I' b ∨ (w.heap.size ≤ b ∧ I2 b)) s' a w' := fun {w' I2} hb h2 =>
        hi'.growI hb (fun b h => Or.inl h) (fun b hlt h => h.elim id fun h => absurd h.1 (by omega)) fun b h => h.elim (fun h => Nat.lt_of_lt_of_le (hi'.Ib b h) hb.size) fun h => h2 b h.2
      split at h
      · rename_i hsc hnil
        simp only [forceP_eq] at h
        refine ⟨r.1, s, h, fun next Q hQ hn => Or.inl ?_⟩
        refine wp_call hs (hi.laid fun _ h => h.elim) hrun hi'.Ib q1 q2 hQ fun v w' ⟨hb, L2, I2, h1, h2, h3, h4⟩ => ?_
        exact hn v w' I L (hi.growI hb (fun b h => h) (fun b _ h => h) fun b h => Nat.lt_of_lt_of_le (hi.Ib b h) hb.size) (RepP.scalar_any hsc h3)
      · rename_i hnil _
        simp only [forceP_eq] at h
        refine ⟨r.1, s', h, fun next Q hQ hn => Or.inl ?_⟩
        refine wp_call hs (hi.laid fun _ h => h.elim) hrun hi'.Ib q1 q2 hQ fun v w' ⟨hb, L2, I2, h1, h2, h3, h4⟩ => ?_
        refine hn v w' _ L (hgrow hb h2) (RepP.mono (fun v x hx => ?_) h3)
        rw [hnil] at hx
        have := RepX.ext (L' := L) (H' := s'.heap) (I' := fun b => I' b ∨ (w.heap.size ≤ b ∧ I2 b)) (w' := w') (q := fun _ => False) (fun j o hq => hq.elim) (hnoth I2 h1) (fun _ _ => rfl) (fun k hk => by obtain ⟨o, ho⟩ := find_key hk hx; simp [find] at ho) hx
        exact this
      · rename_i hh d hnn1 hnn2
        split at h
        · rename_i how
          have hoh : ownH r.2 = true ∧ ownP r.1 = true := by
            simp only [ownRes] at how
            split at how
            · exact ⟨by assumption, how⟩
            · cases how
          obtain ⟨s'', hfn⟩ := newsK_fn h
          have hK := (hfn _).1 h
          simp only [forceP_eq] at hK
          refine ⟨_, s'', hK, fun next Q hQ hn => Or.inl ?_⟩
          refine wp_call hs (hi.laid fun _ h => h.elim) hrun hi'.Ib q1 q2 hQ fun v w' ⟨hb, L2, I2, h1, h2, h3, h4⟩ => ?_
          have hi2 := hi.growI hb (fun b h => h) (fun b _ h => h) fun b h => Nat.lt_of_lt_of_le (hi.Ib b h) hb.size
          obtain ⟨s3, L3, e0, e1, e2, e3⟩ := newsK_inv (L2 := L2) (H2 := r.2) (K := fun x => x = s'') ((hfn _).2 rfl) hi2 (fun k o hf => by
            obtain ⟨a, sz, rows, rfl⟩ := ownH_iff hoh.1 k o hf
            exact h4.ob k _ hf) (fun k o b hf hbk => by
            obtain ⟨p1, p2, p3⟩ := h4.own k o b hf hbk
            refine ⟨C.hO b (Nat.le_trans hi.fr.size p1), fun hn => ?_, p3, fun j o' hj hbj => ?_⟩
            · have := hi.Ib b hn; omega
            · have := (hi.heap.own j o' b hj hbj).2.2
              omega) (fun k k' o o' b x1 x2 x3 x4 => h4.inj k k' o o' b x1 x2 x3 x4)
          subst e0
          exact hn v w' _ L3 e1 (RepP.map' (fun v x hx => RepX.shift (fun b h => h) (newsK_arr h) e2 hx) (RepP.own hoh.2 h3))
        · split at h
          · rename_i rows hru
            obtain ⟨hscl, h⟩ := h
            obtain ⟨s'', hfn⟩ := newsK_fn h
            have hK := (hfn _).1 h
            simp only [forceP_eq] at hK
            refine ⟨_, s'', hK, fun next Q hQ hn => Or.inl ?_⟩
            refine wp_call hs (hi.laid fun _ h => h.elim) hrun hi'.Ib q1 q2 hQ fun v w' ⟨hb, L2, I2, h1, h2, h3, h4⟩ => ?_
            have hi2 := hi.growI hb (fun b h => h) (fun b _ h => h) fun b h => Nat.lt_of_lt_of_le (hi.Ib b h) hb.size
            obtain ⟨s3, L3, e0, e1, e2, e3⟩ := newsK_inv (L2 := L2) (H2 := r.2) (K := fun x => x = s'') ((hfn _).2 rfl) hi2 (fun k o hf => by
              have := h4.ob k _ hf
              obtain ⟨sz, rfl⟩ := (ruRes_iff (L := L2) (I := I) (I' := I) (w := w) hru).1 k o hf
              simp only [RepO] at this ⊢
              cases hbk : L2.blk k with
              | none => simpa [hbk] using this
              | some b =>
                simp only [hbk] at this ⊢
                obtain ⟨a1, a2, vs0, e, fr, a3, a4, a5, a6⟩ := this
                exact ⟨a1, a2, vs0, e, fr, a3, a4, a5, fun i r j c b1 b2 => by
                  obtain ⟨v0, b3, b4⟩ := a6 i r j c b1 b2
                  exact ⟨v0, b3, RepC.scalar_any (hscl r (List.mem_of_getElem? b1) c (List.mem_of_getElem? b2)) b4⟩⟩) (fun k o b hf hbk => by
              obtain ⟨p1, p2, p3⟩ := h4.own k o b hf hbk
              refine ⟨C.hO b (Nat.le_trans hi.fr.size p1), fun hn => ?_, p3, fun j o' hj hbj => ?_⟩
              · have := hi.Ib b hn; omega
              · have := (hi.heap.own j o' b hj hbj).2.2
                omega) (fun k k' o o' b x1 x2 x3 x4 => h4.inj k k' o o' b x1 x2 x3 x4)
            subst e0
            exact hn v w' _ L3 e1 (RepP.map' (fun v x hx => RepX.shift (fun b h => h) (newsK_arr h) e2 hx) ((ruRes_iff hru).2 v h3))
          · obtain ⟨s'', hfn⟩ := newsK_fn h
            have hK := (hfn _).1 h
            simp only [forceP_eq] at hK
            refine ⟨_, s'', hK, fun next Q hQ hn => Or.inl ?_⟩
            refine wp_call hs (hi.laid fun _ h => h.elim) hrun hi'.Ib q1 q2 hQ fun v w' ⟨hb, L2, I2, h1, h2, h3, h4⟩ => ?_
            have hi2 := hgrow hb h2
            have hnI : ∀ k o b, find r.2 k = some o → Foot L2 k b → ¬ (I' b ∨ (w.heap.size ≤ b ∧ I2 b)) := fun k o b hf hbk hn => by
              obtain ⟨p1, p2, p3⟩ := h4.own k o b hf hbk
              rcases hn with hn | ⟨_, hn⟩
              · have := hi'.Ib b hn; omega
              · exact p2 hn
            obtain ⟨s3, L3, e0, e1, e2, e3⟩ := newsK_inv (L2 := L2) (H2 := r.2) (K := fun x => x = s'') ((hfn _).2 rfl) hi2 (fun k o hf => by
              have := h4.ob k _ hf
              cases o with
              | box cs => exact absurd rfl (newsK_arr h k _ hf cs)
              | deep a sz rows => exact this
              | arr sz rows =>
                simp only [RepO] at this ⊢
                cases hbk : L2.blk k with
                | none => simpa [hbk] using this
                | some b =>
                  simp only [hbk] at this ⊢
                  obtain ⟨a1, a2, vs0, e, fr, a3, a4, a5, a6⟩ := this
                  exact ⟨a1, a2, vs0, e, fr, a3, a4, a5, fun i r j c b1 b2 => by
                    obtain ⟨v0, b3, b4⟩ := a6 i r j c b1 b2
                    exact ⟨v0, b3, b4.mono (hnoth I2 h1) (fun _ _ => rfl)⟩⟩) (fun k o b hf hbk => by
              obtain ⟨p1, p2, p3⟩ := h4.own k o b hf hbk
              refine ⟨C.hO b (Nat.le_trans hi.fr.size p1), hnI k o b hf hbk, p3, fun j o' hj hbj => ?_⟩
              have := (hi'.heap.own j o' b hj hbj).2.2
              omega) (fun k k' o o' b x1 x2 x3 x4 => h4.inj k k' o o' b x1 x2 x3 x4)
            subst e0
            exact hn v w' _ L3 e1 (RepP.map' (fun v x hx => RepX.shift (hnoth I2 h1) (newsK_arr h) e2 hx) h3)
      · refine ⟨_, s', h, fun next Q hQ hn => Or.inl ?_⟩
        refine wp_call hs (hi.laid fun _ h => h.elim) hrun hi'.Ib q1 q2 hQ fun v w' ⟨hb, L2, I2, h1, h2, h3, h4⟩ => ?_
        exact hn v w' _ L (hgrow hb h2) trivial
  · exact h.elim

end

end Go.Proofs.YtnafogjagbhdbaaDoor.Pi
/- New objects, appends, stores: sound. No statement of the seat is proved here. -/
namespace Go.Proofs.YtnafogjagbhdbaaDoor.Pi
open Go Go.RowKit
set_option linter.unusedVariables false
set_option linter.unusedSimpArgs false

section
variable {P : Program} {C : Ctx} {L : Lay} {I : Nat → Prop} {s : St} {a : Act} {w : World}

structure Flat (I : Nat → Prop) (w : World) (sz : Nat) (es : List (List CV)) (cells : Array Value) : Prop where
  size : cells.size = es.length * sz
  len : ∀ (i : Nat) (r : List CV), es[i]? = some r → r.length = sz
  rep : ∀ (i : Nat) (r : List CV) (j : Nat) (c : CV), es[i]? = some r → r[j]? = some c → ∃ u, cells[i * sz + j]? = some u ∧ RepC I w u c

theorem Flat.one {sz : Nat} {es : List (List CV)} {cells : Array Value} (h : Flat I w sz es cells) (hsz : 0 < sz) : ∀ v ∈ cells.toList, oneCell v := by
  intro v hv
  obtain ⟨q, hq, rfl⟩ := List.mem_iff_getElem.1 hv
  have hq' : q < es.length * sz := by rw [← h.size]; simpa using hq
  have hi : q / sz < es.length := by rw [Nat.div_lt_iff_lt_mul hsz]; exact hq'
  have hj : q % sz < sz := Nat.mod_lt _ hsz
  have hr := h.len _ es[q / sz] (List.getElem?_eq_getElem hi)
  obtain ⟨u, h1, h2⟩ := h.rep (q / sz) es[q / sz] (q % sz) (es[q / sz][q % sz]'(by omega)) (List.getElem?_eq_getElem hi) (List.getElem?_eq_getElem _)
  have e : q / sz * sz + q % sz = q := by rw [Nat.mul_comm]; exact Nat.div_add_mod q sz
  rw [e] at h1
  have : cells.toList[q] = u := by
    have hq2 : q < cells.size := by simpa using hq
    rw [Array.getElem?_eq_getElem hq2] at h1
    simpa using h1
  rw [this]; exact h2.oneCell

theorem flat_load {b off sz n : Nat} {es : List (List CV)} {f : Nat → Nat → Value} (hsz : 0 < sz) (hn : es.length = n) (hl : ∀ (i : Nat) (r : List CV), es[i]? = some r → r.length = sz)
    (hc : ∀ (i : Nat) (r : List CV) (j : Nat) (c : CV), es[i]? = some r → r[j]? = some c → w.cell? ⟨b, off + (i * sz + j), none⟩ = some (f i j) ∧ RepC I w (f i j) c) :
    ∃ cells, (∀ w' : World, w'.heap = w.heap → (loadCells ⟨b, off, none⟩ (n * sz)).run P w' = .ok cells w') ∧ Flat I w sz es cells := by
  have hget : ∀ q, q < n * sz → w.cell? (Addr.add ⟨b, off, none⟩ q) = some (f (q / sz) (q % sz)) := fun q hq => by
    have hi : q / sz < es.length := by rw [hn, Nat.div_lt_iff_lt_mul hsz]; exact hq
    have hj : q % sz < sz := Nat.mod_lt _ hsz
    have hr := hl _ es[q / sz] (List.getElem?_eq_getElem hi)
    have := (hc (q / sz) es[q / sz] (q % sz) (es[q / sz][q % sz]'(by omega)) (List.getElem?_eq_getElem hi) (List.getElem?_eq_getElem _)).1
    have e : q / sz * sz + q % sz = q := by rw [Nat.mul_comm]; exact Nat.div_add_mod q sz
    rw [e] at this
    rw [add_plain]; exact this
  refine ⟨_, fun w' hw' => run_loadCells (P := P) w' ⟨b, off, none⟩ (n * sz) (fun q => f (q / sz) (q % sz)) (fun q hq => by rw [cell_of_block (w := w) (by rw [hw'])]; exact hget q hq), ⟨by simp [hn], hl, fun i r j c h1 h2 => ?_⟩⟩
  have hi : i < n := by rw [← hn]; exact (List.getElem?_eq_some_iff.1 h1).1
  have hj : j < sz := by rw [← hl i r h1]; exact (List.getElem?_eq_some_iff.1 h2).1
  have hq : i * sz + j < n * sz := by
    have : (i + 1) * sz ≤ n * sz := Nat.mul_le_mul_right _ hi
    rw [Nat.add_mul] at this; omega
  have e1 : (i * sz + j) / sz = i := by rw [Nat.mul_comm, Nat.mul_add_div hsz, Nat.div_eq_of_lt hj]; rfl
  have e2 : (i * sz + j) % sz = j := by rw [Nat.mul_comm, Nat.mul_add_mod, Nat.mod_eq_of_lt hj]
  refine ⟨f i j, ?_, (hc i r j c h1 h2).2⟩
  simp [hq, e1, e2]

theorem rowsOf_sound (hi : Inv C L I s a w) {sz : Nat} (hsz : 0 < sz) {v : Value} {y : PV} {K : List (List CV) → Prop} (h : rowsOf s.heap sz y K) (hr : RepP L s.heap I w v y) :
    ∃ es cells, K es ∧ (Builtin.lenOf v).run P w = .ok es.length w ∧ (∀ w' : World, w'.heap = w.heap → (Builtin.firstCells sz es.length v).run P w' = .ok cells w') ∧ Flat I w sz es cells := by
  have nil : ∀ {v : Value}, v = .slice none 0 0 → (Builtin.lenOf v).run P w = .ok 0 w ∧ (∀ w' : World, w'.heap = w.heap → (Builtin.firstCells sz 0 v).run P w' = .ok #[] w') := fun {v} e => by subst e; exact ⟨rfl, fun _ _ => rfl⟩
  have flat0 : Flat I w sz [] #[] := ⟨by simp, fun i r h => by simp at h, fun i r j c h => by simp at h⟩
  unfold rowsOf at h
  split at h
  · rename_i sz' es
    split at h
    · rename_i hb
      have e := beq_iff.1 hb
      subst e
      have hr : RepC I w v (.slice sz es) := hr
      cases hr with
      | nil _ => exact ⟨[], #[], h, (nil rfl).1, (nil rfl).2, flat0⟩
      | empty a' _ _ =>
        refine ⟨[], #[], h, rfl, fun w' _ => ?_, flat0⟩
        have := run_loadCells (P := P) w' a' 0 (fun _ => undef) (fun q hq => absurd hq (by omega))
        simpa [Builtin.firstCells] using this
      | slice b off cap _ n _ vs hI hn hcap hl hc hrc =>
        subst hn
        obtain ⟨cells, g1, g2⟩ := flat_load (P := P) (f := vs) hsz rfl hl (fun i r j c h1 h2 => ⟨hc i r j c h1 h2, hrc i r j c h1 h2⟩)
        exact ⟨es, cells, h, rfl, g1, g2⟩
    · exact h.elim
  · exact ⟨[], #[], h, (nil hr).1, (nil hr).2, flat0⟩
  · rename_i st
    split at h
    · rename_i hb
      have e := beq_iff.1 hb
      subst e
      have e := rep_str hr
      subst e
      have hl : (bytesRows st).length = st.size := by simp [bytesRows, ByteArray.size_data, ByteArray.toList_eq]
      refine ⟨bytesRows st, (st.extract 0 st.size).data.map fun b => .int .u8 b.toNat, h, by rw [hl]; rfl, fun w' _ => by rw [hl]; rfl, ⟨by simp [bytesRows, ByteArray.toList_eq], fun i r hr => ?_, fun i r j c h1 h2 => ?_⟩⟩
      · simp only [bytesRows, List.getElem?_map] at hr
        cases hb : st.toList[i]? with
        | none => simp [hb] at hr
        | some b => simp [hb] at hr; subst hr; rfl
      · simp only [bytesRows, List.getElem?_map] at h1
        cases hb : st.toList[i]? with
        | none => simp [hb] at h1
        | some b =>
          simp [hb] at h1
          subst h1
          cases j with
          | zero =>
            simp at h2
            subst h2
            refine ⟨.int .u8 b.toNat, ?_, RepC.int _ _⟩
            rw [ByteArray.toList_eq] at hb
            have hb' : st.data[i]? = some b := by simpa using hb
            simp [hb']
          | succ j => simp at h2
    · exact h.elim
  · rename_i k
    split at h
    · rename_i sz' rows hf
      split at h
      · rename_i hb
        have e := beq_iff.1 hb
        subst e
        obtain ⟨_, _, g1, g2⟩ := hr
        rw [hf] at g1; cases g1
        cases hbk : L.blk k with
        | none =>
          have ho := hi.heap.ob k _ hf
          simp only [RepO, hbk] at ho
          simp only [hbk] at g2
          subst ho
          exact ⟨[], #[], h, (nil g2).1, (nil g2).2, flat0⟩
        | some b =>
          simp only [hbk] at g2
          subst g2
          obtain ⟨f, hf'⟩ := row_at hi hf hbk
          obtain ⟨cells, q1, q2⟩ := flat_load (P := P) (b := b) (off := 0) (f := fun i j => f (i * sz + j)) hsz rfl (row_len hi hf hbk) (fun i r j c h1 h2 => by rw [Nat.zero_add]; exact hf' i r j c h1 h2)
          exact ⟨rows, cells, h, rfl, q1, q2⟩
      · exact h.elim
    · exact h.elim
  · rename_i k off len
    split at h
    · rename_i sz' rows hf
      split at h
      · rename_i hb
        have e := beq_iff.1 hb
        subst e
        obtain ⟨_, _, g1, g3, g2⟩ := hr
        rw [hf] at g1; cases g1
        cases hbk : L.blk k with
        | none =>
          have ho := hi.heap.ob k _ hf
          simp only [RepO, hbk] at ho
          simp only [hbk] at g2
          subst ho
          simp only [List.drop_nil, List.take_nil] at h
          exact ⟨[], #[], h, (nil g2).1, (nil g2).2, flat0⟩
        | some b =>
          simp only [hbk] at g2
          obtain ⟨q, q1, q2, rfl⟩ := g2
          obtain ⟨f, hf'⟩ := row_at hi hf hbk
          have hlen : ((rows.drop off).take len).length = len := by simp; omega
          have hget : ∀ (i : Nat) (r : List CV), ((rows.drop off).take len)[i]? = some r → i < len ∧ rows[off + i]? = some r := fun i r hr => by
            rw [List.getElem?_take] at hr
            split at hr
            · rename_i hlt; exact ⟨hlt, by simpa [List.getElem?_drop] using hr⟩
            · cases hr
          obtain ⟨cells, p1, p2⟩ := flat_load (P := P) (b := b) (off := q) (n := len) (f := fun i j => f ((off + i) * sz + j)) hsz hlen (fun i r hr => row_len hi hf hbk _ r (hget i r hr).2) (fun i r j c h1 h2 => by
            obtain ⟨x1, x2⟩ := hget i r h1
            rw [q2 (.inl (by omega))]
            have := hf' _ r j c x2 h2
            rw [Nat.add_mul, Nat.add_assoc] at this
            rw [Nat.add_mul, Nat.add_assoc]; exact this)
          exact ⟨_, cells, h, by rw [hlen]; rfl, fun w' hw' => by rw [hlen]; exact p1 w' hw', p2⟩
      · exact h.elim
    · exact h.elim
  · exact h.elim

theorem Inv.other {w' : World} {b : Nat} (hi : Inv C L I s a w) (hsz : w'.heap.size = w.heap.size) (hother : ∀ b', b' ≠ b → w'.heap[b']? = w.heap[b']?) (h1 : w'.os = w.os) (h2 : w'.tape = w.tape) (h3 : OutG w' w)
    (hO : C.O b) (hnI : ¬ I b) (hno : ∀ j o, find s.heap j = some o → ¬ Foot L j b) : Inv C L I s a w' := by
  have hw : ∀ b', I b' → w'.heap[b']? = w.heap[b']? := fun b' h => hother b' fun e => hnI (e ▸ h)
  have hf : ∀ v x, RepX L s.heap I w v x → RepX L s.heap I w' v x := fun v x h => h.mono (fun _ h => h) hw
  refine hi.change (f := fun y => y) hf (map_id_regs _).symm ?_ (fun b h => by rw [hsz]; exact hi.Ib b h) hi.Io ?_ (fun k o _ h => ⟨o, h, rfl, rfl⟩)
  · exact ⟨fun k o h => (hi.heap.ob k o h).ext' hf (fun _ h => h) hw .rfl (fun b' hb' => hother b' fun e => hno k o h (e ▸ hb')), fun k o b g1 g2 => by rw [hsz]; exact hi.heap.own k o b g1 g2, hi.heap.inj⟩
  · exact ⟨h1.trans hi.fr.os, h2.trans hi.fr.tape, h3.trans hi.fr.output, by rw [hsz]; exact hi.fr.size, fun b' g1 g2 => (hother b' fun e => g2 (e ▸ hO)).trans (hi.fr.block b' g1 g2)⟩

theorem frozen_new {w : World} {b : Nat} {cs : Array Value} {e : TypeId} (h : w.heap[b]? = some (.cells cs e (0, 0))) (o : Nat) : w.frozen? ⟨b, o, none⟩ = false := by
  simp [World.frozen?, h]

theorem newArr {K : St → Prop} {k sz cap : Nat} {rows : List (List CV)} {w1 : World} {cells : Array Value} {e : TypeId} (hK : newK k (.arr sz rows) s K) (hi : Inv C L I s a w)
    (hw1 : w1.heap = w.heap ∧ w1.os = w.os ∧ w1.tape = w.tape ∧ OutG w1 w) (hcap : rows.length ≤ cap) (hfit : cap * sz ≤ cells.size) (hl : ∀ (i : Nat) (r : List CV), rows[i]? = some r → r.length = sz)
    (hrep : ∀ (i : Nat) (r : List CV) (j : Nat) (c : CV), rows[i]? = some r → r[j]? = some c → ∃ u, cells[i * sz + j]? = some u ∧ RepC I w u c) :
    ∃ s' L', K s' ∧ Inv C L' I s' a (w1.alloc (.cells cells e)) ∧ RepX L' s'.heap I (w1.alloc (.cells cells e)) (.slice (some ⟨w.heap.size, 0, none⟩) rows.length cap) (.rs k) := by
  obtain ⟨e1, e2, e3, e4⟩ := hw1
  have hsz : (w1.alloc (.cells cells e)).heap.size = w.heap.size + 1 := by simp [e1]
  have hold : ∀ b, b < w.heap.size → (w1.alloc (.cells cells e)).heap[b]? = w.heap[b]? := fun b hb => by
    have := Below.heap_alloc w1 (.cells cells e) b (by rw [e1]; exact hb)
    rw [this, e1]
  have hnew : (w1.alloc (.cells cells e)).heap[w.heap.size]? = some (.cells cells e (0, 0)) := by
    have : w.heap.size = w1.heap.size := by rw [e1]
    rw [this]
    show (w1.heap.push _)[w1.heap.size]? = _
    simp
  obtain ⟨s', h1, h2, h3, _, _⟩ := newK_inv (w' := w1.alloc (.cells cells e)) hK hi hold (by omega) e2 e3 e4 (some w.heap.size) cap (fun b hb => by
    cases hb
    exact ⟨C.hO _ hi.fr.size, fun h => by have := hi.Ib _ h; omega, by omega, fun j o' _ hj hbj => by have := (hi.heap.own j o' _ hj hbj).2.2; omega⟩) (fun H' _ _ => by
    simp only [RepO, Lay.upd, Lay.updD, if_true]
    refine ⟨hcap, hl, cells, e, (0, 0), hnew, hfit, fun o _ => frozen_new hnew o, fun i r j c g1 g2 => ?_⟩
    obtain ⟨u, q1, q2⟩ := hrep i r j c g1 g2
    exact ⟨u, q1, q2.mono (fun _ h => h) (fun b hb => hold b (hi.Ib b hb))⟩)
  exact ⟨s', _, h1, h2, sz, rows, h3, by simp [Lay.upd, Lay.updD]⟩

theorem newNil {K : St → Prop} {k sz : Nat} (hK : newK k (.arr sz []) s K) (hi : Inv C L I s a w) : ∃ s' L', K s' ∧ Inv C L' I s' a w ∧ RepX L' s'.heap I w (.slice none 0 0) (.rs k) := by
  obtain ⟨s', h1, h2, h3, _, _⟩ := newK_inv (w' := w) hK hi (fun _ _ => rfl) (Nat.le_refl _) rfl rfl .rfl none 0 (fun b hb => by cases hb) (fun H' _ _ => by simp [RepO, Lay.upd, Lay.updD])
  exact ⟨s', _, h1, h2, sz, [], h3, by simp [Lay.upd, Lay.updD]⟩

theorem newBld {K : St → Prop} {k : Nat} (hK : newK k (.box [.c (.str ⟨([] : List UInt8).toArray⟩)]) s K) (hi : Inv C L I s a w) (hB : bK k = true) :
    ∃ s' L', K s' ∧ Inv C L' I s' a (w.alloc (.cells #[.pointer none, .slice none 0 0] TB)) ∧ RepX L' s'.heap I (w.alloc (.cells #[.pointer none, .slice none 0 0] TB)) (.pointer (some ⟨w.heap.size, 0, none⟩)) (.pb k 0 1) := by
  have hsz : (w.alloc (.cells #[.pointer none, .slice none 0 0] TB)).heap.size = w.heap.size + 1 := by simp
  have hold : ∀ b, b < w.heap.size → (w.alloc (.cells #[.pointer none, .slice none 0 0] TB)).heap[b]? = w.heap[b]? := fun b hb => Below.heap_alloc w _ b hb
  have hnew : (w.alloc (.cells #[.pointer none, .slice none 0 0] TB)).heap[w.heap.size]? = some (.cells #[.pointer none, .slice none 0 0] TB (0, 0)) := by
    show (w.heap.push _)[w.heap.size]? = _
    simp
  obtain ⟨s', h1, h2, h3, _, _⟩ := newK_inv (w' := w.alloc (.cells #[.pointer none, .slice none 0 0] TB)) hK hi hold (by omega) rfl rfl ⟨rfl, fun _ => Nat.le_refl _⟩ (some w.heap.size) 0 (fun b hb => by
    cases hb
    exact ⟨C.hO _ hi.fr.size, fun h => by have := hi.Ib _ h; omega, by omega, fun j o' _ hj hbj => by have := (hi.heap.own j o' _ hj hbj).2.2; omega⟩) (fun H' _ hkeep => by
    simp only [RepO, hB]
    exact ⟨w.heap.size, [], rfl, by simp [Lay.upd, Lay.updD], .pointer none, .slice none 0 0, hnew, .inl rfl, ⟨rfl, .inl ⟨rfl, rfl⟩⟩, fun g h => by cases h⟩)
  exact ⟨s', _, h1, h2, _, w.heap.size, h3, by simp [Lay.upd, Lay.updD], by decide, rfl⟩
theorem newBox {K : St → Prop} {k : Nat} {xs : List XV} {cells : Array Value} {e : TypeId} (hK : newK k (.box xs) s K) (hi : Inv C L I s a w) (hr : RepXs L s.heap I w cells xs) (hlive : allLive xs = true) (hnk : noKey k xs = true) (hB : bK k = false) :
    ∃ s' L', K s' ∧ Inv C L' I s' a (w.alloc (.cells cells e)) ∧ RepX L' s'.heap I (w.alloc (.cells cells e)) (.pointer (some ⟨w.heap.size, 0, none⟩)) (.pb k 0 xs.length) := by
  have hsz : (w.alloc (.cells cells e)).heap.size = w.heap.size + 1 := by simp
  have hold : ∀ b, b < w.heap.size → (w.alloc (.cells cells e)).heap[b]? = w.heap[b]? := fun b hb => Below.heap_alloc w _ b hb
  have hnew : (w.alloc (.cells cells e)).heap[w.heap.size]? = some (.cells cells e (0, 0)) := by
    show (w.heap.push _)[w.heap.size]? = _
    simp
  obtain ⟨s', h1, h2, h3, _, _⟩ := newK_inv (w' := w.alloc (.cells cells e)) hK hi hold (by omega) rfl rfl ⟨rfl, fun _ => Nat.le_refl _⟩ (some w.heap.size) 0 (fun b hb => by
    cases hb
    exact ⟨C.hO _ hi.fr.size, fun h => by have := hi.Ib _ h; omega, by omega, fun j o' _ hj hbj => by have := (hi.heap.own j o' _ hj hbj).2.2; omega⟩) (fun H' _ hkeep => by
    simp only [RepO, hB]
    refine ⟨w.heap.size, cells, e, (0, 0), by simp [Lay.upd, Lay.updD], hnew, fun o _ => frozen_new hnew o, fun i v hv => ?_, hr.1, fun i x v hx hv => ?_⟩
    · have hlt : i < xs.length := by rw [← hr.1]; exact (Array.getElem?_eq_some_iff.1 hv).1
      exact RepX.oneCell (allLive_iff.1 hlive _ (List.getElem_mem hlt)) (hr.2 i _ v (List.getElem?_eq_getElem hlt) hv)
    · exact hkeep v x (hr.2 i x v hx hv) (noKey_iff.1 hnk x (List.mem_of_getElem? hx)))
  exact ⟨s', _, h1, h2, xs, w.heap.size, h3, by simp [Lay.upd, Lay.updD], by omega, rfl⟩

end

end Go.Proofs.YtnafogjagbhdbaaDoor.Pi
/- Every operation of a region whose order is fixed: sound. No statement of the seat is proved here. -/
namespace Go.Proofs.YtnafogjagbhdbaaDoor.Pi
open Go Go.RowKit
set_option linter.unusedVariables false
set_option linter.unusedSimpArgs false

section
variable {P : Program} {C : Ctx} {L : Lay} {I : Nat → Prop} {s : St} {a : Act} {w : World}

theorem nextcap_le {need c : Nat} (h : c < need) : Builtin.nextslicecap need c ≤ 2 * need + 256 := by
  have grow : ∀ (n c : Nat), Builtin.growBy need n c ≤ max c (2 * need + 256) := by
    intro n
    induction n with
    | zero => intro c; simp [Builtin.growBy]; omega
    | succ n ih =>
      intro c
      simp only [Builtin.growBy]
      split
      · omega
      · have := ih (c + (c + 768) / 4); omega
  unfold Builtin.nextslicecap
  split
  · omega
  · split
    · omega
    · have := grow 4 c; omega

theorem choose_cap (need sCap : Nat) (e : TypeId) (h : need < 2 ^ 63) : ∃ c, need ≤ c ∧ (choose (.appendCap need sCap e)).run P w = .ok c { w with drawn := w.drawn + 1 } := by
  refine ⟨(Question.appendCap need sCap e).cut (w.tape w.drawn (Question.appendCap need sCap e)), ?_, ?_⟩
  · simp only [Question.cut]; omega
  · rw [run_choose]; simp [Question.forced]

theorem zeroCells_size (z : Array Value) (n : Nat) : (Builtin.zeroCells z n).size = n * z.size := by simp [Builtin.zeroCells]

theorem run_append_new {t t2 ty : TypeId} {e : TypeId} {ie : TypeInfo} {zv : Value} {u : Value} {base : Option Addr} {n m sCap sz : Nat} {old new : Array Value} (hu : P.underlying t = some (.slice e)) (hie : P.info? e = some ie) (hs : ie.size = sz) (hb0 : 0 < ie.bytes) (hb1 : ie.bytes ≤ 1048576) (hz : ie.zero = some zv)
    (hu2 : ∃ d, P.underlying t2 = some d ∧ ∀ k, d ≠ .int k) (hlen : (Builtin.lenOf u).run P w = .ok m w) (hnew : ∀ w', w'.heap = w.heap → (Builtin.firstCells sz m u).run P w' = .ok new w') (hold : ∀ w', w'.heap = w.heap → (Builtin.firstCells sz n (.slice base n sCap)).run P w' = .ok old w')
    (hbig : (n + m) * ie.bytes ≤ 2 ^ 46) (hroom : ¬ n + m ≤ sCap) :
    ∃ (cap : Nat) (w1 : World), n + m ≤ cap ∧ (w1.heap = w.heap ∧ w1.os = w.os ∧ w1.tape = w.tape ∧ OutG w1 w) ∧
      (Builtin.append_ #[t, t2] ty #[.slice base n sCap, u]).run P w = .ok (.slice (some ⟨w.heap.size, 0, none⟩) (n + m) cap) (w1.alloc (.cells (old ++ new ++ Builtin.zeroCells zv.cells (cap - (n + m))) e)) := by
  obtain ⟨d, hd, hnd⟩ := hu2
  have hnle : n + m ≤ 2 ^ 46 := Nat.le_trans (Nat.le_mul_of_pos_right _ hb0) hbig
  obtain ⟨cap, h1, h2⟩ := choose_cap (P := P) (w := w) (n + m) sCap e (by omega)
  refine ⟨cap, { w with drawn := w.drawn + 1 }, h1, ⟨rfl, rfl, rfl, ⟨rfl, fun _ => Nat.le_succ _⟩⟩, ?_⟩
  have hnz : (match d with | .int _ => true | _ => false) = false := by cases d <;> first | rfl | exact absurd rfl (hnd _)
  have hbound : ¬ Builtin.nextslicecap (n + m) sCap * ie.bytes > 2 ^ 48 := by
    have := nextcap_le (need := n + m) (c := sCap) (by omega)
    have h3 : Builtin.nextslicecap (n + m) sCap * ie.bytes ≤ (2 * (n + m) + 256) * ie.bytes := Nat.mul_le_mul_right _ this
    rw [Nat.add_mul, Nat.mul_assoc] at h3
    have h4 : 256 * ie.bytes ≤ 256 * 1048576 := Nat.mul_le_mul_left _ hb1
    omega
  have hpan : ¬ (((n + m : Nat) : Int) > IntKind.i64.max ∧ ((false = true) ∨ ie.bytes = 0)) := by
    intro ⟨_, h⟩; rcases h with h | h
    · cases h
    · omega
  have hn' := hnew { w with drawn := w.drawn + 1 } rfl
  have ho' := hold { w with drawn := w.drawn + 1 } rfl
  unfold Builtin.append_
  simp only [List.getElem?_toArray, List.getElem?_cons_zero, List.getElem?_cons_succ, Sem.run_bind, run_underlying hu, Result.andThen_ok, run_size hie, hs, run_underlying hd, Sem.run_pure]
  simp only [Bool.false_eq_true, if_false, Sem.run_bind, hlen, Result.andThen_ok, Sem.run_ite, Bool.not_false, if_true]
  rw [if_neg hroom]
  have hpan2 : ¬ (((n + m : Nat) : Int) > IntKind.i64.max ∧ (False ∨ ie.bytes = 0)) := by
    intro ⟨_, h⟩; rcases h with h | h
    · exact h
    · omega
  simp only [Sem.run_bind, run_info hie, Result.andThen_ok, Sem.run_ite, if_neg hpan2, if_neg hbound, h2, run_askRoom, ho', hn', zeroValue, hz, Sem.run_pure, newRow, run_newObj]
  rfl

theorem run_append_room' {t t2 ty e : TypeId} {ie : TypeInfo} {u : Value} {b n m sCap sz : Nat} {new : Array Value} (hu : P.underlying t = some (.slice e)) (hie : P.info? e = some ie) (hs : ie.size = sz)
    (hu2 : ∃ d, P.underlying t2 = some d ∧ ∀ k, d ≠ .int k) (hlen : (Builtin.lenOf u).run P w = .ok m w) (hnew : (Builtin.firstCells sz m u).run P w = .ok new w) (hroom : n + m ≤ sCap)
    {w' : World} (hst : (storeCells ⟨b, n * sz, none⟩ new.toList 0).run P w = .ok () w') :
    (Builtin.append_ #[t, t2] ty #[.slice (some ⟨b, 0, none⟩) n sCap, u]).run P w = .ok (.slice (some ⟨b, 0, none⟩) (n + m) sCap) w' := by
  obtain ⟨d, hd, hnd⟩ := hu2
  have hadd : Addr.add ⟨b, 0, none⟩ (n * sz) = ⟨b, n * sz, none⟩ := by rw [add_plain]; simp
  unfold Builtin.append_
  simp only [List.getElem?_toArray, List.getElem?_cons_zero, List.getElem?_cons_succ, Sem.run_bind, run_underlying hu, Result.andThen_ok, run_size hie, hs, run_underlying hd, Sem.run_pure]
  simp only [Bool.false_eq_true, if_false, Sem.run_bind, hlen, Result.andThen_ok, Sem.run_ite, Bool.not_false, if_true]
  rw [if_pos hroom]
  simp only [Sem.run_bind, hnew, Result.andThen_ok, hadd, hst, Sem.run_pure]

theorem run_append_none {t t2 ty e : TypeId} {ie : TypeInfo} {u : Value} {sz : Nat} {new : Array Value} (hu : P.underlying t = some (.slice e)) (hie : P.info? e = some ie) (hs : ie.size = sz)
    (hu2 : ∃ d, P.underlying t2 = some d ∧ ∀ k, d ≠ .int k) (hlen : (Builtin.lenOf u).run P w = .ok 0 w) (hnew : (Builtin.firstCells sz 0 u).run P w = .ok new w) :
    (Builtin.append_ #[t, t2] ty #[.slice none 0 0, u]).run P w = .ok (.slice none 0 0) w := by
  obtain ⟨d, hd, hnd⟩ := hu2
  unfold Builtin.append_
  simp only [List.getElem?_toArray, List.getElem?_cons_zero, List.getElem?_cons_succ, Sem.run_bind, run_underlying hu, Result.andThen_ok, run_size hie, hs, run_underlying hd, Sem.run_pure]
  simp only [Bool.false_eq_true, if_false, Sem.run_bind, hlen, Result.andThen_ok, Sem.run_ite, Bool.not_false, if_true]
  rw [if_pos (by omega)]
  simp only [Sem.run_bind, hnew, Result.andThen_ok, Sem.run_pure]

theorem rows_append {I : Nat → Prop} {w : World} {sz : Nat} (hsz : 0 < sz) {rows es : List (List CV)} {old new rest : Array Value} (h1 : Flat I w sz rows old) (h2 : Flat I w sz es new) :
    (∀ (i : Nat) (r : List CV), (rows ++ es)[i]? = some r → r.length = sz) ∧ ∀ (i : Nat) (r : List CV) (j : Nat) (c : CV), (rows ++ es)[i]? = some r → r[j]? = some c → ∃ u, (old ++ new ++ rest)[i * sz + j]? = some u ∧ RepC I w u c := by
  have hlen : ∀ (i : Nat) (r : List CV), (rows ++ es)[i]? = some r → r.length = sz := fun i r hr => by
    by_cases hi : i < rows.length
    · rw [List.getElem?_append_left hi] at hr; exact h1.len i r hr
    · rw [List.getElem?_append_right (by omega)] at hr; exact h2.len _ r hr
  refine ⟨hlen, fun i r j c hr hc => ?_⟩
  have hj : j < sz := by rw [← hlen i r hr]; exact (List.getElem?_eq_some_iff.1 hc).1
  by_cases hi : i < rows.length
  · rw [List.getElem?_append_left hi] at hr
    obtain ⟨u, q1, q2⟩ := h1.rep i r j c hr hc
    have hlt : i * sz + j < old.size := (Array.getElem?_eq_some_iff.1 q1).1
    refine ⟨u, ?_, q2⟩
    rw [Array.append_assoc, Array.getElem?_append_left hlt]; exact q1
  · rw [List.getElem?_append_right (by omega)] at hr
    obtain ⟨u, q1, q2⟩ := h2.rep _ r j c hr hc
    have hlt : (i - rows.length) * sz + j < new.size := (Array.getElem?_eq_some_iff.1 q1).1
    have e : i * sz + j = old.size + ((i - rows.length) * sz + j) := by
      rw [h1.size]
      have : i * sz = rows.length * sz + (i - rows.length) * sz := by rw [← Nat.add_mul]; congr 1; omega
      omega
    refine ⟨u, ?_, q2⟩
    rw [e, Array.append_assoc, Array.getElem?_append_right (by omega), Nat.add_sub_cancel_left, Array.getElem?_append_left hlt]
    exact q1

/-! ### deep rows -/
structure FlatD (w : World) (J : Nat → Prop) (sz : Nat) (es : List (List CV)) (cells : Array Value) : Prop where
  size : cells.size = es.length * sz
  len : ∀ (i : Nat) (r : List CV), es[i]? = some r → r.length = sz
  rep : ∃ Js : Nat → Nat → Prop, (∀ (i : Nat) (r : List CV) (j : Nat) (c : CV), es[i]? = some r → r[j]? = some c → ∃ u, cells[i * sz + j]? = some u ∧ RepD w (Js (i * sz + j)) u c) ∧ (∀ x b, Js x b → J b) ∧ (∀ x y b, Js x b → Js y b → x = y)

theorem FlatD.one {J : Nat → Prop} {sz : Nat} {es : List (List CV)} {cells : Array Value} (h : FlatD w J sz es cells) (hsz : 0 < sz) : ∀ v ∈ cells.toList, oneCell v := by
  intro v hv
  obtain ⟨Js, hrep, _, _⟩ := h.rep
  obtain ⟨q, hq, rfl⟩ := List.mem_iff_getElem.1 hv
  have hq' : q < es.length * sz := by rw [← h.size]; simpa using hq
  have hi : q / sz < es.length := by rw [Nat.div_lt_iff_lt_mul hsz]; exact hq'
  have hj : q % sz < sz := Nat.mod_lt _ hsz
  have hr := h.len _ es[q / sz] (List.getElem?_eq_getElem hi)
  obtain ⟨u, h1, h2⟩ := hrep (q / sz) es[q / sz] (q % sz) (es[q / sz][q % sz]'(by omega)) (List.getElem?_eq_getElem hi) (List.getElem?_eq_getElem _)
  have e : q / sz * sz + q % sz = q := by rw [Nat.mul_comm]; exact Nat.div_add_mod q sz
  rw [e] at h1
  have : cells.toList[q] = u := by
    have hq2 : q < cells.size := by simpa using hq
    rw [Array.getElem?_eq_getElem hq2] at h1
    simpa using h1
  rw [this]; exact h2.oneCell

theorem Flat.toD {J : Nat → Prop} {sz : Nat} {es : List (List CV)} {cells : Array Value} (h : Flat I w sz es cells) (hf : flatRows es) : FlatD w J sz es cells :=
  ⟨h.size, h.len, fun _ _ => False, fun i r j c h1 h2 => by
    obtain ⟨u, g1, g2⟩ := h.rep i r j c h1 h2
    exact ⟨u, g1, RepD.of_flat (hf r (List.mem_of_getElem? h1) c (List.mem_of_getElem? h2)) g2⟩, fun _ _ h => h.elim, fun _ _ _ h => h.elim⟩

theorem load_raw {b off sz n : Nat} {es : List (List CV)} {f : Nat → Nat → Value} (hsz : 0 < sz) (hn : es.length = n) (hl : ∀ (i : Nat) (r : List CV), es[i]? = some r → r.length = sz)
    (hc : ∀ (i : Nat) (r : List CV) (j : Nat) (c : CV), es[i]? = some r → r[j]? = some c → w.cell? ⟨b, off + (i * sz + j), none⟩ = some (f i j)) :
    ∃ cells, (∀ w' : World, w'.heap = w.heap → (loadCells ⟨b, off, none⟩ (n * sz)).run P w' = .ok cells w') ∧ cells.size = es.length * sz ∧ ∀ (i : Nat) (r : List CV) (j : Nat) (c : CV), es[i]? = some r → r[j]? = some c → cells[i * sz + j]? = some (f i j) := by
  have hget : ∀ q, q < n * sz → w.cell? (Addr.add ⟨b, off, none⟩ q) = some (f (q / sz) (q % sz)) := fun q hq => by
    have hi : q / sz < es.length := by rw [hn, Nat.div_lt_iff_lt_mul hsz]; exact hq
    have hj : q % sz < sz := Nat.mod_lt _ hsz
    have hr := hl _ es[q / sz] (List.getElem?_eq_getElem hi)
    have := (hc (q / sz) es[q / sz] (q % sz) (es[q / sz][q % sz]'(by omega)) (List.getElem?_eq_getElem hi) (List.getElem?_eq_getElem _))
    have e : q / sz * sz + q % sz = q := by rw [Nat.mul_comm]; exact Nat.div_add_mod q sz
    rw [e] at this
    rw [add_plain]; exact this
  refine ⟨_, fun w' hw' => run_loadCells (P := P) w' ⟨b, off, none⟩ (n * sz) (fun q => f (q / sz) (q % sz)) (fun q hq => by rw [cell_of_block (w := w) (by rw [hw'])]; exact hget q hq), by simp [hn], fun i r j c h1 h2 => ?_⟩
  have hi : i < n := by rw [← hn]; exact (List.getElem?_eq_some_iff.1 h1).1
  have hj : j < sz := by rw [← hl i r h1]; exact (List.getElem?_eq_some_iff.1 h2).1
  have hq : i * sz + j < n * sz := by
    have : (i + 1) * sz ≤ n * sz := Nat.mul_le_mul_right _ hi
    rw [Nat.add_mul] at this; omega
  have e1 : (i * sz + j) / sz = i := by rw [Nat.mul_comm, Nat.mul_add_div hsz, Nat.div_eq_of_lt hj]; rfl
  have e2 : (i * sz + j) % sz = j := by rw [Nat.mul_comm, Nat.mul_add_mod, Nat.mod_eq_of_lt hj]
  simp [hq, e1, e2]

theorem deep_load {J : Nat → Prop} {hd : Nat → Value} {b cap sz : Nat} {rows : List (List CV)} (hsz : 0 < sz) (h : DRows w J hd b cap sz rows) :
    ∃ cells, (∀ w' : World, w'.heap = w.heap → (loadCells ⟨b, 0, none⟩ (rows.length * sz)).run P w' = .ok cells w') ∧ FlatD w J sz rows cells := by
  obtain ⟨_, hl, vs, e, fr, Js, h3, _, _, h6, h7, h8⟩ := h
  obtain ⟨cells, g1, g2, g3⟩ := load_raw (P := P) (w := w) (b := b) (off := 0) (es := rows) (f := fun i j => vs.getD (i * sz + j) undef) hsz rfl hl (fun i r j c h1 h2 => by
    obtain ⟨v, q1, _⟩ := h6 i r j c h1 h2
    rw [Nat.zero_add, cell_row h3, q1]
    simp [q1])
  refine ⟨cells, g1, g2, hl, Js, fun i r j c h1 h2 => ?_, h7, h8⟩
  obtain ⟨v, q1, q2, _⟩ := h6 i r j c h1 h2
  refine ⟨_, g3 i r j c h1 h2, ?_⟩
  have e : vs.getD (i * sz + j) undef = v := by simp [q1]
  rw [e]; exact q2

theorem joinD {w : World} {J1 J2 : Nat → Prop} {Js1 Js2 : Nat → Nat → Prop} {sz : Nat} {rows es : List (List CV)} {cells : Array Value} (hl1 : ∀ (i : Nat) (r : List CV), rows[i]? = some r → r.length = sz) (hl2 : ∀ (i : Nat) (r : List CV), es[i]? = some r → r.length = sz)
    (h1 : ∀ (i : Nat) (r : List CV) (j : Nat) (c : CV), rows[i]? = some r → r[j]? = some c → ∃ u, cells[i * sz + j]? = some u ∧ RepD w (Js1 (i * sz + j)) u c)
    (h2 : ∀ (i : Nat) (r : List CV) (j : Nat) (c : CV), es[i]? = some r → r[j]? = some c → ∃ u, cells[rows.length * sz + (i * sz + j)]? = some u ∧ RepD w (Js2 (i * sz + j)) u c)
    (hs1 : ∀ x b, Js1 x b → J1 b) (hs2 : ∀ x b, Js2 x b → J2 b) (hd : ∀ b, J1 b → ¬ J2 b) (hd1 : ∀ x y b, Js1 x b → Js1 y b → x = y) (hd2 : ∀ x y b, Js2 x b → Js2 y b → x = y) :
    (∀ (i : Nat) (r : List CV), (rows ++ es)[i]? = some r → r.length = sz) ∧ ∃ Js : Nat → Nat → Prop, (∀ (i : Nat) (r : List CV) (j : Nat) (c : CV), (rows ++ es)[i]? = some r → r[j]? = some c → ∃ u, cells[i * sz + j]? = some u ∧ RepD w (Js (i * sz + j)) u c) ∧ (∀ x b, Js x b → J1 b ∨ J2 b) ∧ (∀ x y b, Js x b → Js y b → x = y) := by
  have hlen : ∀ (i : Nat) (r : List CV), (rows ++ es)[i]? = some r → r.length = sz := fun i r hr => by
    by_cases hi : i < rows.length
    · rw [List.getElem?_append_left hi] at hr; exact hl1 i r hr
    · rw [List.getElem?_append_right (by omega)] at hr; exact hl2 _ r hr
  refine ⟨hlen, fun q b => (q < rows.length * sz ∧ Js1 q b) ∨ (rows.length * sz ≤ q ∧ Js2 (q - rows.length * sz) b), fun i r j c hr hc => ?_, fun x b h => ?_, fun x y b hx hy => ?_⟩
  · have hj : j < sz := by rw [← hlen i r hr]; exact (List.getElem?_eq_some_iff.1 hc).1
    by_cases hi : i < rows.length
    · rw [List.getElem?_append_left hi] at hr
      obtain ⟨u, q1, q2⟩ := h1 i r j c hr hc
      have hlt : i * sz + j < rows.length * sz := by
        have : (i + 1) * sz ≤ rows.length * sz := Nat.mul_le_mul_right _ hi
        rw [Nat.add_mul] at this; omega
      exact ⟨u, q1, q2.mono (fun b hb => Or.inl ⟨hlt, hb⟩) fun _ _ => rfl⟩
    · rw [List.getElem?_append_right (by omega)] at hr
      obtain ⟨u, q1, q2⟩ := h2 _ r j c hr hc
      have e : i * sz + j = rows.length * sz + ((i - rows.length) * sz + j) := by
        have : i * sz = rows.length * sz + (i - rows.length) * sz := by rw [← Nat.add_mul]; congr 1; omega
        omega
      refine ⟨u, by rw [e]; exact q1, q2.mono (fun b hb => Or.inr ⟨by omega, ?_⟩) fun _ _ => rfl⟩
      rw [e, Nat.add_sub_cancel_left]; exact hb
  · rcases h with ⟨_, h⟩ | ⟨_, h⟩
    · exact Or.inl (hs1 _ b h)
    · exact Or.inr (hs2 _ b h)
  · rcases hx with ⟨p1, hx⟩ | ⟨p1, hx⟩ <;> rcases hy with ⟨p2, hy⟩ | ⟨p2, hy⟩
    · exact hd1 _ _ b hx hy
    · exact absurd (hs2 _ b hy) (hd b (hs1 _ b hx))
    · exact absurd (hs2 _ b hx) (hd b (hs1 _ b hy))
    · have := hd2 _ _ b hx hy; omega

theorem newDeep {K : St → Prop} {k sz cap : Nat} {ap : Bool} {J : Nat → Prop} {Js : Nat → Nat → Prop} {rows : List (List CV)} {w1 : World} {cells : Array Value} {e : TypeId} (hK : newK k (.deep ap sz rows) s K) (hi : Inv C L I s a w)
    (hw1 : w1.heap = w.heap ∧ w1.os = w.os ∧ w1.tape = w.tape ∧ OutG w1 w) (hcap : rows.length ≤ cap) (hfit : cap * sz ≤ cells.size) (hl : ∀ (i : Nat) (r : List CV), rows[i]? = some r → r.length = sz)
    (hrep : ∀ (i : Nat) (r : List CV) (j : Nat) (c : CV), rows[i]? = some r → r[j]? = some c → ∃ u, cells[i * sz + j]? = some u ∧ RepD w (Js (i * sz + j)) u c) (hJs : ∀ x b, Js x b → J b) (hdis : ∀ x y b, Js x b → Js y b → x = y)
    (hJ : ∀ b, J b → C.O b ∧ ¬ I b ∧ b < w.heap.size ∧ ∀ j o', j ≠ k → find s.heap j = some o' → ¬ Foot L j b) :
    ∃ s' L', K s' ∧ Inv C L' I s' a (w1.alloc (.cells cells e)) ∧ RepX L' s'.heap I (w1.alloc (.cells cells e)) (.slice (some ⟨w.heap.size, 0, none⟩) rows.length cap) (.ds k) := by
  obtain ⟨e1, e2, e3, e4⟩ := hw1
  have hsz : (w1.alloc (.cells cells e)).heap.size = w.heap.size + 1 := by simp [e1]
  have hold : ∀ b, b < w.heap.size → (w1.alloc (.cells cells e)).heap[b]? = w.heap[b]? := fun b hb => by
    have := Below.heap_alloc w1 (.cells cells e) b (by rw [e1]; exact hb)
    rw [this, e1]
  have hnew : (w1.alloc (.cells cells e)).heap[w.heap.size]? = some (.cells cells e (0, 0)) := by
    have : w.heap.size = w1.heap.size := by rw [e1]
    rw [this]
    show (w1.heap.push _)[w1.heap.size]? = _
    simp
  obtain ⟨s', h1, h2, h3, _, _⟩ := newK_invD (w' := w1.alloc (.cells cells e)) hK hi hold (by omega) e2 e3 e4 (some w.heap.size) cap J (fun q => cells.getD q undef) (fun b hb => by
    rcases hb with hb | hb
    · cases hb
      exact ⟨C.hO _ hi.fr.size, fun h => by have := hi.Ib _ h; omega, by omega, fun j o' _ hj hbj => by have := (hi.heap.own j o' _ hj hbj).2.2; omega⟩
    · obtain ⟨g1, g2, g3, g4⟩ := hJ b hb
      exact ⟨g1, g2, by omega, g4⟩) (fun H' _ _ => by
    simp only [RepO, Lay.updD, if_true]
    refine ⟨⟨hcap, hl, cells, e, (0, 0), Js, hnew, hfit, fun o _ => frozen_new hnew o, fun i r j c g1 g2 => ?_, hJs, hdis⟩, fun h => by have := (hJ _ h).2.2.1; omega⟩
    obtain ⟨u, q1, q2⟩ := hrep i r j c g1 g2
    exact ⟨u, q1, q2.mono (fun _ h => h) (fun b hb => hold b (hJ b (hJs _ b hb)).2.2.1), fun _ => by simp [q1]⟩)
  exact ⟨s', _, h1, h2, ap, sz, rows, h3, by simp [Lay.updD]⟩

theorem newNilD {K : St → Prop} {k sz : Nat} {ap : Bool} (hK : newK k (.deep ap sz []) s K) (hi : Inv C L I s a w) : ∃ s' L', K s' ∧ Inv C L' I s' a w ∧ RepX L' s'.heap I w (.slice none 0 0) (.ds k) := by
  obtain ⟨s', h1, h2, h3, _, _⟩ := newK_inv (w' := w) hK hi (fun _ _ => rfl) (Nat.le_refl _) rfl rfl .rfl none 0 (fun b hb => by cases hb) (fun H' _ _ => by simp [RepO, Lay.upd, Lay.updD])
  exact ⟨s', _, h1, h2, ap, sz, [], h3, by simp [Lay.upd, Lay.updD, emptyV]⟩

theorem appendDeep {o : Oper} {t t2 e : TypeId} {ie : TypeInfo} {zv x y : Value} {sz : Nat} (hu : P.underlying t = some (.slice e)) (hie : P.info? e = some ie) (hs : ie.size = sz) (hsz0 : 0 < sz) (hb0 : 0 < ie.bytes) (hb1 : ie.bytes ≤ 1048576) (hzv : ie.zero = some zv) (hzs : zv.cells.size = sz)
    (hu2 : ∃ d, P.underlying t2 = some d ∧ ∀ k, d ≠ .int k) (hexec : ∀ {v : Value} {w' : World}, (Builtin.append_ #[t, t2] o.type #[x, y]).run P w = .ok v w' → (execOp a.eval o).run P w = .ok (.value v) w')
    (hi : Inv C L I s a w) {k k2 : Nat} {rows es : List (List CV)} (hf : find s.heap k = some (.deep true sz rows)) (hx : RepX L s.heap I w x (.ds k)) {s1 : St} (hi1 : Inv C L I s1 a w) (hs1 : ∀ j o, find s1.heap j = some o → ∃ o', find s.heap j = some o') (hk1 : find s1.heap k = none)
    {new : Array Value} {J : Nat → Prop} (hlen : (Builtin.lenOf y).run P w = .ok es.length w) (hnew : ∀ w', w'.heap = w.heap → (Builtin.firstCells sz es.length y).run P w' = .ok new w') (hflat : FlatD w J sz es new)
    (hJ : ∀ b, J b → C.O b ∧ ¬ I b ∧ b < w.heap.size ∧ ¬ Foot L k b ∧ ∀ j o', find s1.heap j = some o' → ¬ Foot L j b) (hbig : (rows.length + es.length) * ie.bytes ≤ 2 ^ 46) {K : St → Prop} (hK : newK k2 (.deep true sz (rows ++ es)) s1 K) :
    ∃ s', K s' ∧ GoesM P C s' a w o (.one (.ds k2)) := by
  obtain ⟨_, _, _, g1, g2⟩ := hx
  rw [hf] at g1; cases g1
  have ho := hi.heap.ob k _ hf
  obtain ⟨Js2, hr2, hj2, hd2⟩ := hflat.rep
  cases hbk : L.blk k with
  | none =>
    simp only [RepO, hbk] at ho
    simp only [hbk] at g2
    subst ho
    have hv := g2.2 trivial
    simp only [List.nil_append, List.length_nil, Nat.zero_add] at hK hbig
    by_cases he : es = []
    · subst he
      obtain ⟨s', L', g1, g2, g3⟩ := newNilD hK hi1
      refine ⟨s', g1, goesM_run (hexec ?_) g2 g3⟩
      rw [hv]
      exact run_append_none hu hie hs hu2 hlen (hnew w rfl)
    · have hpos : 0 < es.length := List.length_pos_iff.2 he
      obtain ⟨cap, w1, g1, g2, g3⟩ := run_append_new (P := P) (w := w) (t2 := t2) (ty := o.type) (base := Option.none) (n := 0) (sCap := 0) (old := #[]) hu hie hs hb0 hb1 hzv hu2 hlen hnew (fun _ _ => rfl) (by simpa using hbig) (by omega)
      obtain ⟨s', L', e1, e2, e3⟩ := newDeep (w1 := w1) (cap := cap) (e := e) (Js := Js2) (J := J) (cells := #[] ++ new ++ Builtin.zeroCells zv.cells (cap - (0 + es.length))) hK hi1 g2 (by omega) (by
        simp only [Array.size_append, zeroCells_size, hflat.size, hzs, List.size_toArray, List.length_nil]
        rw [Nat.zero_add, ← Nat.add_mul]; exact Nat.mul_le_mul_right _ (by omega)) hflat.len (fun i r j c h1 h2 => by
          obtain ⟨u, q1, q2⟩ := hr2 i r j c h1 h2
          refine ⟨u, ?_, q2⟩
          have hlt : i * sz + j < new.size := (Array.getElem?_eq_some_iff.1 q1).1
          rw [Array.getElem?_append_left (by simpa using hlt)]
          simpa using q1) hj2 hd2 (fun b hb => ⟨(hJ b hb).1, (hJ b hb).2.1, (hJ b hb).2.2.1, fun j o' _ hj => (hJ b hb).2.2.2.2 j o' hj⟩)
      refine ⟨s', e1, goesM_run (v := .slice (some ⟨w.heap.size, 0, Option.none⟩) (0 + es.length) cap) (hexec ?_) e2 (by rw [Nat.zero_add]; exact e3)⟩
      rw [hv]
      simpa using g3
  | some b =>
    simp only [hbk] at g2
    simp only [RepO, hbk] at ho
    obtain ⟨hdr, hself⟩ := ho
    have hdr' := hdr
    obtain ⟨hcap, hrl, cur, ce, fr, Js1, hcur, hfit, hfz, hrep, hj1, hd1⟩ := hdr
    obtain ⟨hO, hnI, hlt⟩ := hi.heap.own k _ b hf (.inl hbk)
    have hnok : ∀ {b'}, Foot L k b' → ∀ j o', find s1.heap j = some o' → ¬ Foot L j b' := fun {b'} hb j o' hj hbj => by
      by_cases e : j = k
      · rw [e, hk1] at hj; cases hj
      · obtain ⟨o3, hj'⟩ := hs1 j o' hj
        exact e (hi.heap.inj j k o3 _ b' hj' hf hbj hb)
    have hnob := hnok (.inl hbk)
    by_cases hroom : rows.length + es.length ≤ L.cap k
    · obtain ⟨w', hst, hwr⟩ := run_storeCells (P := P) (o := rows.length * sz) new.toList 0 w cur ce fr hcur (by
        have h1 : (rows.length + es.length) * sz ≤ L.cap k * sz := Nat.mul_le_mul_right _ hroom
        rw [Nat.add_mul] at h1
        simp only [Array.length_toList, hflat.size]; omega) hfz (hflat.one hsz0)
      obtain ⟨cur', z1, z2, z3⟩ := hwr.row cur ce fr hcur
      have hi2 := hi1.other hwr.size hwr.other hwr.os hwr.tape hwr.output hO hnI hnob
      have hget : ∀ q, q < rows.length * sz → cur'[q]? = cur[q]? := fun q hq => by rw [z3, if_neg (by omega)]
      have hget2 : ∀ q, q < es.length * sz → cur'[rows.length * sz + q]? = new[q]? := fun q hq => by
        rw [z3]
        simp only [Nat.add_zero, Array.length_toList, hflat.size]
        rw [if_pos (by omega), Nat.add_sub_cancel_left, Array.getElem?_toList]
      obtain ⟨q1, Js, q2, q3, q4⟩ := joinD (w := w') (J1 := L.fp k) (J2 := J) (Js1 := Js1) (Js2 := Js2) (cells := cur') hrl hflat.len (fun i r j c h1 h2 => by
          obtain ⟨v, p1, p2, _⟩ := hrep i r j c h1 h2
          have hi' : i < rows.length := (List.getElem?_eq_some_iff.1 h1).1
          have hj : j < sz := by rw [← hrl i r h1]; exact (List.getElem?_eq_some_iff.1 h2).1
          have hlt2 : i * sz + j < rows.length * sz := by
            have : (i + 1) * sz ≤ rows.length * sz := Nat.mul_le_mul_right _ hi'
            rw [Nat.add_mul] at this; omega
          exact ⟨v, by rw [hget _ hlt2]; exact p1, p2.mono (fun _ h => h) fun b' hb' => hwr.other b' fun e => hself (e ▸ hj1 _ b' hb')⟩) (fun i r j c h1 h2 => by
          obtain ⟨u, p1, p2⟩ := hr2 i r j c h1 h2
          have hlt2 : i * sz + j < es.length * sz := by rw [← hflat.size]; exact (Array.getElem?_eq_some_iff.1 p1).1
          exact ⟨u, by rw [hget2 _ hlt2]; exact p1, p2.mono (fun _ h => h) fun b' hb' => hwr.other b' fun e => (hJ b' (hj2 _ b' hb')).2.2.2.1 (.inl (e ▸ hbk))⟩) hj1 hj2 (fun b' h1 h2 => (hJ b' h2).2.2.2.1 (.inr h1)) hd1 hd2
      obtain ⟨s', e1, e2, e3, _, _⟩ := newK_invD (w' := w') hK hi2 (fun _ _ => rfl) (Nat.le_refl _) rfl rfl .rfl (some b) (L.cap k) (fun b' => L.fp k b' ∨ J b') (fun q => cur'.getD q undef) (fun b' hb' => by
        have hown : ∀ {b'}, Foot L k b' → C.O b' ∧ ¬ I b' ∧ b' < w'.heap.size ∧ ∀ j o', j ≠ k2 → find s1.heap j = some o' → ¬ Foot L j b' := fun {b'} hb => by
          obtain ⟨x1, x2, x3⟩ := hi.heap.own k _ b' hf hb
          exact ⟨x1, x2, by rw [hwr.size]; exact x3, fun j o' _ hj => hnok hb j o' hj⟩
        rcases hb' with hb' | hb' | hb'
        · cases hb'; exact hown (.inl hbk)
        · exact hown (.inr hb')
        · obtain ⟨x1, x2, x3, x4, x5⟩ := hJ b' hb'
          exact ⟨x1, x2, by rw [hwr.size]; exact x3, fun j o' _ hj => x5 j o' hj⟩) (fun H' _ _ => by
        simp only [RepO, Lay.updD, if_true]
        refine ⟨⟨by simpa using hroom, q1, cur', ce, fr, Js, z1, by rw [z2]; exact hfit, fun o ho => ?_, fun i r j cc hr hcc => ?_, q3, q4⟩, fun h => h.elim hself fun h => (hJ b h).2.2.2.1 (.inl hbk)⟩
        · have : w'.frozen? ⟨b, o, Option.none⟩ = w.frozen? ⟨b, o, Option.none⟩ := by simp [World.frozen?, z1, hcur]
          rw [this]; exact hfz o (by rw [← z2]; exact ho)
        · obtain ⟨u, p1, p2⟩ := q2 i r j cc hr hcc
          exact ⟨u, p1, p2, fun _ => by simp [p1]⟩)
      refine ⟨s', e1, goesM_run (v := .slice (some ⟨b, 0, Option.none⟩) (rows.length + es.length) (L.cap k)) (hexec ?_) e2 ⟨true, sz, rows ++ es, e3, ?_⟩⟩
      · rw [g2]
        exact run_append_room' hu hie hs hu2 hlen (hnew w rfl) hroom hst
      · simp [Lay.updD]
    · obtain ⟨old, p1, p2⟩ := deep_load (P := P) hsz0 hdr'
      obtain ⟨Jo, ho1, ho2, ho3⟩ := p2.rep
      obtain ⟨cap, w1, r1, r2, r3⟩ := run_append_new (P := P) (w := w) (t2 := t2) (ty := o.type) (base := some ⟨b, 0, Option.none⟩) (n := rows.length) (sCap := L.cap k) (old := old) hu hie hs hb0 hb1 hzv hu2 hlen hnew (fun w' hw' => p1 w' hw') hbig hroom
      obtain ⟨q1, Js, q2, q3, q4⟩ := joinD (w := w) (J1 := L.fp k) (J2 := J) (Js1 := Jo) (Js2 := Js2) (cells := old ++ new ++ Builtin.zeroCells zv.cells (cap - (rows.length + es.length))) hrl hflat.len (fun i r j c h1 h2 => by
          obtain ⟨v, x1, x2⟩ := ho1 i r j c h1 h2
          have hlt2 : i * sz + j < old.size := (Array.getElem?_eq_some_iff.1 x1).1
          exact ⟨v, by rw [Array.append_assoc, Array.getElem?_append_left hlt2]; exact x1, x2⟩) (fun i r j c h1 h2 => by
          obtain ⟨u, x1, x2⟩ := hr2 i r j c h1 h2
          have hlt2 : i * sz + j < new.size := (Array.getElem?_eq_some_iff.1 x1).1
          refine ⟨u, ?_, x2⟩
          rw [← p2.size, Array.append_assoc, Array.getElem?_append_right (by omega), Nat.add_sub_cancel_left, Array.getElem?_append_left hlt2]
          exact x1) ho2 hj2 (fun b' h1 h2 => (hJ b' h2).2.2.2.1 (.inr h1)) ho3 hd2
      obtain ⟨s', L', e1, e2, e3⟩ := newDeep (w1 := w1) (cap := cap) (e := e) (Js := Js) (J := fun b' => L.fp k b' ∨ J b') (cells := old ++ new ++ Builtin.zeroCells zv.cells (cap - (rows.length + es.length))) hK hi1 r2 (by simpa using r1) (by
        simp only [Array.size_append, zeroCells_size, hflat.size, hzs, p2.size]
        rw [← Nat.add_mul, ← Nat.add_mul]; exact Nat.mul_le_mul_right _ (by omega)) q1 q2 q3 q4 (fun b' hb' => by
        rcases hb' with hb' | hb'
        · obtain ⟨x1, x2, x3⟩ := hi.heap.own k _ b' hf (.inr hb')
          exact ⟨x1, x2, x3, fun j o' _ hj => hnok (.inr hb') j o' hj⟩
        · obtain ⟨x1, x2, x3, x4, x5⟩ := hJ b' hb'
          exact ⟨x1, x2, x3, fun j o' _ hj => x5 j o' hj⟩)
      refine ⟨s', e1, goesM_run (v := .slice (some ⟨w.heap.size, 0, Option.none⟩) (rows.length + es.length) cap) (hexec ?_) e2 (by rw [← List.length_append]; exact e3)⟩
      rw [g2]
      simpa using r3

theorem appendM_goes {o : Oper} {c : Call} {x y : Operand} {t t2 : TypeId} {ti ti2 : TI} (ht : tiOk P t ti = true) (ht2 : tiOk P t2 ti2 = true) (hi : Inv C L I s a w) (ho : o.op = .call c) (hc : c.callee = .builtin .append) (hargs : c.args.toList = [x, y]) (hts : c.argTypes.toList = [t, t2]) {k2 : Nat} {px py : PV} {K : PV → St → Prop}
    (hx : RepP L s.heap I w (a.eval x) px) (hy : RepP L s.heap I w (a.eval y) py) (h : appendM ti ti2 k2 s px py K) : ∃ pv s', K pv s' ∧ GoesM P C s' a w o pv := by
  have hca : c.args = #[x, y] := by apply Array.ext'; simpa using hargs
  have hct : c.argTypes = #[t, t2] := by apply Array.ext'; simpa using hts
  have hexec : ∀ {v : Value} {w' : World}, (Builtin.append_ #[t, t2] o.type #[a.eval x, a.eval y]).run P w = .ok v w' → (execOp a.eval o).run P w = .ok (.value v) w' := fun {v w'} hr => by
    simp [execOp, ho, resolve, hc, hca, hct, invoke, builtin, hr]
  unfold appendM at h
  split at h
  · rename_i sz bytes hsl hok
    have hkn := known_any ht (.inl (by rw [hsl]; simp))
    obtain ⟨hu, hsz0, ie, hie, hs, hby, ⟨hb0, hb1⟩, zv, hzv, hzs, _⟩ := hkn.slice _ _ hsl
    subst hby
    have hu2 : ∃ d, P.underlying t2 = some d ∧ ∀ k, d ≠ .int k := by
      simp only [Bool.or_eq_true] at hok
      rcases hok with hok | hok
      · obtain ⟨⟨s2, b2⟩, h2⟩ := Option.isSome_iff_exists.1 hok
        exact ⟨_, ((known_any ht2 (.inl (by rw [h2]; simp))).slice _ _ h2).1, fun k h => by cases h⟩
      · exact ⟨_, (known_any ht2 (.inr (.inr (.inr (.inr (.inl hok)))))).str hok, fun k h => by cases h⟩
    replace h := rowsOf_sound (P := P) hi hsz0 h hy
    obtain ⟨es, new, h, hlen, hnew, hflat⟩ := h
    have none : ∀ {s1 : St} {K1 : St → Prop}, a.eval x = .slice none 0 0 → Inv C L I s1 a w → es.length * ie.bytes ≤ 2 ^ 46 → newK k2 (.arr sz es) s1 K1 → ∃ s', K1 s' ∧ GoesM P C s' a w o (.one (.rs k2)) := fun {s1 K1} hv hi1 hbig hK => by
      by_cases he : es = []
      · subst he
        obtain ⟨s', L', g1, g2, g3⟩ := newNil hK hi1
        refine ⟨s', g1, goesM_run (hexec ?_) g2 g3⟩
        rw [hv]
        exact run_append_none hu hie hs hu2 hlen (hnew w rfl)
      · have hpos : 0 < es.length := List.length_pos_iff.2 he
        obtain ⟨cap, w1, g1, g2, g3⟩ := run_append_new (P := P) (w := w) (t2 := t2) (ty := o.type) (base := Option.none) (n := 0) (sCap := 0) (old := #[]) hu hie hs hb0 hb1 hzv hu2 hlen hnew (fun _ _ => rfl) (by simpa using hbig) (by omega)
        obtain ⟨q1, q2⟩ := rows_append (rest := Builtin.zeroCells zv.cells (cap - (0 + es.length))) hsz0 (rows := []) (old := #[]) ⟨by simp, fun i r h => by simp at h, fun i r j c h => by simp at h⟩ hflat
        simp only [List.nil_append] at q1 q2
        obtain ⟨s', L', e1, e2, e3⟩ := newArr (w1 := w1) (cap := cap) (e := ti.elem) (cells := #[] ++ new ++ Builtin.zeroCells zv.cells (cap - (0 + es.length))) hK hi1 g2 (by omega) (by
          simp only [Array.size_append, zeroCells_size, hflat.size, hzs, List.size_toArray, List.length_nil]
          rw [Nat.zero_add, ← Nat.add_mul]; exact Nat.mul_le_mul_right _ (by omega)) q1 q2
        refine ⟨s', e1, goesM_run (v := .slice (some ⟨w.heap.size, 0, Option.none⟩) (0 + es.length) cap) (hexec ?_) e2 (by rw [Nat.zero_add]; exact e3)⟩
        rw [hv]
        simpa using g3
    have core : ∀ {k : Nat} {rows0 rows : List (List CV)} (hf : find s.heap k = some (.arr sz rows0)) (hsub : ∀ (i : Nat) (r : List CV), rows[i]? = some r → rows0[i]? = some r) (hle : rows.length ≤ rows0.length)
        (g2 : match L.blk k with | Option.none => a.eval x = .slice Option.none 0 0 | some b => a.eval x = .slice (some ⟨b, 0, Option.none⟩) rows.length (L.cap k)) (hbig : (rows.length + es.length) * ie.bytes ≤ 2 ^ 46)
        (hK : killK k s fun s => newK k2 (.arr sz (rows ++ es)) s fun s => K (.one (.rs k2)) s), ∃ pv s', K pv s' ∧ GoesM P C s' a w o pv := fun {k rows0 rows} hf hsub hle g2 hbig hK => by
      obtain ⟨s1, hK, hi1, hnone, hfs, _⟩ := killK_inv hK hi
      have ho := hi.heap.ob k _ hf
      cases hbk : L.blk k with
      | none =>
        simp only [RepO, hbk] at ho
        simp only [hbk] at g2
        subst ho
        obtain rfl : rows = [] := List.eq_nil_of_length_eq_zero (by simpa using hle)
        simp only [List.nil_append, List.length_nil, Nat.zero_add] at hK hbig
        obtain ⟨s', h1, h2⟩ := none g2 hi1 hbig hK
        exact ⟨_, s', h1, h2⟩
      | some b =>
        simp only [hbk] at g2
        have ho' := ho
        simp only [RepO, hbk] at ho
        obtain ⟨hcap, hrl, cur, ce, fr, hcur, hfit, hfz, hrep⟩ := ho
        have hrl : ∀ (i : Nat) (r : List CV), rows[i]? = some r → r.length = sz := fun i r hr => hrl i r (hsub i r hr)
        have hrep : ∀ (i : Nat) (r : List CV) (j : Nat) (c : CV), rows[i]? = some r → r[j]? = some c → ∃ v, cur[i * sz + j]? = some v ∧ RepC I w v c := fun i r j c h1 h2 => hrep i r j c (hsub i r h1) h2
        obtain ⟨hO, hnI, hlt⟩ := hi.heap.own k _ b hf (.inl hbk)
        have hnob : ∀ j o', find s1.heap j = some o' → ¬ Foot L j b := fun j o' hj hbj => by
          by_cases e : j = k
          · rw [e, hnone] at hj; cases hj
          · rw [hfs j e] at hj
            cases hj' : find s.heap j with
            | none => simp [hj'] at hj
            | some o3 => exact e (hi.heap.inj j k o3 _ b hj' hf hbj (.inl hbk))
        by_cases hroom : rows.length + es.length ≤ L.cap k
        · obtain ⟨w', hst, hwr⟩ := run_storeCells (P := P) (o := rows.length * sz) new.toList 0 w cur ce fr hcur (by
            have h1 : (rows.length + es.length) * sz ≤ L.cap k * sz := Nat.mul_le_mul_right _ hroom
            rw [Nat.add_mul] at h1
            simp only [Array.length_toList, hflat.size]; omega) hfz (hflat.one hsz0)
          obtain ⟨cur', z1, z2, z3⟩ := hwr.row cur ce fr hcur
          have hi2 := hi1.other hwr.size hwr.other hwr.os hwr.tape hwr.output hO hnI hnob
          have hmono : ∀ {v c}, RepC I w v c → RepC I w' v c := fun h => h.mono (fun _ h => h) (fun b' hb' => hwr.other b' fun e => hnI (e ▸ hb'))
          obtain ⟨s', e1, e2, e3, _, _⟩ := newK_inv (w' := w') hK hi2 (fun _ _ => rfl) (Nat.le_refl _) rfl rfl .rfl (some b) (L.cap k) (fun b' hb' => by
            cases hb'
            exact ⟨hO, hnI, by rw [hwr.size]; exact hlt, fun j o' _ hj => hnob j o' hj⟩) (fun H' _ _ => by
            simp only [RepO, Lay.upd, Lay.updD, if_true]
            refine ⟨by simpa using hroom, fun i r hr => ?_, cur', ce, fr, z1, by rw [z2]; exact hfit, fun o ho => ?_, fun i r j cc hr hcc => ?_⟩
            · by_cases hil : i < rows.length
              · rw [List.getElem?_append_left hil] at hr; exact hrl i r hr
              · rw [List.getElem?_append_right (by omega)] at hr; exact hflat.len _ r hr
            · have : w'.frozen? ⟨b, o, Option.none⟩ = w.frozen? ⟨b, o, Option.none⟩ := by simp [World.frozen?, z1, hcur]
              rw [this]; exact hfz o (by rw [← z2]; exact ho)
            · rw [z3]
              simp only [Nat.add_zero, Array.length_toList, hflat.size]
              by_cases hil : i < rows.length
              · rw [List.getElem?_append_left hil] at hr
                have hj : j < sz := by rw [← hrl i r hr]; exact (List.getElem?_eq_some_iff.1 hcc).1
                have hlt2 : i * sz + j < rows.length * sz := by
                  have : (i + 1) * sz ≤ rows.length * sz := Nat.mul_le_mul_right _ hil
                  rw [Nat.add_mul] at this; omega
                rw [if_neg (by omega)]
                obtain ⟨v, q1, q2⟩ := hrep i r j cc hr hcc
                exact ⟨v, q1, hmono q2⟩
              · rw [List.getElem?_append_right (by omega)] at hr
                obtain ⟨u, q1, q2⟩ := hflat.rep _ r j cc hr hcc
                have hlt2 : (i - rows.length) * sz + j < es.length * sz := by rw [← hflat.size]; exact (Array.getElem?_eq_some_iff.1 q1).1
                have e : i * sz + j = rows.length * sz + ((i - rows.length) * sz + j) := by
                  have : i * sz = rows.length * sz + (i - rows.length) * sz := by rw [← Nat.add_mul]; congr 1; omega
                  omega
                rw [if_pos (by omega)]
                refine ⟨u, ?_, hmono q2⟩
                rw [e, Nat.add_sub_cancel_left]; simpa using q1)
          refine ⟨_, s', e1, goesM_run (v := .slice (some ⟨b, 0, Option.none⟩) (rows.length + es.length) (L.cap k)) (hexec ?_) e2 ⟨sz, rows ++ es, e3, ?_⟩⟩
          · rw [g2]
            exact run_append_room' hu hie hs hu2 hlen (hnew w rfl) hroom hst
          · simp [Lay.upd, Lay.updD]
        · obtain ⟨f, hf'⟩ := row_at hi hf hbk
          obtain ⟨old, p1, p2⟩ := flat_load (P := P) (b := b) (off := 0) (f := fun i j => f (i * sz + j)) hsz0 rfl hrl (fun i r j c h1 h2 => by rw [Nat.zero_add]; exact hf' i r j c (hsub i r h1) h2)
          obtain ⟨cap, w1, r1, r2, r3⟩ := run_append_new (P := P) (w := w) (t2 := t2) (ty := o.type) (base := some ⟨b, 0, Option.none⟩) (n := rows.length) (sCap := L.cap k) (old := old) hu hie hs hb0 hb1 hzv hu2 hlen hnew (fun w' hw' => p1 w' hw') hbig hroom
          obtain ⟨q1, q2⟩ := rows_append (rest := Builtin.zeroCells zv.cells (cap - (rows.length + es.length))) hsz0 p2 hflat
          obtain ⟨s', L', e1, e2, e3⟩ := newArr (w1 := w1) (cap := cap) (e := ti.elem) (cells := old ++ new ++ Builtin.zeroCells zv.cells (cap - (rows.length + es.length))) hK hi1 r2 (by simpa using r1) (by
            simp only [Array.size_append, zeroCells_size, hflat.size, hzs, p2.size]
            rw [← Nat.add_mul, ← Nat.add_mul]; exact Nat.mul_le_mul_right _ (by omega)) q1 q2
          refine ⟨_, s', e1, goesM_run (v := .slice (some ⟨w.heap.size, 0, Option.none⟩) (rows.length + es.length) cap) (hexec ?_) e2 (by rw [← List.length_append]; exact e3)⟩
          rw [g2]
          simpa using r3
    split at h
    · rename_i sz'
      split at h
      · obtain ⟨hbig, hK⟩ := h
        obtain ⟨s', h1, h2⟩ := none hx hi hbig hK
        exact ⟨_, s', h1, h2⟩
      · exact h.elim
    · rename_i k
      split at h
      · rename_i sz' rows hf
        split at h
        · rename_i hbq
          have e := beq_iff.1 hbq
          subst e
          obtain ⟨hbig, hK⟩ := h
          obtain ⟨_, _, g1, g2⟩ := hx
          rw [hf] at g1; cases g1
          refine core hf (fun i r h => h) (Nat.le_refl _) ?_ hbig hK
          cases hbk : L.blk k <;> simp only [hbk] at g2 ⊢ <;> exact g2
        · exact h.elim
      · exact h.elim
    · rename_i k off l
      split at h
      · rename_i sz' rows hf
        split at h
        · rename_i hbq
          rw [Bool.and_eq_true] at hbq
          have e := beq_iff.1 hbq.1
          subst e
          have e0 := beq_iff.1 hbq.2
          subst e0
          obtain ⟨hbig, hK⟩ := h
          obtain ⟨_, _, g1, g3, g2⟩ := hx
          rw [hf] at g1; cases g1
          refine core (rows := rows.take l) hf (fun i r h => ?_) (by simp; omega) ?_ hbig hK
          · rw [List.getElem?_take] at h
            split at h
            · exact h
            · cases h
          · cases hbk : L.blk k with
            | none => simp only [hbk] at g2 ⊢; exact g2
            | some b =>
              simp only [hbk] at g2 ⊢
              obtain ⟨q, q1, q2, q3⟩ := g2
              have e0 := q2 (.inr trivial)
              rw [Nat.zero_mul] at e0
              subst e0
              rw [q3, Nat.sub_zero, List.length_take, Nat.min_eq_left (by omega)]
        · exact h.elim
      · exact h.elim
    · rename_i k
      split at h
      · rename_i sz' rows hf
        split at h
        · rename_i hbq
          have e := beq_iff.1 hbq
          subst e
          obtain ⟨⟨hfl, hbig⟩, hK⟩ := h
          obtain ⟨s1, hK, hi1, hnone, hfs, _⟩ := killK_inv hK hi
          obtain ⟨s', h1, h2⟩ := appendDeep (J := fun _ => False) hu hie hs hsz0 hb0 hb1 hzv hzs hu2 hexec hi hf hx hi1 (fun j o' hj => by
            by_cases e : j = k
            · rw [e, hnone] at hj; cases hj
            · rw [hfs j e] at hj
              cases hj' : find s.heap j with
              | none => simp [hj'] at hj
              | some o3 => exact ⟨o3, rfl⟩) hnone hlen hnew (hflat.toD hfl) (fun b h => h.elim) hbig hK
          exact ⟨_, s', h1, h2⟩
        · exact h.elim
      · exact h.elim
    · exact h.elim
  · exact h.elim

theorem appendD_goes {o : Oper} {c : Call} {x y : Operand} {t t2 : TypeId} {ti : TI} (ht : tiOk P t ti = true) (ht2 : ∃ d, P.underlying t2 = some d ∧ ∀ k, d ≠ .int k) (hi : Inv C L I s a w) (ho : o.op = .call c) (hc : c.callee = .builtin .append) (hargs : c.args.toList = [x, y]) (hts : c.argTypes.toList = [t, t2]) {k2 k ky : Nat} {K : PV → St → Prop}
    (hx : RepP L s.heap I w (a.eval x) (.one (.ds k))) (hy : RepP L s.heap I w (a.eval y) (.one (.ds ky))) (h : appendD ti k2 s k ky K) : ∃ pv s', K pv s' ∧ GoesM P C s' a w o pv := by
  have hca : c.args = #[x, y] := by apply Array.ext'; simpa using hargs
  have hct : c.argTypes = #[t, t2] := by apply Array.ext'; simpa using hts
  have hexec : ∀ {v : Value} {w' : World}, (Builtin.append_ #[t, t2] o.type #[a.eval x, a.eval y]).run P w = .ok v w' → (execOp a.eval o).run P w = .ok (.value v) w' := fun {v w'} hr => by
    simp [execOp, ho, resolve, hc, hca, hct, invoke, builtin, hr]
  unfold appendD at h
  split at h
  · rename_i sz bytes hsl
    have hkn := known_any ht (.inl (by rw [hsl]; simp))
    obtain ⟨hu, hsz0, ie, hie, hs, hby, ⟨hb0, hb1⟩, zv, hzv, hzs, _⟩ := hkn.slice _ _ hsl
    subst hby
    split at h
    · rename_i sz1 rows ay sz2 es hf hfy hne
      have hne := beq_false.1 hne
      split at h
      · rename_i hb1' hb2'
        have e1 := beq_iff.1 hb1'
        have e2 := beq_iff.1 hb2'
        subst e1; subst e2
        obtain ⟨hbig, hK⟩ := h
        obtain ⟨sy, hK, hiy, hnoney, hfsy, _⟩ := killK_inv hK hi
        obtain ⟨s1, hK, hi1, hnone, hfs, _⟩ := killK_inv hK hiy
        have hback : ∀ j o', find s1.heap j = some o' → j ≠ k ∧ j ≠ ky ∧ ∃ o', find s.heap j = some o' := fun j o' hj => by
          by_cases e : j = k
          · rw [e, hnone] at hj; cases hj
          · rw [hfs j e] at hj
            cases hj' : find sy.heap j with
            | none => simp [hj'] at hj
            | some o3 =>
              by_cases e2 : j = ky
              · rw [e2, hnoney] at hj'; cases hj'
              · rw [hfsy j e2] at hj'
                cases hj2 : find s.heap j with
                | none => simp [hj2] at hj'
                | some o4 => exact ⟨e, e2, o4, rfl⟩
        obtain ⟨_, _, _, g1, g2⟩ := hy
        rw [hfy] at g1; cases g1
        have hoy := hi.heap.ob ky _ hfy
        cases hbk : L.blk ky with
        | none =>
          simp only [RepO, hbk] at hoy
          simp only [hbk] at g2
          subst hoy
          obtain ⟨s', h1, h2⟩ := appendDeep (J := fun _ => False) (new := #[]) (es := []) hu hie hs hsz0 hb0 hb1 hzv hzs ht2 hexec hi hf hx hi1 (fun j o' hj => (hback j o' hj).2.2) hnone (by rcases g2.1 with e | ⟨_, _, e⟩ <;> rw [e] <;> rfl) (fun w' _ => by
            rcases g2.1 with e | ⟨a', _, e⟩ <;> rw [e]
            · rfl
            · have := run_loadCells (P := P) w' a' 0 (fun _ => undef) (fun q hq => absurd hq (by omega))
              simpa [Builtin.firstCells] using this) ⟨by simp, fun i r h => by simp at h, fun _ _ => False, fun i r j c h => by simp at h, fun _ _ h => h.elim, fun _ _ _ h => h.elim⟩ (fun b h => h.elim) hbig hK
          exact ⟨_, s', h1, h2⟩
        | some b =>
          simp only [hbk] at g2
          simp only [RepO, hbk] at hoy
          obtain ⟨new, p1, p2⟩ := deep_load (P := P) hsz0 hoy.1
          obtain ⟨s', h1, h2⟩ := appendDeep (J := L.fp ky) (new := new) hu hie hs hsz0 hb0 hb1 hzv hzs ht2 hexec hi hf hx hi1 (fun j o' hj => (hback j o' hj).2.2) hnone (by rw [g2]; rfl) (fun w' hw' => by rw [g2]; exact p1 w' hw') p2 (fun b' hb' => by
            obtain ⟨x1, x2, x3⟩ := hi.heap.own ky _ b' hfy (.inr hb')
            refine ⟨x1, x2, x3, fun hk => hne (hi.heap.inj k ky _ _ b' hf hfy hk (.inr hb')), fun j o' hj hbj => ?_⟩
            obtain ⟨q1, q2, o4, q3⟩ := hback j o' hj
            exact q2 (hi.heap.inj j ky _ _ b' q3 hfy hbj (.inr hb'))) hbig hK
          exact ⟨_, s', h1, h2⟩
      · exact h.elim
    · exact h.elim
  · exact h.elim

end

end Go.Proofs.YtnafogjagbhdbaaDoor.Pi
