/- Operands, addresses, loads: the continuation forms against the machine. No statement of the seat is proved here. -/
import Derived.Test.YtjolahiflldepabPiS5
namespace Go.Proofs.Ytjolahiflldepab.Pi
open Go Go.RowKit
set_option linter.unusedVariables false
set_option linter.unusedSimpArgs false

section
variable {P : Program} {C : Ctx} {L : Lay} {I : Nat → Prop} {s : St} {a : Act} {w : World}

theorem constK_sound {v : Value} {t : TI} {K : PV → Prop} (h : constK v t K) : ∃ pv, K pv ∧ RepP L s.heap I w v pv := by
  unfold constK at h
  split at h
  · exact ⟨_, h, RepC.int _ _⟩
  · exact ⟨_, h, RepC.bool _⟩
  · exact ⟨_, h, RepC.str _⟩
  · split at h
    · exact ⟨_, h, rfl⟩
    · exact h.elim
  · exact ⟨_, h, RepC.nilI⟩
  · exact h.elim

theorem opd_sound (hi : Inv C L I s a w) {x : Operand} {t : TI} {K : PV → Prop} (h : opd s.regs x t K) : ∃ pv, K pv ∧ RepP L s.heap I w (a.eval x) pv := by
  cases x with
  | tmp n =>
    simp only [opd, look_iff] at h
    obtain ⟨pv, h1, h2⟩ := h
    have hlt : n < a.tmps.size := by rw [hi.len]; exact (List.getElem?_eq_some_iff.1 h1).1
    refine ⟨pv, h2, ?_⟩
    have := hi.regs n pv a.tmps[n] h1 (Array.getElem?_eq_getElem hlt)
    simpa [Act.eval, hlt] using this
  | const v => exact constK_sound h
  | global g => exact h.elim
  | func f =>
    refine ⟨_, h, ?_⟩
    exact RepC.fn f #[] [] rfl (fun i c v h => by simp at h)

theorem argsK_sound (hi : Inv C L I s a w) {tt : TT} : ∀ {xs : List Operand} {ts : List TypeId} {K : List PV → Prop}, argsK s.regs tt xs ts K → ∃ pvs, K pvs ∧ pvs.length = xs.length ∧ ∀ (i : Nat) (pv : PV) (x : Operand), pvs[i]? = some pv → xs[i]? = some x → RepP L s.heap I w (a.eval x) pv
  | [], ts, K, h => ⟨[], h, rfl, fun i pv x h => by simp at h⟩
  | x :: xs, ts, K, h => by
    simp only [argsK] at h
    obtain ⟨pv, h1, h2⟩ := opd_sound hi h
    obtain ⟨pvs, h3, h4, h5⟩ := argsK_sound hi h1
    refine ⟨pv :: pvs, h3, by simp [h4], fun i pv' x' g1 g2 => ?_⟩
    cases i with
    | zero => simp only [List.getElem?_cons_zero, Option.some.injEq] at g1 g2; subst g1; subst g2; exact h2
    | succ i => simp only [List.getElem?_cons_succ] at g1 g2; exact h5 i pv' x' g1 g2

/-- The number that an optional bound holds. -/
def OptI : Option Value → Option Int → Prop
  | none, none => True
  | some v, some n => ∃ k, v = .int k n
  | _, _ => False

theorem optInt_sound (hi : Inv C L I s a w) {tt : TT} {x : Option Operand} {K : Option Int → Prop} (h : optInt s.regs tt x K) : ∃ n, K n ∧ OptI (x.map a.eval) n := by
  cases x with
  | none => exact ⟨none, h, trivial⟩
  | some x =>
    simp only [optInt] at h
    obtain ⟨pv, h1, h2⟩ := opd_sound hi h
    unfold intIx at h1
    split at h1
    · rename_i k n
      refine ⟨some n, h1, k, ?_⟩
      have h2 : RepC I w (a.eval x) (.int k n) := h2
      generalize a.eval x = v at h2
      cases h2; rfl
    · exact h1.elim

theorem rep_int {v : Value} {k : IntKind} {n : Int} (h : RepP L s.heap I w v (.one (.c (.int k n)))) : v = .int k n := by
  have h : RepC I w v (.int k n) := h
  cases h; rfl
theorem rep_bool {v : Value} {b : Bool} (h : RepP L s.heap I w v (.one (.c (.bool b)))) : v = .bool b := by
  have h : RepC I w v (.bool b) := h
  cases h; rfl
theorem rep_str {v : Value} {b : ByteArray} (h : RepP L s.heap I w v (.one (.c (.str b)))) : v = .string b := by
  have h : RepC I w v (.str b) := h
  cases h; rfl

theorem intIx_sound {v : Value} {pv : PV} {K : Int → Prop} (h : intIx pv K) (hr : RepP L s.heap I w v pv) : ∃ k n, v = .int k n ∧ K n := by
  unfold intIx at h
  split at h
  · exact ⟨_, _, rep_int hr, h⟩
  · exact h.elim

theorem sub_length {α : Type} (xs : List α) (o n : Nat) (h : o + n ≤ xs.length) : (sub xs o n).length = n := by
  rw [sub_eq]; simp only [List.length_take, List.length_drop]; omega

theorem sub_get {α : Type} (xs : List α) (o n i : Nat) (x : α) (h : (sub xs o n)[i]? = some x) : i < n ∧ xs[o + i]? = some x := by
  rw [sub_eq, List.getElem?_take] at h
  split at h
  · rename_i hlt; exact ⟨hlt, by simpa [List.getElem?_drop] using h⟩
  · cases h

theorem oneOr_sound {agg : Bool} {xs : List XV} {K : PV → Prop} {n : Nat} {f : Nat → Value} (h : oneOr agg xs K) (hl : xs.length = n) (hr : ∀ (i : Nat) (x : XV), xs[i]? = some x → RepX L s.heap I w (f i) x) :
    ∃ pv, K pv ∧ RepP L s.heap I w (if agg then .agg ((List.range n).map f).toArray else f 0) pv ∧ (agg = false → n = 1) := by
  unfold oneOr at h
  split at h
  · refine ⟨_, h, ⟨_, rfl, by simp [hl], fun i x v h1 h2 => ?_⟩, by simp⟩
    have hlt : i < n := by rw [← hl]; exact (List.getElem?_eq_some_iff.1 h1).1
    have : v = f i := by simp [hlt] at h2; exact h2.symm
    rw [this]; exact hr i x h1
  · exact ⟨_, h, hr 0 _ (by simp), fun _ => by simpa using hl.symm⟩
  · exact h.elim

/-- The cells of an own box, of an own row. -/
theorem box_at (hi : Inv C L I s a w) {k b : Nat} {cs : List XV} (hf : find s.heap k = some (.box cs)) (hb : L.blk k = some b) :
    ∃ f : Nat → Value, ∀ (i : Nat) (x : XV), cs[i]? = some x → w.cell? ⟨b, i, none⟩ = some (f i) ∧ RepX L s.heap I w (f i) x := by
  obtain ⟨b', vs, e, fr, h1, h2, h3, h5, hsz, h4⟩ := hi.heap.ob k _ hf
  rw [hb] at h1; cases h1
  refine ⟨fun i => vs.getD i undef, fun i x hx => ?_⟩
  have hlt : i < vs.size := by rw [hsz]; exact (List.getElem?_eq_some_iff.1 hx).1
  have e : vs.getD i undef = vs[i] := by simp [hlt]
  rw [cell_row h2]
  show vs[i]? = some (vs.getD i undef) ∧ RepX L s.heap I w (vs.getD i undef) x
  rw [e]
  exact ⟨Array.getElem?_eq_getElem hlt, h4 i x vs[i] hx (Array.getElem?_eq_getElem hlt)⟩

theorem row_at (hi : Inv C L I s a w) {k b sz : Nat} {rows : List (List CV)} (hf : find s.heap k = some (.arr sz rows)) (hb : L.blk k = some b) :
    ∃ f : Nat → Value, ∀ (i : Nat) (r : List CV) (j : Nat) (c : CV), rows[i]? = some r → r[j]? = some c → w.cell? ⟨b, i * sz + j, none⟩ = some (f (i * sz + j)) ∧ RepC I w (f (i * sz + j)) c := by
  have ho := hi.heap.ob k _ hf
  simp only [RepO, hb] at ho
  obtain ⟨h0, hrl, vs, e, fr, h2, h3, h5, h4⟩ := ho
  refine ⟨fun i => vs.getD i undef, fun i r j c hr hc => ?_⟩
  obtain ⟨v, g1, g2⟩ := h4 i r j c hr hc
  have e : vs.getD (i * sz + j) undef = v := by simp [g1]
  rw [cell_row h2]
  show vs[i * sz + j]? = some (vs.getD (i * sz + j) undef) ∧ RepC I w (vs.getD (i * sz + j) undef) c
  rw [e]
  exact ⟨g1, g2⟩

theorem dcells_length (k r : Nat) : ∀ (row : List CV) (j : Nat), (dcells k r j row).length = row.length
  | [], j => rfl
  | c :: cs, j => by simp [dcells, dcells_length k r cs]
theorem dcells_get (k r : Nat) : ∀ (row : List CV) (j i : Nat), (dcells k r j row)[i]? = (row[i]?).map (dcell k r (j + i))
  | [], j, i => by simp [dcells]
  | c :: cs, j, 0 => by simp [dcells]
  | c :: cs, j, i + 1 => by simp [dcells, dcells_get k r cs]; congr 2; omega

/-- The cells of an own deep row. -/
theorem deep_at (hi : Inv C L I s a w) {k b sz : Nat} {ap : Bool} {rows : List (List CV)} (hf : find s.heap k = some (.deep ap sz rows)) (hb : L.blk k = some b) :
    ∃ f : Nat → Value, ∀ (i : Nat) (r : List CV) (j : Nat) (c : CV), rows[i]? = some r → r[j]? = some c → w.cell? ⟨b, i * sz + j, none⟩ = some (f (i * sz + j)) ∧ RepX L s.heap I w (f (i * sz + j)) (dcell k i j c) := by
  have ho := hi.heap.ob k _ hf
  simp only [RepO, hb] at ho
  obtain ⟨⟨_, _, vs, e, fr, Js, h3, _, _, h6, h7, _⟩, _⟩ := ho
  refine ⟨fun i => vs.getD i undef, fun i r j c hr hc => ?_⟩
  obtain ⟨v, g1, g2, g3⟩ := h6 i r j c hr hc
  have e : vs.getD (i * sz + j) undef = v := by simp [g1]
  rw [cell_row h3]
  show vs[i * sz + j]? = some (vs.getD (i * sz + j) undef) ∧ RepX L s.heap I w (vs.getD (i * sz + j) undef) (dcell k i j c)
  rw [e]
  refine ⟨g1, ?_⟩
  cases c with
  | int k n => cases g2; exact RepC.int _ _
  | bool b => cases g2; exact RepC.bool _
  | str b => cases g2; exact RepC.str _
  | iface b => cases g2 <;> constructor
  | ptr sz cs => trivial
  | fn f cs => trivial
  | slice sz' es => exact ⟨ap, sz, rows, hf, (List.getElem?_eq_some_iff.1 hr).1, g3 rfl, g2.isSlice⟩
  | own sz' es => exact ⟨ap, sz, rows, hf, (List.getElem?_eq_some_iff.1 hr).1, g3 rfl, by cases g2 with | own _ _ _ _ q1 q2 => exact q1.isSlice⟩
  | hole => trivial

theorem row_len (hi : Inv C L I s a w) {k b sz : Nat} {rows : List (List CV)} (hf : find s.heap k = some (.arr sz rows)) (hb : L.blk k = some b) : ∀ (i : Nat) (r : List CV), rows[i]? = some r → r.length = sz := by
  have ho := hi.heap.ob k _ hf
  simp only [RepO, hb] at ho
  exact ho.2.1

theorem loadK_sound (hi : Inv C L I s a w) {t : TypeId} {ti : TI} (ht : tiOk P t ti = true) {v : Value} {pv : PV} {K : PV → Prop} (h : loadK s.heap ti pv K) (hr : RepP L s.heap I w v pv) :
    ∃ pv' v', K pv' ∧ (Instr.loadAt t v).run P w = .ok v' w ∧ RepP L s.heap I w v' pv' := by
  unfold loadK at h
  cases hsz : ti.size with
  | zero => simp [hsz] at h
  | succ m =>
    have hkn := known_of ht (by omega)
    simp only [hsz] at h
    have fin : ∀ {xs : List XV} {b o : Nat} {f : Nat → Value}, v = .pointer (some ⟨b, o, none⟩) → xs.length = m + 1 → oneOr ti.agg xs K → (∀ (i : Nat) (x : XV), xs[i]? = some x → w.cell? ⟨b, o + i, none⟩ = some (f i) ∧ RepX L s.heap I w (f i) x) →
        ∃ pv' v', K pv' ∧ (Instr.loadAt t v).run P w = .ok v' w ∧ RepP L s.heap I w v' pv' := fun {xs b o f} hv hl h1 h2 => by
      obtain ⟨pv', g1, g2, g3⟩ := oneOr_sound (f := f) h1 hl (fun i x hx => (h2 i x hx).2)
      refine ⟨pv', _, g1, ?_, g2⟩
      subst hv
      simp only [Instr.loadAt, Instr.sureAddr, Sem.run_bind, Sem.run_pure, Result.andThen_ok]
      rw [← hsz] at hl g3 ⊢
      exact run_loadVar' hkn (fun j hj => (h2 j xs[j] (List.getElem?_eq_getElem (by omega))).1) g3
    split at h
    · rename_i sz cs
      split at h
      · rename_i hb
        have e := beq_iff.1 hb
        simp only [forceXs_eq] at h
        have hr : RepC I w v (.ptr sz cs) := hr
        cases hr with
        | ptr b off _ _ vs hI hl hc hrc =>
          refine fin rfl (by simp; omega) h (f := vs) fun i x hx => ?_
          rw [List.getElem?_map] at hx
          cases hci : cs[i]? with
          | none => simp [hci] at hx
          | some c => simp only [hci, Option.map_some, Option.some.injEq] at hx; subst hx; exact ⟨hc i c hci, hrc i c hci⟩
      · exact h.elim
    · rename_i k o n
      split at h
      · rename_i cs hf hb
        have e := beq_iff.1 hb
        simp only [subK_eq] at h
        obtain ⟨cs', b, g1, g2, g3, rfl⟩ := hr
        rw [hf] at g1; cases g1
        obtain ⟨f, hf'⟩ := box_at hi hf g2
        refine fin rfl (by rw [sub_length _ _ _ g3, e]) h (f := fun i => f (o + i)) fun i x hx => ?_
        obtain ⟨q1, q2⟩ := sub_get _ _ _ _ _ hx
        exact hf' _ x q2
      · exact h.elim
    · rename_i k r o n
      split at h
      · rename_i sz rows hf hb
        have e := beq_iff.1 hb
        obtain ⟨row, hrow, h⟩ := h
        simp only [subK_eq] at h
        obtain ⟨sz', rows', b, g1, g2, g3, g4, rfl⟩ := hr
        rw [hf] at g1; cases g1
        obtain ⟨f, hf'⟩ := row_at hi hf g2
        have hrl := row_len hi hf g2 r row hrow
        refine fin rfl (by rw [sub_length _ _ _ (by simp; omega), e]) h (f := fun i => f (r * sz + (o + i))) fun i x hx => ?_
        obtain ⟨q1, q2⟩ := sub_get _ _ _ _ _ hx
        rw [List.getElem?_map] at q2
        cases hci : row[o + i]? with
        | none => simp [hci] at q2
        | some c =>
          simp only [hci, Option.map_some, Option.some.injEq] at q2; subst q2
          have := hf' r row _ c hrow hci
          rw [Nat.add_assoc]; exact this
      · exact h.elim
    · rename_i k r o n
      split at h
      · rename_i ap sz rows hf hb
        have e := beq_iff.1 hb
        obtain ⟨row, hrow, h⟩ := h
        simp only [subK_eq] at h
        obtain ⟨_, sz', rows', b, g1, g2, g3, g4, rfl⟩ := hr
        rw [hf] at g1; cases g1
        obtain ⟨f, hf'⟩ := deep_at hi hf g2
        have ho := hi.heap.ob k _ hf
        simp only [RepO, g2] at ho
        have hrl := ho.1.2.1 r row hrow
        refine fin rfl (by rw [sub_length _ _ _ (by rw [dcells_length]; omega), e]) h (f := fun i => f (r * sz + (o + i))) fun i x hx => ?_
        obtain ⟨q1, q2⟩ := sub_get _ _ _ _ _ hx
        rw [dcells_get, Nat.zero_add] at q2
        cases hci : row[o + i]? with
        | none => simp [hci] at q2
        | some c =>
          simp only [hci, Option.map_some, Option.some.injEq] at q2; subst q2
          have := hf' r row _ c hrow hci
          rw [Nat.add_assoc]; exact this
      · exact h.elim
    · exact h.elim

theorem fieldsOk_get : ∀ {fs : List Field} {gs : List (Nat × Nat × Bool)}, fieldsOk P fs gs = true → ∀ {f : Nat} {o n : Nat} {ag : Bool}, gs[f]? = some (o, n, ag) → ∃ fd i, fs[f]? = some fd ∧ fd.offset = o ∧ P.info? fd.type = some i ∧ i.size = n ∧ aggOf P fd.type = ag ∧ ∃ d, P.underlying fd.type = some d
  | [], [], _, f, o, n, ag, h => by simp at h
  | fd :: fs, (o', n', a') :: gs, hk, f, o, n, ag, h => by
    simp only [fieldsOk, Bool.and_eq_true] at hk
    obtain ⟨⟨⟨⟨⟨h1, h2⟩, h3⟩, h6⟩, h4⟩, h5⟩ := hk
    cases f with
    | zero =>
      simp only [List.getElem?_cons_zero, Option.some.injEq, Prod.mk.injEq] at h
      obtain ⟨rfl, rfl, rfl⟩ := h
      obtain ⟨i, hi⟩ := Option.isSome_iff_exists.1 h3
      have h2 := eq_of_beq h2
      simp only [Program.cellsOf, hi, Option.map_some, Option.getD_some] at h2
      exact ⟨fd, i, rfl, eq_of_beq h1, hi, h2, eq_of_beq h4, Option.isSome_iff_exists.1 h6⟩
    | succ f => exact fieldsOk_get h5 (by simpa using h)
  | [], _ :: _, hk, _, _, _, _, _ => by simp [fieldsOk] at hk
  | _ :: _, [], hk, _, _, _, _, _ => by simp [fieldsOk] at hk

theorem fieldAddrK_sound (hi : Inv C L I s a w) {t : TypeId} {ti : TI} (ht : tiOk P t ti = true) {v : Value} {pv : PV} {f : Nat} {K : PV → Prop} (h : fieldAddrK ti pv f K) (hr : RepP L s.heap I w v pv) :
    ∃ pv' v', K pv' ∧ (Instr.fieldAt t v f).run P w = .ok v' w ∧ RepP L s.heap I w v' pv' := by
  unfold fieldAddrK at h
  split at h
  · rename_i off n ag hg
    have hne : ti.fields ≠ [] := fun e => by rw [e] at hg; simp at hg
    obtain ⟨fs, hu, hfo⟩ := (known_any ht (.inr (.inl hne))).fields hne
    obtain ⟨fd, i, hfd, ho, hinfo, hn, _, _⟩ := fieldsOk_get hfo hg
    have run : ∀ {b o : Nat}, Nat.beq n 0 = false → (Instr.fieldAt t (.pointer (some ⟨b, o, none⟩)) f).run P w = .ok (.pointer (some ⟨b, o + off, none⟩)) w := fun {b o} hb => by
      have hn0 : n ≠ 0 := beq_false.1 hb
      have hfd' : fs[f]? = some fd := by simpa using hfd
      simp only [Instr.fieldAt, Sem.run_bind, run_underlying hu, Result.andThen_ok, hfd', Instr.sureAddr, Sem.run_pure, fieldPlace, run_size hinfo, hn]
      simp [hn0, add_plain, ho]
    split at h
    · rename_i sz cs hb
      split at h
      · rename_i hle
        have hle := Nat.le_of_ble_eq_true hle
        have hr : RepC I w v (.ptr sz cs) := hr
        cases hr with
        | ptr b o _ _ vs hI hl hc hrc =>
          refine ⟨_, _, h, run hb, RepC.ptr b (o + off) n _ (fun j => vs (off + j)) hI (sub_length _ _ _ (by omega)) (fun j c hj => ?_) (fun j c hj => hrc _ c (sub_get _ _ _ _ _ hj).2)⟩
          rw [Nat.add_assoc]; exact hc _ c (sub_get _ _ _ _ _ hj).2
      · exact h.elim
    · rename_i k o m hb
      split at h
      · rename_i hle
        have hle := Nat.le_of_ble_eq_true hle
        obtain ⟨cs, b, g1, g2, g3, rfl⟩ := hr
        exact ⟨_, _, h, run hb, cs, b, g1, g2, by omega, rfl⟩
      · exact h.elim
    · rename_i k r o m hb
      split at h
      · rename_i hle
        have hle := Nat.le_of_ble_eq_true hle
        obtain ⟨sz, rows, b, g1, g2, g3, g4, rfl⟩ := hr
        exact ⟨_, _, h, run hb, sz, rows, b, g1, g2, g3, by omega, by rw [Nat.add_assoc]⟩
      · exact h.elim
    · rename_i k r o m hb
      split at h
      · rename_i hle
        have hle := Nat.le_of_ble_eq_true hle
        obtain ⟨ap, sz, rows, b, g1, g2, g3, g4, rfl⟩ := hr
        exact ⟨_, _, h, run hb, ap, sz, rows, b, g1, g2, g3, by omega, by rw [Nat.add_assoc]⟩
      · exact h.elim
    · exact h.elim
  · exact h.elim

theorem indexAddrK_sound (hi : Inv C L I s a w) {t : TypeId} {ti : TI} (ht : tiOk P t ti = true) {v u : Value} {pv pu : PV} {K : PV → Prop} (h : indexAddrK s.heap ti pv pu K) (hr : RepP L s.heap I w v pv) (hru : RepP L s.heap I w u pu) :
    ∃ pv' v', K pv' ∧ (Instr.indexAt t v u).run P w = .ok v' w ∧ RepP L s.heap I w v' pv' := by
  unfold indexAddrK at h
  replace h := intIx_sound h hru
  obtain ⟨ik, n, rfl, h⟩ := h
  have slice : ∀ {sz' bb : Nat}, ti.slice = some (sz', bb) → ∀ {b o len cap : Nat}, 0 ≤ n → n < len → (Instr.indexAt t (.slice (some ⟨b, o, none⟩) len cap) (.int ik n)).run P w = .ok (.pointer (some ⟨b, o + n.toNat * sz', none⟩)) w := fun {sz' bb} hsl {b o len cap} h0 h1 => by
    obtain ⟨hu, _, ie, hie, hs, _⟩ := (known_any ht (.inl (by rw [hsl]; simp))).slice _ _ hsl
    simp only [Instr.indexAt, asIntOf, Sem.run_bind, Sem.run_pure, Result.andThen_ok, run_underlying hu, h0, h1, and_self, if_true, run_size hie, hs, add_plain]
  split at h
  · rename_i sz es sz' bb hsl
    split at h
    · rename_i hb
      have e := beq_iff.1 hb
      subst e
      obtain ⟨row, ⟨h0, hrow⟩, h⟩ := h
      have hr : RepC I w v (.slice sz es) := hr
      have hlt : n.toNat < es.length := (List.getElem?_eq_some_iff.1 hrow).1
      cases hr with
      | nil _ => simp at hlt
      | empty _ _ _ => simp at hlt
      | slice b off cap _ m _ vs hI hn hcap hsz hc hrc =>
        refine ⟨_, _, h, slice hsl h0 (by omega), RepC.ptr b _ sz row (fun j => vs n.toNat j) hI (hsz _ _ hrow) (fun j c hj => ?_) (fun j c hj => hrc _ _ _ _ hrow hj)⟩
        rw [Nat.add_assoc]; exact hc _ _ _ _ hrow hj
    · exact h.elim
  · rename_i k sz' bb hsl
    split at h
    · rename_i sz rows hf
      split at h
      · rename_i hb
        have e := beq_iff.1 hb
        subst e
        obtain ⟨⟨h0, h1⟩, h⟩ := h
        obtain ⟨_, _, g1, g2⟩ := hr
        rw [hf] at g1; cases g1
        cases hbk : L.blk k with
        | none =>
          have ho := hi.heap.ob k _ hf
          simp only [RepO, hbk] at ho
          subst ho; simp at h1; omega
        | some b =>
          simp only [hbk] at g2
          subst g2
          refine ⟨_, _, h, slice hsl h0 h1, _, _, b, hf, hbk, by omega, by omega, ?_⟩
          simp
      · exact h.elim
    · exact h.elim
  · rename_i k sz' bb hsl
    split at h
    · rename_i ap sz rows hf
      split at h
      · rename_i hb
        have e := beq_iff.1 hb
        subst e
        obtain ⟨⟨h0, h1⟩, h⟩ := h
        obtain ⟨_, _, _, g1, g2⟩ := hr
        rw [hf] at g1; cases g1
        cases hbk : L.blk k with
        | none =>
          have ho := hi.heap.ob k _ hf
          simp only [RepO, hbk] at ho
          subst ho; simp at h1; omega
        | some b =>
          simp only [hbk] at g2
          subst g2
          refine ⟨_, _, h, slice hsl h0 h1, ap, _, _, b, hf, hbk, by omega, by omega, ?_⟩
          simp
      · exact h.elim
    · exact h.elim
  · rename_i k o l sz' bb hsl
    split at h
    · rename_i sz rows hf
      split at h
      · rename_i hb
        have e := beq_iff.1 hb
        subst e
        obtain ⟨⟨h0, h1, h2⟩, h⟩ := h
        obtain ⟨_, _, g1, g3, g2⟩ := hr
        rw [hf] at g1; cases g1
        cases hbk : L.blk k with
        | none =>
          have ho := hi.heap.ob k _ hf
          simp only [RepO, hbk] at ho
          subst ho; simp at h2; omega
        | some b =>
          simp only [hbk] at g2
          obtain ⟨q, q1, q2, rfl⟩ := g2
          refine ⟨_, _, h, slice hsl h0 h1, _, _, b, hf, hbk, by omega, by omega, ?_⟩
          rw [q2 (.inl (by omega)), Nat.add_mul]; simp
      · exact h.elim
    · exact h.elim
  · exact h.elim

end

end Go.Proofs.Ytjolahiflldepab.Pi
