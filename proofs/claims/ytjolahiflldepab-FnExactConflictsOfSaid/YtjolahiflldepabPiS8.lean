/- Operators: the continuation forms against the machine, more. No statement of the seat is proved here. -/
import Derived.Test.YtjolahiflldepabPiS7
namespace Go.Proofs.Ytjolahiflldepab.Pi
open Go Go.RowKit
set_option linter.unusedVariables false
set_option linter.unusedSimpArgs false

section
variable {P : Program} {C : Ctx} {L : Lay} {I : Nat → Prop} {s : St} {a : Act} {w : World}

/-- A run that gives one value and leaves the world alone. -/
def Runs (P : Program) (L : Lay) (H : Heap) (I : Nat → Prop) (w : World) (m : Sem Value) (K : PV → Prop) : Prop :=
  ∃ pv v, K pv ∧ m.run P w = .ok v w ∧ RepP L H I w v pv

theorem runs_int {k : IntKind} {n z : Int} {K : PV → Prop} {m : Sem Value} (hr : m.run P w = .ok (.int k n) w) (e : n = z) (h : K (.one (.c (.int k z)))) : Runs P L s.heap I w m K :=
  ⟨_, _, h, hr, e ▸ RepC.int k n⟩
theorem runs_bool {b : Bool} {K : PV → Prop} {m : Sem Value} (hr : m.run P w = .ok (.bool b) w) (h : K (.one (.c (.bool b)))) : Runs P L s.heap I w m K :=
  ⟨_, _, h, hr, RepC.bool b⟩
theorem runs_str {b : ByteArray} {K : PV → Prop} {m : Sem Value} (hr : m.run P w = .ok (.string b) w) (h : K (.one (.c (.str b)))) : Runs P L s.heap I w m K :=
  ⟨_, _, h, hr, RepC.str b⟩

theorem binInt_sound {op : BinOp} {t : TypeId} {ti : TI} {yc : Bool} {k k' : IntKind} {m n : Int} {K : PV → Prop} (h : binK op ti yc (.one (.c (.int k m))) (.one (.c (.int k' n))) K) :
    Runs P L s.heap I w (binOp op t (.int k m) (.int k' n)) K := by
  have nsh : ∀ {A : Prop}, (match decide (k = k') with | false => False | true => A) → k = k' ∧ A := fun {A} h => by
    by_cases e : k = k'
    · simp only [e, decide_true] at h; exact ⟨e, h⟩
    · simp [e] at h
  cases op <;> simp only [binK] at h
  case shl => obtain ⟨h0, z, hz, h⟩ := h; exact runs_int (by simp [binOp, Op.shift, Int.not_lt.2 h0]) hz h
  case shr => obtain ⟨h0, h⟩ := h; exact runs_int (by simp [binOp, Op.shift, Int.not_lt.2 h0]) rfl h
  all_goals (replace h := nsh h; obtain ⟨e, h⟩ := h; subst e)
  case add => obtain ⟨z, hz, h⟩ := h; exact runs_int (by simp [binOp, Op.intArith]) hz h
  case sub => obtain ⟨z, hz, h⟩ := h; exact runs_int (by simp [binOp, Op.intArith]) hz h
  case mul => obtain ⟨z, hz, h⟩ := h; exact runs_int (by simp [binOp, Op.intArith]) hz h
  case quo => obtain ⟨h0, z, hz, h⟩ := h; exact runs_int (by simp [binOp, Op.intDiv, h0]) hz h
  case rem => obtain ⟨h0, h⟩ := h; exact runs_int (by simp [binOp, Op.intDiv, h0]) rfl h
  case and => exact runs_int (by rw [binOp_and]; rfl) rfl h
  case or => exact runs_int (by rw [binOp_or]; rfl) rfl h
  case xor => exact runs_int (by rw [binOp_xor]; rfl) rfl h
  case eql => exact runs_bool (by simp [binOp, Op.intCmp]) h
  case neq => exact runs_bool (by simp [binOp, Op.intCmp]) h
  case lss => exact runs_bool (by simp [binOp, Op.intCmp]) h
  case leq => exact runs_bool (by simp [binOp, Op.intCmp]) h
  case gtr => exact runs_bool (by simp [binOp, Op.intCmp]) h
  case geq => exact runs_bool (by simp [binOp, Op.intCmp]) h
  all_goals exact h.elim

theorem binStr_sound {op : BinOp} {t : TypeId} {ti : TI} {yc : Bool} {x y : ByteArray} {K : PV → Prop} (h : binK op ti yc (.one (.c (.str x))) (.one (.c (.str y))) K) :
    Runs P L s.heap I w (binOp op t (.string x) (.string y)) K := by
  cases op <;> simp only [binK] at h
  case add =>
    obtain ⟨h0, h⟩ := h
    refine runs_str ?_ h
    simp only [binOp, Op.stringOp]
    rw [if_neg (by omega)]; rfl
  case eql => exact runs_bool (by simp [binOp, Op.stringOp]) h
  case neq => exact runs_bool (by simp [binOp, Op.stringOp]) h
  case lss => exact runs_bool (by simp [binOp, Op.stringOp]) h
  case leq => exact runs_bool (by simp [binOp, Op.stringOp]) h
  case gtr => exact runs_bool (by simp [binOp, Op.stringOp]) h
  case geq => exact runs_bool (by simp [binOp, Op.stringOp]) h
  all_goals exact h.elim

theorem guard_int (op : BinOp) (t : TypeId) (X Y : Operand) (k : IntKind) (n : Int) (v : Value) : eqGuard op t X Y (.int k n) v = pure () := by cases op <;> rfl
theorem guard_str (op : BinOp) (t : TypeId) (X Y : Operand) (b : ByteArray) (v : Value) : eqGuard op t X Y (.string b) v = pure () := by cases op <;> rfl
theorem guard_bool (op : BinOp) (t : TypeId) (X Y : Operand) (b : Bool) (v : Value) : eqGuard op t X Y (.bool b) v = pure () := by cases op <;> rfl

theorem cellsEq_val {ls : List LK} : ∀ {xs ys : List XV} {vs us : List Value} {r : Bool}, cellsEq ls xs ys = some r → vs.length = xs.length → us.length = ys.length →
    (∀ (i : Nat) (x : XV) (v : Value), xs[i]? = some x → vs[i]? = some v → RepX L s.heap I w v x) → (∀ (i : Nat) (x : XV) (v : Value), ys[i]? = some x → us[i]? = some v → RepX L s.heap I w v x) → valEq ls vs us = some r := by
  induction ls with
  | nil =>
    intro xs ys vs us r h h1 h2 _ _
    cases xs <;> cases ys <;> simp only [cellsEq, reduceCtorEq] at h
    simp only [List.length_nil, List.length_eq_zero_iff] at h1 h2
    subst h1; subst h2
    simpa [valEq] using h
  | cons l ls ih =>
    intro xs ys vs us r h h1 h2 hx hy
    cases xs with
    | nil => cases l <;> cases ys <;> simp [cellsEq] at h
    | cons x xs =>
      cases ys with
      | nil => cases l <;> cases x <;> first | (simp [cellsEq] at h; done) | (rename_i y; cases y <;> simp [cellsEq] at h)
      | cons y ys =>
        cases vs with
        | nil => simp at h1
        | cons v vs =>
          cases us with
          | nil => simp at h2
          | cons u us =>
            have g1 := hx 0 x v rfl rfl
            have g2 := hy 0 y u rfl rfl
            have ih' := fun r h => ih (xs := xs) (ys := ys) (vs := vs) (us := us) (r := r) h (by simpa using h1) (by simpa using h2) (fun i x v a b => hx (i + 1) x v (by simpa using a) (by simpa using b)) (fun i x v a b => hy (i + 1) x v (by simpa using a) (by simpa using b))
            cases x with
            | c cx =>
              cases y with
              | c cy =>
                have g1 : RepC I w v cx := g1
                have g2 : RepC I w u cy := g2
                cases l <;> cases cx <;> first | (simp [cellsEq] at h; done) | (cases cy <;> first | (simp [cellsEq] at h; done) | skip)
                · cases g1; cases g2
                  simp only [cellsEq] at h
                  split at h
                  · rename_i e1 e2 e3
                    simp only [valEq, e1, e2, ih' _ e3]; exact h
                  · cases h
                · cases g1; cases g2
                  simp only [cellsEq] at h
                  split at h
                  · rename_i e3
                    simp only [valEq, ih' _ e3]; exact h
                  · cases h
                · cases g1; cases g2
                  simp only [cellsEq] at h
                  split at h
                  · rename_i e3
                    simp only [valEq, ih' _ e3]; exact h
                  · cases h
              | _ => cases l <;> cases cx <;> simp [cellsEq] at h
            | _ => cases l <;> simp [cellsEq] at h

theorem equal_bool {t : TypeId} (hu : P.underlying t = some .bool) (m n : Bool) : (Op.equal t (.bool m) (.bool n)).run P w = .ok (m == n) w := by
  change (Op.equalIn (9999 + 1) t (.bool m) (.bool n)).run P w = _
  generalize 9999 = d
  simp [Op.equalIn, run_underlying hu]
theorem equal_nil {t : TypeId} {ms : Array (String × TypeId)} (hu : P.underlying t = some (.interface ms)) : (Op.equal t .nilIface .nilIface).run P w = .ok true w := by
  change (Op.equalIn (9999 + 1) t .nilIface .nilIface).run P w = _
  generalize 9999 = d
  simp [Op.equalIn, run_underlying hu]
theorem equal_some {t : TypeId} {ms : Array (String × TypeId)} (hu : P.underlying t = some (.interface ms)) (t' : TypeId) (v' : Value) : (Op.equal t (.iface t' v') .nilIface).run P w = .ok false w := by
  change (Op.equalIn (9999 + 1) t (.iface t' v') .nilIface).run P w = _
  generalize 9999 = d
  simp [Op.equalIn, run_underlying hu]

theorem binK_sound {op : BinOp} {t : TypeId} {ti : TI} (ht : tiOk P t ti = true) {X Y : Operand} {yc : Bool} (hyc : yc = true → ∃ c, Y = .const c) {v u : Value} {x y : PV} {K : PV → Prop} (h : binK op ti yc x y K) (hx : RepP L s.heap I w v x) (hy : RepP L s.heap I w u y) :
    Runs P L s.heap I w (do eqGuard op t X Y v u; binOp op t v u) K := by
  unfold binK at h
  split at h
  · rename_i k m k' n
    have e1 := rep_int hx; have e2 := rep_int hy
    subst e1; subst e2
    obtain ⟨pv, v', g1, g2, g3⟩ := binInt_sound (P := P) (t := t) (s := s) (L := L) (I := I) (w := w) (op := op) (ti := ti) (yc := yc) (k := k) (k' := k') (m := m) (n := n) (K := K) h
    exact ⟨pv, v', g1, by simp only [guard_int, Sem.run_bind, Sem.run_pure, Result.andThen_ok, g2], g3⟩
  · rename_i m n
    have e1 := rep_str hx; have e2 := rep_str hy
    subst e1; subst e2
    obtain ⟨pv, v', g1, g2, g3⟩ := binStr_sound (P := P) (t := t) (s := s) (L := L) (I := I) (w := w) (op := op) (ti := ti) (yc := yc) (x := m) (y := n) (K := K) h
    exact ⟨pv, v', g1, by simp only [guard_str, Sem.run_bind, Sem.run_pure, Result.andThen_ok, g2], g3⟩
  · rename_i m n
    have e1 := rep_bool hx; have e2 := rep_bool hy
    subst e1; subst e2
    split at h
    · rename_i hbo
      have hu := (known_any ht (.inr (.inr (.inr (.inr (.inr (.inr (.inr (.inr hbo))))))))).bool hbo
      refine runs_bool ?_ h
      simp only [guard_bool, Sem.run_bind, Sem.run_pure, Result.andThen_ok, binOp]
      simp only [Sem.run_bind, equal_bool hu, Result.andThen_ok, Sem.run_pure]
    · rename_i hbo
      have hu := (known_any ht (.inr (.inr (.inr (.inr (.inr (.inr (.inr (.inr hbo))))))))).bool hbo
      refine runs_bool ?_ h
      simp only [guard_bool, Sem.run_bind, Sem.run_pure, Result.andThen_ok, binOp]
      simp only [Sem.run_bind, equal_bool hu, Result.andThen_ok, Sem.run_pure]
    · exact h.elim
  · rename_i m n
    split at h
    · rename_i hif
      obtain ⟨c, rfl⟩ := hyc rfl
      have hu := (known_any ht (.inr (.inr (.inr (.inr (.inr (.inr (.inl hif)))))))).iface hif
      obtain ⟨ms, hu⟩ := hu
      have hx : RepC I w v (.iface m) := hx
      have hy : RepC I w u (.iface true) := hy
      cases hy
      cases hx with
      | nilI =>
        have hg : eqGuard op t X (.const c) .nilIface .nilIface = pure () := by cases op <;> cases X <;> rfl
        cases op <;> simp only at h
        · exact runs_bool (by simp only [hg, binOp, Sem.run_bind, Sem.run_pure, Result.andThen_ok, equal_nil hu]) h
        · exact runs_bool (by simp only [hg, binOp, Sem.run_bind, Sem.run_pure, Result.andThen_ok, equal_nil hu]) h
      | someI t' v' =>
        have hg : eqGuard op t X (.const c) (.iface t' v') .nilIface = pure () := by cases op <;> rfl
        cases op <;> simp only at h
        · exact runs_bool (by simp only [hg, binOp, Sem.run_bind, Sem.run_pure, Result.andThen_ok, equal_some hu]) h
        · exact runs_bool (by simp only [hg, binOp, Sem.run_bind, Sem.run_pure, Result.andThen_ok, equal_some hu]) h
    · exact h.elim
  · rename_i xs ys
    split at h
    · rename_i ls hag heq
      have hkn := known_any ht (.inr (.inr (.inl (by rw [heq]; simp))))
      have hag' := hkn.agg
      obtain ⟨he, hm⟩ := hkn.eq _ heq
      obtain ⟨vs, rfl, hvs⟩ := hx
      obtain ⟨us, rfl, hus⟩ := hy
      have hce : ∀ b, cellsEq ls xs ys = some b → (Op.equalIn 10000 t (.agg vs) (.agg us)).run P w = .ok b w := fun b hb => by
        have hv := cellsEq_val (s := s) (L := L) (I := I) (w := w) (vs := vs.toList) (us := us.toList) hb (by simpa using hvs.1) (by simpa using hus.1) (fun i x v a b => hvs.2 i x v a (by simpa using b)) (fun i x v a b => hus.2 i x v a (by simpa using b))
        have := eq_leaf (P := P) (w := w) 8 t ls he 10000 (by omega) vs.toList us.toList b hv
        simpa [pack, hag', hag] using this
      split at h
      · rename_i b hb
        refine runs_bool ?_ h
        simp only [Sem.run_bind, run_eqGuard_agg (P := P) w .eql t X Y vs us hm, Result.andThen_ok, run_eql_struct, hce b hb]
      · rename_i b hb
        refine runs_bool ?_ h
        simp only [Sem.run_bind, run_eqGuard_agg (P := P) w .neq t X Y vs us hm, Result.andThen_ok, run_neq_struct, hce b hb]
      · exact h.elim
    · exact h.elim
  · exact h.elim

end

end Go.Proofs.Ytjolahiflldepab.Pi
