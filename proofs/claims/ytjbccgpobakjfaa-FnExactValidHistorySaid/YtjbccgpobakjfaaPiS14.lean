/- Every operation of a region whose order is fixed: sound. No statement of the seat is proved here. -/
import Derived.Test.YtjbccgpobakjfaaPiS13
namespace Go.Proofs.Ytjbccgpobakjfaa.Pi
open Go Go.RowKit
set_option linter.unusedVariables false
set_option linter.unusedSimpArgs false

section
variable {P : Program} {C : Ctx} {L : Lay} {I : Nat → Prop} {s : St} {a : Act} {w : World}

theorem nextcap_le {need c : Nat} (h : c < need) : Builtin.nextslicecap need c ≤ 2 * need + 256 := by
  have grow : ∀ (n c : Nat), Builtin.growBy need n c ≤ max c (2 * need + 256) := by
    intro n
    induction n with
    | zero => intro c; simp [Builtin.growBy]; omega
    | succ n ih =>
      intro c
      simp only [Builtin.growBy]
      split
      · omega
      · have := ih (c + (c + 768) / 4); omega
  unfold Builtin.nextslicecap
  split
  · omega
  · split
    · omega
    · have := grow 4 c; omega

theorem choose_cap (need sCap : Nat) (e : TypeId) (h : need < 2 ^ 63) : ∃ c, need ≤ c ∧ (choose (.appendCap need sCap e)).run P w = .ok c { w with drawn := w.drawn + 1 } := by
  refine ⟨(Question.appendCap need sCap e).cut (w.tape w.drawn (Question.appendCap need sCap e)), ?_, ?_⟩
  · simp only [Question.cut]; omega
  · rw [run_choose]; simp [Question.forced]

theorem zeroCells_size (z : Array Value) (n : Nat) : (Builtin.zeroCells z n).size = n * z.size := by simp [Builtin.zeroCells]

/-- The run of an append that finds no room (or has no array yet). -/
theorem run_append_new {t t2 ty : TypeId} {e : TypeId} {ie : TypeInfo} {zv : Value} {u : Value} {base : Option Addr} {n m sCap sz : Nat} {old new : Array Value} (hu : P.underlying t = some (.slice e)) (hie : P.info? e = some ie) (hs : ie.size = sz) (hb0 : 0 < ie.bytes) (hb1 : ie.bytes ≤ 1048576) (hz : ie.zero = some zv)
    (hu2 : ∃ d, P.underlying t2 = some d ∧ ∀ k, d ≠ .int k) (hlen : (Builtin.lenOf u).run P w = .ok m w) (hnew : ∀ w', w'.heap = w.heap → (Builtin.firstCells sz m u).run P w' = .ok new w') (hold : ∀ w', w'.heap = w.heap → (Builtin.firstCells sz n (.slice base n sCap)).run P w' = .ok old w')
    (hbig : (n + m) * ie.bytes ≤ 2 ^ 46) (hroom : ¬ n + m ≤ sCap) :
    ∃ (cap : Nat) (w1 : World), n + m ≤ cap ∧ (w1.heap = w.heap ∧ w1.os = w.os ∧ w1.tape = w.tape ∧ w1.output = w.output) ∧
      (Builtin.append_ #[t, t2] ty #[.slice base n sCap, u]).run P w = .ok (.slice (some ⟨w.heap.size, 0, none⟩) (n + m) cap) (w1.alloc (.cells (old ++ new ++ Builtin.zeroCells zv.cells (cap - (n + m))) e)) := by
  obtain ⟨d, hd, hnd⟩ := hu2
  have hnle : n + m ≤ 2 ^ 46 := Nat.le_trans (Nat.le_mul_of_pos_right _ hb0) hbig
  obtain ⟨cap, h1, h2⟩ := choose_cap (P := P) (w := w) (n + m) sCap e (by omega)
  refine ⟨cap, { w with drawn := w.drawn + 1 }, h1, ⟨rfl, rfl, rfl, rfl⟩, ?_⟩
  have hnz : (match d with | .int _ => true | _ => false) = false := by cases d <;> first | rfl | exact absurd rfl (hnd _)
  have hbound : ¬ Builtin.nextslicecap (n + m) sCap * ie.bytes > 2 ^ 48 := by
    have := nextcap_le (need := n + m) (c := sCap) (by omega)
    have h3 : Builtin.nextslicecap (n + m) sCap * ie.bytes ≤ (2 * (n + m) + 256) * ie.bytes := Nat.mul_le_mul_right _ this
    rw [Nat.add_mul, Nat.mul_assoc] at h3
    have h4 : 256 * ie.bytes ≤ 256 * 1048576 := Nat.mul_le_mul_left _ hb1
    omega
  have hpan : ¬ (((n + m : Nat) : Int) > IntKind.i64.max ∧ ((false = true) ∨ ie.bytes = 0)) := by
    intro ⟨_, h⟩; rcases h with h | h
    · cases h
    · omega
  have hn' := hnew { w with drawn := w.drawn + 1 } rfl
  have ho' := hold { w with drawn := w.drawn + 1 } rfl
  unfold Builtin.append_
  simp only [List.getElem?_toArray, List.getElem?_cons_zero, List.getElem?_cons_succ, Sem.run_bind, run_underlying hu, Result.andThen_ok, run_size hie, hs, run_underlying hd, Sem.run_pure]
  simp only [Bool.false_eq_true, if_false, Sem.run_bind, hlen, Result.andThen_ok, Sem.run_ite, Bool.not_false, if_true]
  rw [if_neg hroom]
  have hpan2 : ¬ (((n + m : Nat) : Int) > IntKind.i64.max ∧ (False ∨ ie.bytes = 0)) := by
    intro ⟨_, h⟩; rcases h with h | h
    · exact h
    · omega
  simp only [Sem.run_bind, run_info hie, Result.andThen_ok, Sem.run_ite, if_neg hpan2, if_neg hbound, h2, run_askRoom, ho', hn', zeroValue, hz, Sem.run_pure, newRow, run_newObj]
  rfl

/-- The run of an append that finds room. -/
theorem run_append_room' {t t2 ty e : TypeId} {ie : TypeInfo} {u : Value} {b n m sCap sz : Nat} {new : Array Value} (hu : P.underlying t = some (.slice e)) (hie : P.info? e = some ie) (hs : ie.size = sz)
    (hu2 : ∃ d, P.underlying t2 = some d ∧ ∀ k, d ≠ .int k) (hlen : (Builtin.lenOf u).run P w = .ok m w) (hnew : (Builtin.firstCells sz m u).run P w = .ok new w) (hroom : n + m ≤ sCap)
    {w' : World} (hst : (storeCells ⟨b, n * sz, none⟩ new.toList 0).run P w = .ok () w') :
    (Builtin.append_ #[t, t2] ty #[.slice (some ⟨b, 0, none⟩) n sCap, u]).run P w = .ok (.slice (some ⟨b, 0, none⟩) (n + m) sCap) w' := by
  obtain ⟨d, hd, hnd⟩ := hu2
  have hadd : Addr.add ⟨b, 0, none⟩ (n * sz) = ⟨b, n * sz, none⟩ := by rw [add_plain]; simp
  unfold Builtin.append_
  simp only [List.getElem?_toArray, List.getElem?_cons_zero, List.getElem?_cons_succ, Sem.run_bind, run_underlying hu, Result.andThen_ok, run_size hie, hs, run_underlying hd, Sem.run_pure]
  simp only [Bool.false_eq_true, if_false, Sem.run_bind, hlen, Result.andThen_ok, Sem.run_ite, Bool.not_false, if_true]
  rw [if_pos hroom]
  simp only [Sem.run_bind, hnew, Result.andThen_ok, hadd, hst, Sem.run_pure]

/-- The run of an append of nothing to nothing. -/
theorem run_append_none {t t2 ty e : TypeId} {ie : TypeInfo} {u : Value} {sz : Nat} {new : Array Value} (hu : P.underlying t = some (.slice e)) (hie : P.info? e = some ie) (hs : ie.size = sz)
    (hu2 : ∃ d, P.underlying t2 = some d ∧ ∀ k, d ≠ .int k) (hlen : (Builtin.lenOf u).run P w = .ok 0 w) (hnew : (Builtin.firstCells sz 0 u).run P w = .ok new w) :
    (Builtin.append_ #[t, t2] ty #[.slice none 0 0, u]).run P w = .ok (.slice none 0 0) w := by
  obtain ⟨d, hd, hnd⟩ := hu2
  unfold Builtin.append_
  simp only [List.getElem?_toArray, List.getElem?_cons_zero, List.getElem?_cons_succ, Sem.run_bind, run_underlying hu, Result.andThen_ok, run_size hie, hs, run_underlying hd, Sem.run_pure]
  simp only [Bool.false_eq_true, if_false, Sem.run_bind, hlen, Result.andThen_ok, Sem.run_ite, Bool.not_false, if_true]
  rw [if_pos (by omega)]
  simp only [Sem.run_bind, hnew, Result.andThen_ok, Sem.run_pure]

theorem rows_append {I : Nat → Prop} {w : World} {sz : Nat} (hsz : 0 < sz) {rows es : List (List CV)} {old new rest : Array Value} (h1 : Flat I w sz rows old) (h2 : Flat I w sz es new) :
    (∀ (i : Nat) (r : List CV), (rows ++ es)[i]? = some r → r.length = sz) ∧ ∀ (i : Nat) (r : List CV) (j : Nat) (c : CV), (rows ++ es)[i]? = some r → r[j]? = some c → ∃ u, (old ++ new ++ rest)[i * sz + j]? = some u ∧ RepC I w u c := by
  have hlen : ∀ (i : Nat) (r : List CV), (rows ++ es)[i]? = some r → r.length = sz := fun i r hr => by
    by_cases hi : i < rows.length
    · rw [List.getElem?_append_left hi] at hr; exact h1.len i r hr
    · rw [List.getElem?_append_right (by omega)] at hr; exact h2.len _ r hr
  refine ⟨hlen, fun i r j c hr hc => ?_⟩
  have hj : j < sz := by rw [← hlen i r hr]; exact (List.getElem?_eq_some_iff.1 hc).1
  by_cases hi : i < rows.length
  · rw [List.getElem?_append_left hi] at hr
    obtain ⟨u, q1, q2⟩ := h1.rep i r j c hr hc
    have hlt : i * sz + j < old.size := (Array.getElem?_eq_some_iff.1 q1).1
    refine ⟨u, ?_, q2⟩
    rw [Array.append_assoc, Array.getElem?_append_left hlt]; exact q1
  · rw [List.getElem?_append_right (by omega)] at hr
    obtain ⟨u, q1, q2⟩ := h2.rep _ r j c hr hc
    have hlt : (i - rows.length) * sz + j < new.size := (Array.getElem?_eq_some_iff.1 q1).1
    have e : i * sz + j = old.size + ((i - rows.length) * sz + j) := by
      rw [h1.size]
      have : i * sz = rows.length * sz + (i - rows.length) * sz := by rw [← Nat.add_mul]; congr 1; omega
      omega
    refine ⟨u, ?_, q2⟩
    rw [e, Array.append_assoc, Array.getElem?_append_right (by omega), Nat.add_sub_cancel_left, Array.getElem?_append_left hlt]
    exact q1

theorem appendM_goes {o : Oper} {c : Call} {x y : Operand} {t t2 : TypeId} {ti ti2 : TI} (ht : tiOk P t ti = true) (ht2 : tiOk P t2 ti2 = true) (hi : Inv C L I s a w) (ho : o.op = .call c) (hc : c.callee = .builtin .append) (hargs : c.args.toList = [x, y]) (hts : c.argTypes.toList = [t, t2]) {k2 : Nat} {px py : PV} {K : PV → St → Prop}
    (hx : RepP L s.heap I w (a.eval x) px) (hy : RepP L s.heap I w (a.eval y) py) (h : appendM ti ti2 k2 s px py K) : ∃ pv s', K pv s' ∧ GoesM P C s' a w o pv := by
  have hca : c.args = #[x, y] := by apply Array.ext'; simpa using hargs
  have hct : c.argTypes = #[t, t2] := by apply Array.ext'; simpa using hts
  have hexec : ∀ {v : Value} {w' : World}, (Builtin.append_ #[t, t2] o.type #[a.eval x, a.eval y]).run P w = .ok v w' → (execOp a.eval o).run P w = .ok (.value v) w' := fun {v w'} hr => by
    simp [execOp, ho, resolve, hc, hca, hct, invoke, builtin, hr]
  unfold appendM at h
  split at h
  · rename_i sz bytes hsl hok
    have hkn := known_any ht (.inl (by rw [hsl]; simp))
    obtain ⟨hu, hsz0, ie, hie, hs, hby, ⟨hb0, hb1⟩, zv, hzv, hzs, _⟩ := hkn.slice _ _ hsl
    subst hby
    have hu2 : ∃ d, P.underlying t2 = some d ∧ ∀ k, d ≠ .int k := by
      simp only [Bool.or_eq_true] at hok
      rcases hok with hok | hok
      · obtain ⟨⟨s2, b2⟩, h2⟩ := Option.isSome_iff_exists.1 hok
        exact ⟨_, ((known_any ht2 (.inl (by rw [h2]; simp))).slice _ _ h2).1, fun k h => by cases h⟩
      · exact ⟨_, (known_any ht2 (.inr (.inr (.inr (.inr (.inl hok)))))).str hok, fun k h => by cases h⟩
    replace h := rowsOf_sound (P := P) hi hsz0 h hy
    obtain ⟨es, new, h, hlen, hnew, hflat⟩ := h
    have none : ∀ {s1 : St} {K1 : St → Prop}, a.eval x = .slice none 0 0 → Inv C L I s1 a w → es.length * ie.bytes ≤ 2 ^ 46 → newK k2 (.arr sz es) s1 K1 → ∃ s', K1 s' ∧ GoesM P C s' a w o (.one (.rs k2)) := fun {s1 K1} hv hi1 hbig hK => by
      by_cases he : es = []
      · subst he
        obtain ⟨s', L', g1, g2, g3⟩ := newNil hK hi1
        refine ⟨s', g1, goesM_run (hexec ?_) g2 g3⟩
        rw [hv]
        exact run_append_none hu hie hs hu2 hlen (hnew w rfl)
      · have hpos : 0 < es.length := List.length_pos_iff.2 he
        obtain ⟨cap, w1, g1, g2, g3⟩ := run_append_new (P := P) (w := w) (t2 := t2) (ty := o.type) (base := Option.none) (n := 0) (sCap := 0) (old := #[]) hu hie hs hb0 hb1 hzv hu2 hlen hnew (fun _ _ => rfl) (by simpa using hbig) (by omega)
        obtain ⟨q1, q2⟩ := rows_append (rest := Builtin.zeroCells zv.cells (cap - (0 + es.length))) hsz0 (rows := []) (old := #[]) ⟨by simp, fun i r h => by simp at h, fun i r j c h => by simp at h⟩ hflat
        simp only [List.nil_append] at q1 q2
        obtain ⟨s', L', e1, e2, e3⟩ := newArr (w1 := w1) (cap := cap) (e := ti.elem) (cells := #[] ++ new ++ Builtin.zeroCells zv.cells (cap - (0 + es.length))) hK hi1 g2 (by omega) (by
          simp only [Array.size_append, zeroCells_size, hflat.size, hzs, List.size_toArray, List.length_nil]
          rw [Nat.zero_add, ← Nat.add_mul]; exact Nat.mul_le_mul_right _ (by omega)) q1 q2
        refine ⟨s', e1, goesM_run (v := .slice (some ⟨w.heap.size, 0, Option.none⟩) (0 + es.length) cap) (hexec ?_) e2 (by rw [Nat.zero_add]; exact e3)⟩
        rw [hv]
        simpa using g3
    split at h
    · rename_i sz'
      split at h
      · obtain ⟨hbig, hK⟩ := h
        obtain ⟨s', h1, h2⟩ := none hx hi hbig hK
        exact ⟨_, s', h1, h2⟩
      · exact h.elim
    · rename_i k
      split at h
      · rename_i sz' rows hf
        split at h
        · rename_i hbq
          have e := beq_iff.1 hbq
          subst e
          obtain ⟨hbig, hK⟩ := h
          obtain ⟨s1, hK, hi1, hnone, hfs, _⟩ := killK_inv hK hi
          obtain ⟨_, _, g1, g2⟩ := hx
          rw [hf] at g1; cases g1
          have ho := hi.heap.ob k _ hf
          cases hbk : L.blk k with
          | none =>
            simp only [RepO, hbk] at ho
            simp only [hbk] at g2
            subst ho
            simp only [List.nil_append, List.length_nil, Nat.zero_add] at hK hbig
            obtain ⟨s', h1, h2⟩ := none g2 hi1 hbig hK
            exact ⟨_, s', h1, h2⟩
          | some b =>
            simp only [hbk] at g2
            have ho' := ho
            simp only [RepO, hbk] at ho
            obtain ⟨hcap, hrl, cur, ce, fr, hcur, hfit, hfz, hrep⟩ := ho
            obtain ⟨hO, hnI, hlt⟩ := hi.heap.own k _ b hf hbk
            have hnob : ∀ j o', find s1.heap j = some o' → L.blk j ≠ some b := fun j o' hj hbj => by
              by_cases e : j = k
              · rw [e, hnone] at hj; cases hj
              · rw [hfs j e] at hj
                cases hj' : find s.heap j with
                | none => simp [hj'] at hj
                | some o3 => exact e (hi.heap.inj j k o3 _ b hj' hf hbj hbk)
            by_cases hroom : rows.length + es.length ≤ L.cap k
            · obtain ⟨w', hst, hwr⟩ := run_storeCells (P := P) (o := rows.length * sz) new.toList 0 w cur ce fr hcur (by
                have h1 : (rows.length + es.length) * sz ≤ L.cap k * sz := Nat.mul_le_mul_right _ hroom
                rw [Nat.add_mul] at h1
                simp only [Array.length_toList, hflat.size]; omega) hfz (hflat.one hsz0)
              obtain ⟨cur', z1, z2, z3⟩ := hwr.row cur ce fr hcur
              have hi2 := hi1.other hwr.size hwr.other hwr.os hwr.tape hwr.output hO hnI hnob
              have hmono : ∀ {v c}, RepC I w v c → RepC I w' v c := fun h => h.mono (fun _ h => h) (fun b' hb' => hwr.other b' fun e => hnI (e ▸ hb'))
              obtain ⟨s', e1, e2, e3, _, _⟩ := newK_inv (w' := w') hK hi2 (fun _ _ => rfl) (Nat.le_refl _) rfl rfl rfl (some b) (L.cap k) (fun b' hb' => by
                cases hb'
                exact ⟨hO, hnI, by rw [hwr.size]; exact hlt, fun j o' _ hj => hnob j o' hj⟩) (fun H' _ _ => by
                simp only [RepO, Lay.upd, if_true]
                refine ⟨by simpa using hroom, fun i r hr => ?_, cur', ce, fr, z1, by rw [z2]; exact hfit, fun o ho => ?_, fun i r j cc hr hcc => ?_⟩
                · by_cases hil : i < rows.length
                  · rw [List.getElem?_append_left hil] at hr; exact hrl i r hr
                  · rw [List.getElem?_append_right (by omega)] at hr; exact hflat.len _ r hr
                · have : w'.frozen? ⟨b, o, Option.none⟩ = w.frozen? ⟨b, o, Option.none⟩ := by simp [World.frozen?, z1, hcur]
                  rw [this]; exact hfz o (by rw [← z2]; exact ho)
                · rw [z3]
                  simp only [Nat.add_zero, Array.length_toList, hflat.size]
                  by_cases hil : i < rows.length
                  · rw [List.getElem?_append_left hil] at hr
                    have hj : j < sz := by rw [← hrl i r hr]; exact (List.getElem?_eq_some_iff.1 hcc).1
                    have hlt2 : i * sz + j < rows.length * sz := by
                      have : (i + 1) * sz ≤ rows.length * sz := Nat.mul_le_mul_right _ hil
                      rw [Nat.add_mul] at this; omega
                    rw [if_neg (by omega)]
                    obtain ⟨v, q1, q2⟩ := hrep i r j cc hr hcc
                    exact ⟨v, q1, hmono q2⟩
                  · rw [List.getElem?_append_right (by omega)] at hr
                    obtain ⟨u, q1, q2⟩ := hflat.rep _ r j cc hr hcc
                    have hlt2 : (i - rows.length) * sz + j < es.length * sz := by rw [← hflat.size]; exact (Array.getElem?_eq_some_iff.1 q1).1
                    have e : i * sz + j = rows.length * sz + ((i - rows.length) * sz + j) := by
                      have : i * sz = rows.length * sz + (i - rows.length) * sz := by rw [← Nat.add_mul]; congr 1; omega
                      omega
                    rw [if_pos (by omega)]
                    refine ⟨u, ?_, hmono q2⟩
                    rw [e, Nat.add_sub_cancel_left]; simpa using q1)
              refine ⟨_, s', e1, goesM_run (v := .slice (some ⟨b, 0, Option.none⟩) (rows.length + es.length) (L.cap k)) (hexec ?_) e2 ⟨sz, rows ++ es, e3, ?_⟩⟩
              · rw [g2]
                exact run_append_room' hu hie hs hu2 hlen (hnew w rfl) hroom hst
              · simp [Lay.upd]
            · obtain ⟨f, hf'⟩ := row_at hi hf hbk
              obtain ⟨old, p1, p2⟩ := flat_load (P := P) (b := b) (off := 0) (f := fun i j => f (i * sz + j)) hsz0 rfl hrl (fun i r j c h1 h2 => by rw [Nat.zero_add]; exact hf' i r j c h1 h2)
              obtain ⟨cap, w1, r1, r2, r3⟩ := run_append_new (P := P) (w := w) (t2 := t2) (ty := o.type) (base := some ⟨b, 0, Option.none⟩) (n := rows.length) (sCap := L.cap k) (old := old) hu hie hs hb0 hb1 hzv hu2 hlen hnew (fun w' hw' => p1 w' hw') hbig hroom
              obtain ⟨q1, q2⟩ := rows_append (rest := Builtin.zeroCells zv.cells (cap - (rows.length + es.length))) hsz0 p2 hflat
              obtain ⟨s', L', e1, e2, e3⟩ := newArr (w1 := w1) (cap := cap) (e := ti.elem) (cells := old ++ new ++ Builtin.zeroCells zv.cells (cap - (rows.length + es.length))) hK hi1 r2 (by simpa using r1) (by
                simp only [Array.size_append, zeroCells_size, hflat.size, hzs, p2.size]
                rw [← Nat.add_mul, ← Nat.add_mul]; exact Nat.mul_le_mul_right _ (by omega)) q1 q2
              refine ⟨_, s', e1, goesM_run (v := .slice (some ⟨w.heap.size, 0, Option.none⟩) (rows.length + es.length) cap) (hexec ?_) e2 (by rw [← List.length_append]; exact e3)⟩
              rw [g2]
              simpa using r3
        · exact h.elim
      · exact h.elim
    · exact h.elim
  · exact h.elim

end

end Go.Proofs.Ytjbccgpobakjfaa.Pi
