/- Every operation of a region whose order is fixed: sound. No statement of the seat is proved here. -/
import Derived.Test.YtjolahiflldepabPiS13
namespace Go.Proofs.Ytjolahiflldepab.Pi
open Go Go.RowKit
set_option linter.unusedVariables false
set_option linter.unusedSimpArgs false

section
variable {P : Program} {C : Ctx} {L : Lay} {I : Nat → Prop} {s : St} {a : Act} {w : World}

theorem nextcap_le {need c : Nat} (h : c < need) : Builtin.nextslicecap need c ≤ 2 * need + 256 := by
  have grow : ∀ (n c : Nat), Builtin.growBy need n c ≤ max c (2 * need + 256) := by
    intro n
    induction n with
    | zero => intro c; simp [Builtin.growBy]; omega
    | succ n ih =>
      intro c
      simp only [Builtin.growBy]
      split
      · omega
      · have := ih (c + (c + 768) / 4); omega
  unfold Builtin.nextslicecap
  split
  · omega
  · split
    · omega
    · have := grow 4 c; omega

theorem choose_cap (need sCap : Nat) (e : TypeId) (h : need < 2 ^ 63) : ∃ c, need ≤ c ∧ (choose (.appendCap need sCap e)).run P w = .ok c { w with drawn := w.drawn + 1 } := by
  refine ⟨(Question.appendCap need sCap e).cut (w.tape w.drawn (Question.appendCap need sCap e)), ?_, ?_⟩
  · simp only [Question.cut]; omega
  · rw [run_choose]; simp [Question.forced]

theorem zeroCells_size (z : Array Value) (n : Nat) : (Builtin.zeroCells z n).size = n * z.size := by simp [Builtin.zeroCells]

/-- The run of an append that finds no room (or has no array yet). -/
theorem run_append_new {t t2 ty : TypeId} {e : TypeId} {ie : TypeInfo} {zv : Value} {u : Value} {base : Option Addr} {n m sCap sz : Nat} {old new : Array Value} (hu : P.underlying t = some (.slice e)) (hie : P.info? e = some ie) (hs : ie.size = sz) (hb0 : 0 < ie.bytes) (hb1 : ie.bytes ≤ 1048576) (hz : ie.zero = some zv)
    (hu2 : ∃ d, P.underlying t2 = some d ∧ ∀ k, d ≠ .int k) (hlen : (Builtin.lenOf u).run P w = .ok m w) (hnew : ∀ w', w'.heap = w.heap → (Builtin.firstCells sz m u).run P w' = .ok new w') (hold : ∀ w', w'.heap = w.heap → (Builtin.firstCells sz n (.slice base n sCap)).run P w' = .ok old w')
    (hbig : (n + m) * ie.bytes ≤ 2 ^ 46) (hroom : ¬ n + m ≤ sCap) :
    ∃ (cap : Nat) (w1 : World), n + m ≤ cap ∧ (w1.heap = w.heap ∧ w1.os = w.os ∧ w1.tape = w.tape ∧ w1.output = w.output) ∧
      (Builtin.append_ #[t, t2] ty #[.slice base n sCap, u]).run P w = .ok (.slice (some ⟨w.heap.size, 0, none⟩) (n + m) cap) (w1.alloc (.cells (old ++ new ++ Builtin.zeroCells zv.cells (cap - (n + m))) e)) := by
  obtain ⟨d, hd, hnd⟩ := hu2
  have hnle : n + m ≤ 2 ^ 46 := Nat.le_trans (Nat.le_mul_of_pos_right _ hb0) hbig
  obtain ⟨cap, h1, h2⟩ := choose_cap (P := P) (w := w) (n + m) sCap e (by omega)
  refine ⟨cap, { w with drawn := w.drawn + 1 }, h1, ⟨rfl, rfl, rfl, rfl⟩, ?_⟩
  have hnz : (match d with | .int _ => true | _ => false) = false := by cases d <;> first | rfl | exact absurd rfl (hnd _)
  have hbound : ¬ Builtin.nextslicecap (n + m) sCap * ie.bytes > 2 ^ 48 := by
    have := nextcap_le (need := n + m) (c := sCap) (by omega)
    have h3 : Builtin.nextslicecap (n + m) sCap * ie.bytes ≤ (2 * (n + m) + 256) * ie.bytes := Nat.mul_le_mul_right _ this
    rw [Nat.add_mul, Nat.mul_assoc] at h3
    have h4 : 256 * ie.bytes ≤ 256 * 1048576 := Nat.mul_le_mul_left _ hb1
    omega
  have hpan : ¬ (((n + m : Nat) : Int) > IntKind.i64.max ∧ ((false = true) ∨ ie.bytes = 0)) := by
    intro ⟨_, h⟩; rcases h with h | h
    · cases h
    · omega
  have hn' := hnew { w with drawn := w.drawn + 1 } rfl
  have ho' := hold { w with drawn := w.drawn + 1 } rfl
  unfold Builtin.append_
  simp only [List.getElem?_toArray, List.getElem?_cons_zero, List.getElem?_cons_succ, Sem.run_bind, run_underlying hu, Result.andThen_ok, run_size hie, hs, run_underlying hd, Sem.run_pure]
  simp only [Bool.false_eq_true, if_false, Sem.run_bind, hlen, Result.andThen_ok, Sem.run_ite, Bool.not_false, if_true]
  rw [if_neg hroom]
  have hpan2 : ¬ (((n + m : Nat) : Int) > IntKind.i64.max ∧ (False ∨ ie.bytes = 0)) := by
    intro ⟨_, h⟩; rcases h with h | h
    · exact h
    · omega
  simp only [Sem.run_bind, run_info hie, Result.andThen_ok, Sem.run_ite, if_neg hpan2, if_neg hbound, h2, run_askRoom, ho', hn', zeroValue, hz, Sem.run_pure, newRow, run_newObj]
  rfl

/-- The run of an append that finds room. -/
theorem run_append_room' {t t2 ty e : TypeId} {ie : TypeInfo} {u : Value} {b n m sCap sz : Nat} {new : Array Value} (hu : P.underlying t = some (.slice e)) (hie : P.info? e = some ie) (hs : ie.size = sz)
    (hu2 : ∃ d, P.underlying t2 = some d ∧ ∀ k, d ≠ .int k) (hlen : (Builtin.lenOf u).run P w = .ok m w) (hnew : (Builtin.firstCells sz m u).run P w = .ok new w) (hroom : n + m ≤ sCap)
    {w' : World} (hst : (storeCells ⟨b, n * sz, none⟩ new.toList 0).run P w = .ok () w') :
    (Builtin.append_ #[t, t2] ty #[.slice (some ⟨b, 0, none⟩) n sCap, u]).run P w = .ok (.slice (some ⟨b, 0, none⟩) (n + m) sCap) w' := by
  obtain ⟨d, hd, hnd⟩ := hu2
  have hadd : Addr.add ⟨b, 0, none⟩ (n * sz) = ⟨b, n * sz, none⟩ := by rw [add_plain]; simp
  unfold Builtin.append_
  simp only [List.getElem?_toArray, List.getElem?_cons_zero, List.getElem?_cons_succ, Sem.run_bind, run_underlying hu, Result.andThen_ok, run_size hie, hs, run_underlying hd, Sem.run_pure]
  simp only [Bool.false_eq_true, if_false, Sem.run_bind, hlen, Result.andThen_ok, Sem.run_ite, Bool.not_false, if_true]
  rw [if_pos hroom]
  simp only [Sem.run_bind, hnew, Result.andThen_ok, hadd, hst, Sem.run_pure]

/-- The run of an append of nothing to nothing. -/
theorem run_append_none {t t2 ty e : TypeId} {ie : TypeInfo} {u : Value} {sz : Nat} {new : Array Value} (hu : P.underlying t = some (.slice e)) (hie : P.info? e = some ie) (hs : ie.size = sz)
    (hu2 : ∃ d, P.underlying t2 = some d ∧ ∀ k, d ≠ .int k) (hlen : (Builtin.lenOf u).run P w = .ok 0 w) (hnew : (Builtin.firstCells sz 0 u).run P w = .ok new w) :
    (Builtin.append_ #[t, t2] ty #[.slice none 0 0, u]).run P w = .ok (.slice none 0 0) w := by
  obtain ⟨d, hd, hnd⟩ := hu2
  unfold Builtin.append_
  simp only [List.getElem?_toArray, List.getElem?_cons_zero, List.getElem?_cons_succ, Sem.run_bind, run_underlying hu, Result.andThen_ok, run_size hie, hs, run_underlying hd, Sem.run_pure]
  simp only [Bool.false_eq_true, if_false, Sem.run_bind, hlen, Result.andThen_ok, Sem.run_ite, Bool.not_false, if_true]
  rw [if_pos (by omega)]
  simp only [Sem.run_bind, hnew, Result.andThen_ok, Sem.run_pure]

theorem rows_append {I : Nat → Prop} {w : World} {sz : Nat} (hsz : 0 < sz) {rows es : List (List CV)} {old new rest : Array Value} (h1 : Flat I w sz rows old) (h2 : Flat I w sz es new) :
    (∀ (i : Nat) (r : List CV), (rows ++ es)[i]? = some r → r.length = sz) ∧ ∀ (i : Nat) (r : List CV) (j : Nat) (c : CV), (rows ++ es)[i]? = some r → r[j]? = some c → ∃ u, (old ++ new ++ rest)[i * sz + j]? = some u ∧ RepC I w u c := by
  have hlen : ∀ (i : Nat) (r : List CV), (rows ++ es)[i]? = some r → r.length = sz := fun i r hr => by
    by_cases hi : i < rows.length
    · rw [List.getElem?_append_left hi] at hr; exact h1.len i r hr
    · rw [List.getElem?_append_right (by omega)] at hr; exact h2.len _ r hr
  refine ⟨hlen, fun i r j c hr hc => ?_⟩
  have hj : j < sz := by rw [← hlen i r hr]; exact (List.getElem?_eq_some_iff.1 hc).1
  by_cases hi : i < rows.length
  · rw [List.getElem?_append_left hi] at hr
    obtain ⟨u, q1, q2⟩ := h1.rep i r j c hr hc
    have hlt : i * sz + j < old.size := (Array.getElem?_eq_some_iff.1 q1).1
    refine ⟨u, ?_, q2⟩
    rw [Array.append_assoc, Array.getElem?_append_left hlt]; exact q1
  · rw [List.getElem?_append_right (by omega)] at hr
    obtain ⟨u, q1, q2⟩ := h2.rep _ r j c hr hc
    have hlt : (i - rows.length) * sz + j < new.size := (Array.getElem?_eq_some_iff.1 q1).1
    have e : i * sz + j = old.size + ((i - rows.length) * sz + j) := by
      rw [h1.size]
      have : i * sz = rows.length * sz + (i - rows.length) * sz := by rw [← Nat.add_mul]; congr 1; omega
      omega
    refine ⟨u, ?_, q2⟩
    rw [e, Array.append_assoc, Array.getElem?_append_right (by omega), Nat.add_sub_cancel_left, Array.getElem?_append_left hlt]
    exact q1

/-! ### deep rows -/
/-- The cells of rows that are read one behind the other, their nested slices in 'J'. -/
structure FlatD (w : World) (J : Nat → Prop) (sz : Nat) (es : List (List CV)) (cells : Array Value) : Prop where
  size : cells.size = es.length * sz
  len : ∀ (i : Nat) (r : List CV), es[i]? = some r → r.length = sz
  rep : ∃ Js : Nat → Nat → Prop, (∀ (i : Nat) (r : List CV) (j : Nat) (c : CV), es[i]? = some r → r[j]? = some c → ∃ u, cells[i * sz + j]? = some u ∧ RepD w (Js (i * sz + j)) u c) ∧ (∀ x b, Js x b → J b) ∧ (∀ x y b, Js x b → Js y b → x = y)

theorem FlatD.one {J : Nat → Prop} {sz : Nat} {es : List (List CV)} {cells : Array Value} (h : FlatD w J sz es cells) (hsz : 0 < sz) : ∀ v ∈ cells.toList, oneCell v := by
  intro v hv
  obtain ⟨Js, hrep, _, _⟩ := h.rep
  obtain ⟨q, hq, rfl⟩ := List.mem_iff_getElem.1 hv
  have hq' : q < es.length * sz := by rw [← h.size]; simpa using hq
  have hi : q / sz < es.length := by rw [Nat.div_lt_iff_lt_mul hsz]; exact hq'
  have hj : q % sz < sz := Nat.mod_lt _ hsz
  have hr := h.len _ es[q / sz] (List.getElem?_eq_getElem hi)
  obtain ⟨u, h1, h2⟩ := hrep (q / sz) es[q / sz] (q % sz) (es[q / sz][q % sz]'(by omega)) (List.getElem?_eq_getElem hi) (List.getElem?_eq_getElem _)
  have e : q / sz * sz + q % sz = q := by rw [Nat.mul_comm]; exact Nat.div_add_mod q sz
  rw [e] at h1
  have : cells.toList[q] = u := by
    have hq2 : q < cells.size := by simpa using hq
    rw [Array.getElem?_eq_getElem hq2] at h1
    simpa using h1
  rw [this]; exact h2.oneCell

theorem Flat.toD {J : Nat → Prop} {sz : Nat} {es : List (List CV)} {cells : Array Value} (h : Flat I w sz es cells) (hf : flatRows es) : FlatD w J sz es cells :=
  ⟨h.size, h.len, fun _ _ => False, fun i r j c h1 h2 => by
    obtain ⟨u, g1, g2⟩ := h.rep i r j c h1 h2
    exact ⟨u, g1, RepD.of_flat (hf r (List.mem_of_getElem? h1) c (List.mem_of_getElem? h2)) g2⟩, fun _ _ h => h.elim, fun _ _ _ h => h.elim⟩

theorem load_raw {b off sz n : Nat} {es : List (List CV)} {f : Nat → Nat → Value} (hsz : 0 < sz) (hn : es.length = n) (hl : ∀ (i : Nat) (r : List CV), es[i]? = some r → r.length = sz)
    (hc : ∀ (i : Nat) (r : List CV) (j : Nat) (c : CV), es[i]? = some r → r[j]? = some c → w.cell? ⟨b, off + (i * sz + j), none⟩ = some (f i j)) :
    ∃ cells, (∀ w' : World, w'.heap = w.heap → (loadCells ⟨b, off, none⟩ (n * sz)).run P w' = .ok cells w') ∧ cells.size = es.length * sz ∧ ∀ (i : Nat) (r : List CV) (j : Nat) (c : CV), es[i]? = some r → r[j]? = some c → cells[i * sz + j]? = some (f i j) := by
  have hget : ∀ q, q < n * sz → w.cell? (Addr.add ⟨b, off, none⟩ q) = some (f (q / sz) (q % sz)) := fun q hq => by
    have hi : q / sz < es.length := by rw [hn, Nat.div_lt_iff_lt_mul hsz]; exact hq
    have hj : q % sz < sz := Nat.mod_lt _ hsz
    have hr := hl _ es[q / sz] (List.getElem?_eq_getElem hi)
    have := (hc (q / sz) es[q / sz] (q % sz) (es[q / sz][q % sz]'(by omega)) (List.getElem?_eq_getElem hi) (List.getElem?_eq_getElem _))
    have e : q / sz * sz + q % sz = q := by rw [Nat.mul_comm]; exact Nat.div_add_mod q sz
    rw [e] at this
    rw [add_plain]; exact this
  refine ⟨_, fun w' hw' => run_loadCells (P := P) w' ⟨b, off, none⟩ (n * sz) (fun q => f (q / sz) (q % sz)) (fun q hq => by rw [cell_of_block (w := w) (by rw [hw'])]; exact hget q hq), by simp [hn], fun i r j c h1 h2 => ?_⟩
  have hi : i < n := by rw [← hn]; exact (List.getElem?_eq_some_iff.1 h1).1
  have hj : j < sz := by rw [← hl i r h1]; exact (List.getElem?_eq_some_iff.1 h2).1
  have hq : i * sz + j < n * sz := by
    have : (i + 1) * sz ≤ n * sz := Nat.mul_le_mul_right _ hi
    rw [Nat.add_mul] at this; omega
  have e1 : (i * sz + j) / sz = i := by rw [Nat.mul_comm, Nat.mul_add_div hsz, Nat.div_eq_of_lt hj]; rfl
  have e2 : (i * sz + j) % sz = j := by rw [Nat.mul_comm, Nat.mul_add_mod, Nat.mod_eq_of_lt hj]
  simp [hq, e1, e2]

/-- The cells of own deep rows. -/
theorem deep_load {J : Nat → Prop} {hd : Nat → Value} {b cap sz : Nat} {rows : List (List CV)} (hsz : 0 < sz) (h : DRows w J hd b cap sz rows) :
    ∃ cells, (∀ w' : World, w'.heap = w.heap → (loadCells ⟨b, 0, none⟩ (rows.length * sz)).run P w' = .ok cells w') ∧ FlatD w J sz rows cells := by
  obtain ⟨_, hl, vs, e, fr, Js, h3, _, _, h6, h7, h8⟩ := h
  obtain ⟨cells, g1, g2, g3⟩ := load_raw (P := P) (w := w) (b := b) (off := 0) (es := rows) (f := fun i j => vs.getD (i * sz + j) undef) hsz rfl hl (fun i r j c h1 h2 => by
    obtain ⟨v, q1, _⟩ := h6 i r j c h1 h2
    rw [Nat.zero_add, cell_row h3, q1]
    simp [q1])
  refine ⟨cells, g1, g2, hl, Js, fun i r j c h1 h2 => ?_, h7, h8⟩
  obtain ⟨v, q1, q2, _⟩ := h6 i r j c h1 h2
  refine ⟨_, g3 i r j c h1 h2, ?_⟩
  have e : vs.getD (i * sz + j) undef = v := by simp [q1]
  rw [e]; exact q2

/-- Two parts, one behind the other. -/
theorem joinD {w : World} {J1 J2 : Nat → Prop} {Js1 Js2 : Nat → Nat → Prop} {sz : Nat} {rows es : List (List CV)} {cells : Array Value} (hl1 : ∀ (i : Nat) (r : List CV), rows[i]? = some r → r.length = sz) (hl2 : ∀ (i : Nat) (r : List CV), es[i]? = some r → r.length = sz)
    (h1 : ∀ (i : Nat) (r : List CV) (j : Nat) (c : CV), rows[i]? = some r → r[j]? = some c → ∃ u, cells[i * sz + j]? = some u ∧ RepD w (Js1 (i * sz + j)) u c)
    (h2 : ∀ (i : Nat) (r : List CV) (j : Nat) (c : CV), es[i]? = some r → r[j]? = some c → ∃ u, cells[rows.length * sz + (i * sz + j)]? = some u ∧ RepD w (Js2 (i * sz + j)) u c)
    (hs1 : ∀ x b, Js1 x b → J1 b) (hs2 : ∀ x b, Js2 x b → J2 b) (hd : ∀ b, J1 b → ¬ J2 b) (hd1 : ∀ x y b, Js1 x b → Js1 y b → x = y) (hd2 : ∀ x y b, Js2 x b → Js2 y b → x = y) :
    (∀ (i : Nat) (r : List CV), (rows ++ es)[i]? = some r → r.length = sz) ∧ ∃ Js : Nat → Nat → Prop, (∀ (i : Nat) (r : List CV) (j : Nat) (c : CV), (rows ++ es)[i]? = some r → r[j]? = some c → ∃ u, cells[i * sz + j]? = some u ∧ RepD w (Js (i * sz + j)) u c) ∧ (∀ x b, Js x b → J1 b ∨ J2 b) ∧ (∀ x y b, Js x b → Js y b → x = y) := by
  have hlen : ∀ (i : Nat) (r : List CV), (rows ++ es)[i]? = some r → r.length = sz := fun i r hr => by
    by_cases hi : i < rows.length
    · rw [List.getElem?_append_left hi] at hr; exact hl1 i r hr
    · rw [List.getElem?_append_right (by omega)] at hr; exact hl2 _ r hr
  refine ⟨hlen, fun q b => (q < rows.length * sz ∧ Js1 q b) ∨ (rows.length * sz ≤ q ∧ Js2 (q - rows.length * sz) b), fun i r j c hr hc => ?_, fun x b h => ?_, fun x y b hx hy => ?_⟩
  · have hj : j < sz := by rw [← hlen i r hr]; exact (List.getElem?_eq_some_iff.1 hc).1
    by_cases hi : i < rows.length
    · rw [List.getElem?_append_left hi] at hr
      obtain ⟨u, q1, q2⟩ := h1 i r j c hr hc
      have hlt : i * sz + j < rows.length * sz := by
        have : (i + 1) * sz ≤ rows.length * sz := Nat.mul_le_mul_right _ hi
        rw [Nat.add_mul] at this; omega
      exact ⟨u, q1, q2.mono (fun b hb => Or.inl ⟨hlt, hb⟩) fun _ _ => rfl⟩
    · rw [List.getElem?_append_right (by omega)] at hr
      obtain ⟨u, q1, q2⟩ := h2 _ r j c hr hc
      have e : i * sz + j = rows.length * sz + ((i - rows.length) * sz + j) := by
        have : i * sz = rows.length * sz + (i - rows.length) * sz := by rw [← Nat.add_mul]; congr 1; omega
        omega
      refine ⟨u, by rw [e]; exact q1, q2.mono (fun b hb => Or.inr ⟨by omega, ?_⟩) fun _ _ => rfl⟩
      rw [e, Nat.add_sub_cancel_left]; exact hb
  · rcases h with ⟨_, h⟩ | ⟨_, h⟩
    · exact Or.inl (hs1 _ b h)
    · exact Or.inr (hs2 _ b h)
  · rcases hx with ⟨p1, hx⟩ | ⟨p1, hx⟩ <;> rcases hy with ⟨p2, hy⟩ | ⟨p2, hy⟩
    · exact hd1 _ _ b hx hy
    · exact absurd (hs2 _ b hy) (hd b (hs1 _ b hx))
    · exact absurd (hs2 _ b hx) (hd b (hs1 _ b hy))
    · have := hd2 _ _ b hx hy; omega

/-- A new own deep array in a block of its own. -/
theorem newDeep {K : St → Prop} {k sz cap : Nat} {ap : Bool} {J : Nat → Prop} {Js : Nat → Nat → Prop} {rows : List (List CV)} {w1 : World} {cells : Array Value} {e : TypeId} (hK : newK k (.deep ap sz rows) s K) (hi : Inv C L I s a w)
    (hw1 : w1.heap = w.heap ∧ w1.os = w.os ∧ w1.tape = w.tape ∧ w1.output = w.output) (hcap : rows.length ≤ cap) (hfit : cap * sz ≤ cells.size) (hl : ∀ (i : Nat) (r : List CV), rows[i]? = some r → r.length = sz)
    (hrep : ∀ (i : Nat) (r : List CV) (j : Nat) (c : CV), rows[i]? = some r → r[j]? = some c → ∃ u, cells[i * sz + j]? = some u ∧ RepD w (Js (i * sz + j)) u c) (hJs : ∀ x b, Js x b → J b) (hdis : ∀ x y b, Js x b → Js y b → x = y)
    (hJ : ∀ b, J b → C.O b ∧ ¬ I b ∧ b < w.heap.size ∧ ∀ j o', j ≠ k → find s.heap j = some o' → ¬ Foot L j b) :
    ∃ s' L', K s' ∧ Inv C L' I s' a (w1.alloc (.cells cells e)) ∧ RepX L' s'.heap I (w1.alloc (.cells cells e)) (.slice (some ⟨w.heap.size, 0, none⟩) rows.length cap) (.ds k) := by
  obtain ⟨e1, e2, e3, e4⟩ := hw1
  have hsz : (w1.alloc (.cells cells e)).heap.size = w.heap.size + 1 := by simp [e1]
  have hold : ∀ b, b < w.heap.size → (w1.alloc (.cells cells e)).heap[b]? = w.heap[b]? := fun b hb => by
    have := Below.heap_alloc w1 (.cells cells e) b (by rw [e1]; exact hb)
    rw [this, e1]
  have hnew : (w1.alloc (.cells cells e)).heap[w.heap.size]? = some (.cells cells e (0, 0)) := by
    have : w.heap.size = w1.heap.size := by rw [e1]
    rw [this]
    show (w1.heap.push _)[w1.heap.size]? = _
    simp
  obtain ⟨s', h1, h2, h3, _, _⟩ := newK_invD (w' := w1.alloc (.cells cells e)) hK hi hold (by omega) e2 e3 e4 (some w.heap.size) cap J (fun q => cells.getD q undef) (fun b hb => by
    rcases hb with hb | hb
    · cases hb
      exact ⟨C.hO _ hi.fr.size, fun h => by have := hi.Ib _ h; omega, by omega, fun j o' _ hj hbj => by have := (hi.heap.own j o' _ hj hbj).2.2; omega⟩
    · obtain ⟨g1, g2, g3, g4⟩ := hJ b hb
      exact ⟨g1, g2, by omega, g4⟩) (fun H' _ _ => by
    simp only [RepO, Lay.updD, if_true]
    refine ⟨⟨hcap, hl, cells, e, (0, 0), Js, hnew, hfit, fun o _ => frozen_new hnew o, fun i r j c g1 g2 => ?_, hJs, hdis⟩, fun h => by have := (hJ _ h).2.2.1; omega⟩
    obtain ⟨u, q1, q2⟩ := hrep i r j c g1 g2
    exact ⟨u, q1, q2.mono (fun _ h => h) (fun b hb => hold b (hJ b (hJs _ b hb)).2.2.1), fun _ => by simp [q1]⟩)
  exact ⟨s', _, h1, h2, ap, sz, rows, h3, by simp [Lay.updD]⟩

theorem newNilD {K : St → Prop} {k sz : Nat} {ap : Bool} (hK : newK k (.deep ap sz []) s K) (hi : Inv C L I s a w) : ∃ s' L', K s' ∧ Inv C L' I s' a w ∧ RepX L' s'.heap I w (.slice none 0 0) (.ds k) := by
  obtain ⟨s', h1, h2, h3, _, _⟩ := newK_inv (w' := w) hK hi (fun _ _ => rfl) (Nat.le_refl _) rfl rfl rfl none 0 (fun b hb => by cases hb) (fun H' _ _ => by simp [RepO, Lay.upd, Lay.updD])
  exact ⟨s', _, h1, h2, ap, sz, [], h3, by simp [Lay.upd, Lay.updD, emptyV]⟩

/-- What is appended to an own deep slice becomes a part of it. -/
theorem appendDeep {o : Oper} {t t2 e : TypeId} {ie : TypeInfo} {zv x y : Value} {sz : Nat} (hu : P.underlying t = some (.slice e)) (hie : P.info? e = some ie) (hs : ie.size = sz) (hsz0 : 0 < sz) (hb0 : 0 < ie.bytes) (hb1 : ie.bytes ≤ 1048576) (hzv : ie.zero = some zv) (hzs : zv.cells.size = sz)
    (hu2 : ∃ d, P.underlying t2 = some d ∧ ∀ k, d ≠ .int k) (hexec : ∀ {v : Value} {w' : World}, (Builtin.append_ #[t, t2] o.type #[x, y]).run P w = .ok v w' → (execOp a.eval o).run P w = .ok (.value v) w')
    (hi : Inv C L I s a w) {k k2 : Nat} {rows es : List (List CV)} (hf : find s.heap k = some (.deep true sz rows)) (hx : RepX L s.heap I w x (.ds k)) {s1 : St} (hi1 : Inv C L I s1 a w) (hs1 : ∀ j o, find s1.heap j = some o → ∃ o', find s.heap j = some o') (hk1 : find s1.heap k = none)
    {new : Array Value} {J : Nat → Prop} (hlen : (Builtin.lenOf y).run P w = .ok es.length w) (hnew : ∀ w', w'.heap = w.heap → (Builtin.firstCells sz es.length y).run P w' = .ok new w') (hflat : FlatD w J sz es new)
    (hJ : ∀ b, J b → C.O b ∧ ¬ I b ∧ b < w.heap.size ∧ ¬ Foot L k b ∧ ∀ j o', find s1.heap j = some o' → ¬ Foot L j b) (hbig : (rows.length + es.length) * ie.bytes ≤ 2 ^ 46) {K : St → Prop} (hK : newK k2 (.deep true sz (rows ++ es)) s1 K) :
    ∃ s', K s' ∧ GoesM P C s' a w o (.one (.ds k2)) := by
  obtain ⟨_, _, _, g1, g2⟩ := hx
  rw [hf] at g1; cases g1
  have ho := hi.heap.ob k _ hf
  obtain ⟨Js2, hr2, hj2, hd2⟩ := hflat.rep
  cases hbk : L.blk k with
  | none =>
    simp only [RepO, hbk] at ho
    simp only [hbk] at g2
    subst ho
    have hv := g2.2 trivial
    simp only [List.nil_append, List.length_nil, Nat.zero_add] at hK hbig
    by_cases he : es = []
    · subst he
      obtain ⟨s', L', g1, g2, g3⟩ := newNilD hK hi1
      refine ⟨s', g1, goesM_run (hexec ?_) g2 g3⟩
      rw [hv]
      exact run_append_none hu hie hs hu2 hlen (hnew w rfl)
    · have hpos : 0 < es.length := List.length_pos_iff.2 he
      obtain ⟨cap, w1, g1, g2, g3⟩ := run_append_new (P := P) (w := w) (t2 := t2) (ty := o.type) (base := Option.none) (n := 0) (sCap := 0) (old := #[]) hu hie hs hb0 hb1 hzv hu2 hlen hnew (fun _ _ => rfl) (by simpa using hbig) (by omega)
      obtain ⟨s', L', e1, e2, e3⟩ := newDeep (w1 := w1) (cap := cap) (e := e) (Js := Js2) (J := J) (cells := #[] ++ new ++ Builtin.zeroCells zv.cells (cap - (0 + es.length))) hK hi1 g2 (by omega) (by
        simp only [Array.size_append, zeroCells_size, hflat.size, hzs, List.size_toArray, List.length_nil]
        rw [Nat.zero_add, ← Nat.add_mul]; exact Nat.mul_le_mul_right _ (by omega)) hflat.len (fun i r j c h1 h2 => by
          obtain ⟨u, q1, q2⟩ := hr2 i r j c h1 h2
          refine ⟨u, ?_, q2⟩
          have hlt : i * sz + j < new.size := (Array.getElem?_eq_some_iff.1 q1).1
          rw [Array.getElem?_append_left (by simpa using hlt)]
          simpa using q1) hj2 hd2 (fun b hb => ⟨(hJ b hb).1, (hJ b hb).2.1, (hJ b hb).2.2.1, fun j o' _ hj => (hJ b hb).2.2.2.2 j o' hj⟩)
      refine ⟨s', e1, goesM_run (v := .slice (some ⟨w.heap.size, 0, Option.none⟩) (0 + es.length) cap) (hexec ?_) e2 (by rw [Nat.zero_add]; exact e3)⟩
      rw [hv]
      simpa using g3
  | some b =>
    simp only [hbk] at g2
    simp only [RepO, hbk] at ho
    obtain ⟨hdr, hself⟩ := ho
    have hdr' := hdr
    obtain ⟨hcap, hrl, cur, ce, fr, Js1, hcur, hfit, hfz, hrep, hj1, hd1⟩ := hdr
    obtain ⟨hO, hnI, hlt⟩ := hi.heap.own k _ b hf (.inl hbk)
    have hnok : ∀ {b'}, Foot L k b' → ∀ j o', find s1.heap j = some o' → ¬ Foot L j b' := fun {b'} hb j o' hj hbj => by
      by_cases e : j = k
      · rw [e, hk1] at hj; cases hj
      · obtain ⟨o3, hj'⟩ := hs1 j o' hj
        exact e (hi.heap.inj j k o3 _ b' hj' hf hbj hb)
    have hnob := hnok (.inl hbk)
    by_cases hroom : rows.length + es.length ≤ L.cap k
    · obtain ⟨w', hst, hwr⟩ := run_storeCells (P := P) (o := rows.length * sz) new.toList 0 w cur ce fr hcur (by
        have h1 : (rows.length + es.length) * sz ≤ L.cap k * sz := Nat.mul_le_mul_right _ hroom
        rw [Nat.add_mul] at h1
        simp only [Array.length_toList, hflat.size]; omega) hfz (hflat.one hsz0)
      obtain ⟨cur', z1, z2, z3⟩ := hwr.row cur ce fr hcur
      have hi2 := hi1.other hwr.size hwr.other hwr.os hwr.tape hwr.output hO hnI hnob
      have hget : ∀ q, q < rows.length * sz → cur'[q]? = cur[q]? := fun q hq => by rw [z3, if_neg (by omega)]
      have hget2 : ∀ q, q < es.length * sz → cur'[rows.length * sz + q]? = new[q]? := fun q hq => by
        rw [z3]
        simp only [Nat.add_zero, Array.length_toList, hflat.size]
        rw [if_pos (by omega), Nat.add_sub_cancel_left, Array.getElem?_toList]
      obtain ⟨q1, Js, q2, q3, q4⟩ := joinD (w := w') (J1 := L.fp k) (J2 := J) (Js1 := Js1) (Js2 := Js2) (cells := cur') hrl hflat.len (fun i r j c h1 h2 => by
          obtain ⟨v, p1, p2, _⟩ := hrep i r j c h1 h2
          have hi' : i < rows.length := (List.getElem?_eq_some_iff.1 h1).1
          have hj : j < sz := by rw [← hrl i r h1]; exact (List.getElem?_eq_some_iff.1 h2).1
          have hlt2 : i * sz + j < rows.length * sz := by
            have : (i + 1) * sz ≤ rows.length * sz := Nat.mul_le_mul_right _ hi'
            rw [Nat.add_mul] at this; omega
          exact ⟨v, by rw [hget _ hlt2]; exact p1, p2.mono (fun _ h => h) fun b' hb' => hwr.other b' fun e => hself (e ▸ hj1 _ b' hb')⟩) (fun i r j c h1 h2 => by
          obtain ⟨u, p1, p2⟩ := hr2 i r j c h1 h2
          have hlt2 : i * sz + j < es.length * sz := by rw [← hflat.size]; exact (Array.getElem?_eq_some_iff.1 p1).1
          exact ⟨u, by rw [hget2 _ hlt2]; exact p1, p2.mono (fun _ h => h) fun b' hb' => hwr.other b' fun e => (hJ b' (hj2 _ b' hb')).2.2.2.1 (.inl (e ▸ hbk))⟩) hj1 hj2 (fun b' h1 h2 => (hJ b' h2).2.2.2.1 (.inr h1)) hd1 hd2
      obtain ⟨s', e1, e2, e3, _, _⟩ := newK_invD (w' := w') hK hi2 (fun _ _ => rfl) (Nat.le_refl _) rfl rfl rfl (some b) (L.cap k) (fun b' => L.fp k b' ∨ J b') (fun q => cur'.getD q undef) (fun b' hb' => by
        have hown : ∀ {b'}, Foot L k b' → C.O b' ∧ ¬ I b' ∧ b' < w'.heap.size ∧ ∀ j o', j ≠ k2 → find s1.heap j = some o' → ¬ Foot L j b' := fun {b'} hb => by
          obtain ⟨x1, x2, x3⟩ := hi.heap.own k _ b' hf hb
          exact ⟨x1, x2, by rw [hwr.size]; exact x3, fun j o' _ hj => hnok hb j o' hj⟩
        rcases hb' with hb' | hb' | hb'
        · cases hb'; exact hown (.inl hbk)
        · exact hown (.inr hb')
        · obtain ⟨x1, x2, x3, x4, x5⟩ := hJ b' hb'
          exact ⟨x1, x2, by rw [hwr.size]; exact x3, fun j o' _ hj => x5 j o' hj⟩) (fun H' _ _ => by
        simp only [RepO, Lay.updD, if_true]
        refine ⟨⟨by simpa using hroom, q1, cur', ce, fr, Js, z1, by rw [z2]; exact hfit, fun o ho => ?_, fun i r j cc hr hcc => ?_, q3, q4⟩, fun h => h.elim hself fun h => (hJ b h).2.2.2.1 (.inl hbk)⟩
        · have : w'.frozen? ⟨b, o, Option.none⟩ = w.frozen? ⟨b, o, Option.none⟩ := by simp [World.frozen?, z1, hcur]
          rw [this]; exact hfz o (by rw [← z2]; exact ho)
        · obtain ⟨u, p1, p2⟩ := q2 i r j cc hr hcc
          exact ⟨u, p1, p2, fun _ => by simp [p1]⟩)
      refine ⟨s', e1, goesM_run (v := .slice (some ⟨b, 0, Option.none⟩) (rows.length + es.length) (L.cap k)) (hexec ?_) e2 ⟨true, sz, rows ++ es, e3, ?_⟩⟩
      · rw [g2]
        exact run_append_room' hu hie hs hu2 hlen (hnew w rfl) hroom hst
      · simp [Lay.updD]
    · obtain ⟨old, p1, p2⟩ := deep_load (P := P) hsz0 hdr'
      obtain ⟨Jo, ho1, ho2, ho3⟩ := p2.rep
      obtain ⟨cap, w1, r1, r2, r3⟩ := run_append_new (P := P) (w := w) (t2 := t2) (ty := o.type) (base := some ⟨b, 0, Option.none⟩) (n := rows.length) (sCap := L.cap k) (old := old) hu hie hs hb0 hb1 hzv hu2 hlen hnew (fun w' hw' => p1 w' hw') hbig hroom
      obtain ⟨q1, Js, q2, q3, q4⟩ := joinD (w := w) (J1 := L.fp k) (J2 := J) (Js1 := Jo) (Js2 := Js2) (cells := old ++ new ++ Builtin.zeroCells zv.cells (cap - (rows.length + es.length))) hrl hflat.len (fun i r j c h1 h2 => by
          obtain ⟨v, x1, x2⟩ := ho1 i r j c h1 h2
          have hlt2 : i * sz + j < old.size := (Array.getElem?_eq_some_iff.1 x1).1
          exact ⟨v, by rw [Array.append_assoc, Array.getElem?_append_left hlt2]; exact x1, x2⟩) (fun i r j c h1 h2 => by
          obtain ⟨u, x1, x2⟩ := hr2 i r j c h1 h2
          have hlt2 : i * sz + j < new.size := (Array.getElem?_eq_some_iff.1 x1).1
          refine ⟨u, ?_, x2⟩
          rw [← p2.size, Array.append_assoc, Array.getElem?_append_right (by omega), Nat.add_sub_cancel_left, Array.getElem?_append_left hlt2]
          exact x1) ho2 hj2 (fun b' h1 h2 => (hJ b' h2).2.2.2.1 (.inr h1)) ho3 hd2
      obtain ⟨s', L', e1, e2, e3⟩ := newDeep (w1 := w1) (cap := cap) (e := e) (Js := Js) (J := fun b' => L.fp k b' ∨ J b') (cells := old ++ new ++ Builtin.zeroCells zv.cells (cap - (rows.length + es.length))) hK hi1 r2 (by simpa using r1) (by
        simp only [Array.size_append, zeroCells_size, hflat.size, hzs, p2.size]
        rw [← Nat.add_mul, ← Nat.add_mul]; exact Nat.mul_le_mul_right _ (by omega)) q1 q2 q3 q4 (fun b' hb' => by
        rcases hb' with hb' | hb'
        · obtain ⟨x1, x2, x3⟩ := hi.heap.own k _ b' hf (.inr hb')
          exact ⟨x1, x2, x3, fun j o' _ hj => hnok (.inr hb') j o' hj⟩
        · obtain ⟨x1, x2, x3, x4, x5⟩ := hJ b' hb'
          exact ⟨x1, x2, x3, fun j o' _ hj => x5 j o' hj⟩)
      refine ⟨s', e1, goesM_run (v := .slice (some ⟨w.heap.size, 0, Option.none⟩) (rows.length + es.length) cap) (hexec ?_) e2 (by rw [← List.length_append]; exact e3)⟩
      rw [g2]
      simpa using r3

theorem appendM_goes {o : Oper} {c : Call} {x y : Operand} {t t2 : TypeId} {ti ti2 : TI} (ht : tiOk P t ti = true) (ht2 : tiOk P t2 ti2 = true) (hi : Inv C L I s a w) (ho : o.op = .call c) (hc : c.callee = .builtin .append) (hargs : c.args.toList = [x, y]) (hts : c.argTypes.toList = [t, t2]) {k2 : Nat} {px py : PV} {K : PV → St → Prop}
    (hx : RepP L s.heap I w (a.eval x) px) (hy : RepP L s.heap I w (a.eval y) py) (h : appendM ti ti2 k2 s px py K) : ∃ pv s', K pv s' ∧ GoesM P C s' a w o pv := by
  have hca : c.args = #[x, y] := by apply Array.ext'; simpa using hargs
  have hct : c.argTypes = #[t, t2] := by apply Array.ext'; simpa using hts
  have hexec : ∀ {v : Value} {w' : World}, (Builtin.append_ #[t, t2] o.type #[a.eval x, a.eval y]).run P w = .ok v w' → (execOp a.eval o).run P w = .ok (.value v) w' := fun {v w'} hr => by
    simp [execOp, ho, resolve, hc, hca, hct, invoke, builtin, hr]
  unfold appendM at h
  split at h
  · rename_i sz bytes hsl hok
    have hkn := known_any ht (.inl (by rw [hsl]; simp))
    obtain ⟨hu, hsz0, ie, hie, hs, hby, ⟨hb0, hb1⟩, zv, hzv, hzs, _⟩ := hkn.slice _ _ hsl
    subst hby
    have hu2 : ∃ d, P.underlying t2 = some d ∧ ∀ k, d ≠ .int k := by
      simp only [Bool.or_eq_true] at hok
      rcases hok with hok | hok
      · obtain ⟨⟨s2, b2⟩, h2⟩ := Option.isSome_iff_exists.1 hok
        exact ⟨_, ((known_any ht2 (.inl (by rw [h2]; simp))).slice _ _ h2).1, fun k h => by cases h⟩
      · exact ⟨_, (known_any ht2 (.inr (.inr (.inr (.inr (.inl hok)))))).str hok, fun k h => by cases h⟩
    replace h := rowsOf_sound (P := P) hi hsz0 h hy
    obtain ⟨es, new, h, hlen, hnew, hflat⟩ := h
    have none : ∀ {s1 : St} {K1 : St → Prop}, a.eval x = .slice none 0 0 → Inv C L I s1 a w → es.length * ie.bytes ≤ 2 ^ 46 → newK k2 (.arr sz es) s1 K1 → ∃ s', K1 s' ∧ GoesM P C s' a w o (.one (.rs k2)) := fun {s1 K1} hv hi1 hbig hK => by
      by_cases he : es = []
      · subst he
        obtain ⟨s', L', g1, g2, g3⟩ := newNil hK hi1
        refine ⟨s', g1, goesM_run (hexec ?_) g2 g3⟩
        rw [hv]
        exact run_append_none hu hie hs hu2 hlen (hnew w rfl)
      · have hpos : 0 < es.length := List.length_pos_iff.2 he
        obtain ⟨cap, w1, g1, g2, g3⟩ := run_append_new (P := P) (w := w) (t2 := t2) (ty := o.type) (base := Option.none) (n := 0) (sCap := 0) (old := #[]) hu hie hs hb0 hb1 hzv hu2 hlen hnew (fun _ _ => rfl) (by simpa using hbig) (by omega)
        obtain ⟨q1, q2⟩ := rows_append (rest := Builtin.zeroCells zv.cells (cap - (0 + es.length))) hsz0 (rows := []) (old := #[]) ⟨by simp, fun i r h => by simp at h, fun i r j c h => by simp at h⟩ hflat
        simp only [List.nil_append] at q1 q2
        obtain ⟨s', L', e1, e2, e3⟩ := newArr (w1 := w1) (cap := cap) (e := ti.elem) (cells := #[] ++ new ++ Builtin.zeroCells zv.cells (cap - (0 + es.length))) hK hi1 g2 (by omega) (by
          simp only [Array.size_append, zeroCells_size, hflat.size, hzs, List.size_toArray, List.length_nil]
          rw [Nat.zero_add, ← Nat.add_mul]; exact Nat.mul_le_mul_right _ (by omega)) q1 q2
        refine ⟨s', e1, goesM_run (v := .slice (some ⟨w.heap.size, 0, Option.none⟩) (0 + es.length) cap) (hexec ?_) e2 (by rw [Nat.zero_add]; exact e3)⟩
        rw [hv]
        simpa using g3
    have core : ∀ {k : Nat} {rows0 rows : List (List CV)} (hf : find s.heap k = some (.arr sz rows0)) (hsub : ∀ (i : Nat) (r : List CV), rows[i]? = some r → rows0[i]? = some r) (hle : rows.length ≤ rows0.length)
        (g2 : match L.blk k with | Option.none => a.eval x = .slice Option.none 0 0 | some b => a.eval x = .slice (some ⟨b, 0, Option.none⟩) rows.length (L.cap k)) (hbig : (rows.length + es.length) * ie.bytes ≤ 2 ^ 46)
        (hK : killK k s fun s => newK k2 (.arr sz (rows ++ es)) s fun s => K (.one (.rs k2)) s), ∃ pv s', K pv s' ∧ GoesM P C s' a w o pv := fun {k rows0 rows} hf hsub hle g2 hbig hK => by
      obtain ⟨s1, hK, hi1, hnone, hfs, _⟩ := killK_inv hK hi
      have ho := hi.heap.ob k _ hf
      cases hbk : L.blk k with
      | none =>
        simp only [RepO, hbk] at ho
        simp only [hbk] at g2
        subst ho
        obtain rfl : rows = [] := List.eq_nil_of_length_eq_zero (by simpa using hle)
        simp only [List.nil_append, List.length_nil, Nat.zero_add] at hK hbig
        obtain ⟨s', h1, h2⟩ := none g2 hi1 hbig hK
        exact ⟨_, s', h1, h2⟩
      | some b =>
        simp only [hbk] at g2
        have ho' := ho
        simp only [RepO, hbk] at ho
        obtain ⟨hcap, hrl, cur, ce, fr, hcur, hfit, hfz, hrep⟩ := ho
        have hrl : ∀ (i : Nat) (r : List CV), rows[i]? = some r → r.length = sz := fun i r hr => hrl i r (hsub i r hr)
        have hrep : ∀ (i : Nat) (r : List CV) (j : Nat) (c : CV), rows[i]? = some r → r[j]? = some c → ∃ v, cur[i * sz + j]? = some v ∧ RepC I w v c := fun i r j c h1 h2 => hrep i r j c (hsub i r h1) h2
        obtain ⟨hO, hnI, hlt⟩ := hi.heap.own k _ b hf (.inl hbk)
        have hnob : ∀ j o', find s1.heap j = some o' → ¬ Foot L j b := fun j o' hj hbj => by
          by_cases e : j = k
          · rw [e, hnone] at hj; cases hj
          · rw [hfs j e] at hj
            cases hj' : find s.heap j with
            | none => simp [hj'] at hj
            | some o3 => exact e (hi.heap.inj j k o3 _ b hj' hf hbj (.inl hbk))
        by_cases hroom : rows.length + es.length ≤ L.cap k
        · obtain ⟨w', hst, hwr⟩ := run_storeCells (P := P) (o := rows.length * sz) new.toList 0 w cur ce fr hcur (by
            have h1 : (rows.length + es.length) * sz ≤ L.cap k * sz := Nat.mul_le_mul_right _ hroom
            rw [Nat.add_mul] at h1
            simp only [Array.length_toList, hflat.size]; omega) hfz (hflat.one hsz0)
          obtain ⟨cur', z1, z2, z3⟩ := hwr.row cur ce fr hcur
          have hi2 := hi1.other hwr.size hwr.other hwr.os hwr.tape hwr.output hO hnI hnob
          have hmono : ∀ {v c}, RepC I w v c → RepC I w' v c := fun h => h.mono (fun _ h => h) (fun b' hb' => hwr.other b' fun e => hnI (e ▸ hb'))
          obtain ⟨s', e1, e2, e3, _, _⟩ := newK_inv (w' := w') hK hi2 (fun _ _ => rfl) (Nat.le_refl _) rfl rfl rfl (some b) (L.cap k) (fun b' hb' => by
            cases hb'
            exact ⟨hO, hnI, by rw [hwr.size]; exact hlt, fun j o' _ hj => hnob j o' hj⟩) (fun H' _ _ => by
            simp only [RepO, Lay.upd, Lay.updD, if_true]
            refine ⟨by simpa using hroom, fun i r hr => ?_, cur', ce, fr, z1, by rw [z2]; exact hfit, fun o ho => ?_, fun i r j cc hr hcc => ?_⟩
            · by_cases hil : i < rows.length
              · rw [List.getElem?_append_left hil] at hr; exact hrl i r hr
              · rw [List.getElem?_append_right (by omega)] at hr; exact hflat.len _ r hr
            · have : w'.frozen? ⟨b, o, Option.none⟩ = w.frozen? ⟨b, o, Option.none⟩ := by simp [World.frozen?, z1, hcur]
              rw [this]; exact hfz o (by rw [← z2]; exact ho)
            · rw [z3]
              simp only [Nat.add_zero, Array.length_toList, hflat.size]
              by_cases hil : i < rows.length
              · rw [List.getElem?_append_left hil] at hr
                have hj : j < sz := by rw [← hrl i r hr]; exact (List.getElem?_eq_some_iff.1 hcc).1
                have hlt2 : i * sz + j < rows.length * sz := by
                  have : (i + 1) * sz ≤ rows.length * sz := Nat.mul_le_mul_right _ hil
                  rw [Nat.add_mul] at this; omega
                rw [if_neg (by omega)]
                obtain ⟨v, q1, q2⟩ := hrep i r j cc hr hcc
                exact ⟨v, q1, hmono q2⟩
              · rw [List.getElem?_append_right (by omega)] at hr
                obtain ⟨u, q1, q2⟩ := hflat.rep _ r j cc hr hcc
                have hlt2 : (i - rows.length) * sz + j < es.length * sz := by rw [← hflat.size]; exact (Array.getElem?_eq_some_iff.1 q1).1
                have e : i * sz + j = rows.length * sz + ((i - rows.length) * sz + j) := by
                  have : i * sz = rows.length * sz + (i - rows.length) * sz := by rw [← Nat.add_mul]; congr 1; omega
                  omega
                rw [if_pos (by omega)]
                refine ⟨u, ?_, hmono q2⟩
                rw [e, Nat.add_sub_cancel_left]; simpa using q1)
          refine ⟨_, s', e1, goesM_run (v := .slice (some ⟨b, 0, Option.none⟩) (rows.length + es.length) (L.cap k)) (hexec ?_) e2 ⟨sz, rows ++ es, e3, ?_⟩⟩
          · rw [g2]
            exact run_append_room' hu hie hs hu2 hlen (hnew w rfl) hroom hst
          · simp [Lay.upd, Lay.updD]
        · obtain ⟨f, hf'⟩ := row_at hi hf hbk
          obtain ⟨old, p1, p2⟩ := flat_load (P := P) (b := b) (off := 0) (f := fun i j => f (i * sz + j)) hsz0 rfl hrl (fun i r j c h1 h2 => by rw [Nat.zero_add]; exact hf' i r j c (hsub i r h1) h2)
          obtain ⟨cap, w1, r1, r2, r3⟩ := run_append_new (P := P) (w := w) (t2 := t2) (ty := o.type) (base := some ⟨b, 0, Option.none⟩) (n := rows.length) (sCap := L.cap k) (old := old) hu hie hs hb0 hb1 hzv hu2 hlen hnew (fun w' hw' => p1 w' hw') hbig hroom
          obtain ⟨q1, q2⟩ := rows_append (rest := Builtin.zeroCells zv.cells (cap - (rows.length + es.length))) hsz0 p2 hflat
          obtain ⟨s', L', e1, e2, e3⟩ := newArr (w1 := w1) (cap := cap) (e := ti.elem) (cells := old ++ new ++ Builtin.zeroCells zv.cells (cap - (rows.length + es.length))) hK hi1 r2 (by simpa using r1) (by
            simp only [Array.size_append, zeroCells_size, hflat.size, hzs, p2.size]
            rw [← Nat.add_mul, ← Nat.add_mul]; exact Nat.mul_le_mul_right _ (by omega)) q1 q2
          refine ⟨_, s', e1, goesM_run (v := .slice (some ⟨w.heap.size, 0, Option.none⟩) (rows.length + es.length) cap) (hexec ?_) e2 (by rw [← List.length_append]; exact e3)⟩
          rw [g2]
          simpa using r3
    split at h
    · rename_i sz'
      split at h
      · obtain ⟨hbig, hK⟩ := h
        obtain ⟨s', h1, h2⟩ := none hx hi hbig hK
        exact ⟨_, s', h1, h2⟩
      · exact h.elim
    · rename_i k
      split at h
      · rename_i sz' rows hf
        split at h
        · rename_i hbq
          have e := beq_iff.1 hbq
          subst e
          obtain ⟨hbig, hK⟩ := h
          obtain ⟨_, _, g1, g2⟩ := hx
          rw [hf] at g1; cases g1
          refine core hf (fun i r h => h) (Nat.le_refl _) ?_ hbig hK
          cases hbk : L.blk k <;> simp only [hbk] at g2 ⊢ <;> exact g2
        · exact h.elim
      · exact h.elim
    · rename_i k off l
      split at h
      · rename_i sz' rows hf
        split at h
        · rename_i hbq
          rw [Bool.and_eq_true] at hbq
          have e := beq_iff.1 hbq.1
          subst e
          have e0 := beq_iff.1 hbq.2
          subst e0
          obtain ⟨hbig, hK⟩ := h
          obtain ⟨_, _, g1, g3, g2⟩ := hx
          rw [hf] at g1; cases g1
          refine core (rows := rows.take l) hf (fun i r h => ?_) (by simp; omega) ?_ hbig hK
          · rw [List.getElem?_take] at h
            split at h
            · exact h
            · cases h
          · cases hbk : L.blk k with
            | none => simp only [hbk] at g2 ⊢; exact g2
            | some b =>
              simp only [hbk] at g2 ⊢
              obtain ⟨q, q1, q2, q3⟩ := g2
              have e0 := q2 (.inr trivial)
              rw [Nat.zero_mul] at e0
              subst e0
              rw [q3, Nat.sub_zero, List.length_take, Nat.min_eq_left (by omega)]
        · exact h.elim
      · exact h.elim
    · rename_i k
      split at h
      · rename_i sz' rows hf
        split at h
        · rename_i hbq
          have e := beq_iff.1 hbq
          subst e
          obtain ⟨⟨hfl, hbig⟩, hK⟩ := h
          obtain ⟨s1, hK, hi1, hnone, hfs, _⟩ := killK_inv hK hi
          obtain ⟨s', h1, h2⟩ := appendDeep (J := fun _ => False) hu hie hs hsz0 hb0 hb1 hzv hzs hu2 hexec hi hf hx hi1 (fun j o' hj => by
            by_cases e : j = k
            · rw [e, hnone] at hj; cases hj
            · rw [hfs j e] at hj
              cases hj' : find s.heap j with
              | none => simp [hj'] at hj
              | some o3 => exact ⟨o3, rfl⟩) hnone hlen hnew (hflat.toD hfl) (fun b h => h.elim) hbig hK
          exact ⟨_, s', h1, h2⟩
        · exact h.elim
      · exact h.elim
    · exact h.elim
  · exact h.elim

theorem appendD_goes {o : Oper} {c : Call} {x y : Operand} {t t2 : TypeId} {ti : TI} (ht : tiOk P t ti = true) (ht2 : ∃ d, P.underlying t2 = some d ∧ ∀ k, d ≠ .int k) (hi : Inv C L I s a w) (ho : o.op = .call c) (hc : c.callee = .builtin .append) (hargs : c.args.toList = [x, y]) (hts : c.argTypes.toList = [t, t2]) {k2 k ky : Nat} {K : PV → St → Prop}
    (hx : RepP L s.heap I w (a.eval x) (.one (.ds k))) (hy : RepP L s.heap I w (a.eval y) (.one (.ds ky))) (h : appendD ti k2 s k ky K) : ∃ pv s', K pv s' ∧ GoesM P C s' a w o pv := by
  have hca : c.args = #[x, y] := by apply Array.ext'; simpa using hargs
  have hct : c.argTypes = #[t, t2] := by apply Array.ext'; simpa using hts
  have hexec : ∀ {v : Value} {w' : World}, (Builtin.append_ #[t, t2] o.type #[a.eval x, a.eval y]).run P w = .ok v w' → (execOp a.eval o).run P w = .ok (.value v) w' := fun {v w'} hr => by
    simp [execOp, ho, resolve, hc, hca, hct, invoke, builtin, hr]
  unfold appendD at h
  split at h
  · rename_i sz bytes hsl
    have hkn := known_any ht (.inl (by rw [hsl]; simp))
    obtain ⟨hu, hsz0, ie, hie, hs, hby, ⟨hb0, hb1⟩, zv, hzv, hzs, _⟩ := hkn.slice _ _ hsl
    subst hby
    split at h
    · rename_i sz1 rows ay sz2 es hf hfy hne
      have hne := beq_false.1 hne
      split at h
      · rename_i hb1' hb2'
        have e1 := beq_iff.1 hb1'
        have e2 := beq_iff.1 hb2'
        subst e1; subst e2
        obtain ⟨hbig, hK⟩ := h
        obtain ⟨sy, hK, hiy, hnoney, hfsy, _⟩ := killK_inv hK hi
        obtain ⟨s1, hK, hi1, hnone, hfs, _⟩ := killK_inv hK hiy
        have hback : ∀ j o', find s1.heap j = some o' → j ≠ k ∧ j ≠ ky ∧ ∃ o', find s.heap j = some o' := fun j o' hj => by
          by_cases e : j = k
          · rw [e, hnone] at hj; cases hj
          · rw [hfs j e] at hj
            cases hj' : find sy.heap j with
            | none => simp [hj'] at hj
            | some o3 =>
              by_cases e2 : j = ky
              · rw [e2, hnoney] at hj'; cases hj'
              · rw [hfsy j e2] at hj'
                cases hj2 : find s.heap j with
                | none => simp [hj2] at hj'
                | some o4 => exact ⟨e, e2, o4, rfl⟩
        obtain ⟨_, _, _, g1, g2⟩ := hy
        rw [hfy] at g1; cases g1
        have hoy := hi.heap.ob ky _ hfy
        cases hbk : L.blk ky with
        | none =>
          simp only [RepO, hbk] at hoy
          simp only [hbk] at g2
          subst hoy
          obtain ⟨s', h1, h2⟩ := appendDeep (J := fun _ => False) (new := #[]) (es := []) hu hie hs hsz0 hb0 hb1 hzv hzs ht2 hexec hi hf hx hi1 (fun j o' hj => (hback j o' hj).2.2) hnone (by rcases g2.1 with e | ⟨_, _, e⟩ <;> rw [e] <;> rfl) (fun w' _ => by
            rcases g2.1 with e | ⟨a', _, e⟩ <;> rw [e]
            · rfl
            · have := run_loadCells (P := P) w' a' 0 (fun _ => undef) (fun q hq => absurd hq (by omega))
              simpa [Builtin.firstCells] using this) ⟨by simp, fun i r h => by simp at h, fun _ _ => False, fun i r j c h => by simp at h, fun _ _ h => h.elim, fun _ _ _ h => h.elim⟩ (fun b h => h.elim) hbig hK
          exact ⟨_, s', h1, h2⟩
        | some b =>
          simp only [hbk] at g2
          simp only [RepO, hbk] at hoy
          obtain ⟨new, p1, p2⟩ := deep_load (P := P) hsz0 hoy.1
          obtain ⟨s', h1, h2⟩ := appendDeep (J := L.fp ky) (new := new) hu hie hs hsz0 hb0 hb1 hzv hzs ht2 hexec hi hf hx hi1 (fun j o' hj => (hback j o' hj).2.2) hnone (by rw [g2]; rfl) (fun w' hw' => by rw [g2]; exact p1 w' hw') p2 (fun b' hb' => by
            obtain ⟨x1, x2, x3⟩ := hi.heap.own ky _ b' hfy (.inr hb')
            refine ⟨x1, x2, x3, fun hk => hne (hi.heap.inj k ky _ _ b' hf hfy hk (.inr hb')), fun j o' hj hbj => ?_⟩
            obtain ⟨q1, q2, o4, q3⟩ := hback j o' hj
            exact q2 (hi.heap.inj j ky _ _ b' q3 hfy hbj (.inr hb'))) hbig hK
          exact ⟨_, s', h1, h2⟩
      · exact h.elim
    · exact h.elim
  · exact h.elim

end

end Go.Proofs.Ytjolahiflldepab.Pi
