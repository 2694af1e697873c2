/- New objects, appends, stores: sound. No statement of the seat is proved here. -/
import Derived.Test.YtjolahiflldepabPiS12
namespace Go.Proofs.Ytjolahiflldepab.Pi
open Go Go.RowKit
set_option linter.unusedVariables false
set_option linter.unusedSimpArgs false

section
variable {P : Program} {C : Ctx} {L : Lay} {I : Nat → Prop} {s : St} {a : Act} {w : World}

/-- The cells of rows that are read one behind the other. -/
structure Flat (I : Nat → Prop) (w : World) (sz : Nat) (es : List (List CV)) (cells : Array Value) : Prop where
  size : cells.size = es.length * sz
  len : ∀ (i : Nat) (r : List CV), es[i]? = some r → r.length = sz
  rep : ∀ (i : Nat) (r : List CV) (j : Nat) (c : CV), es[i]? = some r → r[j]? = some c → ∃ u, cells[i * sz + j]? = some u ∧ RepC I w u c

theorem Flat.one {sz : Nat} {es : List (List CV)} {cells : Array Value} (h : Flat I w sz es cells) (hsz : 0 < sz) : ∀ v ∈ cells.toList, oneCell v := by
  intro v hv
  obtain ⟨q, hq, rfl⟩ := List.mem_iff_getElem.1 hv
  have hq' : q < es.length * sz := by rw [← h.size]; simpa using hq
  have hi : q / sz < es.length := by rw [Nat.div_lt_iff_lt_mul hsz]; exact hq'
  have hj : q % sz < sz := Nat.mod_lt _ hsz
  have hr := h.len _ es[q / sz] (List.getElem?_eq_getElem hi)
  obtain ⟨u, h1, h2⟩ := h.rep (q / sz) es[q / sz] (q % sz) (es[q / sz][q % sz]'(by omega)) (List.getElem?_eq_getElem hi) (List.getElem?_eq_getElem _)
  have e : q / sz * sz + q % sz = q := by rw [Nat.mul_comm]; exact Nat.div_add_mod q sz
  rw [e] at h1
  have : cells.toList[q] = u := by
    have hq2 : q < cells.size := by simpa using hq
    rw [Array.getElem?_eq_getElem hq2] at h1
    simpa using h1
  rw [this]; exact h2.oneCell

theorem flat_load {b off sz n : Nat} {es : List (List CV)} {f : Nat → Nat → Value} (hsz : 0 < sz) (hn : es.length = n) (hl : ∀ (i : Nat) (r : List CV), es[i]? = some r → r.length = sz)
    (hc : ∀ (i : Nat) (r : List CV) (j : Nat) (c : CV), es[i]? = some r → r[j]? = some c → w.cell? ⟨b, off + (i * sz + j), none⟩ = some (f i j) ∧ RepC I w (f i j) c) :
    ∃ cells, (∀ w' : World, w'.heap = w.heap → (loadCells ⟨b, off, none⟩ (n * sz)).run P w' = .ok cells w') ∧ Flat I w sz es cells := by
  have hget : ∀ q, q < n * sz → w.cell? (Addr.add ⟨b, off, none⟩ q) = some (f (q / sz) (q % sz)) := fun q hq => by
    have hi : q / sz < es.length := by rw [hn, Nat.div_lt_iff_lt_mul hsz]; exact hq
    have hj : q % sz < sz := Nat.mod_lt _ hsz
    have hr := hl _ es[q / sz] (List.getElem?_eq_getElem hi)
    have := (hc (q / sz) es[q / sz] (q % sz) (es[q / sz][q % sz]'(by omega)) (List.getElem?_eq_getElem hi) (List.getElem?_eq_getElem _)).1
    have e : q / sz * sz + q % sz = q := by rw [Nat.mul_comm]; exact Nat.div_add_mod q sz
    rw [e] at this
    rw [add_plain]; exact this
  refine ⟨_, fun w' hw' => run_loadCells (P := P) w' ⟨b, off, none⟩ (n * sz) (fun q => f (q / sz) (q % sz)) (fun q hq => by rw [cell_of_block (w := w) (by rw [hw'])]; exact hget q hq), ⟨by simp [hn], hl, fun i r j c h1 h2 => ?_⟩⟩
  have hi : i < n := by rw [← hn]; exact (List.getElem?_eq_some_iff.1 h1).1
  have hj : j < sz := by rw [← hl i r h1]; exact (List.getElem?_eq_some_iff.1 h2).1
  have hq : i * sz + j < n * sz := by
    have : (i + 1) * sz ≤ n * sz := Nat.mul_le_mul_right _ hi
    rw [Nat.add_mul] at this; omega
  have e1 : (i * sz + j) / sz = i := by rw [Nat.mul_comm, Nat.mul_add_div hsz, Nat.div_eq_of_lt hj]; rfl
  have e2 : (i * sz + j) % sz = j := by rw [Nat.mul_comm, Nat.mul_add_mod, Nat.mod_eq_of_lt hj]
  refine ⟨f i j, ?_, (hc i r j c h1 h2).2⟩
  simp [hq, e1, e2]

theorem rowsOf_sound (hi : Inv C L I s a w) {sz : Nat} (hsz : 0 < sz) {v : Value} {y : PV} {K : List (List CV) → Prop} (h : rowsOf s.heap sz y K) (hr : RepP L s.heap I w v y) :
    ∃ es cells, K es ∧ (Builtin.lenOf v).run P w = .ok es.length w ∧ (∀ w' : World, w'.heap = w.heap → (Builtin.firstCells sz es.length v).run P w' = .ok cells w') ∧ Flat I w sz es cells := by
  have nil : ∀ {v : Value}, v = .slice none 0 0 → (Builtin.lenOf v).run P w = .ok 0 w ∧ (∀ w' : World, w'.heap = w.heap → (Builtin.firstCells sz 0 v).run P w' = .ok #[] w') := fun {v} e => by subst e; exact ⟨rfl, fun _ _ => rfl⟩
  have flat0 : Flat I w sz [] #[] := ⟨by simp, fun i r h => by simp at h, fun i r j c h => by simp at h⟩
  unfold rowsOf at h
  split at h
  · rename_i sz' es
    split at h
    · rename_i hb
      have e := beq_iff.1 hb
      subst e
      have hr : RepC I w v (.slice sz es) := hr
      cases hr with
      | nil _ => exact ⟨[], #[], h, (nil rfl).1, (nil rfl).2, flat0⟩
      | empty a' _ _ =>
        refine ⟨[], #[], h, rfl, fun w' _ => ?_, flat0⟩
        have := run_loadCells (P := P) w' a' 0 (fun _ => undef) (fun q hq => absurd hq (by omega))
        simpa [Builtin.firstCells] using this
      | slice b off cap _ n _ vs hI hn hcap hl hc hrc =>
        subst hn
        obtain ⟨cells, g1, g2⟩ := flat_load (P := P) (f := vs) hsz rfl hl (fun i r j c h1 h2 => ⟨hc i r j c h1 h2, hrc i r j c h1 h2⟩)
        exact ⟨es, cells, h, rfl, g1, g2⟩
    · exact h.elim
  · exact ⟨[], #[], h, (nil hr).1, (nil hr).2, flat0⟩
  · rename_i st
    split at h
    · rename_i hb
      have e := beq_iff.1 hb
      subst e
      have e := rep_str hr
      subst e
      have hl : (bytesRows st).length = st.size := by simp [bytesRows, ByteArray.size_data, ByteArray.toList_eq]
      refine ⟨bytesRows st, (st.extract 0 st.size).data.map fun b => .int .u8 b.toNat, h, by rw [hl]; rfl, fun w' _ => by rw [hl]; rfl, ⟨by simp [bytesRows, ByteArray.toList_eq], fun i r hr => ?_, fun i r j c h1 h2 => ?_⟩⟩
      · simp only [bytesRows, List.getElem?_map] at hr
        cases hb : st.toList[i]? with
        | none => simp [hb] at hr
        | some b => simp [hb] at hr; subst hr; rfl
      · simp only [bytesRows, List.getElem?_map] at h1
        cases hb : st.toList[i]? with
        | none => simp [hb] at h1
        | some b =>
          simp [hb] at h1
          subst h1
          cases j with
          | zero =>
            simp at h2
            subst h2
            refine ⟨.int .u8 b.toNat, ?_, RepC.int _ _⟩
            rw [ByteArray.toList_eq] at hb
            have hb' : st.data[i]? = some b := by simpa using hb
            simp [hb']
          | succ j => simp at h2
    · exact h.elim
  · rename_i k
    split at h
    · rename_i sz' rows hf
      split at h
      · rename_i hb
        have e := beq_iff.1 hb
        subst e
        obtain ⟨_, _, g1, g2⟩ := hr
        rw [hf] at g1; cases g1
        cases hbk : L.blk k with
        | none =>
          have ho := hi.heap.ob k _ hf
          simp only [RepO, hbk] at ho
          simp only [hbk] at g2
          subst ho
          exact ⟨[], #[], h, (nil g2).1, (nil g2).2, flat0⟩
        | some b =>
          simp only [hbk] at g2
          subst g2
          obtain ⟨f, hf'⟩ := row_at hi hf hbk
          obtain ⟨cells, q1, q2⟩ := flat_load (P := P) (b := b) (off := 0) (f := fun i j => f (i * sz + j)) hsz rfl (row_len hi hf hbk) (fun i r j c h1 h2 => by rw [Nat.zero_add]; exact hf' i r j c h1 h2)
          exact ⟨rows, cells, h, rfl, q1, q2⟩
      · exact h.elim
    · exact h.elim
  · rename_i k off len
    split at h
    · rename_i sz' rows hf
      split at h
      · rename_i hb
        have e := beq_iff.1 hb
        subst e
        obtain ⟨_, _, g1, g3, g2⟩ := hr
        rw [hf] at g1; cases g1
        cases hbk : L.blk k with
        | none =>
          have ho := hi.heap.ob k _ hf
          simp only [RepO, hbk] at ho
          simp only [hbk] at g2
          subst ho
          simp only [List.drop_nil, List.take_nil] at h
          exact ⟨[], #[], h, (nil g2).1, (nil g2).2, flat0⟩
        | some b =>
          simp only [hbk] at g2
          obtain ⟨q, q1, q2, rfl⟩ := g2
          obtain ⟨f, hf'⟩ := row_at hi hf hbk
          have hlen : ((rows.drop off).take len).length = len := by simp; omega
          have hget : ∀ (i : Nat) (r : List CV), ((rows.drop off).take len)[i]? = some r → i < len ∧ rows[off + i]? = some r := fun i r hr => by
            rw [List.getElem?_take] at hr
            split at hr
            · rename_i hlt; exact ⟨hlt, by simpa [List.getElem?_drop] using hr⟩
            · cases hr
          obtain ⟨cells, p1, p2⟩ := flat_load (P := P) (b := b) (off := q) (n := len) (f := fun i j => f ((off + i) * sz + j)) hsz hlen (fun i r hr => row_len hi hf hbk _ r (hget i r hr).2) (fun i r j c h1 h2 => by
            obtain ⟨x1, x2⟩ := hget i r h1
            rw [q2 (.inl (by omega))]
            have := hf' _ r j c x2 h2
            rw [Nat.add_mul, Nat.add_assoc] at this
            rw [Nat.add_mul, Nat.add_assoc]; exact this)
          exact ⟨_, cells, h, by rw [hlen]; rfl, fun w' hw' => by rw [hlen]; exact p1 w' hw', p2⟩
      · exact h.elim
    · exact h.elim
  · exact h.elim

/-- A block that nobody knows is written. -/
theorem Inv.other {w' : World} {b : Nat} (hi : Inv C L I s a w) (hsz : w'.heap.size = w.heap.size) (hother : ∀ b', b' ≠ b → w'.heap[b']? = w.heap[b']?) (h1 : w'.os = w.os) (h2 : w'.tape = w.tape) (h3 : w'.output = w.output)
    (hO : C.O b) (hnI : ¬ I b) (hno : ∀ j o, find s.heap j = some o → ¬ Foot L j b) : Inv C L I s a w' := by
  have hw : ∀ b', I b' → w'.heap[b']? = w.heap[b']? := fun b' h => hother b' fun e => hnI (e ▸ h)
  have hf : ∀ v x, RepX L s.heap I w v x → RepX L s.heap I w' v x := fun v x h => h.mono (fun _ h => h) hw
  refine hi.change (f := fun y => y) hf (map_id_regs _).symm ?_ (fun b h => by rw [hsz]; exact hi.Ib b h) hi.Io ?_ (fun k o _ h => ⟨o, h, rfl, rfl⟩)
  · exact ⟨fun k o h => (hi.heap.ob k o h).ext' hf (fun _ h => h) hw .rfl (fun b' hb' => hother b' fun e => hno k o h (e ▸ hb')), fun k o b g1 g2 => by rw [hsz]; exact hi.heap.own k o b g1 g2, hi.heap.inj⟩
  · exact ⟨h1.trans hi.fr.os, h2.trans hi.fr.tape, h3.trans hi.fr.output, by rw [hsz]; exact hi.fr.size, fun b' g1 g2 => (hother b' fun e => g2 (e ▸ hO)).trans (hi.fr.block b' g1 g2)⟩

theorem frozen_new {w : World} {b : Nat} {cs : Array Value} {e : TypeId} (h : w.heap[b]? = some (.cells cs e (0, 0))) (o : Nat) : w.frozen? ⟨b, o, none⟩ = false := by
  simp [World.frozen?, h]

/-- A new own array in a block of its own. -/
theorem newArr {K : St → Prop} {k sz cap : Nat} {rows : List (List CV)} {w1 : World} {cells : Array Value} {e : TypeId} (hK : newK k (.arr sz rows) s K) (hi : Inv C L I s a w)
    (hw1 : w1.heap = w.heap ∧ w1.os = w.os ∧ w1.tape = w.tape ∧ w1.output = w.output) (hcap : rows.length ≤ cap) (hfit : cap * sz ≤ cells.size) (hl : ∀ (i : Nat) (r : List CV), rows[i]? = some r → r.length = sz)
    (hrep : ∀ (i : Nat) (r : List CV) (j : Nat) (c : CV), rows[i]? = some r → r[j]? = some c → ∃ u, cells[i * sz + j]? = some u ∧ RepC I w u c) :
    ∃ s' L', K s' ∧ Inv C L' I s' a (w1.alloc (.cells cells e)) ∧ RepX L' s'.heap I (w1.alloc (.cells cells e)) (.slice (some ⟨w.heap.size, 0, none⟩) rows.length cap) (.rs k) := by
  obtain ⟨e1, e2, e3, e4⟩ := hw1
  have hsz : (w1.alloc (.cells cells e)).heap.size = w.heap.size + 1 := by simp [e1]
  have hold : ∀ b, b < w.heap.size → (w1.alloc (.cells cells e)).heap[b]? = w.heap[b]? := fun b hb => by
    have := Below.heap_alloc w1 (.cells cells e) b (by rw [e1]; exact hb)
    rw [this, e1]
  have hnew : (w1.alloc (.cells cells e)).heap[w.heap.size]? = some (.cells cells e (0, 0)) := by
    have : w.heap.size = w1.heap.size := by rw [e1]
    rw [this]
    show (w1.heap.push _)[w1.heap.size]? = _
    simp
  obtain ⟨s', h1, h2, h3, _, _⟩ := newK_inv (w' := w1.alloc (.cells cells e)) hK hi hold (by omega) e2 e3 e4 (some w.heap.size) cap (fun b hb => by
    cases hb
    exact ⟨C.hO _ hi.fr.size, fun h => by have := hi.Ib _ h; omega, by omega, fun j o' _ hj hbj => by have := (hi.heap.own j o' _ hj hbj).2.2; omega⟩) (fun H' _ _ => by
    simp only [RepO, Lay.upd, Lay.updD, if_true]
    refine ⟨hcap, hl, cells, e, (0, 0), hnew, hfit, fun o _ => frozen_new hnew o, fun i r j c g1 g2 => ?_⟩
    obtain ⟨u, q1, q2⟩ := hrep i r j c g1 g2
    exact ⟨u, q1, q2.mono (fun _ h => h) (fun b hb => hold b (hi.Ib b hb))⟩)
  exact ⟨s', _, h1, h2, sz, rows, h3, by simp [Lay.upd, Lay.updD]⟩

/-- An empty own array in no block. -/
theorem newNil {K : St → Prop} {k sz : Nat} (hK : newK k (.arr sz []) s K) (hi : Inv C L I s a w) : ∃ s' L', K s' ∧ Inv C L' I s' a w ∧ RepX L' s'.heap I w (.slice none 0 0) (.rs k) := by
  obtain ⟨s', h1, h2, h3, _, _⟩ := newK_inv (w' := w) hK hi (fun _ _ => rfl) (Nat.le_refl _) rfl rfl rfl none 0 (fun b hb => by cases hb) (fun H' _ _ => by simp [RepO, Lay.upd, Lay.updD])
  exact ⟨s', _, h1, h2, sz, [], h3, by simp [Lay.upd, Lay.updD]⟩

/-- A new box. -/
theorem newBox {K : St → Prop} {k : Nat} {xs : List XV} {cells : Array Value} {e : TypeId} (hK : newK k (.box xs) s K) (hi : Inv C L I s a w) (hr : RepXs L s.heap I w cells xs) (hlive : allLive xs = true) (hnk : noKey k xs = true) :
    ∃ s' L', K s' ∧ Inv C L' I s' a (w.alloc (.cells cells e)) ∧ RepX L' s'.heap I (w.alloc (.cells cells e)) (.pointer (some ⟨w.heap.size, 0, none⟩)) (.pb k 0 xs.length) := by
  have hsz : (w.alloc (.cells cells e)).heap.size = w.heap.size + 1 := by simp
  have hold : ∀ b, b < w.heap.size → (w.alloc (.cells cells e)).heap[b]? = w.heap[b]? := fun b hb => Below.heap_alloc w _ b hb
  have hnew : (w.alloc (.cells cells e)).heap[w.heap.size]? = some (.cells cells e (0, 0)) := by
    show (w.heap.push _)[w.heap.size]? = _
    simp
  obtain ⟨s', h1, h2, h3, _, _⟩ := newK_inv (w' := w.alloc (.cells cells e)) hK hi hold (by omega) rfl rfl rfl (some w.heap.size) 0 (fun b hb => by
    cases hb
    exact ⟨C.hO _ hi.fr.size, fun h => by have := hi.Ib _ h; omega, by omega, fun j o' _ hj hbj => by have := (hi.heap.own j o' _ hj hbj).2.2; omega⟩) (fun H' _ hkeep => by
    refine ⟨w.heap.size, cells, e, (0, 0), by simp [Lay.upd, Lay.updD], hnew, fun o _ => frozen_new hnew o, fun i v hv => ?_, hr.1, fun i x v hx hv => ?_⟩
    · have hlt : i < xs.length := by rw [← hr.1]; exact (Array.getElem?_eq_some_iff.1 hv).1
      exact RepX.oneCell (allLive_iff.1 hlive _ (List.getElem_mem hlt)) (hr.2 i _ v (List.getElem?_eq_getElem hlt) hv)
    · exact hkeep v x (hr.2 i x v hx hv) (noKey_iff.1 hnk x (List.mem_of_getElem? hx)))
  exact ⟨s', _, h1, h2, xs, w.heap.size, h3, by simp [Lay.upd, Lay.updD], by omega, rfl⟩

end

end Go.Proofs.Ytjolahiflldepab.Pi
