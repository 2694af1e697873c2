/- Every operation of a region whose order is fixed: sound, more. No statement of the seat is proved here. -/
import Derived.Test.YtjolahiflldepabPiS14
import Derived.Laws.BytesString
import Derived.IntWalk
namespace Go.Proofs.Ytjolahiflldepab.Pi
open Go Go.RowKit
set_option linter.unusedVariables false
set_option linter.unusedSimpArgs false

theorem wrap_i64 {n : Int} (h0 : -(2 ^ 63) ≤ n) (h : n < 2 ^ 63) : IntKind.i64.wrap n = n := IntWalk.i64_in n (by omega)

theorem wrap_small {n : Int} (h0 : 0 ≤ n) (h : n < 2 ^ 63) : IntKind.i64.wrap n = n := wrap_i64 (by omega) h

theorem spliceC_get : ∀ (ys row : List CV) (o i : Nat), o + ys.length ≤ row.length → (spliceC row o ys)[i]? = if o ≤ i ∧ i < o + ys.length then ys[i - o]? else row[i]?
  | [], row, o, i, _ => by rw [if_neg (by simp only [List.length_nil]; omega)]; rfl
  | y :: ys, row, o, i, h => by
    simp only [List.length_cons] at h
    simp only [spliceC]
    rw [spliceC_get ys (row.set o y) (o + 1) i (by simp; omega)]
    by_cases e1 : i = o
    · subst e1
      have hi : i < row.length := by omega
      rw [if_neg (by omega), if_pos (by simp)]
      simp [hi]
    · by_cases e2 : o ≤ i ∧ i < o + (ys.length + 1)
      · rw [if_pos (by omega), if_pos (by simpa using e2)]
        have : i - o = (i - (o + 1)) + 1 := by omega
        rw [this]; simp
      · rw [if_neg (by omega), if_neg (by simpa using e2)]
        rw [List.getElem?_set_ne (by omega)]

theorem spliceC_length : ∀ (ys row : List CV) (o : Nat), (spliceC row o ys).length = row.length
  | [], row, o => rfl
  | y :: ys, row, o => by simp [spliceC, spliceC_length ys]

section
variable {P : Program} {C : Ctx} {L : Lay} {I : Nat → Prop} {s : St} {a : Act} {w : World}

/-- A part of an own row is written. -/
theorem Inv.writePart {k r b sz o : Nat} {rows : List (List CV)} {row ys : List CV} {vs : Array Value} (hi : Inv C L I s a w) (hfd : find s.heap k = some (.arr sz rows)) (hbk : L.blk k = some b) (hr : rows[r]? = some row)
    (hl : o + ys.length ≤ sz) (hsz : vs.size = ys.length) (hv : ∀ (i : Nat) (y : CV) (v : Value), ys[i]? = some y → vs[i]? = some v → RepC I w v y) :
    ∃ w', (storeCells ⟨b, r * sz + o, none⟩ vs.toList 0).run P w = .ok () w' ∧ Inv C L I ⟨s.regs, setOb s.heap k (.arr sz (rows.set r (spliceC row o ys)))⟩ a w' := by
  have hrlt : r < rows.length := (List.getElem?_eq_some_iff.1 hr).1
  have ho := hi.heap.ob k _ hfd
  simp only [RepO, hbk] at ho
  obtain ⟨h0, hrl, cur, e, fr, g2, g6, g3, g5⟩ := ho
  have hrow := hrl r row hr
  have hall : ∀ v ∈ vs.toList, oneCell v := fun v hm => by
    obtain ⟨i, hi', rfl⟩ := List.mem_iff_getElem.1 hm
    have hix : i < ys.length := by rw [← hsz]; simpa using hi'
    exact (hv i ys[i] _ (List.getElem?_eq_getElem hix) (by simp at hi'; simp [hi'])).oneCell
  have hfit : r * sz + sz ≤ cur.size := by
    have h1 : (r + 1) * sz ≤ L.cap k * sz := Nat.mul_le_mul_right _ (by omega)
    rw [Nat.add_mul] at h1; omega
  obtain ⟨w', h1, h2⟩ := run_storeCells (P := P) (o := r * sz + o) vs.toList 0 w cur e fr g2 (by simp; omega) g3 hall
  obtain ⟨cur', q1, q2, q3⟩ := h2.row cur e fr g2
  refine ⟨w', h1, hi.writeOb (w' := w') (o' := .arr sz (rows.set r (spliceC row o ys))) hfd hbk (by simp [Ob.shape]) h2.size h2.other h2.os h2.tape h2.output (fun hf hc => ?_)⟩
  simp only [RepO, hbk]
  have hlen' : ∀ (i : Nat) (r' : List CV), (rows.set r (spliceC row o ys))[i]? = some r' → r'.length = sz := fun i r' hr' => by
    rw [List.getElem?_set] at hr'
    split at hr'
    · cases hr'; rw [spliceC_length]; exact hrow
    · exact hrl i r' hr'
  refine ⟨by simpa using h0, hlen', cur', e, fr, q1, by rw [q2]; exact g6, fun o ho => ?_, fun i r' j c h3 h4 => ?_⟩
  · have : w'.frozen? ⟨b, o, none⟩ = w.frozen? ⟨b, o, none⟩ := by simp [World.frozen?, q1, g2]
    rw [this]; exact g3 o (by rw [← q2]; exact ho)
  · rw [q3]
    have hlen : vs.toList.length = ys.length := by simpa using hsz
    rw [hlen, Nat.add_zero]
    have hj : j < sz := by rw [← hlen' i r' h3]; exact (List.getElem?_eq_some_iff.1 h4).1
    rw [List.getElem?_set] at h3
    by_cases e1 : r = i
    · subst e1
      simp only [if_true] at h3
      rw [if_pos hrlt] at h3
      cases h3
      rw [spliceC_get ys row o j (by omega)] at h4
      split at h4
      · rename_i hc'
        rw [if_pos (by omega)]
        have e2 : r * sz + j - (r * sz + o) = j - o := by omega
        rw [e2]
        have hjv : j - o < vs.size := by omega
        exact ⟨vs[j - o], by simp [hjv], hc _ _ (hv _ c _ h4 (Array.getElem?_eq_getElem hjv))⟩
      · rename_i hc'
        rw [if_neg (by omega)]
        obtain ⟨v, h5, h6⟩ := g5 r row j c hr h4
        exact ⟨v, h5, hc _ _ h6⟩
    · rw [if_neg e1] at h3
      have hout : ¬ (r * sz + o ≤ i * sz + j ∧ i * sz + j < r * sz + o + ys.length) := by
        intro ⟨p1, p2⟩
        rcases Nat.lt_or_ge i r with hlt | hge
        · have : (i + 1) * sz ≤ r * sz := Nat.mul_le_mul_right _ hlt
          rw [Nat.add_mul] at this; omega
        · have : (r + 1) * sz ≤ i * sz := Nat.mul_le_mul_right _ (by omega)
          rw [Nat.add_mul] at this; omega
      rw [if_neg hout]
      obtain ⟨v, h5, h6⟩ := g5 i r' j c h3 h4
      exact ⟨v, h5, hc _ _ h6⟩

/-! ### deep objects that are changed -/
def unDns (ks : List Nat) (x : XV) : XV :=
  match x with
  | .dn a _ _ => match ks.contains a with | true => .dead | false => x
  | x => x

theorem unDns_nil (x : XV) : unDns [] x = x := by cases x <;> simp [unDns]
theorem unDns_cons (k : Nat) (ks : List Nat) (x : XV) : unDns ks (unDn k x) = unDns (k :: ks) x := by
  cases x with
  | dn a r j =>
    cases hb : Nat.beq a k with
    | true =>
      have e := beq_iff.1 hb
      subst e
      simp [unDn, unDns]
    | false =>
      have e := beq_false.1 hb
      simp only [unDn, hb, unDns, List.contains_cons]
      have : (a == k) = false := by simpa using e
      rw [this, Bool.false_or]
  | _ => rfl
theorem unDns_one (k : Nat) (x : XV) : unDn k x = unDns [k] x := by rw [← unDns_cons, unDns_nil]
theorem unDns_eq {ks : List Nat} {x : XV} (h : ∀ k r j, x = .dn k r j → k ∉ ks) : unDns ks x = x := by
  cases x with
  | dn a r j =>
    have := h a r j rfl
    simp only [unDns]
    split
    · rename_i hc; exact absurd (by simpa using hc) this
    · rfl
  | _ => rfl

/-- What is not a nested slice does not depend on the cells that hold such. -/
theorem RepX.hdAny {L L' : Lay} {H : Heap} {I : Nat → Prop} {w : World} {v : Value} {x : XV} (hb : L'.blk = L.blk) (hc : L'.cap = L.cap) (hx : ∀ k r j, x ≠ .dn k r j) (h : RepX L H I w v x) : RepX L' H I w v x := by
  cases x with
  | dn a r j => exact absurd rfl (hx a r j)
  | rs k => simp only [RepX] at h ⊢; rw [hb, hc]; exact h
  | ru k o l => simp only [RepX] at h ⊢; rw [hb, hc]; exact h
  | pb k o l => simp only [RepX] at h ⊢; rw [hb]; exact h
  | pe k r o l => simp only [RepX] at h ⊢; rw [hb]; exact h
  | ds k => simp only [RepX] at h ⊢; rw [hb, hc]; exact h
  | dp k r o l => simp only [RepX] at h ⊢; rw [hb]; exact h
  | fb f cs k n qs => simp only [RepX] at h ⊢; rw [hb]; exact h
  | c y => exact h
  | nil sz => exact h
  | undef => exact h
  | dead => trivial

/-- SOME DEEP OBJECTS ARE CHANGED IN PLACE, their lengths kept. -/
theorem Inv.setMany {ks : List Nat} {H' : Heap} {L' : Lay} {w' : World} (hi : Inv C L I s a w)
    (hH : ∀ j, j ∉ ks → find H' j = (find s.heap j).map (Ob.map (unDns ks)))
    (hD : ∀ k ∈ ks, ∃ ap sz rows rows', find s.heap k = some (.deep ap sz rows) ∧ find H' k = some (.deep ap sz rows') ∧ rows'.length = rows.length ∧ L'.blk k = L.blk k ∧ L'.cap k = L.cap k ∧ RepO L' H' I w' k (.deep ap sz rows'))
    (hL : ∀ j, j ∉ ks → Same L L' j) (hw : ∀ b, b < w.heap.size → (∀ k ∈ ks, ¬ Foot L k b) → w'.heap[b]? = w.heap[b]?) (hsz : w.heap.size ≤ w'.heap.size) (h1 : w'.os = w.os) (h2 : w'.tape = w.tape) (h3 : w'.output = w.output)
    (hfoot : ∀ k ∈ ks, ∀ b, Foot L' k b → C.O b ∧ ¬ I b ∧ b < w'.heap.size ∧ ∀ j o, j ∉ ks → find s.heap j = some o → ¬ Foot L j b)
    (hinj : ∀ k ∈ ks, ∀ k' ∈ ks, ∀ b, Foot L' k b → Foot L' k' b → k = k') :
    Inv C L' I ⟨s.regs.map (PV.map (unDns ks)), H'⟩ a w' ∧ ∀ v x, RepX L s.heap I w v x → RepX L' H' I w' v (unDns ks x) := by
  have hblk : ∀ j, L'.blk j = L.blk j ∧ L'.cap j = L.cap j := fun j => by
    by_cases hj : j ∈ ks
    · obtain ⟨_, _, _, _, _, _, _, e1, e2, _⟩ := hD j hj; exact ⟨e1, e2⟩
    · exact ⟨(hL j hj).1, (hL j hj).2.1⟩
  have hfL : ∀ {j b}, j ∉ ks → Foot L' j b → Foot L j b := fun {j b} h hf => by
    obtain ⟨e1, _, e3, _⟩ := hL j h
    rcases hf with hf | hf
    · exact .inl (e1 ▸ hf)
    · exact .inr (e3 ▸ hf)
  have hwI : ∀ b, I b → w'.heap[b]? = w.heap[b]? := fun b hb => hw b (hi.Ib b hb) fun k hk hf => by
    obtain ⟨_, _, _, _, g1, _⟩ := hD k hk
    exact (hi.heap.own k _ b g1 hf).2.1 hb
  have hshape : ∀ j o, find s.heap j = some o → ∃ o', find H' j = some o' ∧ o'.shape = o.shape := fun j o hj => by
    by_cases hk : j ∈ ks
    · obtain ⟨ap, sz, rows, rows', g1, g2, g3, _⟩ := hD j hk
      rw [g1] at hj; cases hj
      exact ⟨_, g2, by simp [Ob.shape, g3]⟩
    · exact ⟨_, by rw [hH j hk, hj]; rfl, shape_map _ _⟩
  have hf : ∀ v x, RepX L s.heap I w v x → RepX L' H' I w' v (unDns ks x) := fun v x h => by
    by_cases hx : ∃ k r j, x = .dn k r j
    · obtain ⟨k, r, j, rfl⟩ := hx
      by_cases hk : k ∈ ks
      · have : unDns ks (.dn k r j) = .dead := by simp [unDns, hk]
        rw [this]; trivial
      · rw [unDns_eq (fun k' r' j' e => by cases e; exact hk)]
        exact RepX.ext (q := fun j => j ∉ ks) (fun j o hq hj => ⟨hshape j o hj, (hblk j).1, (hblk j).2, (hL j hq).2.2.2⟩) (fun _ h => h) hwI (fun j hj => by cases hj; exact hk) h
    · have hx' : ∀ k r j, x ≠ .dn k r j := fun k r j e => hx ⟨k, r, j, e⟩
      rw [unDns_eq (fun k' r' j' e => absurd e (hx' _ _ _))]
      let L1 : Lay := ⟨L'.blk, L'.cap, L'.fp, L.hd⟩
      have : RepX L1 H' I w' v x := RepX.ext (L' := L1) (q := fun _ => True) (fun j o _ hj => ⟨hshape j o hj, (hblk j).1, (hblk j).2, rfl⟩) (fun _ h => h) hwI (fun _ _ => trivial) h
      exact RepX.hdAny (L := L1) rfl rfl hx' this
  have hback : ∀ j o, find H' j = some o → ∃ o', find s.heap j = some o' := fun j o hj => by
    by_cases hk : j ∈ ks
    · obtain ⟨_, _, _, _, g1, _⟩ := hD j hk; exact ⟨_, g1⟩
    · rw [hH j hk] at hj
      cases h4 : find s.heap j with
      | none => simp [h4] at hj
      | some o' => exact ⟨o', rfl⟩
  refine ⟨hi.change (f := unDns ks) hf rfl ?_ (fun b h => Nat.lt_of_lt_of_le (hi.Ib b h) hsz) hi.Io ?_ (fun j o _ hj => by
    obtain ⟨o', ho'⟩ := hback j o hj
    exact ⟨o', ho', (hblk j).1, (hblk j).2⟩), hf⟩
  · refine ⟨fun j o hj => ?_, fun j o b hj hb => ?_, fun j j' o o' b hj hj' hb hb' => ?_⟩
    · by_cases hk : j ∈ ks
      · obtain ⟨ap, sz, rows, rows', g1, g2, g3, g4, g5, g6⟩ := hD j hk
        simp only at hj
        rw [g2] at hj; cases hj
        exact g6
      · simp only at hj
        rw [hH j hk] at hj
        cases h4 : find s.heap j with
        | none => simp [h4] at hj
        | some o' =>
          simp only [h4, Option.map_some, Option.some.injEq] at hj
          subst hj
          exact (hi.heap.ob j o' h4).ext hf (fun _ h => h) hwI (hL j hk) (fun b hb => hw b (hi.heap.own j o' b h4 hb).2.2 fun k hk2 hf2 => by
            obtain ⟨_, _, _, _, g1, _⟩ := hD k hk2
            exact hk (hi.heap.inj k j _ _ b g1 h4 hf2 hb ▸ hk2))
    · by_cases hk : j ∈ ks
      · obtain ⟨g1, g2, g3, _⟩ := hfoot j hk b hb
        exact ⟨g1, g2, g3⟩
      · obtain ⟨o', ho'⟩ := hback j o hj
        obtain ⟨g1, g2, g3⟩ := hi.heap.own j o' b ho' (hfL hk hb)
        exact ⟨g1, g2, Nat.lt_of_lt_of_le g3 hsz⟩
    · by_cases hk : j ∈ ks
      · by_cases hk' : j' ∈ ks
        · exact hinj j hk j' hk' b hb hb'
        · obtain ⟨o3, ho3⟩ := hback j' o' hj'
          exact absurd (hfL hk' hb') ((hfoot j hk b hb).2.2.2 j' o3 hk' ho3)
      · obtain ⟨o3, ho3⟩ := hback j o hj
        by_cases hk' : j' ∈ ks
        · exact absurd (hfL hk hb) ((hfoot j' hk' b hb').2.2.2 j o3 hk ho3)
        · obtain ⟨o4, ho4⟩ := hback j' o' hj'
          exact hi.heap.inj j j' o3 o4 b ho3 ho4 (hfL hk hb) (hfL hk' hb')
  · exact ⟨h1.trans hi.fr.os, h2.trans hi.fr.tape, h3.trans hi.fr.output, Nat.le_trans hi.fr.size hsz, fun b g1 g2 => (hw b (Nat.lt_of_lt_of_le g1 hi.fr.size) fun k hk hf => by
      obtain ⟨_, _, _, _, g3, _⟩ := hD k hk
      exact g2 (hi.heap.own k _ b g3 hf).1).trans (hi.fr.block b g1 g2)⟩

/-- An own slice, as a part of a deep one. -/
theorem arr_toD {H H0 : Heap} {k sz : Nat} {rows : List (List CV)} (hf : flatRows rows) (ho : RepO L H I w k (.arr sz rows)) (hH : find H0 k = some (.arr sz rows)) {v : Value} (h : RepX L H0 I w v (.rs k)) : RepD w (Foot L k) v (.slice sz rows) := by
  obtain ⟨sz', rows', g1, g2⟩ := h
  rw [hH] at g1; cases g1
  cases hk : L.blk k with
  | none =>
    simp only [hk] at g2
    simp only [RepO, hk] at ho
    subst ho; subst g2
    exact .nil _ _
  | some b =>
    simp only [hk] at g2
    simp only [RepO, hk] at ho
    subst g2
    obtain ⟨h0, hl, vs, e, fr, h3, h4, h5, h6⟩ := ho
    refine .slice (Foot L k) b (L.cap k) sz rows vs e fr (fun _ _ => False) (fun q => vs.getD q undef) (.inl hk) h0 hl h3 h4 h5 (fun i r j c q1 q2 => ?_) (fun i r j c q1 q2 => ?_) (fun _ _ h => h.elim) (fun _ _ _ h => h.elim)
    · obtain ⟨v, p1, p2⟩ := h6 i r j c q1 q2
      simp [p1]
    · obtain ⟨v, p1, p2⟩ := h6 i r j c q1 q2
      have e : vs.getD (i * sz + j) undef = v := by simp [p1]
      rw [e]
      exact RepD.of_flat (hf r (List.mem_of_getElem? q1) c (List.mem_of_getElem? q2)) p2

theorem arr_own {H H0 : Heap} {k sz : Nat} {rows : List (List CV)} (ho : RepO L H I w k (.arr sz rows)) (hH : find H0 k = some (.arr sz rows)) {v : Value} (h : RepX L H0 I w v (.rs k)) : OwnV w (Foot L k) sz v := by
  obtain ⟨sz', rows', g1, g2⟩ := h
  rw [hH] at g1; cases g1
  cases hk : L.blk k with
  | none => simp only [hk] at g2; exact .inl g2
  | some b =>
    simp only [hk] at g2
    simp only [RepO, hk] at ho
    obtain ⟨h0, hl, vs, e, fr, h3, h4, h5, h6⟩ := ho
    exact .inr ⟨b, _, _, vs, e, fr, g2, .inl hk, h3, h4, h5⟩

theorem deep_toD {H H0 : Heap} {k sz : Nat} {ap : Bool} {rows : List (List CV)} (ho : RepO L H I w k (.deep ap sz rows)) (hH : find H0 k = some (.deep ap sz rows)) {v : Value} (h : RepX L H0 I w v (.ds k)) : RepD w (Foot L k) v (.slice sz rows) := by
  obtain ⟨_, sz', rows', g1, g2⟩ := h
  rw [hH] at g1; cases g1
  cases hk : L.blk k with
  | none =>
    simp only [hk] at g2
    simp only [RepO, hk] at ho
    subst ho
    rcases g2.1 with e | ⟨_, _, e⟩ <;> rw [e]
    · exact .nil _ _
    · exact .empty _ _ _ _
  | some b =>
    simp only [hk] at g2
    simp only [RepO, hk] at ho
    subst g2
    exact ho.1.toD (fun x hx => ⟨.inr hx, fun e => ho.2 (e ▸ hx)⟩) (.inl hk)

theorem absorbK_inv {H0 : Heap} {m : Bool} : ∀ {xs : List XV} {s : St} {K : List CV → St → Prop} (_ : absorbK m xs s K) (_ : Inv C L I s a w) (_ : ∀ k o, find s.heap k = some o → (∀ cs, o ≠ .box cs) → find H0 k = some o) (vs : List Value) (_ : vs.length = xs.length) (_ : ∀ (i : Nat) (x : XV) (v : Value), xs[i]? = some x → vs[i]? = some v → RepX L H0 I w v x),
    ∃ (ys : List CV) (s' : St) (Js : Nat → Nat → Prop), K ys s' ∧ Inv C L I s' a w ∧ ys.length = xs.length ∧ (∀ (i : Nat) (y : CV) (v : Value), ys[i]? = some y → vs[i]? = some v → RepD w (Js i) v y) ∧
      (∀ (i b : Nat), Js i b → (∃ j o, find s.heap j = some o ∧ Foot L j b) ∧ ∀ j o, find s'.heap j = some o → ¬ Foot L j b) ∧ (∀ (i i' b : Nat), Js i b → Js i' b → i = i') ∧
      (∀ j o, find s'.heap j = some o → (∃ o', find s.heap j = some o') ∧ ((∀ cs, o ≠ .box cs) → find s.heap j = some o))
  | [], s, K, hK, hi, _, vs, _, _ => ⟨[], s, fun _ _ => False, hK, hi, rfl, fun i y v h => by simp at h, fun _ _ h => h.elim, fun _ _ _ h => h.elim, fun j o h => ⟨⟨o, h⟩, fun _ => h⟩⟩
  | x :: xs, s, K, hK, hi, hH, [], hl, hr => by simp at hl
  | x :: xs, s, K, hK, hi, hH, v :: vs, hl, hr => by
    have hr0 := hr 0 x v rfl rfl
    have hrs : ∀ (i : Nat) (x : XV) (v : Value), xs[i]? = some x → vs[i]? = some v → RepX L H0 I w v x := fun i y u h1 h2 => hr (i + 1) y u (by simpa using h1) (by simpa using h2)
    have hls : vs.length = xs.length := by simpa using hl
    have pure : ∀ {y : CV}, absorbK m xs s (fun cs s => K (y :: cs) s) → (∀ J, RepD w J v y) → ∃ (ys : List CV) (s' : St) (Js : Nat → Nat → Prop), K ys s' ∧ Inv C L I s' a w ∧ ys.length = (x :: xs).length ∧ (∀ (i : Nat) (y : CV) (u : Value), ys[i]? = some y → (v :: vs)[i]? = some u → RepD w (Js i) u y) ∧
      (∀ (i b : Nat), Js i b → (∃ j o, find s.heap j = some o ∧ Foot L j b) ∧ ∀ j o, find s'.heap j = some o → ¬ Foot L j b) ∧ (∀ (i i' b : Nat), Js i b → Js i' b → i = i') ∧
      (∀ j o, find s'.heap j = some o → (∃ o', find s.heap j = some o') ∧ ((∀ cs, o ≠ .box cs) → find s.heap j = some o)) := fun {y} h hd => by
      obtain ⟨ys, s', Js, g1, g2, g3, g4, g5, g6, g7⟩ := absorbK_inv h hi hH vs hls hrs
      refine ⟨y :: ys, s', fun i b => match i with | 0 => False | i + 1 => Js i b, g1, g2, by simp [g3], fun i y' u h1 h2 => ?_, fun i b h => ?_, fun i i' b h h' => ?_, g7⟩
      · cases i with
        | zero => simp at h1 h2; subst h1; subst h2; exact hd _
        | succ i => simp at h1 h2; exact g4 i y' u h1 h2
      · cases i with
        | zero => exact h.elim
        | succ i => exact g5 i b h
      · cases i with
        | zero => exact h.elim
        | succ i =>
          cases i' with
          | zero => exact h'.elim
          | succ i' => rw [g6 i i' b h h']
    have own : ∀ {k : Nat} {y : CV} {o : Ob}, find s.heap k = some o → (∀ cs, o ≠ .box cs) → RepD w (Foot L k) v y → killK k s (fun s => absorbK m xs s fun cs s => K (y :: cs) s) → ∃ (ys : List CV) (s' : St) (Js : Nat → Nat → Prop), K ys s' ∧ Inv C L I s' a w ∧ ys.length = (x :: xs).length ∧ (∀ (i : Nat) (y : CV) (u : Value), ys[i]? = some y → (v :: vs)[i]? = some u → RepD w (Js i) u y) ∧
      (∀ (i b : Nat), Js i b → (∃ j o, find s.heap j = some o ∧ Foot L j b) ∧ ∀ j o, find s'.heap j = some o → ¬ Foot L j b) ∧ (∀ (i i' b : Nat), Js i b → Js i' b → i = i') ∧
      (∀ j o, find s'.heap j = some o → (∃ o', find s.heap j = some o') ∧ ((∀ cs, o ≠ .box cs) → find s.heap j = some o)) := fun {k y o} hf hnb hd h => by
      obtain ⟨s1, h, hi1, hn, hfs, _⟩ := killK_inv h hi
      have h1s : ∀ j o', find s1.heap j = some o' → j ≠ k ∧ (∃ o2, find s.heap j = some o2) ∧ ((∀ cs, o' ≠ .box cs) → find s.heap j = some o') := fun j o' hj => by
        by_cases e : j = k
        · rw [e, hn] at hj; cases hj
        · rw [hfs j e] at hj
          cases hj' : find s.heap j with
          | none => simp [hj'] at hj
          | some o3 =>
            refine ⟨e, ⟨o3, rfl⟩, fun hb => ?_⟩
            simp only [hj', Option.map_some, Option.some.injEq] at hj
            cases o3 with
            | box cs => subst hj; exact absurd rfl (hb _)
            | arr _ _ => rw [← hj]; rfl
            | deep _ _ _ => rw [← hj]; rfl
      obtain ⟨ys, s', Js, g1, g2, g3, g4, g5, g6, g7⟩ := absorbK_inv h hi1 (fun j o' hj hb => hH j o' ((h1s j o' hj).2.2 hb) hb) vs hls hrs
      refine ⟨_ :: ys, s', fun i b => match i with | 0 => Foot L k b | i + 1 => Js i b, g1, g2, by simp [g3], fun i y' u h1 h2 => ?_, fun i b h => ?_, fun i i' b h h' => ?_, fun j o' hj => ?_⟩
      · cases i with
        | zero => simp at h1 h2; subst h1; subst h2; exact hd
        | succ i => simp at h1 h2; exact g4 i y' u h1 h2
      · cases i with
        | zero =>
          refine ⟨⟨k, o, hf, h⟩, fun j o' hj hb => ?_⟩
          obtain ⟨⟨o2, ho2⟩, _⟩ := g7 j o' hj
          obtain ⟨q1, ⟨o3, q2⟩, _⟩ := h1s j o2 ho2
          exact q1 (hi.heap.inj j k _ _ b q2 hf hb h)
        | succ i =>
          obtain ⟨⟨j, o', q1, q2⟩, q3⟩ := g5 i b h
          obtain ⟨_, ⟨o3, q4⟩, _⟩ := h1s j o' q1
          exact ⟨⟨j, o3, q4, q2⟩, q3⟩
      · have hno : ∀ {i}, Foot L k b → Js i b → False := fun {i} h1 h2 => by
          obtain ⟨⟨j, o', q1, q2⟩, _⟩ := g5 i b h2
          obtain ⟨q5, ⟨o3, q4⟩, _⟩ := h1s j o' q1
          exact q5 (hi.heap.inj j k _ _ b q4 hf q2 h1)
        cases i with
        | zero =>
          cases i' with
          | zero => rfl
          | succ i' => exact (hno h h').elim
        | succ i =>
          cases i' with
          | zero => exact (hno h' h).elim
          | succ i' => rw [g6 i i' b h h']
      · obtain ⟨⟨o2, q1⟩, q2⟩ := g7 j o' hj
        refine ⟨(h1s j o2 q1).2.1, fun hb => (h1s j o' (q2 hb)).2.2 hb⟩
    cases x with
    | c y =>
      simp only [absorbK] at hK
      split at hK
      · rename_i hfl; exact pure hK fun J => RepD.of_flat hfl hr0
      · exact hK.elim
    | nil sz =>
      simp only [absorbK] at hK
      have hr0 : v = .slice none 0 0 := hr0
      exact pure hK fun J => by rw [hr0]; exact .nil _ _
    | rs k =>
      simp only [absorbK] at hK
      split at hK
      · rename_i sz rows hf
        obtain ⟨hfl, hK⟩ := hK
        have hd := arr_toD hfl (hi.heap.ob k _ hf) (hH k _ hf fun cs h => by cases h) hr0
        cases m with
        | false => exact own hf (fun cs h => by cases h) hd hK
        | true => exact own hf (fun cs h => by cases h) (.own _ _ _ _ hd (arr_own (hi.heap.ob k _ hf) (hH k _ hf fun cs h => by cases h) hr0)) hK
      · exact hK.elim
    | ds k =>
      simp only [absorbK] at hK
      split at hK
      · rename_i ap sz rows hf
        exact own hf (fun cs h => by cases h) (deep_toD (hi.heap.ob k _ hf) (hH k _ hf fun cs h => by cases h) hr0) hK
      · exact hK.elim
    | ru _ _ _ => exact hK.elim
    | pb _ _ _ => exact hK.elim
    | pe _ _ _ _ => exact hK.elim
    | dp _ _ _ _ => exact hK.elim
    | dn _ _ _ => exact hK.elim
    | fb _ _ _ _ _ => exact hK.elim
    | undef => exact hK.elim
    | dead => exact hK.elim

theorem setK'_iff {k : Nat} {o : Ob} {s : St} {K : St → Prop} : setK' k o s K ↔ K ⟨s.regs.map (PV.map (unDns [k])), (setOb s.heap k o).mapX (unDns [k])⟩ := by
  have : unDn k = unDns [k] := funext (unDns_one k)
  unfold setK'
  rw [force_eq, this]

theorem find_set {H : Heap} {k : Nat} {o : Ob} (hk : ∃ o, find H k = some o) (j : Nat) : find ((setOb H k o).mapX (unDns [k])) j = if j = k then some (o.map (unDns [k])) else (find H j).map (Ob.map (unDns [k])) := by
  rw [find_mapX, find_setOb]
  obtain ⟨o', hk⟩ := hk
  by_cases e : j = k
  · simp [e, hk]
  · simp [e]

theorem Inv.irrel {k : Nat} {nb : Option Nat} {cap : Nat} {fp : Nat → Prop} {hd : Nat → Value} (hk : find s.heap k = none) (hi : Inv C L I s a w) : Inv C (L.updD k nb cap fp hd) I s a w := by
  have hne : ∀ {j o}, find s.heap j = some o → j ≠ k := fun {j o} h e => by rw [e, hk] at h; cases h
  have hf : ∀ v x, RepX L s.heap I w v x → RepX (L.updD k nb cap fp hd) s.heap I w v x := fun v x h => RepX.ext (q := fun _ => True) (fun j o _ hj => by
    obtain ⟨e1, e2, _, e4⟩ := L.updD_same (nb := nb) (cap := cap) (fp := fp) (hd := hd) (hne hj)
    exact ⟨⟨o, hj, rfl⟩, e1, e2, e4⟩) (fun _ h => h) (fun _ _ => rfl) (fun _ _ => trivial) h
  have hft : ∀ {j b o}, find s.heap j = some o → Foot (L.updD k nb cap fp hd) j b → Foot L j b := fun {j b o} hj h => by
    obtain ⟨e1, _, e3, _⟩ := L.updD_same (nb := nb) (cap := cap) (fp := fp) (hd := hd) (hne hj)
    rcases h with h | h
    · exact .inl (e1 ▸ h)
    · exact .inr (e3 ▸ h)
  exact hi.change (f := fun y => y) hf (map_id_regs _).symm ⟨fun j o hj => (hi.heap.ob j o hj).ext' hf (fun _ h => h) (fun _ _ => rfl) (L.updD_same (hne hj)) (fun _ _ => rfl), fun j o b hj hb => hi.heap.own j o b hj (hft hj hb), fun j j' o o' b hj hj' hb hb' => hi.heap.inj j j' o o' b hj hj' (hft hj hb) (hft hj' hb')⟩ hi.Ib hi.Io hi.fr (fun j o _ hj => by
    obtain ⟨e1, e2, _⟩ := L.updD_same (nb := nb) (cap := cap) (fp := fp) (hd := hd) (hne hj)
    exact ⟨o, hj, e1, e2⟩)

/-- A NESTED SLICE OF ITS OWN IS TAKEN OUT. -/
theorem take_inv {k r j q : Nat} {ap : Bool} {sz sz2 : Nat} {rows es : List (List CV)} {row : List CV} (hi : Inv C L I s a w) (hfd : find s.heap k = some (.deep ap sz rows)) (hr : rows[r]? = some row) (hj : row[j]? = some (.own sz2 es)) (hq : find s.heap q = none) (hpq : pinK q = false) :
    ∃ L2, Inv C L2 I ⟨s.regs, setOb s.heap k (.deep ap sz (rows.set r (row.set j .hole)))⟩ a w ∧ Inv C L2 I ⟨s.regs, ins q (.deep true sz2 es) (setOb s.heap k (.deep ap sz (rows.set r (row.set j .hole))))⟩ a w ∧
      (∀ v, RepX L s.heap I w v (.dn k r j) → RepX L2 (ins q (.deep true sz2 es) (setOb s.heap k (.deep ap sz (rows.set r (row.set j .hole))))) I w v (.ds q)) := by
    have hrlt : r < rows.length := (List.getElem?_eq_some_iff.1 hr).1
    have ho := hi.heap.ob k _ hfd
    cases hbk : L.blk k with
    | none => simp only [RepO, hbk] at ho; subst ho; simp at hr
    | some b =>
    simp only [RepO, hbk] at ho
    obtain ⟨⟨h0, hrl, cur, e, fr, Jo, g2, g6, g3, g5, g7, g8⟩, hself⟩ := ho
    have hrow := hrl r row hr
    have hjlt : j < row.length := (List.getElem?_eq_some_iff.1 hj).1
    obtain ⟨v0, p1, p2, p3⟩ := g5 r row j _ hr hj
    have p3 := p3 rfl
    generalize hx : r * sz + j = x0 at p1 p2 p3
    obtain ⟨hd0, hown⟩ : RepD w (Jo x0) v0 (.slice sz2 es) ∧ OwnV w (Jo x0) sz2 v0 := by
      cases p2 with
      | own _ _ _ _ q1 q2 => exact ⟨q1, q2⟩
    -- the hole
    let L1 : Lay := ⟨L.blk, L.cap, fun i => if i = k then fun b' => L.fp k b' ∧ ¬ Jo x0 b' else L.fp i, L.hd⟩
    have hfp : L1.fp k = fun b' => L.fp k b' ∧ ¬ Jo x0 b' := by simp [L1]
    have hf1 : ∀ {b'}, Foot L1 k b' → Foot L k b' ∧ ¬ Jo x0 b' := fun {b'} hb => by
      rcases hb with hb | hb
      · refine ⟨.inl hb, fun hc => ?_⟩
        have e : L.blk k = some b' := hb
        rw [hbk] at e; cases e
        exact hself (g7 _ _ hc)
      · rw [hfp] at hb; exact ⟨.inr hb.1, hb.2⟩
    have hf2 : ∀ {i b'}, i ≠ k → Foot L1 i b' → Foot L i b' := fun {i b'} h hb => by
      rcases hb with hb | hb
      · exact .inl hb
      · simp only [L1, if_neg h] at hb; exact .inr hb
    have hH : ∀ i, find (setOb s.heap k (.deep ap sz (rows.set r (row.set j .hole)))) i = if i = k then some (.deep ap sz (rows.set r (row.set j .hole))) else find s.heap i := fun i => by
      rw [find_setOb]
      by_cases e : i = k
      · simp [e, hfd]
      · simp [e]
    have hob : RepO L1 (setOb s.heap k (.deep ap sz (rows.set r (row.set j .hole)))) I w k (.deep ap sz (rows.set r (row.set j .hole))) := by
        simp only [RepO, show L1.blk k = some b from hbk]
        refine ⟨⟨by simpa using h0, fun i r' hi' => ?_, cur, e, fr, fun x b' => if x = x0 then False else Jo x b', g2, g6, g3, fun i r' j' c q1 q2 => ?_, fun x b' hb => ?_, fun x y b' hb1 hb2 => ?_⟩, fun hb => by rw [hfp] at hb; exact hself hb.1⟩
        · by_cases hii : i = r
          · subst hii
            rw [List.getElem?_set_self hrlt] at hi'
            cases hi'; rw [List.length_set]; exact hrow
          · rw [List.getElem?_set_ne (fun e => hii e.symm)] at hi'
            exact hrl i r' hi'
        · by_cases hii : i = r
          · subst hii
            rw [List.getElem?_set_self hrlt] at q1
            cases q1
            have hj'lt : j' < row.length := by have := (List.getElem?_eq_some_iff.1 q2).1; simpa using this
            by_cases hjj : j' = j
            · subst hjj
              rw [List.getElem?_set_self hjlt] at q2
              cases q2
              obtain ⟨base, n, cap, hv⟩ := hd0.isSlice
              rw [hx]
              exact ⟨v0, p1, by rw [hv]; exact .hole _ _ _ _, fun h => by cases h⟩
            · rw [List.getElem?_set_ne (fun e => hjj e.symm)] at q2
              obtain ⟨v1, t1, t2, t3⟩ := g5 i row j' c hr q2
              have hne : i * sz + j' ≠ x0 := by rw [← hx]; omega
              exact ⟨v1, t1, by simpa [hne] using t2, t3⟩
          · rw [List.getElem?_set_ne (fun e => hii e.symm)] at q1
            obtain ⟨v1, t1, t2, t3⟩ := g5 i r' j' c q1 q2
            have hj'lt : j' < r'.length := (List.getElem?_eq_some_iff.1 q2).1
            have hr'l := hrl i r' q1
            have hne : i * sz + j' ≠ x0 := by
              rw [← hx]
              intro e
              have hjs : j < sz := by omega
              have hjs' : j' < sz := by omega
              have e1 : (i * sz + j') / sz = i := by rw [Nat.mul_comm, Nat.mul_add_div (by omega), Nat.div_eq_of_lt hjs', Nat.add_zero]
              have e2 : (r * sz + j) / sz = r := by rw [Nat.mul_comm, Nat.mul_add_div (by omega), Nat.div_eq_of_lt hjs, Nat.add_zero]
              exact hii (by rw [← e1, e, e2])
            exact ⟨v1, t1, by simpa [hne] using t2, t3⟩
        · by_cases hne : x = x0
          · simp only [hne, if_true] at hb
          · simp only [hne, if_false] at hb
            rw [hfp]
            exact ⟨g7 x b' hb, fun hc => hne (g8 x x0 b' hb hc)⟩
        · by_cases e1 : x = x0
          · simp only [e1, if_true] at hb1
          · by_cases e2 : y = x0
            · simp only [e2, if_true] at hb2
            · simp only [e1, e2, if_false] at hb1 hb2
              exact g8 x y b' hb1 hb2
    have hX : ∀ v x, RepX L s.heap I w v x → RepX L1 (setOb s.heap k (.deep ap sz (rows.set r (row.set j .hole)))) I w v x := fun v x h => RepX.ext (q := fun _ => True) (fun i o _ hio => by
      refine ⟨?_, rfl, rfl, rfl⟩
      rw [hH]
      by_cases e : i = k
      · subst e; rw [hfd] at hio; cases hio
        exact ⟨_, if_pos rfl, by simp [Ob.shape]⟩
      · exact ⟨o, by rw [if_neg e]; exact hio, rfl⟩) (fun _ h => h) (fun _ _ => rfl) (fun _ _ => trivial) h
    have hold : ∀ i o, find (setOb s.heap k (.deep ap sz (rows.set r (row.set j .hole)))) i = some o → ∃ o', find s.heap i = some o' ∧ (i ≠ k → o = o') := fun i o h => by
      rw [hH] at h
      by_cases e : i = k
      · subst e; exact ⟨_, hfd, fun h => absurd rfl h⟩
      · rw [if_neg e] at h; exact ⟨o, h, fun _ => rfl⟩
    have hfold : ∀ {i b'}, Foot L1 i b' → Foot L i b' := fun {i b'} hb => by
      by_cases e : i = k
      · subst e; exact (hf1 hb).1
      · exact hf2 e hb
    have hi1 : Inv C L1 I ⟨s.regs, setOb s.heap k (.deep ap sz (rows.set r (row.set j .hole)))⟩ a w := hi.change (f := fun y => y) hX (map_id_regs _).symm ⟨fun i o hio => by
        by_cases e : i = k
        · subst e
          simp only at hio
          rw [hH, if_pos rfl] at hio; cases hio
          exact hob
        · obtain ⟨o', h1, h2⟩ := hold i o hio
          rw [h2 e]
          exact (hi.heap.ob i o' h1).ext' hX (fun _ h => h) (fun _ _ => rfl) ⟨rfl, rfl, by simp only [L1]; rw [if_neg e], rfl⟩ (fun _ _ => rfl), fun i o b' hio hb => by
        obtain ⟨o', h1, _⟩ := hold i o hio
        exact hi.heap.own i o' b' h1 (hfold hb), fun i i' o o' b' hio hio' hb hb' => by
        obtain ⟨o1, h1, _⟩ := hold i o hio
        obtain ⟨o2, h2, _⟩ := hold i' o' hio'
        exact hi.heap.inj i i' o1 o2 b' h1 h2 (hfold hb) (hfold hb')⟩ hi.Ib hi.Io hi.fr (fun i o _ hio => by
        obtain ⟨o', h1, _⟩ := hold i o hio
        exact ⟨o', h1, rfl, rfl⟩)
    have hqk : q ≠ k := fun e => by rw [e, hfd] at hq; cases hq
    have hq1 : find (setOb s.heap k (.deep ap sz (rows.set r (row.set j .hole)))) q = none := by rw [hH, if_neg hqk]; exact hq
    -- the slice by itself
    have hnf : ∀ b', Jo x0 b' → C.O b' ∧ ¬ I b' ∧ b' < w.heap.size ∧ ∀ i o', i ≠ q → find (setOb s.heap k (.deep ap sz (rows.set r (row.set j .hole)))) i = some o' → ¬ Foot L1 i b' := fun b' hb => by
      have hfo : Foot L k b' := .inr (g7 _ _ hb)
      obtain ⟨x1, x2, x3⟩ := hi.heap.own k _ b' hfd hfo
      refine ⟨x1, x2, x3, fun i o' _ hio hb2 => ?_⟩
      by_cases e : i = k
      · subst e; exact (hf1 hb2).2 hb
      · rw [hH, if_neg e] at hio
        exact e (hi.heap.inj i k _ _ b' hio hfd (hf2 e hb2) hfo)
    have fin : ∀ (nb : Option Nat) (cap : Nat) (fp : Nat → Prop) (hd : Nat → Value), (∀ b', (nb = some b' ∨ fp b') → Jo x0 b') → (match nb with | none => es = [] ∧ v0 = .slice none 0 0 | some b' => (DRows w fp hd b' cap sz2 es ∧ ¬ fp b') ∧ v0 = .slice (some ⟨b', 0, none⟩) es.length cap) →
        ∃ L2, Inv C L2 I ⟨s.regs, setOb s.heap k (.deep ap sz (rows.set r (row.set j .hole)))⟩ a w ∧ Inv C L2 I ⟨s.regs, ins q (.deep true sz2 es) (setOb s.heap k (.deep ap sz (rows.set r (row.set j .hole))))⟩ a w ∧
      (∀ v, RepX L s.heap I w v (.dn k r j) → RepX L2 (ins q (.deep true sz2 es) (setOb s.heap k (.deep ap sz (rows.set r (row.set j .hole))))) I w v (.ds q)) := fun nb cap fp hd q1 q2 => by
      have hK : newK q (.deep true sz2 es) ⟨s.regs, setOb s.heap k (.deep ap sz (rows.set r (row.set j .hole)))⟩ (fun s' => s' = ⟨s.regs, ins q (.deep true sz2 es) (setOb s.heap k (.deep ap sz (rows.set r (row.set j .hole))))⟩) := by
        unfold newK killK
        simp only [hpq, hq1, forceH_eq]
      obtain ⟨s', z1, z2, z3, z4, _⟩ := newK_invD (w' := w) hK hi1 (fun _ _ => rfl) (Nat.le_refl _) rfl rfl rfl nb cap fp hd (fun b' hb => hnf b' (q1 b' hb)) (fun H' _ _ => by
        simp only [RepO, Lay.updD, if_true]
        cases nb with
        | none => exact q2.1
        | some b' => exact q2.1)
      subst z1
      refine ⟨_, hi1.irrel hq1, z2, fun v hv => ?_⟩
      obtain ⟨_, _, _, hv1, _, hv, _⟩ := hv
      rw [hfd] at hv1
      cases hv1
      rw [hx, ← p3] at hv
      subst hv
      refine ⟨true, sz2, es, z3, ?_⟩
      simp only [Lay.updD, if_true]
      cases nb with
      | none => exact ⟨.inl q2.2, fun _ => q2.2⟩
      | some b' => exact q2.2
    rcases hown with rfl | ⟨b0, n, cap, vs, e0, fr0, rfl, y1, y2, y3, y4⟩
    · have hes : es = [] := by cases hd0; rfl
      exact fin none 0 (fun _ => False) (fun _ => undef) (fun b' hb => by rcases hb with hb | hb; cases hb; exact hb.elim) ⟨hes, rfl⟩
    · generalize hcc : CV.slice sz2 es = cc at hd0
      cases hd0 with
      | empty =>
        cases hcc
        refine fin (some b0) cap (fun _ => False) (fun _ => undef) (fun b' hb => by rcases hb with hb | hb; cases hb; exact y1; exact hb.elim) ⟨⟨⟨Nat.zero_le _, fun i r' hi' => by simp at hi', vs, e0, fr0, fun _ _ => False, y2, y3, y4, fun i r' j' c hi' => by simp at hi', fun _ _ h => h.elim, fun _ _ _ h => h.elim⟩, fun h => h⟩, rfl⟩
      | slice J b1 cap1 sz1 rows1 vs1 e1 fr1 Js f hJ hcap hsz1 hb1 hvs1 hfz hc hr1 hJs hdis =>
        cases hcc
        refine fin (some b0) cap (fun b' => ∃ x, Js x b') f (fun b' hb => by
          rcases hb with hb | ⟨x, hb⟩
          · cases hb; exact y1
          · exact (hJs x b' hb).1) ⟨⟨⟨hcap, hsz1, vs1, e1, fr1, Js, hb1, hvs1, hfz, fun i r' j' c t1 t2 => ⟨_, hc i r' j' c t1 t2, hr1 i r' j' c t1 t2, fun _ => rfl⟩, fun x b' hb => ⟨x, hb⟩, hdis⟩, fun ⟨x, hb⟩ => (hJs x b0 hb).2 rfl⟩, rfl⟩
      | _ => cases hcc

theorem appendT_goes {o : Oper} {c : Call} {x y : Operand} {t t2 : TypeId} {ti ti2 : TI} (ht : tiOk P t ti = true) (ht2 : tiOk P t2 ti2 = true) (hi : Inv C L I s a w) (ho : o.op = .call c) (hc : c.callee = .builtin .append) (hargs : c.args.toList = [x, y]) (hts : c.argTypes.toList = [t, t2]) {k2 b r j : Nat} {py : PV} {K : PV → St → Prop}
    (hx : RepP L s.heap I w (a.eval x) (.one (.dn b r j))) (hy : RepP L s.heap I w (a.eval y) py) (h : appendT ti ti2 k2 s b r j py K) : ∃ pv s', K pv s' ∧ GoesM P C s' a w o pv := by
  have hca : c.args = #[x, y] := by apply Array.ext'; simpa using hargs
  have hct : c.argTypes = #[t, t2] := by apply Array.ext'; simpa using hts
  have hexec : ∀ {v : Value} {w' : World}, (Builtin.append_ #[t, t2] o.type #[a.eval x, a.eval y]).run P w = .ok v w' → (execOp a.eval o).run P w = .ok (.value v) w' := fun {v w'} hr => by
    simp [execOp, ho, resolve, hc, hca, hct, invoke, builtin, hr]
  unfold appendT at h
  split at h
  · rename_i sz bytes hsl hok
    have hkn := known_any ht (.inl (by rw [hsl]; simp))
    obtain ⟨hu, hsz0, ie, hie, hs, hby, ⟨hb0, hb1⟩, zv, hzv, hzs, _⟩ := hkn.slice _ _ hsl
    subst hby
    have hu2 : ∃ d, P.underlying t2 = some d ∧ ∀ k, d ≠ .int k := by
      obtain ⟨⟨s2, b2⟩, h2⟩ := Option.isSome_iff_exists.1 hok
      exact ⟨_, ((known_any ht2 (.inl (by rw [h2]; simp))).slice _ _ h2).1, fun k h => by cases h⟩
    replace h := rowsOf_sound (P := P) hi hsz0 h hy
    obtain ⟨es, new, h, hlen, hnew, hflat⟩ := h
    split at h
    · rename_i ap sz1 rows hfd hfk hpk
      obtain ⟨⟨row, es0⟩, ⟨hr, hj⟩, ⟨hfl, hbig⟩, h⟩ := h
      simp only [forceH_eq] at h
      simp only at hr hj hbig
      obtain ⟨L2, hi1, hi2, hv⟩ := take_inv hi hfd hr hj hfk hpk
      have hkb : k2 ≠ b := fun e => by rw [e, hfd] at hfk; cases hfk
      have hk1 : find (setOb s.heap b (.deep ap sz1 (rows.set r (row.set j .hole)))) k2 = none := by
        rw [find_setOb]; simp [hkb, hfk]
      have hK : newK k2 (.deep true sz (es0 ++ es)) ⟨s.regs, setOb s.heap b (.deep ap sz1 (rows.set r (row.set j .hole)))⟩ (fun s' => K (.one (.ds k2)) s') := by
        unfold newK killK
        simp only [hpk, hk1, forceH_eq]
        exact h
      have hins : find (ins k2 (.deep true sz es0) (setOb s.heap b (.deep ap sz1 (rows.set r (row.set j .hole))))) k2 = some (.deep true sz es0) := by rw [find_ins _ _ _ _ hk1, if_pos rfl]
      obtain ⟨s', h1, h2⟩ := appendDeep (J := fun _ => False) hu hie hs hsz0 hb0 hb1 hzv hzs hu2 hexec hi2 hins (hv _ hx) hi1 (fun i o' hj => by
        by_cases e : i = k2
        · subst e; exact ⟨_, hins⟩
        · exact ⟨o', by simp only; rw [find_ins _ _ _ _ hk1, if_neg e]; exact hj⟩) hk1 hlen hnew (hflat.toD hfl) (fun b h => h.elim) hbig hK
      exact ⟨_, s', h1, h2⟩
    · exact h.elim
  · exact h.elim

/-- WHAT IS NESTED IS FROZEN. -/
theorem flatK_inv {k : Nat} {K : St → Prop} (h : flatK k s K) (hi : Inv C L I s a w) : ∃ s' L' I', K s' ∧ Inv C L' I' s' a w ∧ ∀ b, I b → I' b := by
  unfold flatK at h
  split at h
  · rename_i sz rows hf
    rw [force_eq] at h
    have ho := hi.heap.ob k _ hf
    let L' : Lay := ⟨L.blk, L.cap, fun i => if i = k then fun _ => False else L.fp i, L.hd⟩
    let I' : Nat → Prop := fun b => I b ∨ L.fp k b
    have hfind : ∀ i, find ((setOb s.heap k (.arr sz rows)).mapX (flatX k)) i = if i = k then some (.arr sz rows) else (find s.heap i).map (Ob.map (flatX k)) := fun i => by
      rw [find_mapX, find_setOb]
      by_cases e : i = k
      · simp [e, hf, Ob.map]
      · simp [e]
    have hfoot : ∀ {i b}, Foot L' i b → Foot L i b ∧ (i = k → L.blk k = some b) := fun {i b} h => by
      rcases h with h | h
      · exact ⟨.inl h, fun e => e ▸ h⟩
      · by_cases e : i = k
        · simp only [L', e, if_true] at h
        · simp only [L', e, if_false] at h; exact ⟨.inr h, fun h => absurd h e⟩
    have hself : ∀ b, L.blk k = some b → ¬ L.fp k b := fun b hb => by
      simp only [RepO, hb] at ho; exact ho.2
    have hrx : ∀ v x, RepX L s.heap I w v x → RepX L' ((setOb s.heap k (.arr sz rows)).mapX (flatX k)) I' w v (flatX k x) := fun v x hx => by
      by_cases hk : x.key? = some k
      · have hfk : find ((setOb s.heap k (.arr sz rows)).mapX (flatX k)) k = some (.arr sz rows) := by rw [hfind, if_pos rfl]
        have hbt : Nat.beq k k = true := beq_iff.2 rfl
        cases x with
        | ds a' =>
          simp only [XV.key?, Option.some.injEq] at hk; subst hk
          obtain ⟨_, _, _, g1, g2⟩ := hx
          rw [hf] at g1; cases g1
          simp only [flatX, hbt]
          refine ⟨sz, rows, hfk, ?_⟩
          simp only [L']
          cases hbk : L.blk a' with
          | none => simp only [hbk] at g2; exact g2.2 (by trivial)
          | some b => simp only [hbk] at g2; exact g2
        | dp a' r o l =>
          simp only [XV.key?, Option.some.injEq] at hk; subst hk
          obtain ⟨_, _, _, b, g1, g2, g3⟩ := hx
          rw [hf] at g1; cases g1
          simp only [flatX, hbt]
          exact ⟨sz, rows, b, hfk, g2, g3⟩
        | dn a' r o =>
          simp only [XV.key?, Option.some.injEq] at hk; subst hk
          simp only [flatX, hbt]
          trivial
        | rs a' => simp only [XV.key?, Option.some.injEq] at hk; subst hk; obtain ⟨_, _, g1, _⟩ := hx; rw [hf] at g1; cases g1
        | ru a' _ _ => simp only [XV.key?, Option.some.injEq] at hk; subst hk; obtain ⟨_, _, g1, _⟩ := hx; rw [hf] at g1; cases g1
        | pe a' _ _ _ => simp only [XV.key?, Option.some.injEq] at hk; subst hk; obtain ⟨_, _, _, g1, _⟩ := hx; rw [hf] at g1; cases g1
        | pb a' _ _ => simp only [XV.key?, Option.some.injEq] at hk; subst hk; obtain ⟨_, _, g1, _⟩ := hx; rw [hf] at g1; cases g1
        | fb _ _ a' _ _ => simp only [XV.key?, Option.some.injEq] at hk; subst hk; obtain ⟨_, _, _, _, g1, _⟩ := hx; rw [hf] at g1; cases g1
        | _ => simp [XV.key?] at hk
      · have e : flatX k x = x := by
          cases x <;> simp only [flatX] <;> (simp only [XV.key?, Option.some.injEq] at hk; rw [beq_false.2 hk])
        rw [e]
        exact RepX.ext (q := fun i => i ≠ k) (fun i o hq hio => ⟨⟨o.map (flatX k), by rw [hfind, if_neg hq, hio]; rfl, shape_map _ _⟩, rfl, rfl, rfl⟩) (fun b hb => .inl hb) (fun _ _ => rfl) (fun i hi' e => hk (e ▸ hi')) hx
    have hold : ∀ i o, find ((setOb s.heap k (.arr sz rows)).mapX (flatX k)) i = some o → ∃ o', find s.heap i = some o' ∧ (i ≠ k → o = o'.map (flatX k)) := fun i o h => by
      rw [hfind] at h
      by_cases e : i = k
      · subst e; exact ⟨_, hf, fun h => absurd rfl h⟩
      · rw [if_neg e] at h
        cases h2 : find s.heap i with
        | none => simp [h2] at h
        | some o' => simp only [h2, Option.map_some, Option.some.injEq] at h; exact ⟨o', rfl, fun _ => h.symm⟩
    refine ⟨_, L', I', h, hi.change (f := flatX k) hrx rfl ⟨fun i o hio => ?_, fun i o b hio hb => ?_, fun i i' o o' b hio hio' hb hb' => ?_⟩ (fun b hb => ?_) (fun b hb hb' => ?_) hi.fr (fun i o _ hio => ?_), fun b hb => .inl hb⟩
    · obtain ⟨o', h1, h2⟩ := hold i o hio
      by_cases e : i = k
      · subst e
        simp only at hio
        rw [hfind, if_pos rfl] at hio
        cases hio
        simp only [RepO, L']
        cases hbk : L.blk i with
        | none => simp only [RepO, hbk] at ho; exact ho
        | some b =>
          simp only [RepO, hbk] at ho
          obtain ⟨⟨q0, q1, vs, e, fr, Js, q2, q3, q4, q5, q6, q7⟩, _⟩ := ho
          refine ⟨q0, q1, vs, e, fr, q2, q3, q4, fun i' r' j' c t1 t2 => ?_⟩
          obtain ⟨v, u1, u2, _⟩ := q5 i' r' j' c t1 t2
          exact ⟨v, u1, u2.toC.mono (fun b' hb' => .inr (q6 _ b' hb')) fun _ _ => rfl⟩
      · rw [h2 e]
        refine (hi.heap.ob i o' h1).ext hrx (fun b hb => .inl hb) (fun _ _ => rfl) ⟨rfl, rfl, by simp only [L']; rw [if_neg e], rfl⟩ (fun _ _ => rfl)
    · obtain ⟨o', h1, _⟩ := hold i o hio
      obtain ⟨f1, f2⟩ := hfoot hb
      obtain ⟨x1, x2, x3⟩ := hi.heap.own i o' b h1 f1
      refine ⟨x1, fun hc => ?_, x3⟩
      rcases hc with hc | hc
      · exact x2 hc
      · have e := hi.heap.inj i k _ _ b h1 hf f1 (.inr hc)
        exact hself b (f2 e) hc
    · obtain ⟨o1, h1, _⟩ := hold i o hio
      obtain ⟨o2, h2, _⟩ := hold i' o' hio'
      exact hi.heap.inj i i' o1 o2 b h1 h2 (hfoot hb).1 (hfoot hb').1
    · rcases hb with hb | hb
      · exact hi.Ib b hb
      · exact (hi.heap.own k _ b hf (.inr hb)).2.2
    · rcases hb' with hb' | hb'
      · exact hi.Io b hb hb'
      · exact .inr (hi.heap.own k _ b hf (.inr hb')).1
    · obtain ⟨o', h1, _⟩ := hold i o hio
      exact ⟨o', h1, rfl, rfl⟩
  · exact ⟨s, L, I, h, hi, fun _ h => h⟩
theorem flatKeys_inv : ∀ {ks : List Nat} {s : St} {L : Lay} {I : Nat → Prop} {K : St → Prop}, flatKeys ks s K → Inv C L I s a w → ∃ s' L' I', K s' ∧ Inv C L' I' s' a w ∧ ∀ b, I b → I' b
  | [], s, L, I, K, h, hi => ⟨s, L, I, h, hi, fun _ h => h⟩
  | k :: ks, s, L, I, K, h, hi => by
    obtain ⟨s1, L1, I1, h, hi1, h1⟩ := flatK_inv h hi
    obtain ⟨s2, L2, I2, h, hi2, h2⟩ := flatKeys_inv h hi1
    exact ⟨s2, L2, I2, h, hi2, fun b hb => h2 b (h1 b hb)⟩

/-- A part of an own deep row is written. -/
theorem Inv.writeDeep {k r b sz o : Nat} {ap : Bool} {rows : List (List CV)} {row ys : List CV} {vs : Array Value} {Js : Nat → Nat → Prop} (hi : Inv C L I s a w) (hfd : find s.heap k = some (.deep ap sz rows)) (hbk : L.blk k = some b) (hr : rows[r]? = some row)
    (hl : o + ys.length ≤ sz) (hsz : vs.size = ys.length) (hv : ∀ (i : Nat) (y : CV) (v : Value), ys[i]? = some y → vs[i]? = some v → RepD w (Js i) v y)
    (hJ : ∀ i b, Js i b → C.O b ∧ ¬ I b ∧ b < w.heap.size ∧ ∀ j o, find s.heap j = some o → ¬ Foot L j b) (hdj : ∀ i i' b, Js i b → Js i' b → i = i') {K : St → Prop} (hK : setK' k (.deep ap sz (rows.set r (spliceC row o ys))) s K) :
    ∃ w' s' L', (storeCells ⟨b, r * sz + o, none⟩ vs.toList 0).run P w = .ok () w' ∧ K s' ∧ Inv C L' I s' a w' := by
  have hrlt : r < rows.length := (List.getElem?_eq_some_iff.1 hr).1
  have ho := hi.heap.ob k _ hfd
  simp only [RepO, hbk] at ho
  obtain ⟨⟨h0, hrl, cur, e, fr, Jo, g2, g6, g3, g5, g7, g8⟩, hself⟩ := ho
  have hrow := hrl r row hr
  have hall : ∀ v ∈ vs.toList, oneCell v := fun v hm => by
    obtain ⟨i, hi', rfl⟩ := List.mem_iff_getElem.1 hm
    have hix : i < ys.length := by rw [← hsz]; simpa using hi'
    exact (hv i ys[i] _ (List.getElem?_eq_getElem hix) (by simp at hi'; simp [hi'])).oneCell
  have hfit : r * sz + sz ≤ cur.size := by
    have h1 : (r + 1) * sz ≤ L.cap k * sz := Nat.mul_le_mul_right _ (by omega)
    rw [Nat.add_mul] at h1; omega
  obtain ⟨w', h1, h2⟩ := run_storeCells (P := P) (o := r * sz + o) vs.toList 0 w cur e fr g2 (by simp; omega) g3 hall
  obtain ⟨cur', q1, q2, q3⟩ := h2.row cur e fr g2
  have hlen' : ∀ (i : Nat) (r' : List CV), (rows.set r (spliceC row o ys))[i]? = some r' → r'.length = sz := fun i r' hr' => by
    rw [List.getElem?_set] at hr'
    split at hr'
    · cases hr'; rw [spliceC_length]; exact hrow
    · exact hrl i r' hr'
  let J' : Nat → Nat → Prop := fun q x => if r * sz + o ≤ q ∧ q < r * sz + o + ys.length then Js (q - (r * sz + o)) x else Jo q x
  let L' : Lay := L.updD k (some b) (L.cap k) (fun x => L.fp k x ∨ ∃ i, Js i x) (fun q => cur'.getD q undef)
  have hsame : ∀ j, j ≠ k → Same L L' j := fun j h => L.updD_same h
  have hL' : L'.blk k = L.blk k ∧ L'.cap k = L.cap k ∧ L'.fp k = (fun x => L.fp k x ∨ ∃ i, Js i x) ∧ L'.hd k = fun q => cur'.getD q undef := ⟨by simp [L', Lay.updD, hbk], by simp [L', Lay.updD], by simp [L', Lay.updD], by simp [L', Lay.updD]⟩
  rw [setK'_iff] at hK
  have hfind := fun j => find_set (o := .deep ap sz (rows.set r (spliceC row o ys))) ⟨_, hfd⟩ j
  have hown : ∀ {b'}, Foot L k b' → C.O b' ∧ ¬ I b' ∧ b' < w.heap.size := fun h => hi.heap.own k _ _ hfd h
  have hother : ∀ {q b'}, Jo q b' → w'.heap[b']? = w.heap[b']? := fun {q b'} h => h2.other b' fun e => hself (e ▸ g7 q b' h)
  have hotherJ : ∀ {q b'}, Js q b' → w'.heap[b']? = w.heap[b']? := fun {q b'} h => h2.other b' fun e => (hJ q b' h).2.2.2 k _ hfd (.inl (e ▸ hbk))
  have hrep : RepO L' ((setOb s.heap k (.deep ap sz (rows.set r (spliceC row o ys)))).mapX (unDns [k])) I w' k (.deep ap sz (rows.set r (spliceC row o ys))) := by
    simp only [RepO, hL'.1, hbk]
    rw [hL'.2.1, hL'.2.2.1, hL'.2.2.2]
    refine ⟨⟨by simpa using h0, hlen', cur', e, fr, J', q1, by rw [q2]; exact g6, fun o ho => ?_, fun i r' j c h3 h4 => ?_, fun x b' hx => ?_, fun x y b' hx hy => ?_⟩, fun h => ?_⟩
    · have : w'.frozen? ⟨b, o, none⟩ = w.frozen? ⟨b, o, none⟩ := by simp [World.frozen?, q1, g2]
      rw [this]; exact g3 o (by rw [← q2]; exact ho)
    · have hlen : vs.toList.length = ys.length := by simpa using hsz
      have hq : cur'[i * sz + j]? = if r * sz + o ≤ i * sz + j ∧ i * sz + j < r * sz + o + ys.length then vs.toList[i * sz + j - (r * sz + o)]? else cur[i * sz + j]? := by rw [q3, hlen, Nat.add_zero]
      have hj : j < sz := by rw [← hlen' i r' h3]; exact (List.getElem?_eq_some_iff.1 h4).1
      have fin : ∀ {v : Value}, cur'[i * sz + j]? = some v → RepD w' (J' (i * sz + j)) v c → ∃ v, cur'[i * sz + j]? = some v ∧ RepD w' (J' (i * sz + j)) v c ∧ (c.isSlice = true → v = cur'.getD (i * sz + j) undef) := fun {v} p1 p2 => ⟨v, p1, p2, fun _ => by simp [p1]⟩
      rw [List.getElem?_set] at h3
      by_cases e1 : r = i
      · subst e1
        simp only [if_true] at h3
        rw [if_pos hrlt] at h3
        cases h3
        rw [spliceC_get ys row o j (by omega)] at h4
        split at h4
        · rename_i hc'
          rw [if_pos (by omega)] at hq
          have e2 : r * sz + j - (r * sz + o) = j - o := by omega
          rw [e2] at hq
          have hjv : j - o < vs.size := by omega
          refine fin (v := vs[j - o]) (by rw [hq]; simp [hjv]) ((hv _ c _ h4 (Array.getElem?_eq_getElem hjv)).mono (fun b' hb' => ?_) fun b' hb' => hotherJ hb')
          simp only [J']
          rw [if_pos (by omega), e2]; exact hb'
        · rename_i hc'
          rw [if_neg (by omega)] at hq
          obtain ⟨v, h5, h6, _⟩ := g5 r row j c hr h4
          refine fin (by rw [hq]; exact h5) (h6.mono (fun b' hb' => ?_) fun b' hb' => hother hb')
          simp only [J']
          rw [if_neg (by omega)]; exact hb'
      · rw [if_neg e1] at h3
        have hout : ¬ (r * sz + o ≤ i * sz + j ∧ i * sz + j < r * sz + o + ys.length) := by
          intro ⟨p1, p2⟩
          rcases Nat.lt_or_ge i r with hlt | hge
          · have : (i + 1) * sz ≤ r * sz := Nat.mul_le_mul_right _ hlt
            rw [Nat.add_mul] at this; omega
          · have : (r + 1) * sz ≤ i * sz := Nat.mul_le_mul_right _ (by omega)
            rw [Nat.add_mul] at this; omega
        rw [if_neg hout] at hq
        obtain ⟨v, h5, h6, _⟩ := g5 i r' j c h3 h4
        refine fin (by rw [hq]; exact h5) (h6.mono (fun b' hb' => ?_) fun b' hb' => hother hb')
        simp only [J']
        rw [if_neg hout]; exact hb'
    · simp only [J'] at hx
      split at hx
      · exact Or.inr ⟨_, hx⟩
      · exact Or.inl (g7 x b' hx)
    · have hno : ∀ {i q}, Js i b' → Jo q b' → False := fun {i q} h1 h2 => (hJ i b' h1).2.2.2 k _ hfd (.inr (g7 q b' h2))
      simp only [J'] at hx hy
      split at hx <;> split at hy
      · have := hdj _ _ b' hx hy; omega
      · exact (hno hx hy).elim
      · exact (hno hy hx).elim
      · exact g8 x y b' hx hy
    · rcases h with h | ⟨i, h⟩
      · exact hself h
      · exact (hJ i b h).2.2.2 k _ hfd (.inl hbk)
  have hfk : ∀ {b'}, Foot L' k b' → Foot L k b' ∨ ∃ i, Js i b' := fun {b'} h => by
    rcases h with h | h
    · exact .inl (.inl (hL'.1 ▸ h))
    · rw [hL'.2.2.1] at h
      exact h.elim (fun h => .inl (.inr h)) .inr
  refine ⟨w', _, L', h1, hK, (hi.setMany (ks := [k]) (fun j hj => by rw [hfind, if_neg (by simpa using hj)]) (fun k' hk' => ?_) (fun j hj => hsame j (by simpa using hj)) (fun b' hb' hno => h2.other b' fun e => hno k (by simp) (.inl (e ▸ hbk))) (by rw [h2.size]; exact Nat.le_refl _) h2.os h2.tape h2.output (fun k' hk' b' hb' => ?_) (fun k' hk' k'' hk'' b' _ _ => by simp at hk' hk''; rw [hk', hk''])).1⟩
  · obtain rfl : k' = k := by simpa using hk'
    exact ⟨ap, sz, rows, _, hfd, by rw [hfind, if_pos rfl]; rfl, by simp, hL'.1, hL'.2.1, hrep⟩
  · obtain rfl : k' = k := by simpa using hk'
    rw [h2.size]
    rcases hfk hb' with h | ⟨i, h⟩
    · obtain ⟨x1, x2, x3⟩ := hown h
      exact ⟨x1, x2, x3, fun j o' hj hf hb2 => hj (by simp [hi.heap.inj j k' _ _ b' hf hfd hb2 h])⟩
    · obtain ⟨x1, x2, x3, x4⟩ := hJ i b' h
      exact ⟨x1, x2, x3, fun j o' _ hf => x4 j o' hf⟩

end

end Go.Proofs.Ytjolahiflldepab.Pi
