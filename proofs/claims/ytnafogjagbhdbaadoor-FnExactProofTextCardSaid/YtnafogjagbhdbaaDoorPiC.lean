/- A part of the layer Pi: pure values, abstract states, a predicate transformer over Go code and its soundness. No statement of the seat is proved here. -/
import Derived.Test.YtnafogjagbhdbaaDoorPiB
import Derived.Laws.BytesString
import Derived.IntWalk
/- Every operation of a region whose order is fixed: sound, more. No statement of the seat is proved here. -/
namespace Go.Proofs.YtnafogjagbhdbaaDoor.Pi
open Go Go.RowKit
set_option linter.unusedVariables false
set_option linter.unusedSimpArgs false

theorem wrap_i64 {n : Int} (h0 : -(2 ^ 63) ≤ n) (h : n < 2 ^ 63) : IntKind.i64.wrap n = n := IntWalk.i64_in n (by omega)

theorem wrap_small {n : Int} (h0 : 0 ≤ n) (h : n < 2 ^ 63) : IntKind.i64.wrap n = n := wrap_i64 (by omega) h

theorem spliceC_get : ∀ (ys row : List CV) (o i : Nat), o + ys.length ≤ row.length → (spliceC row o ys)[i]? = if o ≤ i ∧ i < o + ys.length then ys[i - o]? else row[i]?
  | [], row, o, i, _ => by rw [if_neg (by simp only [List.length_nil]; omega)]; rfl
  | y :: ys, row, o, i, h => by
    simp only [List.length_cons] at h
    simp only [spliceC]
    rw [spliceC_get ys (row.set o y) (o + 1) i (by simp; omega)]
    by_cases e1 : i = o
    · subst e1
      have hi : i < row.length := by omega
      rw [if_neg (by omega), if_pos (by simp)]
      simp [hi]
    · by_cases e2 : o ≤ i ∧ i < o + (ys.length + 1)
      · rw [if_pos (by omega), if_pos (by simpa using e2)]
        have : i - o = (i - (o + 1)) + 1 := by omega
        rw [this]; simp
      · rw [if_neg (by omega), if_neg (by simpa using e2)]
        rw [List.getElem?_set_ne (by omega)]

theorem spliceC_length : ∀ (ys row : List CV) (o : Nat), (spliceC row o ys).length = row.length
  | [], row, o => rfl
  | y :: ys, row, o => by simp [spliceC, spliceC_length ys]

section
variable {P : Program} {C : Ctx} {L : Lay} {I : Nat → Prop} {s : St} {a : Act} {w : World}

theorem Inv.writePart {k r b sz o : Nat} {rows : List (List CV)} {row ys : List CV} {vs : Array Value} (hi : Inv C L I s a w) (hfd : find s.heap k = some (.arr sz rows)) (hbk : L.blk k = some b) (hr : rows[r]? = some row)
    (hl : o + ys.length ≤ sz) (hsz : vs.size = ys.length) (hv : ∀ (i : Nat) (y : CV) (v : Value), ys[i]? = some y → vs[i]? = some v → RepC I w v y) :
    ∃ w', (storeCells ⟨b, r * sz + o, none⟩ vs.toList 0).run P w = .ok () w' ∧ Inv C L I ⟨s.regs, setOb s.heap k (.arr sz (rows.set r (spliceC row o ys)))⟩ a w' := by
  have hrlt : r < rows.length := (List.getElem?_eq_some_iff.1 hr).1
  have ho := hi.heap.ob k _ hfd
  simp only [RepO, hbk] at ho
  obtain ⟨h0, hrl, cur, e, fr, g2, g6, g3, g5⟩ := ho
  have hrow := hrl r row hr
  have hall : ∀ v ∈ vs.toList, oneCell v := fun v hm => by
    obtain ⟨i, hi', rfl⟩ := List.mem_iff_getElem.1 hm
    have hix : i < ys.length := by rw [← hsz]; simpa using hi'
    exact (hv i ys[i] _ (List.getElem?_eq_getElem hix) (by simp at hi'; simp [hi'])).oneCell
  have hfit : r * sz + sz ≤ cur.size := by
    have h1 : (r + 1) * sz ≤ L.cap k * sz := Nat.mul_le_mul_right _ (by omega)
    rw [Nat.add_mul] at h1; omega
  obtain ⟨w', h1, h2⟩ := run_storeCells (P := P) (o := r * sz + o) vs.toList 0 w cur e fr g2 (by simp; omega) g3 hall
  obtain ⟨cur', q1, q2, q3⟩ := h2.row cur e fr g2
  refine ⟨w', h1, hi.writeOb (w' := w') (o' := .arr sz (rows.set r (spliceC row o ys))) hfd hbk (by simp [Ob.shape]) h2.size h2.other h2.os h2.tape h2.output (fun hf hc => ?_)⟩
  simp only [RepO, hbk]
  have hlen' : ∀ (i : Nat) (r' : List CV), (rows.set r (spliceC row o ys))[i]? = some r' → r'.length = sz := fun i r' hr' => by
    rw [List.getElem?_set] at hr'
    split at hr'
    · cases hr'; rw [spliceC_length]; exact hrow
    · exact hrl i r' hr'
  refine ⟨by simpa using h0, hlen', cur', e, fr, q1, by rw [q2]; exact g6, fun o ho => ?_, fun i r' j c h3 h4 => ?_⟩
  · have : w'.frozen? ⟨b, o, none⟩ = w.frozen? ⟨b, o, none⟩ := by simp [World.frozen?, q1, g2]
    rw [this]; exact g3 o (by rw [← q2]; exact ho)
  · rw [q3]
    have hlen : vs.toList.length = ys.length := by simpa using hsz
    rw [hlen, Nat.add_zero]
    have hj : j < sz := by rw [← hlen' i r' h3]; exact (List.getElem?_eq_some_iff.1 h4).1
    rw [List.getElem?_set] at h3
    by_cases e1 : r = i
    · subst e1
      simp only [if_true] at h3
      rw [if_pos hrlt] at h3
      cases h3
      rw [spliceC_get ys row o j (by omega)] at h4
      split at h4
      · rename_i hc'
        rw [if_pos (by omega)]
        have e2 : r * sz + j - (r * sz + o) = j - o := by omega
        rw [e2]
        have hjv : j - o < vs.size := by omega
        exact ⟨vs[j - o], by simp [hjv], hc _ _ (hv _ c _ h4 (Array.getElem?_eq_getElem hjv))⟩
      · rename_i hc'
        rw [if_neg (by omega)]
        obtain ⟨v, h5, h6⟩ := g5 r row j c hr h4
        exact ⟨v, h5, hc _ _ h6⟩
    · rw [if_neg e1] at h3
      have hout : ¬ (r * sz + o ≤ i * sz + j ∧ i * sz + j < r * sz + o + ys.length) := by
        intro ⟨p1, p2⟩
        rcases Nat.lt_or_ge i r with hlt | hge
        · have : (i + 1) * sz ≤ r * sz := Nat.mul_le_mul_right _ hlt
          rw [Nat.add_mul] at this; omega
        · have : (r + 1) * sz ≤ i * sz := Nat.mul_le_mul_right _ (by omega)
          rw [Nat.add_mul] at this; omega
      rw [if_neg hout]
      obtain ⟨v, h5, h6⟩ := g5 i r' j c h3 h4
      exact ⟨v, h5, hc _ _ h6⟩

/-! ### deep objects that are changed -/
def unDns (ks : List Nat) (x : XV) : XV :=
  match x with
  | .dn a _ _ => match ks.contains a with | true => .dead | false => x
  | x => x

theorem unDns_nil (x : XV) : unDns [] x = x := by cases x <;> simp [unDns]
theorem unDns_cons (k : Nat) (ks : List Nat) (x : XV) : unDns ks (unDn k x) = unDns (k :: ks) x := by
  cases x with
  | dn a r j =>
    cases hb : Nat.beq a k with
    | true =>
      have e := beq_iff.1 hb
      subst e
      simp [unDn, unDns]
    | false =>
      have e := beq_false.1 hb
      simp only [unDn, hb, unDns, List.contains_cons]
      have : (a == k) = false := by simpa using e
      rw [this, Bool.false_or]
  | _ => rfl
theorem unDns_one (k : Nat) (x : XV) : unDn k x = unDns [k] x := by rw [← unDns_cons, unDns_nil]
theorem unDns_eq {ks : List Nat} {x : XV} (h : ∀ k r j, x = .dn k r j → k ∉ ks) : unDns ks x = x := by
  cases x with
  | dn a r j =>
    have := h a r j rfl
    simp only [unDns]
    split
    · rename_i hc; exact absurd (by simpa using hc) this
    · rfl
  | _ => rfl

theorem RepX.hdAny {L L' : Lay} {H : Heap} {I : Nat → Prop} {w : World} {v : Value} {x : XV} (hb : L'.blk = L.blk) (hc : L'.cap = L.cap) (hx : ∀ k r j, x ≠ .dn k r j) (h : RepX L H I w v x) : RepX L' H I w v x := by
  cases x with
  | dn a r j => exact absurd rfl (hx a r j)
  | rs k => simp only [RepX] at h ⊢; rw [hb, hc]; exact h
  | ru k o l => simp only [RepX] at h ⊢; rw [hb, hc]; exact h
  | pb k o l => simp only [RepX] at h ⊢; rw [hb]; exact h
  | pe k r o l => simp only [RepX] at h ⊢; rw [hb]; exact h
  | ds k => simp only [RepX] at h ⊢; rw [hb, hc]; exact h
  | dp k r o l => simp only [RepX] at h ⊢; rw [hb]; exact h
  | fb f cs k n qs => simp only [RepX] at h ⊢; rw [hb]; exact h
  | c y => exact h
  | nil sz => exact h
  | undef => exact h
  | dead => trivial

theorem Inv.setMany {ks : List Nat} {H' : Heap} {L' : Lay} {w' : World} (hi : Inv C L I s a w)
    (hH : ∀ j, j ∉ ks → find H' j = (find s.heap j).map (Ob.map (unDns ks)))
    (hD : ∀ k ∈ ks, ∃ ap sz rows rows', find s.heap k = some (.deep ap sz rows) ∧ find H' k = some (.deep ap sz rows') ∧ rows'.length = rows.length ∧ L'.blk k = L.blk k ∧ L'.cap k = L.cap k ∧ RepO L' H' I w' k (.deep ap sz rows'))
    (hL : ∀ j, j ∉ ks → Same L L' j) (hw : ∀ b, b < w.heap.size → (∀ k ∈ ks, ¬ Foot L k b) → w'.heap[b]? = w.heap[b]?) (hsz : w.heap.size ≤ w'.heap.size) (h1 : w'.os = w.os) (h2 : w'.tape = w.tape) (h3 : OutG w' w)
    (hfoot : ∀ k ∈ ks, ∀ b, Foot L' k b → C.O b ∧ ¬ I b ∧ b < w'.heap.size ∧ ∀ j o, j ∉ ks → find s.heap j = some o → ¬ Foot L j b)
    (hinj : ∀ k ∈ ks, ∀ k' ∈ ks, ∀ b, Foot L' k b → Foot L' k' b → k = k') :
    Inv C L' I ⟨s.regs.map (PV.map (unDns ks)), H'⟩ a w' ∧ ∀ v x, RepX L s.heap I w v x → RepX L' H' I w' v (unDns ks x) := by
  have hblk : ∀ j, L'.blk j = L.blk j ∧ L'.cap j = L.cap j := fun j => by
    by_cases hj : j ∈ ks
    · obtain ⟨_, _, _, _, _, _, _, e1, e2, _⟩ := hD j hj; exact ⟨e1, e2⟩
    · exact ⟨(hL j hj).1, (hL j hj).2.1⟩
  have hfL : ∀ {j b}, j ∉ ks → Foot L' j b → Foot L j b := fun {j b} h hf => by
    obtain ⟨e1, _, e3, _⟩ := hL j h
    rcases hf with hf | hf
    · exact .inl (e1 ▸ hf)
    · exact .inr (e3 ▸ hf)
  have hwI : ∀ b, I b → w'.heap[b]? = w.heap[b]? := fun b hb => hw b (hi.Ib b hb) fun k hk hf => by
    obtain ⟨_, _, _, _, g1, _⟩ := hD k hk
    exact (hi.heap.own k _ b g1 hf).2.1 hb
  have hshape : ∀ j o, find s.heap j = some o → ∃ o', find H' j = some o' ∧ o'.shape = o.shape := fun j o hj => by
    by_cases hk : j ∈ ks
    · obtain ⟨ap, sz, rows, rows', g1, g2, g3, _⟩ := hD j hk
      rw [g1] at hj; cases hj
      exact ⟨_, g2, by simp [Ob.shape, g3]⟩
    · exact ⟨_, by rw [hH j hk, hj]; rfl, shape_map _ _⟩
  have hf : ∀ v x, RepX L s.heap I w v x → RepX L' H' I w' v (unDns ks x) := fun v x h => by
    by_cases hx : ∃ k r j, x = .dn k r j
    · obtain ⟨k, r, j, rfl⟩ := hx
      by_cases hk : k ∈ ks
      · have : unDns ks (.dn k r j) = .dead := by simp [unDns, hk]
        rw [this]; trivial
      · rw [unDns_eq (fun k' r' j' e => by cases e; exact hk)]
        exact RepX.ext (q := fun j => j ∉ ks) (fun j o hq hj => ⟨hshape j o hj, (hblk j).1, (hblk j).2, (hL j hq).2.2.2⟩) (fun _ h => h) hwI (fun j hj => by cases hj; exact hk) h
    · have hx' : ∀ k r j, x ≠ .dn k r j := fun k r j e => hx ⟨k, r, j, e⟩
      rw [unDns_eq (fun k' r' j' e => absurd e (hx' _ _ _))]
      let L1 : Lay := ⟨L'.blk, L'.cap, L'.fp, L.hd⟩
      have : RepX L1 H' I w' v x := RepX.ext (L' := L1) (q := fun _ => True) (fun j o _ hj => ⟨hshape j o hj, (hblk j).1, (hblk j).2, rfl⟩) (fun _ h => h) hwI (fun _ _ => trivial) h
      exact RepX.hdAny (L := L1) rfl rfl hx' this
  have hback : ∀ j o, find H' j = some o → ∃ o', find s.heap j = some o' := fun j o hj => by
    by_cases hk : j ∈ ks
    · obtain ⟨_, _, _, _, g1, _⟩ := hD j hk; exact ⟨_, g1⟩
    · rw [hH j hk] at hj
      cases h4 : find s.heap j with
      | none => simp [h4] at hj
      | some o' => exact ⟨o', rfl⟩
  refine ⟨hi.change (f := unDns ks) hf rfl ?_ (fun b h => Nat.lt_of_lt_of_le (hi.Ib b h) hsz) hi.Io ?_ (fun j o _ hj => by
    obtain ⟨o', ho'⟩ := hback j o hj
    exact ⟨o', ho', (hblk j).1, (hblk j).2⟩), hf⟩
  · refine ⟨fun j o hj => ?_, fun j o b hj hb => ?_, fun j j' o o' b hj hj' hb hb' => ?_⟩
    · by_cases hk : j ∈ ks
      · obtain ⟨ap, sz, rows, rows', g1, g2, g3, g4, g5, g6⟩ := hD j hk
        simp only at hj
        rw [g2] at hj; cases hj
        exact g6
      · simp only at hj
        rw [hH j hk] at hj
        cases h4 : find s.heap j with
        | none => simp [h4] at hj
        | some o' =>
          simp only [h4, Option.map_some, Option.some.injEq] at hj
          subst hj
          exact (hi.heap.ob j o' h4).ext hf (fun _ h => h) hwI (hL j hk) (fun b hb => hw b (hi.heap.own j o' b h4 hb).2.2 fun k hk2 hf2 => by
            obtain ⟨_, _, _, _, g1, _⟩ := hD k hk2
            exact hk (hi.heap.inj k j _ _ b g1 h4 hf2 hb ▸ hk2)) (fun _ => rfl)
    · by_cases hk : j ∈ ks
      · obtain ⟨g1, g2, g3, _⟩ := hfoot j hk b hb
        exact ⟨g1, g2, g3⟩
      · obtain ⟨o', ho'⟩ := hback j o hj
        obtain ⟨g1, g2, g3⟩ := hi.heap.own j o' b ho' (hfL hk hb)
        exact ⟨g1, g2, Nat.lt_of_lt_of_le g3 hsz⟩
    · by_cases hk : j ∈ ks
      · by_cases hk' : j' ∈ ks
        · exact hinj j hk j' hk' b hb hb'
        · obtain ⟨o3, ho3⟩ := hback j' o' hj'
          exact absurd (hfL hk' hb') ((hfoot j hk b hb).2.2.2 j' o3 hk' ho3)
      · obtain ⟨o3, ho3⟩ := hback j o hj
        by_cases hk' : j' ∈ ks
        · exact absurd (hfL hk hb) ((hfoot j' hk' b hb').2.2.2 j o3 hk ho3)
        · obtain ⟨o4, ho4⟩ := hback j' o' hj'
          exact hi.heap.inj j j' o3 o4 b ho3 ho4 (hfL hk hb) (hfL hk' hb')
  · exact ⟨h1.trans hi.fr.os, h2.trans hi.fr.tape, h3.trans hi.fr.output, Nat.le_trans hi.fr.size hsz, fun b g1 g2 => (hw b (Nat.lt_of_lt_of_le g1 hi.fr.size) fun k hk hf => by
      obtain ⟨_, _, _, _, g3, _⟩ := hD k hk
      exact g2 (hi.heap.own k _ b g3 hf).1).trans (hi.fr.block b g1 g2)⟩

theorem arr_toD {H H0 : Heap} {k sz : Nat} {rows : List (List CV)} (hf : flatRows rows) (ho : RepO L H I w k (.arr sz rows)) (hH : find H0 k = some (.arr sz rows)) {v : Value} (h : RepX L H0 I w v (.rs k)) : RepD w (Foot L k) v (.slice sz rows) := by
  obtain ⟨sz', rows', g1, g2⟩ := h
  rw [hH] at g1; cases g1
  cases hk : L.blk k with
  | none =>
    simp only [hk] at g2
    simp only [RepO, hk] at ho
    subst ho; subst g2
    exact .nil _ _
  | some b =>
    simp only [hk] at g2
    simp only [RepO, hk] at ho
    subst g2
    obtain ⟨h0, hl, vs, e, fr, h3, h4, h5, h6⟩ := ho
    refine .slice (Foot L k) b (L.cap k) sz rows vs e fr (fun _ _ => False) (fun q => vs.getD q undef) (.inl hk) h0 hl h3 h4 h5 (fun i r j c q1 q2 => ?_) (fun i r j c q1 q2 => ?_) (fun _ _ h => h.elim) (fun _ _ _ h => h.elim)
    · obtain ⟨v, p1, p2⟩ := h6 i r j c q1 q2
      simp [p1]
    · obtain ⟨v, p1, p2⟩ := h6 i r j c q1 q2
      have e : vs.getD (i * sz + j) undef = v := by simp [p1]
      rw [e]
      exact RepD.of_flat (hf r (List.mem_of_getElem? q1) c (List.mem_of_getElem? q2)) p2

theorem arr_own {H H0 : Heap} {k sz : Nat} {rows : List (List CV)} (ho : RepO L H I w k (.arr sz rows)) (hH : find H0 k = some (.arr sz rows)) {v : Value} (h : RepX L H0 I w v (.rs k)) : OwnV w (Foot L k) sz v := by
  obtain ⟨sz', rows', g1, g2⟩ := h
  rw [hH] at g1; cases g1
  cases hk : L.blk k with
  | none => simp only [hk] at g2; exact .inl g2
  | some b =>
    simp only [hk] at g2
    simp only [RepO, hk] at ho
    obtain ⟨h0, hl, vs, e, fr, h3, h4, h5, h6⟩ := ho
    exact .inr ⟨b, _, _, vs, e, fr, g2, .inl hk, h3, h4, h5⟩

theorem deep_toD {H H0 : Heap} {k sz : Nat} {ap : Bool} {rows : List (List CV)} (ho : RepO L H I w k (.deep ap sz rows)) (hH : find H0 k = some (.deep ap sz rows)) {v : Value} (h : RepX L H0 I w v (.ds k)) : RepD w (Foot L k) v (.slice sz rows) := by
  obtain ⟨_, sz', rows', g1, g2⟩ := h
  rw [hH] at g1; cases g1
  cases hk : L.blk k with
  | none =>
    simp only [hk] at g2
    simp only [RepO, hk] at ho
    subst ho
    rcases g2.1 with e | ⟨_, _, e⟩ <;> rw [e]
    · exact .nil _ _
    · exact .empty _ _ _ _
  | some b =>
    simp only [hk] at g2
    simp only [RepO, hk] at ho
    subst g2
    exact ho.1.toD (fun x hx => ⟨.inr hx, fun e => ho.2 (e ▸ hx)⟩) (.inl hk)

theorem absorbK_inv {H0 : Heap} {m : Bool} : ∀ {xs : List XV} {s : St} {K : List CV → St → Prop} (_ : absorbK m xs s K) (_ : Inv C L I s a w) (_ : ∀ k o, find s.heap k = some o → (∀ cs, o ≠ .box cs) → find H0 k = some o) (vs : List Value) (_ : vs.length = xs.length) (_ : ∀ (i : Nat) (x : XV) (v : Value), xs[i]? = some x → vs[i]? = some v → RepX L H0 I w v x),
    ∃ (ys : List CV) (s' : St) (Js : Nat → Nat → Prop), K ys s' ∧ Inv C L I s' a w ∧ ys.length = xs.length ∧ (∀ (i : Nat) (y : CV) (v : Value), ys[i]? = some y → vs[i]? = some v → RepD w (Js i) v y) ∧
      (∀ (i b : Nat), Js i b → (∃ j o, find s.heap j = some o ∧ Foot L j b) ∧ ∀ j o, find s'.heap j = some o → ¬ Foot L j b) ∧ (∀ (i i' b : Nat), Js i b → Js i' b → i = i') ∧
      (∀ j o, find s'.heap j = some o → (∃ o', find s.heap j = some o') ∧ ((∀ cs, o ≠ .box cs) → find s.heap j = some o))
  | [], s, K, hK, hi, _, vs, _, _ => ⟨[], s, fun _ _ => False, hK, hi, rfl, fun i y v h => by simp at h, fun _ _ h => h.elim, fun _ _ _ h => h.elim, fun j o h => ⟨⟨o, h⟩, fun _ => h⟩⟩
  | x :: xs, s, K, hK, hi, hH, [], hl, hr => by simp at hl
  | x :: xs, s, K, hK, hi, hH, v :: vs, hl, hr => by
    have hr0 := hr 0 x v rfl rfl
    have hrs : ∀ (i : Nat) (x : XV) (v : Value), xs[i]? = some x → vs[i]? = some v → RepX L H0 I w v x := fun i y u h1 h2 => hr (i + 1) y u (by simpa using h1) (by simpa using h2)
    have hls : vs.length = xs.length := by simpa using hl
    have pure : ∀ {y : CV}, absorbK m xs s (fun cs s => K (y :: cs) s) → (∀ J, RepD w J v y) → ∃ (ys : List CV) (s' : St) (Js : Nat → Nat → Prop), K ys s' ∧ Inv C L I s' a w ∧ ys.length = (x :: xs).length ∧ (∀ (i : Nat) (y : CV) (u : Value), ys[i]? = some y → (v :: vs)[i]? = some u → RepD w (Js i) u y) ∧
      (∀ (i b : Nat), Js i b → (∃ j o, find s.heap j = some o ∧ Foot L j b) ∧ ∀ j o, find s'.heap j = some o → ¬ Foot L j b) ∧ (∀ (i i' b : Nat), Js i b → Js i' b → i = i') ∧
      (∀ j o, find s'.heap j = some o → (∃ o', find s.heap j = some o') ∧ ((∀ cs, o ≠ .box cs) → find s.heap j = some o)) := fun {y} h hd => by
      obtain ⟨ys, s', Js, g1, g2, g3, g4, g5, g6, g7⟩ := absorbK_inv h hi hH vs hls hrs
      refine ⟨y :: ys, s', fun i b => match i with | 0 => False | i + 1 => Js i b, g1, g2, by simp [g3], fun i y' u h1 h2 => ?_, fun i b h => ?_, fun i i' b h h' => ?_, g7⟩
      · cases i with
        | zero => simp at h1 h2; subst h1; subst h2; exact hd _
        | succ i => simp at h1 h2; exact g4 i y' u h1 h2
      · cases i with
        | zero => exact h.elim
        | succ i => exact g5 i b h
      · cases i with
        | zero => exact h.elim
        | succ i =>
          cases i' with
          | zero => exact h'.elim
          | succ i' => rw [g6 i i' b h h']
    have own : ∀ {k : Nat} {y : CV} {o : Ob}, find s.heap k = some o → (∀ cs, o ≠ .box cs) → RepD w (Foot L k) v y → killK k s (fun s => absorbK m xs s fun cs s => K (y :: cs) s) → ∃ (ys : List CV) (s' : St) (Js : Nat → Nat → Prop), K ys s' ∧ Inv C L I s' a w ∧ ys.length = (x :: xs).length ∧ (∀ (i : Nat) (y : CV) (u : Value), ys[i]? = some y → (v :: vs)[i]? = some u → RepD w (Js i) u y) ∧
      (∀ (i b : Nat), Js i b → (∃ j o, find s.heap j = some o ∧ Foot L j b) ∧ ∀ j o, find s'.heap j = some o → ¬ Foot L j b) ∧ (∀ (i i' b : Nat), Js i b → Js i' b → i = i') ∧
      (∀ j o, find s'.heap j = some o → (∃ o', find s.heap j = some o') ∧ ((∀ cs, o ≠ .box cs) → find s.heap j = some o)) := fun {k y o} hf hnb hd h => by
      obtain ⟨s1, h, hi1, hn, hfs, _⟩ := killK_inv h hi
      have h1s : ∀ j o', find s1.heap j = some o' → j ≠ k ∧ (∃ o2, find s.heap j = some o2) ∧ ((∀ cs, o' ≠ .box cs) → find s.heap j = some o') := fun j o' hj => by
        by_cases e : j = k
        · rw [e, hn] at hj; cases hj
        · rw [hfs j e] at hj
          cases hj' : find s.heap j with
          | none => simp [hj'] at hj
          | some o3 =>
            refine ⟨e, ⟨o3, rfl⟩, fun hb => ?_⟩
            simp only [hj', Option.map_some, Option.some.injEq] at hj
            cases o3 with
            | box cs => subst hj; exact absurd rfl (hb _)
            | arr _ _ => rw [← hj]; rfl
            | deep _ _ _ => rw [← hj]; rfl
      obtain ⟨ys, s', Js, g1, g2, g3, g4, g5, g6, g7⟩ := absorbK_inv h hi1 (fun j o' hj hb => hH j o' ((h1s j o' hj).2.2 hb) hb) vs hls hrs
      refine ⟨_ :: ys, s', fun i b => match i with | 0 => Foot L k b | i + 1 => Js i b, g1, g2, by simp [g3], fun i y' u h1 h2 => ?_, fun i b h => ?_, fun i i' b h h' => ?_, fun j o' hj => ?_⟩
      · cases i with
        | zero => simp at h1 h2; subst h1; subst h2; exact hd
        | succ i => simp at h1 h2; exact g4 i y' u h1 h2
      · cases i with
        | zero =>
          refine ⟨⟨k, o, hf, h⟩, fun j o' hj hb => ?_⟩
          obtain ⟨⟨o2, ho2⟩, _⟩ := g7 j o' hj
          obtain ⟨q1, ⟨o3, q2⟩, _⟩ := h1s j o2 ho2
          exact q1 (hi.heap.inj j k _ _ b q2 hf hb h)
        | succ i =>
          obtain ⟨⟨j, o', q1, q2⟩, q3⟩ := g5 i b h
          obtain ⟨_, ⟨o3, q4⟩, _⟩ := h1s j o' q1
          exact ⟨⟨j, o3, q4, q2⟩, q3⟩
      · have hno : ∀ {i}, Foot L k b → Js i b → False := fun {i} h1 h2 => by
          obtain ⟨⟨j, o', q1, q2⟩, _⟩ := g5 i b h2
          obtain ⟨q5, ⟨o3, q4⟩, _⟩ := h1s j o' q1
          exact q5 (hi.heap.inj j k _ _ b q4 hf q2 h1)
        cases i with
        | zero =>
          cases i' with
          | zero => rfl
          | succ i' => exact (hno h h').elim
        | succ i =>
          cases i' with
          | zero => exact (hno h' h).elim
          | succ i' => rw [g6 i i' b h h']
      · obtain ⟨⟨o2, q1⟩, q2⟩ := g7 j o' hj
        refine ⟨(h1s j o2 q1).2.1, fun hb => (h1s j o' (q2 hb)).2.2 hb⟩
    cases x with
    | c y =>
      simp only [absorbK] at hK
      split at hK
      · rename_i hfl; exact pure hK fun J => RepD.of_flat hfl hr0
      · exact hK.elim
    | nil sz =>
      simp only [absorbK] at hK
      have hr0 : v = .slice none 0 0 := hr0
      exact pure hK fun J => by rw [hr0]; exact .nil _ _
    | rs k =>
      simp only [absorbK] at hK
      split at hK
      · rename_i sz rows hf
        obtain ⟨hfl, hK⟩ := hK
        have hd := arr_toD hfl (hi.heap.ob k _ hf) (hH k _ hf fun cs h => by cases h) hr0
        cases m with
        | false => exact own hf (fun cs h => by cases h) hd hK
        | true => exact own hf (fun cs h => by cases h) (.own _ _ _ _ hd (arr_own (hi.heap.ob k _ hf) (hH k _ hf fun cs h => by cases h) hr0)) hK
      · exact hK.elim
    | ds k =>
      simp only [absorbK] at hK
      split at hK
      · rename_i ap sz rows hf
        exact own hf (fun cs h => by cases h) (deep_toD (hi.heap.ob k _ hf) (hH k _ hf fun cs h => by cases h) hr0) hK
      · exact hK.elim
    | ru _ _ _ => exact hK.elim
    | pb _ _ _ => exact hK.elim
    | pe _ _ _ _ => exact hK.elim
    | dp _ _ _ _ => exact hK.elim
    | dn _ _ _ => exact hK.elim
    | fb _ _ _ _ _ => exact hK.elim
    | undef => exact hK.elim
    | dead => exact hK.elim

theorem setK'_iff {k : Nat} {o : Ob} {s : St} {K : St → Prop} : setK' k o s K ↔ K ⟨s.regs.map (PV.map (unDns [k])), (setOb s.heap k o).mapX (unDns [k])⟩ := by
  have : unDn k = unDns [k] := funext (unDns_one k)
  unfold setK'
  rw [force_eq, this]

theorem find_set {H : Heap} {k : Nat} {o : Ob} (hk : ∃ o, find H k = some o) (j : Nat) : find ((setOb H k o).mapX (unDns [k])) j = if j = k then some (o.map (unDns [k])) else (find H j).map (Ob.map (unDns [k])) := by
  rw [find_mapX, find_setOb]
  obtain ⟨o', hk⟩ := hk
  by_cases e : j = k
  · simp [e, hk]
  · simp [e]

theorem Inv.irrel {k : Nat} {nb : Option Nat} {cap : Nat} {fp : Nat → Prop} {hd : Nat → Value} (hk : find s.heap k = none) (hi : Inv C L I s a w) : Inv C (L.updD k nb cap fp hd) I s a w := by
  have hne : ∀ {j o}, find s.heap j = some o → j ≠ k := fun {j o} h e => by rw [e, hk] at h; cases h
  have hf : ∀ v x, RepX L s.heap I w v x → RepX (L.updD k nb cap fp hd) s.heap I w v x := fun v x h => RepX.ext (q := fun _ => True) (fun j o _ hj => by
    obtain ⟨e1, e2, _, e4⟩ := L.updD_same (nb := nb) (cap := cap) (fp := fp) (hd := hd) (hne hj)
    exact ⟨⟨o, hj, rfl⟩, e1, e2, e4⟩) (fun _ h => h) (fun _ _ => rfl) (fun _ _ => trivial) h
  have hft : ∀ {j b o}, find s.heap j = some o → Foot (L.updD k nb cap fp hd) j b → Foot L j b := fun {j b o} hj h => by
    obtain ⟨e1, _, e3, _⟩ := L.updD_same (nb := nb) (cap := cap) (fp := fp) (hd := hd) (hne hj)
    rcases h with h | h
    · exact .inl (e1 ▸ h)
    · exact .inr (e3 ▸ h)
  exact hi.change (f := fun y => y) hf (map_id_regs _).symm ⟨fun j o hj => (hi.heap.ob j o hj).ext' hf (fun _ h => h) (fun _ _ => rfl) (L.updD_same (hne hj)) (fun _ _ => rfl), fun j o b hj hb => hi.heap.own j o b hj (hft hj hb), fun j j' o o' b hj hj' hb hb' => hi.heap.inj j j' o o' b hj hj' (hft hj hb) (hft hj' hb')⟩ hi.Ib hi.Io hi.fr (fun j o _ hj => by
    obtain ⟨e1, e2, _⟩ := L.updD_same (nb := nb) (cap := cap) (fp := fp) (hd := hd) (hne hj)
    exact ⟨o, hj, e1, e2⟩)

theorem take_inv {k r j q : Nat} {ap : Bool} {sz sz2 : Nat} {rows es : List (List CV)} {row : List CV} (hi : Inv C L I s a w) (hfd : find s.heap k = some (.deep ap sz rows)) (hr : rows[r]? = some row) (hj : row[j]? = some (.own sz2 es)) (hq : find s.heap q = none) (hpq : pinK q = false) :
    ∃ L2, Inv C L2 I ⟨s.regs, setOb s.heap k (.deep ap sz (rows.set r (row.set j .hole)))⟩ a w ∧ Inv C L2 I ⟨s.regs, ins q (.deep true sz2 es) (setOb s.heap k (.deep ap sz (rows.set r (row.set j .hole))))⟩ a w ∧
      (∀ v, RepX L s.heap I w v (.dn k r j) → RepX L2 (ins q (.deep true sz2 es) (setOb s.heap k (.deep ap sz (rows.set r (row.set j .hole))))) I w v (.ds q)) := by
    have hrlt : r < rows.length := (List.getElem?_eq_some_iff.1 hr).1
    have ho := hi.heap.ob k _ hfd
    cases hbk : L.blk k with
    | none => simp only [RepO, hbk] at ho; subst ho; simp at hr
    | some b =>
    simp only [RepO, hbk] at ho
    obtain ⟨⟨h0, hrl, cur, e, fr, Jo, g2, g6, g3, g5, g7, g8⟩, hself⟩ := ho
    have hrow := hrl r row hr
    have hjlt : j < row.length := (List.getElem?_eq_some_iff.1 hj).1
    obtain ⟨v0, p1, p2, p3⟩ := g5 r row j _ hr hj
    have p3 := p3 rfl
    generalize hx : r * sz + j = x0 at p1 p2 p3
    obtain ⟨hd0, hown⟩ : RepD w (Jo x0) v0 (.slice sz2 es) ∧ OwnV w (Jo x0) sz2 v0 := by
      cases p2 with
      | own _ _ _ _ q1 q2 => exact ⟨q1, q2⟩
    -- the hole
    let L1 : Lay := ⟨L.blk, L.cap, fun i => if i = k then fun b' => L.fp k b' ∧ ¬ Jo x0 b' else L.fp i, L.hd⟩
    have hfp : L1.fp k = fun b' => L.fp k b' ∧ ¬ Jo x0 b' := by simp [L1]
    have hf1 : ∀ {b'}, Foot L1 k b' → Foot L k b' ∧ ¬ Jo x0 b' := fun {b'} hb => by
      rcases hb with hb | hb
      · refine ⟨.inl hb, fun hc => ?_⟩
        have e : L.blk k = some b' := hb
        rw [hbk] at e; cases e
        exact hself (g7 _ _ hc)
      · rw [hfp] at hb; exact ⟨.inr hb.1, hb.2⟩
    have hf2 : ∀ {i b'}, i ≠ k → Foot L1 i b' → Foot L i b' := fun {i b'} h hb => by
      rcases hb with hb | hb
      · exact .inl hb
      · simp only [L1, if_neg h] at hb; exact .inr hb
    have hH : ∀ i, find (setOb s.heap k (.deep ap sz (rows.set r (row.set j .hole)))) i = if i = k then some (.deep ap sz (rows.set r (row.set j .hole))) else find s.heap i := fun i => by
      rw [find_setOb]
      by_cases e : i = k
      · simp [e, hfd]
      · simp [e]
    have hob : RepO L1 (setOb s.heap k (.deep ap sz (rows.set r (row.set j .hole)))) I w k (.deep ap sz (rows.set r (row.set j .hole))) := by
        simp only [RepO, show L1.blk k = some b from hbk]
        refine ⟨⟨by simpa using h0, fun i r' hi' => ?_, cur, e, fr, fun x b' => if x = x0 then False else Jo x b', g2, g6, g3, fun i r' j' c q1 q2 => ?_, fun x b' hb => ?_, fun x y b' hb1 hb2 => ?_⟩, fun hb => by rw [hfp] at hb; exact hself hb.1⟩
        · by_cases hii : i = r
          · subst hii
            rw [List.getElem?_set_self hrlt] at hi'
            cases hi'; rw [List.length_set]; exact hrow
          · rw [List.getElem?_set_ne (fun e => hii e.symm)] at hi'
            exact hrl i r' hi'
        · by_cases hii : i = r
          · subst hii
            rw [List.getElem?_set_self hrlt] at q1
            cases q1
            have hj'lt : j' < row.length := by have := (List.getElem?_eq_some_iff.1 q2).1; simpa using this
            by_cases hjj : j' = j
            · subst hjj
              rw [List.getElem?_set_self hjlt] at q2
              cases q2
              obtain ⟨base, n, cap, hv⟩ := hd0.isSlice
              rw [hx]
              exact ⟨v0, p1, by rw [hv]; exact .hole _ _ _ _, fun h => by cases h⟩
            · rw [List.getElem?_set_ne (fun e => hjj e.symm)] at q2
              obtain ⟨v1, t1, t2, t3⟩ := g5 i row j' c hr q2
              have hne : i * sz + j' ≠ x0 := by rw [← hx]; omega
              exact ⟨v1, t1, by simpa [hne] using t2, t3⟩
          · rw [List.getElem?_set_ne (fun e => hii e.symm)] at q1
            obtain ⟨v1, t1, t2, t3⟩ := g5 i r' j' c q1 q2
            have hj'lt : j' < r'.length := (List.getElem?_eq_some_iff.1 q2).1
            have hr'l := hrl i r' q1
            have hne : i * sz + j' ≠ x0 := by
              rw [← hx]
              intro e
              have hjs : j < sz := by omega
              have hjs' : j' < sz := by omega
              have e1 : (i * sz + j') / sz = i := by rw [Nat.mul_comm, Nat.mul_add_div (by omega), Nat.div_eq_of_lt hjs', Nat.add_zero]
              have e2 : (r * sz + j) / sz = r := by rw [Nat.mul_comm, Nat.mul_add_div (by omega), Nat.div_eq_of_lt hjs, Nat.add_zero]
              exact hii (by rw [← e1, e, e2])
            exact ⟨v1, t1, by simpa [hne] using t2, t3⟩
        · by_cases hne : x = x0
          · simp only [hne, if_true] at hb
          · simp only [hne, if_false] at hb
            rw [hfp]
            exact ⟨g7 x b' hb, fun hc => hne (g8 x x0 b' hb hc)⟩
        · by_cases e1 : x = x0
          · simp only [e1, if_true] at hb1
          · by_cases e2 : y = x0
            · simp only [e2, if_true] at hb2
            · simp only [e1, e2, if_false] at hb1 hb2
              exact g8 x y b' hb1 hb2
    have hX : ∀ v x, RepX L s.heap I w v x → RepX L1 (setOb s.heap k (.deep ap sz (rows.set r (row.set j .hole)))) I w v x := fun v x h => RepX.ext (q := fun _ => True) (fun i o _ hio => by
      refine ⟨?_, rfl, rfl, rfl⟩
      rw [hH]
      by_cases e : i = k
      · subst e; rw [hfd] at hio; cases hio
        exact ⟨_, if_pos rfl, by simp [Ob.shape]⟩
      · exact ⟨o, by rw [if_neg e]; exact hio, rfl⟩) (fun _ h => h) (fun _ _ => rfl) (fun _ _ => trivial) h
    have hold : ∀ i o, find (setOb s.heap k (.deep ap sz (rows.set r (row.set j .hole)))) i = some o → ∃ o', find s.heap i = some o' ∧ (i ≠ k → o = o') := fun i o h => by
      rw [hH] at h
      by_cases e : i = k
      · subst e; exact ⟨_, hfd, fun h => absurd rfl h⟩
      · rw [if_neg e] at h; exact ⟨o, h, fun _ => rfl⟩
    have hfold : ∀ {i b'}, Foot L1 i b' → Foot L i b' := fun {i b'} hb => by
      by_cases e : i = k
      · subst e; exact (hf1 hb).1
      · exact hf2 e hb
    have hi1 : Inv C L1 I ⟨s.regs, setOb s.heap k (.deep ap sz (rows.set r (row.set j .hole)))⟩ a w := hi.change (f := fun y => y) hX (map_id_regs _).symm ⟨fun i o hio => by
        by_cases e : i = k
        · subst e
          simp only at hio
          rw [hH, if_pos rfl] at hio; cases hio
          exact hob
        · obtain ⟨o', h1, h2⟩ := hold i o hio
          rw [h2 e]
          exact (hi.heap.ob i o' h1).ext' hX (fun _ h => h) (fun _ _ => rfl) ⟨rfl, rfl, by simp only [L1]; rw [if_neg e], rfl⟩ (fun _ _ => rfl), fun i o b' hio hb => by
        obtain ⟨o', h1, _⟩ := hold i o hio
        exact hi.heap.own i o' b' h1 (hfold hb), fun i i' o o' b' hio hio' hb hb' => by
        obtain ⟨o1, h1, _⟩ := hold i o hio
        obtain ⟨o2, h2, _⟩ := hold i' o' hio'
        exact hi.heap.inj i i' o1 o2 b' h1 h2 (hfold hb) (hfold hb')⟩ hi.Ib hi.Io hi.fr (fun i o _ hio => by
        obtain ⟨o', h1, _⟩ := hold i o hio
        exact ⟨o', h1, rfl, rfl⟩)
    have hqk : q ≠ k := fun e => by rw [e, hfd] at hq; cases hq
    have hq1 : find (setOb s.heap k (.deep ap sz (rows.set r (row.set j .hole)))) q = none := by rw [hH, if_neg hqk]; exact hq
    -- the slice by itself
    have hnf : ∀ b', Jo x0 b' → C.O b' ∧ ¬ I b' ∧ b' < w.heap.size ∧ ∀ i o', i ≠ q → find (setOb s.heap k (.deep ap sz (rows.set r (row.set j .hole)))) i = some o' → ¬ Foot L1 i b' := fun b' hb => by
      have hfo : Foot L k b' := .inr (g7 _ _ hb)
      obtain ⟨x1, x2, x3⟩ := hi.heap.own k _ b' hfd hfo
      refine ⟨x1, x2, x3, fun i o' _ hio hb2 => ?_⟩
      by_cases e : i = k
      · subst e; exact (hf1 hb2).2 hb
      · rw [hH, if_neg e] at hio
        exact e (hi.heap.inj i k _ _ b' hio hfd (hf2 e hb2) hfo)
    have fin : ∀ (nb : Option Nat) (cap : Nat) (fp : Nat → Prop) (hd : Nat → Value), (∀ b', (nb = some b' ∨ fp b') → Jo x0 b') → (match nb with | none => es = [] ∧ v0 = .slice none 0 0 | some b' => (DRows w fp hd b' cap sz2 es ∧ ¬ fp b') ∧ v0 = .slice (some ⟨b', 0, none⟩) es.length cap) →
        ∃ L2, Inv C L2 I ⟨s.regs, setOb s.heap k (.deep ap sz (rows.set r (row.set j .hole)))⟩ a w ∧ Inv C L2 I ⟨s.regs, ins q (.deep true sz2 es) (setOb s.heap k (.deep ap sz (rows.set r (row.set j .hole))))⟩ a w ∧
      (∀ v, RepX L s.heap I w v (.dn k r j) → RepX L2 (ins q (.deep true sz2 es) (setOb s.heap k (.deep ap sz (rows.set r (row.set j .hole))))) I w v (.ds q)) := fun nb cap fp hd q1 q2 => by
      have hK : newK q (.deep true sz2 es) ⟨s.regs, setOb s.heap k (.deep ap sz (rows.set r (row.set j .hole)))⟩ (fun s' => s' = ⟨s.regs, ins q (.deep true sz2 es) (setOb s.heap k (.deep ap sz (rows.set r (row.set j .hole))))⟩) := by
        unfold newK killK
        simp only [hpq, hq1, forceH_eq]
      obtain ⟨s', z1, z2, z3, z4, _⟩ := newK_invD (w' := w) hK hi1 (fun _ _ => rfl) (Nat.le_refl _) rfl rfl .rfl nb cap fp hd (fun b' hb => hnf b' (q1 b' hb)) (fun H' _ _ => by
        simp only [RepO, Lay.updD, if_true]
        cases nb with
        | none => exact q2.1
        | some b' => exact q2.1)
      subst z1
      refine ⟨_, hi1.irrel hq1, z2, fun v hv => ?_⟩
      obtain ⟨_, _, _, hv1, _, hv, _⟩ := hv
      rw [hfd] at hv1
      cases hv1
      rw [hx, ← p3] at hv
      subst hv
      refine ⟨true, sz2, es, z3, ?_⟩
      simp only [Lay.updD, if_true]
      cases nb with
      | none => exact ⟨.inl q2.2, fun _ => q2.2⟩
      | some b' => exact q2.2
    rcases hown with rfl | ⟨b0, n, cap, vs, e0, fr0, rfl, y1, y2, y3, y4⟩
    · have hes : es = [] := by cases hd0; rfl
      exact fin none 0 (fun _ => False) (fun _ => undef) (fun b' hb => by rcases hb with hb | hb; cases hb; exact hb.elim) ⟨hes, rfl⟩
    · generalize hcc : CV.slice sz2 es = cc at hd0
      cases hd0 with
      | empty =>
        cases hcc
        refine fin (some b0) cap (fun _ => False) (fun _ => undef) (fun b' hb => by rcases hb with hb | hb; cases hb; exact y1; exact hb.elim) ⟨⟨⟨Nat.zero_le _, fun i r' hi' => by simp at hi', vs, e0, fr0, fun _ _ => False, y2, y3, y4, fun i r' j' c hi' => by simp at hi', fun _ _ h => h.elim, fun _ _ _ h => h.elim⟩, fun h => h⟩, rfl⟩
      | slice J b1 cap1 sz1 rows1 vs1 e1 fr1 Js f hJ hcap hsz1 hb1 hvs1 hfz hc hr1 hJs hdis =>
        cases hcc
        refine fin (some b0) cap (fun b' => ∃ x, Js x b') f (fun b' hb => by
          rcases hb with hb | ⟨x, hb⟩
          · cases hb; exact y1
          · exact (hJs x b' hb).1) ⟨⟨⟨hcap, hsz1, vs1, e1, fr1, Js, hb1, hvs1, hfz, fun i r' j' c t1 t2 => ⟨_, hc i r' j' c t1 t2, hr1 i r' j' c t1 t2, fun _ => rfl⟩, fun x b' hb => ⟨x, hb⟩, hdis⟩, fun ⟨x, hb⟩ => (hJs x b0 hb).2 rfl⟩, rfl⟩
      | _ => cases hcc

theorem appendT_goes {o : Oper} {c : Call} {x y : Operand} {t t2 : TypeId} {ti ti2 : TI} (ht : tiOk P t ti = true) (ht2 : tiOk P t2 ti2 = true) (hi : Inv C L I s a w) (ho : o.op = .call c) (hc : c.callee = .builtin .append) (hargs : c.args.toList = [x, y]) (hts : c.argTypes.toList = [t, t2]) {k2 b r j : Nat} {py : PV} {K : PV → St → Prop}
    (hx : RepP L s.heap I w (a.eval x) (.one (.dn b r j))) (hy : RepP L s.heap I w (a.eval y) py) (h : appendT ti ti2 k2 s b r j py K) : ∃ pv s', K pv s' ∧ GoesM P C s' a w o pv := by
  have hca : c.args = #[x, y] := by apply Array.ext'; simpa using hargs
  have hct : c.argTypes = #[t, t2] := by apply Array.ext'; simpa using hts
  have hexec : ∀ {v : Value} {w' : World}, (Builtin.append_ #[t, t2] o.type #[a.eval x, a.eval y]).run P w = .ok v w' → (execOp a.eval o).run P w = .ok (.value v) w' := fun {v w'} hr => by
    simp [execOp, ho, resolve, hc, hca, hct, invoke, builtin, hr]
  unfold appendT at h
  split at h
  · rename_i sz bytes hsl hok
    have hkn := known_any ht (.inl (by rw [hsl]; simp))
    obtain ⟨hu, hsz0, ie, hie, hs, hby, ⟨hb0, hb1⟩, zv, hzv, hzs, _⟩ := hkn.slice _ _ hsl
    subst hby
    have hu2 : ∃ d, P.underlying t2 = some d ∧ ∀ k, d ≠ .int k := by
      obtain ⟨⟨s2, b2⟩, h2⟩ := Option.isSome_iff_exists.1 hok
      exact ⟨_, ((known_any ht2 (.inl (by rw [h2]; simp))).slice _ _ h2).1, fun k h => by cases h⟩
    replace h := rowsOf_sound (P := P) hi hsz0 h hy
    obtain ⟨es, new, h, hlen, hnew, hflat⟩ := h
    split at h
    · rename_i ap sz1 rows hfd hfk hpk
      obtain ⟨⟨row, es0⟩, ⟨hr, hj⟩, ⟨hfl, hbig⟩, h⟩ := h
      simp only [forceH_eq] at h
      simp only at hr hj hbig
      obtain ⟨L2, hi1, hi2, hv⟩ := take_inv hi hfd hr hj hfk hpk
      have hkb : k2 ≠ b := fun e => by rw [e, hfd] at hfk; cases hfk
      have hk1 : find (setOb s.heap b (.deep ap sz1 (rows.set r (row.set j .hole)))) k2 = none := by
        rw [find_setOb]; simp [hkb, hfk]
      have hK : newK k2 (.deep true sz (es0 ++ es)) ⟨s.regs, setOb s.heap b (.deep ap sz1 (rows.set r (row.set j .hole)))⟩ (fun s' => K (.one (.ds k2)) s') := by
        unfold newK killK
        simp only [hpk, hk1, forceH_eq]
        exact h
      have hins : find (ins k2 (.deep true sz es0) (setOb s.heap b (.deep ap sz1 (rows.set r (row.set j .hole))))) k2 = some (.deep true sz es0) := by rw [find_ins _ _ _ _ hk1, if_pos rfl]
      obtain ⟨s', h1, h2⟩ := appendDeep (J := fun _ => False) hu hie hs hsz0 hb0 hb1 hzv hzs hu2 hexec hi2 hins (hv _ hx) hi1 (fun i o' hj => by
        by_cases e : i = k2
        · subst e; exact ⟨_, hins⟩
        · exact ⟨o', by simp only; rw [find_ins _ _ _ _ hk1, if_neg e]; exact hj⟩) hk1 hlen hnew (hflat.toD hfl) (fun b h => h.elim) hbig hK
      exact ⟨_, s', h1, h2⟩
    · exact h.elim
  · exact h.elim

theorem flatK_inv {k : Nat} {K : St → Prop} (h : flatK k s K) (hi : Inv C L I s a w) : ∃ s' L' I', K s' ∧ Inv C L' I' s' a w ∧ ∀ b, I b → I' b := by
  unfold flatK at h
  split at h
  · rename_i sz rows hf
    rw [force_eq] at h
    have ho := hi.heap.ob k _ hf
    let L' : Lay := ⟨L.blk, L.cap, fun i => if i = k then fun _ => False else L.fp i, L.hd⟩
    let I' : Nat → Prop := fun b => I b ∨ L.fp k b
    have hfind : ∀ i, find ((setOb s.heap k (.arr sz rows)).mapX (flatX k)) i = if i = k then some (.arr sz rows) else (find s.heap i).map (Ob.map (flatX k)) := fun i => by
      rw [find_mapX, find_setOb]
      by_cases e : i = k
      · simp [e, hf, Ob.map]
      · simp [e]
    have hfoot : ∀ {i b}, Foot L' i b → Foot L i b ∧ (i = k → L.blk k = some b) := fun {i b} h => by
      rcases h with h | h
      · exact ⟨.inl h, fun e => e ▸ h⟩
      · by_cases e : i = k
        · simp only [L', e, if_true] at h
        · simp only [L', e, if_false] at h; exact ⟨.inr h, fun h => absurd h e⟩
    have hself : ∀ b, L.blk k = some b → ¬ L.fp k b := fun b hb => by
      simp only [RepO, hb] at ho; exact ho.2
    have hrx : ∀ v x, RepX L s.heap I w v x → RepX L' ((setOb s.heap k (.arr sz rows)).mapX (flatX k)) I' w v (flatX k x) := fun v x hx => by
      by_cases hk : x.key? = some k
      · have hfk : find ((setOb s.heap k (.arr sz rows)).mapX (flatX k)) k = some (.arr sz rows) := by rw [hfind, if_pos rfl]
        have hbt : Nat.beq k k = true := beq_iff.2 rfl
        cases x with
        | ds a' =>
          simp only [XV.key?, Option.some.injEq] at hk; subst hk
          obtain ⟨_, _, _, g1, g2⟩ := hx
          rw [hf] at g1; cases g1
          simp only [flatX, hbt]
          refine ⟨sz, rows, hfk, ?_⟩
          simp only [L']
          cases hbk : L.blk a' with
          | none => simp only [hbk] at g2; exact g2.2 (by trivial)
          | some b => simp only [hbk] at g2; exact g2
        | dp a' r o l =>
          simp only [XV.key?, Option.some.injEq] at hk; subst hk
          obtain ⟨_, _, _, b, g1, g2, g3⟩ := hx
          rw [hf] at g1; cases g1
          simp only [flatX, hbt]
          exact ⟨sz, rows, b, hfk, g2, g3⟩
        | dn a' r o =>
          simp only [XV.key?, Option.some.injEq] at hk; subst hk
          simp only [flatX, hbt]
          trivial
        | rs a' => simp only [XV.key?, Option.some.injEq] at hk; subst hk; obtain ⟨_, _, g1, _⟩ := hx; rw [hf] at g1; cases g1
        | ru a' _ _ => simp only [XV.key?, Option.some.injEq] at hk; subst hk; obtain ⟨_, _, g1, _⟩ := hx; rw [hf] at g1; cases g1
        | pe a' _ _ _ => simp only [XV.key?, Option.some.injEq] at hk; subst hk; obtain ⟨_, _, _, g1, _⟩ := hx; rw [hf] at g1; cases g1
        | pb a' _ _ => simp only [XV.key?, Option.some.injEq] at hk; subst hk; obtain ⟨_, _, g1, _⟩ := hx; rw [hf] at g1; cases g1
        | fb _ _ a' _ _ => simp only [XV.key?, Option.some.injEq] at hk; subst hk; obtain ⟨_, _, _, _, g1, _⟩ := hx; rw [hf] at g1; cases g1
        | _ => simp [XV.key?] at hk
      · have e : flatX k x = x := by
          cases x <;> simp only [flatX] <;> (simp only [XV.key?, Option.some.injEq] at hk; rw [beq_false.2 hk])
        rw [e]
        exact RepX.ext (q := fun i => i ≠ k) (fun i o hq hio => ⟨⟨o.map (flatX k), by rw [hfind, if_neg hq, hio]; rfl, shape_map _ _⟩, rfl, rfl, rfl⟩) (fun b hb => .inl hb) (fun _ _ => rfl) (fun i hi' e => hk (e ▸ hi')) hx
    have hold : ∀ i o, find ((setOb s.heap k (.arr sz rows)).mapX (flatX k)) i = some o → ∃ o', find s.heap i = some o' ∧ (i ≠ k → o = o'.map (flatX k)) := fun i o h => by
      rw [hfind] at h
      by_cases e : i = k
      · subst e; exact ⟨_, hf, fun h => absurd rfl h⟩
      · rw [if_neg e] at h
        cases h2 : find s.heap i with
        | none => simp [h2] at h
        | some o' => simp only [h2, Option.map_some, Option.some.injEq] at h; exact ⟨o', rfl, fun _ => h.symm⟩
    refine ⟨_, L', I', h, hi.change (f := flatX k) hrx rfl ⟨fun i o hio => ?_, fun i o b hio hb => ?_, fun i i' o o' b hio hio' hb hb' => ?_⟩ (fun b hb => ?_) (fun b hb hb' => ?_) hi.fr (fun i o _ hio => ?_), fun b hb => .inl hb⟩
    · obtain ⟨o', h1, h2⟩ := hold i o hio
      by_cases e : i = k
      · subst e
        simp only at hio
        rw [hfind, if_pos rfl] at hio
        cases hio
        simp only [RepO, L']
        cases hbk : L.blk i with
        | none => simp only [RepO, hbk] at ho; exact ho
        | some b =>
          simp only [RepO, hbk] at ho
          obtain ⟨⟨q0, q1, vs, e, fr, Js, q2, q3, q4, q5, q6, q7⟩, _⟩ := ho
          refine ⟨q0, q1, vs, e, fr, q2, q3, q4, fun i' r' j' c t1 t2 => ?_⟩
          obtain ⟨v, u1, u2, _⟩ := q5 i' r' j' c t1 t2
          exact ⟨v, u1, u2.toC.mono (fun b' hb' => .inr (q6 _ b' hb')) fun _ _ => rfl⟩
      · rw [h2 e]
        refine (hi.heap.ob i o' h1).ext hrx (fun b hb => .inl hb) (fun _ _ => rfl) ⟨rfl, rfl, by simp only [L']; rw [if_neg e], rfl⟩ (fun _ _ => rfl) (fun _ => rfl)
    · obtain ⟨o', h1, _⟩ := hold i o hio
      obtain ⟨f1, f2⟩ := hfoot hb
      obtain ⟨x1, x2, x3⟩ := hi.heap.own i o' b h1 f1
      refine ⟨x1, fun hc => ?_, x3⟩
      rcases hc with hc | hc
      · exact x2 hc
      · have e := hi.heap.inj i k _ _ b h1 hf f1 (.inr hc)
        exact hself b (f2 e) hc
    · obtain ⟨o1, h1, _⟩ := hold i o hio
      obtain ⟨o2, h2, _⟩ := hold i' o' hio'
      exact hi.heap.inj i i' o1 o2 b h1 h2 (hfoot hb).1 (hfoot hb').1
    · rcases hb with hb | hb
      · exact hi.Ib b hb
      · exact (hi.heap.own k _ b hf (.inr hb)).2.2
    · rcases hb' with hb' | hb'
      · exact hi.Io b hb hb'
      · exact .inr (hi.heap.own k _ b hf (.inr hb')).1
    · obtain ⟨o', h1, _⟩ := hold i o hio
      exact ⟨o', h1, rfl, rfl⟩
  · exact ⟨s, L, I, h, hi, fun _ h => h⟩
theorem flatKeys_inv : ∀ {ks : List Nat} {s : St} {L : Lay} {I : Nat → Prop} {K : St → Prop}, flatKeys ks s K → Inv C L I s a w → ∃ s' L' I', K s' ∧ Inv C L' I' s' a w ∧ ∀ b, I b → I' b
  | [], s, L, I, K, h, hi => ⟨s, L, I, h, hi, fun _ h => h⟩
  | k :: ks, s, L, I, K, h, hi => by
    obtain ⟨s1, L1, I1, h, hi1, h1⟩ := flatK_inv h hi
    obtain ⟨s2, L2, I2, h, hi2, h2⟩ := flatKeys_inv h hi1
    exact ⟨s2, L2, I2, h, hi2, fun b hb => h2 b (h1 b hb)⟩

theorem Inv.writeDeep {k r b sz o : Nat} {ap : Bool} {rows : List (List CV)} {row ys : List CV} {vs : Array Value} {Js : Nat → Nat → Prop} (hi : Inv C L I s a w) (hfd : find s.heap k = some (.deep ap sz rows)) (hbk : L.blk k = some b) (hr : rows[r]? = some row)
    (hl : o + ys.length ≤ sz) (hsz : vs.size = ys.length) (hv : ∀ (i : Nat) (y : CV) (v : Value), ys[i]? = some y → vs[i]? = some v → RepD w (Js i) v y)
    (hJ : ∀ i b, Js i b → C.O b ∧ ¬ I b ∧ b < w.heap.size ∧ ∀ j o, find s.heap j = some o → ¬ Foot L j b) (hdj : ∀ i i' b, Js i b → Js i' b → i = i') {K : St → Prop} (hK : setK' k (.deep ap sz (rows.set r (spliceC row o ys))) s K) :
    ∃ w' s' L', (storeCells ⟨b, r * sz + o, none⟩ vs.toList 0).run P w = .ok () w' ∧ K s' ∧ Inv C L' I s' a w' := by
  have hrlt : r < rows.length := (List.getElem?_eq_some_iff.1 hr).1
  have ho := hi.heap.ob k _ hfd
  simp only [RepO, hbk] at ho
  obtain ⟨⟨h0, hrl, cur, e, fr, Jo, g2, g6, g3, g5, g7, g8⟩, hself⟩ := ho
  have hrow := hrl r row hr
  have hall : ∀ v ∈ vs.toList, oneCell v := fun v hm => by
    obtain ⟨i, hi', rfl⟩ := List.mem_iff_getElem.1 hm
    have hix : i < ys.length := by rw [← hsz]; simpa using hi'
    exact (hv i ys[i] _ (List.getElem?_eq_getElem hix) (by simp at hi'; simp [hi'])).oneCell
  have hfit : r * sz + sz ≤ cur.size := by
    have h1 : (r + 1) * sz ≤ L.cap k * sz := Nat.mul_le_mul_right _ (by omega)
    rw [Nat.add_mul] at h1; omega
  obtain ⟨w', h1, h2⟩ := run_storeCells (P := P) (o := r * sz + o) vs.toList 0 w cur e fr g2 (by simp; omega) g3 hall
  obtain ⟨cur', q1, q2, q3⟩ := h2.row cur e fr g2
  have hlen' : ∀ (i : Nat) (r' : List CV), (rows.set r (spliceC row o ys))[i]? = some r' → r'.length = sz := fun i r' hr' => by
    rw [List.getElem?_set] at hr'
    split at hr'
    · cases hr'; rw [spliceC_length]; exact hrow
    · exact hrl i r' hr'
  let J' : Nat → Nat → Prop := fun q x => if r * sz + o ≤ q ∧ q < r * sz + o + ys.length then Js (q - (r * sz + o)) x else Jo q x
  let L' : Lay := L.updD k (some b) (L.cap k) (fun x => L.fp k x ∨ ∃ i, Js i x) (fun q => cur'.getD q undef)
  have hsame : ∀ j, j ≠ k → Same L L' j := fun j h => L.updD_same h
  have hL' : L'.blk k = L.blk k ∧ L'.cap k = L.cap k ∧ L'.fp k = (fun x => L.fp k x ∨ ∃ i, Js i x) ∧ L'.hd k = fun q => cur'.getD q undef := ⟨by simp [L', Lay.updD, hbk], by simp [L', Lay.updD], by simp [L', Lay.updD], by simp [L', Lay.updD]⟩
  rw [setK'_iff] at hK
  have hfind := fun j => find_set (o := .deep ap sz (rows.set r (spliceC row o ys))) ⟨_, hfd⟩ j
  have hown : ∀ {b'}, Foot L k b' → C.O b' ∧ ¬ I b' ∧ b' < w.heap.size := fun h => hi.heap.own k _ _ hfd h
  have hother : ∀ {q b'}, Jo q b' → w'.heap[b']? = w.heap[b']? := fun {q b'} h => h2.other b' fun e => hself (e ▸ g7 q b' h)
  have hotherJ : ∀ {q b'}, Js q b' → w'.heap[b']? = w.heap[b']? := fun {q b'} h => h2.other b' fun e => (hJ q b' h).2.2.2 k _ hfd (.inl (e ▸ hbk))
  have hrep : RepO L' ((setOb s.heap k (.deep ap sz (rows.set r (spliceC row o ys)))).mapX (unDns [k])) I w' k (.deep ap sz (rows.set r (spliceC row o ys))) := by
    simp only [RepO, hL'.1, hbk]
    rw [hL'.2.1, hL'.2.2.1, hL'.2.2.2]
    refine ⟨⟨by simpa using h0, hlen', cur', e, fr, J', q1, by rw [q2]; exact g6, fun o ho => ?_, fun i r' j c h3 h4 => ?_, fun x b' hx => ?_, fun x y b' hx hy => ?_⟩, fun h => ?_⟩
    · have : w'.frozen? ⟨b, o, none⟩ = w.frozen? ⟨b, o, none⟩ := by simp [World.frozen?, q1, g2]
      rw [this]; exact g3 o (by rw [← q2]; exact ho)
    · have hlen : vs.toList.length = ys.length := by simpa using hsz
      have hq : cur'[i * sz + j]? = if r * sz + o ≤ i * sz + j ∧ i * sz + j < r * sz + o + ys.length then vs.toList[i * sz + j - (r * sz + o)]? else cur[i * sz + j]? := by rw [q3, hlen, Nat.add_zero]
      have hj : j < sz := by rw [← hlen' i r' h3]; exact (List.getElem?_eq_some_iff.1 h4).1
      have fin : ∀ {v : Value}, cur'[i * sz + j]? = some v → RepD w' (J' (i * sz + j)) v c → ∃ v, cur'[i * sz + j]? = some v ∧ RepD w' (J' (i * sz + j)) v c ∧ (c.isSlice = true → v = cur'.getD (i * sz + j) undef) := fun {v} p1 p2 => ⟨v, p1, p2, fun _ => by simp [p1]⟩
      rw [List.getElem?_set] at h3
      by_cases e1 : r = i
      · subst e1
        simp only [if_true] at h3
        rw [if_pos hrlt] at h3
        cases h3
        rw [spliceC_get ys row o j (by omega)] at h4
        split at h4
        · rename_i hc'
          rw [if_pos (by omega)] at hq
          have e2 : r * sz + j - (r * sz + o) = j - o := by omega
          rw [e2] at hq
          have hjv : j - o < vs.size := by omega
          refine fin (v := vs[j - o]) (by rw [hq]; simp [hjv]) ((hv _ c _ h4 (Array.getElem?_eq_getElem hjv)).mono (fun b' hb' => ?_) fun b' hb' => hotherJ hb')
          simp only [J']
          rw [if_pos (by omega), e2]; exact hb'
        · rename_i hc'
          rw [if_neg (by omega)] at hq
          obtain ⟨v, h5, h6, _⟩ := g5 r row j c hr h4
          refine fin (by rw [hq]; exact h5) (h6.mono (fun b' hb' => ?_) fun b' hb' => hother hb')
          simp only [J']
          rw [if_neg (by omega)]; exact hb'
      · rw [if_neg e1] at h3
        have hout : ¬ (r * sz + o ≤ i * sz + j ∧ i * sz + j < r * sz + o + ys.length) := by
          intro ⟨p1, p2⟩
          rcases Nat.lt_or_ge i r with hlt | hge
          · have : (i + 1) * sz ≤ r * sz := Nat.mul_le_mul_right _ hlt
            rw [Nat.add_mul] at this; omega
          · have : (r + 1) * sz ≤ i * sz := Nat.mul_le_mul_right _ (by omega)
            rw [Nat.add_mul] at this; omega
        rw [if_neg hout] at hq
        obtain ⟨v, h5, h6, _⟩ := g5 i r' j c h3 h4
        refine fin (by rw [hq]; exact h5) (h6.mono (fun b' hb' => ?_) fun b' hb' => hother hb')
        simp only [J']
        rw [if_neg hout]; exact hb'
    · simp only [J'] at hx
      split at hx
      · exact Or.inr ⟨_, hx⟩
      · exact Or.inl (g7 x b' hx)
    · have hno : ∀ {i q}, Js i b' → Jo q b' → False := fun {i q} h1 h2 => (hJ i b' h1).2.2.2 k _ hfd (.inr (g7 q b' h2))
      simp only [J'] at hx hy
      split at hx <;> split at hy
      · have := hdj _ _ b' hx hy; omega
      · exact (hno hx hy).elim
      · exact (hno hy hx).elim
      · exact g8 x y b' hx hy
    · rcases h with h | ⟨i, h⟩
      · exact hself h
      · exact (hJ i b h).2.2.2 k _ hfd (.inl hbk)
  have hfk : ∀ {b'}, Foot L' k b' → Foot L k b' ∨ ∃ i, Js i b' := fun {b'} h => by
    rcases h with h | h
    · exact .inl (.inl (hL'.1 ▸ h))
    · rw [hL'.2.2.1] at h
      exact h.elim (fun h => .inl (.inr h)) .inr
  refine ⟨w', _, L', h1, hK, (hi.setMany (ks := [k]) (fun j hj => by rw [hfind, if_neg (by simpa using hj)]) (fun k' hk' => ?_) (fun j hj => hsame j (by simpa using hj)) (fun b' hb' hno => h2.other b' fun e => hno k (by simp) (.inl (e ▸ hbk))) (by rw [h2.size]; exact Nat.le_refl _) h2.os h2.tape h2.output (fun k' hk' b' hb' => ?_) (fun k' hk' k'' hk'' b' _ _ => by simp at hk' hk''; rw [hk', hk''])).1⟩
  · obtain rfl : k' = k := by simpa using hk'
    exact ⟨ap, sz, rows, _, hfd, by rw [hfind, if_pos rfl]; rfl, by simp, hL'.1, hL'.2.1, hrep⟩
  · obtain rfl : k' = k := by simpa using hk'
    rw [h2.size]
    rcases hfk hb' with h | ⟨i, h⟩
    · obtain ⟨x1, x2, x3⟩ := hown h
      exact ⟨x1, x2, x3, fun j o' hj hf hb2 => hj (by simp [hi.heap.inj j k' _ _ b' hf hfd hb2 h])⟩
    · obtain ⟨x1, x2, x3, x4⟩ := hJ i b' h
      exact ⟨x1, x2, x3, fun j o' _ hf => x4 j o' hf⟩

end

end Go.Proofs.YtnafogjagbhdbaaDoor.Pi
/- Calls that change own objects in place. No statement of the seat is proved here. -/
namespace Go.Proofs.YtnafogjagbhdbaaDoor.Pi
open Go Go.RowKit
set_option linter.unusedVariables false
set_option linter.unusedSimpArgs false

theorem dedup_mem : ∀ {ks : List Nat} {k : Nat}, k ∈ dedup ks ↔ k ∈ ks
  | [], k => by simp [dedup]
  | j :: ks, k => by
    simp only [dedup]
    split
    · rename_i h
      have h : j ∈ ks := List.contains_iff_mem.1 h
      rw [dedup_mem]
      constructor
      · exact fun h => by simp [h]
      · intro h2
        simp only [List.mem_cons] at h2
        rcases h2 with rfl | h2
        · exact h
        · exact h2
    · simp [dedup_mem (ks := ks)]

theorem dedup_nodup : ∀ (ks : List Nat), (dedup ks).Nodup
  | [] => by simp [dedup]
  | j :: ks => by
    simp only [dedup]
    split
    · exact dedup_nodup ks
    · rename_i h
      refine List.nodup_cons.2 ⟨fun hm => ?_, dedup_nodup ks⟩
      have := List.contains_iff_mem.2 (dedup_mem.1 hm)
      rw [this] at h
      cases h

theorem idx_get : ∀ {ks : List Nat} {k i j : Nat}, idx k ks i = some j → i ≤ j ∧ ks[j - i]? = some k
  | [], k, i, j, h => by cases h
  | a :: ks, k, i, j, h => by
    simp only [idx] at h
    split at h
    · rename_i e
      cases h
      exact ⟨Nat.le_refl _, by simp [beq_iff.1 e]⟩
    · obtain ⟨h1, h2⟩ := idx_get h
      refine ⟨by omega, ?_⟩
      have : j - i = (j - (i + 1)) + 1 := by omega
      rw [this]
      simpa using h2

theorem nodup_inj : ∀ {ks : List Nat}, ks.Nodup → ∀ {m m' k : Nat}, ks[m]? = some k → ks[m']? = some k → m = m'
  | [], _, m, m', k, h, _ => by simp at h
  | a :: ks, hn, m, m', k, h, h' => by
    obtain ⟨h1, h2⟩ := List.nodup_cons.1 hn
    cases m with
    | zero =>
      cases m' with
      | zero => rfl
      | succ m' => simp at h h'; subst h; exact absurd (List.mem_of_getElem? h') h1
    | succ m =>
      cases m' with
      | zero => simp at h h'; subst h'; exact absurd (List.mem_of_getElem? h) h1
      | succ m' => simp at h h'; rw [nodup_inj h2 h h']

section
variable {P : Program} {C : Ctx} {L : Lay} {I : Nat → Prop} {s : St} {a : Act} {w : World}

theorem trX_rep {L2 : Lay} {H0 H2 : Heap} {g : XV → Option XV} {f : XV → XV} (hg : ∀ x y v, g x = some y → RepX L H0 I w v (f x) → RepX L2 H2 I w v y) : ∀ {xs ys : List XV}, trX g xs = some ys → xs.length = ys.length ∧ ∀ (i : Nat) (x y : XV) (v : Value), xs[i]? = some x → ys[i]? = some y → RepX L H0 I w v (f x) → RepX L2 H2 I w v y
  | [], ys, h => by simp only [trX, Option.some.injEq] at h; subst h; simp
  | x :: xs, ys, h => by
    simp only [trX] at h
    split at h
    · rename_i y ys' h1 h2
      cases h
      obtain ⟨g1, g2⟩ := trX_rep hg h2
      refine ⟨by simp [g1], fun i x' y' v hx hy hr => ?_⟩
      cases i with
      | zero => simp at hx hy; subst hx; subst hy; exact hg _ _ v h1 hr
      | succ i => simp at hx hy; exact g2 i x' y' v hx hy hr
    · cases h

theorem trP_rep {L2 : Lay} {H0 H2 : Heap} {g : XV → Option XV} {f : XV → XV} (hg : ∀ x y v, g x = some y → RepX L H0 I w v (f x) → RepX L2 H2 I w v y) : ∀ {vs us : List PV}, trP g vs = some us → vs.length = us.length ∧ ∀ (i : Nat) (p q : PV) (v : Value), vs[i]? = some p → us[i]? = some q → RepP L H0 I w v (p.map f) → RepP L2 H2 I w v q
  | [], us, h => by simp only [trP, Option.some.injEq] at h; subst h; simp
  | p :: vs, us, h => by
    simp only [trP] at h
    split at h
    · rename_i q us' h1 h2
      cases h
      obtain ⟨g1, g2⟩ := trP_rep hg h2
      refine ⟨by simp [g1], fun i p' q' v hx hy hr => ?_⟩
      cases i with
      | succ i => simp at hx hy; exact g2 i p' q' v hx hy hr
      | zero =>
        simp at hx hy; subst hx; subst hy
        cases p with
        | one x =>
          simp only at h1
          split at h1
          · cases h1; exact hg _ _ v (by assumption) hr
          · cases h1
        | agg xs =>
          simp only at h1
          split at h1
          · rename_i ys hys
            cases h1
            obtain ⟨vs, rfl, hsz, hr⟩ := hr
            obtain ⟨e1, e2⟩ := trX_rep hg hys
            refine ⟨vs, rfl, by rw [hsz, ← e1]; simp, fun i y v hy hv => ?_⟩
            have hi : i < xs.length := by rw [e1]; exact (List.getElem?_eq_some_iff.1 hy).1
            exact e2 i xs[i] y v (List.getElem?_eq_getElem hi) hy (hr i _ v (by simp [hi]) hv)
          · cases h1
        | tup _ => cases h1
    · cases h

theorem inH_get {h : Heap} : ∀ {ks : List Nat} {i : Nat} {H : Heap}, inH h ks i = some H →
    (∀ m k, ks[m]? = some k → ∃ ap sz rows, find h k = some (.deep ap sz rows) ∧ find H (1000000 + i + m) = some (.deep ap sz rows)) ∧ (∀ j o, find H j = some o → ∃ m k, ks[m]? = some k ∧ j = 1000000 + i + m ∧ find h k = some o)
  | [], i, H, e => by simp only [inH, Option.some.injEq] at e; subst e; exact ⟨by simp, by simp [find]⟩
  | k :: ks, i, H, e => by
    simp only [inH] at e
    split at e
    · rename_i ap sz rows r h1 h2
      cases e
      obtain ⟨g1, g2⟩ := inH_get h2
      refine ⟨fun m k' hk => ?_, fun j o ho => ?_⟩
      · cases m with
        | zero => simp at hk; subst hk; exact ⟨ap, sz, rows, h1, by simp [find]⟩
        | succ m =>
          simp at hk
          obtain ⟨ap', sz', rows', q1, q2⟩ := g1 m k' hk
          refine ⟨ap', sz', rows', q1, ?_⟩
          have hne : Nat.beq (1000000 + i) (1000000 + i + (m + 1)) = false := beq_false.2 (by omega)
          simp only [find, hne]
          rw [← q2]; congr 1; omega
      · simp only [find] at ho
        split at ho
        · rename_i e
          have e := beq_iff.1 e
          subst e
          cases ho
          exact ⟨0, k, by simp, by omega, h1⟩
        · obtain ⟨m, k', q1, q2, q3⟩ := g2 j o ho
          exact ⟨m + 1, k', by simpa using q1, by omega, q3⟩
    · cases e

theorem backK_get {out : Heap} : ∀ {ks : List Nat} {i : Nat} {s : St} {K : St → Prop}, ks.Nodup → backK out ks i s K →
    ∃ s', K s' ∧ s'.regs = s.regs.map (PV.map (unDns ks)) ∧ (∀ j, j ∉ ks → find s'.heap j = (find s.heap j).map (Ob.map (unDns ks))) ∧
      ∀ m k, ks[m]? = some k → ∃ ap sz rows ap' rows', find s.heap k = some (.deep ap sz rows) ∧ find out (1000000 + i + m) = some (.deep ap' sz rows') ∧ rows'.length = rows.length ∧ find s'.heap k = some (.deep ap sz rows')
  | [], i, s, K, _, h => by
    refine ⟨s, h, ?_, fun j _ => ?_, by simp⟩
    · have : (PV.map (unDns [])) = id := funext fun p => by
        have : unDns [] = fun y => y := funext unDns_nil
        rw [this, PV.map_id']; rfl
      rw [this]; simp
    · have : unDns [] = fun y => y := funext unDns_nil
      rw [this]
      cases find s.heap j with
      | none => rfl
      | some o => simp [Ob.map_id']
  | k :: ks, i, s, K, hn, h => by
    obtain ⟨hk, hn⟩ := List.nodup_cons.1 hn
    simp only [backK] at h
    split at h
    · rename_i ap' sz' rows' ap sz rows h1 h2
      split at h
      · rename_i hb
        have e := beq_iff.1 hb
        subst e
        obtain ⟨hl, h⟩ := h
        rw [setK'_iff] at h
        obtain ⟨s', g1, g2, g3, g4⟩ := backK_get hn h
        have hfind := fun j => find_set (o := .deep ap sz rows') ⟨_, h2⟩ j
        have hcomp : unDns ks ∘ unDns [k] = unDns (k :: ks) := funext fun x => by simp only [Function.comp]; rw [← unDns_one, unDns_cons]
        have hpm : ∀ p : PV, (p.map (unDns [k])).map (unDns ks) = p.map (unDns (k :: ks)) := fun p => by
          rw [← hcomp]
          cases p with
          | one x => rfl
          | agg xs => simp [PV.map]
          | tup vs => simp [PV.map]
        have hom : ∀ o : Ob, (o.map (unDns [k])).map (unDns ks) = o.map (unDns (k :: ks)) := fun o => by
          rw [← hcomp]
          cases o with
          | box cs => simp [Ob.map]
          | arr _ _ => rfl
          | deep _ _ _ => rfl
        refine ⟨s', g1, ?_, fun j hj => ?_, fun m k' hm => ?_⟩
        · rw [g2]; simp only [List.map_map]
          congr 1
          funext p; exact hpm p
        · simp only [List.mem_cons, not_or] at hj
          rw [g3 j hj.2]
          simp only
          rw [hfind, if_neg hj.1]
          cases find s.heap j with
          | none => rfl
          | some o => simp [hom]
        · cases m with
          | zero =>
            simp at hm; subst hm
            refine ⟨ap, sz, rows, ap', rows', h2, h1, hl, ?_⟩
            rw [g3 k hk]
            simp only
            rw [hfind, if_pos rfl]; rfl
          | succ m =>
            simp at hm
            have hne : k' ≠ k := fun e => hk (e ▸ List.mem_of_getElem? hm)
            obtain ⟨ap2, sz2, rows2, ap2', rows2', q1, q2, q3, q4⟩ := g4 m k' hm
            simp only at q1
            rw [hfind, if_neg hne] at q1
            cases h5 : find s.heap k' with
            | none => simp [h5] at q1
            | some o =>
              simp only [h5, Option.map_some, Option.some.injEq] at q1
              cases o with
              | box _ => cases q1
              | arr _ _ => cases q1
              | deep x y z =>
                cases q1
                exact ⟨_, _, _, ap2', rows2', rfl, by rw [← q2]; congr 1; omega, q3, q4⟩
      · exact h.elim
    · exact h.elim

theorem wp_callM {o : Oper} {g : FuncId} {vals : Array Value} {as : List PV} {H : Heap} {r : Res} {O I1 : Nat → Prop} {L0 : Lay} (hs : SatM P g as H r) (hlw : LaidIn O w) (hrun : (execOp a.eval o).run P w = .ok (.enter g vals) w) (hIb : ∀ b, I1 b → b < w.heap.size)
    (hsz : vals.size = as.length) (hrep : ∀ (i : Nat) (p : PV) (v : Value), as[i]? = some p → vals[i]? = some v → RepP L0 H I1 w v p) (hok : HeapOK O L0 H I1 w) {next : Act → World → Prop} {Q : Exit → Act → World → Prop}
    (hn : ∀ v w', BackM O I1 w L0 r v w' → next (a.put o.dst v) w') : o.wp P a w next Q := by
  unfold Oper.wp
  rw [hrun]
  simp only [Oper.upon]
  refine (hs.2 O I1 w L0 vals hlw hIb hsz hrep hok).mono fun e w' h => ?_
  cases e with
  | returned v => exact hn v w' h
  | panicked c => exact h.elim
  | outgrown => exact h.elim

theorem argsM_caps {L2 : Lay} {H2 : Heap} {vals : Array Value} {as : List PV} {caps : List CV} {cv : Array Value} (hl : vals.size = as.length) (hr : ∀ (i : Nat) (p : PV) (v : Value), as[i]? = some p → vals[i]? = some v → RepP L2 H2 I w v p)
    (hcl : cv.size = caps.length) (hcr : ∀ (i : Nat) (c : CV) (v : Value), caps[i]? = some c → cv[i]? = some v → RepC I w v c) :
    (vals ++ cv).size = (as ++ caps.map fun y => PV.one (.c y)).length ∧ ∀ (i : Nat) (p : PV) (v : Value), (as ++ caps.map fun y => PV.one (.c y))[i]? = some p → (vals ++ cv)[i]? = some v → RepP L2 H2 I w v p := by
  refine ⟨by simp [hl, hcl], fun i c v h1 h2 => ?_⟩
  by_cases hi : i < as.length
  · rw [List.getElem?_append_left hi] at h1
    rw [Array.getElem?_append_left (by omega)] at h2
    exact hr i c v h1 h2
  · rw [List.getElem?_append_right (by omega)] at h1
    rw [Array.getElem?_append_right (by omega)] at h2
    rw [List.getElem?_map] at h1
    cases hc : caps[i - as.length]? with
    | none => simp [hc] at h1
    | some y =>
      simp only [hc, Option.map_some, Option.some.injEq] at h1
      subst h1
      exact hcr _ y v hc (by rw [← hl]; exact h2)

theorem RepO.deepAny {L L' : Lay} {H H' : Heap} {I I' : Nat → Prop} {w : World} {k k' sz : Nat} {ap ap' : Bool} {rows : List (List CV)} (h1 : L'.blk k' = L.blk k) (h2 : L'.cap k' = L.cap k) (h3 : L'.fp k' = L.fp k) (h4 : L'.hd k' = L.hd k) (h : RepO L H I w k (.deep ap sz rows)) : RepO L' H' I' w k' (.deep ap' sz rows) := by
  simp only [RepO] at h ⊢
  rw [h1, h2, h3, h4]; exact h

theorem callD_goes {o : Oper} {c : Call} {f : Operand} {g : Nat} {caps : List CV} {vs : List PV} (hi : Inv C L I s a w) (ho : o.op = .call c) (hc : c.callee = .value f) {K : PV → St → Prop} (hpf : RepP L s.heap I w (a.eval f) (.one (.c (.fn g caps)))) (hvl : vs.length = c.args.toList.length)
    (hvs : ∀ (i : Nat) (pv : PV) (x : Operand), vs[i]? = some pv → c.args.toList[i]? = some x → RepP L s.heap I w (a.eval x) pv) (h : callD P g caps vs s K) : ∃ pv s', K pv s' ∧ GoesM P C s' a w o pv := by
  have hpf : RepC I w (a.eval f) (.fn g caps) := hpf
  generalize hv : a.eval f = vf at hpf
  cases hpf with
  | fn _ cv _ hcl hcr =>
  have hvals : ∀ {L2 : Lay} {H2 : Heap} {as : List PV} {gg : XV → Option XV} {f : XV → XV}, trP gg vs = some as → vs.map (PV.map f) = vs → (∀ x y v, gg x = some y → RepX L s.heap I w v (f x) → RepX L2 H2 I w v y) →
      (c.args.map a.eval).size = as.length ∧ ∀ (i : Nat) (p : PV) (v : Value), as[i]? = some p → (c.args.map a.eval)[i]? = some v → RepP L2 H2 I w v p := fun {L2 H2 as gg f} htr hff hg => by
    obtain ⟨e1, e2⟩ := trP_rep hg htr
    refine ⟨by rw [← e1, hvl, Array.size_map, Array.length_toList], fun i p v h1 h2 => ?_⟩
    have hil : i < vs.length := by rw [e1]; exact (List.getElem?_eq_some_iff.1 h1).1
    have hia : i < c.args.toList.length := by omega
    have hr := hvs i vs[i] c.args.toList[i] (List.getElem?_eq_getElem hil) (List.getElem?_eq_getElem hia)
    have : v = a.eval c.args.toList[i] := by
      have hia' : i < c.args.size := by simpa using hia
      rw [Array.getElem?_map] at h2
      simp [hia'] at h2
      simp [h2]
    rw [this]
    have hpf : vs[i].map f = vs[i] := by
      have h5 : (vs.map (PV.map f))[i]? = some (vs[i].map f) := by simp [hil]
      rw [hff, List.getElem?_eq_getElem hil] at h5
      simpa using h5.symm
    exact e2 i vs[i] p _ (List.getElem?_eq_getElem hil) h1 (by rw [hpf]; exact hr)
  unfold callD at h
  split at h
  · generalize hks : dedup (keysPs vs) = ks at h
    have hnd : ks.Nodup := hks ▸ dedup_nodup _
    simp only at h
    split at h
    · rename_i as H2 has hH2 h32
      obtain ⟨r, hs, h⟩ := h
      split at h
      · rename_i hsc
        have hrun := exec_call (P := P) (w := w) ho hc hv hs.1
        obtain ⟨s', hK, hregs, hoth, hobs⟩ := backK_get hnd h
        simp only [forceP_eq] at hK
        refine ⟨r.1, s', hK, fun next Q hQ hn => Or.inl ?_⟩
        let L2 : Lay := ⟨fun j => L.blk (ks.getD (j - 1000000) 0), fun j => L.cap (ks.getD (j - 1000000) 0), fun j => L.fp (ks.getD (j - 1000000) 0), fun j => L.hd (ks.getD (j - 1000000) 0)⟩
        have hkk : ∀ {m k}, ks[m]? = some k → ks.getD (1000000 + m - 1000000) 0 = k := fun {m k} h => by
          rw [Nat.add_sub_cancel_left]; simp [List.getD_eq_getElem?_getD, h]
        have hkk0 : ∀ {m k}, ks[m]? = some k → ks.getD (1000000 + 0 + m - 1000000) 0 = k := fun {m k} h => by
          rw [Nat.add_zero]; exact hkk h
        obtain ⟨hin1, hin2⟩ := inH_get hH2
        let O : Nat → Prop := fun b => ∃ k, k ∈ ks ∧ Foot L k b
        have hOC : ∀ b, O b → C.O b ∧ ¬ I b ∧ b < w.heap.size := fun b ⟨k, hk, hb⟩ => by
          obtain ⟨m, hm, rfl⟩ := List.mem_iff_getElem.1 hk
          obtain ⟨_, _, _, q1, _⟩ := hin1 m _ (List.getElem?_eq_getElem hm)
          exact hi.heap.own _ _ b q1 hb
        have hok : HeapOK O L2 H2 I w := by
          refine ⟨fun j o' hj => ?_, fun j o' b hj hb => ?_, fun j j' o1 o2 b hj hj' hb hb' => ?_⟩
          · obtain ⟨m, k, q1, q2, q3⟩ := hin2 j o' hj
            obtain ⟨ap, sz, rows, q4, _⟩ := hin1 m k q1
            rw [q3] at q4; cases q4
            have e := hkk0 q1
            subst q2
            exact RepO.deepAny (by simp only [L2, e]) (by simp only [L2, e]) (by simp only [L2, e]) (by simp only [L2, e]) (hi.heap.ob k _ q3)
          · obtain ⟨m, k, q1, q2, q3⟩ := hin2 j o' hj
            have e := hkk0 q1
            subst q2
            have hb : Foot L k b := by simpa only [Foot, L2, e] using hb
            exact ⟨⟨k, List.mem_of_getElem? q1, hb⟩, (hi.heap.own k _ b q3 hb).2⟩
          · obtain ⟨m, k, q1, q2, q3⟩ := hin2 j o1 hj
            obtain ⟨m', k', q1', q2', q3'⟩ := hin2 j' o2 hj'
            have e := hkk0 q1
            have e' := hkk0 q1'
            subst q2; subst q2'
            have hb : Foot L k b := by simpa only [Foot, L2, e] using hb
            have hb' : Foot L k' b := by simpa only [Foot, L2, e'] using hb'
            have ek := hi.heap.inj k k' _ _ b q3 q3' hb hb'
            subst ek
            have hm : m < ks.length := (List.getElem?_eq_some_iff.1 q1).1
            have : m = m' := nodup_inj hnd q1 q1'
            rw [this]
        obtain ⟨p1, p2⟩ := hvals (L2 := L2) (H2 := H2) (f := fun y => y) has (map_id_regs _) (fun x y v hg hx => by
          cases x <;> simp only [gIn, Option.some.injEq, reduceCtorEq] at hg
          · subst hg; exact hx
          · subst hg; have hx : v = _ := hx; subst hx; exact RepC.nil _
          · rename_i k
            split at hg
            · rename_i m hm
              cases hg
              obtain ⟨_, hm⟩ := idx_get hm
              rw [Nat.sub_zero] at hm
              obtain ⟨ap, sz, rows, q1, q2⟩ := hin1 m k hm
              obtain ⟨_, _, _, q3, q4⟩ := hx
              rw [q1] at q3; cases q3
              refine ⟨ap, sz, rows, by rw [← q2], ?_⟩
              have e := hkk hm
              simp only [L2, e]
              exact q4
            · cases hg)
        obtain ⟨p3, p4⟩ := argsM_caps p1 p2 hcl hcr
        refine wp_callM (O := O) hs (hi.laid fun b h => .inl (hOC b h).1) hrun hi.Ib p3 p4 hok fun v w' ⟨hkp, L3, I3, h1, h2, h3, h4, h5⟩ => ?_
        let ix : Nat → Nat := fun k => 1000000 + ks.idxOf k
        have hix : ∀ {m k}, ks[m]? = some k → ix k = 1000000 + 0 + m := fun {m k} h => by
          have hm : m < ks.length := (List.getElem?_eq_some_iff.1 h).1
          have e : ks[m] = k := by rw [List.getElem?_eq_getElem hm] at h; simpa using h
          show 1000000 + ks.idxOf k = _
          have : ks.idxOf k < ks.length := List.idxOf_lt_length_of_mem (e ▸ List.getElem_mem hm)
          have := nodup_inj (m := ks.idxOf k) hnd (by rw [List.getElem?_eq_getElem this, List.getElem_idxOf this]) h
          omega
        let L4 : Lay := ⟨L.blk, L.cap, fun j => if j ∈ ks then L3.fp (ix j) else L.fp j, fun j => if j ∈ ks then L3.hd (ix j) else L.hd j⟩
        have hmem : ∀ {k}, k ∈ ks → ∃ m, ks[m]? = some k := fun {k} h => by
          obtain ⟨m, hm, rfl⟩ := List.mem_iff_getElem.1 h
          exact ⟨m, List.getElem?_eq_getElem hm⟩
        have hpinned : ∀ {k}, k ∈ ks → ∃ ap sz rows ap' rows', find s.heap k = some (.deep ap sz rows) ∧ find r.2 (ix k) = some (.deep ap' sz rows') ∧ rows'.length = rows.length ∧ find s'.heap k = some (.deep ap sz rows') ∧ L3.blk (ix k) = L.blk k ∧ L3.cap (ix k) = L.cap k := fun {k} hk => by
          obtain ⟨m, hm⟩ := hmem hk
          obtain ⟨ap, sz, rows, ap', rows', q1, q2, q3, q4⟩ := hobs m k hm
          rw [← hix hm] at q2
          obtain ⟨e1, e2⟩ := h5 (ix k) _ (pinK_small (i := ks.idxOf k) (by have := List.idxOf_lt_length_of_mem hk; have := Nat.le_of_ble_eq_true h32; omega)) q2
          have e := hkk0 hm
          rw [← hix hm] at e
          simp only [L2, e] at e1 e2
          exact ⟨ap, sz, rows, ap', rows', q1, q2, q3, q4, e1, e2⟩
        have hfoot : ∀ {k b}, k ∈ ks → Foot L4 k b → Foot L3 (ix k) b := fun {k b} hk hb => by
          obtain ⟨_, _, _, _, _, _, _, _, _, e1, _⟩ := hpinned hk
          rcases hb with hb | hb
          · exact .inl (e1.trans hb)
          · simp only [L4, hk, if_true] at hb; exact .inr hb
        obtain ⟨hinv, hrx⟩ := hi.setMany (ks := ks) (H' := s'.heap) (L' := L4) (w' := w') hoth (fun k hk => by
            obtain ⟨ap, sz, rows, ap', rows', q1, q2, q3, q4, e1, e2⟩ := hpinned hk
            exact ⟨ap, sz, rows, rows', q1, q4, q3, rfl, rfl, RepO.deepAny (by simp only [L4]; exact e1.symm) (by simp only [L4]; exact e2.symm) (by simp only [L4, hk, if_true]) (by simp only [L4, hk, if_true]) (h4.ob _ _ q2)⟩)
          (fun j hj => ⟨rfl, rfl, by simp only [L4, hj, if_false], by simp only [L4, hj, if_false]⟩)
          (fun b hb hno => hkp.block b hb fun ⟨k, hk, hf⟩ => hno k hk hf) hkp.size hkp.os hkp.tape hkp.output (fun k hk b hb => by
            obtain ⟨ap, sz, rows, ap', rows', q1, q2, q3, q4, e1, e2⟩ := hpinned hk
            obtain ⟨x1, x2, x3⟩ := h4.own _ _ b q2 (hfoot hk hb)
            rcases x1 with x1 | x1
            · exact ⟨C.hO b (Nat.le_trans hi.fr.size x1), fun hI => by have := hi.Ib b hI; omega, x3, fun j o' _ hj hbj => by have := (hi.heap.own j o' b hj hbj).2.2; omega⟩
            · obtain ⟨y1, y2, y3⟩ := hOC b x1
              refine ⟨y1, y2, x3, fun j o' hj hfj hbj => ?_⟩
              obtain ⟨k2, hk2, hf2⟩ := x1
              obtain ⟨_, _, _, _, _, q5, _⟩ := hpinned hk2
              exact hj (hi.heap.inj k2 j _ _ b q5 hfj hf2 hbj ▸ hk2))
          (fun k hk k' hk' b hb hb' => by
            obtain ⟨_, _, _, _, _, _, q2, _⟩ := hpinned hk
            obtain ⟨_, _, _, _, _, _, q2', _⟩ := hpinned hk'
            have e := h4.inj _ _ _ _ b q2 q2' (hfoot hk hb) (hfoot hk' hb')
            obtain ⟨m, hm⟩ := hmem hk
            obtain ⟨m', hm'⟩ := hmem hk'
            rw [hix hm, hix hm'] at e
            have : m = m' := by omega
            subst this
            rw [hm] at hm'; cases hm'; rfl)
        have hs' : s' = ⟨s.regs.map (PV.map (unDns ks)), s'.heap⟩ := by cases s'; simp at hregs ⊢; exact hregs
        rw [hs'] at hn
        exact hn v w' I L4 hinv (RepP.scalar_any hsc h3)
      · exact h.elim
    · exact h.elim
  · rename_i k r j hdn
    obtain ⟨hfix, h⟩ := h
    split at h
    · rename_i ap sz rows as hfd has
      obtain ⟨⟨row, sz', es⟩, ⟨hrow, hcell⟩, h⟩ := h
      obtain ⟨q, hs, h⟩ := h
      simp only at h hrow hcell hs
      split at h
      · rename_i ap' sz2 es' hsc hfq
        split at h
        · rename_i hbq
          have e := beq_iff.1 hbq
          subst e
          obtain ⟨hel, h⟩ := h
          rw [setK'_iff] at h
          simp only [forceP_eq] at h
          have hrun := exec_call (P := P) (w := w) ho hc hv hs.1
          refine ⟨q.1, _, h, fun next Q hQ hn => Or.inl ?_⟩
          have hfind := fun j' => find_set (o := .deep ap sz (rows.set r (row.set j (.slice sz' es')))) ⟨_, hfd⟩ j'
          have hrlt : r < rows.length := (List.getElem?_eq_some_iff.1 hrow).1
          have hjlt : j < row.length := (List.getElem?_eq_some_iff.1 hcell).1
          have hob := hi.heap.ob k _ hfd
          cases hbk : L.blk k with
          | none =>
            simp only [RepO, hbk] at hob
            subst hob
            simp at hrlt
          | some b =>
          simp only [RepO, hbk] at hob
          obtain ⟨⟨hcap, hrl, cur, ce, fr, Jo, hcur, hfit, hfz, hcells, hJo, hdis⟩, hself⟩ := hob
          have hrowl := hrl r row hrow
          obtain ⟨v0, hv0, hd0, hh0⟩ := hcells r row j _ hrow hcell
          have hh0 : v0 = L.hd k (r * sz + j) := hh0 rfl
          -- the part by itself
          obtain ⟨nb, cap2, hd2, hpart, hnbJ, hrep2⟩ : ∃ (nb : Option Nat) (cap2 : Nat) (hd2 : Nat → Value), (match nb with | none => emptyV v0 ∧ es = [] | some b' => v0 = .slice (some ⟨b', 0, none⟩) es.length cap2) ∧ (∀ b', nb = some b' → Jo (r * sz + j) b') ∧
              (match nb with | none => True | some b' => DRows w (fun x => Jo (r * sz + j) x ∧ x ≠ b') hd2 b' cap2 sz' es) := by
            rcases hd0.rows with ⟨e1, e2⟩ | ⟨b', cap', hd', e1, e2, e3⟩
            · exact ⟨none, 0, fun _ => undef, ⟨e1, e2⟩, (fun _ h => by cases h), trivial⟩
            · exact ⟨some b', cap', hd', e1, (fun _ h => by cases h; exact e2), e3⟩
          let fp2 : Nat → Prop := fun x => Jo (r * sz + j) x ∧ nb ≠ some x
          let L2 : Lay := ⟨fun _ => nb, fun _ => cap2, fun _ => fp2, fun _ => hd2⟩
          let O : Nat → Prop := Jo (r * sz + j)
          have hO : ∀ b', O b' → L.fp k b' := fun b' h => hJo _ b' h
          have hfoot2 : ∀ {j' b'}, Foot L2 j' b' → O b' := fun {j' b'} h => h.elim (fun h => hnbJ b' h) fun h => h.1
          have hok : HeapOK O L2 [(1000000, .deep false sz' es)] I w := by
            have hone : ∀ {j' o'}, find [(1000000, Ob.deep false sz' es)] j' = some o' → j' = 1000000 ∧ o' = .deep false sz' es := fun {j' o'} h => by
              simp only [find] at h
              split at h
              · rename_i hb'; cases h; exact ⟨(beq_iff.1 hb').symm, rfl⟩
              · cases h
            refine ⟨fun j' o' hj' => ?_, fun j' o' b' hj' hb' => ⟨hfoot2 hb', (hi.heap.own k _ b' hfd (.inr (hO b' (hfoot2 hb')))).2⟩, fun j1 j2 o1 o2 b' h1 h2 _ _ => (hone h1).1.trans (hone h2).1.symm⟩
            obtain ⟨rfl, rfl⟩ := hone hj'
            simp only [RepO]
            cases nb with
            | none => exact hpart.2
            | some b' =>
              simp only at hrep2
              exact ⟨hrep2.mono (fun x hx => ⟨hx.1, fun e => hx.2 (by cases e; rfl)⟩) rfl (fun _ _ => rfl), fun hx => hx.2 rfl⟩
          obtain ⟨p1, p2⟩ := hvals (L2 := L2) (H2 := [(1000000, .deep false sz' es)]) (f := fixDn k r j) has hfix (fun x y v hg hx => by
            cases x <;> simp only [gNest, Option.some.injEq, reduceCtorEq] at hg
            · subst hg; exact hx
            · subst hg; have hx : v = _ := hx; subst hx; exact RepC.nil _
            · subst hg
              obtain ⟨_, _, _, q1, _, q2, _⟩ := hx
              rw [hfd] at q1; cases q1
              rw [← hh0] at q2
              refine ⟨false, sz', es, by simp [find], ?_⟩
              subst q2
              simp only [L2]
              cases nb with
              | none => exact ⟨hpart.1, fun h => by cases h⟩
              | some b' => exact hpart)
          obtain ⟨p3, p4⟩ := argsM_caps p1 p2 hcl hcr
          refine wp_callM (O := O) hs (hi.laid fun b h => .inl (hi.heap.own k _ b hfd (.inr (hO b h))).1) hrun hi.Ib p3 p4 hok fun v w' ⟨hkp, L3, I3, h1, h2, h3, h4, h5⟩ => ?_
          obtain ⟨e1, e2⟩ := h5 1000000 _ (by decide) hfq
          simp only [L2] at e1 e2
          have hob3 := h4.ob _ _ hfq
          let F : Nat → Prop := fun x => Foot L3 1000000 x
          have hF : ∀ b', F b' → w.heap.size ≤ b' ∨ O b' := fun b' h => (h4.own _ _ b' hfq h).1
          -- the part as it is now
          have hd3 : RepD w' F v0 (.slice sz' es') := by
            simp only [RepO, e1] at hob3
            cases nb with
            | none =>
              simp only at hob3
              subst hob3
              rcases hpart.1 with e | ⟨_, _, e⟩ <;> rw [e]
              · exact .nil _ _
              · exact .empty _ _ _ _
            | some b' =>
              simp only at hob3 hpart
              rw [hpart, ← hel, ← e2]
              exact hob3.1.toD (fun x hx => ⟨.inr hx, fun e => hob3.2 (e ▸ hx)⟩) (.inl e1)
          let L4 : Lay := L.updD k (some b) (L.cap k) (fun x => (L.fp k x ∧ ¬ O x) ∨ F x) (L.hd k)
          have hL4 : L4.blk k = L.blk k ∧ L4.cap k = L.cap k ∧ L4.fp k = (fun x => (L.fp k x ∧ ¬ O x) ∨ F x) ∧ L4.hd k = L.hd k := ⟨by simp [L4, Lay.updD, hbk], by simp [L4, Lay.updD], by simp [L4, Lay.updD], by simp [L4, Lay.updD]⟩
          have hblt : b < w.heap.size := (hi.heap.own k _ b hfd (.inl hbk)).2.2
          have hbO : ¬ O b := fun h => hself (hO b h)
          have hwb : w'.heap[b]? = w.heap[b]? := hkp.block b hblt hbO
          have hwJ : ∀ {x b'}, x ≠ r * sz + j → Jo x b' → w'.heap[b']? = w.heap[b']? := fun {x b'} hx hb' => hkp.block b' (hi.heap.own k _ b' hfd (.inr (hJo _ b' hb'))).2.2 fun h => hx (hdis _ _ b' hb' h)
          let J' : Nat → Nat → Prop := fun x => if x = r * sz + j then F else Jo x
          have hlen' : ∀ (i : Nat) (r' : List CV), (rows.set r (row.set j (.slice sz' es')))[i]? = some r' → r'.length = sz := fun i r' hr' => by
            rw [List.getElem?_set] at hr'
            split at hr'
            · cases hr'; simpa using hrowl
            · exact hrl i r' hr'
          have hrep : RepO L4 ((setOb s.heap k (.deep ap sz (rows.set r (row.set j (.slice sz' es'))))).mapX (unDns [k])) I w' k (.deep ap sz (rows.set r (row.set j (.slice sz' es')))) := by
            simp only [RepO, hL4.1, hbk]
            rw [hL4.2.1, hL4.2.2.1, hL4.2.2.2]
            refine ⟨⟨by simpa using hcap, hlen', cur, ce, fr, J', by rw [hwb, hcur], hfit, fun o ho => by rw [frozen_of_block (p := ⟨b, o, none⟩) hwb]; exact hfz o ho, fun i r' j' c' g1 g2 => ?_, fun x b' hx => ?_, fun x y b' hx hy => ?_⟩, fun h => ?_⟩
            · have hj' : j' < sz := by rw [← hlen' i r' g1]; exact (List.getElem?_eq_some_iff.1 g2).1
              have old : ∀ {r0}, rows[i]? = some r0 → r0[j']? = some c' → i * sz + j' ≠ r * sz + j → ∃ v, cur[i * sz + j']? = some v ∧ RepD w' (J' (i * sz + j')) v c' ∧ (c'.isSlice = true → v = L.hd k (i * sz + j')) := fun {r0} a1 a2 hne => by
                obtain ⟨u, u1, u2, u3⟩ := hcells i r0 j' c' a1 a2
                exact ⟨u, u1, u2.mono (fun b' hb' => by simp only [J', if_neg hne]; exact hb') fun b' hb' => hwJ hne hb', u3⟩
              have hne : ∀ {i' j''}, j'' < sz → (i' ≠ r ∨ j'' ≠ j) → i' * sz + j'' ≠ r * sz + j := fun {i' j''} hlt hor e => by
                have hz : 0 < sz := by omega
                have d1 : (i' * sz + j'') / sz = i' := by rw [Nat.mul_comm, Nat.mul_add_div hz, Nat.div_eq_of_lt hlt]; rfl
                have d2 : (r * sz + j) / sz = r := by rw [Nat.mul_comm, Nat.mul_add_div hz, Nat.div_eq_of_lt (by omega)]; rfl
                rw [e, d2] at d1
                subst d1
                rcases hor with hor | hor
                · exact hor rfl
                · omega
              rw [List.getElem?_set] at g1
              by_cases ei : r = i
              · subst ei
                simp only [if_true] at g1
                rw [if_pos hrlt] at g1
                cases g1
                rw [List.getElem?_set] at g2
                by_cases ej : j = j'
                · subst ej
                  simp only [if_true] at g2
                  rw [if_pos hjlt] at g2
                  cases g2
                  exact ⟨v0, hv0, by simp only [J', if_true]; exact hd3, fun _ => hh0⟩
                · rw [if_neg ej] at g2
                  exact old hrow g2 (hne hj' (Or.inr fun e => ej e.symm))
              · rw [if_neg ei] at g1
                exact old g1 g2 (hne hj' (Or.inl fun e => ei e.symm))
            · simp only [J'] at hx
              split at hx
              · exact Or.inr hx
              · rename_i hne
                exact Or.inl ⟨hJo x b' hx, fun h => hne (hdis _ _ b' hx h)⟩
            · have hno : ∀ {x}, x ≠ r * sz + j → Jo x b' → ¬ F b' := fun {x} hne h1 h2 => by
                rcases hF b' h2 with h | h
                · have := (hi.heap.own k _ b' hfd (.inr (hJo x b' h1))).2.2; omega
                · exact hne (hdis _ _ b' h1 h)
              simp only [J'] at hx hy
              split at hx <;> split at hy
              · omega
              · rename_i hne; exact absurd hx (hno hne hy)
              · rename_i hne _; exact absurd hy (hno hne hx)
              · exact hdis x y b' hx hy
            · rcases h with h | h
              · exact hself h.1
              · rcases hF b h with h | h
                · omega
                · exact hbO h
          have hfk : ∀ {b'}, Foot L4 k b' → (Foot L k b') ∨ F b' := fun {b'} h => by
            rcases h with h | h
            · exact .inl (.inl (hL4.1 ▸ h))
            · rw [hL4.2.2.1] at h
              exact h.elim (fun h => .inl (.inr h.1)) .inr
          obtain ⟨hinv, hrx⟩ := hi.setMany (ks := [k]) (H' := (setOb s.heap k (.deep ap sz (rows.set r (row.set j (.slice sz' es'))))).mapX (unDns [k])) (L' := L4) (w' := w') (fun j' hj' => by rw [hfind, if_neg (by simpa using hj')]) (fun k' hk' => by
              obtain rfl : k' = k := by simpa using hk'
              exact ⟨ap, sz, rows, _, hfd, by rw [hfind, if_pos rfl]; rfl, by simp, hL4.1, hL4.2.1, hrep⟩)
            (fun j' hj' => L.updD_same (by simpa using hj')) (fun b' hb' hno => hkp.block b' hb' fun h => hno k (by simp) (.inr (hO b' h))) hkp.size hkp.os hkp.tape hkp.output (fun k' hk' b' hb' => by
              obtain rfl : k' = k := by simpa using hk'
              have old : Foot L k' b' → C.O b' ∧ ¬ I b' ∧ b' < w'.heap.size ∧ ∀ j' o', j' ∉ [k'] → find s.heap j' = some o' → ¬ Foot L j' b' := fun h => by
                obtain ⟨x1, x2, x3⟩ := hi.heap.own k' _ b' hfd h
                exact ⟨x1, x2, Nat.lt_of_lt_of_le x3 hkp.size, fun j' o' hj' hf' hb2 => hj' (by simp [hi.heap.inj j' k' _ _ b' hf' hfd hb2 h])⟩
              rcases hfk hb' with h | h
              · exact old h
              · rcases hF b' h with h' | h'
                · exact ⟨C.hO b' (Nat.le_trans hi.fr.size h'), fun hI => by have := hi.Ib b' hI; omega, (h4.own _ _ b' hfq h).2.2, fun j' o' _ hj' hbj => by have := (hi.heap.own j' o' b' hj' hbj).2.2; omega⟩
                · exact old (.inr (hO b' h')))
            (fun k1 hk1 k2 hk2 b' _ _ => by simp at hk1 hk2; rw [hk1, hk2])
          exact hn v w' I L4 hinv (RepP.scalar_any hsc h3)
        · exact h.elim
      · exact h.elim
    · exact h.elim

end

end Go.Proofs.YtnafogjagbhdbaaDoor.Pi
/- Calls that are given own objects, whatever they are. No statement of the seat is proved here. -/
namespace Go.Proofs.YtnafogjagbhdbaaDoor.Pi
open Go Go.RowKit
set_option linter.unusedVariables false
set_option linter.unusedSimpArgs false

theorem memB_iff {k : Nat} : ∀ {js : List Nat}, memB k js = true ↔ k ∈ js
  | [] => by simp [memB]
  | j :: js => by
    simp only [memB]
    cases h : Nat.beq j k with
    | true => simp [beq_iff.1 h]
    | false =>
      have := beq_false.1 h
      simp only [List.mem_cons, memB_iff (js := js)]
      constructor
      · exact fun h => Or.inr h
      · exact fun h => h.resolve_left fun e => this e.symm

theorem nodupB_iff : ∀ {ks : List Nat}, nodupB ks = true → ks.Nodup
  | [], _ => List.nodup_nil
  | k :: ks, h => by
    simp only [nodupB] at h
    cases hm : memB k ks with
    | true => simp [hm] at h
    | false =>
      simp only [hm] at h
      exact List.nodup_cons.2 ⟨fun hk => (by rw [memB_iff.2 hk] at hm; cases hm), nodupB_iff h⟩

theorem rkey_mem : ∀ {ρ : List (Nat × Nat)} {k b : Nat}, rkey ρ k = some b → (k, b) ∈ ρ
  | [], k, b, h => by cases h
  | (x, y) :: ρ, k, b, h => by
    simp only [rkey] at h
    split at h
    · rename_i e; cases h; simp [beq_iff.1 e]
    · exact List.mem_cons_of_mem _ (rkey_mem h)

theorem rkey_of_mem : ∀ {ρ : List (Nat × Nat)} {k b : Nat}, (ρ.map (·.1)).Nodup → (k, b) ∈ ρ → rkey ρ k = some b
  | [], k, b, _, h => by cases h
  | (x, y) :: ρ, k, b, hn, h => by
    obtain ⟨h1, h2⟩ := List.nodup_cons.1 hn
    rcases List.mem_cons.1 h with e | h
    · cases e; simp [rkey]
    · have hne : x ≠ k := fun e => h1 (List.mem_map.2 ⟨(k, b), h, e.symm⟩)
      simp only [rkey, beq_false.2 hne]
      exact rkey_of_mem h2 h

def rold : List (Nat × Nat) → Nat → Option Nat
  | [], _ => none
  | (a, b) :: ρ, k => match Nat.beq b k with | true => some a | false => rold ρ k
theorem rold_mem : ∀ {ρ : List (Nat × Nat)} {k b : Nat}, rold ρ b = some k → (k, b) ∈ ρ
  | [], k, b, h => by cases h
  | (x, y) :: ρ, k, b, h => by
    simp only [rold] at h
    split at h
    · rename_i e; cases h; simp [beq_iff.1 e]
    · exact List.mem_cons_of_mem _ (rold_mem h)
theorem rold_of_mem : ∀ {ρ : List (Nat × Nat)} {k b : Nat}, (ρ.map (·.2)).Nodup → (k, b) ∈ ρ → rold ρ b = some k
  | [], k, b, _, h => by cases h
  | (x, y) :: ρ, k, b, hn, h => by
    obtain ⟨h1, h2⟩ := List.nodup_cons.1 hn
    rcases List.mem_cons.1 h with e | h
    · cases e; simp [rold]
    · have hne : y ≠ b := fun e => h1 (List.mem_map.2 ⟨(k, b), h, e.symm⟩)
      simp only [rold, beq_false.2 hne]
      exact rold_of_mem h2 h
theorem rho_inj {ρ : List (Nat × Nat)} {k k' b : Nat} (hn : (ρ.map (·.2)).Nodup) (h : (k, b) ∈ ρ) (h' : (k', b) ∈ ρ) : k = k' := by
  have := rold_of_mem hn h
  rw [rold_of_mem hn h'] at this
  exact (Option.some.inj this).symm

theorem renH_bk {ρ : List (Nat × Nat)} {h : Heap} : ∀ {r : List (Nat × Nat)} {H2 : Heap}, renH ρ h r = some H2 → ∀ k b, (k, b) ∈ r → bK k = bK b
  | [], H2, _, k, b, hm => by cases hm
  | (x, y) :: r, H2, e, k, b, hm => by
    simp only [renH] at e
    split at e
    · rename_i o hs h1 h2 h3
      rcases List.mem_cons.1 hm with hm | hm
      · cases hm; exact eqB_iff h3
      · exact renH_bk h2 k b hm
    · cases e
theorem zeroOk_nil {a b : Value} (h : zeroOk [a, b] [XV.c (.ptr 0 []), XV.nil 1] = true) : a = .pointer none ∧ b = .slice none 0 0 := by
  cases a with
  | pointer p =>
    cases p with
    | none =>
      refine ⟨rfl, ?_⟩
      simp only [zeroOk] at h
      unfold zeroOk at h
      split at h <;> first | rfl | (simp_all; done)
    | some q => simp [zeroOk] at h
  | _ => simp [zeroOk] at h
theorem renH_get {ρ : List (Nat × Nat)} {h : Heap} : ∀ {r : List (Nat × Nat)} {H2 : Heap}, renH ρ h r = some H2 → (r.map (·.2)).Nodup →
    (∀ k b, (k, b) ∈ r → ∃ o, find h k = some o ∧ find H2 b = some (o.map (renX ρ))) ∧ (∀ b o', find H2 b = some o' → ∃ k o, (k, b) ∈ r ∧ find h k = some o ∧ o' = o.map (renX ρ))
  | [], H2, e, _ => by simp only [renH, Option.some.injEq] at e; subst e; exact ⟨by simp, by simp [find]⟩
  | (x, y) :: r, H2, e, hn => by
    obtain ⟨n1, n2⟩ := List.nodup_cons.1 hn
    simp only [renH] at e
    split at e
    · rename_i o hs h1 h2 h3
      cases e
      obtain ⟨g1, g2⟩ := renH_get h2 n2
      refine ⟨fun k b hk => ?_, fun b o' ho => ?_⟩
      · rcases List.mem_cons.1 hk with e | hk
        · cases e; exact ⟨o, h1, by simp [find]⟩
        · have hne : y ≠ b := fun e => n1 (List.mem_map.2 ⟨(k, b), hk, e.symm⟩)
          obtain ⟨o2, q1, q2⟩ := g1 k b hk
          exact ⟨o2, q1, by simp only [find, beq_false.2 hne]; exact q2⟩
      · simp only [find] at ho
        split at ho
        · rename_i e
          cases ho
          have e := beq_iff.1 e
          subst e
          exact ⟨x, o, by simp, h1, rfl⟩
        · obtain ⟨k, o2, q1, q2, q3⟩ := g2 b o' ho
          exact ⟨k, o2, List.mem_cons_of_mem _ q1, q2, q3⟩
    · cases e

section
variable {P : Program} {C : Ctx} {L : Lay} {I : Nat → Prop} {s : St} {a : Act} {w : World}

theorem RepX.ren {ρ : List (Nat × Nat)} {L2 : Lay} {H H2 : Heap} {I' : Nat → Prop} {f : XV → XV} (hI : ∀ b, I b → I' b) (h : ∀ a b o, rkey ρ a = some b → find H a = some o → find H2 b = some (o.map f) ∧ L2.blk b = L.blk a ∧ L2.cap b = L.cap a)
    {v : Value} {x : XV} (hx : RepX L H I w v x) : RepX L2 H2 I' w v (renX ρ x) := by
  cases x with
  | c y => exact RepC.mono hI (fun _ _ => rfl) hx
  | nil _ => exact hx
  | undef => exact hx
  | dead => trivial
  | dn _ _ _ => trivial
  | rs k =>
    simp only [renX]
    cases e : rkey ρ k with
    | none => trivial
    | some k' =>
      obtain ⟨sz, rows, g1, g2⟩ := hx
      obtain ⟨e1, e2, e3⟩ := h _ _ _ e g1
      exact ⟨sz, rows, e1, by rw [e2, e3]; exact g2⟩
  | ru k o l =>
    simp only [renX]
    cases e : rkey ρ k with
    | none => trivial
    | some k' =>
      obtain ⟨sz, rows, g1, g3, g2⟩ := hx
      obtain ⟨e1, e2, e3⟩ := h _ _ _ e g1
      exact ⟨sz, rows, e1, g3, by rw [e2, e3]; exact g2⟩
  | pb k o l =>
    simp only [renX]
    cases e : rkey ρ k with
    | none => trivial
    | some k' =>
      obtain ⟨cs, b, g1, g2, g3, g4⟩ := hx
      obtain ⟨e1, e2, e3⟩ := h _ _ _ e g1
      exact ⟨cs.map f, b, e1, by rw [e2]; exact g2, by simpa using g3, g4⟩
  | pe k r o l =>
    simp only [renX]
    cases e : rkey ρ k with
    | none => trivial
    | some k' =>
      obtain ⟨sz, rows, b, g1, g2, g3⟩ := hx
      obtain ⟨e1, e2, e3⟩ := h _ _ _ e g1
      exact ⟨sz, rows, b, e1, by rw [e2]; exact g2, g3⟩
  | ds k =>
    simp only [renX]
    cases e : rkey ρ k with
    | none => trivial
    | some k' =>
      obtain ⟨ap, sz, rows, g1, g2⟩ := hx
      obtain ⟨e1, e2, e3⟩ := h _ _ _ e g1
      exact ⟨ap, sz, rows, e1, by rw [e2, e3]; exact g2⟩
  | dp k r o l =>
    simp only [renX]
    cases e : rkey ρ k with
    | none => trivial
    | some k' =>
      obtain ⟨ap, sz, rows, b, g1, g2, g3⟩ := hx
      obtain ⟨e1, e2, e3⟩ := h _ _ _ e g1
      exact ⟨ap, sz, rows, b, e1, by rw [e2]; exact g2, g3⟩
  | fb g cs k n ds =>
    simp only [renX]
    cases e : rkey ρ k with
    | none => trivial
    | some k' =>
      obtain ⟨vs, cells, b, g1, g2, g3, g4, g5, g6, g7, g8⟩ := hx
      obtain ⟨e1, e2, e3⟩ := h _ _ _ e g2
      exact ⟨vs, cells.map f, b, g1, e1, by rw [e2]; exact g3, by simpa using g4, g5, fun i c u q1 q2 => (g6 i c u q1 q2).mono hI (fun _ _ => rfl), g7, fun i c u q1 q2 => (g8 i c u q1 q2).mono hI (fun _ _ => rfl)⟩

theorem RepO.move {L2 : Lay} {H H2 : Heap} {I' : Nat → Prop} {k k' : Nat} {o : Ob} {f : XV → XV} (hf : ∀ v x, RepX L H I w v x → RepX L2 H2 I' w v (f x)) (hI : ∀ b, I b → I' b)
    (hs : L2.blk k' = L.blk k ∧ L2.cap k' = L.cap k ∧ L2.fp k' = L.fp k ∧ L2.hd k' = L.hd k) (hbb : bK k = bK k') (hfc : ∀ y, f (.c y) = .c y) (h : RepO L H I w k o) : RepO L2 H2 I' w k' (o.map f) := by
  obtain ⟨hbk, hck, hfk, hhk⟩ := hs
  cases o with
  | deep a sz rows =>
    simp only [RepO, Ob.map] at h ⊢
    rw [hbk, hck, hfk, hhk]
    exact h
  | box cs =>
    simp only [RepO, Ob.map] at h ⊢
    rw [← hbb]
    cases hB : bK k with
    | true =>
      rw [hB] at h
      obtain ⟨b, l, e, h1, h2⟩ := h
      subst e
      exact ⟨b, l, by simp [hfc], by rw [hbk, h1], h2.ext rfl (fun _ _ => rfl) (fun g h => by rw [hfk]; exact h)⟩
    | false =>
      rw [hB] at h
      obtain ⟨b, vs, e, fr, h1, h2, h3, h5, h4⟩ := h
      exact ⟨b, vs, e, fr, by rw [hbk, h1], h2, h3, h5, h4.map' hf⟩
  | arr sz rows =>
    simp only [RepO, Ob.map] at h ⊢
    rw [hbk, hck]
    cases hL : L.blk k with
    | none => simpa [hL] using h
    | some b =>
      simp only [hL] at h ⊢
      obtain ⟨h1, h2, vs, e, fr, h3, h4, h5, h6⟩ := h
      refine ⟨h1, h2, vs, e, fr, h3, h4, h5, fun i r j c g1 g2 => ?_⟩
      obtain ⟨v, g3, g4⟩ := h6 i r j c g1 g2
      exact ⟨v, g3, g4.mono hI (fun _ _ => rfl)⟩

def layR (ρ : List (Nat × Nat)) (L : Lay) : Lay := ⟨fun b => (rold ρ b).bind L.blk, fun b => L.cap ((rold ρ b).getD 0), fun b => match rold ρ b with | some k => L.fp k | none => fun _ => False, fun b => L.hd ((rold ρ b).getD 0)⟩
theorem layR_at {ρ : List (Nat × Nat)} {k b : Nat} (L : Lay) (h : rold ρ b = some k) : (layR ρ L).blk b = L.blk k ∧ (layR ρ L).cap b = L.cap k ∧ (layR ρ L).fp b = L.fp k ∧ (layR ρ L).hd b = L.hd k := by
  simp [layR, h]

theorem ren_heap {O : Nat → Prop} {ρ : List (Nat × Nat)} {H H2 : Heap} (n1 : (ρ.map (·.1)).Nodup) (n2 : (ρ.map (·.2)).Nodup) (hr : renH ρ H ρ = some H2) (hok : HeapOK O L H I w) :
    HeapOK (fun b => O b ∧ ∃ k b', (k, b') ∈ ρ ∧ Foot L k b) (layR ρ L) H2 I w ∧ ∀ v x, RepX L H I w v x → RepX (layR ρ L) H2 I w v (renX ρ x) := by
  obtain ⟨g1, g2⟩ := renH_get hr n2
  have hf : ∀ v x, RepX L H I w v x → RepX (layR ρ L) H2 I w v (renX ρ x) := fun v x hx => RepX.ren (f := renX ρ) (fun _ h => h) (fun k b o e ho => by
    have hm := rkey_mem e
    obtain ⟨o', q1, q2⟩ := g1 k b hm
    rw [ho] at q1; cases q1
    obtain ⟨e1, e2, _⟩ := layR_at L (rold_of_mem n2 hm)
    exact ⟨q2, e1, e2⟩) hx
  have hft : ∀ {k b x}, (k, b) ∈ ρ → Foot (layR ρ L) b x → Foot L k x := fun {k b x} hm hx => by
    obtain ⟨e1, e2, e3, e4⟩ := layR_at L (rold_of_mem n2 hm)
    rcases hx with hx | hx
    · exact .inl (e1 ▸ hx)
    · exact .inr (e3 ▸ hx)
  refine ⟨⟨fun b o' hb => ?_, fun b o' x hb hx => ?_, fun b b' o1 o2 x hb hb' hx hx' => ?_⟩, hf⟩
  · obtain ⟨k, o, q1, q2, rfl⟩ := g2 b o' hb
    exact (hok.ob k o q2).move hf (fun _ h => h) (layR_at L (rold_of_mem n2 q1)) (renH_bk hr k b q1) (fun _ => rfl)
  · obtain ⟨k, o, q1, q2, rfl⟩ := g2 b o' hb
    obtain ⟨p1, p2, p3⟩ := hok.own k o x q2 (hft q1 hx)
    exact ⟨⟨p1, k, b, q1, hft q1 hx⟩, p2, p3⟩
  · obtain ⟨k, o, q1, q2, rfl⟩ := g2 b o1 hb
    obtain ⟨k', o', q1', q2', rfl⟩ := g2 b' o2 hb'
    have e := hok.inj k k' o o' x q2 q2' (hft q1 hx) (hft q1' hx')
    subst e
    have h1 := rkey_of_mem n1 q1
    rw [rkey_of_mem n1 q1'] at h1
    exact (Option.some.inj h1).symm

theorem find_wkH (D N : List Nat) : ∀ (h : Heap) (j : Nat), find (wkH D N h) j = if j ∈ D then none else (find h j).map (Ob.map (wkX D N))
  | [], j => by simp [wkH, find]
  | (k, o) :: h, j => by
    simp only [wkH]
    have ih := find_wkH D N h j
    cases hc : D.contains k with
    | true =>
      have hk : k ∈ D := List.contains_iff_mem.1 hc
      simp only [ih, find]
      split
      · rfl
      · rename_i hj
        have hne : k ≠ j := fun e => hj (e ▸ hk)
        rw [beq_false.2 hne]
    | false =>
      have hk : k ∉ D := fun h => by rw [List.contains_iff_mem.2 h] at hc; cases hc
      simp only [find]
      cases hb : Nat.beq k j with
      | true =>
        have e := beq_iff.1 hb
        subst e
        rw [if_neg hk]; rfl
      | false => exact ih

theorem sameShape_iff {o o' : Ob} {K : Prop} (h : sameShapeK o o' K) : o'.shape = o.shape ∧ K := by
  unfold sameShapeK at h
  split at h
  · split at h
    · rename_i e; exact ⟨by simp [Ob.shape, beq_iff.1 e], h⟩
    · exact h.elim
  · split at h
    · rename_i e; exact ⟨by simp [Ob.shape, beq_iff.1 e, h.a], h.b⟩
    · exact h.elim
  · split at h
    · rename_i e; exact ⟨by simp [Ob.shape, beq_iff.1 e, h.a], h.b⟩
    · exact h.elim
  · split at h
    · rename_i e; exact ⟨by simp [Ob.shape, beq_iff.1 e, h.a], h.b⟩
    · exact h.elim
  · exact h.elim

theorem mergeK_get {τ : List (Nat × Nat)} {H3 : Heap} : ∀ {r : List (Nat × Nat)} {h : Heap} {K : Heap → Prop}, (r.map (·.2)).Nodup → mergeK τ r H3 h K →
    ∃ h', K h' ∧ (∀ j, find h' j = match rold r j with | some k => (find H3 k).map (Ob.map (renX τ)) | none => find h j) ∧ ∀ k k', (k, k') ∈ r → ∃ o, find H3 k = some o ∧ ∀ o0, find h k' = some o0 → o.shape = o0.shape
  | [], h, K, _, hK => ⟨h, hK, fun j => rfl, by simp⟩
  | (x, y) :: r, h, K, hn, hK => by
    obtain ⟨n1, n2⟩ := List.nodup_cons.1 hn
    have hnr : ∀ {k k'}, (k, k') ∈ r → k' ≠ y := fun {k k'} hm e => n1 (List.mem_map.2 ⟨(k, k'), hm, e⟩)
    simp only [mergeK] at hK
    split at hK
    · rename_i o ho
      split at hK
      · rename_i o0 h0
        obtain ⟨hsh, hK⟩ := sameShape_iff hK
        obtain ⟨h', q1, q2, q3⟩ := mergeK_get n2 hK
        refine ⟨h', q1, fun j => ?_, fun k k' hm => ?_⟩
        · rw [q2 j]
          simp only [rold]
          cases hb : Nat.beq y j with
          | true =>
            have e := beq_iff.1 hb
            subst e
            have : rold r y = none := by
              cases hr : rold r y with
              | none => rfl
              | some k => exact absurd rfl (hnr (rold_mem hr))
            simp only [this, find_setOb, if_true, h0, ho, Option.map_some]
          | false =>
            have hne := beq_false.1 hb
            cases hr : rold r j with
            | some k => rfl
            | none => simp only [find_setOb, if_neg (Ne.symm hne)]
        · rcases List.mem_cons.1 hm with e | hm
          · cases e
            exact ⟨o, ho, fun o1 h1 => by rw [h0] at h1; cases h1; exact hsh⟩
          · obtain ⟨o2, p1, p2⟩ := q3 k k' hm
            exact ⟨o2, p1, fun o1 h1 => p2 o1 (by rw [find_setOb, if_neg (hnr hm)]; exact h1)⟩
      · rename_i h0
        obtain ⟨h', q1, q2, q3⟩ := mergeK_get n2 hK
        refine ⟨h', q1, fun j => ?_, fun k k' hm => ?_⟩
        · rw [q2 j]
          simp only [rold]
          cases hb : Nat.beq y j with
          | true =>
            have e := beq_iff.1 hb
            subst e
            have : rold r y = none := by
              cases hr : rold r y with
              | none => rfl
              | some k => exact absurd rfl (hnr (rold_mem hr))
            simp only [this, find_ins _ _ _ _ h0, if_true, ho, Option.map_some]
          | false =>
            have hne := beq_false.1 hb
            cases hr : rold r j with
            | some k => rfl
            | none => simp only [find_ins _ _ _ _ h0, if_neg (Ne.symm hne)]
        · rcases List.mem_cons.1 hm with e | hm
          · cases e
            exact ⟨o, ho, fun o1 h1 => by rw [h0] at h1; cases h1⟩
          · obtain ⟨o2, p1, p2⟩ := q3 k k' hm
            exact ⟨o2, p1, fun o1 h1 => p2 o1 (by rw [find_ins _ _ _ _ h0, if_neg (hnr hm)]; exact h1)⟩
    · exact hK.elim

theorem tauOk_get {ρ : List (Nat × Nat)} : ∀ {τ : List (Nat × Nat)}, tauOk ρ τ = true → ∀ k k', (k, k') ∈ τ → (pinK k = true → rkey ρ k' = some k) ∧ (pinK k = false → pinK k' = false) ∧ bK k = bK k'
  | [], _, k, k', h => by cases h
  | (x, y) :: τ, h, k, k', hm => by
    simp only [tauOk] at h
    cases hbb : eqB (bK x) (bK y) with
    | false => rw [hbb] at h; cases h
    | true =>
    rw [hbb] at h
    simp only at h
    have hbe := eqB_iff hbb
    split at h
    · rename_i hp
      split at h
      · rename_i b hb
        split at h
        · rename_i e
          rcases List.mem_cons.1 hm with e2 | hm
          · cases e2
            exact ⟨fun _ => by rw [hb, beq_iff.1 e], (fun h2 => by rw [hp] at h2; cases h2), hbe⟩
          · exact tauOk_get h k k' hm
        · cases h
      · cases h
    · rename_i hp
      split at h
      · cases h
      · rename_i hp2
        rcases List.mem_cons.1 hm with e2 | hm
        · cases e2
          exact ⟨(fun h2 => (by rw [hp] at h2; cases h2)), (fun _ => hp2), hbe⟩
        · exact tauOk_get h k k' hm

theorem mem_keptOf : ∀ {τ : List (Nat × Nat)} {j : Nat}, j ∈ keptOf τ → ∃ k, (k, j) ∈ τ ∧ pinK k = true
  | [], j, h => by cases h
  | (x, y) :: τ, j, h => by
    simp only [keptOf] at h
    split at h
    · rename_i hp
      rcases List.mem_cons.1 h with rfl | h
      · exact ⟨x, by simp, hp⟩
      · obtain ⟨k, q1, q2⟩ := mem_keptOf h
        exact ⟨k, List.mem_cons_of_mem _ q1, q2⟩
    · obtain ⟨k, q1, q2⟩ := mem_keptOf h
      exact ⟨k, List.mem_cons_of_mem _ q1, q2⟩
theorem mem_newOf : ∀ {τ : List (Nat × Nat)} {k j : Nat}, (k, j) ∈ τ → pinK k = false → j ∈ newOf τ
  | [], k, j, h, _ => by cases h
  | (x, y) :: τ, k, j, h, hp => by
    simp only [newOf]
    rcases List.mem_cons.1 h with e | h
    · cases e; simp [hp]
    · have := mem_newOf h hp
      split
      · exact this
      · exact List.mem_cons_of_mem _ this
theorem mem_minus : ∀ {ks js : List Nat} {k : Nat}, k ∈ ks → k ∉ minus ks js → k ∈ js
  | [], js, k, h, _ => by cases h
  | x :: ks, js, k, h, hn => by
    simp only [minus] at hn
    cases hm : memB x js with
    | true =>
      simp only [hm] at hn
      rcases List.mem_cons.1 h with rfl | h
      · exact memB_iff.1 hm
      · exact mem_minus h hn
    | false =>
      simp only [hm, List.mem_cons, not_or] at hn
      rcases List.mem_cons.1 h with rfl | h
      · exact absurd rfl hn.1
      · exact mem_minus h hn.2

@[simp] theorem forceN_eq : ∀ (l : List (Nat × Nat)) (K : List (Nat × Nat) → Prop), forceN l K = K l
  | [], _ => rfl
  | (a, b) :: l, K => by simp [forceN, forceN_eq l]
@[simp] theorem forceNs_eq : ∀ (l : List Nat) (K : List Nat → Prop), forceNs l K = K l
  | [], _ => rfl
  | a :: l, K => by simp [forceNs, forceNs_eq l]

theorem callX_goes {o : Oper} {g : Nat} {extra vs : List PV} {vals : Array Value} (hi : Inv C L I s a w) (hrun : Ent P g → (execOp a.eval o).run P w = .ok (.enter g vals) w) {K : PV → St → Prop}
    (hsz : vals.size = (vs ++ extra).length) (hrep : ∀ (i : Nat) (p : PV) (v : Value), (vs ++ extra)[i]? = some p → vals[i]? = some v → RepP L s.heap I w v p) (h : callX P s g extra vs o.dst K) : ∃ pv s', K pv s' ∧ GoesM P C s' a w o pv := by
  unfold callX at h
  simp only [forceNs_eq, forceN_eq, forceH_eq, forceR_eq] at h
  generalize dedup (keysPs (vs ++ extra)) = ks at h
  generalize rhoOf s.heap ks 0 = ρ at h
  split at h
  · rename_i H2 n1 n2 hH2
    have n1 := nodupB_iff n1
    have n2 := nodupB_iff n2
    obtain ⟨r, hs, h⟩ := h
    generalize tauOf ks _ r.2 = τ at h
    split at h
    · rename_i t1 t2 t3
      have t2 := nodupB_iff t2
      have t3 := nodupB_iff t3
      simp only [force_eq, forceP_eq] at h
      generalize hD : minus (ρ.map (·.1)) (keptOf τ) ++ newOf τ = D at h
      generalize hN : ρ.map (·.1) = N at h hD
      obtain ⟨H', hK, hfind, hshape⟩ := mergeK_get t3 h
      clear h
      refine ⟨r.1.map (renX τ), ⟨s.regs.map (PV.map (wkX D N)), H'⟩, hK, fun next Q hQ hn => Or.inl ?_⟩
      obtain ⟨hok, hren⟩ := ren_heap n1 n2 hH2 hi.heap
      obtain ⟨hg1, hg2⟩ := renH_get hH2 n2
      let O : Nat → Prop := fun b => ∃ k b', (k, b') ∈ ρ ∧ Foot L k b
      have hok' : HeapOK O (layR ρ L) H2 I w := ⟨hok.ob, fun k o b h1 h2 => ⟨(hok.own k o b h1 h2).1.2, (hok.own k o b h1 h2).2⟩, hok.inj⟩
      refine wp_callM (O := O) (L0 := layR ρ L) hs (hi.laid fun b ⟨k, b1, m1, m2⟩ => .inl (by obtain ⟨o1, m3, _⟩ := hg1 k b1 m1; exact (hi.heap.own k o1 b m3 m2).1)) (hrun hs.1) hi.Ib (by simpa using hsz) (fun i p v h1 h2 => ?_) hok' fun v w' ⟨hkp, L3, I3, h1, h2, h3, h4, h5⟩ => ?_
      · rw [List.getElem?_map] at h1
        cases h3 : (vs ++ extra)[i]? with
        | none => simp [h3] at h1
        | some p0 => simp only [h3, Option.map_some, Option.some.injEq] at h1; subst h1; exact (hrep i p0 v h3 h2).map' hren
      have hOC : ∀ b, O b → C.O b ∧ ¬ I b ∧ b < w.heap.size := fun b ⟨k, b', hm, hf⟩ => by
        obtain ⟨o0, q1, _⟩ := hg1 k b' hm
        exact hi.heap.own k o0 b q1 hf
      have hwI : ∀ b, I b → w'.heap[b]? = w.heap[b]? := fun b hb => hkp.block b (hi.Ib b hb) fun hO => (hOC b hO).2.1 hb
      let I' : Nat → Prop := fun b => I b ∨ I3 b
      let L' : Lay := ⟨fun j => match rold τ j with | some k => L3.blk k | none => L.blk j, fun j => match rold τ j with | some k => L3.cap k | none => L.cap j, fun j => match rold τ j with | some k => L3.fp k | none => L.fp j, fun j => match rold τ j with | some k => L3.hd k | none => L.hd j⟩
      have hL1 : ∀ {k j}, rold τ j = some k → L'.blk j = L3.blk k ∧ L'.cap j = L3.cap k ∧ L'.fp j = L3.fp k ∧ L'.hd j = L3.hd k := fun {k j} e => by simp [L', e]
      have hL0 : ∀ {j}, rold τ j = none → L'.blk j = L.blk j ∧ L'.cap j = L.cap j ∧ L'.fp j = L.fp j ∧ L'.hd j = L.hd j := fun {j} e => by simp [L', e]
      have hft1 : ∀ {k j b}, rold τ j = some k → Foot L' j b → Foot L3 k b := fun {k j b} e hb => by
        obtain ⟨e1, _, e3, _⟩ := hL1 e
        rcases hb with hb | hb
        · exact .inl (e1 ▸ hb)
        · exact .inr (e3 ▸ hb)
      have hft0 : ∀ {j b}, rold τ j = none → Foot L' j b → Foot L j b := fun {j b} e hb => by
        obtain ⟨e1, _, e3, _⟩ := hL0 e
        rcases hb with hb | hb
        · exact .inl (e1 ▸ hb)
        · exact .inr (e3 ▸ hb)
      have hwk := find_wkH D N s.heap
      -- what is kept
      have hkept : ∀ {k j}, (k, j) ∈ τ → j ∉ D → pinK k = true ∧ (j, k) ∈ ρ := fun {k j} hm hj => by
        cases hp : pinK k with
        | true => exact ⟨rfl, rkey_mem ((tauOk_get t1 k j hm).1 hp)⟩
        | false => exact absurd (by rw [← hD]; exact List.mem_append_right _ (mem_newOf hm hp)) hj
      have hpin3 : ∀ {k j}, (k, j) ∈ τ → pinK k = true → (∃ o0, find s.heap j = some o0) ∧ L'.blk j = L.blk j ∧ L'.cap j = L.cap j ∧ j ∈ N := fun {k j} hm hp => by
        have hr := rkey_mem ((tauOk_get t1 k j hm).1 hp)
        obtain ⟨o0, q1, _⟩ := hg1 j k hr
        obtain ⟨o3, q3, _⟩ := hshape k j hm
        obtain ⟨p1, p2⟩ := h5 k o3 hp q3
        obtain ⟨e1, e2, _⟩ := hL1 (rold_of_mem t3 hm)
        obtain ⟨e3, e4, _⟩ := layR_at L (rold_of_mem n2 hr)
        exact ⟨⟨o0, q1⟩, by rw [e1, p1, e3], by rw [e2, p2, e4], by rw [← hN]; exact List.mem_map.2 ⟨(j, k), hr, rfl⟩⟩
      have hrest : ∀ {j o0}, find s.heap j = some o0 → j ∉ D → rold τ j = none → ∀ b, Foot L j b → ¬ O b := fun {j o0} hj hjD hjt b hb ⟨k, b', hm, hf⟩ => by
        obtain ⟨o1, q1, _⟩ := hg1 k b' hm
        have e := hi.heap.inj j k o0 o1 b hj q1 hb hf
        subst e
        have hjN : j ∈ N := by rw [← hN]; exact List.mem_map.2 ⟨(j, b'), hm, rfl⟩
        have hk : j ∈ keptOf τ := mem_minus hjN fun h => hjD (by rw [← hD]; exact List.mem_append_left _ h)
        obtain ⟨k3, q2, _⟩ := mem_keptOf hk
        rw [rold_of_mem t3 q2] at hjt; cases hjt
      have hf : ∀ v x, RepX L s.heap I w v x → RepX L' H' I' w' v (wkX D N x) := fun v x hx => by
        unfold wkX
        cases hxk : x.key? with
        | none => exact RepX.ext (q := fun _ => False) (fun j o hq => hq.elim) (fun _ h => Or.inl h) hwI (fun k hk => by rw [hxk] at hk; cases hk) hx
        | some k =>
          simp only
          cases hc : D.contains k with
          | true => trivial
          | false =>
            have hkD : k ∉ D := fun h => by rw [List.contains_iff_mem.2 h] at hc; cases hc
            simp only
            cases hrt : rold τ k with
            | none =>
              have hkn : Knows L s.heap L' H' (fun j => j = k) := fun j o0 e hj => by
                subst e
                refine ⟨⟨o0.map (wkX D N), ?_, shape_map _ _⟩, (hL0 hrt).1, (hL0 hrt).2.1, (hL0 hrt).2.2.2⟩
                rw [hfind, hrt]
                simp only [hwk, if_neg hkD, hj, Option.map_some]
              have hx' : RepX L' H' I' w' v x := RepX.ext (q := fun j => j = k) hkn (fun _ h => Or.inl h) hwI (fun j hj => by rw [hxk] at hj; cases hj; rfl) hx
              cases x <;> simp only [] <;> first | exact hx' | (split <;> first | trivial | exact hx')
            | some k3 =>
              have hm := rold_mem hrt
              obtain ⟨hp, hr⟩ := hkept hm hkD
              obtain ⟨⟨o0, ho0⟩, e1, e2, hkN⟩ := hpin3 hm hp
              by_cases hdn : ∃ k r j, x = .dn k r j
              · obtain ⟨k', r, j, rfl⟩ := hdn
                cases hxk
                simp only [List.contains_iff_mem.2 hkN]
                trivial
              · have hx0 : ∀ k r j, x ≠ .dn k r j := fun k r j e => hdn ⟨k, r, j, e⟩
                let L1 : Lay := ⟨L'.blk, L'.cap, L'.fp, L.hd⟩
                have hkn : Knows L s.heap L1 H' (fun j => j = k) := fun j o1 e hj => by
                  subst e
                  obtain ⟨o3, q3, q4⟩ := hshape k3 j hm
                  refine ⟨⟨o3.map (renX τ), ?_, ?_⟩, e1, e2, rfl⟩
                  · rw [hfind, hrt]
                    simp only [q3, Option.map_some]
                  · rw [shape_map, q4 (o1.map (wkX D N)) (by rw [hwk, if_neg hkD, hj]; rfl), shape_map]
                have hx1 : RepX L1 H' I' w' v x := RepX.ext (q := fun j => j = k) hkn (fun _ h => Or.inl h) hwI (fun j hj => by rw [hxk] at hj; cases hj; rfl) hx
                have hx' : RepX L' H' I' w' v x := RepX.hdAny (L := L1) rfl rfl hx0 hx1
                cases x <;> simp only [] <;> first | exact hx' | exact absurd rfl (hx0 _ _ _)
      have hf3 : ∀ v x, RepX L3 r.2 I3 w' v x → RepX L' H' I' w' v (renX τ x) := fun v x hx => RepX.ren (f := renX τ) (fun _ h => Or.inr h) (fun k b o0 e ho => by
        have hm := rkey_mem e
        have hr := rold_of_mem t3 hm
        exact ⟨by rw [hfind, hr]; simp only [ho, Option.map_some], (hL1 hr).1, (hL1 hr).2.1⟩) hx
      have hback : ∀ {j o0}, find H' j = some o0 → rold τ j = none → j ∉ D ∧ ∃ o1, find s.heap j = some o1 ∧ o0 = o1.map (wkX D N) := fun {j o0} hj hr => by
        rw [hfind, hr] at hj
        simp only [hwk] at hj
        split at hj
        · cases hj
        · rename_i hjD
          cases h6 : find s.heap j with
          | none => simp [h6] at hj
          | some o1 => simp only [h6, Option.map_some, Option.some.injEq] at hj; exact ⟨hjD, o1, rfl, hj.symm⟩
      have hback3 : ∀ {j k o0}, find H' j = some o0 → rold τ j = some k → ∃ o3, find r.2 k = some o3 ∧ o0 = o3.map (renX τ) := fun {j k o0} hj hr => by
        rw [hfind, hr] at hj
        simp only at hj
        cases h6 : find r.2 k with
        | none => simp [h6] at hj
        | some o3 => simp only [h6, Option.map_some, Option.some.injEq] at hj; exact ⟨o3, rfl, hj.symm⟩
      have hinv : Inv C L' I' ⟨s.regs.map (PV.map (wkX D N)), H'⟩ a w' := by
        refine hi.change (f := wkX D N) hf rfl ?_ (fun b hb => hb.elim (fun hb => Nat.lt_of_lt_of_le (hi.Ib b hb) hkp.size) (h2 b)) (fun b hb hb' => hb'.elim (hi.Io b hb) fun h => (h1 b (Nat.lt_of_lt_of_le hb hi.fr.size) h).elim (hi.Io b hb) fun h => .inr (hOC b h).1) ?_ (fun j o0 hp hj => ?_)
        · refine ⟨fun j o0 hj => ?_, fun j o0 b hj hb => ?_, fun j j' o0 o0' b hj hj' hb hb' => ?_⟩
          · cases hr : rold τ j with
            | some k =>
              obtain ⟨o3, q1, rfl⟩ := hback3 hj hr
              exact (h4.ob k o3 q1).move hf3 (fun _ h => Or.inr h) (hL1 hr) (tauOk_get t1 k j (rold_mem hr)).2.2 (fun _ => rfl)
            | none =>
              obtain ⟨hjD, o1, q1, rfl⟩ := hback hj hr
              exact (hi.heap.ob j o1 q1).ext hf (fun _ h => Or.inl h) hwI (hL0 hr) (fun b hb => hkp.block b (hi.heap.own j o1 b q1 hb).2.2 (hrest q1 hjD hr b hb)) (fun _ => rfl)
          · cases hr : rold τ j with
            | some k =>
              obtain ⟨o3, q1, rfl⟩ := hback3 hj hr
              obtain ⟨p1, p2, p3⟩ := h4.own k o3 b q1 (hft1 hr hb)
              refine ⟨p1.elim (fun h => C.hO b (Nat.le_trans hi.fr.size h)) fun h => (hOC b h).1, fun hn => hn.elim (fun hn => p1.elim (fun h => ?_) fun h => (hOC b h).2.1 hn) p2, p3⟩
              have := hi.Ib b hn; omega
            | none =>
              obtain ⟨hjD, o1, q1, rfl⟩ := hback hj hr
              obtain ⟨p1, p2, p3⟩ := hi.heap.own j o1 b q1 (hft0 hr hb)
              refine ⟨p1, fun hn => hn.elim p2 fun hn => (h1 b p3 hn).elim p2 (hrest q1 hjD hr b (hft0 hr hb)), Nat.lt_of_lt_of_le p3 hkp.size⟩
          · have hcross : ∀ {j j' k o0 o0' b}, find H' j = some o0 → find H' j' = some o0' → rold τ j = some k → rold τ j' = none → Foot L' j b → Foot L' j' b → False := fun {j j' k o0 o0' b} hj hj' hr hr' hb hb' => by
              obtain ⟨o3, q1, rfl⟩ := hback3 hj hr
              obtain ⟨hjD, o1, q1', rfl⟩ := hback hj' hr'
              obtain ⟨p1, _, _⟩ := h4.own k o3 b q1 (hft1 hr hb)
              have := (hi.heap.own j' o1 b q1' (hft0 hr' hb')).2.2
              exact p1.elim (fun h => by omega) (hrest q1' hjD hr' b (hft0 hr' hb'))
            cases hr : rold τ j with
            | some k =>
              cases hr' : rold τ j' with
              | none => exact (hcross hj hj' hr hr' hb hb').elim
              | some k' =>
                obtain ⟨o3, q1, rfl⟩ := hback3 hj hr
                obtain ⟨o3', q1', rfl⟩ := hback3 hj' hr'
                have e := h4.inj k k' o3 o3' b q1 q1' (hft1 hr hb) (hft1 hr' hb')
                subst e
                have x1 := rkey_of_mem t2 (rold_mem hr)
                rw [rkey_of_mem t2 (rold_mem hr')] at x1
                exact (Option.some.inj x1).symm
            | none =>
              cases hr' : rold τ j' with
              | some k' => exact (hcross hj' hj hr' hr hb' hb).elim
              | none =>
                obtain ⟨_, o1, q1, _⟩ := hback hj hr
                obtain ⟨_, o1', q1', _⟩ := hback hj' hr'
                exact hi.heap.inj j j' o1 o1' b q1 q1' (hft0 hr hb) (hft0 hr' hb')
        · exact ⟨hkp.os.trans hi.fr.os, hkp.tape.trans hi.fr.tape, hkp.output.trans hi.fr.output, Nat.le_trans hi.fr.size hkp.size, fun b g1 g2 => (hkp.block b (Nat.lt_of_lt_of_le g1 hi.fr.size) fun h => g2 (hOC b h).1).trans (hi.fr.block b g1 g2)⟩
        · cases hr : rold τ j with
          | some k =>
            have hm := rold_mem hr
            cases hpk : pinK k with
            | false => have := (tauOk_get t1 k j hm).2.1 hpk; rw [hp] at this; cases this
            | true =>
              obtain ⟨q1, e1, e2, _⟩ := hpin3 hm hpk
              obtain ⟨o1, q1⟩ := q1
              exact ⟨o1, q1, e1, e2⟩
          | none =>
            obtain ⟨_, o1, q1, _⟩ := hback hj hr
            exact ⟨o1, q1, (hL0 hr).1, (hL0 hr).2.1⟩
      exact hn v w' I' L' hinv (h3.map' hf3)
    · exact h.elim
  · exact h.elim

theorem args_rep' {c : Call} {vs : List PV} (hvl : vs.length = c.args.toList.length)
    (hvs : ∀ (i : Nat) (pv : PV) (x : Operand), vs[i]? = some pv → c.args.toList[i]? = some x → RepP L s.heap I w (a.eval x) pv) {extra : List PV} {cv : Array Value} (hcl : cv.size = extra.length) (hcr : ∀ (i : Nat) (p : PV) (v : Value), extra[i]? = some p → cv[i]? = some v → RepP L s.heap I w v p) :
    (c.args.map a.eval ++ cv).size = (vs ++ extra).length ∧ ∀ (i : Nat) (p : PV) (v : Value), (vs ++ extra)[i]? = some p → (c.args.map a.eval ++ cv)[i]? = some v → RepP L s.heap I w v p := by
  refine ⟨by simp [hvl, hcl], fun i p v h1 h2 => ?_⟩
  by_cases hi : i < vs.length
  · rw [List.getElem?_append_left hi] at h1
    rw [Array.getElem?_append_left (by simp; rw [hvl] at hi; simpa using hi)] at h2
    have hia : i < c.args.toList.length := by omega
    have hia' : i < c.args.size := by simpa using hia
    rw [Array.getElem?_map] at h2
    simp [hia'] at h2
    subst h2
    exact hvs i p c.args.toList[i] h1 (List.getElem?_eq_getElem hia)
  · have hl : c.args.size = vs.length := by rw [hvl]; simp
    rw [List.getElem?_append_right (by omega)] at h1
    rw [Array.getElem?_append_right (by simp; omega)] at h2
    simp only [Array.size_map, hl] at h2
    exact hcr _ p v h1 h2

theorem Inv.swapCell {k o : Nat} {cs : List XV} {x y : XV} (hi : Inv C L I s a w) (hfd : find s.heap k = some (.box cs)) (hB : bK k = false) (hx : cs[o]? = some x) (hxy : ∀ v, RepX L s.heap I w v x → RepX L (setOb s.heap k (.box (cs.set o y))) I w v y) : Inv C L I ⟨s.regs, setOb s.heap k (.box (cs.set o y))⟩ a w := by
  have hfind := find_setOb k (.box (cs.set o y)) s.heap
  have hf : ∀ v x, RepX L s.heap I w v x → RepX L (setOb s.heap k (.box (cs.set o y))) I w v x := fun v x h => RepX.ext (q := fun _ => True) (fun j o' _ hj => by
    by_cases e : j = k
    · subst e
      rw [hfd] at hj; cases hj
      exact ⟨⟨_, by rw [hfind, if_pos rfl, hfd]; rfl, by simp [Ob.shape]⟩, rfl, rfl, rfl⟩
    · exact ⟨⟨o', by rw [hfind, if_neg e]; exact hj, rfl⟩, rfl, rfl, rfl⟩) (fun _ h => h) (fun _ _ => rfl) (fun _ _ => trivial) h
  have hback : ∀ {j o'}, find (setOb s.heap k (.box (cs.set o y))) j = some o' → ∃ o2, find s.heap j = some o2 := fun {j o'} hj => by
    rw [hfind] at hj
    by_cases e : j = k
    · exact ⟨_, e ▸ hfd⟩
    · rw [if_neg e] at hj; exact ⟨o', hj⟩
  refine hi.change (f := fun y => y) hf (map_id_regs _).symm ⟨fun j o' hj => ?_, fun j o' b hj hb => ?_, fun j j' o1 o2 b hj hj' hb hb' => ?_⟩ hi.Ib hi.Io hi.fr (fun j o' _ hj => by
    obtain ⟨o2, h2⟩ := hback hj
    exact ⟨o2, h2, rfl, rfl⟩)
  · simp only at hj
    rw [hfind] at hj
    by_cases e : j = k
    · subst e
      rw [if_pos rfl, hfd] at hj
      simp only [Option.map_some, Option.some.injEq] at hj
      subst hj
      have ho := hi.heap.ob j _ hfd
      simp only [RepO, hB] at ho ⊢
      obtain ⟨b, vs, e, fr, h1, h2, h3, h5, h6, h7⟩ := ho
      refine ⟨b, vs, e, fr, h1, h2, h3, h5, by simpa using h6, fun i z v hz hv => ?_⟩
      rw [List.getElem?_set] at hz
      by_cases ei : o = i
      · subst ei
        have hl : o < cs.length := (List.getElem?_eq_some_iff.1 hx).1
        rw [if_pos rfl, if_pos hl] at hz
        cases hz
        exact hxy v (h7 o x v hx hv)
      · rw [if_neg ei] at hz
        exact hf v z (h7 i z v hz hv)
    · rw [if_neg e] at hj
      exact (hi.heap.ob j o' hj).ext' hf (fun _ h => h) (fun _ _ => rfl) .rfl (fun _ _ => rfl)
  · obtain ⟨o2, h2⟩ := hback hj
    exact hi.heap.own j o2 b h2 hb
  · obtain ⟨o3, h3⟩ := hback hj
    obtain ⟨o4, h4⟩ := hback hj'
    exact hi.heap.inj j j' o3 o4 b h3 h4 hb hb'

theorem ownNilK_inv {k o q : Nat} {K : St → Prop} (h : ownNilK k o q s K) (hi : Inv C L I s a w) : ∃ s' L', K s' ∧ Inv C L' I s' a w := by
  unfold ownNilK at h
  split at h
  · split at h
    · rename_i sz hsz
      obtain ⟨s1, h, hi1, hq, _, _⟩ := newK_inv (w' := w) h hi (fun _ _ => rfl) (Nat.le_refl _) rfl rfl .rfl none 0 (fun b hb => by cases hb) (fun H' _ _ => by simp [RepO, Lay.upd, Lay.updD])
      unfold swapK at h
      split at h
      · rename_i cs hcs
        obtain ⟨hcs, hB⟩ := findB_some hcs
        split at h
        · rename_i sz1 hx
          split at h
          · rename_i sz2 hq2
            split at h
            · rename_i e
              have e := beq_iff.1 e
              subst e
              simp only [forceXs_eq, forceH_eq] at h
              by_cases hkq : k = q
              · subst hkq; rw [hcs] at hq; cases hq
              refine ⟨_, _, h, hi1.swapCell hcs hB hx fun v hv => ?_⟩
              have hv : v = .slice none 0 0 := hv
              subst hv
              exact ⟨sz1, [], by rw [find_setOb, if_neg (Ne.symm hkq)]; exact hq2, by simp [Lay.upd, Lay.updD]⟩
            · exact h.elim
          · exact h.elim
        · exact h.elim
      · exact h.elim
    · split at h
      · rename_i ho
        obtain ⟨s1, L1, h1, h2, _⟩ := renK_inv h hi ⟨_, ho⟩
        exact ⟨s1, L1, h1, h2⟩
      · exact h.elim
    · split at h
      · rename_i ho
        obtain ⟨s1, L1, h1, h2, _⟩ := renK_inv h hi ⟨_, ho⟩
        exact ⟨s1, L1, h1, h2⟩
      · exact h.elim
    · exact h.elim
  · exact h.elim
theorem ownKeys_inv : ∀ {ks : List Nat} {s : St} {L : Lay} {K : St → Prop}, ownKeys ks s K → Inv C L I s a w → ∃ s' L', K s' ∧ Inv C L' I s' a w
  | [], s, L, K, h, hi => ⟨s, L, h, hi⟩
  | k :: ks, s, L, K, h, hi => by
    obtain ⟨s1, L1, h, hi1⟩ := ownNilK_inv h hi
    exact ownKeys_inv h hi1

theorem callE_goes {tt : TT} {o : Oper} {c : Call} {f : Operand} {g : Nat} {caps : List CV} {vs : List PV} (hi : Inv C L I s a w) (ho : o.op = .call c) (hc : c.callee = .value f) {K : PV → St → Prop} (hpf : RepP L s.heap I w (a.eval f) (.one (.c (.fn g caps)))) (hvl : vs.length = c.args.toList.length)
    (hvs : ∀ (i : Nat) (pv : PV) (x : Operand), vs[i]? = some pv → c.args.toList[i]? = some x → RepP L s.heap I w (a.eval x) pv) (h : callE P tt s g caps c.args.toList c.argTypes.toList o.dst vs K) : ∃ pv s', K pv s' ∧ GoesM P C s' a w o pv := by
  unfold callE at h
  split at h
  · exact callR_goes hi ho hc hpf h
  · replace h : CallC _ _ := h
    cases h with
    | r h =>
      cases h with
      | r h => exact callR_goes hi ho hc hpf h
      | x h =>
        obtain ⟨q, _, h⟩ := h
        obtain ⟨s1, L1, h, hi1⟩ := ownKeys_inv h hi
        obtain ⟨vs1, h, hvl1, hvr1⟩ := argsK_sound hi1 h
        have hpf : RepC I w (a.eval f) (.fn g caps) := hpf
        generalize hv : a.eval f = vf at hpf
        cases hpf with
        | fn _ cv _ hcl hcr =>
          obtain ⟨p1, p2⟩ := args_rep' (extra := caps.map fun y => PV.one (.c y)) hvl1 hvr1 (by simpa using hcl) (fun i p v h1 h2 => by
            rw [List.getElem?_map] at h1
            cases h3 : caps[i]? with
            | none => simp [h3] at h1
            | some y => simp only [h3, Option.map_some, Option.some.injEq] at h1; subst h1; exact hcr i y v h3 h2)
          exact callX_goes hi1 (fun he => exec_call (P := P) (w := w) ho hc hv he) p1 p2 h
    | x h =>
      have hpf : RepC I w (a.eval f) (.fn g caps) := hpf
      generalize hv : a.eval f = vf at hpf
      cases hpf with
      | fn _ cv _ hcl hcr =>
        obtain ⟨p1, p2⟩ := args_rep' (extra := caps.map fun y => PV.one (.c y)) hvl hvs (by simpa using hcl) (fun i p v h1 h2 => by
          rw [List.getElem?_map] at h1
          cases h3 : caps[i]? with
          | none => simp [h3] at h1
          | some y => simp only [h3, Option.map_some, Option.some.injEq] at h1; subst h1; exact hcr i y v h3 h2)
        exact callX_goes hi (fun he => exec_call (P := P) (w := w) ho hc hv he) p1 p2 h

theorem callM_goes {tt : TT} {o : Oper} {c : Call} {f : Operand} (hi : Inv C L I s a w) (ho : o.op = .call c) (hc : c.callee = .value f) {pf : PV} {K : PV → St → Prop} (hpf : RepP L s.heap I w (a.eval f) pf) (h : callM P tt s pf c.args.toList c.argTypes.toList o.dst K) : ∃ pv s', K pv s' ∧ GoesM P C s' a w o pv := by
  unfold callM at h
  split at h
  · obtain ⟨vs, h, hvl, hvr⟩ := argsK_sound hi h
    split at h
    · obtain ⟨m, _, h⟩ := h
      match m, h with
      | some true, h => exact callD_goes hi ho hc hpf hvl hvr h
      | some false, h => exact callE_goes hi ho hc hpf hvl hvr h
      | none, h =>
        obtain ⟨s1, L1, I1, h, hi1, hI1⟩ := flatKeys_inv h hi
        obtain ⟨vs1, h, hvl1, hvr1⟩ := argsK_sound hi1 h
        have hpf : RepC I w (a.eval f) (.fn _ _) := hpf
        exact callE_goes hi1 ho hc (hpf.mono hI1 fun _ _ => rfl) hvl1 hvr1 h
    · exact callE_goes hi ho hc hpf hvl hvr h
  · rename_i g pre k n post
    obtain ⟨vs, h, hvl, hvr⟩ := argsK_sound hi h
    obtain ⟨us, cells, b, g1, g2, g3, g4, g5, g6, g7, g8⟩ := hpf
    obtain ⟨p1, p2⟩ := args_rep' (extra := pre.map (fun y => PV.one (.c y)) ++ .one (.pb k 0 n) :: post.map fun y => .one (.c y)) (cv := us) hvl hvr (by simp [g5]; omega) (fun i p v h1 h2 => by
      by_cases h3 : i < pre.length
      · rw [List.getElem?_append_left (by simpa using h3), List.getElem?_map, List.getElem?_eq_getElem h3] at h1
        simp only [Option.map_some, Option.some.injEq] at h1
        subst h1
        exact g6 i _ v (List.getElem?_eq_getElem h3) h2
      · rw [List.getElem?_append_right (by simpa using Nat.le_of_not_lt h3)] at h1
        simp only [List.length_map] at h1
        by_cases h4 : i = pre.length
        · subst h4
          simp only [Nat.sub_self, List.getElem?_cons_zero, Option.some.injEq] at h1
          subst h1
          rw [g7] at h2; cases h2
          exact ⟨cells, b, g2, g3, by omega, rfl⟩
        · obtain ⟨m, hm⟩ : ∃ m, i = pre.length + 1 + m := ⟨i - pre.length - 1, by omega⟩
          subst hm
          rw [show pre.length + 1 + m - pre.length = m + 1 by omega, List.getElem?_cons_succ, List.getElem?_map] at h1
          cases h5 : post[m]? with
          | none => simp [h5] at h1
          | some y => simp only [h5, Option.map_some, Option.some.injEq] at h1; subst h1; exact g8 m y v h5 h2)
    exact callX_goes hi (fun he => exec_call (P := P) (w := w) ho hc g1 he) p1 p2 h
  · exact h.elim

end

end Go.Proofs.YtnafogjagbhdbaaDoor.Pi
/- Every operation of a region whose order is fixed is sound. No statement of the seat is proved here. -/
namespace Go.Proofs.YtnafogjagbhdbaaDoor.Pi
open Go Go.RowKit
set_option linter.unusedVariables false
set_option linter.unusedSimpArgs false

section
variable {P : Program} {C : Ctx} {L : Lay} {I : Nat → Prop} {s : St} {a : Act} {w : World}

theorem dstK_iff {o : Oper} {K : Nat → Prop} (h : dstK o K) : ∃ d, o.dst = some d ∧ K (64 * d) := by
  unfold dstK at h
  split at h
  · exact ⟨_, by assumption, h⟩
  · exact h.elim

theorem goesM_skip {o : Oper} {w' : World} {L' : Lay} {I' : Nat → Prop} {s' : St} (hrun : (execOp a.eval o).run P w = .ok .skip w') (hi : Inv C L' I' s' a w') : GoesM P C s' a w o (.one .undef) := fun next Q _ hn => Or.inl (by
  unfold Oper.wp
  rw [hrun]
  exact hn undef w' I' L' hi rfl)

theorem boxM_goes {o : Oper} {k : Nat} {xs : List XV} {cells : Array Value} {e : TypeId} {K : PV → St → Prop} (hi : Inv C L I s a w) (hr : RepXs L s.heap I w cells xs) (hrun : (execOp a.eval o).run P w = .ok (.value (.pointer (some ⟨w.heap.size, 0, none⟩))) (w.alloc (.cells cells e))) (h : boxM k xs s K) : ∃ pv s', K pv s' ∧ GoesM P C s' a w o pv := by
  unfold boxM at h
  split at h
  · rename_i hl hk hB
    obtain ⟨s', L', h1, h2, h3⟩ := newBox (e := e) h hi hr hl hk hB
    exact ⟨_, s', h1, goesM_run hrun h2 h3⟩
  · exact h.elim

theorem run_storeVar {t : TypeId} {i : TypeInfo} {v : Value} {b o : Nat} {w' : World} (hi : P.info? t = some i) (hs : v.cells.size = i.size) (hst : (storeCells ⟨b, o, none⟩ v.cells.toList 0).run P w = .ok () w') :
    (Instr.storeAt t (.pointer (some ⟨b, o, none⟩)) v).run P w = .ok () w' := by
  simp only [Instr.storeAt, Instr.sureAddr, Sem.run_bind, Sem.run_pure, Result.andThen_ok, storeVar, run_size hi, hs]
  rw [if_neg (by simp)]
  exact hst

theorem shrinkK_inv {k k2 l : Nat} {v : Value} {K : St → Prop} (h : shrinkK k k2 l s K) (hi : Inv C L I s a w) (hv : RepX L s.heap I w v (.ru k 0 l)) : ∃ s' L', K s' ∧ Inv C L' I s' a w ∧ RepX L' s'.heap I w v (.rs k2) := by
  unfold shrinkK at h
  split at h
  · rename_i sz rows hf
    obtain ⟨s1, h, hi1, hnone, hfs, _⟩ := killK_inv h hi
    obtain ⟨sz', rows', g1, g3, g2⟩ := hv
    rw [hf] at g1; cases g1
    have ho := hi.heap.ob k _ hf
    cases hbk : L.blk k with
    | none =>
      simp only [RepO, hbk] at ho
      simp only [hbk] at g2
      subst ho
      simp only [List.take_nil] at h
      obtain ⟨s', L', e1, e2, e3⟩ := newNil h hi1
      exact ⟨s', L', e1, e2, by rw [g2]; exact e3⟩
    | some b =>
      simp only [RepO, hbk] at ho
      simp only [hbk] at g2
      obtain ⟨hcap, hrl, cur, ce, fr, hcur, hfit, hfz, hrep⟩ := ho
      obtain ⟨hO, hnI, hlt⟩ := hi.heap.own k _ b hf (.inl hbk)
      obtain ⟨q, q1, q2, q3⟩ := g2
      have e0 := q2 (.inr trivial)
      rw [Nat.zero_mul] at e0
      subst e0
      have hnob : ∀ j o', find s1.heap j = some o' → ¬ Foot L j b := fun j o' hj hbj => by
        by_cases e : j = k
        · rw [e, hnone] at hj; cases hj
        · rw [hfs j e] at hj
          cases hj' : find s.heap j with
          | none => simp [hj'] at hj
          | some o3 => exact e (hi.heap.inj j k o3 _ b hj' hf hbj (.inl hbk))
      have hsub : ∀ (i : Nat) (r : List CV), (rows.take l)[i]? = some r → rows[i]? = some r := fun i r h => by
        rw [List.getElem?_take] at h
        split at h
        · exact h
        · cases h
      obtain ⟨s', e1, e2, e3, _, _⟩ := newK_inv (w' := w) h hi1 (fun _ _ => rfl) (Nat.le_refl _) rfl rfl .rfl (some b) (L.cap k) (fun b' hb' => by
        cases hb'
        exact ⟨hO, hnI, hlt, fun j o' _ hj => hnob j o' hj⟩) (fun H' _ _ => by
        simp only [RepO, Lay.upd, Lay.updD, if_true]
        exact ⟨by simp; omega, fun i r hr => hrl i r (hsub i r hr), cur, ce, fr, hcur, hfit, hfz, fun i r j c h1 h2 => hrep i r j c (hsub i r h1) h2⟩)
      exact ⟨s', _, e1, e2, sz, rows.take l, e3, by simp only [Lay.upd, Lay.updD, if_true]; rw [q3, Nat.sub_zero, List.length_take, Nat.min_eq_left (by omega)]⟩
  · exact h.elim

theorem boxSet_goes {tt : TT} {o : Oper} {t : TypeId} {i : TypeInfo} {pa px : Value} {m k off n : Nat} {xs : List XV} {K : St → Prop} (hinf : P.info? t = some i) (hs : m + 1 = i.size) (hexec : ∀ {w' : World}, (Instr.storeAt t pa px).run P w = .ok () w' → (execOp a.eval o).run P w = .ok .skip w')
    (hi : Inv C L I s a w) (hp : RepX L s.heap I w pa (.pb k off n)) (hvr : RepXs L s.heap I w px.cells xs) (h : boxSet m k off n xs s K) : ∃ s', K s' ∧ GoesM P C s' a w o (.one .undef) := by
  obtain ⟨cs, b, g1, g2, g3, g4⟩ := hp
  unfold boxSet at h
  split at h
  · rename_i cs' hf hb
    obtain ⟨hf, hB⟩ := findB_some hf
    have e := beq_iff.1 hb
    rw [g1] at hf; cases hf
    split at h
    · rename_i hl hlive
      have hl := lenIs_iff.1 hl
      simp only [forceXs_eq, forceH_eq] at h
      obtain ⟨w', h1, h2, h3⟩ := hi.writeBox (P := P) (off := off) g1 g2 hB (by omega) hvr hlive
      have hrun := hexec (by rw [g4]; exact run_storeVar hinf (by rw [hvr.1, hl, e, hs]) h1)
      split at h
      · rename_i k2 r _ _
        obtain ⟨sk, rows, hk2, _⟩ := hvr.2 0 (.rs k2) (px.cells[0]'(by rw [hvr.1]; simp)) rfl (by
          have : 0 < px.cells.size := by rw [hvr.1]; simp
          simp [this])
        obtain ⟨s', L', q1, q2, _⟩ := renK_inv h h2 (by
          by_cases e2 : k2 = k
          · subst e2; exact ⟨_, by simp only [find_setOb, if_true, g1]; rfl⟩
          · exact ⟨_, by simp only [find_setOb, if_neg e2]; exact hk2⟩)
        exact ⟨s', q1, goesM_skip hrun q2⟩
      · rename_i k2 r _ _
        obtain ⟨_, sk, rows, hk2, _⟩ := hvr.2 0 (.ds k2) (px.cells[0]'(by rw [hvr.1]; simp)) rfl (by
          have : 0 < px.cells.size := by rw [hvr.1]; simp
          simp [this])
        obtain ⟨s', L', q1, q2, _⟩ := renK_inv h h2 (by
          by_cases e2 : k2 = k
          · subst e2; exact ⟨_, by simp only [find_setOb, if_true, g1]; rfl⟩
          · exact ⟨_, by simp only [find_setOb, if_neg e2]; exact hk2⟩)
        exact ⟨s', q1, goesM_skip hrun q2⟩
      · exact ⟨_, h, goesM_skip hrun h2⟩
    · exact h.elim
  · exact h.elim

theorem storeM_goes {tt : TT} (hT : TOK P tt) {o : Oper} {t : TypeId} {x y : Operand} {K : St → Prop} (hi : Inv C L I s a w) (ho : o.op = .store t x y) (h : storeM tt t x y s K) : ∃ s', K s' ∧ GoesM P C s' a w o (.one .undef) := by
  have hexec : ∀ {w' : World}, (Instr.storeAt t (a.eval x) (a.eval y)).run P w = .ok () w' → (execOp a.eval o).run P w = .ok .skip w' := fun {w'} hr => by
    simp only [execOp, ho, Sem.run_bind, hr, Result.andThen_ok, Sem.run_pure]
  unfold storeM at h
  split at h
  · exact h.elim
  rename_i m hm
  have hkn := known_of (hT t) (by omega)
  obtain ⟨i, hinf, hs, _⟩ := hkn.info
  replace h := opd_sound hi h
  obtain ⟨p, h, hp⟩ := h
  replace h := opd_sound hi h
  obtain ⟨v, h, hv⟩ := h
  split at h
  · rename_i k off n
    split at h
    · rename_i xs hxs
      split at h
      · rename_i k2 l hru
        have hx : xs = [.ru k2 0 l] := by
          unfold ruHead at hru
          split at hru
          · split at hru
            · rename_i hb; cases hru; rw [beq_iff.1 hb]
            · cases hru
          · cases hru
        subst hx
        have hvr := cellsX_rep hxs (Or.inl rfl) hv
        have h1 : (a.eval y).cells.size = 1 := by rw [hvr.1]; rfl
        have hv0 := hvr.2 0 (.ru k2 0 l) ((a.eval y).cells[0]'(by omega)) rfl (by simp [h1])
        obtain ⟨s1, L1, h, hi1, hr1⟩ := shrinkK_inv h hi hv0
        replace h := opd_sound hi1 h
        obtain ⟨p, h, hp⟩ := h
        split at h
        · refine boxSet_goes (tt := tt) hinf (by rw [hs, hm]) hexec hi1 hp ⟨by rw [h1]; rfl, fun i x v q1 q2 => ?_⟩ h
          cases i with
          | zero =>
            cases q1
            have : v = (a.eval y).cells[0]'(by omega) := by simpa [h1] using q2.symm
            rw [this]; exact hr1
          | succ i => simp at q1
        · exact h.elim
      · by_cases hlive : allLive xs = true
        · exact boxSet_goes (tt := tt) hinf (by rw [hs, hm]) hexec hi hp (cellsX_rep hxs (Or.inl hlive) hv) h
        · unfold boxSet at h
          split at h
          · split at h
            · rename_i hl; exact absurd hl hlive
            · exact h.elim
          · exact h.elim
    · exact h.elim
  · clear hp hv
    replace h := frzKeys_inv h hi
    obtain ⟨s1, I1, h, hi1, _⟩ := h
    replace h := opd_sound hi1 h
    obtain ⟨p, h, hp⟩ := h
    replace h := opd_sound hi1 h
    obtain ⟨v, h, hv⟩ := h
    split at h
    · rename_i k r off n
      obtain ⟨sz0, rows0, b, g1, g2, g3, g5, g4⟩ := hp
      split at h
      · rename_i ys sz rows hys hf hb
        have e := beq_iff.1 hb
        rw [g1] at hf; cases hf
        obtain ⟨hvs, hvr⟩ := cells_pure hys hv
        split at h
        · rename_i hl
          have hl := lenIs_iff.1 hl
          split at h
          · rename_i hb2
            have e2 := beq_iff.1 hb2
            obtain rfl : off = 0 := by omega
            simp only [forceH_eq] at h
            obtain ⟨w', h1, h2⟩ := hi1.writeRow (P := P) g1 g2 g3 (by omega) (by omega) hvr
            have hrun := hexec (by rw [g4]; exact run_storeVar hinf (by rw [hvs, hl, hs, e, hm]) h1)
            exact ⟨_, h, goesM_skip hrun h2⟩
          · obtain ⟨row, hrow, h⟩ := h
            simp only [forceH_eq] at h
            obtain ⟨w', h1, h2⟩ := hi1.writePart (P := P) (o := off) g1 g2 hrow (by omega) hvs hvr
            have hrun := hexec (by rw [g4]; exact run_storeVar hinf (by rw [hvs, hl, hs, e, hm]) h1)
            exact ⟨_, h, goesM_skip hrun h2⟩
        · exact h.elim
      · exact h.elim
    · exact h.elim
  · rename_i k r off n
    split at h
    · rename_i xs hxs hb
      have e := beq_iff.1 hb
      obtain ⟨ap0, sz0, rows0, b, g1, g2, g3, g5, g4⟩ := hp
      unfold storeD absK at h
      split at h
      · rename_i hlive
        have hvr := cellsX_rep hxs (Or.inl hlive) hv
        have hab := absorbK_inv h hi (fun k o hf _ => hf) (a.eval y).cells.toList (by simp [hvr.1]) (fun i x v h1 h2 => hvr.2 i x v h1 (by simpa using h2))
        clear h
        obtain ⟨ys, s1, Js, h, hi1, hyl, hyr, hJ, hdj, hback⟩ := hab
        have hJ' : ∀ i b, Js i b → C.O b ∧ ¬ I b ∧ b < w.heap.size ∧ ∀ j o, find s1.heap j = some o → ¬ Foot L j b := fun i b hb => by
          obtain ⟨⟨j, o', q1, q2⟩, q3⟩ := hJ i b hb
          obtain ⟨x1, x2, x3⟩ := hi.heap.own j o' b q1 q2
          exact ⟨x1, x2, x3, q3⟩
        split at h
        · rename_i ap sz rows hf hl
          have hl := lenIs_iff.1 hl
          have hf0 := (hback k _ hf).2 (fun cs h => by cases h)
          rw [g1] at hf0; cases hf0
          have ho := hi1.heap.ob k _ hf
          simp only [RepO, g2] at ho
          have hcs : (a.eval y).cells.size = ys.length := by rw [hvr.1, hyl]
          have hyr' : ∀ (i : Nat) (y' : CV) (v' : Value), ys[i]? = some y' → (a.eval y).cells[i]? = some v' → RepD w (Js i) v' y' := fun i y' v' h1 h2 => hyr i y' v' h1 (by simpa using h2)
          split at h
          · rename_i hb2
            have e2 := beq_iff.1 hb2
            obtain rfl : off = 0 := by omega
            have hrow : rows0[r]? = some rows0[r] := List.getElem?_eq_getElem g3
            have hrl := ho.1.2.1 r _ hrow
            have heq : spliceC rows0[r] 0 ys = ys := by
              apply List.ext_getElem?
              intro q
              rw [spliceC_get ys _ 0 q (by omega)]
              by_cases hq : q < ys.length
              · rw [if_pos (by omega)]; simp
              · rw [if_neg (by omega), List.getElem?_eq_none (by omega), List.getElem?_eq_none (by omega)]
            obtain ⟨w', s', L', h1, h2, h3⟩ := hi1.writeDeep (P := P) (o := 0) (vs := (a.eval y).cells) hf g2 hrow (by omega) hcs hyr' hJ' hdj (by rw [heq]; exact h)
            have hrun := hexec (by rw [g4]; exact run_storeVar hinf (by rw [hcs, hl, hs, e, hm]) h1)
            exact ⟨s', h2, goesM_skip hrun h3⟩
          · obtain ⟨row, hrow, h⟩ := h
            obtain ⟨w', s', L', h1, h2, h3⟩ := hi1.writeDeep (P := P) (o := off) (vs := (a.eval y).cells) hf g2 hrow (by omega) hcs hyr' hJ' hdj h
            have hrun := hexec (by rw [g4]; exact run_storeVar hinf (by rw [hcs, hl, hs, e, hm]) h1)
            exact ⟨s', h2, goesM_skip hrun h3⟩
        · exact h.elim
      · exact h.elim
    · exact h.elim
  · exact h.elim

theorem bytes_fold (b : ByteArray) : (b.toList.map fun x => (x.toNat : Int)).foldl (fun r n => r.push (UInt8.ofNat n.toNat)) ByteArray.empty = b := by
  have key : ∀ (l : List UInt8) (r : ByteArray), ((l.map fun x => (x.toNat : Int)).foldl (fun r n => r.push (UInt8.ofNat n.toNat)) r).data = r.data ++ l.toArray := by
    intro l
    induction l with
    | nil => intro r; simp
    | cons x l ih =>
      intro r
      simp only [List.map_cons, List.foldl_cons]
      rw [ih]
      simp
  have h := key b.toList ByteArray.empty
  rw [ByteArray.toList_eq] at h ⊢
  apply ByteArray.ext
  rw [h]
  simp

theorem strBytes_goes {o : Oper} {k : Nat} {b : ByteArray} {el : TypeId} {K : PV → St → Prop} (hi : Inv C L I s a w) (h : newK k (.arr 1 (bytesRows b)) s fun s => K (.one (.rs k)) s) (hsz : b.size ≤ 2 ^ 46)
    (hexec : ∀ {v : Value} {w' : World}, (Conv.stringToBytes el b).run P w = .ok v w' → (execOp a.eval o).run P w = .ok (.value v) w') : ∃ pv s', K pv s' ∧ GoesM P C s' a w o pv := by
  obtain ⟨cap, hcap, hch⟩ := choose_cap (P := P) (w := w) b.size 0 el (by omega)
  let cs : Array Value := (b.data.map fun x => Value.int .u8 x.toNat) ++ Array.replicate (cap - b.size) (.int .u8 0)
  have hcs : cs.size = cap := by simp [cs]; have : b.data.size = b.size := rfl; omega
  let w1 : World := { w with drawn := w.drawn + 1 }
  let w' : World := (w1.alloc (.cells cs el)).freeze ⟨w.heap.size, cap, none⟩ 1
  have hal : (w1.alloc (.cells cs el)).heap[w.heap.size]? = some (.cells cs el (0, 0)) := by
    show (w1.heap.push _)[w1.heap.size]? = _
    simp
  have hnew : w'.heap[w.heap.size]? = some (.cells cs el (cap, cap + 1)) := by
    simp only [w', World.freeze]
    rw [if_neg (by omega)]
    simp only [Array.getElem?_modify, if_true, hal, Option.map_some]
    simp
  have hold : ∀ b', b' < w.heap.size → w'.heap[b']? = w.heap[b']? := fun b' hb' => by
    have h1 : (w1.alloc (.cells cs el)).heap[b']? = w.heap[b']? := Below.heap_alloc w1 _ b' hb'
    simp only [w', World.freeze]
    rw [if_neg (by omega)]
    simp only [Array.getElem?_modify]
    rw [if_neg (by omega), h1]
  have hsize : w'.heap.size = w.heap.size + 1 := by
    simp only [w', World.freeze]
    rw [if_neg (by omega)]
    simp [w1]
  have hos : w'.os = w.os ∧ w'.tape = w.tape ∧ OutG w' w := by
    simp only [w', World.freeze]
    rw [if_neg (by omega)]
    exact ⟨rfl, rfl, ⟨rfl, fun _ => Nat.le_succ _⟩⟩
  have hbl : (bytesRows b).length = b.size := by simp [bytesRows, ByteArray.toList_eq]
  obtain ⟨s', h1, h2, h3, _, _⟩ := newK_inv (w' := w') h hi hold (by omega) hos.1 hos.2.1 hos.2.2 (some w.heap.size) cap (fun b' hb' => by
    cases hb'
    exact ⟨C.hO _ hi.fr.size, fun h => by have := hi.Ib _ h; omega, by omega, fun j o' _ hj hbj => by have := (hi.heap.own j o' _ hj hbj).2.2; omega⟩) (fun H' _ _ => by
    simp only [RepO, Lay.upd, Lay.updD, if_true]
    refine ⟨by omega, fun i r hr => ?_, cs, el, (cap, cap + 1), hnew, by omega, fun o' ho' => ?_, fun i r j c hr hc => ?_⟩
    · simp only [bytesRows, List.getElem?_map] at hr
      cases hb : b.toList[i]? with
      | none => simp [hb] at hr
      | some x => simp [hb] at hr; subst hr; rfl
    · simp only [World.frozen?, hnew]
      simp; omega
    · simp only [bytesRows, List.getElem?_map] at hr
      cases hb : b.toList[i]? with
      | none => simp [hb] at hr
      | some x =>
        simp [hb] at hr
        subst hr
        cases j with
        | succ j => simp at hc
        | zero =>
          simp at hc
          subst hc
          refine ⟨.int .u8 x.toNat, ?_, RepC.int _ _⟩
          rw [ByteArray.toList_eq] at hb
          have hb' : b.data[i]? = some x := by simpa using hb
          have hlt : i < b.data.size := (Array.getElem?_eq_some_iff.1 hb').1
          have e2 : i * 1 + 0 = i := by omega
          rw [e2]
          simp only [cs]
          rw [Array.getElem?_append_left (by simpa using hlt)]
          simp [hb'])
  refine ⟨_, s', h1, goesM_run (v := .slice (some ⟨w.heap.size, 0, none⟩) b.size cap) (w' := w') (hexec ?_) h2 ⟨1, bytesRows b, h3, by simp [Lay.upd, Lay.updD, hbl]⟩⟩
  have hshape : (w1.alloc (.cells cs el)).shape? w.heap.size = some (el, cap) := by simp [World.shape?, hal, hcs]
  simp only [Conv.stringToBytes, Sem.run_bind, hch, Result.andThen_ok, newRow, run_newObj, markStringish, run_shape]
  show (Result.andThen (Sem.run P (match (w1.alloc (.cells cs el)).shape? w.heap.size with | some (_, n) => freeze { block := w.heap.size, off := n } 1 | _ => pure ()) (w1.alloc (.cells cs el))) fun _ w' => _) = _
  rw [hshape]
  rfl

theorem bytes_run {v : Value} {y : PV} {es : List (List CV)} {cells : Array Value} {b : ByteArray} (hv : RepP L s.heap I w v y) (hns : ∀ b, y ≠ .one (.c (.str b))) (hnd : y ≠ .one .dead) (hlen : (Builtin.lenOf v).run P w = .ok es.length w) (hc : (Builtin.firstCells 1 es.length v).run P w = .ok cells w) (hf : Flat I w 1 es cells) (hb : bytesRows b = es) :
    (∃ base n c, v = .slice base n c) ∧ (Conv.bytesToString v).run P w = .ok (.string b) w := by
  have hbl : es.length = b.toList.length := by rw [← hb]; simp [bytesRows]
  have hcells : cells = ((b.toList.map fun x => (x.toNat : Int)).map (Value.int .u8)).toArray := by
    apply Array.ext
    · rw [hf.size, hbl]; simp
    · intro i h1 h2
      have hi' : i < b.toList.length := by rw [hf.size, hbl] at h1; omega
      have hr : es[i]? = some [CV.int .u8 (b.toList[i].toNat : Int)] := by rw [← hb]; simp [bytesRows, hi']
      obtain ⟨u, q1, q2⟩ := hf.rep i _ 0 _ hr rfl
      have e2 : i * 1 + 0 = i := by omega
      rw [e2, Array.getElem?_eq_getElem h1] at q1
      cases q1
      generalize cells[i] = u at q2
      cases q2
      simp
  cases v <;> simp only [Builtin.lenOf, run_stuck, reduceCtorEq] at hlen
  · exfalso
    cases y with
    | one x =>
      cases x with
      | c cc =>
        have hv : RepC I w _ cc := hv
        cases hv with
        | str => exact hns _ rfl
        | own _ _ _ h => cases h
      | nil _ => cases hv
      | rs k =>
        obtain ⟨_, _, _, h⟩ := hv
        cases hk : L.blk k <;> simp [hk] at h
      | ru k o l =>
        obtain ⟨_, _, _, _, h⟩ := hv
        cases hk : L.blk k <;> simp [hk] at h
      | pb k o l => obtain ⟨_, _, _, _, _, h⟩ := hv; cases h
      | pe k r o l => obtain ⟨_, _, _, _, _, _, _, h⟩ := hv; cases h
      | ds k =>
        obtain ⟨_, _, _, _, h⟩ := hv
        cases hk : L.blk k with
        | none => simp only [hk] at h; rcases h.1 with e | ⟨_, _, e⟩ <;> cases e
        | some b => simp [hk] at h
      | dp k r o l => obtain ⟨_, _, _, _, _, _, _, _, h⟩ := hv; cases h
      | dn k r j => obtain ⟨_, _, _, _, _, _, _, _, _, h⟩ := hv; cases h
      | fb f cs k n qs => obtain ⟨_, _, _, h, _⟩ := hv; cases h
      | undef => cases hv
      | dead => exact hnd rfl
    | agg _ => obtain ⟨_, h, _⟩ := hv; cases h
    | tup _ => obtain ⟨_, h, _⟩ := hv; cases h
  · rename_i base n c
    refine ⟨⟨base, n, c, rfl⟩, ?_⟩
    simp only [Sem.run_pure, Result.ok.injEq, and_true] at hlen
    subst hlen
    cases base with
    | none =>
      simp only [Builtin.firstCells, Sem.run_pure, Result.ok.injEq, and_true] at hc
      rw [← hc] at hcells
      have : b.toList = [] := by
        have h := congrArg Array.size hcells
        simp at h
        exact List.eq_nil_of_length_eq_zero (by simpa using h.symm)
      have hbe : b = ByteArray.empty := by
        apply ByteArray.ext
        rw [ByteArray.toList_eq] at this
        have : b.data = #[] := by apply Array.ext'; simpa using this
        rw [this]; rfl
      rw [hbe]; rfl
    | some a' =>
      simp only [Builtin.firstCells, Nat.mul_one] at hc
      rw [hcells] at hc
      have := run_bytesToString (P := P) w a' es.length c (b.toList.map fun x => (x.toNat : Int)) hc
      rw [this, bytes_fold]

theorem nilM_sound {v : Value} {pv : PV} {K : Bool → Prop} (hi : Inv C L I s a w) (h : nilM s.heap pv K) (hr : RepP L s.heap I w v pv) : ∃ base n c, v = .slice base n c ∧ K base.isNone := by
  unfold nilM at h
  split at h
  · rename_i sz es
    have hr : RepC I w v (.slice sz es) := hr
    cases hr with
    | nil _ => exact ⟨none, 0, 0, rfl, h _ fun _ => rfl⟩
    | empty a' cap _ => exact ⟨some a', 0, cap, rfl, h _ fun e => by cases e⟩
    | slice b off cap _ n _ vs _ _ _ _ _ _ => exact ⟨some _, n, cap, rfl, h _ fun e => by cases e⟩
  · have hr : v = .slice none 0 0 := hr
    exact ⟨none, 0, 0, hr, h⟩
  · rename_i k
    split at h
    · rename_i sz rows hf
      obtain ⟨_, _, g1, g2⟩ := hr
      rw [hf] at g1; cases g1
      have ho := hi.heap.ob k _ hf
      cases hbk : L.blk k with
      | none =>
        simp only [RepO, hbk] at ho
        simp only [hbk] at g2
        exact ⟨none, 0, 0, g2, h _ fun _ => ho⟩
      | some b => simp only [hbk] at g2; exact ⟨some _, _, _, g2, h _ fun e => by cases e⟩
    · exact h.elim
  · rename_i k
    split at h
    · rename_i ap sz rows hf
      obtain ⟨_, _, _, g1, g2⟩ := hr
      rw [hf] at g1; cases g1
      have ho := hi.heap.ob k _ hf
      cases hbk : L.blk k with
      | none =>
        simp only [RepO, hbk] at ho
        simp only [hbk] at g2
        rcases g2.1 with e | ⟨a', c, e⟩
        · exact ⟨none, 0, 0, e, h _ fun _ => ho⟩
        · exact ⟨some a', 0, c, e, h _ fun e => by cases e⟩
      | some b => simp only [hbk] at g2; exact ⟨some _, _, _, g2, h _ fun e => by cases e⟩
    · exact h.elim
  · exact h.elim

theorem splitCap_rep {H : Heap} : ∀ {vs : List PV} {pre post : List CV} {k n : Nat} (us : List Value), splitCap H vs = some (pre, k, n, post) → us.length = vs.length → (∀ (i : Nat) (p : PV) (u : Value), vs[i]? = some p → us[i]? = some u → RepP L H I w u p) →
    ∃ b cells, find H k = some (.box cells) ∧ L.blk k = some b ∧ cells.length = n ∧ us.length = pre.length + 1 + post.length ∧ (∀ (i : Nat) (c : CV) (u : Value), pre[i]? = some c → us[i]? = some u → RepC I w u c) ∧ us[pre.length]? = some (.pointer (some ⟨b, 0, none⟩)) ∧
      (∀ (i : Nat) (c : CV) (u : Value), post[i]? = some c → us[pre.length + 1 + i]? = some u → RepC I w u c)
  | [], pre, post, k, n, us, h, _, _ => by simp [splitCap] at h
  | p :: vs, pre, post, k, n, [], h, hl, _ => by simp at hl
  | p :: vs, pre, post, k, n, u :: us, h, hl, hr => by
    have hr0 := hr 0 p u rfl rfl
    have hrs : ∀ (i : Nat) (p : PV) (u : Value), vs[i]? = some p → us[i]? = some u → RepP L H I w u p := fun i q v h1 h2 => hr (i + 1) q v (by simpa using h1) (by simpa using h2)
    have hls : us.length = vs.length := by simpa using hl
    unfold splitCap at h
    split at h
    · cases ‹_ = _›
    · rename_i k' n' vs' heq
      cases heq
      split at h
      · rename_i cs post' hf hpost
        split at h
        · rename_i hb hall
          cases h
          obtain ⟨cs', b, g1, g2, g3, rfl⟩ := hr0
          rw [hf] at g1; cases g1
          obtain ⟨e1, e2⟩ := pureB_get hpost
          have hone : ∀ c ∈ post', c.1 = false → ∃ y, c = (false, [y]) := fun c hc hff => by
            obtain ⟨i, hi', rfl⟩ := List.mem_iff_getElem.1 hc
            obtain ⟨c', e3, e4⟩ := e2 i (vs[i]'(by omega)) (List.getElem?_eq_getElem _)
            rw [List.getElem?_eq_getElem hi'] at e3; cases e3
            rcases e4 with ⟨x, y, _, _, e5⟩ | ⟨_, _, _, _, e5⟩
            · exact ⟨y, e5⟩
            · rw [e5] at hff; cases hff
          obtain ⟨q1, q2⟩ := flat_get hall hone
          refine ⟨b, cs, hf, g2, beq_iff.1 hb, (by rw [q1]; simp only [List.length_cons, List.length_nil]; omega), fun i c u h1 => by simp at h1, by simp, fun i c v h1 h2 => ?_⟩
          simp only [List.length_nil, Nat.zero_add] at h2
          rw [Nat.add_comm 1 i, List.getElem?_cons_succ] at h2
          have hcy := q2 i c h1
          have hil : i < vs.length := by rw [e1]; exact (List.getElem?_eq_some_iff.1 hcy).1
          obtain ⟨c', e3, e4⟩ := e2 i vs[i] (List.getElem?_eq_getElem hil)
          rw [hcy] at e3; cases e3
          exact comp_of_pure (s := ⟨[], H⟩) (hrs i _ v (List.getElem?_eq_getElem hil) h2) e4
        · cases h
      · cases h
    · rename_i c0 vs' heq
      cases heq
      split at h
      · rename_i pre' p' hsp
        cases h
        obtain ⟨b, cells, q1, q2, q3, q4, q5, q6, q7⟩ := splitCap_rep us hsp hls hrs
        refine ⟨b, cells, q1, q2, q3, by simp; omega, fun i c v h1 h2 => ?_, by simpa using q6, fun i c v h1 h2 => ?_⟩
        · cases i with
          | zero => simp at h1 h2; subst h1; subst h2; exact hr0
          | succ i => simp at h1 h2; exact q5 i c v h1 h2
        · refine q7 i c v h1 ?_
          rw [← h2]
          simp only [List.length_cons]
          rw [show pre'.length + 1 + 1 + i = (pre'.length + 1 + i) + 1 by omega, List.getElem?_cons_succ]
      · cases h
    · cases h

theorem appendZ_goes {o : Oper} {c : Call} {x y : Operand} {t t2 : TypeId} {ti ti2 : TI} (ht : tiOk P t ti = true) (ht2 : tiOk P t2 ti2 = true) (hz2 : ti2.ik ≠ none) (hi : Inv C L I s a w) (ho : o.op = .call c) (hc : c.callee = .builtin .append) (hargs : c.args.toList = [x, y]) (hts : c.argTypes.toList = [t, t2]) {k : Nat} {px py : PV} {K : PV → St → Prop}
    (hx : RepP L s.heap I w (a.eval x) px) (hy : RepP L s.heap I w (a.eval y) py) (h : appendZ ti k s px py K) : ∃ pv s', K pv s' ∧ GoesM P C s' a w o pv := by
  have hca : c.args = #[x, y] := by apply Array.ext'; simpa using hargs
  have hct : c.argTypes = #[t, t2] := by apply Array.ext'; simpa using hts
  have hexec : ∀ {v : Value} {w' : World}, (Builtin.append_ #[t, t2] o.type #[a.eval x, a.eval y]).run P w = .ok v w' → (execOp a.eval o).run P w = .ok (.value v) w' := fun {v w'} hr => by
    simp [execOp, ho, resolve, hc, hca, hct, invoke, builtin, hr]
  unfold appendZ at h
  split at h
  · rename_i sz bytes z zs sz' hsl hez
    replace h := intIx_sound h hy
    obtain ⟨kl, n, en, h⟩ := h
    split at h
    · obtain ⟨⟨h0, h1⟩, h⟩ := h
      obtain ⟨k2, hk2⟩ := Option.ne_none_iff_exists'.1 hz2
      have hu2 := (known_any ht2 (.inr (.inr (.inr (.inl hz2))))).ik k2 hk2
      have hkn := known_any ht (.inl (by rw [hsl]; simp))
      obtain ⟨hu, hsz0, ie, hie, hs, hby, ⟨hb0, hb1⟩, zv, hzv, hzs, hzo⟩ := hkn.slice _ _ hsl
      have hzo := hzo (by rw [hez]; simp)
      obtain ⟨y1, y2⟩ := zeroOkC_rep (I := I) (w := w) hzo
      subst hby
      have hxv : a.eval x = .slice none 0 0 := hx
      have hnn : n ≤ 2 ^ 46 := by
        have : n * 1 ≤ n * (ie.bytes : Int) := Int.mul_le_mul_of_nonneg_left (by omega) (by omega)
        omega
      have hw := wrap_small (n := n) h0 (by omega)
      have hnb : n.toNat * ie.bytes ≤ 2 ^ 46 := by
        have : ((n.toNat * ie.bytes : Nat) : Int) = n * ie.bytes := by rw [Int.natCast_mul, Int.toNat_of_nonneg h0]
        omega
      by_cases hn0 : n = 0
      · subst hn0
        obtain ⟨s', L', g1, g2, g3⟩ := newNil h hi
        refine ⟨_, s', g1, goesM_run (hexec ?_) g2 g3⟩
        rw [hxv, en]
        unfold Builtin.append_
        simp [Sem.run_bind, run_underlying hu, run_underlying hu2, run_size hie, hs, asInt, asIntOf, hw, run_info hie]
      · obtain ⟨cap, h3, h4⟩ := choose_cap (P := P) (w := w) (0 + n.toNat) 0 ti.elem (by omega)
        have hrl : ti.ez.length = sz := by rw [← y1]; simpa using hzs
        obtain ⟨s', L', e1, e2, e3⟩ := newArr (w1 := { w with drawn := w.drawn + 1 }) (cap := cap) (e := ti.elem) (cells := #[] ++ Builtin.zeroCells zv.cells n.toNat ++ Builtin.zeroCells zv.cells (cap - (0 + n.toNat))) h hi ⟨rfl, rfl, rfl, ⟨rfl, fun _ => Nat.le_succ _⟩⟩ (by simp; omega) (by
            simp only [Array.size_append, zeroCells_size, hzs, List.size_toArray, List.length_nil]
            rw [Nat.zero_add, ← Nat.add_mul]; exact Nat.mul_le_mul_right _ (by omega)) (fun i r hr => by
          have := List.eq_of_mem_replicate (List.mem_of_getElem? hr); rw [this]; exact hrl) (fun i r j c hr hcc => by
          have hrr := List.eq_of_mem_replicate (List.mem_of_getElem? hr)
          subst hrr
          have hi' : i < n.toNat := by have := (List.getElem?_eq_some_iff.1 hr).1; simpa using this
          have hj : j < sz := by rw [← hrl]; exact (List.getElem?_eq_some_iff.1 hcc).1
          have hjz : j < zv.cells.size := by omega
          have hz := zero_row hzs hi' hj
          have hlt : i * sz + j < n.toNat * sz := by
            have : (i + 1) * sz ≤ n.toNat * sz := Nat.mul_le_mul_right _ hi'
            rw [Nat.add_mul] at this; omega
          refine ⟨zv.cells[j], ?_, y2 j c _ hcc (by simp [hjz])⟩
          rw [Array.getElem?_append_left (by simp [zeroCells_size, hzs]; exact hlt)]
          have hz' : (Builtin.zeroCells zv.cells n.toNat)[i * sz + j]? = zv.cells[j]? := by
            unfold Builtin.zeroCells
            rw [hzs] at hz ⊢
            exact hz
          rw [Array.empty_append, hz']
          exact Array.getElem?_eq_getElem hjz)
        refine ⟨_, s', e1, goesM_run (v := .slice (some ⟨w.heap.size, 0, none⟩) (0 + n.toNat) cap) (hexec ?_) e2 (by have e4 := e3; rw [List.length_replicate] at e4; rw [Nat.zero_add]; exact e4)⟩
        have hbig : ¬ n * (ie.bytes : Int) > 2 ^ 48 := by omega
        have hnext : ¬ Builtin.nextslicecap (0 + n.toNat) 0 * ie.bytes > 2 ^ 48 := by
          have : Builtin.nextslicecap (0 + n.toNat) 0 = 0 + n.toNat := by unfold Builtin.nextslicecap; rw [if_pos (by omega)]
          rw [this, Nat.zero_add]; omega
        have hmul : ¬ n.toNat * sz = 0 := by
          intro e0; rcases Nat.mul_eq_zero.1 e0 with e0 | e0 <;> omega
        rw [hxv, en]
        unfold Builtin.append_
        simp only [List.getElem?_toArray, List.getElem?_cons_zero, List.getElem?_cons_succ, Sem.run_bind, run_underlying hu, run_underlying hu2, Result.andThen_ok, run_size hie, hs, Sem.run_pure, if_true, asInt, asIntOf, hw, Sem.run_ite, run_info hie]
        rw [if_neg (by omega)]
        simp only [Sem.run_pure, Result.andThen_ok, Sem.run_bind, run_info hie, Sem.run_ite, if_neg hbig]
        rw [if_neg (by omega), if_neg (by intro ⟨h, _⟩; have : IntKind.i64.max = 9223372036854775807 := rfl; omega)]
        simp only [Sem.run_pure, Result.andThen_ok, Sem.run_bind, run_info hie, Sem.run_ite, if_neg hnext, h4, run_askRoom, Builtin.firstCells, Bool.not_true, Bool.false_eq_true, if_false, if_neg hmul, zeroValue, hzv, newRow, run_newObj]
        rfl
    · exact h.elim
  · exact h.elim

theorem capM_goes {o : Oper} {c : Call} {x : Operand} {t : TypeId} {ti : TI} (ht : tiOk P t ti = true) (hi : Inv C L I s a w) (ho : o.op = .call c) (hc : c.callee = .builtin .cap) (hargs : c.args.toList = [x]) {ts : List TypeId} (hts : c.argTypes.toList = t :: ts) {px : PV} {K : PV → St → Prop}
    (hx : RepP L s.heap I w (a.eval x) px) (h : capM s.heap ti px fun v => K v s) : ∃ pv s', K pv s' ∧ GoesM P C s' a w o pv := by
  have hca : c.args = #[x] := by apply Array.ext'; simpa using hargs
  have hat : c.argTypes[0]? = some t := by rw [← Array.getElem?_toList, hts]; rfl
  have key : ∀ {sz b : Nat} {base : Option Addr} {n cp : Nat}, ti.slice = some (sz, b) → a.eval x = .slice base n cp → K (.one (.c (.int .i64 cp))) s → ∃ pv s', K pv s' ∧ GoesM P C s' a w o pv := fun {sz b base n cp} hsl hv h => by
    have hu := ((known_any ht (.inl (by rw [hsl]; simp))).slice _ _ hsl).1
    refine ⟨_, s, h, goesM_run (v := .int .i64 cp) ?_ hi (RepC.int .i64 _)⟩
    simp [execOp, ho, resolve, hc, hca, invoke, builtin, hv, Builtin.cap_, hat, run_underlying hu, goInt]
  unfold capM at h
  split at h
  · rename_i p _ hsl
    have hv : a.eval x = .slice none 0 0 := hx
    exact key (cp := 0) hsl hv (by simpa using h)
  · rename_i p sz es hsl
    have hv : RepC I w (a.eval x) (.slice sz es) := hx
    generalize a.eval x = v at hv key
    cases hv with
    | nil _ => exact key hsl rfl (h 0 (by simp))
    | empty b cap _ => exact key hsl rfl (h cap (by simp))
    | slice b off cap _ n _ vs hI hn hcap hsz hc hrc => exact key hsl rfl (h cap (by omega))
  · rename_i p k hsl
    split at h
    · rename_i sz rows hf
      obtain ⟨_, _, g1, g2⟩ := hx
      rw [hf] at g1; cases g1
      have ho' := hi.heap.ob k _ hf
      cases hbk : L.blk k with
      | none =>
        simp only [RepO, hbk] at ho'
        simp only [hbk] at g2
        subst ho'
        exact key hsl g2 (h 0 (by simp))
      | some b =>
        simp only [RepO, hbk] at ho'
        simp only [hbk] at g2
        exact key hsl g2 (h _ ho'.1)
    · exact h.elim
  · exact h.elim

theorem setOb_id : ∀ {h : Heap} {k : Nat} {o : Ob}, find h k = some o → setOb h k o = h
  | [], _, _, _ => rfl
  | (a, o') :: h, k, o, hf => by
    simp only [find] at hf
    simp only [setOb]
    cases hb : Nat.beq a k with
    | true => simp only [hb] at hf ⊢; cases hf; rfl
    | false => simp only [hb] at hf ⊢; rw [setOb_id hf]
theorem clearRows_len {rows : List (List CV)} {off l : Nat} {z : List CV} (h : off + l ≤ rows.length) : (clearRows rows off l z).length = rows.length := by
  simp [clearRows]; omega
theorem clearRows_none (rows : List (List CV)) (off : Nat) (z : List CV) : clearRows rows off 0 z = rows := by simp [clearRows]
theorem clearRows_get {rows : List (List CV)} {off l : Nat} {z : List CV} (h : off + l ≤ rows.length) (i : Nat) : (clearRows rows off l z)[i]? = if off ≤ i ∧ i < off + l then some z else rows[i]? := by
  unfold clearRows
  have h1 : (rows.take off).length = off := by simp; omega
  by_cases h2 : i < off
  · rw [List.getElem?_append_left (by omega), if_neg (by omega), List.getElem?_take, if_pos h2]
  · rw [List.getElem?_append_right (by omega), h1]
    by_cases h3 : i < off + l
    · rw [List.getElem?_append_left (by simp; omega), if_pos (by omega)]
      simp [List.getElem?_replicate]; omega
    · rw [List.getElem?_append_right (by simp; omega), if_neg (by omega), List.length_replicate, List.getElem?_drop]
      congr 1; omega
theorem Inv.writeZero {k b sz off l : Nat} {rows : List (List CV)} {z : List CV} {zv : Array Value} (hi : Inv C L I s a w) (hfd : find s.heap k = some (.arr sz rows)) (hbk : L.blk k = some b) (hol : off + l ≤ rows.length)
    (hz : zv.size = sz) (hzl : z.length = sz) (hzr : ∀ (i : Nat) (y : CV) (v : Value), z[i]? = some y → zv[i]? = some v → RepC I w v y) :
    ∃ w', (storeCells ⟨b, off * sz, none⟩ (Builtin.zeroCells zv l).toList 0).run P w = .ok () w' ∧ Inv C L I ⟨s.regs, setOb s.heap k (.arr sz (clearRows rows off l z))⟩ a w' := by
  have ho := hi.heap.ob k _ hfd
  simp only [RepO, hbk] at ho
  obtain ⟨h0, hrl, cur, e, fr, g2, g6, g3, g5⟩ := ho
  have hsz : (Builtin.zeroCells zv l).size = l * sz := by simp [Builtin.zeroCells, hz]
  have hall : ∀ v ∈ (Builtin.zeroCells zv l).toList, oneCell v := fun v hm => by
    obtain ⟨i, hi', rfl⟩ := List.mem_iff_getElem.1 hm
    have hil : i < l * sz := by rw [← hsz]; simpa using hi'
    have hs0 : 0 < sz := by rcases Nat.eq_zero_or_pos sz with h | h; · rw [h] at hil; omega
                            · exact h
    have hm : i % sz < sz := Nat.mod_lt _ hs0
    have hel : (Builtin.zeroCells zv l).toList[i]'hi' = zv[i % sz]'(by omega) := by
      simp only [Builtin.zeroCells, hz]
      simp
      rw [getElem!_pos zv (i % sz) (by omega)]
    rw [hel]
    exact (hzr (i % sz) z[i % sz] _ (List.getElem?_eq_getElem (by omega)) (Array.getElem?_eq_getElem (by omega))).oneCell
  have hfit : off * sz + l * sz ≤ cur.size := by
    have h1 : (off + l) * sz ≤ L.cap k * sz := Nat.mul_le_mul_right _ (by omega)
    rw [Nat.add_mul] at h1; omega
  obtain ⟨w', h1, h2⟩ := run_storeCells (P := P) (o := off * sz) (Builtin.zeroCells zv l).toList 0 w cur e fr g2 (by rw [Array.length_toList, hsz]; omega) g3 hall
  obtain ⟨cur', q1, q2, q3⟩ := h2.row cur e fr g2
  refine ⟨w', h1, hi.writeOb (w' := w') (o' := .arr sz (clearRows rows off l z)) hfd hbk (by simp [Ob.shape, clearRows_len hol]) h2.size h2.other h2.os h2.tape h2.output (fun hf hc => ?_)⟩
  simp only [RepO, hbk]
  refine ⟨by rw [clearRows_len hol]; exact h0, fun i r' hr' => ?_, cur', e, fr, q1, by rw [q2]; exact g6, fun o ho => ?_, fun i r' j c h3 h4 => ?_⟩
  · rw [clearRows_get hol] at hr'
    split at hr'
    · cases hr'; exact hzl
    · exact hrl i r' hr'
  · have : w'.frozen? ⟨b, o, none⟩ = w.frozen? ⟨b, o, none⟩ := by simp [World.frozen?, q1, g2]
    rw [this]; exact g3 o (by rw [← q2]; exact ho)
  · rw [q3, Array.length_toList, hsz, Nat.add_zero]
    rw [clearRows_get hol] at h3
    by_cases e1 : off ≤ i ∧ i < off + l
    · rw [if_pos e1] at h3
      cases h3
      have hj : j < sz := by rw [← hzl]; exact (List.getElem?_eq_some_iff.1 h4).1
      have p1 : off * sz ≤ i * sz := Nat.mul_le_mul_right _ e1.1
      have p2 : (i + 1) * sz ≤ (off + l) * sz := Nat.mul_le_mul_right _ e1.2
      rw [Nat.add_mul, Nat.add_mul] at p2
      rw [if_pos (by omega)]
      have p3 : i * sz + j - off * sz = (i - off) * sz + j := by rw [Nat.sub_mul]; omega
      rw [p3, Array.getElem?_toList]
      have hzz := zero_row (z := zv) (n := l) hz (i := i - off) (j := j) (by omega) hj
      have hzz' : (Builtin.zeroCells zv l)[(i - off) * sz + j]? = zv[j]? := by
        unfold Builtin.zeroCells
        rw [hz] at hzz ⊢
        exact hzz
      rw [hzz']
      have hjv : j < zv.size := by omega
      exact ⟨zv[j], Array.getElem?_eq_getElem hjv, hc _ _ (hzr j c zv[j] h4 (Array.getElem?_eq_getElem hjv))⟩
    · rw [if_neg e1] at h3
      have hj : j < sz := by rw [← hrl i r' h3]; exact (List.getElem?_eq_some_iff.1 h4).1
      have hout : ¬ (off * sz ≤ i * sz + j ∧ i * sz + j < off * sz + l * sz) := by
        intro ⟨p1, p2⟩
        rcases Nat.lt_or_ge i off with hlt | hge
        · have : (i + 1) * sz ≤ off * sz := Nat.mul_le_mul_right _ hlt
          rw [Nat.add_mul] at this; omega
        · have : (off + l) * sz ≤ i * sz := Nat.mul_le_mul_right _ (by omega)
          rw [Nat.add_mul] at this; omega
      rw [if_neg hout]
      obtain ⟨v, h5, h6⟩ := g5 i r' j c h3 h4
      exact ⟨v, h5, hc _ _ h6⟩

theorem clearM_goes {o : Oper} {c : Call} {x : Operand} {t : TypeId} {ti : TI} (ht : tiOk P t ti = true) (hi : Inv C L I s a w) (ho : o.op = .call c) (hc : c.callee = .builtin .clear) (hargs : c.args.toList = [x]) (hts : c.argTypes.toList = [t]) {px : PV} {K : PV → St → Prop}
    (hx : RepP L s.heap I w (a.eval x) px) (h : clearM ti s px K) : ∃ pv s', K pv s' ∧ GoesM P C s' a w o pv := by
  have hca : c.args = #[x] := by apply Array.ext'; simpa using hargs
  have hct : c.argTypes = #[t] := by apply Array.ext'; simpa using hts
  have hexec : ∀ {v : Value} {w' : World}, (Builtin.clear_ #[t] o.type #[a.eval x]).run P w = .ok v w' → (execOp a.eval o).run P w = .ok (.value v) w' := fun {v w'} hr => by
    simp [execOp, ho, resolve, hc, hca, hct, invoke, builtin, hr]
  have htup : ∀ {L' : Lay} {H' : Heap} {w' : World}, RepP L' H' I w' (.tuple #[]) (.tup []) := ⟨#[], rfl, rfl, fun i p v h => by simp at h⟩
  unfold clearM at h
  split at h
  case h_2 => exact h.elim
  rename_i sz bytes z zs hsl hez
  obtain ⟨hu, hsz0, ie, hie, hs, hby, ⟨hb0, hb1⟩, zv, hzv, hzs, hzo⟩ := (known_any ht (.inl (by rw [hsl]; simp))).slice _ _ hsl
  have hzo := hzo (by rw [hez]; simp)
  rw [hez] at hzo
  obtain ⟨y1, y2⟩ := zeroOkC_rep (I := I) (w := w) hzo
  have none' : ∀ {q : Option Addr} {n cap : Nat}, a.eval x = .slice q n cap → (q = none ∨ n = 0) → (Builtin.clear_ #[t] o.type #[a.eval x]).run P w = .ok (.tuple #[]) w := fun {q n cap} e hq => by
    rw [e]
    rcases hq with rfl | rfl
    · simp [Builtin.clear_, run_underlying hu]
    · cases q <;> simp [Builtin.clear_, run_underlying hu]
  have main : ∀ {k off l : Nat} {rows : List (List CV)}, find s.heap k = some (.arr sz rows) → off + l ≤ rows.length → (match L.blk k with
      | none => a.eval x = .slice none 0 0
      | some b => ∃ q cp, (0 < l → q = off * sz) ∧ a.eval x = .slice (some ⟨b, q, none⟩) l cp) → K (.tup []) ⟨s.regs, setOb s.heap k (.arr sz (clearRows rows off l (z :: zs)))⟩ → ∃ pv s', K pv s' ∧ GoesM P C s' a w o pv := fun {k off l rows} hf hol hv h => by
    have same : clearRows rows off l (z :: zs) = rows → ∃ pv s', K pv s' ∧ Inv C L I s' a w ∧ pv = .tup [] := fun e => by
      rw [e, setOb_id hf] at h
      exact ⟨_, _, h, hi, rfl⟩
    cases hbk : L.blk k with
    | none =>
      simp only [hbk] at hv
      have ho' := hi.heap.ob k _ hf
      simp only [RepO, hbk] at ho'
      subst ho'
      simp only [List.length_nil] at hol
      obtain ⟨pv, s', e1, e2, rfl⟩ := same (by obtain rfl : l = 0 := by omega
                                               exact clearRows_none _ _ _)
      exact ⟨_, s', e1, goesM_run (hexec (none' hv (.inl rfl))) e2 htup⟩
    | some b =>
      simp only [hbk] at hv
      obtain ⟨q, cp, hq, hv⟩ := hv
      rcases Nat.eq_zero_or_pos l with hl0 | hl0
      · subst hl0
        obtain ⟨pv, s', e1, e2, rfl⟩ := same (clearRows_none _ _ _)
        exact ⟨_, s', e1, goesM_run (hexec (none' hv (.inr rfl))) e2 htup⟩
      · have hq := hq hl0
        subst hq
        obtain ⟨w', h1, h2⟩ := hi.writeZero (P := P) (z := z :: zs) (zv := zv.cells) hf hbk hol hzs (by rw [← hzs, ← y1]; simp) (fun i y v e1 e2 => y2 i y v e1 (by simpa using e2))
        refine ⟨_, _, h, goesM_run (hexec ?_) h2 htup⟩
        obtain ⟨m, rfl⟩ : ∃ m, l = m + 1 := ⟨l - 1, by omega⟩
        rw [hv]
        have hzr : (zeroValue ti.elem).run P w = .ok zv w := by simp only [zeroValue, Sem.run_bind, run_info hie, Result.andThen_ok, hzv]; rfl
        simp [Builtin.clear_, run_underlying hu, hzr, h1]
  split at h
  · exact ⟨_, s, h, goesM_run (hexec (none' (q := none) hx (.inl rfl))) hi htup⟩
  · rename_i k off l
    split at h
    · rename_i sz' rows hf
      split at h
      · rename_i hb
        have e := beq_iff.1 hb
        subst e
        simp only [forceH_eq] at h
        obtain ⟨sz2, rows2, g1, g3, g2⟩ := hx
        rw [hf] at g1; cases g1
        refine main hf g3 ?_ h
        cases hbk : L.blk k with
        | none => simp only [hbk] at g2; exact g2
        | some b =>
          simp only [hbk] at g2
          obtain ⟨q, _, q2, q3⟩ := g2
          exact ⟨q, _, fun h => q2 (.inl h), q3⟩
      · exact h.elim
    · exact h.elim
  · rename_i k
    split at h
    · rename_i sz' rows hf
      split at h
      · rename_i hb
        have e := beq_iff.1 hb
        subst e
        simp only [forceH_eq] at h
        obtain ⟨sz2, rows2, g1, g2⟩ := hx
        rw [hf] at g1; cases g1
        refine main (off := 0) hf (by omega) ?_ h
        cases hbk : L.blk k with
        | none => simp only [hbk] at g2; exact g2
        | some b => simp only [hbk] at g2; exact ⟨0, _, fun _ => by omega, g2⟩
      · exact h.elim
    · exact h.elim
  · exact h.elim

theorem opM_sound {tt : TT} (hT : TOK P tt) {o : Oper} {K : PV → St → Prop} (hi : Inv C L I s a w) (h : opM P tt s o K) : ∃ pv s', K pv s' ∧ GoesM P C s' a w o pv := by
  have fall : ∀ {s1 : St} {L1 : Lay} {I1 : Nat → Prop}, Inv C L1 I1 s1 a w → opQ P tt s1 o (fun v => K v s1) → ∃ pv s', K pv s' ∧ GoesM P C s' a w o pv := fun {s1 L1 I1} hi1 h => by
    obtain ⟨pv, h1, h2⟩ := opQ_sound hT hi1 h
    exact ⟨pv, s1, h1, h2.m⟩
  cases hop : o.op <;> simp only [opM, hop] at h
  case assign x =>
    replace h := opd_sound hi h
    obtain ⟨v, h, hv⟩ := h
    have hrun : (execOp a.eval o).run P w = .ok (.value (a.eval x)) w := by simp only [execOp, hop]; rfl
    unfold assignM at h
    split at h
    · split at h
      · obtain ⟨d, hd, h⟩ := dstK_iff h
        have e : a.eval x = .slice none 0 0 := hv
        obtain ⟨s', L', h1, h2, h3⟩ := newNil h hi
        exact ⟨_, s', h1, goesM_run (by rw [hrun, e]) h2 h3⟩
      · rename_i k
        split at h
        · exact ⟨_, s, h, goesM_run hrun hi hv⟩
        obtain ⟨d, hd, h⟩ := dstK_iff h
        obtain ⟨o', ho'⟩ := find_key (L := L) (I := I) (w := w) (H := s.heap) (x := .rs k) rfl hv
        obtain ⟨s', L', h1, h2, h3⟩ := renK_inv h hi ⟨o', ho'⟩
        exact ⟨_, s', h1, goesM_run hrun h2 (h3.1 _ hv)⟩
      · rename_i k
        split at h
        · exact ⟨_, s, h, goesM_run hrun hi hv⟩
        obtain ⟨d, hd, h⟩ := dstK_iff h
        obtain ⟨o', ho'⟩ := find_key (L := L) (I := I) (w := w) (H := s.heap) (x := .ds k) rfl hv
        obtain ⟨s', L', h1, h2, h3⟩ := renK_inv h hi ⟨o', ho'⟩
        exact ⟨_, s', h1, goesM_run hrun h2 (h3.2 _ hv)⟩
      · rename_i k off l
        split at h
        case h_2 => exact ⟨_, s, h, goesM_run hrun hi hv⟩
        rename_i hoff
        have e0 := beq_iff.1 hoff
        subst e0
        cases h with
        | r h => exact ⟨_, s, h, goesM_run hrun hi hv⟩
        | x h =>
          obtain ⟨d, hd, h⟩ := dstK_iff h
          obtain ⟨s', L', h1, h2, h3⟩ := shrinkK_inv h hi hv
          exact ⟨_, s', h1, goesM_run hrun h2 h3⟩
      · exact ⟨_, s, h, goesM_run hrun hi hv⟩
    · exact ⟨_, s, h, goesM_run hrun hi hv⟩
  case alloc t =>
    obtain ⟨d, hd, h⟩ := dstK_iff h
    cases hTB : Nat.beq t TB with
    | true =>
      simp only [hTB] at h
      have eT : t = TB := beq_iff.1 hTB
      unfold bldM at h
      split at h
      · rename_i hz hB
        have hkn := known_any (hT t) (.inr (.inr (.inr (.inr (.inr (.inr (.inr (.inl (by rw [hz]; simp)))))))))
        obtain ⟨i, hinf, hs, _, hzz⟩ := hkn.info
        obtain ⟨zv, hzv, hzok⟩ := hzz (by rw [hz]; simp)
        obtain ⟨z1, z2⟩ := zeroOk_rep (L := L) (s := s) (I := I) (w := w) hzok
        rw [hz] at z1 z2 hzok
        have z3 : zv.cells.toList.length = 2 := z1
        have hcells : zv.cells = #[.pointer none, .slice none 0 0] := by
          obtain ⟨l, hl⟩ : ∃ l, zv.cells = ⟨l⟩ := ⟨zv.cells.toList, rfl⟩
          rw [hl] at z3 hzok ⊢
          match l, z3, hzok with
          | [a, b], _, hzok =>
            obtain ⟨rfl, rfl⟩ := zeroOk_nil hzok
            rfl
        have hrun : (execOp a.eval o).run P w = .ok (.value (.pointer (some ⟨w.heap.size, 0, none⟩))) (w.alloc (.cells zv.cells t)) := by
          simp only [execOp, hop, Instr.alloc, zeroValue, Sem.run_bind, run_info hinf, hzv, Sem.run_pure, Result.andThen_ok, newVar, newRow, run_newObj]
          rfl
        rw [hcells, eT] at hrun
        obtain ⟨s2, L2, h1, h2, h3⟩ := newBld h hi hB
        exact ⟨_, s2, h1, goesM_run hrun h2 h3⟩
      · exact h.elim
    | false =>
      simp only [hTB] at h
      split at h
      · exact h.elim
      · rename_i sz hz
        have hkn := known_any (hT t) (.inr (.inr (.inr (.inr (.inr (.inr (.inr (.inl (by rw [hz]; simp)))))))))
        obtain ⟨i, hinf, hs, _, hzz⟩ := hkn.info
        obtain ⟨zv, hzv, hzok⟩ := hzz (by rw [hz]; simp)
        obtain ⟨z1, z2⟩ := zeroOk_rep (L := L) (s := s) (I := I) (w := w) hzok
        rw [hz] at z1 z2
        have z3 : zv.cells.size = 1 := by simpa using z1
        have z4 : zv.cells[0]'(by omega) = .slice none 0 0 := z2 0 (.nil sz) _ rfl (by simp [z3])
        obtain ⟨s1, L1, h, hi1, hr1⟩ := newNil h hi
        refine boxM_goes (cells := zv.cells) (e := t) hi1 ⟨by simpa using z3, fun i x v h1 h2 => ?_⟩ ?_ h
        · cases i with
          | succ i => simp at h1
          | zero =>
            simp at h1
            subst h1
            rw [Array.getElem?_eq_getElem (by omega), z4] at h2
            cases h2
            exact hr1
        · simp only [execOp, hop, Instr.alloc, zeroValue, Sem.run_bind, run_info hinf, hzv, Sem.run_pure, Result.andThen_ok, newVar, newRow, run_newObj]
          rfl
      · rename_i z zs _ hz
        have hkn := known_any (hT t) (.inr (.inr (.inr (.inr (.inr (.inr (.inr (.inl (by rw [hz]; simp)))))))))
        obtain ⟨i, hinf, hs, _, hzz⟩ := hkn.info
        obtain ⟨zv, hzv, hzok⟩ := hzz (by rw [hz]; simp)
        obtain ⟨z1, z2⟩ := zeroOk_rep (L := L) (s := s) (I := I) (w := w) hzok
        rw [hz] at z1 z2
        refine boxM_goes (cells := zv.cells) (e := t) hi ⟨by simpa using z1, fun i x v h1 h2 => z2 i x v h1 (by simpa using h2)⟩ ?_ h
        simp only [execOp, hop, Instr.alloc, zeroValue, Sem.run_bind, run_info hinf, hzv, Sem.run_pure, Result.andThen_ok, newVar, newRow, run_newObj]
        rfl
  case box t x =>
    obtain ⟨d, hd, h⟩ := dstK_iff h
    replace h := opd_sound hi h
    obtain ⟨v, h, hv⟩ := h
    split at h
    · rename_i xs hxs
      have hlive : allLive xs = true := by
        unfold boxM at h
        split at h
        · assumption
        · exact h.elim
      refine boxM_goes (cells := (a.eval x).cells) (e := t) hi (cellsX_rep hxs (Or.inl hlive) hv) ?_ h
      simp only [execOp, hop, Instr.box, Sem.run_bind, newVar, newRow, run_newObj, Result.andThen_ok, Sem.run_pure]
      rfl
    · exact h.elim
  case buildSlice t len ps =>
    split at h
    · rename_i sz bb hsl hlen hbig
      have hkn := known_any (hT t) (.inl (by rw [hsl]; simp))
      obtain ⟨hu, hsz0, ie, hie, hs, hby, _, zv, hzv, hzs, _⟩ := hkn.slice _ _ hsl
      replace h := partsK_sound hi h
      obtain ⟨pvs0, h, hps0⟩ := h
      have flat : buildF tt t len sz ps.toList o pvs0 s K → ∃ pv s', K pv s' ∧ GoesM P C s' a w o pv := fun h => by
        unfold buildF at h
        replace h := frzKeys_inv h hi
        obtain ⟨s1, I1, h, hi1, _⟩ := h
        replace h := partsK_sound hi1 h
        obtain ⟨pvs, h, hps⟩ := h
        split at h
        · rename_i rows hrows
          obtain ⟨d, hd, h⟩ := dstK_iff h
          have hlen' := beq_iff.1 hlen
          simp only [hsl, Option.getD_some] at hbig
          have hbig' := Nat.le_of_ble_eq_true hbig
          have hrl : ∀ {i : Nat} {ps : List (Nat × PV)} {rows : List (List CV)}, listRows sz i ps = some rows → rows.length = ps.length := by
            intro i ps
            induction ps generalizing i with
            | nil => intro rows h; simp only [listRows, Option.some.injEq] at h; subst h; rfl
            | cons p ps ih =>
              intro rows h
              obtain ⟨j, v⟩ := p
              simp only [listRows] at h
              split at h
              · rename_i _ _ hr
                split at h
                · cases h; simp [ih hr]
                · cases h
              · cases h
          have hpl : ∀ {pv : List (Nat × PV)} {vs : List (Nat × Value)}, PartsRep L s1.heap I1 w pv vs → pv.length = vs.length := by
            intro pv
            induction pv with
            | nil => intro vs h; cases vs with | nil => rfl | cons _ _ => exact h.elim
            | cons p pv ih => intro vs h; cases vs with | nil => exact h.elim | cons q vs => obtain ⟨_, _, h⟩ := h; simp [ih h]
          have hn : rows.length = len := by rw [hrl hrows, hpl hps, List.length_map]; exact hlen'.symm
          let zero : Array Value := if len * sz = 0 then #[] else zv.cells
          have hzsz : ((Array.range (len * sz)).map (zero[· % zero.size]!)).size = len * sz := by simp
          obtain ⟨out, g1, g2, g3, g4, g5⟩ := fill_rows (L := L) (s := s1) (I := I1) (w := w) hsz0 (cells := (Array.range (len * sz)).map (zero[· % zero.size]!)) hrows hps (by rw [hzsz, Nat.zero_add, hn]; exact Nat.le_refl _)
          obtain ⟨s', L', e1, e2, e3⟩ := newArr (w1 := w) (cap := len) (e := (tt t).elem) (cells := out) h hi1 ⟨rfl, rfl, rfl, .rfl⟩ (by omega) (by rw [g2, hzsz]; exact Nat.le_refl _) g4 (fun i r j c h1 h2 => by have := g5 i r j c h1 h2; rwa [Nat.zero_add] at this)
          refine ⟨_, s', e1, goesM_run (v := .slice (some ⟨w.heap.size, 0, none⟩) len len) (w' := w.alloc (.cells out (tt t).elem)) ?_ e2 (by rw [hn] at e3; exact e3)⟩
          have hparts : (ps.map fun (x : Nat × Operand) => (x.1, a.eval x.2)).toList = ps.toList.map fun p => (p.1, a.eval p.2) := by simp
          simp only [execOp, hop, Instr.buildSlice, Sem.run_bind, run_underlying hu, Result.andThen_ok, run_size hie, hs, Sem.run_ite]
          rw [if_neg (by omega)]
          by_cases h0 : len * sz = 0
          · simp only [h0, if_true, Sem.run_pure, Result.andThen_ok, Sem.run_bind]
            simp only [h0, if_true, zero] at g1
            simp only [hparts]
            rw [g1]
            simp only [newRow, Sem.run_bind, run_newObj, Result.andThen_ok, Sem.run_pure]
            rfl
          · simp only [h0, if_false, Sem.run_pure, Result.andThen_ok, Sem.run_bind, zeroValue, run_info hie, hzv]
            simp only [h0, if_false, zero] at g1
            simp only [hparts]
            rw [g1]
            simp only [newRow, Sem.run_bind, run_newObj, Result.andThen_ok, Sem.run_pure]
            rfl
        · exact h.elim
      split at h
      · rename_i v0 _
        obtain ⟨m, _, h⟩ := h
        replace h : buildF tt t len sz ps.toList o [(0, v0)] s K ∨ ∃ m : Bool, match v0.cellsX with
          | some xs => absK m xs s fun ys s => match lenIs ys sz with
            | true => dstK o fun k => newK k (.deep true sz [ys]) s fun s => K (.one (.ds k)) s
            | false => False
          | none => False := by
          match m, h with
          | some true, h => exact .inr ⟨false, h⟩
          | none, h => exact .inr ⟨true, h⟩
          | some false, h => exact .inl h
        rcases h with h | ⟨m, h⟩
        · exact flat h
        · split at h
          · rename_i xs hxs
            unfold absK at h
            split at h
            · rename_i hlive
              -- one part
              have hpl : ∀ {pv : List (Nat × PV)} {vs : List (Nat × Value)}, PartsRep L s.heap I w pv vs → pv.length = vs.length := by
                intro pv
                induction pv with
                | nil => intro vs h; cases vs with | nil => rfl | cons _ _ => exact h.elim
                | cons p pv ih => intro vs h; cases vs with | nil => exact h.elim | cons q vs => obtain ⟨_, _, h⟩ := h; simp [ih h]
              have hlen' := beq_iff.1 hlen
              have hl1 := hpl hps0
              simp only [List.length_map, List.length_cons, List.length_nil] at hl1
              obtain ⟨⟨p0, x0⟩, hp0⟩ : ∃ p, ps.toList = [p] := List.length_eq_one_iff.1 hl1.symm
              rw [hp0] at hps0 hlen'
              obtain ⟨rfl, hv0, _⟩ := hps0
              simp only [List.length_cons, List.length_nil] at hlen'
              subst hlen'
              have hvr := cellsX_rep hxs (Or.inl hlive) hv0
              obtain ⟨ys, s1, Js, h, hi1, hyl, hyr, hJ, hdj, hback⟩ := absorbK_inv h hi (fun k o hf _ => hf) (a.eval x0).cells.toList (by simp [hvr.1]) (fun i x v h1 h2 => hvr.2 i x v h1 (by simpa using h2))
              split at h
              · rename_i hl
                have hl := lenIs_iff.1 hl
                obtain ⟨d, hd, h⟩ := dstK_iff h
                have hvs : (a.eval x0).cells.size = sz := by rw [hvr.1, ← hyl, hl]
                let cells0 : Array Value := (Array.range (1 * sz)).map (zv.cells[· % zv.cells.size]!)
                have hc0 : cells0.size = sz := by simp [cells0]
                let out : Array Value := (a.eval x0).cells.zipIdx.foldl (fun cs (p : Value × Nat) => cs.setIfInBounds (0 * sz + p.2) p.1) cells0
                have hget : ∀ i, i < sz → out[i]? = (a.eval x0).cells[i]? := fun i hi' => by
                  simp only [out]
                  rw [← Array.foldl_toList]
                  have hzi : (a.eval x0).cells.zipIdx.toList = (a.eval x0).cells.toList.zipIdx := by simp
                  rw [hzi, fold_get (a.eval x0).cells.toList 0 (0 * sz) cells0 i (by simp [hvs, hc0])]
                  simp only [Nat.zero_mul, Nat.add_zero, Nat.zero_add, Array.length_toList, hvs]
                  rw [if_pos (by omega), Nat.sub_zero, Array.getElem?_toList]
                have hosz : out.size = sz := by
                  simp only [out]
                  rw [← Array.foldl_toList, fold_size, hc0]
                obtain ⟨s', L', e1, e2, e3⟩ := newDeep (w1 := w) (cap := 1) (e := (tt t).elem) (cells := out) (Js := Js) (J := fun b => ∃ i, Js i b) h hi1 ⟨rfl, rfl, rfl, .rfl⟩ (by simp) (by rw [hosz, Nat.one_mul]; exact Nat.le_refl _) (fun i r hr => by
                  cases i with
                  | zero => simp at hr; subst hr; exact hl
                  | succ i => simp at hr) (fun i r j c hr hcc => by
                  cases i with
                  | succ i => simp at hr
                  | zero =>
                    simp at hr; subst hr
                    have hj : j < sz := by rw [← hl]; exact (List.getElem?_eq_some_iff.1 hcc).1
                    have hjv : j < (a.eval x0).cells.size := by omega
                    rw [Nat.zero_mul, Nat.zero_add]
                    exact ⟨_, by rw [hget j hj]; exact Array.getElem?_eq_getElem hjv, hyr j c _ hcc (by simp [hjv])⟩) (fun x b hb => ⟨x, hb⟩) hdj (fun b ⟨i, hb⟩ => by
                  obtain ⟨⟨j, o', q1, q2⟩, q3⟩ := hJ i b hb
                  obtain ⟨x1, x2, x3⟩ := hi.heap.own j o' b q1 q2
                  exact ⟨x1, x2, x3, fun j o _ hj => q3 j o hj⟩)
                refine ⟨_, s', e1, goesM_run (v := .slice (some ⟨w.heap.size, 0, none⟩) 1 1) (w' := w.alloc (.cells out (tt t).elem)) ?_ e2 e3⟩
                have hparts : (ps.map fun (x : Nat × Operand) => (x.1, a.eval x.2)).toList = [(0, a.eval x0)] := by simp [hp0]
                have hbig' : ¬ 1 * sz > 16777216 := by
                  simp only [hsl, Option.getD_some] at hbig
                  have := Nat.le_of_ble_eq_true hbig; omega
                have hnot : ¬ ((a.eval x0).cells.size ≠ sz ∨ 0 * sz + (a.eval x0).cells.size > cells0.size) := by omega
                have hfill : Instr.fill (fun i => some (i * sz, sz)) cells0 [(0, a.eval x0)] = some out := by
                  simp only [Instr.fill, Bool.or_eq_true, decide_eq_true_eq, ne_eq]
                  rw [if_neg hnot]
                simp only [execOp, hop, Instr.buildSlice, Sem.run_bind, run_underlying hu, Result.andThen_ok, run_size hie, hs, Sem.run_ite]
                rw [if_neg hbig']
                have h0 : ¬ 1 * sz = 0 := by omega
                simp only [h0, if_false, Sem.run_pure, Result.andThen_ok, Sem.run_bind, zeroValue, run_info hie, hzv]
                simp only [hparts]
                have hfill' : Instr.fill (fun i => some (i * sz, sz)) ((Array.range (1 * sz)).map (zv.cells[· % zv.cells.size]!)) [(0, a.eval x0)] = some out := hfill
                rw [hfill']
                simp only [newRow, Sem.run_bind, run_newObj, Result.andThen_ok, Sem.run_pure]
                rfl
              · exact h.elim
            · exact h.elim
          · exact h.elim
      · exact flat h
    · exact h.elim
  case makeSlice t l c =>
    replace h := opd_sound hi h
    obtain ⟨vl, h, hl⟩ := h
    replace h := opd_sound hi h
    obtain ⟨vc, h, hc⟩ := h
    replace h := intIx_sound h hl
    obtain ⟨kl, nl, el, h⟩ := h
    replace h := intIx_sound h hc
    obtain ⟨kc, nc, ec, h⟩ := h
    split at h
    · rename_i sz bytes hsl
      split at h
      · exact h.elim
      · rename_i z zs hez
        obtain ⟨⟨h0, h1, h2⟩, h⟩ := h
        obtain ⟨d, hd, h⟩ := dstK_iff h
        have hkn := known_any (hT t) (.inl (by rw [hsl]; simp))
        obtain ⟨hu, hsz0, ie, hie, hs, hby, ⟨hb0, hb1⟩, zv, hzv, hzs, hzo⟩ := hkn.slice _ _ hsl
        have hzo := hzo (by rw [hez]; simp)
        obtain ⟨y1, y2⟩ := zeroOkC_rep (I := I) (w := w) hzo
        subst hby
        have hnc : nc ≤ 2 ^ 46 := by
          have : nc * 1 ≤ nc * (ie.bytes : Int) := Int.mul_le_mul_of_nonneg_left (by omega) (by omega)
          omega
        have hwl := wrap_small (n := nl) h0 (by omega)
        have hwc := wrap_small (n := nc) (by omega) (by omega)
        have hcells : (((Array.range (nc.toNat * sz)).map ((if nc.toNat * sz = 0 then (#[] : Array Value) else zv.cells)[· % (if nc.toNat * sz = 0 then (#[] : Array Value) else zv.cells).size]!))).size = nc.toNat * sz := by simp
        have hrl : (tt t).ez.length = sz := by rw [← y1]; simpa using hzs
        obtain ⟨s', L', e1, e2, e3⟩ := newArr (w1 := w) (cap := nc.toNat) (e := (tt t).elem) (cells := (Array.range (nc.toNat * sz)).map ((if nc.toNat * sz = 0 then (#[] : Array Value) else zv.cells)[· % (if nc.toNat * sz = 0 then (#[] : Array Value) else zv.cells).size]!)) h hi ⟨rfl, rfl, rfl, .rfl⟩ (by simp; omega) (by rw [hcells]; exact Nat.le_refl _) (fun i r hr => by
          have := List.eq_of_mem_replicate (List.mem_of_getElem? hr); rw [this]; exact hrl) (fun i r j c hr hcc => by
          have hrr := List.eq_of_mem_replicate (List.mem_of_getElem? hr)
          subst hrr
          have hi' : i < nl.toNat := by have := (List.getElem?_eq_some_iff.1 hr).1; simpa using this
          have hj : j < sz := by rw [← hrl]; exact (List.getElem?_eq_some_iff.1 hcc).1
          have hne : ¬ nc.toNat * sz = 0 := by
            intro e0
            rcases Nat.mul_eq_zero.1 e0 with e0 | e0 <;> omega
          simp only [if_neg hne]
          rw [zero_row hzs (by omega) hj]
          have hjz : j < zv.cells.size := by omega
          exact ⟨zv.cells[j], Array.getElem?_eq_getElem hjz, y2 j c _ hcc (by simp [hjz])⟩)
        refine ⟨_, s', e1, goesM_run (v := .slice (some ⟨w.heap.size, 0, none⟩) nl.toNat nc.toNat) (w' := w.alloc (.cells ((Array.range (nc.toNat * sz)).map ((if nc.toNat * sz = 0 then (#[] : Array Value) else zv.cells)[· % (if nc.toNat * sz = 0 then (#[] : Array Value) else zv.cells).size]!)) (tt t).elem)) ?_ e2 (by have e4 := e3; rw [List.length_replicate] at e4; exact e4)⟩
        have hbig : ¬ (ie.bytes : Int) * nc > 2 ^ 48 := by rw [Int.mul_comm]; omega
        simp only [execOp, hop, el, ec, Instr.makeSlice, Sem.run_bind, run_underlying hu, Result.andThen_ok, asInt, asIntOf, Sem.run_pure, run_info hie, hwl, hwc, Sem.run_ite]
        rw [if_neg (by simp only [Bool.or_eq_true, decide_eq_true_eq, not_or]; omega)]
        simp only [Sem.run_bind, run_askRoom, Result.andThen_ok, run_size hie, hs]
        by_cases hz0 : nc.toNat * sz = 0
        · simp only [hz0, if_true, Sem.run_pure, Result.andThen_ok, Sem.run_bind, newRow, run_newObj]
          rfl
        · simp only [hz0, if_false, Sem.run_pure, Result.andThen_ok, Sem.run_bind, zeroValue, run_info hie, hzv, newRow, run_newObj]
          rfl
    · exact h.elim
  case binOp op t x y yt =>
    split at h
    · rename_i sl hsl
      replace h := opd_sound hi h
      obtain ⟨v, h, hv⟩ := h
      obtain ⟨base, n, c, hb, h⟩ := nilM_sound hi h hv
      obtain ⟨⟨sz, by'⟩, rfl⟩ : ∃ p, sl = p := ⟨sl, rfl⟩
      have hu := ((known_any (hT t) (.inl (by rw [hsl]; simp))).slice _ _ hsl).1
      refine ⟨_, s, h, goesM_run (v := .bool base.isNone) ?_ hi (RepC.bool _)⟩
      have hg : ∀ (X Y : Operand) (u : Value), eqGuard .eql t X Y (.slice base n c) u = pure () := fun X Y u => rfl
      have he : (Op.equal t (.slice base n c) (.slice none 0 0)).run P w = .ok base.isNone w := by
        cases base <;> (unfold Op.equal Op.maxDepth Op.equalIn; simp only [Sem.run_bind, run_underlying hu, Result.andThen_ok, Sem.run_pure, Option.isNone_none, Option.isNone_some])
      have hex : execOp a.eval o = (do let v ← (do eqGuard .eql t x (.const (.slice none 0 0)) (a.eval x) (.slice none 0 0); binOp .eql t (a.eval x) (.slice none 0 0)); pure (.value v)) := by
        simp only [execOp, hop]; rfl
      rw [hex, hb, hg]
      have hbo : binOp .eql t (.slice base n c) (.slice none 0 0) = (do pure (.bool (← Op.equal t (.slice base n c) (.slice none 0 0)))) := rfl
      simp only [Sem.run_bind, Sem.run_pure, Result.andThen_ok, hbo, he]
    · exact fall hi h
  case store t x y =>
    obtain ⟨s', h1, h2⟩ := storeM_goes hT hi hop h
    exact ⟨_, s', h1, h2⟩
  case convert src dst x =>
    replace h := opd_sound hi h
    obtain ⟨v, h, hv⟩ := h
    split at h
    · rename_i b hss hu8
      have e := rep_str hv
      have hus := (known_any (hT src) (.inr (.inr (.inr (.inr (.inl hss)))))).str hss
      obtain ⟨el, hud, hue⟩ := (known_any (hT dst) (.inr (.inr (.inr (.inr (.inr (.inl hu8))))))).u8 hu8
      obtain ⟨hsz, h⟩ := h
      obtain ⟨d, hd, h⟩ := dstK_iff h
      exact strBytes_goes (el := el) hi h hsz fun hr => by
        simp only [execOp, hop, e, convert, Sem.run_bind, run_underlying hus, run_underlying hud, run_underlying hue, Result.andThen_ok, hr, Sem.run_pure]
    · rename_i b hss hds _
      have e := rep_str hv
      have hus := (known_any (hT src) (.inr (.inr (.inr (.inr (.inl hss)))))).str hss
      have hud := (known_any (hT dst) (.inr (.inr (.inr (.inr (.inl hds)))))).str hds
      refine ⟨_, s, h, goesM_run (v := .string b) ?_ hi (RepC.str b)⟩
      simp only [execOp, hop, e, convert, Sem.run_bind, run_underlying hus, run_underlying hud, Result.andThen_ok, Sem.run_pure]
    · exact h.elim
    · rename_i hds hu8 hns _ _
      have hud := (known_any (hT dst) (.inr (.inr (.inr (.inr (.inl hds)))))).str hds
      obtain ⟨el, hus, hue⟩ := (known_any (hT src) (.inr (.inr (.inr (.inr (.inr (.inl hu8))))))).u8 hu8
      have hnd0 : ∀ (y : PV) (K : List (List CV) → Prop), rowsOf s.heap 1 y K → y ≠ .one .dead := fun y K hy e => by rw [e] at hy; exact hy
      have hnd := hnd0 _ _ h
      replace h := rowsOf_sound (P := P) hi (by omega) h hv
      obtain ⟨es, cells, ⟨b, hb, h⟩, hlen, hcells, hflat⟩ := h
      refine ⟨_, s, h, goesM_run (v := .string b) ?_ hi (RepC.str b)⟩
      have hr := bytes_run (P := P) hv hns hnd hlen (hcells w rfl) hflat hb
      obtain ⟨base, n, c, ev⟩ : ∃ base n c, a.eval x = .slice base n c := hr.1
      have hr2 := hr.2
      rw [ev] at hr2
      simp only [execOp, hop, ev, Sem.run_bind, run_convert_bytes_string w src dst el base n c hus hue hud, hr2, Result.andThen_ok, Sem.run_pure]
    · exact fall hi h
  case makeFunc fn first captured =>
    cases fn <;> (first | exact fall hi h | skip)
    rename_i f
    simp only [opM] at h
    split at h
    · rename_i hfirst
      replace h := argsK_sound hi h
      obtain ⟨vs, h, hvl, hvr⟩ := h
      have frz : frzKeys 40 (keysPs vs) s (fun s => opQ P tt s o fun v => K v s) → ∃ pv s', K pv s' ∧ GoesM P C s' a w o pv := fun h => by
        replace h := frzKeys_inv h hi
        obtain ⟨s1, I1, h, hi1, _⟩ := h
        exact fall hi1 h
      unfold makeM at h
      split at h
      · rename_i pre k n post hsp
        obtain ⟨m, _, h⟩ := h
        cases m with
        | false => exact frz h
        | true =>
          refine ⟨_, s, h, goesM_run (v := .func (.func f) #[] (captured.map a.eval)) (w' := w) ?_ hi ?_⟩
          · have hfe : first = #[] := by apply Array.ext'; simpa using hfirst
            have hfm : first.map a.eval = #[] := by rw [hfe]; simp
            simp only [execOp, hop, hfm]
            rfl
          · have hvl' : vs.length = captured.size := by rw [hvl]; simp
            obtain ⟨b, cells, q1, q2, q3, q4, q5, q6, q7⟩ := splitCap_rep (L := L) (I := I) (w := w) (captured.map a.eval).toList hsp (by simp [hvl']) (fun i p u h1 h2 => by
              have hil : i < vs.length := (List.getElem?_eq_some_iff.1 h1).1
              have hia : i < captured.toList.length := by omega
              have := hvr i p captured.toList[i] h1 (List.getElem?_eq_getElem hia)
              have hia' : i < captured.size := by simpa using hia
              simp [hia'] at h2
              rw [← h2]
              simpa using this)
            exact ⟨_, cells, b, rfl, q1, q2, q3, by simpa using q4, fun i c u h1 h2 => q5 i c u h1 (by simpa using h2), by simpa using q6, fun i c u h1 h2 => q7 i c u h1 (by simpa using h2)⟩
      · exact frz h
    · exact h.elim
  case call c =>
    split at h
    · rename_i f hc
      replace h := opd_sound hi h
      obtain ⟨pf, h, hpf⟩ := h
      exact callM_goes hi hop hc hpf h
    · rename_i b hc
      unfold restM at h
      split at h
      · split at h
        · rename_i x y t t2 hargs hts
          obtain ⟨d, hd, h⟩ := dstK_iff h
          replace h := opd_sound hi h
          obtain ⟨px, h, hx⟩ := h
          replace h := opd_sound hi h
          obtain ⟨py, h, hy⟩ := h
          split at h
          · rename_i hik
            exact appendZ_goes (hT t) (hT t2) (by rw [hik]; simp) hi hop hc hargs hts hx hy h
          · unfold appendA at h
            split at h
            · split at h
              · rename_i hok
                refine appendD_goes (hT t) ?_ hi hop hc hargs hts hx hy h
                obtain ⟨⟨s2, b2⟩, h2⟩ := Option.isSome_iff_exists.1 hok
                exact ⟨_, ((known_any (hT t2) (.inl (by rw [h2]; simp))).slice _ _ h2).1, fun k h => by cases h⟩
              · exact h.elim
            · exact appendT_goes (hT t) (hT t2) hi hop hc hargs hts hx hy h
            · exact appendM_goes (hT t) (hT t2) hi hop hc hargs hts hx hy h
        · exact h.elim
      · split at h
        · rename_i x t ts hargs hts
          replace h := opd_sound hi h
          obtain ⟨px, h, hx⟩ := h
          exact capM_goes (hT t) hi hop hc hargs hts hx h
        · exact h.elim
      · split at h
        · rename_i x t hargs hts
          replace h := opd_sound hi h
          obtain ⟨px, h, hx⟩ := h
          exact clearM_goes (hT t) hi hop hc hargs hts hx h
        · exact h.elim
      · exact fall hi h
    · exact fall hi h
  all_goals exact fall hi h

end

end Go.Proofs.YtnafogjagbhdbaaDoor.Pi
/- Regions whose order is drawn: their own order serves every order. No statement of the seat is proved here. -/
namespace Go.Proofs.YtnafogjagbhdbaaDoor.Pi
open Go Go.RowKit
set_option linter.unusedVariables false
set_option linter.unusedSimpArgs false

def Ex1 {α : Type} (F : (α → Prop) → Prop) : Prop := ∀ K, F K → ∃ x, K x ∧ ∀ K' : α → Prop, K' x → F K'

theorem ex_pure {α : Type} (x : α) : Ex1 fun K => K x := fun K h => ⟨x, h, fun K' h => h⟩
theorem ex_false {α : Type} : Ex1 fun _ : α → Prop => False := fun K h => h.elim
theorem ex_bind {α β : Type} {F : (α → Prop) → Prop} {G : α → (β → Prop) → Prop} (hF : Ex1 F) (hG : ∀ x, Ex1 (G x)) : Ex1 fun K => F fun x => G x K := fun K h => by
  obtain ⟨x, h1, h2⟩ := hF _ h
  obtain ⟨y, h3, h4⟩ := hG x K h1
  exact ⟨y, h3, fun K' h => h2 _ (h4 K' h)⟩
theorem ex_pick {α β : Type} {R : α → Prop} {G : α → (β → Prop) → Prop} (hG : ∀ x, Ex1 (G x)) : Ex1 fun K => Pick R fun x => G x K := fun K ⟨x, h1, h2⟩ => by
  obtain ⟨y, h3, h4⟩ := hG x K h2
  exact ⟨y, h3, fun K' h => ⟨x, h1, h4 K' h⟩⟩
theorem ex_side {α : Type} {A : Prop} {G : (α → Prop) → Prop} (hG : Ex1 G) : Ex1 fun K => Side A (G K) := fun K ⟨h1, h2⟩ => by
  obtain ⟨y, h3, h4⟩ := hG K h2
  exact ⟨y, h3, fun K' h => ⟨h1, h4 K' h⟩⟩

theorem ex_look (l : List PV) (n : Nat) : Ex1 (look l n) := fun K h => by
  rw [look_iff] at h
  obtain ⟨v, h1, h2⟩ := h
  exact ⟨v, h2, fun K' h => look_iff.2 ⟨v, h1, h⟩⟩
theorem ex_const (v : Value) (t : TI) : Ex1 (constK v t) := by
  unfold constK
  split <;> first | exact ex_pure _ | exact ex_false | skip
  split <;> first | exact ex_pure _ | exact ex_false
theorem ex_opd (r : List PV) (x : Operand) (t : TI) : Ex1 (opd r x t) := by
  cases x with
  | tmp n => exact ex_look r n
  | const v => exact ex_const v t
  | global g => exact ex_false
  | func f => exact ex_pure _
theorem ex_args (r : List PV) (tt : TT) : ∀ (xs : List Operand) (ts : List TypeId), Ex1 (argsK r tt xs ts)
  | [], ts => ex_pure _
  | x :: xs, ts => ex_bind (G := fun v K => argsK r tt xs ts.tail fun vs => K (v :: vs)) (ex_opd _ _ _) fun v => ex_bind (G := fun vs K => K (v :: vs)) (ex_args r tt xs ts.tail) fun vs => ex_pure _
theorem ex_parts (r : List PV) (tt : TT) (ft : Nat → Nat) : ∀ (xs : List (Nat × Operand)), Ex1 (partsK r tt ft xs)
  | [] => ex_pure _
  | (i, x) :: xs => ex_bind (G := fun v K => partsK r tt ft xs fun vs => K ((i, v) :: vs)) (ex_opd _ _ _) fun v => ex_bind (G := fun vs K => K ((i, v) :: vs)) (ex_parts r tt ft xs) fun vs => ex_pure _
theorem ex_oneOr (b : Bool) (xs : List XV) : Ex1 (oneOr b xs) := by
  unfold oneOr
  split <;> first | exact ex_pure _ | exact ex_false
theorem ex_load (h : Heap) (t : TI) (a : PV) : Ex1 (loadK h t a) := by
  unfold loadK
  split
  · exact ex_false
  · split
    · split
      · simp only [forceXs_eq]; exact ex_oneOr _ _
      · exact ex_false
    · split
      · simp only [subK_eq]; exact ex_oneOr _ _
      · exact ex_false
    · split
      · simp only [subK_eq]; exact ex_pick fun row => ex_oneOr _ _
      · exact ex_false
    · split
      · simp only [subK_eq]; exact ex_pick fun row => ex_oneOr _ _
      · exact ex_false
    · exact ex_false
theorem ex_fieldAddr (t : TI) (a : PV) (f : Nat) : Ex1 (fieldAddrK t a f) := by
  unfold fieldAddrK
  split
  · split
    · split <;> first | exact ex_pure _ | exact ex_false
    · split <;> first | exact ex_pure _ | exact ex_false
    · split <;> first | exact ex_pure _ | exact ex_false
    · split <;> first | exact ex_pure _ | exact ex_false
    · exact ex_false
  · exact ex_false
theorem ex_intIx {β : Type} (i : PV) {G : Int → (β → Prop) → Prop} (hG : ∀ n, Ex1 (G n)) : Ex1 fun K => intIx i fun n => G n K := by
  unfold intIx
  split
  · exact hG _
  · exact ex_false
theorem ex_indexAddr (h : Heap) (t : TI) (a i : PV) : Ex1 (indexAddrK h t a i) := by
  unfold indexAddrK
  refine ex_intIx i fun n => ?_
  split
  · split
    · exact ex_pick fun _ => ex_pure _
    · exact ex_false
  · split
    · split
      · exact ex_side (ex_pure _)
      · exact ex_false
    · exact ex_false
  · split
    · split
      · exact ex_side (ex_pure _)
      · exact ex_false
    · exact ex_false
  · split
    · split
      · exact ex_side (ex_pure _)
      · exact ex_false
    · exact ex_false
  · exact ex_false
theorem ex_len (h : Heap) (t : TI) (a : PV) : Ex1 (lenK h t a) := by
  unfold lenK
  split <;> first | exact ex_pure _ | exact ex_false | skip
  · split <;> first | exact ex_pure _ | exact ex_false
  · split <;> first | exact ex_pure _ | exact ex_false
theorem ex_bin (op : BinOp) (t : TI) (yc : Bool) (x y : PV) : Ex1 (binK op t yc x y) := by
  unfold binK
  split
  · cases op <;> simp only <;> first | exact ex_side (ex_pick fun _ => ex_pure _) | exact ex_side (ex_pure _) | skip
    all_goals (split <;> first | exact ex_false | exact ex_pick fun _ => ex_pure _ | exact ex_pure _ | exact ex_side (ex_pick fun _ => ex_pure _) | exact ex_side (ex_pure _))
  · cases op <;> simp only <;> first | exact ex_side (ex_pure _) | exact ex_pure _ | exact ex_false
  · split <;> first | exact ex_pure _ | exact ex_false
  · split
    · cases op <;> simp only <;> first | exact ex_pure _ | exact ex_false
    · exact ex_false
  · split
    · split <;> first | exact ex_pure _ | exact ex_false
    · exact ex_false
  · exact ex_false
theorem ex_un (op : UnOp) (x : PV) : Ex1 (unK op x) := by
  unfold unK
  split <;> first | exact ex_pure _ | exact ex_false | exact ex_pick fun _ => ex_pure _
theorem ex_bounds {β : Type} (n : Nat) (lo hi : Option Int) {G : Nat → Nat → (β → Prop) → Prop} (hG : ∀ a b, Ex1 (G a b)) : Ex1 fun K => boundsOf n lo hi fun a b => G a b K := by
  unfold boundsOf
  split <;> first | exact hG _ _ | exact ex_side (hG _ _)
theorem ex_slice (h : Heap) (t : TI) (x : PV) (lo hi : Option Int) : Ex1 (sliceK h t x lo hi) := by
  unfold sliceK
  split
  · exact ex_bounds _ _ _ fun _ _ => ex_pure _
  · split
    · exact ex_bounds _ _ _ fun _ _ => ex_pure _
    · exact ex_false
  · split
    · split
      · exact ex_bounds _ _ _ fun _ _ => ex_pure _
      · exact ex_false
    · exact ex_false
  · exact ex_bounds _ _ _ fun _ _ => ex_pure _
  · exact ex_false
theorem ex_optInt {β : Type} (r : List PV) (tt : TT) (x : Option Operand) {G : Option Int → (β → Prop) → Prop} (hG : ∀ n, Ex1 (G n)) : Ex1 fun K => optInt r tt x fun n => G n K := by
  unfold optInt
  split
  · exact hG _
  · exact ex_bind (ex_opd _ _ _) fun v => ex_intIx v fun n => hG _
theorem ex_convert (h : Heap) (src dst : TI) (ik : Option IntKind) (v : PV) : Ex1 (convertQ h src dst ik v) := by
  unfold convertQ
  split <;> first | exact ex_false | exact ex_pick fun _ => ex_pure _
theorem ex_extract (v : PV) (i : Nat) : Ex1 (extractK v i) := by
  unfold extractK
  split
  · split
    · exact ex_oneOr _ _
    · exact ex_false
  · exact ex_false
theorem ex_field (t : TI) (v : PV) (f : Nat) : Ex1 (fieldK t v f) := by
  unfold fieldK
  split
  · simp only [subK_eq]; exact ex_oneOr _ _
  · exact ex_false
theorem ex_index (v i : PV) : Ex1 (indexQ v i) := by
  unfold indexQ
  split <;> first | exact ex_false | exact ex_pick fun _ => ex_pure _
theorem ex_build (t : TI) : ∀ (ps : List (Nat × PV)) (cells : List XV), Ex1 (buildK t ps cells)
  | [], cells => by simp only [buildK, forceXs_eq]; exact ex_pure _
  | (f, v) :: ps, cells => by
    show Ex1 (fun K => buildK t ((f, v) :: ps) cells K)
    simp only [buildK]
    split
    · split
      · exact ex_build t ps _
      · exact ex_false
    · exact ex_false
theorem ex_callQ (P : Program) (h : Heap) (f : PV) (vs : List PV) : Ex1 (callQ P h f vs) := by
  unfold callQ
  split
  · refine ex_pick fun r => ?_
    split
    · split
      · simp only [forceP_eq]; exact ex_pure _
      · exact ex_false
    · split
      · simp only [forceP_eq]; exact ex_pure _
      · split
        · split
          · simp only [forceP_eq]; exact ex_pure _
          · exact ex_false
        · exact ex_false
  · exact ex_false

theorem ex_opQ (P : Program) (tt : TT) (s : St) (o : Oper) : Ex1 (opQ P tt s o) := by
  show Ex1 (fun K => opQ P tt s o K)
  cases hop : o.op <;> simp only [opQ, hop] <;> try exact ex_false
  case move x => exact ex_opd _ _ _
  case assign x => exact ex_opd _ _ _
  case pick c x y =>
    refine ex_bind (ex_opd _ _ _) fun v => ?_
    split <;> first | exact ex_opd _ _ _ | exact ex_false
  case load t x => exact ex_bind (ex_opd _ _ _) fun v => ex_load _ _ _
  case nilCheck x =>
    refine ex_bind (ex_opd _ _ _) fun v => ?_
    split <;> first | exact ex_pure _ | exact ex_false | (split <;> first | exact ex_pure _ | exact ex_false)
  case binOp op t x y yt => exact ex_bind (ex_opd _ _ _) fun v => ex_bind (ex_opd _ _ _) fun u => ex_bin _ _ _ _ _
  case unOp op t x => exact ex_bind (ex_opd _ _ _) fun v => ex_un _ _
  case convert src dst x => exact ex_bind (ex_opd _ _ _) fun v => ex_convert _ _ _ _ _
  case slice t x lo hi mx =>
    cases mx with
    | some m => exact ex_false
    | none => exact ex_bind (ex_opd _ _ _) fun v => ex_optInt _ _ _ fun l => ex_optInt _ _ _ fun u => ex_slice _ _ _ _ _
  case fieldAddr t x f => exact ex_bind (ex_opd _ _ _) fun v => ex_fieldAddr _ _ _
  case field t x f => exact ex_bind (ex_opd _ _ _) fun v => ex_field _ _ _
  case indexAddr t x i => exact ex_bind (ex_opd _ _ _) fun v => ex_bind (ex_opd _ _ _) fun u => ex_indexAddr _ _ _ _
  case index t x i =>
    refine ex_bind (ex_opd _ _ _) fun v => ex_bind (ex_opd _ _ _) fun u => ?_
    split <;> first | exact ex_index _ _ | exact ex_false
  case extract x i => exact ex_bind (ex_opd _ _ _) fun v => ex_extract _ _
  case build t ps =>
    split <;> first | exact ex_false | skip
    exact ex_bind (ex_parts _ _ _ _) fun vs => ex_build _ _ _
  case buildSlice t len ps =>
    split
    · refine ex_bind (ex_parts _ _ _ _) fun vs => ?_
      split
      · exact ex_pure _
      · exact ex_false
    · exact ex_false
  case makeSlice t l c =>
    refine ex_bind (ex_opd _ _ _) fun vl => ex_bind (ex_opd _ _ _) fun vc => ?_
    have ii : ∀ i : PV, Ex1 (intIx i) := fun i => by
      unfold intIx
      split
      · exact ex_pure _
      · exact ex_false
    refine ex_bind (ii _) fun l => ex_bind (ii _) fun c => ?_
    split
    · split
      · exact ex_false
      · exact fun K h => ⟨_, h.b, fun K' hk => ⟨h.a, hk⟩⟩
    · exact ex_false
  case makeFunc fn first captured =>
    cases fn <;> try exact ex_false
    simp only
    split
    · refine ex_bind (ex_args _ _ _ _) fun vs => ?_
      split
      · split <;> first | exact ex_pure _ | exact ex_false
      · exact ex_false
    · exact ex_false
  case call c =>
    split
    · split
      · exact ex_bind (ex_opd _ _ _) fun v => ex_len _ _ _
      · exact ex_false
    · exact ex_bind (ex_opd _ _ _) fun v => ex_bind (ex_opd _ _ _) fun u => by
        unfold maxK
        split
        · exact ex_pure _
        · exact ex_false
    · exact ex_bind (ex_opd _ _ _) fun v => ex_bind (ex_opd _ _ _) fun u => by
        unfold minK
        split
        · exact ex_pure _
        · exact ex_false
    · exact ex_bind (ex_opd _ _ _) fun g => ex_bind (ex_args _ _ _ _) fun vs => ex_callQ _ _ _ _
    · exact ex_false

/-! ### only what is looked at counts -/
theorem opd_congr {r r' : List PV} {x : Operand} (h : ∀ n, x = .tmp n → r[n]? = r'[n]?) (t : TI) : opd r x t = opd r' x t := by
  cases x with
  | tmp n =>
    funext K
    simp only [opd]
    exact propext ⟨fun hh => by rw [look_iff] at hh ⊢; rw [← h n rfl]; exact hh, fun hh => by rw [look_iff] at hh ⊢; rw [h n rfl]; exact hh⟩
  | _ => rfl
theorem args_congr {r r' : List PV} {tt : TT} : ∀ {xs : List Operand} (_ : ∀ n, Operand.tmp n ∈ xs → r[n]? = r'[n]?) (ts : List TypeId), argsK r tt xs ts = argsK r' tt xs ts
  | [], _, ts => rfl
  | x :: xs, h, ts => by
    funext K
    simp only [argsK, opd_congr (x := x) (fun n e => h n (by simp [e])), args_congr (xs := xs) (fun n hn => h n (by simp [hn]))]
theorem parts_congr {r r' : List PV} {tt : TT} {ft : Nat → Nat} : ∀ {xs : List (Nat × Operand)} (_ : ∀ n, Operand.tmp n ∈ xs.map (·.2) → r[n]? = r'[n]?), partsK r tt ft xs = partsK r' tt ft xs
  | [], _ => rfl
  | (i, x) :: xs, h => by
    funext K
    simp only [partsK, opd_congr (x := x) (fun n e => h n (by simp [e])), parts_congr (xs := xs) (fun n hn => h n (by simp only [List.map_cons, List.mem_cons]; exact Or.inr hn))]
theorem optInt_congr {r r' : List PV} {tt : TT} {x : Option Operand} (h : ∀ n, x = some (.tmp n) → r[n]? = r'[n]?) : optInt r tt x = optInt r' tt x := by
  cases x with
  | none => rfl
  | some x => funext K; simp only [optInt, opd_congr (x := x) (fun n e => h n (by rw [e]))]

theorem opQ_congr {P : Program} {tt : TT} {s s' : St} {o : Oper} (hh : s.heap = s'.heap) (hr : ∀ n, Operand.tmp n ∈ o.op.operands → s.regs[n]? = s'.regs[n]?) : opQ P tt s o = opQ P tt s' o := by
  funext K
  have one : ∀ {x : Operand}, (∀ n, x = .tmp n → Operand.tmp n ∈ o.op.operands) → ∀ t, opd s.regs x t = opd s'.regs x t := fun h t => opd_congr (fun n e => hr n (h n e)) t
  cases hop : o.op <;> simp only [opQ, hop]
  case move x => rw [one (x := x) (fun n e => by simp [hop, Op.operands, e])]
  case assign x => rw [one (x := x) (fun n e => by simp [hop, Op.operands, e])]
  case pick c x y => rw [one (x := c) (fun n e => by simp [hop, Op.operands, e]), one (x := x) (fun n e => by simp [hop, Op.operands, e]), one (x := y) (fun n e => by simp [hop, Op.operands, e])]
  case load t x => rw [one (x := x) (fun n e => by simp [hop, Op.operands, e]), hh]
  case nilCheck x => rw [one (x := x) (fun n e => by simp [hop, Op.operands, e])]
  case binOp op t x y yt => rw [one (x := x) (fun n e => by simp [hop, Op.operands, e]), one (x := y) (fun n e => by simp [hop, Op.operands, e])]
  case unOp op t x => rw [one (x := x) (fun n e => by simp [hop, Op.operands, e])]
  case convert src dst x => rw [one (x := x) (fun n e => by simp [hop, Op.operands, e]), hh]
  case slice t x lo hi mx =>
    cases mx with
    | some m => rfl
    | none =>
      simp only
      rw [one (x := x) (fun n e => by simp [hop, Op.operands, e]), optInt_congr (x := lo) (r' := s'.regs) (fun n e => hr n (by simp [hop, Op.operands, e])), optInt_congr (x := hi) (r' := s'.regs) (fun n e => hr n (by simp [hop, Op.operands, e])), hh]
  case fieldAddr t x f => rw [one (x := x) (fun n e => by simp [hop, Op.operands, e])]
  case field t x f => rw [one (x := x) (fun n e => by simp [hop, Op.operands, e])]
  case indexAddr t x i => rw [one (x := x) (fun n e => by simp [hop, Op.operands, e]), one (x := i) (fun n e => by simp [hop, Op.operands, e]), hh]
  case index t x i => rw [one (x := x) (fun n e => by simp [hop, Op.operands, e]), one (x := i) (fun n e => by simp [hop, Op.operands, e])]
  case extract x i => rw [one (x := x) (fun n e => by simp [hop, Op.operands, e])]
  case build t ps =>
    rw [parts_congr (xs := ps.toList) (r' := s'.regs) (fun n hn => hr n (by
      simp only [hop, Op.operands]
      simpa using hn))]
  case buildSlice t len ps =>
    rw [parts_congr (xs := ps.toList) (r' := s'.regs) (fun n hn => hr n (by
      simp only [hop, Op.operands]
      simpa using hn))]
  case makeSlice t l c => rw [one (x := l) (fun n e => by simp [hop, Op.operands, e]), one (x := c) (fun n e => by simp [hop, Op.operands, e])]
  case makeFunc fn first captured =>
    cases fn <;> simp only
    rw [args_congr (xs := captured.toList) (r' := s'.regs) (fun n hn => hr n (by simp only [hop, Op.operands]; simp at hn ⊢; exact Or.inr hn))]
  case call c =>
    cases hc : c.callee with
    | builtin b =>
      cases b <;> try rfl
      case max =>
        cases hal : c.args.toList with
        | nil => rfl
        | cons x xs =>
          cases xs with
          | nil => rfl
          | cons y ys =>
            cases ys with
            | cons z zs => rfl
            | nil =>
              simp only
              rw [one (x := x) (fun n e => by
                have : x ∈ c.args := by rw [← Array.mem_toList_iff, hal]; simp
                simp only [hop, Op.operands, Call.operands, hc]
                simp; rw [← e]; exact this), one (x := y) (fun n e => by
                have : y ∈ c.args := by rw [← Array.mem_toList_iff, hal]; simp
                simp only [hop, Op.operands, Call.operands, hc]
                simp; rw [← e]; exact this)]
      case min =>
        cases hal : c.args.toList with
        | nil => rfl
        | cons x xs =>
          cases xs with
          | nil => rfl
          | cons y ys =>
            cases ys with
            | cons z zs => rfl
            | nil =>
              simp only
              rw [one (x := x) (fun n e => by
                have : x ∈ c.args := by rw [← Array.mem_toList_iff, hal]; simp
                simp only [hop, Op.operands, Call.operands, hc]
                simp; rw [← e]; exact this), one (x := y) (fun n e => by
                have : y ∈ c.args := by rw [← Array.mem_toList_iff, hal]; simp
                simp only [hop, Op.operands, Call.operands, hc]
                simp; rw [← e]; exact this)]
      cases hal : c.args.toList with
      | nil => rfl
      | cons x xs =>
        cases xs with
        | cons y ys => rfl
        | nil =>
          simp only
          cases c.argTypes.toList with
          | nil => rfl
          | cons t ts =>
            simp only
            rw [one (x := x) (fun n e => by
              have : x ∈ c.args := by rw [← Array.mem_toList_iff, hal]; simp
              simp only [hop, Op.operands, Call.operands, hc]
              simp; rw [← e]; exact this), hh]
    | value f =>
      simp only
      rw [one (x := f) (fun n e => by simp [hop, Op.operands, Call.operands, hc, e]), args_congr (xs := c.args.toList) (r' := s'.regs) (fun n hn => hr n (by simp only [hop, Op.operands, Call.operands, hc]; simp at hn ⊢; exact Or.inr hn)), hh]
    | invoke r m => rfl

end Go.Proofs.YtnafogjagbhdbaaDoor.Pi
