/- Every operation of a region whose order is fixed: sound, more. No statement of the seat is proved here. -/
import Derived.Test.YtjbccgpobakjfaaPiS14
import Derived.Laws.BytesString
import Derived.IntWalk
namespace Go.Proofs.Ytjbccgpobakjfaa.Pi
open Go Go.RowKit
set_option linter.unusedVariables false
set_option linter.unusedSimpArgs false

theorem wrap_i64 {n : Int} (h0 : -(2 ^ 63) ≤ n) (h : n < 2 ^ 63) : IntKind.i64.wrap n = n := IntWalk.i64_in n (by omega)

theorem wrap_small {n : Int} (h0 : 0 ≤ n) (h : n < 2 ^ 63) : IntKind.i64.wrap n = n := wrap_i64 (by omega) h

theorem spliceC_get : ∀ (ys row : List CV) (o i : Nat), o + ys.length ≤ row.length → (spliceC row o ys)[i]? = if o ≤ i ∧ i < o + ys.length then ys[i - o]? else row[i]?
  | [], row, o, i, _ => by rw [if_neg (by simp only [List.length_nil]; omega)]; rfl
  | y :: ys, row, o, i, h => by
    simp only [List.length_cons] at h
    simp only [spliceC]
    rw [spliceC_get ys (row.set o y) (o + 1) i (by simp; omega)]
    by_cases e1 : i = o
    · subst e1
      have hi : i < row.length := by omega
      rw [if_neg (by omega), if_pos (by simp)]
      simp [hi]
    · by_cases e2 : o ≤ i ∧ i < o + (ys.length + 1)
      · rw [if_pos (by omega), if_pos (by simpa using e2)]
        have : i - o = (i - (o + 1)) + 1 := by omega
        rw [this]; simp
      · rw [if_neg (by omega), if_neg (by simpa using e2)]
        rw [List.getElem?_set_ne (by omega)]

theorem spliceC_length : ∀ (ys row : List CV) (o : Nat), (spliceC row o ys).length = row.length
  | [], row, o => rfl
  | y :: ys, row, o => by simp [spliceC, spliceC_length ys]

section
variable {P : Program} {C : Ctx} {L : Lay} {I : Nat → Prop} {s : St} {a : Act} {w : World}

/-- A part of an own row is written. -/
theorem Inv.writePart {k r b sz o : Nat} {rows : List (List CV)} {row ys : List CV} {vs : Array Value} (hi : Inv C L I s a w) (hfd : find s.heap k = some (.arr sz rows)) (hbk : L.blk k = some b) (hr : rows[r]? = some row)
    (hl : o + ys.length ≤ sz) (hsz : vs.size = ys.length) (hv : ∀ (i : Nat) (y : CV) (v : Value), ys[i]? = some y → vs[i]? = some v → RepC I w v y) :
    ∃ w', (storeCells ⟨b, r * sz + o, none⟩ vs.toList 0).run P w = .ok () w' ∧ Inv C L I ⟨s.regs, setOb s.heap k (.arr sz (rows.set r (spliceC row o ys)))⟩ a w' := by
  have hrlt : r < rows.length := (List.getElem?_eq_some_iff.1 hr).1
  have ho := hi.heap.ob k _ hfd
  simp only [RepO, hbk] at ho
  obtain ⟨h0, hrl, cur, e, fr, g2, g6, g3, g5⟩ := ho
  have hrow := hrl r row hr
  have hall : ∀ v ∈ vs.toList, oneCell v := fun v hm => by
    obtain ⟨i, hi', rfl⟩ := List.mem_iff_getElem.1 hm
    have hix : i < ys.length := by rw [← hsz]; simpa using hi'
    exact (hv i ys[i] _ (List.getElem?_eq_getElem hix) (by simp at hi'; simp [hi'])).oneCell
  have hfit : r * sz + sz ≤ cur.size := by
    have h1 : (r + 1) * sz ≤ L.cap k * sz := Nat.mul_le_mul_right _ (by omega)
    rw [Nat.add_mul] at h1; omega
  obtain ⟨w', h1, h2⟩ := run_storeCells (P := P) (o := r * sz + o) vs.toList 0 w cur e fr g2 (by simp; omega) g3 hall
  obtain ⟨cur', q1, q2, q3⟩ := h2.row cur e fr g2
  refine ⟨w', h1, hi.writeOb (w' := w') (o' := .arr sz (rows.set r (spliceC row o ys))) hfd hbk (by simp [Ob.shape]) h2.size h2.other h2.os h2.tape h2.output (fun hf hc => ?_)⟩
  simp only [RepO, hbk]
  have hlen' : ∀ (i : Nat) (r' : List CV), (rows.set r (spliceC row o ys))[i]? = some r' → r'.length = sz := fun i r' hr' => by
    rw [List.getElem?_set] at hr'
    split at hr'
    · cases hr'; rw [spliceC_length]; exact hrow
    · exact hrl i r' hr'
  refine ⟨by simpa using h0, hlen', cur', e, fr, q1, by rw [q2]; exact g6, fun o ho => ?_, fun i r' j c h3 h4 => ?_⟩
  · have : w'.frozen? ⟨b, o, none⟩ = w.frozen? ⟨b, o, none⟩ := by simp [World.frozen?, q1, g2]
    rw [this]; exact g3 o (by rw [← q2]; exact ho)
  · rw [q3]
    have hlen : vs.toList.length = ys.length := by simpa using hsz
    rw [hlen, Nat.add_zero]
    have hj : j < sz := by rw [← hlen' i r' h3]; exact (List.getElem?_eq_some_iff.1 h4).1
    rw [List.getElem?_set] at h3
    by_cases e1 : r = i
    · subst e1
      simp only [if_true] at h3
      rw [if_pos hrlt] at h3
      cases h3
      rw [spliceC_get ys row o j (by omega)] at h4
      split at h4
      · rename_i hc'
        rw [if_pos (by omega)]
        have e2 : r * sz + j - (r * sz + o) = j - o := by omega
        rw [e2]
        have hjv : j - o < vs.size := by omega
        exact ⟨vs[j - o], by simp [hjv], hc _ _ (hv _ c _ h4 (Array.getElem?_eq_getElem hjv))⟩
      · rename_i hc'
        rw [if_neg (by omega)]
        obtain ⟨v, h5, h6⟩ := g5 r row j c hr h4
        exact ⟨v, h5, hc _ _ h6⟩
    · rw [if_neg e1] at h3
      have hout : ¬ (r * sz + o ≤ i * sz + j ∧ i * sz + j < r * sz + o + ys.length) := by
        intro ⟨p1, p2⟩
        rcases Nat.lt_or_ge i r with hlt | hge
        · have : (i + 1) * sz ≤ r * sz := Nat.mul_le_mul_right _ hlt
          rw [Nat.add_mul] at this; omega
        · have : (r + 1) * sz ≤ i * sz := Nat.mul_le_mul_right _ (by omega)
          rw [Nat.add_mul] at this; omega
      rw [if_neg hout]
      obtain ⟨v, h5, h6⟩ := g5 i r' j c h3 h4
      exact ⟨v, h5, hc _ _ h6⟩

theorem cells_pure {v : Value} {p : PV} {ys : List CV} (hp : p.cellsX.bind pures = some ys) (h : RepP L s.heap I w v p) : v.cells.size = ys.length ∧ ∀ (i : Nat) (y : CV) (u : Value), ys[i]? = some y → v.cells[i]? = some u → RepC I w u y := by
  cases hx : p.cellsX with
  | none => simp [hx] at hp
  | some xs =>
    simp only [hx, Option.bind_some] at hp
    obtain ⟨g1, g2⟩ := pures_iff hp
    have hlive : allLive xs = true := allLive_iff.2 fun x hm => by
      obtain ⟨i, hi, rfl⟩ := List.mem_iff_getElem.1 hm
      obtain ⟨y, _, e⟩ := g2 i _ (List.getElem?_eq_getElem hi)
      generalize xs[i] = x at e
      cases x <;> first | rfl | simp [XV.pure?] at e
    have hr := cellsX_rep hx (Or.inl hlive) h
    refine ⟨by rw [hr.1, g1], fun i y u hy hu => ?_⟩
    have hi : i < xs.length := by rw [g1]; exact (List.getElem?_eq_some_iff.1 hy).1
    obtain ⟨z, e1, e2⟩ := g2 i xs[i] (List.getElem?_eq_getElem hi)
    rw [hy] at e1; cases e1
    exact RepX.pure e2 (hr.2 i _ u (List.getElem?_eq_getElem hi) hu)

theorem fill_rows {sz : Nat} (hsz : 0 < sz) : ∀ {ps : List (Nat × PV)} {vs : List (Nat × Value)} {start : Nat} {cells : Array Value} {rows : List (List CV)}, listRows sz start ps = some rows → PartsRep L s.heap I w ps vs → (start + rows.length) * sz ≤ cells.size →
    ∃ out, Instr.fill (fun i => some (i * sz, sz)) cells vs = some out ∧ out.size = cells.size ∧ (∀ q, q < start * sz → out[q]? = cells[q]?) ∧ (∀ (i : Nat) (r : List CV), rows[i]? = some r → r.length = sz) ∧
      ∀ (i : Nat) (r : List CV) (j : Nat) (c : CV), rows[i]? = some r → r[j]? = some c → ∃ u, out[(start + i) * sz + j]? = some u ∧ RepC I w u c
  | [], [], start, cells, rows, h, _, _ => by
    simp only [listRows, Option.some.injEq] at h
    subst h
    exact ⟨cells, rfl, rfl, fun _ _ => rfl, fun i r h => by simp at h, fun i r j c h => by simp at h⟩
  | (j0, p) :: ps, (_, v) :: vs, start, cells, rows, h, hp, hfit => by
    obtain ⟨rfl, hpv, hp⟩ := hp
    simp only [listRows] at h
    split at h
    · rename_i ys rows' hb hys hrows
      have e := beq_iff.1 hb
      subst e
      split at h
      · rename_i hl
        cases h
        have hl := lenIs_iff.1 hl
        obtain ⟨hvs, hvr⟩ := cells_pure hys hpv
        simp only [List.length_cons] at hfit
        have hfit1 : start * sz + sz ≤ cells.size := by
          have : (start + 1) * sz ≤ (start + (rows'.length + 1)) * sz := Nat.mul_le_mul_right _ (by omega)
          rw [Nat.add_mul] at this; omega
        have hnot : ¬ (v.cells.size ≠ sz ∨ start * sz + v.cells.size > cells.size) := by omega
        have hget : ∀ i, (v.cells.zipIdx.foldl (fun cs (p : Value × Nat) => cs.setIfInBounds (start * sz + p.2) p.1) cells)[i]? = if start * sz ≤ i ∧ i < start * sz + sz then v.cells[i - start * sz]? else cells[i]? := fun i => by
          rw [← Array.foldl_toList]
          have hzi : v.cells.zipIdx.toList = v.cells.toList.zipIdx := by simp
          rw [hzi, fold_get v.cells.toList 0 (start * sz) cells i (by simp; omega)]
          simp only [Nat.add_zero, Array.length_toList, hvs, hl, Array.getElem?_toList]
        have hszf : (v.cells.zipIdx.foldl (fun cs (p : Value × Nat) => cs.setIfInBounds (start * sz + p.2) p.1) cells).size = cells.size := by
          rw [← Array.foldl_toList, fold_size]
        obtain ⟨out, g1, g2, g3, g4, g5⟩ := fill_rows hsz (start := start + 1) (cells := v.cells.zipIdx.foldl (fun cs (p : Value × Nat) => cs.setIfInBounds (start * sz + p.2) p.1) cells) hrows hp (by rw [hszf, Nat.add_assoc, Nat.add_comm 1]; exact hfit)
        refine ⟨out, ?_, by rw [g2, hszf], fun q hq => ?_, fun i r hr => ?_, fun i r j c hr hc => ?_⟩
        · simp only [Instr.fill, Bool.or_eq_true, decide_eq_true_eq, ne_eq]
          rw [if_neg hnot]
          exact g1
        · rw [g3 q (by rw [Nat.add_mul]; omega), hget, if_neg (by omega)]
        · cases i with
          | zero => simp at hr; subst hr; exact hl
          | succ i => simp at hr; exact g4 i r hr
        · cases i with
          | zero =>
            simp at hr; subst hr
            have hj : j < sz := by rw [← hl]; exact (List.getElem?_eq_some_iff.1 hc).1
            rw [Nat.add_zero, g3 _ (by rw [Nat.add_mul]; omega), hget, if_pos (by omega), Nat.add_sub_cancel_left]
            have hjv : j < v.cells.size := by omega
            exact ⟨v.cells[j], Array.getElem?_eq_getElem hjv, hvr j c _ hc (Array.getElem?_eq_getElem hjv)⟩
          | succ i =>
            simp at hr
            have := g5 i r j c hr hc
            rw [show start + (i + 1) = start + 1 + i by omega]; exact this
      · cases h
    · cases h
  | [], _ :: _, _, _, _, _, hp, _ => hp.elim
  | _ :: _, [], _, _, _, _, hp, _ => hp.elim

theorem zeroOkC_rep : ∀ {vs : List Value} {ys : List CV}, zeroOkC vs ys = true → vs.length = ys.length ∧ ∀ (i : Nat) (y : CV) (v : Value), ys[i]? = some y → vs[i]? = some v → RepC I w v y := by
  intro vs ys
  induction vs generalizing ys with
  | nil =>
    intro h
    cases ys with
    | nil => exact ⟨rfl, fun i x v h => by simp at h⟩
    | cons x xs => simp [zeroOkC] at h
  | cons v vs ih =>
    intro h
    cases ys with
    | nil => cases v <;> simp [zeroOkC] at h
    | cons x xs =>
      have key : RepC I w v x ∧ zeroOkC vs xs = true := by
        unfold zeroOkC at h
        split at h
        · rename_i e1 e2; cases e1
        · rename_i e1 e2
          cases e1; cases e2
          simp only [Bool.and_eq_true, decide_eq_true_eq] at h
          obtain ⟨⟨rfl, rfl⟩, h⟩ := h
          exact ⟨RepC.int _ _, h⟩
        · rename_i e1 e2
          cases e1; cases e2
          simp only [Bool.and_eq_true, beq_iff_eq] at h
          obtain ⟨rfl, h⟩ := h
          exact ⟨RepC.bool _, h⟩
        · rename_i e1 e2
          cases e1; cases e2
          simp only [Bool.and_eq_true, decide_eq_true_eq] at h
          obtain ⟨rfl, h⟩ := h
          exact ⟨RepC.str _, h⟩
        · rename_i e1 e2
          cases e1; cases e2
          exact ⟨.nil _, h⟩
        · rename_i e1 e2
          cases e1; cases e2
          exact ⟨.nilI, h⟩
        · cases h
      obtain ⟨h1, h2⟩ := ih key.2
      refine ⟨by simp [h1], fun i y u hy hu => ?_⟩
      cases i with
      | zero => simp only [List.getElem?_cons_zero, Option.some.injEq] at hy hu; subst hy; subst hu; exact key.1
      | succ i => simp only [List.getElem?_cons_succ] at hy hu; exact h2 i y u hy hu

/-- Cells that are the zero cells again and again. -/
theorem zero_row {z : Array Value} {n sz i j : Nat} (hz : z.size = sz) (hi : i < n) (hj : j < sz) : ((Array.range (n * sz)).map (z[· % z.size]!))[i * sz + j]? = z[j]? := by
  have hq : i * sz + j < n * sz := by
    have : (i + 1) * sz ≤ n * sz := Nat.mul_le_mul_right _ hi
    rw [Nat.add_mul] at this; omega
  have e2 : (i * sz + j) % sz = j := by rw [Nat.mul_comm, Nat.mul_add_mod, Nat.mod_eq_of_lt hj]
  have hjz : j < z.size := by omega
  rw [Array.getElem?_eq_getElem hjz, ← getElem!_pos z j hjz]
  simp [hq, hz, e2]

end

end Go.Proofs.Ytjbccgpobakjfaa.Pi
