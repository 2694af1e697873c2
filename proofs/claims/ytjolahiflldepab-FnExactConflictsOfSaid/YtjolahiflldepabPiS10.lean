/- Building aggregates; calls that leave the abstract state alone. No statement of the seat is proved here. -/
import Derived.Test.YtjolahiflldepabPiS9
namespace Go.Proofs.Ytjolahiflldepab.Pi
open Go Go.RowKit
set_option linter.unusedVariables false
set_option linter.unusedSimpArgs false

theorem fold_get : ∀ (l : List Value) (k off : Nat) (cells : Array Value) (i : Nat), off + k + l.length ≤ cells.size →
    ((l.zipIdx k).foldl (fun cs (p : Value × Nat) => cs.setIfInBounds (off + p.2) p.1) cells)[i]? = if off + k ≤ i ∧ i < off + k + l.length then l[i - (off + k)]? else cells[i]?
  | [], k, off, cells, i, _ => by rw [if_neg (by simp only [List.length_nil]; omega)]; rfl
  | v :: l, k, off, cells, i, h => by
    simp only [List.length_cons] at h
    simp only [List.zipIdx_cons, List.foldl_cons]
    rw [fold_get l (k + 1) off _ i (by simp; omega)]
    by_cases e1 : i = off + k
    · subst e1
      rw [if_neg (by omega), if_pos (by simp)]
      have : off + k < cells.size := by omega
      simp [this]
    · by_cases e2 : off + k ≤ i ∧ i < off + k + (l.length + 1)
      · rw [if_pos (by omega), if_pos (by simpa using e2)]
        have : i - (off + k) = (i - (off + (k + 1))) + 1 := by omega
        rw [this]; simp
      · rw [if_neg (by omega), if_neg (by simpa using e2)]
        rw [Array.getElem?_setIfInBounds_ne (by omega)]

theorem fold_size : ∀ (l : List (Value × Nat)) (off : Nat) (cells : Array Value), (l.foldl (fun cs (p : Value × Nat) => cs.setIfInBounds (off + p.2) p.1) cells).size = cells.size
  | [], off, cells => rfl
  | v :: l, off, cells => by simp [fold_size l]

section
variable {P : Program} {C : Ctx} {L : Lay} {I : Nat → Prop} {s : St} {a : Act} {w : World}

theorem indexQ_sound {t : TypeId} {ti : TI} (ht : tiOk P t ti = true) (hst : ti.str = true) {v u : Value} {x y : PV} {K : PV → Prop} (h : indexQ x y K) (hx : RepP L s.heap I w v x) (hy : RepP L s.heap I w u y) : Runs P L s.heap I w (Instr.index t v u) K := by
  have hu := (known_any ht (.inr (.inr (.inr (.inr (.inl hst)))))).str hst
  unfold indexQ at h
  split at h
  · have e1 := rep_str hx; have e2 := rep_int hy
    subst e1; subst e2
    obtain ⟨b, ⟨h0, hb⟩, h⟩ := h
    refine runs_int ?_ rfl h
    simp only [Instr.index, asIntOf, Sem.run_bind, Sem.run_pure, Result.andThen_ok, run_underlying hu, if_pos h0, hb]
  · exact h.elim

def PartsRep (L : Lay) (H : Heap) (I : Nat → Prop) (w : World) : List (Nat × PV) → List (Nat × Value) → Prop
  | [], [] => True
  | (i, p) :: ps, (j, v) :: vs => i = j ∧ RepP L H I w v p ∧ PartsRep L H I w ps vs
  | _, _ => False

theorem partsK_sound (hi : Inv C L I s a w) {tt : TT} {ft : Nat → Nat} : ∀ {xs : List (Nat × Operand)} {K : List (Nat × PV) → Prop}, partsK s.regs tt ft xs K → ∃ ps, K ps ∧ PartsRep L s.heap I w ps (xs.map fun p => (p.1, a.eval p.2))
  | [], K, h => ⟨[], h, trivial⟩
  | (i, x) :: xs, K, h => by
    simp only [partsK] at h
    obtain ⟨pv, h1, h2⟩ := opd_sound hi h
    obtain ⟨ps, h3, h4⟩ := partsK_sound hi h1
    exact ⟨(i, pv) :: ps, h3, rfl, h2, h4⟩

theorem cellsX_rep {v : Value} {p : PV} {xs : List XV} (hp : p.cellsX = some xs) (hl : allLive xs = true ∨ ∃ ys, p = .agg ys) (h : RepP L s.heap I w v p) : RepXs L s.heap I w v.cells xs := by
  cases p with
  | one x =>
    simp only [PV.cellsX, Option.some.injEq] at hp
    subst hp
    have ho : oneCell v := by
      rcases hl with hl | ⟨ys, hy⟩
      · exact RepX.oneCell (allLive_iff.1 hl x (by simp)) h
      · cases hy
    rw [ho.cells]
    refine ⟨rfl, fun i y u h1 h2 => ?_⟩
    cases i with
    | zero => simp only [List.getElem?_cons_zero, Option.some.injEq] at h1; subst h1; simp at h2; subst h2; exact h
    | succ i => simp at h1
  | agg ys =>
    simp only [PV.cellsX, Option.some.injEq] at hp
    subst hp
    obtain ⟨vs, rfl, hvs⟩ := h
    exact hvs
  | tup _ => cases hp

theorem buildK_sound {ti : TI} {K : PV → Prop} : ∀ {ps : List (Nat × PV)} {vs : List (Nat × Value)} {cells : Array Value} {xs : List XV}, buildK ti ps xs K → PartsRep L s.heap I w ps vs → RepXs L s.heap I w cells xs →
    ∃ out xs', K (.agg xs') ∧ Instr.fill (fun i => (ti.fields.map fun g => (g.1, g.2.1))[i]?) cells vs = some out ∧ RepXs L s.heap I w out xs'
  | [], [], cells, xs, h, _, hc => by
    simp only [buildK, forceXs_eq] at h
    exact ⟨cells, xs, h, rfl, hc⟩
  | (f, p) :: ps, (g, v) :: vs, cells, xs, h, hp, hc => by
    obtain ⟨rfl, hpv, hp⟩ := hp
    simp only [buildK] at h
    split at h
    · rename_i off n ag ys hg hys
      split at h
      · rename_i hl hle hlv
        have hl := lenIs_iff.1 hl
        have hle := Nat.le_of_ble_eq_true hle
        have hlive : allLive ys = true ∨ ∃ zs, p = .agg zs := Or.inl hlv
        have hv := cellsX_rep hys hlive hpv
        have hplace : (ti.fields.map fun g => (g.1, g.2.1))[f]? = some (off, n) := by simp [hg]
        have hsz : v.cells.size = n := by rw [hv.1, hl]
        have hnot : ¬ (v.cells.size ≠ n ∨ off + v.cells.size > cells.size) := by
          rw [hsz, hc.1]; omega
        obtain ⟨out, xs', g1, g2, g3⟩ := buildK_sound (cells := v.cells.zipIdx.foldl (fun cs (p : Value × Nat) => cs.setIfInBounds (off + p.2) p.1) cells) h hp (by
          rw [← Array.foldl_toList]
          refine ⟨by rw [fold_size, fillX_length]; exact hc.1, fun i x u h1 h2 => ?_⟩
          have hzi : v.cells.zipIdx.toList = v.cells.toList.zipIdx := by simp
          rw [hzi, fold_get v.cells.toList 0 off cells i (by simp [hsz, hc.1]; omega)] at h2
          rw [fillX_get ys xs off i (by omega)] at h1
          simp only [Nat.add_zero, Array.length_toList, hsz] at h2
          rw [hl] at h1
          split at h1
          · rename_i hc'
            rw [if_pos hc'] at h2
            exact hv.2 _ x u h1 (by simpa using h2)
          · rename_i hc'
            rw [if_neg hc'] at h2
            exact hc.2 i x u h1 h2)
        refine ⟨out, xs', g1, ?_, g3⟩
        simp only [Instr.fill, hplace, Bool.or_eq_true, decide_eq_true_eq, ne_eq]
        rw [if_neg hnot]
        exact g2
      · exact h.elim
    · exact h.elim
  | [], _ :: _, _, _, _, hp, _ => hp.elim
  | _ :: _, [], _, _, _, hp, _ => hp.elim

/-! ### calls -/
def Iall (L : Lay) (H : Heap) (I : Nat → Prop) : Nat → Prop := fun b => I b ∨ ∃ k o, find H k = some o ∧ Foot L k b

theorem snapXs_get {g : XV → Option CV} : ∀ {xs : List XV} {ys : List CV}, snapX.snapXs g xs = some ys → xs.length = ys.length ∧ ∀ (i : Nat) (x : XV), xs[i]? = some x → ∃ y, ys[i]? = some y ∧ g x = some y
  | [], ys, h => by simp only [snapX.snapXs, Option.some.injEq] at h; subst h; simp
  | x :: xs, ys, h => by
    simp only [snapX.snapXs] at h
    split at h
    · rename_i y ys' h1 h2
      cases h
      obtain ⟨g1, g2⟩ := snapXs_get h2
      refine ⟨by simp [g1], fun i z hz => ?_⟩
      cases i with
      | zero => simp only [List.getElem?_cons_zero, Option.some.injEq] at hz ⊢; subst hz; exact ⟨y, rfl, h1⟩
      | succ i => simp only [List.getElem?_cons_succ] at hz ⊢; exact g2 i z hz
    · cases h

theorem snapX_sound {O : Nat → Prop} {H : Heap} (hh : HeapOK O L H I w) : ∀ (n : Nat) {x : XV} {v : Value} {y : CV}, RepX L H I w v x → snapX H n x = some y → RepC (Iall L H I) w v y := by
  have hII : ∀ b, I b → Iall L H I b := fun b h => Or.inl h
  have hk : ∀ {k o}, find H k = some o → ∀ b, L.blk k = some b → Iall L H I b := fun hf b hb => Or.inr ⟨_, _, hf, .inl hb⟩
  have hkd : ∀ {k o}, find H k = some o → ∀ b, Foot L k b → Iall L H I b := fun hf b hb => Or.inr ⟨_, _, hf, hb⟩
  intro n
  induction n with
  | zero =>
    intro x v y hx h
    cases x <;> simp only [snapX, reduceCtorEq] at h
    · cases h; exact RepC.mono hII (fun _ _ => rfl) hx
    · cases h; have hx : v = _ := hx; subst hx; exact .nil _
    · split at h
      · rename_i sz rows hf; cases h; exact slice_of_arr hII (hk hf) (hh.ob _ _ hf) hf hx
      · cases h
    · split at h
      · rename_i sz rows hf; cases h; exact part_of_arr hII (hk hf) (hh.ob _ _ hf) hf hx
      · cases h
    · split at h
      · rename_i ap sz rows hf; cases h; exact slice_of_deep (hkd hf) (hh.ob _ _ hf) hf hx
      · cases h
  | succ n ih =>
    intro x v y hx h
    cases x <;> simp only [snapX, reduceCtorEq] at h
    · cases h; exact RepC.mono hII (fun _ _ => rfl) hx
    · cases h; have hx : v = _ := hx; subst hx; exact .nil _
    · split at h
      · rename_i sz rows hf; cases h; exact slice_of_arr hII (hk hf) (hh.ob _ _ hf) hf hx
      · cases h
    · split at h
      · rename_i sz rows hf; cases h; exact part_of_arr hII (hk hf) (hh.ob _ _ hf) hf hx
      · cases h
    · rename_i k off len
      split at h
      · rename_i cs hf
        split at h
        · rename_i ys hys
          cases h
          obtain ⟨cs', b, g1, g2, g3, rfl⟩ := hx
          rw [hf] at g1; cases g1
          obtain ⟨b', vs, e, fr, h1, h2, h3, h5, hsz, h4⟩ := hh.ob _ _ hf
          rw [g2] at h1; cases h1
          obtain ⟨hl, hget⟩ := snapXs_get hys
          refine RepC.ptr b off len _ (fun j => vs.getD (off + j) undef) (hk hf b g2) (sub_length _ _ _ (by omega)) (fun j c hc => ?_) (fun j c hc => ?_)
          all_goals
            obtain ⟨q1, q2⟩ := sub_get _ _ _ _ _ hc
            have hj : off + j < cs.length := by omega
            have hjv : off + j < vs.size := by omega
            obtain ⟨y, e1, e2⟩ := hget _ cs[off + j] (List.getElem?_eq_getElem hj)
            rw [q2] at e1; cases e1
            have e3 : vs.getD (off + j) undef = vs[off + j] := by simp [hjv]
          · rw [cell_row h2]
            show vs[off + j]? = some (vs.getD (off + j) undef)
            rw [e3]; exact Array.getElem?_eq_getElem hjv
          · show RepC _ w (vs.getD (off + j) undef) c
            rw [e3]
            exact ih (h4 _ _ _ (List.getElem?_eq_getElem hj) (Array.getElem?_eq_getElem hjv)) e2
        · cases h
      · cases h
    · split at h
      · rename_i ap sz rows hf; cases h; exact slice_of_deep (hkd hf) (hh.ob _ _ hf) hf hx
      · cases h
    · rename_i g pre k len post
      split at h
      · rename_i cs hf
        split at h
        · rename_i ys hys
          cases h
          obtain ⟨hl, hget⟩ := snapXs_get hys
          refine fn_of_box (cs := cs) hl hII (fun b g2 => ?_) hf hx
          obtain ⟨b', vs, e, fr, h1, h2, h3, h5, hsz, h4⟩ := hh.ob _ _ hf
          rw [g2] at h1; cases h1
          obtain ⟨_, _, _, _, g1, _, g3, _⟩ := hx
          rw [hf] at g1; cases g1
          refine RepC.ptr b 0 _ _ (fun j => vs.getD j undef) (hk hf b g2) (by omega) (fun j c hc => ?_) (fun j c hc => ?_)
          all_goals
            have hj : j < cs.length := by rw [hl]; exact (List.getElem?_eq_some_iff.1 hc).1
            have hjv : j < vs.size := by omega
            obtain ⟨y, e1, e2⟩ := hget _ cs[j] (List.getElem?_eq_getElem hj)
            rw [hc] at e1; cases e1
            have e3 : vs.getD j undef = vs[j] := by simp [hjv]
          · rw [Nat.zero_add, cell_row h2]
            show vs[j]? = some (vs.getD j undef)
            rw [e3]; exact Array.getElem?_eq_getElem hjv
          · show RepC _ w (vs.getD j undef) c
            rw [e3]
            exact ih (h4 _ _ _ (List.getElem?_eq_getElem hj) (Array.getElem?_eq_getElem hjv)) e2
        · cases h
      · cases h

theorem frzXs_get {H : Heap} : ∀ {xs ys : List XV}, frzXs H xs = some ys → xs.length = ys.length ∧ ∀ (i : Nat) (x : XV), xs[i]? = some x → ∃ y, ys[i]? = some (.c y) ∧ snapX H 3 x = some y
  | [], ys, h => by simp only [frzXs, Option.some.injEq] at h; subst h; simp
  | x :: xs, ys, h => by
    simp only [frzXs] at h
    split at h
    · rename_i y ys' h1 h2
      cases h
      obtain ⟨g1, g2⟩ := frzXs_get h2
      refine ⟨by simp [g1], fun i z hz => ?_⟩
      cases i with
      | zero => simp only [List.getElem?_cons_zero, Option.some.injEq] at hz ⊢; subst hz; exact ⟨y, rfl, h1⟩
      | succ i => simp only [List.getElem?_cons_succ] at hz ⊢; exact g2 i z hz
    · cases h

theorem frzXs_rep {O : Nat → Prop} {H : Heap} (hh : HeapOK O L H I w) {L' : Lay} {H' : Heap} {I' : Nat → Prop} (hI : ∀ b, Iall L H I b → I' b) {xs ys : List XV} (h : frzXs H xs = some ys) {vs : Array Value} (hr : RepXs L H I w vs xs) : RepXs L' H' I' w vs ys := by
  obtain ⟨g1, g2⟩ := frzXs_get h
  refine ⟨by rw [← g1]; exact hr.1, fun i y v hy hv => ?_⟩
  have hi : i < xs.length := by rw [g1]; exact (List.getElem?_eq_some_iff.1 hy).1
  obtain ⟨z, e1, e2⟩ := g2 i xs[i] (List.getElem?_eq_getElem hi)
  rw [hy] at e1; cases e1
  exact (snapX_sound hh 3 (hr.2 i _ v (List.getElem?_eq_getElem hi) hv) e2).mono hI (fun _ _ => rfl)

theorem frzT_get {H : Heap} : ∀ {ps qs : List (Bool × List XV)}, frzT H ps = some qs → ps.length = qs.length ∧ ∀ (i : Nat) (b : Bool) (xs : List XV), ps[i]? = some (b, xs) → ∃ ys, qs[i]? = some (b, ys) ∧ frzXs H xs = some ys
  | [], qs, h => by simp only [frzT, Option.some.injEq] at h; subst h; simp
  | (b, xs) :: ps, qs, h => by
    simp only [frzT] at h
    split at h
    · rename_i ys qs' h1 h2
      cases h
      obtain ⟨g1, g2⟩ := frzT_get h2
      refine ⟨by simp [g1], fun i b' z hz => ?_⟩
      cases i with
      | zero => simp only [List.getElem?_cons_zero, Option.some.injEq, Prod.mk.injEq] at hz ⊢; obtain ⟨rfl, rfl⟩ := hz; exact ⟨ys, ⟨rfl, rfl⟩, h1⟩
      | succ i => simp only [List.getElem?_cons_succ] at hz ⊢; exact g2 i b' z hz
    · cases h

theorem frzP_rep {O : Nat → Prop} {H : Heap} (hh : HeapOK O L H I w) {L' : Lay} {H' : Heap} {I' : Nat → Prop} (hI : ∀ b, Iall L H I b → I' b) {p q : PV} (h : frzP (p, H) = some q) {v : Value} (hr : RepP L H I w v p) : RepP L' H' I' w v q := by
  cases p with
  | one x =>
    simp only [frzP] at h
    split at h
    · rename_i y hy; cases h; exact (snapX_sound hh 3 hr hy).mono hI (fun _ _ => rfl)
    · cases h
  | agg xs =>
    simp only [frzP] at h
    split at h
    · rename_i ys hys; cases h; obtain ⟨vs, rfl, hvs⟩ := hr; exact ⟨vs, rfl, frzXs_rep hh hI hys hvs⟩
    · cases h
  | tup ps =>
    simp only [frzP] at h
    split at h
    · rename_i qs hqs
      cases h
      obtain ⟨vs, rfl, hsz, hvs⟩ := hr
      obtain ⟨g1, g2⟩ := frzT_get hqs
      refine ⟨vs, rfl, by rw [hsz, g1], fun i q u hq hu => ?_⟩
      have hi : i < ps.length := by rw [g1]; exact (List.getElem?_eq_some_iff.1 hq).1
      obtain ⟨ys, e1, e2⟩ := g2 i ps[i].1 ps[i].2 (List.getElem?_eq_getElem hi)
      rw [hq] at e1; cases e1
      have hr := hvs i ps[i] u (List.getElem?_eq_getElem hi) hu
      obtain ⟨g3, g4⟩ := frzXs_get e2
      generalize ps[i] = p at *
      obtain ⟨b, xs⟩ := p
      cases b with
      | true => obtain ⟨cs, rfl, hcs⟩ := hr; exact ⟨cs, rfl, frzXs_rep hh hI e2 hcs⟩
      | false =>
        match xs, hr with
        | [x], hr =>
          match ys, g3 with
          | [y], _ =>
            obtain ⟨z, e3, e4⟩ := g4 0 x rfl
            simp only [List.getElem?_cons_zero, Option.some.injEq] at e3
            subst e3
            exact (snapX_sound hh 3 hr e4).mono hI (fun _ _ => rfl)
    · cases h

theorem RepC.scalar_any {I I' : Nat → Prop} {w w' : World} {v : Value} {c : CV} (hs : c.scalar = true) (h : RepC I w v c) : RepC I' w' v c := by
  cases h <;> first | (simp [CV.scalar] at hs; done) | constructor

theorem RepX.scalar_any {L L' : Lay} {H H' : Heap} {I I' : Nat → Prop} {w w' : World} {v : Value} {x : XV} (hs : x.scalar = true) (h : RepX L H I w v x) : RepX L' H' I' w' v x := by
  cases x <;> simp only [XV.scalar, Bool.false_eq_true] at hs
  exact RepC.scalar_any hs h

theorem RepXs.scalar_any {L L' : Lay} {H H' : Heap} {I I' : Nat → Prop} {w w' : World} {vs : Array Value} {xs : List XV} (hs : xs.all XV.scalar = true) (h : RepXs L H I w vs xs) : RepXs L' H' I' w' vs xs :=
  ⟨h.1, fun i x v h1 h2 => RepX.scalar_any (List.all_eq_true.1 hs x (List.mem_of_getElem? h1)) (h.2 i x v h1 h2)⟩

theorem RepP.scalar_any {L L' : Lay} {H H' : Heap} {I I' : Nat → Prop} {w w' : World} {v : Value} {p : PV} (hs : p.scalar = true) (h : RepP L H I w v p) : RepP L' H' I' w' v p := by
  cases p with
  | one x => exact RepX.scalar_any hs h
  | agg xs => obtain ⟨vs, rfl, h⟩ := h; exact ⟨vs, rfl, RepXs.scalar_any hs h⟩
  | tup ps =>
    obtain ⟨vs, rfl, hsz, hr⟩ := h
    refine ⟨vs, rfl, hsz, fun i p v h1 h2 => ?_⟩
    have hp := List.all_eq_true.1 hs p (List.mem_of_getElem? h1)
    have := hr i p v h1 h2
    obtain ⟨b, xs⟩ := p
    cases b with
    | true => obtain ⟨cs, rfl, hcs⟩ := this; exact ⟨cs, rfl, RepXs.scalar_any hp hcs⟩
    | false =>
      match xs, this, hp with
      | [x], this, hp => exact RepX.scalar_any (by simpa using hp) this

theorem noKeyX_iff : ∀ {xs : List XV}, noKeyX xs = true ↔ ∀ x ∈ xs, x.key? = none
  | [] => by simp [noKeyX]
  | x :: xs => by
    simp only [noKeyX]
    cases h : x.key? with
    | none => simp [h, noKeyX_iff (xs := xs)]
    | some k => simp [h]

/-- Without references the content is read from 'I' alone. -/
theorem snapX_pure {H : Heap} {n : Nat} {x : XV} {v : Value} {y : CV} (hk : x.key? = none) (hx : RepX L H I w v x) (h : snapX H n x = some y) : RepC I w v y := by
  cases x <;> simp only [XV.key?, reduceCtorEq] at hk
  · cases n <;> (simp only [snapX, Option.some.injEq] at h; subst h; exact hx)
  · cases n <;> (simp only [snapX, Option.some.injEq] at h; subst h; have hx : v = _ := hx; subst hx; exact .nil _)
  · cases n <;> simp [snapX] at h
  · cases n <;> simp [snapX] at h

theorem snapB_get {H : Heap} : ∀ {vs : List PV} {cs : List Comp}, snapB H vs = some cs → vs.length = cs.length ∧ ∀ (i : Nat) (p : PV), vs[i]? = some p → ∃ c, cs[i]? = some c ∧ ((∃ x y, p = .one x ∧ snapX H 3 x = some y ∧ c = (false, [y])) ∨ ∃ xs ys, p = .agg xs ∧ snapX.snapXs (snapX H 3) xs = some ys ∧ c = (true, ys))
  | [], cs, h => by simp only [snapB, Option.some.injEq] at h; subst h; simp
  | p :: vs, cs, h => by
    simp only [snapB] at h
    split at h
    · rename_i c cs' h1 h2
      cases h
      obtain ⟨g1, g2⟩ := snapB_get h2
      refine ⟨by simp [g1], fun i q hq => ?_⟩
      cases i with
      | zero =>
        simp only [List.getElem?_cons_zero, Option.some.injEq] at hq ⊢
        subst hq
        refine ⟨c, rfl, ?_⟩
        cases p with
        | one x =>
          simp only [Option.map_eq_some_iff] at h1
          obtain ⟨y, e1, e2⟩ := h1
          exact Or.inl ⟨x, y, rfl, e1, e2.symm⟩
        | agg xs =>
          simp only [Option.map_eq_some_iff] at h1
          obtain ⟨y, e1, e2⟩ := h1
          exact Or.inr ⟨xs, y, rfl, e1, e2.symm⟩
        | tup _ => cases h1
      | succ i => simp only [List.getElem?_cons_succ] at hq ⊢; exact g2 i q hq
    · cases h

theorem comp_of_snap {O : Nat → Prop} {H : Heap} (hh : HeapOK O L H I w) {p : PV} {v : Value} {c : Comp} (hr : RepP L H I w v p) (h : (∃ x y, p = .one x ∧ snapX H 3 x = some y ∧ c = (false, [y])) ∨ ∃ xs ys, p = .agg xs ∧ snapX.snapXs (snapX H 3) xs = some ys ∧ c = (true, ys)) :
    RepComp (Iall L H I) w v c ∧ (noKeyP p = true → RepComp I w v c) := by
  rcases h with ⟨x, y, rfl, h1, rfl⟩ | ⟨xs, ys, rfl, h1, rfl⟩
  · exact ⟨snapX_sound hh 3 hr h1, fun hk => snapX_pure (noKeyX_iff.1 hk x (by simp)) hr h1⟩
  · obtain ⟨vs, rfl, hsz, hvs⟩ := hr
    obtain ⟨g1, g2⟩ := snapXs_get h1
    refine ⟨⟨vs, rfl, by rw [hsz, g1], fun i y v hy hv => ?_⟩, fun hk => ⟨vs, rfl, by rw [hsz, g1], fun i y v hy hv => ?_⟩⟩
    all_goals
      have hi : i < xs.length := by rw [g1]; exact (List.getElem?_eq_some_iff.1 hy).1
      obtain ⟨z, e1, e2⟩ := g2 i xs[i] (List.getElem?_eq_getElem hi)
      rw [hy] at e1; cases e1
      have hr := hvs i _ v (List.getElem?_eq_getElem hi) hv
    · exact snapX_sound hh 3 hr e2
    · exact snapX_pure (noKeyX_iff.1 hk _ (List.getElem_mem hi)) hr e2

theorem noKeys_iff : ∀ {vs : List PV}, noKeys vs = true ↔ ∀ p ∈ vs, noKeyP p = true
  | [] => by simp [noKeys]
  | p :: vs => by
    simp only [noKeys]
    cases h : noKeyP p with
    | true => simp [h, noKeys_iff (vs := vs)]
    | false => simp [h]

end

end Go.Proofs.Ytjolahiflldepab.Pi
