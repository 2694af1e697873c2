/- Renaming, freezing, writing of own objects keep the invariant. No statement of the seat is proved here. -/
import Derived.Test.YtjolahiflldepabPiS2
namespace Go.Proofs.Ytjolahiflldepab.Pi
open Go Go.RowKit
set_option linter.unusedVariables false
set_option linter.unusedSimpArgs false

theorem cell_row {w : World} {b j : Nat} {cs : Array Value} {t : TypeId} {fr : Nat × Nat} (h : w.heap[b]? = some (.cells cs t fr)) : w.cell? ⟨b, j, none⟩ = cs[j]? := by
  simp [World.cell?, h]

theorem find_key {L : Lay} {H : Heap} {I : Nat → Prop} {w : World} {v : Value} {x : XV} {k : Nat} (hx : x.key? = some k) (h : RepX L H I w v x) : ∃ o, find H k = some o := by
  cases x <;> simp only [XV.key?, Option.some.injEq, reduceCtorEq] at hx <;> subst hx
  · obtain ⟨_, _, h, _⟩ := h; exact ⟨_, h⟩
  · obtain ⟨_, _, h, _⟩ := h; exact ⟨_, h⟩
  · obtain ⟨_, _, h, _⟩ := h; exact ⟨_, h⟩
  · obtain ⟨_, _, _, h, _⟩ := h; exact ⟨_, h⟩
  · obtain ⟨_, _, _, h, _⟩ := h; exact ⟨_, h⟩
  · obtain ⟨_, _, _, _, h, _⟩ := h; exact ⟨_, h⟩
  · obtain ⟨_, _, _, h, _⟩ := h; exact ⟨_, h⟩
  · obtain ⟨_, _, _, _, h, _⟩ := h; exact ⟨_, h⟩

theorem renK_inv {C : Ctx} {L : Lay} {I : Nat → Prop} {s : St} {a : Act} {w : World} {k k2 : Nat} {K : St → Prop} (hK : renK k k2 s K) (hi : Inv C L I s a w) (hne : ∃ o, find s.heap k = some o) :
    ∃ s' L', K s' ∧ Inv C L' I s' a w ∧ (∀ v, RepX L s.heap I w v (.rs k) → RepX L' s'.heap I w v (.rs k2)) ∧ (∀ v, RepX L s.heap I w v (.ds k) → RepX L' s'.heap I w v (.ds k2)) := by
  unfold renK at hK
  cases hb : Nat.beq k k2 with
  | true =>
    simp only [hb] at hK
    have e := beq_iff.1 hb
    subst e
    exact ⟨s, L, hK, hi, fun v h => h, fun v h => h⟩
  | false =>
    simp only [hb] at hK
    have hkk := beq_false.1 hb
    split at hK
    · exact hK.elim
    rename_i hlt
    have hlt : pinK k2 = false := hlt
    obtain ⟨s1, hK, hi1, hn, hfs, hkeep⟩ := killK_inv hK hi
    cases hfd : find s1.heap k with
    | none => simp [hfd] at hK
    | some o =>
      simp only [hfd, force_eq] at hK
      let L' : Lay := L.updD k2 (L.blk k) (L.cap k) (L.fp k) (L.hd k)
      have hs2 : L'.blk k2 = L.blk k ∧ L'.cap k2 = L.cap k ∧ L'.fp k2 = L.fp k ∧ L'.hd k2 = L.hd k := ⟨by simp [L', Lay.updD], by simp [L', Lay.updD], by simp [L', Lay.updD], by simp [L', Lay.updD]⟩
      have hfk : ∀ {b}, Foot L' k2 b → Foot L k b := fun {b} h => by simpa [Foot, L', Lay.updD] using h
      have hfj : ∀ {j b}, j ≠ k2 → Foot L' j b → Foot L j b := fun {j b} e h => by simpa [Foot, L', Lay.updD, e] using h
      have hdn : find (del k s1.heap) k2 = none := by
        rw [find_del]; split
        · rfl
        · exact hn
      have hfind : ∀ j, find ((ins k2 o (del k s1.heap)).mapX (XV.rename k k2)) j = if j = k2 then some (o.map (XV.rename k k2)) else if j = k then none else (find s1.heap j).map (Ob.map (XV.rename k k2)) := fun j => by
        rw [find_mapX, find_ins k2 o _ j hdn, find_del]
        by_cases e : j = k2
        · simp [e]
        · by_cases e2 : j = k <;> simp [e, e2]
      have hf : ∀ v x, RepX L s1.heap I w v x → RepX L' ((ins k2 o (del k s1.heap)).mapX (XV.rename k k2)) I w v (x.rename k k2) := fun v x h => by
        have hx2 : ∀ j, x.key? = some j → j ≠ k2 := fun j hj e => by
          subst e
          obtain ⟨o', ho'⟩ := find_key hj h
          rw [hn] at ho'; cases ho'
        by_cases hx : x.key? = some k
        · cases x <;> simp only [XV.key?, Option.some.injEq, reduceCtorEq] at hx <;> subst hx
          · obtain ⟨sz, rows, g1, g2⟩ := h
            simp only [XV.rename, (beq_iff (a := _) (b := _)).2 rfl]
            rw [hfd] at g1; cases g1
            exact ⟨sz, rows, by simp [hfind, Ob.map], by rw [hs2.1, hs2.2.1]; exact g2⟩
          · obtain ⟨sz, rows, g1, g3, g2⟩ := h
            simp only [XV.rename, (beq_iff (a := _) (b := _)).2 rfl]
            rw [hfd] at g1; cases g1
            exact ⟨sz, rows, by simp [hfind, Ob.map], g3, by rw [hs2.1, hs2.2.1]; exact g2⟩
          · obtain ⟨cs, b, g1, g2, g3, g4⟩ := h
            simp only [XV.rename, (beq_iff (a := _) (b := _)).2 rfl]
            rw [hfd] at g1; cases g1
            exact ⟨_, b, by rw [hfind, if_pos rfl]; rfl, by rw [hs2.1]; exact g2, by simpa using g3, g4⟩
          · obtain ⟨sz, rows, b, g1, g2, g3⟩ := h
            simp only [XV.rename, (beq_iff (a := _) (b := _)).2 rfl]
            rw [hfd] at g1; cases g1
            exact ⟨sz, rows, b, by simp [hfind, Ob.map], by rw [hs2.1]; exact g2, g3⟩
          · obtain ⟨a, sz, rows, g1, g2⟩ := h
            simp only [XV.rename, (beq_iff (a := _) (b := _)).2 rfl]
            rw [hfd] at g1; cases g1
            exact ⟨a, sz, rows, by simp [hfind, Ob.map], by rw [hs2.1, hs2.2.1]; exact g2⟩
          · obtain ⟨a, sz, rows, b, g1, g2, g3⟩ := h
            simp only [XV.rename, (beq_iff (a := _) (b := _)).2 rfl]
            rw [hfd] at g1; cases g1
            exact ⟨a, sz, rows, b, by simp [hfind, Ob.map], by rw [hs2.1]; exact g2, g3⟩
          · obtain ⟨a, sz, rows, g1, g2, g3, g4⟩ := h
            simp only [XV.rename, (beq_iff (a := _) (b := _)).2 rfl]
            rw [hfd] at g1; cases g1
            exact ⟨a, sz, rows, by simp [hfind, Ob.map], g2, by rw [hs2.2.2.2]; exact g3, g4⟩
          · obtain ⟨vs, cells, b, g0, g1, g2, g3, g4⟩ := h
            simp only [XV.rename, (beq_iff (a := _) (b := _)).2 rfl]
            rw [hfd] at g1; cases g1
            exact ⟨vs, _, b, g0, by rw [hfind, if_pos rfl]; rfl, by rw [hs2.1]; exact g2, by simpa using g3, g4⟩
        · have e : x.rename k k2 = x := by
            cases x <;> simp only [XV.rename] <;> (split <;> rename_i hb' <;> first | rfl | exact absurd (by simp [XV.key?, beq_iff.1 hb']) hx)
          rw [e]
          refine RepX.ext (q := fun j => j ≠ k ∧ j ≠ k2) (fun j o' hq hj => ⟨⟨o'.map (XV.rename k k2), by rw [hfind, if_neg hq.2, if_neg hq.1, hj]; rfl, shape_map _ _⟩, (L.updD_same hq.2).1, (L.updD_same hq.2).2.1, (L.updD_same hq.2).2.2.2⟩) (fun _ h => h) (fun _ _ => rfl) (fun j hj => ⟨fun e => hx (e ▸ hj), hx2 j hj⟩) h
      refine ⟨_, L', hK, hi1.change (f := XV.rename k k2) hf rfl ?_ hi.Ib hi.Io hi.fr (fun j o' hj h => by
        have e : j ≠ k2 := fun e => by rw [e, hlt] at hj; cases hj
        simp only [hfind, if_neg e] at h
        split at h
        · cases h
        · cases h3 : find s1.heap j with
          | none => simp [h3] at h
          | some o3 => exact ⟨o3, rfl, (L.updD_same e).1, (L.updD_same e).2.1⟩), fun v h => ?_, fun v h => ?_⟩
      · refine ⟨fun j o' h => ?_, fun j o' b h hbk => ?_, fun j j' o1 o2 b h h' hbk hbk' => ?_⟩
        · by_cases e : j = k2
          · subst e
            simp only [hfind, if_true, Option.some.injEq] at h
            subst h
            have := hi1.heap.ob k o hfd
            cases o with
            | box cs =>
              obtain ⟨b, vs, e', fr, g1, g2, g3, g5, g4⟩ := this
              exact ⟨b, vs, e', fr, by rw [hs2.1]; exact g1, g2, g3, g5, g4.map' hf⟩
            | arr sz rows =>
              simp only [RepO, Ob.map] at this ⊢
              rw [hs2.1, hs2.2.1]; exact this
            | deep a sz rows =>
              simp only [RepO, Ob.map] at this ⊢
              rw [hs2.1, hs2.2.1, hs2.2.2.1, hs2.2.2.2]; exact this
          · by_cases e2 : j = k
            · simp [hfind, e, e2, hkk] at h
            · cases h3 : find s1.heap j with
              | none => simp [hfind, e, e2, h3] at h
              | some o3 =>
                simp only [hfind, e, e2, h3, if_false, Option.map_some, Option.some.injEq] at h
                subst h
                exact (hi1.heap.ob j o3 h3).ext hf (fun _ h => h) (fun _ _ => rfl) (L.updD_same e) (fun _ _ => rfl)
        · by_cases e : j = k2
          · subst e
            exact hi1.heap.own k o b hfd (hfk hbk)
          · by_cases e2 : j = k
            · simp [hfind, e, e2, hkk] at h
            · cases h3 : find s1.heap j with
              | none => simp [hfind, e, e2, h3] at h
              | some o3 => exact hi1.heap.own j o3 b h3 (hfj e hbk)
        · by_cases e : j = k2
          · by_cases e2 : j' = k2
            · rw [e, e2]
            · exfalso
              by_cases e3 : j' = k
              · simp [hfind, e2, e3, hkk] at h'
              · cases h3 : find s1.heap j' with
                | none => simp [hfind, e2, e3, h3] at h'
                | some o3 => exact e3 (hi1.heap.inj j' k o3 o b h3 hfd (hfj e2 hbk') (hfk (e ▸ hbk)))
          · by_cases e1 : j = k
            · simp [hfind, e, e1, hkk] at h
            · cases h3 : find s1.heap j with
              | none => simp [hfind, e, e1, h3] at h
              | some o3 =>
                by_cases e2 : j' = k2
                · exfalso
                  exact e1 (hi1.heap.inj j k o3 o b h3 hfd (hfj e hbk) (hfk (e2 ▸ hbk')))
                · by_cases e4 : j' = k
                  · simp [hfind, e2, e4, hkk] at h'
                  · cases h5 : find s1.heap j' with
                    | none => simp [hfind, e2, e4, h5] at h'
                    | some o5 => exact hi1.heap.inj j j' o3 o5 b h3 h5 (hfj e hbk) (hfj e2 hbk')
      · have h' := hf v (.rs k) (hkeep v (.rs k) h (by simp [XV.key?]; exact hkk))
        simpa [XV.rename] using h'
      · have h' := hf v (.ds k) (hkeep v (.ds k) h (by simp [XV.key?]; exact hkk))
        simpa [XV.rename] using h'

theorem pures_iff : ∀ {xs : List XV} {ys : List CV}, pures xs = some ys → xs.length = ys.length ∧ ∀ (i : Nat) (x : XV), xs[i]? = some x → ∃ y, ys[i]? = some y ∧ x.pure? = some y
  | [], ys, h => by simp only [pures, Option.some.injEq] at h; subst h; simp
  | x :: xs, ys, h => by
    simp only [pures] at h
    cases h1 : x.pure? with
    | none => simp [h1] at h
    | some c =>
      cases h2 : pures xs with
      | none => simp [h1, h2] at h
      | some cs =>
        simp only [h1, h2, Option.some.injEq] at h
        subst h
        obtain ⟨g1, g2⟩ := pures_iff h2
        refine ⟨by simp [g1], fun i y hy => ?_⟩
        cases i with
        | zero => simp only [List.getElem?_cons_zero, Option.some.injEq] at hy ⊢; subst hy; exact ⟨c, rfl, h1⟩
        | succ i => simp only [List.getElem?_cons_succ] at hy ⊢; exact g2 i y hy

theorem RepX.pure {L : Lay} {H : Heap} {I : Nat → Prop} {w : World} {v : Value} {x : XV} {y : CV} (hp : x.pure? = some y) (h : RepX L H I w v x) : RepC I w v y := by
  cases x <;> simp only [XV.pure?, Option.some.injEq, reduceCtorEq] at hp <;> subst hp
  · exact h
  · cases h; exact .nil _

/-- What an own row of cells reads as, once it is frozen. -/
theorem arr_cells {L : Lay} {H : Heap} {I I' : Nat → Prop} {w : World} {k b sz : Nat} {rows : List (List CV)} (hII : ∀ b, I b → I' b) (hk : L.blk k = some b) (hI' : I' b) (h : RepO L H I w k (.arr sz rows)) :
    ∃ vs : Nat → Value, ∀ (i : Nat) (r : List CV) (j : Nat) (c : CV), rows[i]? = some r → r[j]? = some c → w.cell? ⟨b, i * sz + j, none⟩ = some (vs (i * sz + j)) ∧ RepC I' w (vs (i * sz + j)) c := by
  simp only [RepO, hk] at h
  obtain ⟨_, _, vs, e, fr, h3, _, _, h6⟩ := h
  refine ⟨fun i => vs.getD i undef, fun i r j c g1 g2 => ?_⟩
  obtain ⟨v, g3, g4⟩ := h6 i r j c g1 g2
  have e : vs.getD (i * sz + j) undef = v := by simp [g3]
  rw [cell_row h3]
  show vs[i * sz + j]? = some (vs.getD (i * sz + j) undef) ∧ RepC I' w (vs.getD (i * sz + j) undef) c
  exact ⟨by rw [g3, e], by rw [e]; exact g4.mono hII (fun _ _ => rfl)⟩

theorem box_cells {L : Lay} {H : Heap} {I I' : Nat → Prop} {w : World} {k b : Nat} {cs : List XV} {ys : List CV} (hp : pures cs = some ys) (hII : ∀ b, I b → I' b) (hk : L.blk k = some b) (h : RepO L H I w k (.box cs)) :
    ∃ vs : Nat → Value, ∀ (j : Nat) (c : CV), ys[j]? = some c → w.cell? ⟨b, j, none⟩ = some (vs j) ∧ RepC I' w (vs j) c := by
  obtain ⟨b', vs, e, fr, h1, h2, h3, h5, hsz, h4⟩ := h
  rw [hk] at h1; cases h1
  obtain ⟨hl, hp⟩ := pures_iff hp
  refine ⟨fun i => vs.getD i undef, fun j c g => ?_⟩
  have hj : j < ys.length := (List.getElem?_eq_some_iff.1 g).1
  have hjc : j < cs.length := by omega
  have hjv : j < vs.size := by omega
  obtain ⟨y, g1, g2⟩ := hp j cs[j] (List.getElem?_eq_getElem hjc)
  rw [g] at g1; cases g1
  have := h4 j cs[j] vs[j] (List.getElem?_eq_getElem hjc) (Array.getElem?_eq_getElem hjv)
  have e : vs.getD j undef = vs[j] := by simp [hjv]
  rw [cell_row h2]
  show vs[j]? = some (vs.getD j undef) ∧ RepC I' w (vs.getD j undef) c
  rw [e]
  exact ⟨Array.getElem?_eq_getElem hjv, (RepX.pure g2 this).mono hII (fun _ _ => rfl)⟩

theorem slice_of_arr {L : Lay} {H : Heap} {I I' : Nat → Prop} {w : World} {k sz : Nat} {rows : List (List CV)} (hII : ∀ b, I b → I' b) (hI' : ∀ b, L.blk k = some b → I' b) (ho : RepO L H I w k (.arr sz rows)) (hf : find H k = some (.arr sz rows)) {v : Value} (h : RepX L H I w v (.rs k)) : RepC I' w v (.slice sz rows) := by
  obtain ⟨sz', rows', g1, g2⟩ := h
  rw [hf] at g1; cases g1
  cases hk : L.blk k with
  | none =>
    simp only [hk] at g2
    simp only [RepO, hk] at ho
    subst g2; subst ho
    exact .nil sz
  | some b =>
    simp only [hk] at g2
    subst g2
    obtain ⟨vs, hvs⟩ := arr_cells hII hk (hI' b hk) ho
    simp only [RepO, hk] at ho
    exact .slice b 0 _ sz _ rows (fun i j => vs (i * sz + j)) (hI' b hk) rfl ho.1 ho.2.1 (fun i r j c g1 g2 => by rw [Nat.zero_add]; exact (hvs i r j c g1 g2).1) (fun i r j c g1 g2 => (hvs i r j c g1 g2).2)

theorem part_of_arr {L : Lay} {H : Heap} {I I' : Nat → Prop} {w : World} {k sz off len : Nat} {rows : List (List CV)} (hII : ∀ b, I b → I' b) (hI' : ∀ b, L.blk k = some b → I' b) (ho : RepO L H I w k (.arr sz rows)) (hf : find H k = some (.arr sz rows)) {v : Value} (h : RepX L H I w v (.ru k off len)) : RepC I' w v (.slice sz ((rows.drop off).take len)) := by
  obtain ⟨sz', rows', g1, g3, g2⟩ := h
  rw [hf] at g1; cases g1
  cases hk : L.blk k with
  | none =>
    simp only [hk] at g2
    simp only [RepO, hk] at ho
    subst g2; subst ho
    simp only [List.drop_nil, List.take_nil]
    exact .nil sz
  | some b =>
    simp only [hk] at g2
    obtain ⟨q, g4, g5, rfl⟩ := g2
    obtain ⟨vs, hvs⟩ := arr_cells hII hk (hI' b hk) ho
    simp only [RepO, hk] at ho
    have hget : ∀ (i : Nat) (r : List CV), ((rows.drop off).take len)[i]? = some r → i < len ∧ rows[off + i]? = some r := fun i r hr => by
      rw [List.getElem?_take] at hr
      split at hr
      · rename_i hlt; exact ⟨hlt, by simpa [List.getElem?_drop] using hr⟩
      · cases hr
    refine .slice b q _ sz _ _ (fun i j => vs ((off + i) * sz + j)) (hI' b hk) (by simp; omega) (by omega) (fun i r hr => ho.2.1 _ r (hget i r hr).2) (fun i r j c h1 h2 => ?_) (fun i r j c h1 h2 => (hvs _ r j c (hget i r h1).2 h2).2)
    have hlt := (hget i r h1).1
    rw [g5 (.inl (by omega))]
    have := (hvs _ r j c (hget i r h1).2 h2).1
    rw [Nat.add_mul, Nat.add_assoc] at this
    rw [Nat.add_mul, Nat.add_assoc]; exact this

theorem elem_of_arr {L : Lay} {H : Heap} {I I' : Nat → Prop} {w : World} {k sz row off len : Nat} {rows : List (List CV)} (hII : ∀ b, I b → I' b) (hI' : ∀ b, L.blk k = some b → I' b) (ho : RepO L H I w k (.arr sz rows)) (hf : find H k = some (.arr sz rows)) {v : Value} (h : RepX L H I w v (.pe k row off len)) : RepC I' w v (.ptr len (sub (rows.getD row []) off len)) := by
  obtain ⟨sz', rows', b, g1, g2, g3, g4, rfl⟩ := h
  rw [hf] at g1; cases g1
  obtain ⟨vs, hvs⟩ := arr_cells hII g2 (hI' b g2) ho
  simp only [RepO, g2] at ho
  have hr : rows[row]? = some (rows.getD row []) := by simp [g3]
  have hl := ho.2.1 row _ hr
  rw [sub_eq]
  have hget : ∀ (j : Nat) (c : CV), (((rows.getD row []).drop off).take len)[j]? = some c → (rows.getD row [])[off + j]? = some c := fun j c hc => by
    rw [List.getElem?_take] at hc
    split at hc
    · simpa [List.getElem?_drop] using hc
    · cases hc
  refine .ptr b _ len _ (fun j => vs (row * sz + (off + j))) (hI' b g2) (by simp only [List.length_take, List.length_drop]; omega) (fun j c hc => ?_) (fun j c hc => (hvs row _ _ c hr (hget j c hc)).2)
  have := (hvs row _ _ c hr (hget j c hc)).1
  rw [Nat.add_assoc]; exact this

/-- What an own deep slice reads as. -/
theorem deep_cells {w : World} {J I' : Nat → Prop} {hd : Nat → Value} {b cap sz : Nat} {rows : List (List CV)} (hI : ∀ x, J x → I' x) (h : DRows w J hd b cap sz rows) :
    ∃ vs : Nat → Value, ∀ (i : Nat) (r : List CV) (j : Nat) (c : CV), rows[i]? = some r → r[j]? = some c → w.cell? ⟨b, i * sz + j, none⟩ = some (vs (i * sz + j)) ∧ RepC I' w (vs (i * sz + j)) c := by
  obtain ⟨_, _, vs, e, fr, Js, h3, _, _, h6, h7, _⟩ := h
  refine ⟨fun i => vs.getD i undef, fun i r j c g1 g2 => ?_⟩
  obtain ⟨v, g3, g4, _⟩ := h6 i r j c g1 g2
  have e : vs.getD (i * sz + j) undef = v := by simp [g3]
  rw [cell_row h3]
  show vs[i * sz + j]? = some (vs.getD (i * sz + j) undef) ∧ RepC I' w (vs.getD (i * sz + j) undef) c
  exact ⟨by rw [g3, e], by rw [e]; exact g4.toC.mono (fun x hx => hI x (h7 _ x hx)) (fun _ _ => rfl)⟩

theorem emptyV.rep {I : Nat → Prop} {w : World} {v : Value} {sz : Nat} (h : emptyV v) : RepC I w v (.slice sz []) := by
  rcases h with rfl | ⟨_, _, rfl⟩
  · exact .nil _
  · exact .empty _ _ _

theorem slice_of_deep {L : Lay} {H : Heap} {I I' : Nat → Prop} {w : World} {k sz : Nat} {a : Bool} {rows : List (List CV)} (hI' : ∀ b, Foot L k b → I' b) (ho : RepO L H I w k (.deep a sz rows)) (hf : find H k = some (.deep a sz rows)) {v : Value} (h : RepX L H I w v (.ds k)) : RepC I' w v (.slice sz rows) := by
  obtain ⟨_, sz', rows', g1, g2⟩ := h
  rw [hf] at g1; cases g1
  cases hk : L.blk k with
  | none =>
    simp only [hk] at g2
    simp only [RepO, hk] at ho
    subst ho
    exact g2.1.rep
  | some b =>
    simp only [hk] at g2
    subst g2
    simp only [RepO, hk] at ho
    obtain ⟨vs, hvs⟩ := deep_cells (I' := I') (fun x hx => hI' x (.inr hx)) ho.1
    exact .slice b 0 _ sz _ rows (fun i j => vs (i * sz + j)) (hI' b (.inl hk)) rfl ho.1.1 ho.1.2.1 (fun i r j c g1 g2 => by rw [Nat.zero_add]; exact (hvs i r j c g1 g2).1) (fun i r j c g1 g2 => (hvs i r j c g1 g2).2)

theorem elem_of_deep {L : Lay} {H : Heap} {I I' : Nat → Prop} {w : World} {k sz row off len : Nat} {a : Bool} {rows : List (List CV)} (hI' : ∀ b, Foot L k b → I' b) (ho : RepO L H I w k (.deep a sz rows)) (hf : find H k = some (.deep a sz rows)) {v : Value} (h : RepX L H I w v (.dp k row off len)) : RepC I' w v (.ptr len (sub (rows.getD row []) off len)) := by
  obtain ⟨_, sz', rows', b, g1, g2, g3, g4, rfl⟩ := h
  rw [hf] at g1; cases g1
  simp only [RepO, g2] at ho
  obtain ⟨vs, hvs⟩ := deep_cells (I' := I') (fun x hx => hI' x (.inr hx)) ho.1
  have hr : rows[row]? = some (rows.getD row []) := by simp [g3]
  have hl := ho.1.2.1 row _ hr
  rw [sub_eq]
  have hget : ∀ (j : Nat) (c : CV), (((rows.getD row []).drop off).take len)[j]? = some c → (rows.getD row [])[off + j]? = some c := fun j c hc => by
    rw [List.getElem?_take] at hc
    split at hc
    · simpa [List.getElem?_drop] using hc
    · cases hc
  refine .ptr b _ len _ (fun j => vs (row * sz + (off + j))) (hI' b (.inl g2)) (by simp only [List.length_take, List.length_drop]; omega) (fun j c hc => ?_) (fun j c hc => (hvs row _ _ c hr (hget j c hc)).2)
  have := (hvs row _ _ c hr (hget j c hc)).1
  rw [Nat.add_assoc]; exact this

/-- A closure over an own box, the box read as a pure one. -/
theorem fn_of_box {L : Lay} {H : Heap} {I I' : Nat → Prop} {w : World} {f k n : Nat} {pre post : List CV} {cs : List XV} {ys : List CV} (hl : cs.length = ys.length) (hII : ∀ b, I b → I' b)
    (hp : ∀ b, L.blk k = some b → RepC I' w (.pointer (some ⟨b, 0, none⟩)) (.ptr n ys)) (hf : find H k = some (.box cs)) {v : Value} (h : RepX L H I w v (.fb f pre k n post)) : RepC I' w v (.fn f (pre ++ .ptr n ys :: post)) := by
  obtain ⟨vs, cells, b, rfl, g1, g2, g3, g4, g5, g6, g7⟩ := h
  rw [hf] at g1; cases g1
  refine .fn f vs _ (by simp; omega) fun i c v h1 h2 => ?_
  by_cases h3 : i < pre.length
  · rw [List.getElem?_append_left h3] at h1
    exact (g5 i c v h1 h2).mono hII fun _ _ => rfl
  · rw [List.getElem?_append_right (by omega)] at h1
    by_cases h4 : i = pre.length
    · subst h4
      simp at h1
      subst h1
      rw [g6] at h2; cases h2
      exact hp b g2
    · obtain ⟨m, hm⟩ : ∃ m, i - pre.length = m + 1 := ⟨i - pre.length - 1, by omega⟩
      rw [hm, List.getElem?_cons_succ] at h1
      exact (g7 m c v h1 (by rw [← h2]; congr 1; omega)).mono hII fun _ _ => rfl

theorem ptr_of_box {L : Lay} {H : Heap} {I I' : Nat → Prop} {w : World} {k off len : Nat} {cs : List XV} {ys : List CV} (hp : pures cs = some ys) (hII : ∀ b, I b → I' b) (hI' : ∀ b, L.blk k = some b → I' b) (ho : RepO L H I w k (.box cs)) (hf : find H k = some (.box cs)) {v : Value} (h : RepX L H I w v (.pb k off len)) : RepC I' w v (.ptr len (sub ys off len)) := by
  obtain ⟨cs', b, g1, g2, g3, rfl⟩ := h
  rw [hf] at g1; cases g1
  obtain ⟨vs, hvs⟩ := box_cells hp hII g2 ho
  have hl := (pures_iff hp).1
  rw [sub_eq]
  have hget : ∀ (j : Nat) (c : CV), ((ys.drop off).take len)[j]? = some c → ys[off + j]? = some c := fun j c hc => by
    rw [List.getElem?_take] at hc
    split at hc
    · simpa [List.getElem?_drop] using hc
    · cases hc
  exact .ptr b off len _ (fun j => vs (off + j)) (hI' b g2) (by simp only [List.length_take, List.length_drop]; omega) (fun j c hc => (hvs _ c (hget j c hc)).1) (fun j c hc => (hvs _ c (hget j c hc)).2)

end Go.Proofs.Ytjolahiflldepab.Pi
