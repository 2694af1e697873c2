/- One operation that leaves the abstract state alone: sound. No statement of the seat is proved here. -/
import Derived.Test.YtjolahiflldepabPiS10
import Derived.IntWalk
namespace Go.Proofs.Ytjolahiflldepab.Pi
open Go Go.RowKit
set_option linter.unusedVariables false
set_option linter.unusedSimpArgs false

section
variable {P : Program} {C : Ctx} {L : Lay} {I : Nat → Prop} {s : St} {a : Act} {w : World}

theorem cells_pure {v : Value} {p : PV} {ys : List CV} (hp : p.cellsX.bind pures = some ys) (h : RepP L s.heap I w v p) : v.cells.size = ys.length ∧ ∀ (i : Nat) (y : CV) (u : Value), ys[i]? = some y → v.cells[i]? = some u → RepC I w u y := by
  cases hx : p.cellsX with
  | none => simp [hx] at hp
  | some xs =>
    simp only [hx, Option.bind_some] at hp
    obtain ⟨g1, g2⟩ := pures_iff hp
    have hlive : allLive xs = true := allLive_iff.2 fun x hm => by
      obtain ⟨i, hi, rfl⟩ := List.mem_iff_getElem.1 hm
      obtain ⟨y, _, e⟩ := g2 i _ (List.getElem?_eq_getElem hi)
      generalize xs[i] = x at e
      cases x <;> first | rfl | simp [XV.pure?] at e
    have hr := cellsX_rep hx (Or.inl hlive) h
    refine ⟨by rw [hr.1, g1], fun i y u hy hu => ?_⟩
    have hi : i < xs.length := by rw [g1]; exact (List.getElem?_eq_some_iff.1 hy).1
    obtain ⟨z, e1, e2⟩ := g2 i xs[i] (List.getElem?_eq_getElem hi)
    rw [hy] at e1; cases e1
    exact RepX.pure e2 (hr.2 i _ u (List.getElem?_eq_getElem hi) hu)

theorem fill_rows {sz : Nat} (hsz : 0 < sz) : ∀ {ps : List (Nat × PV)} {vs : List (Nat × Value)} {start : Nat} {cells : Array Value} {rows : List (List CV)}, listRows sz start ps = some rows → PartsRep L s.heap I w ps vs → (start + rows.length) * sz ≤ cells.size →
    ∃ out, Instr.fill (fun i => some (i * sz, sz)) cells vs = some out ∧ out.size = cells.size ∧ (∀ q, q < start * sz → out[q]? = cells[q]?) ∧ (∀ (i : Nat) (r : List CV), rows[i]? = some r → r.length = sz) ∧
      ∀ (i : Nat) (r : List CV) (j : Nat) (c : CV), rows[i]? = some r → r[j]? = some c → ∃ u, out[(start + i) * sz + j]? = some u ∧ RepC I w u c
  | [], [], start, cells, rows, h, _, _ => by
    simp only [listRows, Option.some.injEq] at h
    subst h
    exact ⟨cells, rfl, rfl, fun _ _ => rfl, fun i r h => by simp at h, fun i r j c h => by simp at h⟩
  | (j0, p) :: ps, (_, v) :: vs, start, cells, rows, h, hp, hfit => by
    obtain ⟨rfl, hpv, hp⟩ := hp
    simp only [listRows] at h
    split at h
    · rename_i ys rows' hb hys hrows
      have e := beq_iff.1 hb
      subst e
      split at h
      · rename_i hl
        cases h
        have hl := lenIs_iff.1 hl
        obtain ⟨hvs, hvr⟩ := cells_pure hys hpv
        simp only [List.length_cons] at hfit
        have hfit1 : start * sz + sz ≤ cells.size := by
          have : (start + 1) * sz ≤ (start + (rows'.length + 1)) * sz := Nat.mul_le_mul_right _ (by omega)
          rw [Nat.add_mul] at this; omega
        have hnot : ¬ (v.cells.size ≠ sz ∨ start * sz + v.cells.size > cells.size) := by omega
        have hget : ∀ i, (v.cells.zipIdx.foldl (fun cs (p : Value × Nat) => cs.setIfInBounds (start * sz + p.2) p.1) cells)[i]? = if start * sz ≤ i ∧ i < start * sz + sz then v.cells[i - start * sz]? else cells[i]? := fun i => by
          rw [← Array.foldl_toList]
          have hzi : v.cells.zipIdx.toList = v.cells.toList.zipIdx := by simp
          rw [hzi, fold_get v.cells.toList 0 (start * sz) cells i (by simp; omega)]
          simp only [Nat.add_zero, Array.length_toList, hvs, hl, Array.getElem?_toList]
        have hszf : (v.cells.zipIdx.foldl (fun cs (p : Value × Nat) => cs.setIfInBounds (start * sz + p.2) p.1) cells).size = cells.size := by
          rw [← Array.foldl_toList, fold_size]
        obtain ⟨out, g1, g2, g3, g4, g5⟩ := fill_rows hsz (start := start + 1) (cells := v.cells.zipIdx.foldl (fun cs (p : Value × Nat) => cs.setIfInBounds (start * sz + p.2) p.1) cells) hrows hp (by rw [hszf, Nat.add_assoc, Nat.add_comm 1]; exact hfit)
        refine ⟨out, ?_, by rw [g2, hszf], fun q hq => ?_, fun i r hr => ?_, fun i r j c hr hc => ?_⟩
        · simp only [Instr.fill, Bool.or_eq_true, decide_eq_true_eq, ne_eq]
          rw [if_neg hnot]
          exact g1
        · rw [g3 q (by rw [Nat.add_mul]; omega), hget, if_neg (by omega)]
        · cases i with
          | zero => simp at hr; subst hr; exact hl
          | succ i => simp at hr; exact g4 i r hr
        · cases i with
          | zero =>
            simp at hr; subst hr
            have hj : j < sz := by rw [← hl]; exact (List.getElem?_eq_some_iff.1 hc).1
            rw [Nat.add_zero, g3 _ (by rw [Nat.add_mul]; omega), hget, if_pos (by omega), Nat.add_sub_cancel_left]
            have hjv : j < v.cells.size := by omega
            exact ⟨v.cells[j], Array.getElem?_eq_getElem hjv, hvr j c _ hc (Array.getElem?_eq_getElem hjv)⟩
          | succ i =>
            simp at hr
            have := g5 i r j c hr hc
            rw [show start + (i + 1) = start + 1 + i by omega]; exact this
      · cases h
    · cases h
  | [], _ :: _, _, _, _, _, hp, _ => hp.elim
  | _ :: _, [], _, _, _, _, hp, _ => hp.elim


/-- The operation goes, and leaves a value of this content; the abstract state is as it was. -/
def Goes (P : Program) (C : Ctx) (L : Lay) (s : St) (a : Act) (w : World) (o : Oper) (pv : PV) : Prop :=
  ∀ (next : Act → World → Prop) (Q : Exit → Act → World → Prop), True → (∀ v w' I', Inv C L I' s a w' → RepP L s.heap I' w' v pv → next (a.put o.dst v) w') → o.wp P a w next Q ∨ (o.asks P a w ∧ LetsOut Q)

theorem goes_runs {o : Oper} {m : Sem Value} {K : PV → Prop} (hi : Inv C L I s a w) (ho : execOp a.eval o = (do pure (.value (← m)))) (hr : Runs P L s.heap I w m K) : ∃ pv, K pv ∧ Goes P C L s a w o pv := by
  obtain ⟨pv, v, h1, h2, h3⟩ := hr
  refine ⟨pv, h1, fun next Q _ hn => Or.inl ?_⟩
  unfold Oper.wp
  rw [ho, Sem.run_bind, h2]
  exact hn v w I hi h3

theorem exec_call {o : Oper} {c : Call} {f : Operand} {g : FuncId} {caps : Array Value} (ho : o.op = .call c) (hc : c.callee = .value f) (hf : a.eval f = .func (.func g) #[] caps) (he : Ent P g) :
    (execOp a.eval o).run P w = .ok (.enter g (c.args.map a.eval ++ caps)) w := by
  obtain ⟨fn, h1, h2, h3⟩ := he
  have h1' : P.funcs[g]? = some fn := h1
  simp only [execOp, ho, resolve, hc, hf, Deferred.ofValue, Sem.run_bind, Sem.run_pure, Result.andThen_ok, invoke, callFunc, run_program, h1', h2, h3, Bool.false_eq_true, if_false, Array.empty_append]

theorem wp_call {o : Oper} {g : FuncId} {vals : Array Value} {comps : List Comp} {r : Res} (hs : Sat P g comps r) (hrun : (execOp a.eval o).run P w = .ok (.enter g vals) w) {I1 : Nat → Prop} (hIb : ∀ b, I1 b → b < w.heap.size)
    (hsz : vals.size = comps.length) (hrep : ∀ (i : Nat) (c : Comp) (v : Value), comps[i]? = some c → vals[i]? = some v → RepComp I1 w v c) {next : Act → World → Prop} {Q : Exit → Act → World → Prop} (hQ : True)
    (hn : ∀ v w', Back I1 w r v w' → next (a.put o.dst v) w') : o.wp P a w next Q := by
  unfold Oper.wp
  rw [hrun]
  simp only [Oper.upon]
  refine (hs.2 I1 w vals hIb hsz hrep).mono fun e w' h => ?_
  cases e with
  | returned v => exact hn v w' h
  | panicked c => exact h.elim
  | outgrown => exact h.elim

theorem Inv.growI {I' : Nat → Prop} {w' : World} (hi : Inv C L I s a w) (hb : Below w.heap.size w w') (hI : ∀ b, I b → I' b) (hold : ∀ b, b < w.heap.size → I' b → I b) (hIb : ∀ b, I' b → b < w'.heap.size) : Inv C L I' s a w' := by
  have hw : ∀ b, I b → w'.heap[b]? = w.heap[b]? := fun b h => hb.block b (hi.Ib b h)
  have hf : ∀ v x, RepX L s.heap I w v x → RepX L s.heap I' w' v x := fun v x h => h.mono hI hw
  refine hi.change (f := fun y => y) hf (map_id_regs _).symm ?_ hIb (fun b h1 h2 => hi.Io b h1 (hold b (Nat.lt_of_lt_of_le h1 hi.fr.size) h2)) ?_ (fun k o _ h => ⟨o, h, rfl, rfl⟩)
  · exact ⟨fun k o h => (hi.heap.ob k o h).ext' hf hI hw .rfl (fun b hb' => hb.block b (hi.heap.own k o b h hb').2.2), fun k o b g1 g2 => ⟨(hi.heap.own k o b g1 g2).1, fun h => (hi.heap.own k o b g1 g2).2.1 (hold b (hi.heap.own k o b g1 g2).2.2 h), Nat.lt_of_lt_of_le (hi.heap.own k o b g1 g2).2.2 hb.size⟩, hi.heap.inj⟩
  · exact ⟨hb.os.trans hi.fr.os, hb.tape.trans hi.fr.tape, hb.output.trans hi.fr.output, Nat.le_trans hi.fr.size hb.size, fun b g1 g2 => (hb.block b (Nat.lt_of_lt_of_le g1 hi.fr.size)).trans (hi.fr.block b g1 g2)⟩

/-- The captured values come behind the arguments. -/
theorem args_caps {vals : Array Value} {comps : List Comp} {caps : List CV} {cv : Array Value} {I1 : Nat → Prop} (hl : vals.size = comps.length) (hr : ∀ (i : Nat) (c : Comp) (v : Value), comps[i]? = some c → vals[i]? = some v → RepComp I1 w v c)
    (hcl : cv.size = caps.length) (hcr : ∀ (i : Nat) (c : CV) (v : Value), caps[i]? = some c → cv[i]? = some v → RepC I1 w v c) :
    (vals ++ cv).size = (comps ++ caps.map fun y => (false, [y])).length ∧ ∀ (i : Nat) (c : Comp) (v : Value), (comps ++ caps.map fun y => (false, [y]))[i]? = some c → (vals ++ cv)[i]? = some v → RepComp I1 w v c := by
  refine ⟨by simp [hl, hcl], fun i c v h1 h2 => ?_⟩
  by_cases hi : i < comps.length
  · rw [List.getElem?_append_left hi] at h1
    rw [Array.getElem?_append_left (by omega)] at h2
    exact hr i c v h1 h2
  · rw [List.getElem?_append_right (by omega)] at h1
    rw [Array.getElem?_append_right (by omega)] at h2
    rw [List.getElem?_map] at h1
    cases hc : caps[i - comps.length]? with
    | none => simp [hc] at h1
    | some y =>
      simp only [hc, Option.map_some, Option.some.injEq] at h1
      subst h1
      exact hcr _ y v hc (by rw [← hl]; exact h2)

theorem ownX_iff : ∀ {xs : List XV}, ownX xs = true → ∀ x ∈ xs, (∃ c, x = .c c ∧ c.scalar = true) ∨ ∃ k, x = .ds k
  | [], _, x, hx => by simp at hx
  | y :: ys, h, x, hx => by
    cases y <;> simp only [ownX, Bool.false_eq_true] at h
    · rename_i c
      split at h
      · rename_i hc
        rcases List.mem_cons.1 hx with rfl | hx
        · exact Or.inl ⟨c, rfl, hc⟩
        · exact ownX_iff h x hx
      · cases h
    · rcases List.mem_cons.1 hx with rfl | hx
      · exact Or.inr ⟨_, rfl⟩
      · exact ownX_iff h x hx

theorem RepX.own {L : Lay} {H : Heap} {I I' : Nat → Prop} {w : World} {v : Value} {x : XV} (hs : (∃ c, x = .c c ∧ c.scalar = true) ∨ ∃ k, x = .ds k) (h : RepX L H I w v x) : RepX L H I' w v x := by
  rcases hs with ⟨c, rfl, hc⟩ | ⟨k, rfl⟩
  · exact RepC.scalar_any hc h
  · exact h

theorem RepP.own {L : Lay} {H : Heap} {I I' : Nat → Prop} {w : World} {v : Value} {p : PV} (hs : ownP p = true) (h : RepP L H I w v p) : RepP L H I' w v p := by
  cases p with
  | one x => exact RepX.own (ownX_iff hs x (by simp)) h
  | agg xs => obtain ⟨vs, rfl, hsz, h⟩ := h; exact ⟨vs, rfl, hsz, fun i x v h1 h2 => RepX.own (ownX_iff hs x (List.mem_of_getElem? h1)) (h i x v h1 h2)⟩
  | tup ps =>
    obtain ⟨vs, rfl, hsz, hr⟩ := h
    refine ⟨vs, rfl, hsz, fun i p v h1 h2 => ?_⟩
    have hp := List.all_eq_true.1 hs p (List.mem_of_getElem? h1)
    have := hr i p v h1 h2
    obtain ⟨b, xs⟩ := p
    cases b with
    | true => obtain ⟨cs, rfl, hsz, hcs⟩ := this; exact ⟨cs, rfl, hsz, fun i x v h1 h2 => RepX.own (ownX_iff hp x (List.mem_of_getElem? h1)) (hcs i x v h1 h2)⟩
    | false =>
      match xs, this, hp with
      | [x], this, hp => exact RepX.own (ownX_iff hp x (by simp)) this

theorem ruRes_iff {L : Lay} {I I' : Nat → Prop} {w : World} {p : PV} {h : Heap} {rows : List (List CV)} (hr : ruRes p h = some rows) :
    (∀ k o, find h k = some o → ∃ sz, o = .arr sz rows) ∧ ∀ v, RepP L h I w v p → RepP L h I' w v p := by
  unfold ruRes at hr
  split at hr
  · rename_i a b c vs k sz rows'
    split at hr
    · rename_i hall
      cases hr
      refine ⟨fun k' o hf => ?_, fun v hv => ?_⟩
      · simp only [find] at hf
        split at hf
        · cases hf; exact ⟨_, rfl⟩
        · cases hf
      · obtain ⟨us, rfl, hsz, h⟩ := hv
        refine ⟨us, rfl, hsz, fun i p v h1 h2 => ?_⟩
        have h3 := h i p v h1 h2
        cases i with
        | zero =>
          simp only [List.getElem?_cons_zero, Option.some.injEq] at h1
          subst h1
          exact h3
        | succ i =>
          simp only [List.getElem?_cons_succ] at h1
          have hp := List.all_eq_true.1 hall p (List.mem_of_getElem? h1)
          obtain ⟨b, xs⟩ := p
          cases b with
          | true => obtain ⟨cs, rfl, hsz, hcs⟩ := h3; exact ⟨cs, rfl, hsz, fun i x v h1 h2 => RepX.own (ownX_iff hp x (List.mem_of_getElem? h1)) (hcs i x v h1 h2)⟩
          | false =>
            match xs, h3, hp with
            | [x], h3, hp => exact RepX.own (ownX_iff hp x (by simp)) h3
    · cases hr
  · cases hr
theorem ownH_iff : ∀ {h : Heap}, ownH h = true → ∀ k o, find h k = some o → ∃ a sz rows, o = .deep a sz rows
  | [], _, k, o, h => by simp [find] at h
  | (k, o0) :: h, hh, k', o, hf => by
    cases o0 <;> simp only [ownH, Bool.false_eq_true] at hh
    simp only [find] at hf
    split at hf
    · cases hf; exact ⟨_, _, _, rfl⟩
    · exact ownH_iff hh k' o hf

theorem callQ_goes {o : Oper} {c : Call} {f : Operand} (hi : Inv C L I s a w) (ho : o.op = .call c) (hc : c.callee = .value f) {pf : PV} {vs : List PV} {K : PV → Prop} (hpf : RepP L s.heap I w (a.eval f) pf) (hvl : vs.length = c.args.toList.length)
    (hvs : ∀ (i : Nat) (pv : PV) (x : Operand), vs[i]? = some pv → c.args.toList[i]? = some x → RepP L s.heap I w (a.eval x) pv) (h : callQ P s.heap pf vs K) : ∃ pv, K pv ∧ Goes P C L s a w o pv := by
  unfold callQ at h
  split at h
  · rename_i g caps comps hcomps
    obtain ⟨r, hs, h⟩ := h
    have hpf : RepC I w (a.eval f) (.fn g caps) := hpf
    generalize hv : a.eval f = vf at hpf
    cases hpf with
    | fn _ cv _ hcl hcr =>
      have hrun := exec_call (P := P) (w := w) ho hc hv hs.1
      obtain ⟨hcl', hcg⟩ := snapB_get hcomps
      have hall : ∀ b, Iall L s.heap I b → b < w.heap.size := fun b hb => hb.elim (hi.Ib b) fun ⟨k, o', h1, h2⟩ => (hi.heap.own k o' b h1 h2).2.2
      have hpair : ∀ (i : Nat) (cc : Comp) (v : Value), comps[i]? = some cc → (c.args.map a.eval)[i]? = some v → ∃ p, p ∈ vs ∧ RepComp (Iall L s.heap I) w v cc ∧ (noKeyP p = true → RepComp I w v cc) := fun i cc v h1 h2 => by
        have hil : i < vs.length := by rw [hcl']; exact (List.getElem?_eq_some_iff.1 h1).1
        obtain ⟨c', e1, e2⟩ := hcg i vs[i] (List.getElem?_eq_getElem hil)
        rw [h1] at e1; cases e1
        have hia : i < c.args.toList.length := by omega
        have hr := hvs i vs[i] c.args.toList[i] (List.getElem?_eq_getElem hil) (List.getElem?_eq_getElem hia)
        have : v = a.eval c.args.toList[i] := by
          have hia' : i < c.args.size := by simpa using hia
          rw [Array.getElem?_map] at h2
          simp [hia'] at h2
          simp [h2]
        rw [this]
        exact ⟨vs[i], List.getElem_mem hil, comp_of_snap hi.heap hr e2⟩
      have hsz0 : (c.args.map a.eval).size = comps.length := by simp; rw [← hcl', hvl]; simp
      split at h
      · rename_i hk
        split at h
        · rename_i pv hpv
          simp only [forceP_eq] at h
          refine ⟨pv, h, fun next Q hQ hn => Or.inl ?_⟩
          obtain ⟨g1, g2⟩ := args_caps (I1 := I) hsz0 (fun i cc v h1 h2 => by
            obtain ⟨p, q1, _, q3⟩ := hpair i cc v h1 h2
            exact q3 (noKeys_iff.1 hk p q1)) hcl hcr
          refine wp_call hs hrun hi.Ib g1 g2 hQ fun v w' ⟨hb, L2, I2, h1, h2, h3, h4⟩ => ?_
          have hII : ∀ b, Iall L2 r.2 I2 b → (I b ∨ (w.heap.size ≤ b ∧ Iall L2 r.2 I2 b)) := fun b hb' => by
            by_cases hlt : b < w.heap.size
            · rcases hb' with hb' | ⟨k, o', q1, q2⟩
              · exact Or.inl (h1 b hlt hb')
              · exact absurd (h4.own k o' b q1 q2).1 (by omega)
            · exact Or.inr ⟨by omega, hb'⟩
          refine hn v w' (fun b => I b ∨ (w.heap.size ≤ b ∧ Iall L2 r.2 I2 b)) (hi.growI hb (fun b h => Or.inl h) (fun b hlt h => h.elim id fun h => absurd h.1 (by omega)) fun b h => ?_) (frzP_rep h4 hII hpv h3)
          rcases h with h | ⟨_, h | ⟨k, o', q1, q2⟩⟩
          · exact Nat.lt_of_lt_of_le (hi.Ib b h) hb.size
          · exact h2 b h
          · exact (h4.own k o' b q1 q2).2.2
        · exact h.elim
      · split at h
        · rename_i hsc
          simp only [forceP_eq] at h
          refine ⟨r.1, h, fun next Q hQ hn => Or.inl ?_⟩
          obtain ⟨g1, g2⟩ := args_caps (I1 := Iall L s.heap I) hsz0 (fun i cc v h1 h2 => by
            obtain ⟨p, q1, q2, _⟩ := hpair i cc v h1 h2
            exact q2) hcl (fun i c v h1 h2 => (hcr i c v h1 h2).mono (fun b h => Or.inl h) (fun _ _ => rfl))
          refine wp_call hs hrun hall g1 g2 hQ fun v w' ⟨hb, L2, I2, h1, h2, h3, h4⟩ => ?_
          exact hn v w' I (hi.growI hb (fun b h => h) (fun b _ h => h) fun b h => Nat.lt_of_lt_of_le (hi.Ib b h) hb.size) (RepP.scalar_any hsc h3)
        · split at h
          · rename_i how
            have hoh : ownH r.2 = true ∧ ownP r.1 = true := by
              simp only [ownRes] at how
              split at how
              · rename_i e; exact ⟨e, how⟩
              · cases how
            split at h
            · rename_i pv hpv
              simp only [forceP_eq] at h
              refine ⟨pv, h, fun next Q hQ hn => Or.inl ?_⟩
              obtain ⟨g1, g2⟩ := args_caps (I1 := Iall L s.heap I) hsz0 (fun i cc v h1 h2 => by
                obtain ⟨p, q1, q2, _⟩ := hpair i cc v h1 h2
                exact q2) hcl (fun i c v h1 h2 => (hcr i c v h1 h2).mono (fun b h => Or.inl h) (fun _ _ => rfl))
              refine wp_call hs hrun hall g1 g2 hQ fun v w' ⟨hb, L2, I2, h1, h2, h3, h4⟩ => ?_
              have h4' : HeapOK (fun b => w.heap.size ≤ b) L2 r.2 (fun _ => False) w' := ⟨fun k o hk => by
                obtain ⟨a', sz, rows, rfl⟩ := ownH_iff hoh.1 k o hk
                exact h4.ob k _ hk, fun k o b hk hf => ⟨(h4.own k o b hk hf).1, fun h => h, (h4.own k o b hk hf).2.2⟩, h4.inj⟩
              refine hn v w' (fun b => I b ∨ Iall L2 r.2 (fun _ => False) b) (hi.growI hb (fun b h => Or.inl h) (fun b hlt h => ?_) fun b h => ?_) (frzP_rep h4' (fun b h => Or.inr h) hpv (RepP.own hoh.2 h3))
              · rcases h with h | h | ⟨k, o', q1, q2⟩
                · exact h
                · exact h.elim
                · exact absurd (h4.own k o' b q1 q2).1 (by omega)
              · rcases h with h | h | ⟨k, o', q1, q2⟩
                · exact Nat.lt_of_lt_of_le (hi.Ib b h) hb.size
                · exact h.elim
                · exact (h4.own k o' b q1 q2).2.2
            · exact h.elim
          · exact h.elim
  · exact h.elim

theorem zeroOk_rep : ∀ {vs : List Value} {xs : List XV}, zeroOk vs xs = true → vs.length = xs.length ∧ ∀ (i : Nat) (x : XV) (v : Value), xs[i]? = some x → vs[i]? = some v → RepX L s.heap I w v x := by
  intro vs xs
  induction vs generalizing xs with
  | nil =>
    intro h
    cases xs with
    | nil => exact ⟨rfl, fun i x v h => by simp at h⟩
    | cons x xs => simp [zeroOk] at h
  | cons v vs ih =>
    intro h
    cases xs with
    | nil => cases v <;> simp [zeroOk] at h
    | cons x xs =>
      have key : RepX L s.heap I w v x ∧ zeroOk vs xs = true := by
        unfold zeroOk at h
        split at h
        · rename_i e1 e2; cases e1
        · rename_i e1 e2
          cases e1; cases e2
          simp only [Bool.and_eq_true, decide_eq_true_eq] at h
          obtain ⟨⟨rfl, rfl⟩, h⟩ := h
          exact ⟨RepC.int _ _, h⟩
        · rename_i e1 e2
          cases e1; cases e2
          simp only [Bool.and_eq_true, beq_iff_eq] at h
          obtain ⟨rfl, h⟩ := h
          exact ⟨RepC.bool _, h⟩
        · rename_i e1 e2
          cases e1; cases e2
          simp only [Bool.and_eq_true, decide_eq_true_eq] at h
          obtain ⟨rfl, h⟩ := h
          exact ⟨RepC.str _, h⟩
        · rename_i e1 e2
          cases e1; cases e2
          exact ⟨rfl, h⟩
        · rename_i e1 e2
          cases e1; cases e2
          exact ⟨RepC.nilI, h⟩
        · cases h
      obtain ⟨h1, h2⟩ := ih key.2
      refine ⟨by simp [h1], fun i y u hy hu => ?_⟩
      cases i with
      | zero => simp only [List.getElem?_cons_zero, Option.some.injEq] at hy hu; subst hy; subst hu; exact key.1
      | succ i => simp only [List.getElem?_cons_succ] at hy hu; exact h2 i y u hy hu

theorem fieldsOk_places : ∀ {fs : List Field} {gs : List (Nat × Nat × Bool)}, fieldsOk P fs gs = true → fs.mapM (fun f => (P.info? f.type).map fun i => (f.offset, i.size)) = some (gs.map fun g => (g.1, g.2.1))
  | [], [], _ => by simp
  | f :: fs, (o, n, ag) :: gs, h => by
    simp only [fieldsOk, Bool.and_eq_true] at h
    obtain ⟨⟨⟨⟨⟨h1, h2⟩, h3⟩, h6⟩, h4⟩, h5⟩ := h
    obtain ⟨i, hi⟩ := Option.isSome_iff_exists.1 h3
    have h2 := eq_of_beq h2
    simp only [Program.cellsOf, hi, Option.map_some, Option.getD_some] at h2
    have ih := fieldsOk_places h5
    simp only [List.mapM_cons, hi, Option.map_some, ih, List.map_cons, eq_of_beq h1, h2]
    rfl
  | [], _ :: _, h => by simp [fieldsOk] at h
  | _ :: _, [], h => by simp [fieldsOk] at h

theorem pureB_get : ∀ {vs : List PV} {cs : List Comp}, pureB vs = some cs → vs.length = cs.length ∧ ∀ (i : Nat) (p : PV), vs[i]? = some p → ∃ c, cs[i]? = some c ∧ ((∃ x y, p = .one x ∧ x.pure? = some y ∧ c = (false, [y])) ∨ ∃ xs ys, p = .agg xs ∧ pures xs = some ys ∧ c = (true, ys))
  | [], cs, h => by simp only [pureB, Option.some.injEq] at h; subst h; simp
  | p :: vs, cs, h => by
    simp only [pureB] at h
    split at h
    · rename_i c cs' h1 h2
      cases h
      obtain ⟨g1, g2⟩ := pureB_get h2
      refine ⟨by simp [g1], fun i q hq => ?_⟩
      cases i with
      | zero =>
        simp only [List.getElem?_cons_zero, Option.some.injEq] at hq ⊢
        subst hq
        refine ⟨c, rfl, ?_⟩
        cases p with
        | one x =>
          simp only [Option.map_eq_some_iff] at h1
          obtain ⟨y, e1, e2⟩ := h1
          exact Or.inl ⟨x, y, rfl, e1, e2.symm⟩
        | agg xs =>
          simp only [Option.map_eq_some_iff] at h1
          obtain ⟨y, e1, e2⟩ := h1
          exact Or.inr ⟨xs, y, rfl, e1, e2.symm⟩
        | tup _ => cases h1
      | succ i => simp only [List.getElem?_cons_succ] at hq ⊢; exact g2 i q hq
    · cases h

theorem comp_of_pure {p : PV} {v : Value} {c : Comp} (hr : RepP L s.heap I w v p) (h : (∃ x y, p = .one x ∧ x.pure? = some y ∧ c = (false, [y])) ∨ ∃ xs ys, p = .agg xs ∧ pures xs = some ys ∧ c = (true, ys)) : RepComp I w v c := by
  rcases h with ⟨x, y, rfl, h1, rfl⟩ | ⟨xs, ys, rfl, h1, rfl⟩
  · exact RepX.pure h1 hr
  · obtain ⟨vs, rfl, hsz, hvs⟩ := hr
    obtain ⟨g1, g2⟩ := pures_iff h1
    refine ⟨vs, rfl, by rw [hsz, g1], fun i y v hy hv => ?_⟩
    have hi : i < xs.length := by rw [g1]; exact (List.getElem?_eq_some_iff.1 hy).1
    obtain ⟨z, e1, e2⟩ := g2 i xs[i] (List.getElem?_eq_getElem hi)
    rw [hy] at e1; cases e1
    exact RepX.pure e2 (hvs i _ v (List.getElem?_eq_getElem hi) hv)

theorem flat_get : ∀ {cs : List Comp}, cs.all (fun p => !p.1) = true → (∀ c ∈ cs, c.1 = false → ∃ y, c = (false, [y])) → (cs.flatMap (·.2)).length = cs.length ∧ ∀ (i : Nat) (y : CV), (cs.flatMap (·.2))[i]? = some y → cs[i]? = some (false, [y])
  | [], _, _ => ⟨rfl, fun i y h => by simp at h⟩
  | c :: cs, h1, h3 => by
    simp only [List.all_cons, Bool.and_eq_true, Bool.not_eq_true'] at h1
    obtain ⟨y, rfl⟩ := h3 c (by simp) h1.1
    obtain ⟨g1, g2⟩ := flat_get h1.2 (fun c hc => h3 c (by simp [hc]))
    refine ⟨by simp [g1], fun i z hz => ?_⟩
    cases i with
    | zero => simp at hz; subst hz; rfl
    | succ i => simp at hz; simpa using g2 i z hz

theorem zeroOkC_rep : ∀ {vs : List Value} {ys : List CV}, zeroOkC vs ys = true → vs.length = ys.length ∧ ∀ (i : Nat) (y : CV) (v : Value), ys[i]? = some y → vs[i]? = some v → RepC I w v y := by
  intro vs ys
  induction vs generalizing ys with
  | nil =>
    intro h
    cases ys with
    | nil => exact ⟨rfl, fun i x v h => by simp at h⟩
    | cons x xs => simp [zeroOkC] at h
  | cons v vs ih =>
    intro h
    cases ys with
    | nil => cases v <;> simp [zeroOkC] at h
    | cons x xs =>
      have key : RepC I w v x ∧ zeroOkC vs xs = true := by
        unfold zeroOkC at h
        split at h
        · rename_i e1 e2; cases e1
        · rename_i e1 e2
          cases e1; cases e2
          simp only [Bool.and_eq_true, decide_eq_true_eq] at h
          obtain ⟨⟨rfl, rfl⟩, h⟩ := h
          exact ⟨RepC.int _ _, h⟩
        · rename_i e1 e2
          cases e1; cases e2
          simp only [Bool.and_eq_true, beq_iff_eq] at h
          obtain ⟨rfl, h⟩ := h
          exact ⟨RepC.bool _, h⟩
        · rename_i e1 e2
          cases e1; cases e2
          simp only [Bool.and_eq_true, decide_eq_true_eq] at h
          obtain ⟨rfl, h⟩ := h
          exact ⟨RepC.str _, h⟩
        · rename_i e1 e2
          cases e1; cases e2
          exact ⟨.nil _, h⟩
        · rename_i e1 e2
          cases e1; cases e2
          exact ⟨.nilI, h⟩
        · cases h
      obtain ⟨h1, h2⟩ := ih key.2
      refine ⟨by simp [h1], fun i y u hy hu => ?_⟩
      cases i with
      | zero => simp only [List.getElem?_cons_zero, Option.some.injEq] at hy hu; subst hy; subst hu; exact key.1
      | succ i => simp only [List.getElem?_cons_succ] at hy hu; exact h2 i y u hy hu

/-- Cells that are the zero cells again and again. -/
theorem zero_row {z : Array Value} {n sz i j : Nat} (hz : z.size = sz) (hi : i < n) (hj : j < sz) : ((Array.range (n * sz)).map (z[· % z.size]!))[i * sz + j]? = z[j]? := by
  have hq : i * sz + j < n * sz := by
    have : (i + 1) * sz ≤ n * sz := Nat.mul_le_mul_right _ hi
    rw [Nat.add_mul] at this; omega
  have e2 : (i * sz + j) % sz = j := by rw [Nat.mul_comm, Nat.mul_add_mod, Nat.mod_eq_of_lt hj]
  have hjz : j < z.size := by omega
  rw [Array.getElem?_eq_getElem hjz, ← getElem!_pos z j hjz]
  simp [hq, hz, e2]


theorem opQ_sound {tt : TT} (hT : TOK P tt) {o : Oper} {K : PV → Prop} (hi : Inv C L I s a w) (h : opQ P tt s o K) : ∃ pv, K pv ∧ Goes P C L s a w o pv := by
  have val : ∀ {x : Operand} {K : PV → Prop}, (execOp a.eval o = pure (.value (a.eval x))) → (∃ pv, K pv ∧ RepP L s.heap I w (a.eval x) pv) → ∃ pv, K pv ∧ Goes P C L s a w o pv := fun {x K} he ⟨pv, h1, h2⟩ => by
    refine ⟨pv, h1, fun next Q _ hn => Or.inl ?_⟩
    unfold Oper.wp
    rw [he]
    exact hn _ w I hi h2
  cases hop : o.op <;> simp only [opQ, hop] at h
  case move x => exact val (by simp only [execOp, hop]) (opd_sound hi h)
  case assign x => exact val (by simp only [execOp, hop]) (opd_sound hi h)
  case pick c x y =>
    obtain ⟨pc, h, hc⟩ := opd_sound hi h
    split at h
    · have e := rep_bool hc
      obtain ⟨pv, h1, h2⟩ := opd_sound hi h
      exact goes_runs hi (m := pure (a.eval x)) (by simp only [execOp, hop, e, asBool]; rfl) ⟨pv, _, h1, rfl, h2⟩
    · have e := rep_bool hc
      obtain ⟨pv, h1, h2⟩ := opd_sound hi h
      exact goes_runs hi (m := pure (a.eval y)) (by simp only [execOp, hop, e, asBool]; rfl) ⟨pv, _, h1, rfl, h2⟩
    · exact h.elim
  case load t x =>
    obtain ⟨px, h, hx⟩ := opd_sound hi h
    obtain ⟨pv, v, h1, h2, h3⟩ := loadK_sound hi (hT t) h hx
    exact goes_runs hi (m := Instr.loadAt t (a.eval x)) (by simp only [execOp, hop]) ⟨pv, v, h1, h2, h3⟩
  case nilCheck x =>
    obtain ⟨px, h, hx⟩ := opd_sound hi h
    split at h
    · rename_i sz cs
      have hx' : RepC I w (a.eval x) (.ptr sz cs) := hx
      generalize hv : a.eval x = v at hx'
      cases hx' with
      | ptr b off _ _ _ hI hsz hc hr => exact goes_runs hi (m := pure (a.eval x)) (by simp only [execOp, hop, hv]; rfl) ⟨_, _, h, rfl, hx⟩
    · obtain ⟨_, _, _, _, _, hv⟩ := id hx
      exact goes_runs hi (m := pure (a.eval x)) (by simp only [execOp, hop, hv]; rfl) ⟨_, _, h, rfl, hx⟩
    · obtain ⟨_, _, _, _, _, _, _, hv⟩ := id hx
      exact goes_runs hi (m := pure (a.eval x)) (by simp only [execOp, hop, hv]; rfl) ⟨_, _, h, rfl, hx⟩
    · obtain ⟨_, _, _, _, _, _, _, _, hv⟩ := id hx
      exact goes_runs hi (m := pure (a.eval x)) (by simp only [execOp, hop, hv]; rfl) ⟨_, _, h, rfl, hx⟩
    · exact h.elim
  case binOp op t x y yt =>
    obtain ⟨px, h, hx⟩ := opd_sound hi h
    obtain ⟨py, h, hy⟩ := opd_sound hi h
    exact goes_runs hi (by simp only [execOp, hop]) (binK_sound (hT t) (X := x) (Y := y) (fun hyc => by cases y <;> simp at hyc; exact ⟨_, rfl⟩) h hx hy)
  case unOp op t x =>
    obtain ⟨px, h, hx⟩ := opd_sound hi h
    exact goes_runs hi (by simp only [execOp, hop]) (unK_sound h hx)
  case convert src dst x =>
    obtain ⟨px, h, hx⟩ := opd_sound hi h
    exact goes_runs hi (by simp only [execOp, hop]) (convertQ_sound (hT dst) (hT src) h hx)
  case slice t x lo hi' mx =>
    cases mx with
    | some m => exact h.elim
    | none =>
      obtain ⟨px, h, hx⟩ := opd_sound hi h
      obtain ⟨l, h, hl⟩ := optInt_sound hi h
      obtain ⟨u, h, hu⟩ := optInt_sound hi h
      exact goes_runs hi (by simp only [execOp, hop]; rfl) (sliceK_sound (hT t) hi h hx hl hu)
  case fieldAddr t x f =>
    obtain ⟨px, h, hx⟩ := opd_sound hi h
    obtain ⟨pv, v, h1, h2, h3⟩ := fieldAddrK_sound hi (hT t) h hx
    exact goes_runs hi (m := Instr.fieldAt t (a.eval x) f) (by simp only [execOp, hop]) ⟨pv, v, h1, h2, h3⟩
  case field t x f =>
    obtain ⟨px, h, hx⟩ := opd_sound hi h
    exact goes_runs hi (by simp only [execOp, hop]) (fieldK_sound (hT t) h hx)
  case indexAddr t x i =>
    obtain ⟨px, h, hx⟩ := opd_sound hi h
    obtain ⟨pi, h, hpi⟩ := opd_sound hi h
    obtain ⟨pv, v, h1, h2, h3⟩ := indexAddrK_sound hi (hT t) h hx hpi
    exact goes_runs hi (m := Instr.indexAt t (a.eval x) (a.eval i)) (by simp only [execOp, hop]) ⟨pv, v, h1, h2, h3⟩
  case index t x i =>
    obtain ⟨px, h, hx⟩ := opd_sound hi h
    obtain ⟨pi, h, hpi⟩ := opd_sound hi h
    split at h
    · rename_i hst
      exact goes_runs hi (by simp only [execOp, hop]) (indexQ_sound (hT t) hst h hx hpi)
    · exact h.elim
  case extract x i =>
    obtain ⟨px, h, hx⟩ := opd_sound hi h
    exact goes_runs hi (by simp only [execOp, hop]) (extractK_sound h hx)
  case build t ps =>
    split at h
    · exact h.elim
    · exact h.elim
    · rename_i g gs z zs hfl hz
      obtain ⟨pvs, h, hps⟩ := partsK_sound hi h
      have hkn := known_any (hT t) (.inr (.inl (by rw [hfl]; simp)))
      obtain ⟨fs, hu, hfo⟩ := hkn.fields (by rw [hfl]; simp)
      obtain ⟨it, hit, hs, hby, hzz⟩ := hkn.info
      obtain ⟨zv, hzv, hzok⟩ := hzz (by rw [hz]; simp)
      obtain ⟨z1, z2⟩ := zeroOk_rep (L := L) (s := s) (I := I) (w := w) hzok
      have hzr : RepXs L s.heap I w zv.cells (tt t).zero := ⟨by simpa using z1, fun i x v h1 h2 => z2 i x v h1 (by simpa using h2)⟩
      obtain ⟨out, xs', g1, g2, g3⟩ := buildK_sound h hps hzr
      have hb : P.built t ((ps.map fun (p : Nat × Operand) => (p.1, a.eval p.2)).toList) = some out := by
        have hpl := fieldsOk_places hfo
        simp only [Program.built, hit, hu, hzv, hpl]
        simpa using g2
      exact goes_runs hi (m := Instr.build t (ps.map fun (i, x) => (i, a.eval x))) (by simp only [execOp, hop]) ⟨_, .agg out, g1, run_build w t _ out hb, out, rfl, g3⟩
  case buildSlice t len ps =>
    split at h
    · rename_i sz bb hsl hlen hbig
      obtain ⟨pvs, h, hps⟩ := partsK_sound hi h
      split at h
      · rename_i rows hrows
        have hkn := known_any (hT t) (.inl (by rw [hsl]; simp))
        obtain ⟨hu, hsz0, ie, hie, hs, hby, _, zv, hzv, hzs, _⟩ := hkn.slice _ _ hsl
        have hlen' := beq_iff.1 hlen
        simp only [hsl, Option.getD_some] at hbig
        have hbig' := Nat.le_of_ble_eq_true hbig
        have hrl : ∀ {i : Nat} {ps : List (Nat × PV)} {rows : List (List CV)}, listRows sz i ps = some rows → rows.length = ps.length := by
          intro i ps
          induction ps generalizing i with
          | nil => intro rows h; simp only [listRows, Option.some.injEq] at h; subst h; rfl
          | cons p ps ih =>
            intro rows h
            obtain ⟨j, v⟩ := p
            simp only [listRows] at h
            split at h
            · rename_i _ _ hr
              split at h
              · cases h; simp [ih hr]
              · cases h
            · cases h
        have hpl : ∀ {pv : List (Nat × PV)} {vs : List (Nat × Value)}, PartsRep L s.heap I w pv vs → pv.length = vs.length := by
          intro pv
          induction pv with
          | nil => intro vs h; cases vs with | nil => rfl | cons _ _ => exact h.elim
          | cons p pv ih => intro vs h; cases vs with | nil => exact h.elim | cons q vs => obtain ⟨_, _, h⟩ := h; simp [ih h]
        have hn : rows.length = len := by rw [hrl hrows, hpl hps, List.length_map]; exact hlen'.symm
        let zero : Array Value := if len * sz = 0 then #[] else zv.cells
        have hzsz : ((Array.range (len * sz)).map (zero[· % zero.size]!)).size = len * sz := by simp
        obtain ⟨out, g1, g2, g3, g4, g5⟩ := fill_rows (L := L) (s := s) (I := I) (w := w) hsz0 (cells := (Array.range (len * sz)).map (zero[· % zero.size]!)) hrows hps (by rw [hzsz, Nat.zero_add, hn]; exact Nat.le_refl _)
        have hnew : (w.alloc (.cells out (tt t).elem)).heap[w.heap.size]? = some (.cells out (tt t).elem (0, 0)) := by
          show (w.heap.push _)[w.heap.size]? = _
          simp
        have hold : ∀ b, b < w.heap.size → (w.alloc (.cells out (tt t).elem)).heap[b]? = w.heap[b]? := fun b hb => Below.heap_alloc w _ b hb
        refine ⟨_, h, fun next Q _ hn' => Or.inl ?_⟩
        unfold Oper.wp
        have hrun : (execOp a.eval o).run P w = .ok (.value (.slice (some ⟨w.heap.size, 0, none⟩) len len)) (w.alloc (.cells out (tt t).elem)) := by
          have hparts : (ps.map fun (x : Nat × Operand) => (x.1, a.eval x.2)).toList = ps.toList.map fun p => (p.1, a.eval p.2) := by simp
          simp only [execOp, hop, Instr.buildSlice, Sem.run_bind, run_underlying hu, Result.andThen_ok, run_size hie, hs, Sem.run_ite]
          rw [if_neg (by omega)]
          by_cases h0 : len * sz = 0
          · simp only [h0, if_true, Sem.run_pure, Result.andThen_ok, Sem.run_bind]
            simp only [h0, if_true, zero] at g1
            simp only [hparts]
            rw [g1]
            simp only [newRow, Sem.run_bind, run_newObj, Result.andThen_ok, Sem.run_pure]
            rfl
          · simp only [h0, if_false, Sem.run_pure, Result.andThen_ok, Sem.run_bind, zeroValue, run_info hie, hzv]
            simp only [h0, if_false, zero] at g1
            simp only [hparts]
            rw [g1]
            simp only [newRow, Sem.run_bind, run_newObj, Result.andThen_ok, Sem.run_pure]
            rfl
        rw [hrun]
        have hb : Below w.heap.size w (w.alloc (.cells out (tt t).elem)) := ⟨rfl, rfl, rfl, by simp, hold⟩
        have hgI := hi.growI hb (I' := fun b => I b ∨ b = w.heap.size) (fun b h => Or.inl h) (fun b hlt h => h.elim id fun h => absurd h (by omega)) fun b h => by
          rcases h with h | h
          · have := hi.Ib b h; simp; omega
          · subst h; simp
        have hcell : ∀ (i : Nat) (r : List CV) (j : Nat) (c : CV), rows[i]? = some r → r[j]? = some c → ∃ u, out[i * sz + j]? = some u ∧ RepC (fun b => I b ∨ b = w.heap.size) (w.alloc (.cells out (tt t).elem)) u c := fun i r j c h1 h2 => by
          obtain ⟨u, h3, h4⟩ := g5 i r j c h1 h2
          rw [Nat.zero_add] at h3
          exact ⟨u, h3, RepC.mono (fun b h => Or.inl h) (fun b hb => hold b (hi.Ib b hb)) h4⟩
        refine hn' _ _ (fun b => I b ∨ b = w.heap.size) hgI ?_
        rw [← hn]
        refine RepC.slice w.heap.size 0 rows.length sz rows.length _ (fun i j => (out[i * sz + j]?).getD undef) (Or.inr rfl) rfl (Nat.le_refl _) (fun i r hr => g4 i r hr) (fun i r j c hr hcc => ?_) (fun i r j c hr hcc => ?_)
        · obtain ⟨u, h1, h2⟩ := hcell i r j c hr hcc
          rw [cell_row hnew, Nat.zero_add, h1]; rfl
        · obtain ⟨u, h1, h2⟩ := hcell i r j c hr hcc
          simp only [h1, Option.getD_some]
          exact h2
      · exact h.elim
    · exact h.elim
  case makeSlice t l c =>
    obtain ⟨vl, h, hl⟩ := opd_sound hi h
    obtain ⟨vc, h, hc⟩ := opd_sound hi h
    obtain ⟨kl, nl, el, h⟩ := intIx_sound h hl
    obtain ⟨kc, nc, ec, h⟩ := intIx_sound h hc
    split at h
    · rename_i sz bytes hsl
      split at h
      · exact h.elim
      · rename_i z zs hez
        obtain ⟨⟨h0, h1, h2⟩, h⟩ := h
        have hkn := known_any (hT t) (.inl (by rw [hsl]; simp))
        obtain ⟨hu, hsz0, ie, hie, hs, hby, ⟨hb0, hb1⟩, zv, hzv, hzs, hzo⟩ := hkn.slice _ _ hsl
        have hzo := hzo (by rw [hez]; simp)
        subst hby
        have hnc : nc ≤ 2 ^ 46 := by
          have : nc * 1 ≤ nc * (ie.bytes : Int) := Int.mul_le_mul_of_nonneg_left (by omega) (by omega)
          omega
        have hwl : IntKind.i64.wrap nl = nl := IntWalk.i64_in _ (by omega)
        have hwc : IntKind.i64.wrap nc = nc := IntWalk.i64_in _ (by omega)
        generalize hcs : ((Array.range (nc.toNat * sz)).map ((if nc.toNat * sz = 0 then (#[] : Array Value) else zv.cells)[· % (if nc.toNat * sz = 0 then (#[] : Array Value) else zv.cells).size]!)) = cells
        have hlen0 : (tt t).ez.length = sz := by
          rw [← (zeroOkC_rep (I := I) (w := w) hzo).1]; simpa using hzs
        have hnew : (w.alloc (.cells cells (tt t).elem)).heap[w.heap.size]? = some (.cells cells (tt t).elem (0, 0)) := by
          show (w.heap.push _)[w.heap.size]? = _
          simp
        have hold : ∀ b, b < w.heap.size → (w.alloc (.cells cells (tt t).elem)).heap[b]? = w.heap[b]? := fun b hb => Below.heap_alloc w _ b hb
        refine ⟨_, h, fun next Q _ hn => Or.inl ?_⟩
        unfold Oper.wp
        have hrun : (execOp a.eval o).run P w = .ok (.value (.slice (some ⟨w.heap.size, 0, none⟩) nl.toNat nc.toNat)) (w.alloc (.cells cells (tt t).elem)) := by
          have hbig : ¬ (ie.bytes : Int) * nc > 2 ^ 48 := by rw [Int.mul_comm]; omega
          simp only [execOp, hop, el, ec, Instr.makeSlice, Sem.run_bind, run_underlying hu, Result.andThen_ok, asInt, asIntOf, Sem.run_pure, run_info hie, hwl, hwc, Sem.run_ite]
          rw [if_neg (by simp only [Bool.or_eq_true, decide_eq_true_eq, not_or]; omega)]
          simp only [Sem.run_bind, run_askRoom, Result.andThen_ok, run_size hie, hs]
          rw [← hcs]
          by_cases hz0 : nc.toNat * sz = 0
          · simp only [hz0, if_true, Sem.run_pure, Result.andThen_ok, Sem.run_bind, newRow, run_newObj]
            rfl
          · simp only [hz0, if_false, Sem.run_pure, Result.andThen_ok, Sem.run_bind, zeroValue, run_info hie, hzv, newRow, run_newObj]
            rfl
        rw [hrun]
        have hb : Below w.heap.size w (w.alloc (.cells cells (tt t).elem)) := ⟨rfl, rfl, rfl, by simp, hold⟩
        have hcell : ∀ (i : Nat) (r : List CV) (j : Nat) (c : CV), (List.replicate nl.toNat (tt t).ez)[i]? = some r → r[j]? = some c → ∃ u, cells[i * sz + j]? = some u ∧ RepC (fun b => I b ∨ b = w.heap.size) (w.alloc (.cells cells (tt t).elem)) u c := fun i r j c hr hcc => by
          have hrr := List.eq_of_mem_replicate (List.mem_of_getElem? hr)
          subst hrr
          have hi' : i < nl.toNat := by have := (List.getElem?_eq_some_iff.1 hr).1; simpa using this
          have hj : j < sz := by rw [← hlen0]; exact (List.getElem?_eq_some_iff.1 hcc).1
          have hne : ¬ nc.toNat * sz = 0 := by
            intro e0
            rcases Nat.mul_eq_zero.1 e0 with e0 | e0 <;> omega
          rw [← hcs]
          simp only [if_neg hne]
          rw [zero_row hzs (by omega) hj]
          have hjz : j < zv.cells.size := by omega
          exact ⟨zv.cells[j], Array.getElem?_eq_getElem hjz, (zeroOkC_rep hzo).2 j c _ hcc (by simp [hjz])⟩
        refine hn _ _ (fun b => I b ∨ b = w.heap.size) (hi.growI hb (fun b h => Or.inl h) (fun b hlt h => h.elim id fun h => absurd h (by omega)) fun b h => ?_) ?_
        · rcases h with h | h
          · have := hi.Ib b h; simp; omega
          · subst h; simp
        · refine RepC.slice w.heap.size 0 nc.toNat sz nl.toNat _ (fun i j => (cells[i * sz + j]?).getD undef) (Or.inr rfl) (by simp) (by omega) (fun i r hr => ?_) (fun i r j c hr hcc => ?_) (fun i r j c hr hcc => ?_)
          · have := List.eq_of_mem_replicate (List.mem_of_getElem? hr)
            rw [this]; exact hlen0
          · obtain ⟨u, h1, h2⟩ := hcell i r j c hr hcc
            rw [cell_row hnew, Nat.zero_add, h1]; rfl
          · obtain ⟨u, h1, h2⟩ := hcell i r j c hr hcc
            simp only [h1, Option.getD_some]
            exact h2
    · exact h.elim
  case makeFunc fn first captured =>
    cases fn <;> (first | exact h.elim | skip)
    rename_i f
    simp only [opQ] at h
    split at h
    · rename_i hfirst
      obtain ⟨pvs, h, hl, hr⟩ := argsK_sound hi h
      split at h
      · rename_i comps hcomps
        split at h
        · rename_i hall
          obtain ⟨g1, g2⟩ := pureB_get hcomps
          have hone : ∀ c ∈ comps, c.1 = false → ∃ y, c = (false, [y]) := fun c hc hf => by
            obtain ⟨i, hi', rfl⟩ := List.mem_iff_getElem.1 hc
            obtain ⟨c', e1, e2⟩ := g2 i (pvs[i]'(by omega)) (List.getElem?_eq_getElem _)
            rw [List.getElem?_eq_getElem hi'] at e1; cases e1
            rcases e2 with ⟨x, y, _, _, e3⟩ | ⟨_, _, _, _, e3⟩
            · exact ⟨y, e3⟩
            · rw [e3] at hf; cases hf
          obtain ⟨q1, q2⟩ := flat_get hall hone
          have hfe : first = #[] := by apply Array.ext'; simpa using hfirst
          refine goes_runs hi (m := Instr.makeFunc (.func f) (first.map a.eval) (captured.map a.eval)) (by simp only [execOp, hop]) ⟨_, _, h, rfl, ?_⟩
          have hfm : first.map a.eval = #[] := by rw [hfe]; simp
          rw [hfm]
          show RepC I w _ _
          refine RepC.fn f (captured.map a.eval) _ (by rw [q1, ← g1, hl, Array.size_map, Array.length_toList]) fun i y v hy hv => ?_
          have hcy := q2 i y hy
          have hil : i < pvs.length := by rw [g1]; exact (List.getElem?_eq_some_iff.1 hcy).1
          obtain ⟨c', e1, e2⟩ := g2 i pvs[i] (List.getElem?_eq_getElem hil)
          rw [hcy] at e1; cases e1
          have hia : i < captured.toList.length := by omega
          have hrr := hr i pvs[i] captured.toList[i] (List.getElem?_eq_getElem hil) (List.getElem?_eq_getElem hia)
          have : v = a.eval captured.toList[i] := by
            have hia' : i < captured.size := by simpa using hia
            rw [Array.getElem?_map] at hv
            simp [hia'] at hv
            simp [hv]
          rw [this]
          exact comp_of_pure hrr e2
        · exact h.elim
      · exact h.elim
    · exact h.elim
  case call c =>
    split at h
    · rename_i x hb hargs
      split at h
      · rename_i t ts hts
        obtain ⟨px, h, hx⟩ := opd_sound hi h
        have hca : c.args = #[x] := by apply Array.ext'; simpa using hargs
        have hat : c.argTypes[0]? = some t := by rw [← Array.getElem?_toList, hts]; rfl
        obtain ⟨pv, v, h1, h2, h3⟩ := lenK_sound (ty := o.type) (hT t) hi h hx c.argTypes hat
        refine ⟨pv, h1, fun next Q _ hn => Or.inl ?_⟩
        have hrun : (execOp a.eval o).run P w = .ok (.value v) w := by
          simp [execOp, hop, resolve, hb, hca, invoke, builtin, h2]
        unfold Oper.wp
        rw [hrun]
        exact hn v w I hi h3
      · exact h.elim
    · rename_i x y hb hargs
      obtain ⟨px, h, hx⟩ := opd_sound hi h
      obtain ⟨py, h, hy⟩ := opd_sound hi h
      have hca : c.args = #[x, y] := by apply Array.ext'; simpa using hargs
      obtain ⟨m, n, rfl, rfl, h⟩ : ∃ m n, px = .one (.c (.int .i64 m)) ∧ py = .one (.c (.int .i64 n)) ∧ K (.one (.c (.int .i64 (if n > m then n else m)))) := by
        unfold maxK at h
        split at h
        · exact ⟨_, _, rfl, rfl, h⟩
        · exact h.elim
      have ei : ∀ (v : Value) (z : Int), RepC I w v (.int .i64 z) → v = .int .i64 z := fun v z hv => by cases hv; rfl
      have e1 := ei _ m hx
      have e2 := ei _ n hy
      refine ⟨_, h, fun next Q _ hn => Or.inl ?_⟩
      have hrun : (execOp a.eval o).run P w = .ok (.value (.int .i64 (if n > m then n else m))) w := by
        simp [execOp, hop, resolve, hb, hca, invoke, builtin, e1, e2, Builtin.max_, Builtin.max2]
      unfold Oper.wp
      rw [hrun]
      exact hn _ w I hi (RepC.int .i64 _)
    · rename_i f args hc
      obtain ⟨pf, h, hpf⟩ := opd_sound hi h
      obtain ⟨pvs, h, hl, hr⟩ := argsK_sound hi h
      exact callQ_goes hi hop hc hpf hl hr h
    · exact h.elim
  all_goals exact h.elim

end

end Go.Proofs.Ytjolahiflldepab.Pi
