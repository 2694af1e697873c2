/- Calls that change own objects in place. No statement of the seat is proved here. -/
import Derived.Test.YtjolahiflldepabPiS15
namespace Go.Proofs.Ytjolahiflldepab.Pi
open Go Go.RowKit
set_option linter.unusedVariables false
set_option linter.unusedSimpArgs false

theorem dedup_mem : ∀ {ks : List Nat} {k : Nat}, k ∈ dedup ks ↔ k ∈ ks
  | [], k => by simp [dedup]
  | j :: ks, k => by
    simp only [dedup]
    split
    · rename_i h
      have h : j ∈ ks := List.contains_iff_mem.1 h
      rw [dedup_mem]
      constructor
      · exact fun h => by simp [h]
      · intro h2
        simp only [List.mem_cons] at h2
        rcases h2 with rfl | h2
        · exact h
        · exact h2
    · simp [dedup_mem (ks := ks)]

theorem dedup_nodup : ∀ (ks : List Nat), (dedup ks).Nodup
  | [] => by simp [dedup]
  | j :: ks => by
    simp only [dedup]
    split
    · exact dedup_nodup ks
    · rename_i h
      refine List.nodup_cons.2 ⟨fun hm => ?_, dedup_nodup ks⟩
      have := List.contains_iff_mem.2 (dedup_mem.1 hm)
      rw [this] at h
      cases h

theorem idx_get : ∀ {ks : List Nat} {k i j : Nat}, idx k ks i = some j → i ≤ j ∧ ks[j - i]? = some k
  | [], k, i, j, h => by cases h
  | a :: ks, k, i, j, h => by
    simp only [idx] at h
    split at h
    · rename_i e
      cases h
      exact ⟨Nat.le_refl _, by simp [beq_iff.1 e]⟩
    · obtain ⟨h1, h2⟩ := idx_get h
      refine ⟨by omega, ?_⟩
      have : j - i = (j - (i + 1)) + 1 := by omega
      rw [this]
      simpa using h2

theorem nodup_inj : ∀ {ks : List Nat}, ks.Nodup → ∀ {m m' k : Nat}, ks[m]? = some k → ks[m']? = some k → m = m'
  | [], _, m, m', k, h, _ => by simp at h
  | a :: ks, hn, m, m', k, h, h' => by
    obtain ⟨h1, h2⟩ := List.nodup_cons.1 hn
    cases m with
    | zero =>
      cases m' with
      | zero => rfl
      | succ m' => simp at h h'; subst h; exact absurd (List.mem_of_getElem? h') h1
    | succ m =>
      cases m' with
      | zero => simp at h h'; subst h'; exact absurd (List.mem_of_getElem? h) h1
      | succ m' => simp at h h'; rw [nodup_inj h2 h h']

section
variable {P : Program} {C : Ctx} {L : Lay} {I : Nat → Prop} {s : St} {a : Act} {w : World}

theorem trX_rep {L2 : Lay} {H0 H2 : Heap} {g : XV → Option XV} {f : XV → XV} (hg : ∀ x y v, g x = some y → RepX L H0 I w v (f x) → RepX L2 H2 I w v y) : ∀ {xs ys : List XV}, trX g xs = some ys → xs.length = ys.length ∧ ∀ (i : Nat) (x y : XV) (v : Value), xs[i]? = some x → ys[i]? = some y → RepX L H0 I w v (f x) → RepX L2 H2 I w v y
  | [], ys, h => by simp only [trX, Option.some.injEq] at h; subst h; simp
  | x :: xs, ys, h => by
    simp only [trX] at h
    split at h
    · rename_i y ys' h1 h2
      cases h
      obtain ⟨g1, g2⟩ := trX_rep hg h2
      refine ⟨by simp [g1], fun i x' y' v hx hy hr => ?_⟩
      cases i with
      | zero => simp at hx hy; subst hx; subst hy; exact hg _ _ v h1 hr
      | succ i => simp at hx hy; exact g2 i x' y' v hx hy hr
    · cases h

theorem trP_rep {L2 : Lay} {H0 H2 : Heap} {g : XV → Option XV} {f : XV → XV} (hg : ∀ x y v, g x = some y → RepX L H0 I w v (f x) → RepX L2 H2 I w v y) : ∀ {vs us : List PV}, trP g vs = some us → vs.length = us.length ∧ ∀ (i : Nat) (p q : PV) (v : Value), vs[i]? = some p → us[i]? = some q → RepP L H0 I w v (p.map f) → RepP L2 H2 I w v q
  | [], us, h => by simp only [trP, Option.some.injEq] at h; subst h; simp
  | p :: vs, us, h => by
    simp only [trP] at h
    split at h
    · rename_i q us' h1 h2
      cases h
      obtain ⟨g1, g2⟩ := trP_rep hg h2
      refine ⟨by simp [g1], fun i p' q' v hx hy hr => ?_⟩
      cases i with
      | succ i => simp at hx hy; exact g2 i p' q' v hx hy hr
      | zero =>
        simp at hx hy; subst hx; subst hy
        cases p with
        | one x =>
          simp only at h1
          split at h1
          · cases h1; exact hg _ _ v (by assumption) hr
          · cases h1
        | agg xs =>
          simp only at h1
          split at h1
          · rename_i ys hys
            cases h1
            obtain ⟨vs, rfl, hsz, hr⟩ := hr
            obtain ⟨e1, e2⟩ := trX_rep hg hys
            refine ⟨vs, rfl, by rw [hsz, ← e1]; simp, fun i y v hy hv => ?_⟩
            have hi : i < xs.length := by rw [e1]; exact (List.getElem?_eq_some_iff.1 hy).1
            exact e2 i xs[i] y v (List.getElem?_eq_getElem hi) hy (hr i _ v (by simp [hi]) hv)
          · cases h1
        | tup _ => cases h1
    · cases h

theorem inH_get {h : Heap} : ∀ {ks : List Nat} {i : Nat} {H : Heap}, inH h ks i = some H →
    (∀ m k, ks[m]? = some k → ∃ ap sz rows, find h k = some (.deep ap sz rows) ∧ find H (1000000 + i + m) = some (.deep ap sz rows)) ∧ (∀ j o, find H j = some o → ∃ m k, ks[m]? = some k ∧ j = 1000000 + i + m ∧ find h k = some o)
  | [], i, H, e => by simp only [inH, Option.some.injEq] at e; subst e; exact ⟨by simp, by simp [find]⟩
  | k :: ks, i, H, e => by
    simp only [inH] at e
    split at e
    · rename_i ap sz rows r h1 h2
      cases e
      obtain ⟨g1, g2⟩ := inH_get h2
      refine ⟨fun m k' hk => ?_, fun j o ho => ?_⟩
      · cases m with
        | zero => simp at hk; subst hk; exact ⟨ap, sz, rows, h1, by simp [find]⟩
        | succ m =>
          simp at hk
          obtain ⟨ap', sz', rows', q1, q2⟩ := g1 m k' hk
          refine ⟨ap', sz', rows', q1, ?_⟩
          have hne : Nat.beq (1000000 + i) (1000000 + i + (m + 1)) = false := beq_false.2 (by omega)
          simp only [find, hne]
          rw [← q2]; congr 1; omega
      · simp only [find] at ho
        split at ho
        · rename_i e
          have e := beq_iff.1 e
          subst e
          cases ho
          exact ⟨0, k, by simp, by omega, h1⟩
        · obtain ⟨m, k', q1, q2, q3⟩ := g2 j o ho
          exact ⟨m + 1, k', by simpa using q1, by omega, q3⟩
    · cases e

theorem backK_get {out : Heap} : ∀ {ks : List Nat} {i : Nat} {s : St} {K : St → Prop}, ks.Nodup → backK out ks i s K →
    ∃ s', K s' ∧ s'.regs = s.regs.map (PV.map (unDns ks)) ∧ (∀ j, j ∉ ks → find s'.heap j = (find s.heap j).map (Ob.map (unDns ks))) ∧
      ∀ m k, ks[m]? = some k → ∃ ap sz rows ap' rows', find s.heap k = some (.deep ap sz rows) ∧ find out (1000000 + i + m) = some (.deep ap' sz rows') ∧ rows'.length = rows.length ∧ find s'.heap k = some (.deep ap sz rows')
  | [], i, s, K, _, h => by
    refine ⟨s, h, ?_, fun j _ => ?_, by simp⟩
    · have : (PV.map (unDns [])) = id := funext fun p => by
        have : unDns [] = fun y => y := funext unDns_nil
        rw [this, PV.map_id']; rfl
      rw [this]; simp
    · have : unDns [] = fun y => y := funext unDns_nil
      rw [this]
      cases find s.heap j with
      | none => rfl
      | some o => simp [Ob.map_id']
  | k :: ks, i, s, K, hn, h => by
    obtain ⟨hk, hn⟩ := List.nodup_cons.1 hn
    simp only [backK] at h
    split at h
    · rename_i ap' sz' rows' ap sz rows h1 h2
      split at h
      · rename_i hb
        have e := beq_iff.1 hb
        subst e
        obtain ⟨hl, h⟩ := h
        rw [setK'_iff] at h
        obtain ⟨s', g1, g2, g3, g4⟩ := backK_get hn h
        have hfind := fun j => find_set (o := .deep ap sz rows') ⟨_, h2⟩ j
        have hcomp : unDns ks ∘ unDns [k] = unDns (k :: ks) := funext fun x => by simp only [Function.comp]; rw [← unDns_one, unDns_cons]
        have hpm : ∀ p : PV, (p.map (unDns [k])).map (unDns ks) = p.map (unDns (k :: ks)) := fun p => by
          rw [← hcomp]
          cases p with
          | one x => rfl
          | agg xs => simp [PV.map]
          | tup vs => simp [PV.map]
        have hom : ∀ o : Ob, (o.map (unDns [k])).map (unDns ks) = o.map (unDns (k :: ks)) := fun o => by
          rw [← hcomp]
          cases o with
          | box cs => simp [Ob.map]
          | arr _ _ => rfl
          | deep _ _ _ => rfl
        refine ⟨s', g1, ?_, fun j hj => ?_, fun m k' hm => ?_⟩
        · rw [g2]; simp only [List.map_map]
          congr 1
          funext p; exact hpm p
        · simp only [List.mem_cons, not_or] at hj
          rw [g3 j hj.2]
          simp only
          rw [hfind, if_neg hj.1]
          cases find s.heap j with
          | none => rfl
          | some o => simp [hom]
        · cases m with
          | zero =>
            simp at hm; subst hm
            refine ⟨ap, sz, rows, ap', rows', h2, h1, hl, ?_⟩
            rw [g3 k hk]
            simp only
            rw [hfind, if_pos rfl]; rfl
          | succ m =>
            simp at hm
            have hne : k' ≠ k := fun e => hk (e ▸ List.mem_of_getElem? hm)
            obtain ⟨ap2, sz2, rows2, ap2', rows2', q1, q2, q3, q4⟩ := g4 m k' hm
            simp only at q1
            rw [hfind, if_neg hne] at q1
            cases h5 : find s.heap k' with
            | none => simp [h5] at q1
            | some o =>
              simp only [h5, Option.map_some, Option.some.injEq] at q1
              cases o with
              | box _ => cases q1
              | arr _ _ => cases q1
              | deep x y z =>
                cases q1
                exact ⟨_, _, _, ap2', rows2', rfl, by rw [← q2]; congr 1; omega, q3, q4⟩
      · exact h.elim
    · exact h.elim

theorem wp_callM {o : Oper} {g : FuncId} {vals : Array Value} {as : List PV} {H : Heap} {r : Res} {O I1 : Nat → Prop} {L0 : Lay} (hs : SatM P g as H r) (hrun : (execOp a.eval o).run P w = .ok (.enter g vals) w) (hIb : ∀ b, I1 b → b < w.heap.size)
    (hsz : vals.size = as.length) (hrep : ∀ (i : Nat) (p : PV) (v : Value), as[i]? = some p → vals[i]? = some v → RepP L0 H I1 w v p) (hok : HeapOK O L0 H I1 w) {next : Act → World → Prop} {Q : Exit → Act → World → Prop}
    (hn : ∀ v w', BackM O I1 w L0 r v w' → next (a.put o.dst v) w') : o.wp P a w next Q := by
  unfold Oper.wp
  rw [hrun]
  simp only [Oper.upon]
  refine (hs.2 O I1 w L0 vals hIb hsz hrep hok).mono fun e w' h => ?_
  cases e with
  | returned v => exact hn v w' h
  | panicked c => exact h.elim
  | outgrown => exact h.elim

/-- The captured values come behind the arguments. -/
theorem argsM_caps {L2 : Lay} {H2 : Heap} {vals : Array Value} {as : List PV} {caps : List CV} {cv : Array Value} (hl : vals.size = as.length) (hr : ∀ (i : Nat) (p : PV) (v : Value), as[i]? = some p → vals[i]? = some v → RepP L2 H2 I w v p)
    (hcl : cv.size = caps.length) (hcr : ∀ (i : Nat) (c : CV) (v : Value), caps[i]? = some c → cv[i]? = some v → RepC I w v c) :
    (vals ++ cv).size = (as ++ caps.map fun y => PV.one (.c y)).length ∧ ∀ (i : Nat) (p : PV) (v : Value), (as ++ caps.map fun y => PV.one (.c y))[i]? = some p → (vals ++ cv)[i]? = some v → RepP L2 H2 I w v p := by
  refine ⟨by simp [hl, hcl], fun i c v h1 h2 => ?_⟩
  by_cases hi : i < as.length
  · rw [List.getElem?_append_left hi] at h1
    rw [Array.getElem?_append_left (by omega)] at h2
    exact hr i c v h1 h2
  · rw [List.getElem?_append_right (by omega)] at h1
    rw [Array.getElem?_append_right (by omega)] at h2
    rw [List.getElem?_map] at h1
    cases hc : caps[i - as.length]? with
    | none => simp [hc] at h1
    | some y =>
      simp only [hc, Option.map_some, Option.some.injEq] at h1
      subst h1
      exact hcr _ y v hc (by rw [← hl]; exact h2)

theorem RepO.deepAny {L L' : Lay} {H H' : Heap} {I I' : Nat → Prop} {w : World} {k k' sz : Nat} {ap ap' : Bool} {rows : List (List CV)} (h1 : L'.blk k' = L.blk k) (h2 : L'.cap k' = L.cap k) (h3 : L'.fp k' = L.fp k) (h4 : L'.hd k' = L.hd k) (h : RepO L H I w k (.deep ap sz rows)) : RepO L' H' I' w k' (.deep ap' sz rows) := by
  simp only [RepO] at h ⊢
  rw [h1, h2, h3, h4]; exact h

theorem callD_goes {o : Oper} {c : Call} {f : Operand} {g : Nat} {caps : List CV} {vs : List PV} (hi : Inv C L I s a w) (ho : o.op = .call c) (hc : c.callee = .value f) {K : PV → St → Prop} (hpf : RepP L s.heap I w (a.eval f) (.one (.c (.fn g caps)))) (hvl : vs.length = c.args.toList.length)
    (hvs : ∀ (i : Nat) (pv : PV) (x : Operand), vs[i]? = some pv → c.args.toList[i]? = some x → RepP L s.heap I w (a.eval x) pv) (h : callD P g caps vs s K) : ∃ pv s', K pv s' ∧ GoesM P C s' a w o pv := by
  have hpf : RepC I w (a.eval f) (.fn g caps) := hpf
  generalize hv : a.eval f = vf at hpf
  cases hpf with
  | fn _ cv _ hcl hcr =>
  have hvals : ∀ {L2 : Lay} {H2 : Heap} {as : List PV} {gg : XV → Option XV} {f : XV → XV}, trP gg vs = some as → vs.map (PV.map f) = vs → (∀ x y v, gg x = some y → RepX L s.heap I w v (f x) → RepX L2 H2 I w v y) →
      (c.args.map a.eval).size = as.length ∧ ∀ (i : Nat) (p : PV) (v : Value), as[i]? = some p → (c.args.map a.eval)[i]? = some v → RepP L2 H2 I w v p := fun {L2 H2 as gg f} htr hff hg => by
    obtain ⟨e1, e2⟩ := trP_rep hg htr
    refine ⟨by rw [← e1, hvl, Array.size_map, Array.length_toList], fun i p v h1 h2 => ?_⟩
    have hil : i < vs.length := by rw [e1]; exact (List.getElem?_eq_some_iff.1 h1).1
    have hia : i < c.args.toList.length := by omega
    have hr := hvs i vs[i] c.args.toList[i] (List.getElem?_eq_getElem hil) (List.getElem?_eq_getElem hia)
    have : v = a.eval c.args.toList[i] := by
      have hia' : i < c.args.size := by simpa using hia
      rw [Array.getElem?_map] at h2
      simp [hia'] at h2
      simp [h2]
    rw [this]
    have hpf : vs[i].map f = vs[i] := by
      have h5 : (vs.map (PV.map f))[i]? = some (vs[i].map f) := by simp [hil]
      rw [hff, List.getElem?_eq_getElem hil] at h5
      simpa using h5.symm
    exact e2 i vs[i] p _ (List.getElem?_eq_getElem hil) h1 (by rw [hpf]; exact hr)
  unfold callD at h
  split at h
  · generalize hks : dedup (keysPs vs) = ks at h
    have hnd : ks.Nodup := hks ▸ dedup_nodup _
    simp only at h
    split at h
    · rename_i as H2 has hH2 h32
      obtain ⟨r, hs, h⟩ := h
      split at h
      · rename_i hsc
        have hrun := exec_call (P := P) (w := w) ho hc hv hs.1
        obtain ⟨s', hK, hregs, hoth, hobs⟩ := backK_get hnd h
        simp only [forceP_eq] at hK
        refine ⟨r.1, s', hK, fun next Q hQ hn => Or.inl ?_⟩
        let L2 : Lay := ⟨fun j => L.blk (ks.getD (j - 1000000) 0), fun j => L.cap (ks.getD (j - 1000000) 0), fun j => L.fp (ks.getD (j - 1000000) 0), fun j => L.hd (ks.getD (j - 1000000) 0)⟩
        have hkk : ∀ {m k}, ks[m]? = some k → ks.getD (1000000 + m - 1000000) 0 = k := fun {m k} h => by
          rw [Nat.add_sub_cancel_left]; simp [List.getD_eq_getElem?_getD, h]
        have hkk0 : ∀ {m k}, ks[m]? = some k → ks.getD (1000000 + 0 + m - 1000000) 0 = k := fun {m k} h => by
          rw [Nat.add_zero]; exact hkk h
        obtain ⟨hin1, hin2⟩ := inH_get hH2
        let O : Nat → Prop := fun b => ∃ k, k ∈ ks ∧ Foot L k b
        have hOC : ∀ b, O b → C.O b ∧ ¬ I b ∧ b < w.heap.size := fun b ⟨k, hk, hb⟩ => by
          obtain ⟨m, hm, rfl⟩ := List.mem_iff_getElem.1 hk
          obtain ⟨_, _, _, q1, _⟩ := hin1 m _ (List.getElem?_eq_getElem hm)
          exact hi.heap.own _ _ b q1 hb
        have hok : HeapOK O L2 H2 I w := by
          refine ⟨fun j o' hj => ?_, fun j o' b hj hb => ?_, fun j j' o1 o2 b hj hj' hb hb' => ?_⟩
          · obtain ⟨m, k, q1, q2, q3⟩ := hin2 j o' hj
            obtain ⟨ap, sz, rows, q4, _⟩ := hin1 m k q1
            rw [q3] at q4; cases q4
            have e := hkk0 q1
            subst q2
            exact RepO.deepAny (by simp only [L2, e]) (by simp only [L2, e]) (by simp only [L2, e]) (by simp only [L2, e]) (hi.heap.ob k _ q3)
          · obtain ⟨m, k, q1, q2, q3⟩ := hin2 j o' hj
            have e := hkk0 q1
            subst q2
            have hb : Foot L k b := by simpa only [Foot, L2, e] using hb
            exact ⟨⟨k, List.mem_of_getElem? q1, hb⟩, (hi.heap.own k _ b q3 hb).2⟩
          · obtain ⟨m, k, q1, q2, q3⟩ := hin2 j o1 hj
            obtain ⟨m', k', q1', q2', q3'⟩ := hin2 j' o2 hj'
            have e := hkk0 q1
            have e' := hkk0 q1'
            subst q2; subst q2'
            have hb : Foot L k b := by simpa only [Foot, L2, e] using hb
            have hb' : Foot L k' b := by simpa only [Foot, L2, e'] using hb'
            have ek := hi.heap.inj k k' _ _ b q3 q3' hb hb'
            subst ek
            have hm : m < ks.length := (List.getElem?_eq_some_iff.1 q1).1
            have : m = m' := nodup_inj hnd q1 q1'
            rw [this]
        obtain ⟨p1, p2⟩ := hvals (L2 := L2) (H2 := H2) (f := fun y => y) has (map_id_regs _) (fun x y v hg hx => by
          cases x <;> simp only [gIn, Option.some.injEq, reduceCtorEq] at hg
          · subst hg; exact hx
          · subst hg; have hx : v = _ := hx; subst hx; exact RepC.nil _
          · rename_i k
            split at hg
            · rename_i m hm
              cases hg
              obtain ⟨_, hm⟩ := idx_get hm
              rw [Nat.sub_zero] at hm
              obtain ⟨ap, sz, rows, q1, q2⟩ := hin1 m k hm
              obtain ⟨_, _, _, q3, q4⟩ := hx
              rw [q1] at q3; cases q3
              refine ⟨ap, sz, rows, by rw [← q2], ?_⟩
              have e := hkk hm
              simp only [L2, e]
              exact q4
            · cases hg)
        obtain ⟨p3, p4⟩ := argsM_caps p1 p2 hcl hcr
        refine wp_callM hs hrun hi.Ib p3 p4 hok fun v w' ⟨hkp, L3, I3, h1, h2, h3, h4, h5⟩ => ?_
        let ix : Nat → Nat := fun k => 1000000 + ks.idxOf k
        have hix : ∀ {m k}, ks[m]? = some k → ix k = 1000000 + 0 + m := fun {m k} h => by
          have hm : m < ks.length := (List.getElem?_eq_some_iff.1 h).1
          have e : ks[m] = k := by rw [List.getElem?_eq_getElem hm] at h; simpa using h
          show 1000000 + ks.idxOf k = _
          have : ks.idxOf k < ks.length := List.idxOf_lt_length_of_mem (e ▸ List.getElem_mem hm)
          have := nodup_inj (m := ks.idxOf k) hnd (by rw [List.getElem?_eq_getElem this, List.getElem_idxOf this]) h
          omega
        let L4 : Lay := ⟨L.blk, L.cap, fun j => if j ∈ ks then L3.fp (ix j) else L.fp j, fun j => if j ∈ ks then L3.hd (ix j) else L.hd j⟩
        have hmem : ∀ {k}, k ∈ ks → ∃ m, ks[m]? = some k := fun {k} h => by
          obtain ⟨m, hm, rfl⟩ := List.mem_iff_getElem.1 h
          exact ⟨m, List.getElem?_eq_getElem hm⟩
        have hpinned : ∀ {k}, k ∈ ks → ∃ ap sz rows ap' rows', find s.heap k = some (.deep ap sz rows) ∧ find r.2 (ix k) = some (.deep ap' sz rows') ∧ rows'.length = rows.length ∧ find s'.heap k = some (.deep ap sz rows') ∧ L3.blk (ix k) = L.blk k ∧ L3.cap (ix k) = L.cap k := fun {k} hk => by
          obtain ⟨m, hm⟩ := hmem hk
          obtain ⟨ap, sz, rows, ap', rows', q1, q2, q3, q4⟩ := hobs m k hm
          rw [← hix hm] at q2
          obtain ⟨e1, e2⟩ := h5 (ix k) _ (pinK_small (i := ks.idxOf k) (by have := List.idxOf_lt_length_of_mem hk; have := Nat.le_of_ble_eq_true h32; omega)) q2
          have e := hkk0 hm
          rw [← hix hm] at e
          simp only [L2, e] at e1 e2
          exact ⟨ap, sz, rows, ap', rows', q1, q2, q3, q4, e1, e2⟩
        have hfoot : ∀ {k b}, k ∈ ks → Foot L4 k b → Foot L3 (ix k) b := fun {k b} hk hb => by
          obtain ⟨_, _, _, _, _, _, _, _, _, e1, _⟩ := hpinned hk
          rcases hb with hb | hb
          · exact .inl (e1.trans hb)
          · simp only [L4, hk, if_true] at hb; exact .inr hb
        obtain ⟨hinv, hrx⟩ := hi.setMany (ks := ks) (H' := s'.heap) (L' := L4) (w' := w') hoth (fun k hk => by
            obtain ⟨ap, sz, rows, ap', rows', q1, q2, q3, q4, e1, e2⟩ := hpinned hk
            exact ⟨ap, sz, rows, rows', q1, q4, q3, rfl, rfl, RepO.deepAny (by simp only [L4]; exact e1.symm) (by simp only [L4]; exact e2.symm) (by simp only [L4, hk, if_true]) (by simp only [L4, hk, if_true]) (h4.ob _ _ q2)⟩)
          (fun j hj => ⟨rfl, rfl, by simp only [L4, hj, if_false], by simp only [L4, hj, if_false]⟩)
          (fun b hb hno => hkp.block b hb fun ⟨k, hk, hf⟩ => hno k hk hf) hkp.size hkp.os hkp.tape hkp.output (fun k hk b hb => by
            obtain ⟨ap, sz, rows, ap', rows', q1, q2, q3, q4, e1, e2⟩ := hpinned hk
            obtain ⟨x1, x2, x3⟩ := h4.own _ _ b q2 (hfoot hk hb)
            rcases x1 with x1 | x1
            · exact ⟨C.hO b (Nat.le_trans hi.fr.size x1), fun hI => by have := hi.Ib b hI; omega, x3, fun j o' _ hj hbj => by have := (hi.heap.own j o' b hj hbj).2.2; omega⟩
            · obtain ⟨y1, y2, y3⟩ := hOC b x1
              refine ⟨y1, y2, x3, fun j o' hj hfj hbj => ?_⟩
              obtain ⟨k2, hk2, hf2⟩ := x1
              obtain ⟨_, _, _, _, _, q5, _⟩ := hpinned hk2
              exact hj (hi.heap.inj k2 j _ _ b q5 hfj hf2 hbj ▸ hk2))
          (fun k hk k' hk' b hb hb' => by
            obtain ⟨_, _, _, _, _, _, q2, _⟩ := hpinned hk
            obtain ⟨_, _, _, _, _, _, q2', _⟩ := hpinned hk'
            have e := h4.inj _ _ _ _ b q2 q2' (hfoot hk hb) (hfoot hk' hb')
            obtain ⟨m, hm⟩ := hmem hk
            obtain ⟨m', hm'⟩ := hmem hk'
            rw [hix hm, hix hm'] at e
            have : m = m' := by omega
            subst this
            rw [hm] at hm'; cases hm'; rfl)
        have hs' : s' = ⟨s.regs.map (PV.map (unDns ks)), s'.heap⟩ := by cases s'; simp at hregs ⊢; exact hregs
        rw [hs'] at hn
        exact hn v w' I L4 hinv (RepP.scalar_any hsc h3)
      · exact h.elim
    · exact h.elim
  · rename_i k r j hdn
    obtain ⟨hfix, h⟩ := h
    split at h
    · rename_i ap sz rows as hfd has
      obtain ⟨⟨row, sz', es⟩, ⟨hrow, hcell⟩, h⟩ := h
      obtain ⟨q, hs, h⟩ := h
      simp only at h hrow hcell hs
      split at h
      · rename_i ap' sz2 es' hsc hfq
        split at h
        · rename_i hbq
          have e := beq_iff.1 hbq
          subst e
          obtain ⟨hel, h⟩ := h
          rw [setK'_iff] at h
          simp only [forceP_eq] at h
          have hrun := exec_call (P := P) (w := w) ho hc hv hs.1
          refine ⟨q.1, _, h, fun next Q hQ hn => Or.inl ?_⟩
          have hfind := fun j' => find_set (o := .deep ap sz (rows.set r (row.set j (.slice sz' es')))) ⟨_, hfd⟩ j'
          have hrlt : r < rows.length := (List.getElem?_eq_some_iff.1 hrow).1
          have hjlt : j < row.length := (List.getElem?_eq_some_iff.1 hcell).1
          have hob := hi.heap.ob k _ hfd
          cases hbk : L.blk k with
          | none =>
            simp only [RepO, hbk] at hob
            subst hob
            simp at hrlt
          | some b =>
          simp only [RepO, hbk] at hob
          obtain ⟨⟨hcap, hrl, cur, ce, fr, Jo, hcur, hfit, hfz, hcells, hJo, hdis⟩, hself⟩ := hob
          have hrowl := hrl r row hrow
          obtain ⟨v0, hv0, hd0, hh0⟩ := hcells r row j _ hrow hcell
          have hh0 : v0 = L.hd k (r * sz + j) := hh0 rfl
          -- the part by itself
          obtain ⟨nb, cap2, hd2, hpart, hnbJ, hrep2⟩ : ∃ (nb : Option Nat) (cap2 : Nat) (hd2 : Nat → Value), (match nb with | none => emptyV v0 ∧ es = [] | some b' => v0 = .slice (some ⟨b', 0, none⟩) es.length cap2) ∧ (∀ b', nb = some b' → Jo (r * sz + j) b') ∧
              (match nb with | none => True | some b' => DRows w (fun x => Jo (r * sz + j) x ∧ x ≠ b') hd2 b' cap2 sz' es) := by
            rcases hd0.rows with ⟨e1, e2⟩ | ⟨b', cap', hd', e1, e2, e3⟩
            · exact ⟨none, 0, fun _ => undef, ⟨e1, e2⟩, (fun _ h => by cases h), trivial⟩
            · exact ⟨some b', cap', hd', e1, (fun _ h => by cases h; exact e2), e3⟩
          let fp2 : Nat → Prop := fun x => Jo (r * sz + j) x ∧ nb ≠ some x
          let L2 : Lay := ⟨fun _ => nb, fun _ => cap2, fun _ => fp2, fun _ => hd2⟩
          let O : Nat → Prop := Jo (r * sz + j)
          have hO : ∀ b', O b' → L.fp k b' := fun b' h => hJo _ b' h
          have hfoot2 : ∀ {j' b'}, Foot L2 j' b' → O b' := fun {j' b'} h => h.elim (fun h => hnbJ b' h) fun h => h.1
          have hok : HeapOK O L2 [(1000000, .deep false sz' es)] I w := by
            have hone : ∀ {j' o'}, find [(1000000, Ob.deep false sz' es)] j' = some o' → j' = 1000000 ∧ o' = .deep false sz' es := fun {j' o'} h => by
              simp only [find] at h
              split at h
              · rename_i hb'; cases h; exact ⟨(beq_iff.1 hb').symm, rfl⟩
              · cases h
            refine ⟨fun j' o' hj' => ?_, fun j' o' b' hj' hb' => ⟨hfoot2 hb', (hi.heap.own k _ b' hfd (.inr (hO b' (hfoot2 hb')))).2⟩, fun j1 j2 o1 o2 b' h1 h2 _ _ => (hone h1).1.trans (hone h2).1.symm⟩
            obtain ⟨rfl, rfl⟩ := hone hj'
            simp only [RepO]
            cases nb with
            | none => exact hpart.2
            | some b' =>
              simp only at hrep2
              exact ⟨hrep2.mono (fun x hx => ⟨hx.1, fun e => hx.2 (by cases e; rfl)⟩) rfl (fun _ _ => rfl), fun hx => hx.2 rfl⟩
          obtain ⟨p1, p2⟩ := hvals (L2 := L2) (H2 := [(1000000, .deep false sz' es)]) (f := fixDn k r j) has hfix (fun x y v hg hx => by
            cases x <;> simp only [gNest, Option.some.injEq, reduceCtorEq] at hg
            · subst hg; exact hx
            · subst hg; have hx : v = _ := hx; subst hx; exact RepC.nil _
            · subst hg
              obtain ⟨_, _, _, q1, _, q2, _⟩ := hx
              rw [hfd] at q1; cases q1
              rw [← hh0] at q2
              refine ⟨false, sz', es, by simp [find], ?_⟩
              subst q2
              simp only [L2]
              cases nb with
              | none => exact ⟨hpart.1, fun h => by cases h⟩
              | some b' => exact hpart)
          obtain ⟨p3, p4⟩ := argsM_caps p1 p2 hcl hcr
          refine wp_callM hs hrun hi.Ib p3 p4 hok fun v w' ⟨hkp, L3, I3, h1, h2, h3, h4, h5⟩ => ?_
          obtain ⟨e1, e2⟩ := h5 1000000 _ (by decide) hfq
          simp only [L2] at e1 e2
          have hob3 := h4.ob _ _ hfq
          let F : Nat → Prop := fun x => Foot L3 1000000 x
          have hF : ∀ b', F b' → w.heap.size ≤ b' ∨ O b' := fun b' h => (h4.own _ _ b' hfq h).1
          -- the part as it is now
          have hd3 : RepD w' F v0 (.slice sz' es') := by
            simp only [RepO, e1] at hob3
            cases nb with
            | none =>
              simp only at hob3
              subst hob3
              rcases hpart.1 with e | ⟨_, _, e⟩ <;> rw [e]
              · exact .nil _ _
              · exact .empty _ _ _ _
            | some b' =>
              simp only at hob3 hpart
              rw [hpart, ← hel, ← e2]
              exact hob3.1.toD (fun x hx => ⟨.inr hx, fun e => hob3.2 (e ▸ hx)⟩) (.inl e1)
          let L4 : Lay := L.updD k (some b) (L.cap k) (fun x => (L.fp k x ∧ ¬ O x) ∨ F x) (L.hd k)
          have hL4 : L4.blk k = L.blk k ∧ L4.cap k = L.cap k ∧ L4.fp k = (fun x => (L.fp k x ∧ ¬ O x) ∨ F x) ∧ L4.hd k = L.hd k := ⟨by simp [L4, Lay.updD, hbk], by simp [L4, Lay.updD], by simp [L4, Lay.updD], by simp [L4, Lay.updD]⟩
          have hblt : b < w.heap.size := (hi.heap.own k _ b hfd (.inl hbk)).2.2
          have hbO : ¬ O b := fun h => hself (hO b h)
          have hwb : w'.heap[b]? = w.heap[b]? := hkp.block b hblt hbO
          have hwJ : ∀ {x b'}, x ≠ r * sz + j → Jo x b' → w'.heap[b']? = w.heap[b']? := fun {x b'} hx hb' => hkp.block b' (hi.heap.own k _ b' hfd (.inr (hJo _ b' hb'))).2.2 fun h => hx (hdis _ _ b' hb' h)
          let J' : Nat → Nat → Prop := fun x => if x = r * sz + j then F else Jo x
          have hlen' : ∀ (i : Nat) (r' : List CV), (rows.set r (row.set j (.slice sz' es')))[i]? = some r' → r'.length = sz := fun i r' hr' => by
            rw [List.getElem?_set] at hr'
            split at hr'
            · cases hr'; simpa using hrowl
            · exact hrl i r' hr'
          have hrep : RepO L4 ((setOb s.heap k (.deep ap sz (rows.set r (row.set j (.slice sz' es'))))).mapX (unDns [k])) I w' k (.deep ap sz (rows.set r (row.set j (.slice sz' es')))) := by
            simp only [RepO, hL4.1, hbk]
            rw [hL4.2.1, hL4.2.2.1, hL4.2.2.2]
            refine ⟨⟨by simpa using hcap, hlen', cur, ce, fr, J', by rw [hwb, hcur], hfit, fun o ho => by rw [frozen_of_block (p := ⟨b, o, none⟩) hwb]; exact hfz o ho, fun i r' j' c' g1 g2 => ?_, fun x b' hx => ?_, fun x y b' hx hy => ?_⟩, fun h => ?_⟩
            · have hj' : j' < sz := by rw [← hlen' i r' g1]; exact (List.getElem?_eq_some_iff.1 g2).1
              have old : ∀ {r0}, rows[i]? = some r0 → r0[j']? = some c' → i * sz + j' ≠ r * sz + j → ∃ v, cur[i * sz + j']? = some v ∧ RepD w' (J' (i * sz + j')) v c' ∧ (c'.isSlice = true → v = L.hd k (i * sz + j')) := fun {r0} a1 a2 hne => by
                obtain ⟨u, u1, u2, u3⟩ := hcells i r0 j' c' a1 a2
                exact ⟨u, u1, u2.mono (fun b' hb' => by simp only [J', if_neg hne]; exact hb') fun b' hb' => hwJ hne hb', u3⟩
              have hne : ∀ {i' j''}, j'' < sz → (i' ≠ r ∨ j'' ≠ j) → i' * sz + j'' ≠ r * sz + j := fun {i' j''} hlt hor e => by
                have hz : 0 < sz := by omega
                have d1 : (i' * sz + j'') / sz = i' := by rw [Nat.mul_comm, Nat.mul_add_div hz, Nat.div_eq_of_lt hlt]; rfl
                have d2 : (r * sz + j) / sz = r := by rw [Nat.mul_comm, Nat.mul_add_div hz, Nat.div_eq_of_lt (by omega)]; rfl
                rw [e, d2] at d1
                subst d1
                rcases hor with hor | hor
                · exact hor rfl
                · omega
              rw [List.getElem?_set] at g1
              by_cases ei : r = i
              · subst ei
                simp only [if_true] at g1
                rw [if_pos hrlt] at g1
                cases g1
                rw [List.getElem?_set] at g2
                by_cases ej : j = j'
                · subst ej
                  simp only [if_true] at g2
                  rw [if_pos hjlt] at g2
                  cases g2
                  exact ⟨v0, hv0, by simp only [J', if_true]; exact hd3, fun _ => hh0⟩
                · rw [if_neg ej] at g2
                  exact old hrow g2 (hne hj' (Or.inr fun e => ej e.symm))
              · rw [if_neg ei] at g1
                exact old g1 g2 (hne hj' (Or.inl fun e => ei e.symm))
            · simp only [J'] at hx
              split at hx
              · exact Or.inr hx
              · rename_i hne
                exact Or.inl ⟨hJo x b' hx, fun h => hne (hdis _ _ b' hx h)⟩
            · have hno : ∀ {x}, x ≠ r * sz + j → Jo x b' → ¬ F b' := fun {x} hne h1 h2 => by
                rcases hF b' h2 with h | h
                · have := (hi.heap.own k _ b' hfd (.inr (hJo x b' h1))).2.2; omega
                · exact hne (hdis _ _ b' h1 h)
              simp only [J'] at hx hy
              split at hx <;> split at hy
              · omega
              · rename_i hne; exact absurd hx (hno hne hy)
              · rename_i hne _; exact absurd hy (hno hne hx)
              · exact hdis x y b' hx hy
            · rcases h with h | h
              · exact hself h.1
              · rcases hF b h with h | h
                · omega
                · exact hbO h
          have hfk : ∀ {b'}, Foot L4 k b' → (Foot L k b') ∨ F b' := fun {b'} h => by
            rcases h with h | h
            · exact .inl (.inl (hL4.1 ▸ h))
            · rw [hL4.2.2.1] at h
              exact h.elim (fun h => .inl (.inr h.1)) .inr
          obtain ⟨hinv, hrx⟩ := hi.setMany (ks := [k]) (H' := (setOb s.heap k (.deep ap sz (rows.set r (row.set j (.slice sz' es'))))).mapX (unDns [k])) (L' := L4) (w' := w') (fun j' hj' => by rw [hfind, if_neg (by simpa using hj')]) (fun k' hk' => by
              obtain rfl : k' = k := by simpa using hk'
              exact ⟨ap, sz, rows, _, hfd, by rw [hfind, if_pos rfl]; rfl, by simp, hL4.1, hL4.2.1, hrep⟩)
            (fun j' hj' => L.updD_same (by simpa using hj')) (fun b' hb' hno => hkp.block b' hb' fun h => hno k (by simp) (.inr (hO b' h))) hkp.size hkp.os hkp.tape hkp.output (fun k' hk' b' hb' => by
              obtain rfl : k' = k := by simpa using hk'
              have old : Foot L k' b' → C.O b' ∧ ¬ I b' ∧ b' < w'.heap.size ∧ ∀ j' o', j' ∉ [k'] → find s.heap j' = some o' → ¬ Foot L j' b' := fun h => by
                obtain ⟨x1, x2, x3⟩ := hi.heap.own k' _ b' hfd h
                exact ⟨x1, x2, Nat.lt_of_lt_of_le x3 hkp.size, fun j' o' hj' hf' hb2 => hj' (by simp [hi.heap.inj j' k' _ _ b' hf' hfd hb2 h])⟩
              rcases hfk hb' with h | h
              · exact old h
              · rcases hF b' h with h' | h'
                · exact ⟨C.hO b' (Nat.le_trans hi.fr.size h'), fun hI => by have := hi.Ib b' hI; omega, (h4.own _ _ b' hfq h).2.2, fun j' o' _ hj' hbj => by have := (hi.heap.own j' o' b' hj' hbj).2.2; omega⟩
                · exact old (.inr (hO b' h')))
            (fun k1 hk1 k2 hk2 b' _ _ => by simp at hk1 hk2; rw [hk1, hk2])
          exact hn v w' I L4 hinv (RepP.scalar_any hsc h3)
        · exact h.elim
      · exact h.elim
    · exact h.elim

end

end Go.Proofs.Ytjolahiflldepab.Pi
