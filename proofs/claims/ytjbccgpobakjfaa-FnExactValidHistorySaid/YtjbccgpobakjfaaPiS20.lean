/- Functions: from the predicate transformer to 'Sat'. No statement of the seat is proved here. -/
import Derived.Test.YtjbccgpobakjfaaPiS19
namespace Go.Proofs.Ytjbccgpobakjfaa.Pi
open Go Go.RowKit
set_option linter.unusedVariables false
set_option linter.unusedSimpArgs false

theorem dedup_mem : ∀ {ks : List Nat} {k : Nat}, k ∈ dedup ks ↔ k ∈ ks
  | [], k => by simp [dedup]
  | j :: ks, k => by
    simp only [dedup]
    split
    · rename_i h
      have h : j ∈ ks := dedup_mem.1 (List.contains_iff_mem.1 h)
      rw [dedup_mem]
      constructor
      · exact fun h => by simp [h]
      · intro h2
        simp only [List.mem_cons] at h2
        rcases h2 with rfl | h2
        · exact h
        · exact h2
    · simp [dedup_mem (ks := ks)]

theorem dedup_nodup : ∀ (ks : List Nat), (dedup ks).Nodup
  | [] => by simp [dedup]
  | j :: ks => by
    simp only [dedup]
    split
    · exact dedup_nodup ks
    · rename_i h
      refine List.nodup_cons.2 ⟨fun hm => ?_, dedup_nodup ks⟩
      have := List.contains_iff_mem.2 hm
      rw [this] at h
      cases h

theorem idx_get : ∀ {ks : List Nat} {k i j : Nat}, idx k ks i = some j → i ≤ j ∧ ks[j - i]? = some k
  | [], k, i, j, h => by cases h
  | a :: ks, k, i, j, h => by
    simp only [idx] at h
    split at h
    · rename_i e
      cases h
      exact ⟨Nat.le_refl _, by simp [beq_iff.1 e]⟩
    · obtain ⟨h1, h2⟩ := idx_get h
      refine ⟨by omega, ?_⟩
      have : j - i = (j - (i + 1)) + 1 := by omega
      rw [this]
      simpa using h2

theorem canonH_get {H : Heap} : ∀ {ks : List Nat} {i : Nat} {h : Heap}, canonH H ks i = some h →
    (∀ j k, ks[j]? = some k → find h (i + j) = find H k) ∧ (∀ j o, find h j = some o → ∃ k sz rows, i ≤ j ∧ ks[j - i]? = some k ∧ o = .arr sz rows ∧ find H k = some o)
  | [], i, h, e => by simp only [canonH, Option.some.injEq] at e; subst e; exact ⟨by simp, by simp [find]⟩
  | k :: ks, i, h, e => by
    simp only [canonH] at e
    split at e
    · rename_i sz rows r h1 h2
      cases e
      obtain ⟨g1, g2⟩ := canonH_get h2
      refine ⟨fun j k' hk => ?_, fun j o ho => ?_⟩
      · cases j with
        | zero => simp only [List.getElem?_cons_zero, Option.some.injEq] at hk; subst hk; simp [find, h1]
        | succ j =>
          simp only [List.getElem?_cons_succ] at hk
          have hne : Nat.beq i (i + (j + 1)) = false := beq_false.2 (by omega)
          simp only [find, hne]
          have := g1 j k' hk
          rwa [show i + 1 + j = i + (j + 1) by omega] at this
      · simp only [find] at ho
        split at ho
        · rename_i e
          have e := beq_iff.1 e
          subst e
          cases ho
          exact ⟨k, sz, rows, Nat.le_refl _, by simp, rfl, h1⟩
        · obtain ⟨k', sz', rows', q1, q2, q3, q4⟩ := g2 j o ho
          refine ⟨k', sz', rows', by omega, ?_, q3, q4⟩
          rw [show j - i = (j - (i + 1)) + 1 by omega]
          simpa using q2
    · cases e

section
variable {P : Program} {C : Ctx} {L : Lay} {I : Nat → Prop} {s : St} {a : Act} {w : World}

theorem RepX.canon {ks : List Nat} {h H : Heap} (hh : canonH H ks 0 = some h) {v : Value} {x : XV} (hx : RepX L H I w v x) :
    RepX ⟨fun i => (ks[i]?).bind L.blk, fun i => L.cap (ks.getD i 0)⟩ h I w v (canonX ks x) := by
  obtain ⟨g1, g2⟩ := canonH_get hh
  have hk : ∀ {k i}, idx k ks 0 = some i → ks[i]? = some k ∧ find h i = find H k := fun {k i} e => by
    obtain ⟨_, e2⟩ := idx_get e
    have e2 : ks[i]? = some k := by simpa using e2
    exact ⟨e2, by have := g1 i k e2; simpa using this⟩
  cases x with
  | c y => exact hx
  | nil sz => exact hx
  | undef => exact hx
  | dead => trivial
  | pb k o l => trivial
  | rs k =>
    simp only [canonX]
    cases e : idx k ks 0 with
    | none => trivial
    | some i =>
      obtain ⟨e1, e2⟩ := hk e
      obtain ⟨sz, rows, h1, h2⟩ := hx
      refine ⟨sz, rows, e2.trans h1, ?_⟩
      simpa [e1, List.getD_eq_getElem?_getD] using h2
  | ru k o l =>
    simp only [canonX]
    cases e : idx k ks 0 with
    | none => trivial
    | some i =>
      obtain ⟨e1, e2⟩ := hk e
      obtain ⟨sz, rows, h1, h3, h2⟩ := hx
      refine ⟨sz, rows, e2.trans h1, h3, ?_⟩
      simpa [e1] using h2
  | pe k r o l =>
    simp only [canonX]
    cases e : idx k ks 0 with
    | none => trivial
    | some i =>
      obtain ⟨e1, e2⟩ := hk e
      obtain ⟨sz, rows, b, h1, h2, h3⟩ := hx
      exact ⟨sz, rows, b, e2.trans h1, by simpa [e1] using h2, h3⟩

theorem canon_heap {O : Nat → Prop} {ks : List Nat} {h H : Heap} (hn : ks.Nodup) (hh : canonH H ks 0 = some h) (hok : HeapOK O L H I w) :
    HeapOK O ⟨fun i => (ks[i]?).bind L.blk, fun i => L.cap (ks.getD i 0)⟩ h I w := by
  obtain ⟨g1, g2⟩ := canonH_get hh
  refine ⟨fun i o ho => ?_, fun i o b ho hb => ?_, fun i i' o o' b ho ho' hb hb' => ?_⟩
  · obtain ⟨k, sz, rows, _, q2, rfl, q4⟩ := g2 i o ho
    have q2 : ks[i]? = some k := by simpa using q2
    have hr := hok.ob k _ q4
    have hg : ks.getD i 0 = k := by simp [List.getD_eq_getElem?_getD, q2]
    simp only [RepO, q2, Option.bind_some, hg] at hr ⊢
    exact hr
  · obtain ⟨k, sz, rows, _, q2, rfl, q4⟩ := g2 i o ho
    have q2 : ks[i]? = some k := by simpa using q2
    simp only [q2, Option.bind_some] at hb
    exact hok.own k _ b q4 hb
  · obtain ⟨k, sz, rows, _, q2, rfl, q4⟩ := g2 i o ho
    have q2 : ks[i]? = some k := by simpa using q2
    obtain ⟨k', sz', rows', _, q2', rfl, q4'⟩ := g2 i' o' ho'
    have q2' : ks[i']? = some k' := by simpa using q2'
    simp only [q2, Option.bind_some] at hb
    simp only [q2', Option.bind_some] at hb'
    have e := hok.inj k k' _ _ b q4 q4' hb hb'
    subst e
    have hi : i < ks.length := (List.getElem?_eq_some_iff.1 q2).1
    exact (List.getElem?_inj hi hn).1 (q2.trans q2'.symm)

theorem compK_sound {v : Value} {pv : PV} {K : Bool × List XV → Prop} (h : compK pv K) (hr : RepP L s.heap I w v pv) : ∃ p, K p ∧ RepB L s.heap I w v p := by
  cases pv with
  | one x => exact ⟨_, h, hr⟩
  | agg xs => exact ⟨_, h, hr⟩
  | tup _ => exact h.elim

def oneVal : List Value → Value
  | [v] => v
  | vs => .tuple vs.toArray

theorem load_as {t : TypeId} {v v' : Value} (h : (Instr.loadAt t v).run P w = .ok v' w) : (do loadVar t (← asAddr v) : Sem Value).run P w = .ok v' w := by
  simp only [Instr.loadAt] at h
  cases v with
  | pointer a =>
    cases a with
    | some a => simpa [Instr.sureAddr, asAddr] using h
    | none => simp [Instr.sureAddr] at h
  | _ => simp [Instr.sureAddr] at h

/-- What the machine does to read one result. -/
def resRun (tmps : Array Value) (rv : ResultVar) : Sem Value :=
  match rv with
  | .tmp t => pure (tmps.getD t undef)
  | .cell a t => do loadVar t (← asAddr (tmps.getD a undef))

theorem resVals_sound {tt : TT} (hT : TOK P tt) (hi : Inv C L I s a w) : ∀ {l : List ResultVar} {K : List (Bool × List XV) → Prop}, resVals tt s l K →
    ∃ ps vs, K ps ∧ (l.mapM (resRun a.tmps)).run P w = .ok vs w ∧ vs.length = ps.length ∧ ∀ (i : Nat) (p : Bool × List XV) (v : Value), ps[i]? = some p → vs[i]? = some v → RepB L s.heap I w v p
  | [], K, h => ⟨[], [], h, by simp, rfl, by simp⟩
  | rv :: l, K, h => by
    simp only [resVals] at h
    have hone : ∃ p v, (resVals tt s l fun ps => K (p :: ps)) ∧ (resRun a.tmps rv).run P w = .ok v w ∧ RepB L s.heap I w v p := by
      cases rv with
      | tmp t =>
        obtain ⟨pv, h1, h2⟩ := opd_sound (x := .tmp t) (t := tt 0) hi h
        obtain ⟨p, h3, h4⟩ := compK_sound h1 h2
        exact ⟨p, _, h3, by simp [resRun, Act.eval], h4⟩
      | cell b t =>
        obtain ⟨pv, h1, h2⟩ := opd_sound (x := .tmp b) (t := tt 0) hi h
        obtain ⟨pv', v', h3, h4, h5⟩ := loadK_sound hi (hT t) h1 h2
        obtain ⟨p, h6, h7⟩ := compK_sound h3 h5
        exact ⟨p, v', h6, by unfold resRun; exact load_as h4, h7⟩
    obtain ⟨p, v, h1, h2, h3⟩ := hone
    obtain ⟨ps, vs, g1, g2, g3, g4⟩ := resVals_sound hT hi h1
    refine ⟨p :: ps, v :: vs, g1, by simp [h2, g2], by simp [g3], fun i q u hq hu => ?_⟩
    cases i with
    | zero => simp only [List.getElem?_cons_zero, Option.some.injEq] at hq hu; subst hq hu; exact h3
    | succ i => simp only [List.getElem?_cons_succ] at hq hu; exact g4 i q u hq hu

theorem results_run {fn : Func} {tmps : Array Value} {vs : List Value} (h : (fn.results.toList.mapM (resRun tmps)).run P w = .ok vs w) :
    (results fn tmps).run P w = .ok (oneVal vs) w := by
  have e : results fn tmps = (do let vs ← fn.results.mapM (resRun tmps); pure (if h : vs.size = 1 then vs[0] else .tuple vs)) := rfl
  rw [e]
  simp only [Array.mapM_eq_mapM_toList, Sem.run_bind, Sem.run_map, h]
  match vs with
  | [] => simp [oneVal, h]
  | [v] => simp [oneVal, h]
  | v :: u :: vs => simp [oneVal, h]

theorem resPV_rep {ps : List (Bool × List XV)} {vs : List Value} {H : Heap} (hl : vs.length = ps.length) (hr : ∀ (i : Nat) (p : Bool × List XV) (v : Value), ps[i]? = some p → vs[i]? = some v → RepB L H I w v p) :
    RepP L H I w (oneVal vs) (resPV ps) := by
  have tup : RepP L H I w (.tuple vs.toArray) (.tup ps) := ⟨vs.toArray, rfl, by simp [hl], fun i p v h1 h2 => hr i p v h1 (by simpa using h2)⟩
  match vs, ps, hl with
  | [], [], _ => exact tup
  | [v], [(false, [x])], _ => exact hr 0 _ v rfl rfl
  | [v], [(true, xs)], _ => exact hr 0 _ v rfl rfl
  | [v], [(false, [])], _ => exact (hr 0 _ v rfl rfl).elim
  | [v], [(false, _ :: _ :: _)], _ => exact (hr 0 _ v rfl rfl).elim
  | v :: u :: vs, p :: q :: ps, _ =>
    have : resPV (p :: q :: ps) = .tup (p :: q :: ps) := by
      unfold resPV
      split <;> simp_all
    rw [this]
    exact tup

theorem retK_sound {tt : TT} (hT : TOK P tt) {w0 : World} {I0 : Nat → Prop} {fn : Func} {r : Res} (hi : Inv ⟨w0, fun b => w0.heap.size ≤ b, I0, fun b h => h⟩ L I s a w) {e : Ex} (h : retK tt fn r e s) :
    ∃ v, (results fn a.tmps).run P w = .ok v w ∧ Back I0 w0 r v w := by
  have h : resVals tt s fn.results.toList fun ps => match resPV ps with
    | pv => match dedup (keysP pv) with
      | ks => match canonH s.heap ks 0 with
        | some h => forceP (pv.map (canonX ks)) fun pv => ResOK (pv, h) r
        | none => False := by
    cases e with
    | exit _ => exact h.elim
    | normal => exact h
    | ret => exact h
  obtain ⟨ps, vs, h, hrun, hl, hr⟩ := resVals_sound hT hi h
  simp only [forceP_eq] at h
  refine ⟨_, results_run hrun, ?_⟩
  have hv := resPV_rep hl hr
  generalize oneVal vs = v at *
  generalize hpv : resPV ps = pv at *
  have hnd := dedup_nodup (keysP pv)
  generalize dedup (keysP pv) = ks at *
  have hB : Below w0.heap.size w0 w := ⟨hi.fr.os, hi.fr.tape, hi.fr.output, hi.fr.size, fun b hb => hi.fr.block b hb (by simpa using hb)⟩
  have hI : ∀ b, b < w0.heap.size → I b → I0 b := fun b hb hb' => (hi.Io b hb hb').elim id fun h => absurd h (by simp; omega)
  split at h
  · rename_i hh hc
    have hv' := hv.map' (fun v x hx => RepX.canon hc hx)
    have hok := canon_heap hnd hc hi.heap
    cases h with
    | same h => subst h; exact ⟨hB, _, I, hI, hi.Ib, hv', hok⟩
    | frz h h2 =>
      refine ⟨hB, ⟨fun _ => none, fun _ => 0⟩, Iall _ hh I, fun b hb hIa => ?_, fun b hIa => ?_, frzP_rep hok (fun b h => h) h hv', ?_⟩
      · rcases hIa with h | ⟨k, o, h3, h4⟩
        · exact hI b hb h
        · have := (hok.own k o b h3 h4).1
          simp only at this; omega
      · rcases hIa with h | ⟨k, o, h3, h4⟩
        · exact hi.Ib b h
        · exact (hok.own k o b h3 h4).2.2
      · rw [h2]
        exact ⟨fun k o h => by simp [find] at h, fun k o b h => by simp [find] at h, fun k k' o o' b h => by simp [find] at h⟩
  · exact h.elim

/-- A FUNCTION WITH A BODY ANSWERS AS ITS PREDICATE TRANSFORMER SAYS. -/
theorem Sat.intro {tt : TT} (hT : TOK P tt) (hm : P.follows .mixedOrders = true) {f : FuncId} {fn : Func} {c : Code} (hf : P.funcs[f]? = some fn) (hb : fn.body = some c) (hn : (fn.name == "runtime.NumGoroutine") = false)
    {args : List Comp} {r : Res} (h : initK args fn.ntmps fun s => pwp P tt c s (retK tt fn r)) : Sat P f args r := by
  refine ⟨⟨fn, hf, by simp [hb], hn⟩, fun I w vals hI hsz hrep => ?_⟩
  unfold initK at h
  simp only [force_eq] at h
  refine calls_of_wp hf hb ?_
  have hinv : Inv ⟨w, fun b => w.heap.size ≤ b, I, fun b h => h⟩ ⟨fun _ => none, fun _ => 0⟩ I ⟨args.map argP ++ List.replicate (fn.ntmps - args.length) (.one .undef), []⟩ { tmps := vals ++ Array.replicate (fn.ntmps - vals.size) undef, defers := [] } w := by
    refine ⟨by simp [hsz], fun t pv v h1 h2 => ?_, ⟨fun k o h => by simp [find] at h, fun k o b h => by simp [find] at h, fun k k' o o' b h => by simp [find] at h⟩, hI, fun b _ h => Or.inl h, ⟨rfl, rfl, rfl, Nat.le_refl _, fun _ _ _ => rfl⟩, rfl⟩
    simp only at h1 h2
    by_cases ht : t < args.length
    · rw [List.getElem?_append_left (by simpa using ht), List.getElem?_map] at h1
      rw [Array.getElem?_append_left (by omega)] at h2
      have e : args[t]? = some args[t] := List.getElem?_eq_getElem ht
      have hr := hrep t args[t] v e h2
      rw [e] at h1
      simp only [Option.map_some, Option.some.injEq] at h1
      subst h1
      generalize args[t] = cc at hr
      match cc, hr with
      | (false, [y]), hr => exact hr
      | (true, ys), hr =>
        obtain ⟨vs, rfl, g1, g2⟩ := hr
        have e : argP (true, ys) = .agg (ys.map .c) := by unfold argP; rfl
        rw [e]
        refine ⟨vs, rfl, by simp [g1], fun i x u h3 h4 => ?_⟩
        rw [List.getElem?_map] at h3
        cases h5 : ys[i]? with
        | none => simp [h5] at h3
        | some y => simp only [h5, Option.map_some, Option.some.injEq] at h3; subst h3; exact g2 i y u h5 h4
    · rw [List.getElem?_append_right (by simpa using Nat.le_of_not_lt ht)] at h1
      rw [Array.getElem?_append_right (by omega)] at h2
      rw [List.getElem?_replicate] at h1
      rw [Array.getElem?_replicate] at h2
      split at h1
      · split at h2
        · cases h1; cases h2; exact rfl
        · cases h2
      · cases h1
  have := pwp_sound (C := ⟨w, fun b => w.heap.size ≤ b, I, fun b h => h⟩) hT hm c h hinv
  refine wp_mono this fun e a' w' hq => ?_
  cases e with
  | normal =>
    obtain ⟨s1, L1, I1, h1, h2⟩ := hq
    obtain ⟨v, h3, h4⟩ := retK_sound hT h2 h1
    exact ⟨h2.defers, v, h3, h4⟩
  | ret =>
    obtain ⟨s1, L1, I1, h1, h2⟩ := hq
    obtain ⟨v, h3, h4⟩ := retK_sound hT h2 h1
    exact ⟨h2.defers, v, h3, h4⟩
  | exit i =>
    obtain ⟨s1, L1, I1, h1, h2⟩ := hq
    exact h1.elim
  | outgrown => exact hq.elim
  | goto l => exact hq.elim
  | panic c => exact hq.elim

end

end Go.Proofs.Ytjbccgpobakjfaa.Pi
