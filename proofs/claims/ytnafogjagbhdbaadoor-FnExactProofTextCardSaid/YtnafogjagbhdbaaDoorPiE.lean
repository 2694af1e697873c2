/- A part of the layer Pi: pure values, abstract states, a predicate transformer over Go code and its soundness. No statement of the seat is proved here. -/
import Derived.Test.YtnafogjagbhdbaaDoorPiC
/- Regions, their order fixed or drawn: sound. No statement of the seat is proved here. -/
namespace Go.Proofs.YtnafogjagbhdbaaDoor.Pi
open Go Go.RowKit
set_option linter.unusedVariables false
set_option linter.unusedSimpArgs false

section
variable {P : Program} {C : Ctx} {L : Lay} {I : Nat → Prop} {s : St} {a : Act} {w : World}

theorem guardK_sound {ops : Array Oper} {o : Oper} {K : Bool → Prop} (hi : Inv C L I s a w) (h : guardK ops.toList o s K) : ∃ run, K run ∧ Region.wanted o (yielded ops a.tmps) = run := by
  unfold guardK at h
  split at h
  · rename_i hg; exact ⟨true, h, by simp [Region.wanted, hg]⟩
  · rename_i j want hg
    split at h
    · rename_i d hd
      rw [look_iff] at h
      obtain ⟨v, h1, h⟩ := h
      have hlt : d < a.tmps.size := by rw [hi.len]; exact (List.getElem?_eq_some_iff.1 h1).1
      have hr := hi.regs d v a.tmps[d] h1 (Array.getElem?_eq_getElem hlt)
      have hd' : (ops[j]?).bind (·.dst) = some d := by rw [← Array.getElem?_toList]; exact hd
      split at h
      · rename_i b
        have e := rep_bool hr
        refine ⟨b == want, h, ?_⟩
        simp [Region.wanted, hg, yielded, hd', hlt, e]
      · have e : a.tmps[d] = undef := hr
        refine ⟨false, h, ?_⟩
        simp [Region.wanted, hg, yielded, hd', hlt, e, undef]
      · exact h.elim
    · exact h.elim

theorem splitK_sound {sp : Bool} {v : PV} {K : PV → Prop} (h : splitK sp v K) : K v := by
  unfold splitK at h
  split at h
  · rename_i b
    split at h
    · cases b
      · exact h.f rfl
      · exact h.t rfl
    · exact h
  · exact h

theorem regN_sound {tt : TT} (hT : TOK P tt) {ops : Array Oper} {Q : Exit → Act → World → Prop} {K : St → Prop} (hQ : True) (hK : ∀ s' a' w' L' I', K s' → Inv C L' I' s' a' w' → Q .normal a' w') :
    ∀ {r : List Oper} {i : Nat} {s : St} {a : Act} {w : World} {L : Lay} {I : Nat → Prop}, (∀ j, r[j]? = ops[i + j]?) → regN P tt ops.toList i r s K → Inv C L I s a w → wpOps P ops Q (List.range' i r.length) a w
  | [], i, s, a, w, L, I, _, h, hi => hK s a w L I h hi
  | o :: r, i, s, a, w, L, I, hr, h, hi => by
    have ho : ops[i]? = some o := by simpa using (hr 0).symm
    simp only [regN] at h
    replace h := guardK_sound hi h
    obtain ⟨run, h, hw⟩ := h
    have hr' : ∀ j, r[j]? = ops[i + 1 + j]? := fun j => by
      have := hr (j + 1)
      rw [show i + 1 + j = i + (j + 1) by omega]; simpa using this
    simp only [List.length_cons, List.range'_succ, wpOps, ho]
    cases run with
    | true =>
      simp only at h
      rw [hw]
      simp only [if_true]
      obtain ⟨pv, s', h, hg⟩ := opM_sound hT hi h
      replace h := splitK_sound h
      refine hg _ Q hQ fun v w' I' L' hi' hv => ?_
      obtain ⟨s2, h2, hi2⟩ := hi'.put h hv
      exact regN_sound hT hQ hK hr' h2 hi2
    | false =>
      simp only at h
      rw [hw]
      simp only [Bool.false_eq_true, if_false]
      obtain ⟨s2, h2, hi2⟩ := hi.put (v := undef) h rfl
      exact regN_sound hT hQ hK hr' h2 hi2

/-! ### the order drawn -/
variable (P) in
def anyA (tt : TT) (ops : Array Oper) (n : Nat) (K : St → Prop) : Nat → Array Bool → St → Prop
  | 0, listed, s => Region.ready .any ops listed = [] ∧ K s
  | f + 1, listed, s => (Region.ready .any ops listed = [] → K s) ∧ ∀ i ∈ Region.ready .any ops listed, stepA P tt ops n i (anyA tt ops n K f (listed.setIfInBounds i true)) s

theorem wpAny_of_anyA {tt : TT} (hT : TOK P tt) {ops : Array Oper} {n : Nat} {Q : Exit → Act → World → Prop} {K : St → Prop} (hQ : True) (hK : ∀ s' a' w' L' I', K s' → Inv C L' I' s' a' w' → Q .normal a' w') :
    ∀ (f : Nat) (listed : Array Bool) (s : St) (a : Act) (w : World) (L : Lay) (I : Nat → Prop), anyA P tt ops n K f listed s → Inv C L I s a w → wpAny P .any ops Q f listed a w
  | 0, listed, s, a, w, L, I, h, hi => ⟨h.1, hK s a w L I h.2 hi⟩
  | f + 1, listed, s, a, w, L, I, h, hi => by
    refine ⟨fun h0 => hK s a w L I (h.1 h0) hi, fun i hm => ?_⟩
    have h := h.2 i hm
    unfold stepA at h
    unfold wpOp
    split at h
    · rename_i ho
      simp only [ho]
      exact wpAny_of_anyA hT hQ hK f _ s a w L I h hi
    · rename_i o ho
      simp only [ho]
      obtain ⟨run, h, hw⟩ := guardK_sound hi h
      rw [hw]
      split at h
      · simp only [if_true]
        obtain ⟨pv, h, hg⟩ := opQ_sound hT hi h
        refine hg _ Q hQ fun v w' I' hi' hv => ?_
        obtain ⟨s2, h2, hi2⟩ := hi'.put h hv
        exact wpAny_of_anyA hT hQ hK f _ _ _ _ _ _ h2 hi2
      · simp only [if_true]
        obtain ⟨pv, s', h, hg⟩ := opM_sound hT hi h
        refine hg _ Q hQ fun v w' I' L' hi' hv => ?_
        obtain ⟨s2, h2, hi2⟩ := hi'.put h hv
        exact wpAny_of_anyA hT hQ hK f _ _ _ _ _ _ h2 hi2
      · simp only [Bool.false_eq_true, if_false]
        obtain ⟨s2, h2, hi2⟩ := hi.put (v := undef) h rfl
        exact wpAny_of_anyA hT hQ hK f _ _ _ _ _ _ h2 hi2

/-! ### two operations that have nothing to do with each other -/
def St.put (s : St) (d : Option Nat) (v : PV) : St := match d with | some d => ⟨s.regs.set d v, s.heap⟩ | none => s
def St.has (s : St) (d : Option Nat) : Prop := match d with | some d => d < s.regs.length | none => True

theorem putK_iff {d : Option Nat} {v : PV} {s : St} {K : St → Prop} : putK d v s K ↔ s.has d ∧ K (s.put d v) := by
  obtain ⟨r, h⟩ := s
  cases d with
  | none => simp [putK, St.has, St.put]
  | some d => simp [putK, setK_iff, St.has, St.put]

theorem St.put_get {s : St} {d : Option Nat} {v : PV} {n : Nat} (h : ∀ e, d = some e → e ≠ n) : (s.put d v).regs[n]? = s.regs[n]? := by
  cases d with
  | none => rfl
  | some d => simp only [St.put, List.getElem?_set]; rw [if_neg (h d rfl)]
theorem St.put_heap (s : St) (d : Option Nat) (v : PV) : (s.put d v).heap = s.heap := by cases d <;> rfl
theorem St.has_put {s : St} {d e : Option Nat} {v : PV} : (s.put d v).has e ↔ s.has e := by cases d <;> cases e <;> simp [St.put, St.has]
theorem St.put_comm {s : St} {x y : Option Nat} {v u : PV} (h : ∀ d, x = some d → y ≠ some d) : (s.put x v).put y u = (s.put y u).put x v := by
  cases x with
  | none => rfl
  | some d =>
    cases y with
    | none => rfl
    | some e =>
      have hne : d ≠ e := fun he => h d rfl (he ▸ rfl)
      simp only [St.put, List.set_comm _ _ hne]

theorem guardK_ex {ops : List Oper} {o : Oper} {s : St} : Ex1 (guardK ops o s) := by
  unfold guardK
  split
  · exact ex_pure _
  · split
    · refine ex_bind (ex_look _ _) fun v => ?_
      split <;> first | exact ex_pure _ | exact ex_false
    · exact ex_false

theorem mem_looks {ops : Array Oper} {o : Oper} {n : Nat} (h : Operand.tmp n ∈ o.op.operands) : n ∈ o.looksAt ops := by
  unfold Oper.looksAt
  refine List.mem_append_left _ (List.mem_filterMap.2 ⟨.tmp n, by simpa using h, rfl⟩)

theorem guardK_congr {ops : Array Oper} {o : Oper} {s s' : St} (h : ∀ n ∈ o.looksAt ops, s.regs[n]? = s'.regs[n]?) : guardK ops.toList o s = guardK ops.toList o s' := by
  funext K
  unfold guardK
  split
  · rfl
  · rename_i j want hg
    split
    · rename_i d hd
      have : s.regs[d]? = s'.regs[d]? := h d (by
        unfold Oper.looksAt
        refine List.mem_append_right _ ?_
        rw [hg]
        have hd' : (ops[j]?).bind (·.dst) = some d := by rw [← Array.getElem?_toList]; exact hd
        simp [hd'])
      exact propext ⟨fun hh => by rw [look_iff] at hh ⊢; rw [← this]; exact hh, fun hh => by rw [look_iff] at hh ⊢; rw [this]; exact hh⟩
    · rfl

def YieldQ (P : Program) (tt : TT) (ops : Array Oper) (o : Oper) (v : PV) (s : St) : Prop :=
  s.has o.dst ∧ ∃ run, (∀ K : Bool → Prop, K run → guardK ops.toList o s K) ∧ match run with
    | true => ∀ K : PV → Prop, K v → opQ P tt s o K
    | false => v = .one .undef

theorem YieldQ.step {tt : TT} {ops : Array Oper} {n i : Nat} {o : Oper} {v : PV} {K : St → Prop} (hi : ops[i]? = some o) (hn : i < n) (hy : YieldQ P tt ops o v s) (h : K (s.put o.dst v)) : stepA P tt ops n i K s := by
  unfold stepA
  simp only [hi]
  obtain ⟨hh, run, h1, h2⟩ := hy
  refine h1 _ ?_
  cases run with
  | true => simp only [hn, decide_true]; exact h2 _ (putK_iff.2 ⟨hh, h⟩)
  | false => simp only; subst h2; exact putK_iff.2 ⟨hh, h⟩

theorem YieldQ.of_same {tt : TT} {ops : Array Oper} {o : Oper} {v : PV} {s s' : St} (hy : YieldQ P tt ops o v s) (hh : s.heap = s'.heap) (hr : ∀ n ∈ o.looksAt ops, s.regs[n]? = s'.regs[n]?) (hd : s'.has o.dst ↔ s.has o.dst) : YieldQ P tt ops o v s' := by
  obtain ⟨h0, run, h1, h2⟩ := hy
  refine ⟨hd.2 h0, run, ?_, ?_⟩
  · rw [← guardK_congr hr]; exact h1
  · cases run with
    | true => rw [← opQ_congr hh (fun n hn => hr n (mem_looks hn))]; exact h2
    | false => exact h2

theorem yieldQ_of_step {tt : TT} {ops : Array Oper} {n i : Nat} {o : Oper} {K : St → Prop} (hi : ops[i]? = some o) (hn : i < n) (h : stepA P tt ops n i K s) : ∃ v, YieldQ P tt ops o v s ∧ K (s.put o.dst v) := by
  unfold stepA at h
  simp only [hi] at h
  obtain ⟨run, h, hg⟩ := guardK_ex _ h
  cases run with
  | true =>
    simp only [hn, decide_true] at h
    obtain ⟨v, h1, h2⟩ := ex_opQ P tt s o _ h
    obtain ⟨g1, g2⟩ := putK_iff.1 h1
    exact ⟨v, ⟨g1, true, hg, h2⟩, g2⟩
  | false =>
    simp only at h
    obtain ⟨g1, g2⟩ := putK_iff.1 h
    exact ⟨.one .undef, ⟨g1, false, hg, rfl⟩, g2⟩

theorem step_put {tt : TT} {ops : Array Oper} {n j : Nat} {oi oj : Oper} {v : PV} (hj : ops[j]? = some oj) (hn : j < n) (hap : oi.apart ops oj = true) {K : St → Prop} (hy : YieldQ P tt ops oi v s) (h : stepA P tt ops n j K (s.put oi.dst v)) :
    stepA P tt ops n j (fun s' => YieldQ P tt ops oi v s' ∧ K (s'.put oi.dst v)) s := by
  obtain ⟨h1, h2, h3⟩ := Oper.apart_spec hap
  obtain ⟨u, hu, hk⟩ := yieldQ_of_step hj hn h
  have hu' : YieldQ P tt ops oj u s := hu.of_same (St.put_heap _ _ _) (fun m hm => St.put_get fun e he => fun e2 => h1 e he (e2 ▸ hm)) St.has_put.symm
  refine hu'.step hj hn ⟨hy.of_same (St.put_heap _ _ _).symm (fun m hm => (St.put_get fun e he => fun e2 => h3 e he (e2 ▸ hm)).symm) St.has_put, ?_⟩
  rw [← St.put_comm h2]
  exact hk

theorem stepA_mono {tt : TT} {ops : Array Oper} {n i : Nat} (hn : i < n) {K K' : St → Prop} (hk : ∀ s, K s → K' s) (h : stepA P tt ops n i K s) : stepA P tt ops n i K' s := by
  cases ho : ops[i]? with
  | none => unfold stepA at h ⊢; simp only [ho] at h ⊢; exact hk _ h
  | some o =>
    obtain ⟨v, h1, h2⟩ := yieldQ_of_step ho hn h
    exact h1.step ho hn (hk _ h2)

theorem anyA_first {tt : TT} {ops : Array Oper} {n : Nat} {K : St → Prop} {i : Nat} {oi : Oper} {v : PV} (hi : ops[i]? = some oi) (hin : i < n) :
    ∀ (f : Nat) (listed : Array Bool) (s : St),
      (∀ j oj, ops[j]? = some oj → j ≠ i → listed.getD j true = false → waitsFor oj i = false → j < n ∧ oi.apart ops oj = true) →
      i ∈ Region.ready .any ops listed → YieldQ P tt ops oi v s →
      anyA P tt ops n K f (listed.setIfInBounds i true) (s.put oi.dst v) → anyA P tt ops n K (f + 1) listed s := by
  intro f
  induction f with
  | zero =>
    intro listed s _ hr hy H
    refine ⟨fun h => (by rw [h] at hr; cases hr), fun j hj => ?_⟩
    by_cases hji : j = i
    · subst hji; exact hy.step hi hin H
    · have := ready_mono hj hji
      rw [H.1] at this
      cases this
  | succ f ih =>
    intro listed s hfree hr hy H
    refine ⟨fun h => (by rw [h] at hr; cases hr), fun j hj => ?_⟩
    by_cases hji : j = i
    · subst hji; exact hy.step hi hin H
    · have h1 := H.2 j (ready_mono hj hji)
      obtain ⟨hjun, oj, hoj, hall⟩ := mem_ready.1 hj
      have hnot : waitsFor oj i = false := by
        unfold waitsFor
        rw [← Bool.not_eq_true, Array.any_eq_true']
        rintro ⟨e, he, hb⟩
        simp only [Bool.and_eq_true, beq_iff_eq] at hb
        have h1 := hall e he hb.1
        have h0 := (mem_ready.1 hr).1
        rw [hb.2] at h1
        rcases Nat.lt_or_ge i listed.size with h' | h'
        · simp [h'] at h0 h1; rw [h0] at h1; cases h1
        · simp [Array.getElem?_eq_none h'] at h1
      obtain ⟨hjn, hap⟩ := hfree j oj hoj hji hjun hnot
      have h2 := step_put hoj hjn hap hy h1
      have hfree' : ∀ k ok, ops[k]? = some ok → k ≠ i → (listed.setIfInBounds j true).getD k true = false → waitsFor ok i = false → k < n ∧ oi.apart ops ok = true := fun k ok hk hki hun hno => by
        refine hfree k ok hk hki ?_ hno
        by_cases hjk : j = k
        · subst hjk; exact hjun
        · rw [getD_set_ne true hjk] at hun; exact hun
      refine stepA_mono hjn (fun s' h3 => ih (listed.setIfInBounds j true) s' hfree' (ready_mono hr (Ne.symm hji)) h3.1 ?_) h2
      rw [Array.setIfInBounds_comm _ _ hji]
      exact h3.2

/-! ### what follows may be weakened -/
def Mon {α : Type} (F : (α → Prop) → Prop) : Prop := ∀ K K' : α → Prop, (∀ x, K x → K' x) → F K → F K'
theorem Ex1.mon {α : Type} {F : (α → Prop) → Prop} (h : Ex1 F) : Mon F := fun K K' hk hf => by
  obtain ⟨x, h1, h2⟩ := h K hf
  exact h2 K' (hk x h1)
theorem killK_mon (k : Nat) (s : St) : Mon (killK k s) := by
  obtain ⟨s', h⟩ := killK_fn k s
  exact fun K K' hk hf => (h K').2 (hk _ ((h K).1 hf))
theorem newK_mon (k : Nat) (o : Ob) (s : St) : Mon (newK k o s) := fun K K' hk hf => by
  obtain ⟨s', h⟩ := newK_fnD hf
  exact (h K').2 (hk _ ((h K).1 hf))
theorem newsK_mon (d : Nat) (h : Heap) (s : St) : Mon (newsK d h s) := fun K K' hk hf => by
  obtain ⟨s', hs⟩ := newsK_fn hf
  exact (hs K').2 (hk _ ((hs K).1 hf))
theorem renK_mon (k k2 : Nat) (s : St) : Mon (renK k k2 s) := fun K K' hk hf => by
  unfold renK at hf ⊢
  split at hf
  · exact hk _ hf
  · split at hf
    · exact hf.elim
    · refine killK_mon _ _ _ _ (fun s h => ?_) hf
      split at h
      · simp only [force_eq] at h ⊢; exact hk _ h
      · exact h
theorem frzK_mon (k : Nat) (s : St) : Mon (frzK k s) := fun K K' hk hf => by
  unfold frzK at hf ⊢
  split at hf
  · simp only [force_eq] at hf ⊢; exact hk _ hf
  · simp only [force_eq] at hf ⊢; exact hk _ hf
  · split at hf
    · simp only [force_eq] at hf ⊢; exact hk _ hf
    · exact hf
  · exact hk _ hf
theorem frzKeys_mon : ∀ (n : Nat) (ks : List Nat) (s : St), Mon (frzKeys n ks s) := by
  intro n
  induction n with
  | zero => intro ks s K K' hk hf; cases ks with | nil => exact hk _ hf | cons _ _ => exact hf
  | succ n ih =>
    intro ks s K K' hk hf
    cases ks with
    | nil => exact hk _ hf
    | cons k ks =>
      simp only [frzKeys] at hf ⊢
      split at hf
      · exact ih _ _ _ _ (fun s h => frzK_mon _ _ _ _ (fun s h => ih _ _ _ _ hk h) h) hf
      · exact frzK_mon _ _ _ _ (fun s h => ih _ _ _ _ hk h) hf
theorem dstK_mon (o : Oper) : Mon (dstK o) := fun K K' hk hf => by
  unfold dstK at hf ⊢
  split at hf
  · exact hk _ hf
  · exact hf
theorem rowsOf_mon (h : Heap) (sz : Nat) (v : PV) : Mon (rowsOf h sz v) := fun K K' hk hf => by
  unfold rowsOf at hf ⊢
  split at hf
  · split at hf
    · exact hk _ hf
    · exact hf
  · exact hk _ hf
  · split at hf
    · exact hk _ hf
    · exact hf
  · split at hf
    · split at hf
      · exact hk _ hf
      · exact hf
    · exact hf
  · split at hf
    · split at hf
      · exact hk _ hf
      · exact hf
    · exact hf
  · exact hf

theorem setK'_mon (k : Nat) (o : Ob) (s : St) : Mon (setK' k o s) := fun K K' hk hf => by
  rw [setK'_iff] at hf ⊢; exact hk _ hf
theorem backK_mon (out : Heap) : ∀ (ks : List Nat) (i : Nat) (s : St), Mon (backK out ks i s)
  | [], i, s => fun K K' hk hf => hk _ hf
  | k :: ks, i, s => fun K K' hk hf => by
    simp only [backK] at hf ⊢
    split at hf
    · split at hf
      · exact ⟨hf.a, setK'_mon _ _ _ _ _ (fun s h => backK_mon out ks _ s _ _ hk h) hf.b⟩
      · exact hf
    · exact hf

theorem absorbK_mono {m : Bool} : ∀ {xs : List XV} {s : St} {K K' : List CV → St → Prop}, (∀ ys s, K ys s → K' ys s) → absorbK m xs s K → absorbK m xs s K'
  | [], s, K, K', hk, h => hk _ _ h
  | x :: xs, s, K, K', hk, h => by
    cases x <;> simp only [absorbK] at h ⊢
    · split at h
      · exact absorbK_mono (fun ys s h => hk _ _ h) h
      · exact h
    · exact absorbK_mono (fun ys s h => hk _ _ h) h
    · split at h
      · refine ⟨h.a, ?_⟩
        replace h := h.b
        cases m with
        | true => exact killK_mon _ _ _ _ (fun s h => absorbK_mono (fun ys s h => hk _ _ h) h) h
        | false => exact killK_mon _ _ _ _ (fun s h => absorbK_mono (fun ys s h => hk _ _ h) h) h
      · exact h
    · split at h
      · exact killK_mon _ _ _ _ (fun s h => absorbK_mono (fun ys s h => hk _ _ h) h) h
      · exact h

theorem absK_mono {m : Bool} {xs : List XV} {s : St} {K K' : List CV → St → Prop} (hk : ∀ ys s, K ys s → K' ys s) (h : absK m xs s K) : absK m xs s K' := by
  unfold absK at h ⊢
  split at h
  · exact absorbK_mono hk h
  · exact h

theorem storeD_mono {k r o n : Nat} {xs : List XV} {K K' : St → Prop} (hk : ∀ s, K s → K' s) (h : storeD k r o n xs s K) : storeD k r o n xs s K' := by
  unfold storeD at h ⊢
  refine absK_mono (fun ys s h => ?_) h
  split at h
  · split at h
    · exact setK'_mon _ _ _ _ _ hk h
    · obtain ⟨row, hr, h⟩ := h
      exact ⟨row, hr, setK'_mon _ _ _ _ _ hk h⟩
  · exact h

theorem callD_mono {g : Nat} {caps : List CV} {vs : List PV} {K K' : PV → St → Prop} (hk : ∀ v s, K v s → K' v s) (h : callD P g caps vs s K) : callD P g caps vs s K' := by
  unfold callD at h ⊢
  split at h
  · simp only at h ⊢
    split at h
    · obtain ⟨r, hs, h⟩ := h
      refine ⟨r, hs, ?_⟩
      split at h
      · refine backK_mon _ _ _ _ _ _ (fun s h => ?_) h
        simp only [forceP_eq] at h ⊢; exact hk _ _ h
      · exact h
    · exact h
  · refine ⟨h.a, ?_⟩
    replace h := h.b
    split at h
    · obtain ⟨p, hp, h⟩ := h
      refine ⟨p, hp, ?_⟩
      obtain ⟨q, hq, h⟩ := h
      refine ⟨q, hq, ?_⟩
      split at h
      · split at h
        · refine ⟨h.a, setK'_mon _ _ _ _ _ (fun s h => ?_) h.b⟩
          simp only [forceP_eq] at h ⊢; exact hk _ _ h
        · exact h
      · exact h
    · exact h

theorem callR_mono {tt : TT} {g : Nat} {caps : List CV} {args : List Operand} {ts : List TypeId} {dst : Option Nat} {vs : List PV} {K K' : PV → St → Prop} (hk : ∀ v s, K v s → K' v s) (h : callR P tt s g caps args ts dst vs K) : callR P tt s g caps args ts dst vs K' := by
  unfold callR at h ⊢
  refine frzKeys_mon _ _ _ _ _ (fun s' h => (ex_args _ _ _ _).mon _ _ (fun vs' h => ?_) h) h
  split at h
  · obtain ⟨r, hs, h⟩ := h
    refine ⟨r, hs, ?_⟩
    split at h
    · simp only [forceP_eq] at h ⊢; exact hk _ _ h
    · simp only [forceP_eq] at h ⊢; exact hk _ _ h
    · split at h
      · refine newsK_mon _ _ _ _ _ (fun s h => ?_) h
        simp only [forceP_eq] at h ⊢; exact hk _ _ h
      · split at h
        · refine ⟨h.a, newsK_mon _ _ _ _ _ (fun s h => ?_) h.b⟩
          simp only [forceP_eq] at h ⊢; exact hk _ _ h
        · refine newsK_mon _ _ _ _ _ (fun s h => ?_) h
          simp only [forceP_eq] at h ⊢; exact hk _ _ h
    · exact hk _ _ h
  · exact h

theorem sameShape_mono {o o' : Ob} {A B : Prop} (hk : A → B) (h : sameShapeK o o' A) : sameShapeK o o' B := by
  unfold sameShapeK at h ⊢
  split at h
  · split at h
    · exact hk h
    · exact h
  · split at h
    · exact ⟨h.a, hk h.b⟩
    · exact h
  · split at h
    · exact ⟨h.a, hk h.b⟩
    · exact h
  · split at h
    · exact ⟨h.a, hk h.b⟩
    · exact h
  · exact h
theorem mergeK_mono {τ : List (Nat × Nat)} {H3 : Heap} {K K' : Heap → Prop} (hk : ∀ h, K h → K' h) : ∀ {r : List (Nat × Nat)} {h : Heap}, mergeK τ r H3 h K → mergeK τ r H3 h K'
  | [], h, hK => hk h hK
  | (x, y) :: r, h, hK => by
    simp only [mergeK] at hK ⊢
    split at hK
    · split at hK
      · exact sameShape_mono (mergeK_mono hk) hK
      · exact mergeK_mono hk hK
    · exact hK
theorem callX_mono {g : Nat} {extra vs : List PV} {dst : Option Nat} {K K' : PV → St → Prop} (hk : ∀ v s, K v s → K' v s) (h : callX P s g extra vs dst K) : callX P s g extra vs dst K' := by
  unfold callX at h ⊢
  simp only [forceNs_eq, forceN_eq, forceH_eq, forceR_eq, force_eq, forceP_eq] at h ⊢
  split at h
  · obtain ⟨r, hs, h⟩ := h
    refine ⟨r, hs, ?_⟩
    split at h
    · exact mergeK_mono (fun h hK => hk _ _ hK) h
    · exact h
  · exact h
theorem ownNilK_mon (k o q : Nat) (s : St) : Mon (ownNilK k o q s) := fun K K' hk hf => by
  unfold ownNilK at hf ⊢
  split at hf
  · split at hf
    · refine newK_mon _ _ _ _ _ (fun s h => ?_) hf
      unfold swapK at h ⊢
      split at h
      · split at h
        · split at h
          · split at h
            · simp only [forceXs_eq, forceH_eq] at h ⊢; exact hk _ h
            · exact h
          · exact h
        · exact h
      · exact h
    · split at hf
      · exact renK_mon _ _ _ _ _ hk hf
      · exact hf
    · split at hf
      · exact renK_mon _ _ _ _ _ hk hf
      · exact hf
    · exact hf
  · exact hf
theorem ownKeys_mon : ∀ (ks : List Nat) (s : St), Mon (ownKeys ks s)
  | [], s => fun K K' hk hf => hk _ hf
  | k :: ks, s => fun K K' hk hf => ownNilK_mon _ _ _ _ _ _ (fun s h => ownKeys_mon ks s _ _ hk h) hf
theorem callE_mono {tt : TT} {g : Nat} {caps : List CV} {args : List Operand} {ts : List TypeId} {dst : Option Nat} {vs : List PV} {K K' : PV → St → Prop} (hk : ∀ v s, K v s → K' v s) (h : callE P tt s g caps args ts dst vs K) : callE P tt s g caps args ts dst vs K' := by
  unfold callE at h ⊢
  split at h
  · exact callR_mono hk h
  · cases h with
    | r h =>
      cases h with
      | r h => exact .r (.r (callR_mono hk h))
      | x h =>
        obtain ⟨q, hq, h⟩ := h
        exact .r (.x ⟨q, hq, ownKeys_mon _ _ _ _ (fun s h => (ex_args _ _ _ _).mon _ _ (fun vs h => callX_mono hk h) h) h⟩)
    | x h => exact .x (callX_mono hk h)

theorem flatKeys_mon : ∀ (ks : List Nat) (s : St), Mon (flatKeys ks s)
  | [], s => fun K K' hk hf => hk _ hf
  | k :: ks, s => fun K K' hk hf => by
    simp only [flatKeys] at hf ⊢
    unfold flatK at hf ⊢
    split at hf
    · rw [force_eq] at hf ⊢
      exact flatKeys_mon ks _ _ _ hk hf
    · exact flatKeys_mon ks _ _ _ hk hf
theorem appendT_mono {t t2 : TI} {k b r j : Nat} {u : PV} {K K' : PV → St → Prop} (hk : ∀ v s, K v s → K' v s) (h : appendT t t2 k s b r j u K) : appendT t t2 k s b r j u K' := by
  unfold appendT at h ⊢
  split at h
  · refine rowsOf_mon _ _ _ _ _ (fun es h => ?_) h
    split at h
    · obtain ⟨p, hp, h⟩ := h
      refine ⟨p, hp, h.a, ?_⟩
      have := h.b
      simp only [forceH_eq] at this ⊢
      exact hk _ _ this
    · exact h
  · exact h
theorem callM_mono {tt : TT} {f : PV} {args : List Operand} {ts : List TypeId} {dst : Option Nat} {K K' : PV → St → Prop} (hk : ∀ v s, K v s → K' v s) (h : callM P tt s f args ts dst K) : callM P tt s f args ts dst K' := by
  unfold callM at h ⊢
  split at h
  · refine (ex_args _ _ _ _).mon _ _ (fun vs h => ?_) h
    split at h
    · obtain ⟨m, hm, h⟩ := h
      refine ⟨m, hm, ?_⟩
      match m, h with
      | some true, h => exact callD_mono hk h
      | some false, h => exact callE_mono hk h
      | none, h => exact flatKeys_mon _ _ _ _ (fun s h => (ex_args _ _ _ _).mon _ _ (fun vs h => callE_mono hk h) h) h
    · exact callE_mono hk h
  · exact (ex_args _ _ _ _).mon _ _ (fun vs h => callX_mono hk h) h
  · exact h

theorem shrinkK_mono {k k2 l : Nat} {K K' : St → Prop} (hk : ∀ s, K s → K' s) (h : shrinkK k k2 l s K) : shrinkK k k2 l s K' := by
  unfold shrinkK at h ⊢
  split at h
  · exact killK_mon _ _ _ _ (fun s h => newK_mon _ _ _ _ _ (fun s h => hk _ h) h) h
  · exact h
theorem appendZ_mono {t : TI} {k : Nat} {x y : PV} {K K' : PV → St → Prop} (hk : ∀ v s, K v s → K' v s) (h : appendZ t k s x y K) : appendZ t k s x y K' := by
  unfold appendZ at h ⊢
  split at h
  · unfold intIx at h ⊢
    split at h
    · split at h
      · exact ⟨h.a, newK_mon _ _ _ _ _ (fun s h => hk _ _ h) h.b⟩
      · exact h
    · exact h
  · exact h
theorem capM_mono {h0 : Heap} {t : TI} {v : PV} {K K' : PV → Prop} (hk : ∀ v, K v → K' v) (h : capM h0 t v K) : capM h0 t v K' := by
  unfold capM at h ⊢
  split at h
  · exact hk _ h
  · exact fun c hc => hk _ (h c hc)
  · split at h
    · exact fun c hc => hk _ (h c hc)
    · exact h
  · exact h

theorem clearM_mono {t : TI} {v : PV} {K K' : PV → St → Prop} (hk : ∀ v s, K v s → K' v s) (h : clearM t s v K) : clearM t s v K' := by
  unfold clearM at h ⊢
  split at h
  · split at h
    · exact hk _ _ h
    · split at h
      · split at h
        · simp only [forceH_eq] at h ⊢; exact hk _ _ h
        · exact h
      · exact h
    · split at h
      · split at h
        · simp only [forceH_eq] at h ⊢; exact hk _ _ h
        · exact h
      · exact h
    · exact h
  · exact h
theorem appendD_mono {t : TI} {k2 k ky : Nat} {K K' : PV → St → Prop} (hk : ∀ v s, K v s → K' v s) (h : appendD t k2 s k ky K) : appendD t k2 s k ky K' := by
  unfold appendD at h ⊢
  split at h
  · split at h
    · split at h
      · exact ⟨h.a, killK_mon _ _ _ _ (fun s h => killK_mon _ _ _ _ (fun s h => newK_mon _ _ _ _ _ (fun s h => hk _ _ h) h) h) h.b⟩
      · exact h
    · exact h
  · exact h

theorem appendM_mono {t t2 : TI} {k2 : Nat} {x y : PV} {K K' : PV → St → Prop} (hk : ∀ v s, K v s → K' v s) (h : appendM t t2 k2 s x y K) : appendM t t2 k2 s x y K' := by
  unfold appendM at h ⊢
  split at h
  · refine rowsOf_mon _ _ _ _ _ (fun es h => ?_) h
    split at h
    · split at h
      · exact ⟨h.a, newK_mon _ _ _ _ _ (fun s h => hk _ _ h) h.b⟩
      · exact h
    · split at h
      · split at h
        · exact ⟨h.a, killK_mon _ _ _ _ (fun s h => newK_mon _ _ _ _ _ (fun s h => hk _ _ h) h) h.b⟩
        · exact h
      · exact h
    · split at h
      · split at h
        · exact ⟨h.a, killK_mon _ _ _ _ (fun s h => newK_mon _ _ _ _ _ (fun s h => hk _ _ h) h) h.b⟩
        · exact h
      · exact h
    · split at h
      · split at h
        · exact ⟨h.a, killK_mon _ _ _ _ (fun s h => newK_mon _ _ _ _ _ (fun s h => hk _ _ h) h) h.b⟩
        · exact h
      · exact h
    · exact h
  · exact h

theorem boxM_mono {k : Nat} {xs : List XV} {K K' : PV → St → Prop} (hk : ∀ v s, K v s → K' v s) (h : boxM k xs s K) : boxM k xs s K' := by
  unfold boxM at h ⊢
  split at h
  · exact newK_mon _ _ _ _ _ (fun s h => hk _ _ h) h
  · exact h

theorem boxSet_mono {m k o n : Nat} {xs : List XV} {K K' : St → Prop} (hk : ∀ s, K s → K' s) (h : boxSet m k o n xs s K) : boxSet m k o n xs s K' := by
  unfold boxSet at h ⊢
  split at h
  · split at h
    · simp only [forceXs_eq, forceH_eq] at h ⊢
      split at h
      · exact renK_mon _ _ _ _ _ hk h
      · exact renK_mon _ _ _ _ _ hk h
      · exact hk _ h
    · exact h
  · exact h
theorem storeM_mono {tt : TT} {t : TypeId} {x y : Operand} {K K' : St → Prop} (hk : ∀ s, K s → K' s) (h : storeM tt t x y s K) : storeM tt t x y s K' := by
  unfold storeM at h ⊢
  split at h
  · exact h
  · refine (ex_opd _ _ _).mon _ _ (fun p h => (ex_opd _ _ _).mon _ _ (fun v h => ?_) h) h
    split at h
    · split at h
      · split at h
        · exact shrinkK_mono (fun s h => (ex_opd _ _ _).mon _ _ (fun p h => by
            split at h
            · exact boxSet_mono hk h
            · exact h) h) h
        · exact boxSet_mono hk h
      · exact h
    · refine frzKeys_mon _ _ _ _ _ (fun s h => (ex_opd _ _ _).mon _ _ (fun p h => (ex_opd _ _ _).mon _ _ (fun v h => ?_) h) h) h
      split at h
      · split at h
        · split at h
          · split at h
            · simp only [forceH_eq] at h ⊢; exact hk _ h
            · obtain ⟨row, hr, h⟩ := h
              refine ⟨row, hr, ?_⟩
              simp only [forceH_eq] at h ⊢; exact hk _ h
          · exact h
        · exact h
      · exact h
    · split at h
      · exact storeD_mono hk h
      · exact h
    · exact h

theorem opM_mono {tt : TT} {o : Oper} {K K' : PV → St → Prop} (hk : ∀ v s, K v s → K' v s) (h : opM P tt s o K) : opM P tt s o K' := by
  have fall : ∀ {s1 : St}, opQ P tt s1 o (fun v => K v s1) → opQ P tt s1 o (fun v => K' v s1) := fun h => (ex_opQ P tt _ o).mon _ _ (fun v h => hk _ _ h) h
  cases hop : o.op <;> simp only [opM, hop] at h ⊢
  case assign x =>
    refine (ex_opd _ _ _).mon _ _ (fun v h => ?_) h
    unfold assignM at h ⊢
    split at h
    · rename_i x
      cases x with
      | nil sz => exact dstK_mon _ _ _ (fun k h => newK_mon _ _ _ _ _ (fun s h => hk _ _ h) h) h
      | rs k =>
        simp only at h ⊢
        split at h
        · exact hk _ _ h
        · exact dstK_mon _ _ _ (fun k h => renK_mon _ _ _ _ _ (fun s h => hk _ _ h) h) h
      | ds k =>
        simp only at h ⊢
        split at h
        · exact hk _ _ h
        · exact dstK_mon _ _ _ (fun k h => renK_mon _ _ _ _ _ (fun s h => hk _ _ h) h) h
      | ru k off l =>
        simp only at h ⊢
        split at h
        · cases h with
          | r h => exact .r (hk _ _ h)
          | x h => exact .x (dstK_mon _ _ _ (fun k h => shrinkK_mono (fun s h => hk _ _ h) h) h)
        · exact hk _ _ h
      | _ => exact hk _ _ h
    · exact hk _ _ h
  case alloc t =>
    refine dstK_mon _ _ _ (fun k h => ?_) h
    split at h
    · unfold bldM at h ⊢
      split at h
      · exact newK_mon _ _ _ _ _ (fun s h => hk _ _ h) h
      · exact h
    · split at h
      · exact h
      · exact newK_mon _ _ _ _ _ (fun s h => boxM_mono hk h) h
      · exact boxM_mono hk h
  case box t x =>
    refine dstK_mon _ _ _ (fun k h => (ex_opd _ _ _).mon _ _ (fun v h => ?_) h) h
    split at h
    · exact boxM_mono hk h
    · exact h
  case buildSlice t len ps =>
    split at h
    · refine (ex_parts _ _ _ _).mon _ _ (fun vs h => ?_) h
      have flat : ∀ {sz : Nat}, buildF tt t len sz ps.toList o vs s K → buildF tt t len sz ps.toList o vs s K' := fun {sz} h => by
        unfold buildF at h ⊢
        refine frzKeys_mon _ _ _ _ _ (fun s h => (ex_parts _ _ _ _).mon _ _ (fun vs h => ?_) h) h
        split at h
        · exact dstK_mon _ _ _ (fun k h => newK_mon _ _ _ _ _ (fun s h => hk _ _ h) h) h
        · exact h
      split at h
      · obtain ⟨m, hm, h⟩ := h
        refine ⟨m, hm, ?_⟩
        match m, h with
        | some false, h => exact flat h
        | some true, h =>
          simp only at h ⊢
          split at h
          · refine absK_mono (fun ys s h => ?_) h
            split at h
            · exact dstK_mon _ _ _ (fun k h => newK_mon _ _ _ _ _ (fun s h => hk _ _ h) h) h
            · exact h
          · exact h
        | none, h =>
          simp only at h ⊢
          split at h
          · refine absK_mono (fun ys s h => ?_) h
            split at h
            · exact dstK_mon _ _ _ (fun k h => newK_mon _ _ _ _ _ (fun s h => hk _ _ h) h) h
            · exact h
          · exact h
      · exact flat h
    · exact h
  case makeSlice t l c =>
    refine (ex_opd _ _ _).mon _ _ (fun vl h => (ex_opd _ _ _).mon _ _ (fun vc h => ?_) h) h
    have ii : ∀ (i : PV), Mon (intIx i) := fun i K K' hk h => by
      unfold intIx at h ⊢
      split at h
      · exact hk _ h
      · exact h
    refine ii _ _ _ (fun l h => ii _ _ _ (fun c h => ?_) h) h
    split at h
    · split at h
      · exact h
      · exact ⟨h.a, dstK_mon _ _ _ (fun k h => newK_mon _ _ _ _ _ (fun s h => hk _ _ h) h) h.b⟩
    · exact h
  case binOp op t x y yt =>
    split at h
    · refine (ex_opd _ _ _).mon _ _ (fun v h => ?_) h
      unfold nilM at h ⊢
      split at h
      · exact fun b hb => hk _ _ (h b hb)
      · exact hk _ _ h
      · split at h
        · exact fun b hb => hk _ _ (h b hb)
        · exact h
      · split at h
        · exact fun b hb => hk _ _ (h b hb)
        · exact h
      · exact h
    · exact fall h
  case store t x y => exact storeM_mono (fun s h => hk _ _ h) h
  case convert src dst x =>
    refine (ex_opd _ _ _).mon _ _ (fun v h => ?_) h
    split at h
    · exact ⟨h.a, dstK_mon _ _ _ (fun k h => newK_mon _ _ _ _ _ (fun s h => hk _ _ h) h) h.b⟩
    · exact hk _ _ h
    · exact h
    · refine rowsOf_mon _ _ _ _ _ (fun rows h => ?_) h
      obtain ⟨b, hb, h⟩ := h
      exact ⟨b, hb, hk _ _ h⟩
    · exact fall h
  case makeFunc fn first captured =>
    cases fn <;> (first | exact fall h | skip)
    simp only [opM] at h ⊢
    split at h
    · refine (ex_args _ _ _ _).mon _ _ (fun vs h => ?_) h
      unfold makeM at h ⊢
      split at h
      · obtain ⟨m, hm, h⟩ := h
        refine ⟨m, hm, ?_⟩
        cases m with
        | true => exact hk _ _ h
        | false => exact frzKeys_mon _ _ _ _ _ (fun s h => fall h) h
      · exact frzKeys_mon _ _ _ _ _ (fun s h => fall h) h
    · exact h
  case call c =>
    split at h
    · exact (ex_opd _ _ _).mon _ _ (fun g h => callM_mono hk h) h
    · unfold restM at h ⊢
      split at h
      · split at h
        · refine dstK_mon _ _ _ (fun k h => (ex_opd _ _ _).mon _ _ (fun v h => (ex_opd _ _ _).mon _ _ (fun u h => ?_) h) h) h
          split at h
          · exact appendZ_mono hk h
          · unfold appendA at h ⊢
            split at h
            · split at h
              · exact appendD_mono hk h
              · exact h
            · exact appendT_mono hk h
            · exact appendM_mono hk h
        · exact h
      · split at h
        · exact (ex_opd _ _ _).mon _ _ (fun g h => capM_mono (fun v h => hk _ _ h) h) h
        · exact h
      · split at h
        · exact (ex_opd _ _ _).mon _ _ (fun v h => clearM_mono hk h) h
        · exact h
      · exact fall h
    · exact fall h
  all_goals exact fall h

theorem stepA_monoM {tt : TT} {ops : Array Oper} {n i : Nat} {o : Oper} (ho : ops[i]? = some o) (hn : decide (i < n) = false) {K K' : St → Prop} (hk : ∀ s, K s → K' s) (h : stepA P tt ops n i K s) : stepA P tt ops n i K' s := by
  unfold stepA at h ⊢
  simp only [ho] at h ⊢
  obtain ⟨run, h1, h2⟩ := guardK_ex _ h
  refine h2 _ ?_
  rw [hn] at h1 ⊢
  cases run with
  | true => exact opM_mono (fun v s h => by rw [putK_iff] at h ⊢; exact ⟨h.1, hk _ h.2⟩) h1
  | false => simp only at h1 ⊢; exact putK_iff.2 ⟨(putK_iff.1 h1).1, hk _ (putK_iff.1 h1).2⟩

theorem anyA_of_anyM {tt : TT} {ops : Array Oper} {K : St → Prop} : ∀ (f : Nat) (listed : Array Bool) (s : St), anyM P tt ops K f listed s → anyA P tt ops 0 K f listed s
  | 0, listed, s, h => h
  | f + 1, listed, s, h => by
    obtain ⟨l, hl, h⟩ := h
    have key : ∀ (l : List Nat), bothK l (fun i => stepA P tt ops 0 i (anyM P tt ops K f (listed.setIfInBounds i true)) s) → ∀ i ∈ l, stepA P tt ops 0 i (anyA P tt ops 0 K f (listed.setIfInBounds i true)) s := fun l => by
      induction l with
      | nil => intro _ i hi; simp at hi
      | cons j l ih =>
        intro h i hi
        rcases List.mem_cons.1 hi with rfl | hi
        · have h1 := h.1
          cases ho : ops[i]? with
          | none => unfold stepA at h1 ⊢; simp only [ho] at h1 ⊢; exact anyA_of_anyM f _ s h1
          | some o => exact stepA_monoM ho (by simp) (fun s' hs => anyA_of_anyM f _ s' hs) h1
        · exact ih h.2 i hi
    refine ⟨fun h0 => ?_, fun i hi => ?_⟩
    · rw [hl] at h0
      subst h0
      exact h
    · rw [hl] at hi
      cases l with
      | nil => simp at hi
      | cons j l => exact key _ h i hi

variable (P) in
def lexA (tt : TT) (ops : Array Oper) (n : Nat) (K : St → Prop) : Nat → List Oper → St → Prop
  | _, [], s => K s
  | k, _ :: r, s => stepA P tt ops n k (lexA tt ops n K (k + 1) r) s

theorem stepA_mono' {tt : TT} {ops : Array Oper} {n i : Nat} {o : Oper} (ho : ops[i]? = some o) {K : St → Prop} {K1 : St → Prop} (hk : ∀ s, K s → K1 s) : (decide (i < n) = true → guardK ops.toList o s (fun run => match run with
      | true => opQ P tt s o fun v => putK o.dst v s K
      | false => putK o.dst (.one .undef) s K) → stepA P tt ops n i K1 s) := fun hn h => by
  unfold stepA
  simp only [ho]
  obtain ⟨run, h1, h2⟩ := guardK_ex _ h
  refine h2 _ ?_
  rw [hn]
  cases run with
  | true =>
    simp only at h1 ⊢
    obtain ⟨v, h3, h4⟩ := ex_opQ P tt s o _ h1
    exact h4 _ (putK_iff.2 ⟨(putK_iff.1 h3).1, hk _ (putK_iff.1 h3).2⟩)
  | false => simp only at h1 ⊢; exact putK_iff.2 ⟨(putK_iff.1 h1).1, hk _ (putK_iff.1 h1).2⟩

theorem regN_lex {tt : TT} {ops : Array Oper} {n : Nat} {K : St → Prop} : ∀ {r : List Oper} {i : Nat} {s : St}, (∀ j, r[j]? = ops[i + j]?) → n ≤ i → regN P tt ops.toList i r s K → lexA P tt ops n K i r s
  | [], i, s, _, _, h => h
  | o :: r, i, s, hr, hn, h => by
    have ho : ops[i]? = some o := by simpa using (hr 0).symm
    have hr' : ∀ j, r[j]? = ops[i + 1 + j]? := fun j => by
      have := hr (j + 1)
      rw [show i + 1 + j = i + (j + 1) by omega]; simpa using this
    simp only [regN] at h
    simp only [lexA, stepA, ho]
    obtain ⟨run, h1, h2⟩ := guardK_ex _ h
    refine h2 _ ?_
    have hni : decide (i < n) = false := by simpa using hn
    rw [hni]
    cases run with
    | true =>
      simp only at h1 ⊢
      refine opM_mono (fun v s' h => ?_) h1
      have := splitK_sound h
      rw [putK_iff] at this ⊢
      exact ⟨this.1, regN_lex hr' (by omega) this.2⟩
    | false => simp only at h1 ⊢; exact putK_iff.2 ⟨(putK_iff.1 h1).1, regN_lex hr' (by omega) (putK_iff.1 h1).2⟩

theorem regQ_lex {tt : TT} {ops : Array Oper} {n : Nat} {K K0 : St → Prop} {l2 : List Oper} : ∀ {r : List Oper} {i : Nat} {s : St}, (∀ j, (r ++ l2)[j]? = ops[i + j]?) → i + r.length ≤ n → (∀ s', K0 s' → lexA P tt ops n K (i + r.length) l2 s') → regQ P tt ops.toList i r s K0 → lexA P tt ops n K i (r ++ l2) s
  | [], i, s, _, _, hk, h => by simpa using hk s h
  | o :: r, i, s, hr, hn, hk, h => by
    have ho : ops[i]? = some o := by simpa using (hr 0).symm
    simp only [List.length_cons] at hn hk
    have hr' : ∀ j, (r ++ l2)[j]? = ops[i + 1 + j]? := fun j => by
      have := hr (j + 1)
      rw [show i + 1 + j = i + (j + 1) by omega]; simpa using this
    simp only [regQ] at h
    show lexA P tt ops n K i (o :: (r ++ l2)) s
    simp only [lexA]
    refine stepA_mono' ho (K := fun s => regQ P tt ops.toList (i + 1) r s K0) (fun s' h => regQ_lex hr' (by omega) (fun s h => by have := hk s h; rwa [show i + 1 + r.length = i + (r.length + 1) by omega]) h) (by simp; omega) ?_
    obtain ⟨run, h1, h2⟩ := guardK_ex _ h
    refine h2 _ ?_
    cases run with
    | true =>
      simp only at h1 ⊢
      obtain ⟨v, h3, h4⟩ := ex_opQ P tt s o _ h1
      exact h4 _ (splitK_sound h3)
    | false => exact h1

theorem anyA_lex {tt : TT} {ops : Array Oper} {n : Nat} {K : St → Prop} (hd : drawB ops n = true) : ∀ {r : List Oper} {k : Nat} {listed : Array Bool} {s : St}, (∀ j, r[j]? = ops[k + j]?) → k + r.length = ops.size → listed.size = ops.size → (∀ j, j < ops.size → listed.getD j true = decide (j < k)) →
    lexA P tt ops n K k r s → anyA P tt ops n K r.length listed s
  | [], k, listed, s, _, hk, hsz, hl, h => by
    refine ⟨?_, h⟩
    cases hr : Region.ready .any ops listed with
    | nil => rfl
    | cons i l =>
      exfalso
      have hm : i ∈ Region.ready .any ops listed := by rw [hr]; simp
      obtain ⟨hun, o, ho, _⟩ := mem_ready.1 hm
      have hlt : i < ops.size := (Array.getElem?_eq_some_iff.1 ho).1
      rw [hl i hlt] at hun
      simp at hk hun; omega
  | o :: r, k, listed, s, hr, hk, hsz, hl, h => by
    simp only [List.length_cons] at hk ⊢
    have ho : ops[k]? = some o := by simpa using (hr 0).symm
    have hr' : ∀ j, r[j]? = ops[k + 1 + j]? := fun j => by
      have := hr (j + 1)
      rw [show k + 1 + j = k + (j + 1) by omega]; simpa using this
    have hklt : k < ops.size := by omega
    have hd2 := hd
    simp only [drawB, Bool.and_eq_true, List.all_eq_true, List.mem_range] at hd2
    replace hd2 := hd2.2
    have hchk : ∀ i oi, ops[i]? = some oi → (∀ e ∈ oi.after, Region.binds .any e = true → e.on < i) ∧ (i < n → ∀ j oj, ops[j]? = some oj → i < j → waitsFor oj i = true ∨ oi.apart ops oj = true) ∧ (n ≤ i → ∀ j, j < i → waitsFor oi j = true) := fun i oi hi => by
      have hilt : i < ops.size := (Array.getElem?_eq_some_iff.1 hi).1
      have := hd2 i hilt
      simp only [hi, Bool.and_eq_true] at this
      obtain ⟨h1, h2⟩ := this
      refine ⟨fun e he hb => ?_, fun hin j oj hj hij => ?_, fun hni j hj => ?_⟩
      · have := (Array.all_eq_true_iff_forall_mem.1 h1) e he
        simpa [hb] using this
      · rw [if_pos hin] at h2
        have hjlt : j < ops.size := (Array.getElem?_eq_some_iff.1 hj).1
        have := List.all_eq_true.1 h2 j (List.mem_range.2 hjlt)
        simp only [hj, Bool.or_eq_true, decide_eq_true_eq] at this
        rcases this with h | h
        · omega
        · exact h
      · rw [if_neg (by omega)] at h2
        exact List.all_eq_true.1 h2 j (List.mem_range.2 hj)
    have hready : k ∈ Region.ready .any ops listed := by
      refine mem_ready.2 ⟨by rw [hl k hklt]; simp, o, ho, fun e he hb => ?_⟩
      have hlt := (hchk k o ho).1 e he hb
      have h1 := hl e.on (by omega)
      have h2 : e.on < listed.size := by omega
      simp only [Array.getD_eq_getD_getElem?, Array.getElem?_eq_getElem h2, Option.getD_some] at h1 ⊢
      rw [h1]; simpa using hlt
    have hl' : ∀ j, j < ops.size → (listed.setIfInBounds k true).getD j true = decide (j < k + 1) := fun j hj => by
      by_cases e : k = j
      · subst e
        have : k < listed.size := by omega
        simp [Array.getD_eq_getD_getElem?, this]
      · rw [getD_set_ne true e, hl j hj]
        by_cases h : j < k
        · simp [h]; omega
        · simp [h]; omega
    simp only [lexA] at h
    by_cases hkn : k < n
    · obtain ⟨v, hy, hK⟩ := yieldQ_of_step ho hkn h
      refine anyA_first ho hkn r.length listed s (fun j oj hj hjk hun hno => ?_) hready hy (anyA_lex hd hr' (by omega) (by simpa using hsz) hl' hK)
      have hjlt : j < ops.size := (Array.getElem?_eq_some_iff.1 hj).1
      rw [hl j hjlt] at hun
      have hkj : k < j := by simp at hun; omega
      have hjn : j < n := by
        rcases Nat.lt_or_ge j n with h | h
        · exact h
        · have := (hchk j oj hj).2.2 h k hkj
          rw [hno] at this; cases this
      refine ⟨hjn, ?_⟩
      rcases (hchk k o ho).2.1 hkn j oj hj hkj with h | h
      · rw [hno] at h; cases h
      · exact h
    · refine ⟨fun h => (by rw [h] at hready; cases hready), fun i hi => ?_⟩
      have hik : i = k := by
        obtain ⟨hun, oi, hoi, hall⟩ := mem_ready.1 hi
        have hilt : i < ops.size := (Array.getElem?_eq_some_iff.1 hoi).1
        rw [hl i hilt] at hun
        rcases Nat.lt_or_ge k i with h | h
        · exfalso
          have hw := (hchk i oi hoi).2.2 (by omega) k h
          unfold waitsFor at hw
          obtain ⟨e, he, hb⟩ := Array.any_eq_true'.1 hw
          simp only [Bool.and_eq_true, beq_iff_eq] at hb
          have h1 := hall e he hb.1
          rw [hb.2] at h1
          have h2 := hl k hklt
          have h3 : k < listed.size := by omega
          simp only [Array.getD_eq_getD_getElem?, Array.getElem?_eq_getElem h3, Option.getD_some] at h1 h2
          rw [h1] at h2; simp at h2
        · simp at hun; omega
      subst hik
      have hkn' : decide (i < n) = false := by simpa using hkn
      refine stepA_monoM ho hkn' (fun s' h => ?_) h
      exact anyA_lex hd hr' (by omega) (by simpa using hsz) hl' h

end

end Go.Proofs.YtnafogjagbhdbaaDoor.Pi
/- Drawn regions that make a slice: their own order serves every order. No statement of the seat is proved here. -/
namespace Go.Proofs.YtnafogjagbhdbaaDoor.Pi
open Go Go.RowKit
set_option linter.unusedVariables false
set_option linter.unusedSimpArgs false

/-! ### what is read stays as it is when the heap grows -/
def Grows (h h' : Heap) : Prop := ∀ k o, find h k = some o → find h' k = some o
theorem Grows.ins {h : Heap} {k : Nat} {o : Ob} (hn : find h k = none) : Grows h (ins k o h) := fun j o' hj => by
  rw [find_ins k o h j hn, if_neg (fun e => by rw [e, hn] at hj; cases hj)]; exact hj

theorem Grows.b {h h' : Heap} (hg : Grows h h') (k : Nat) (o : Ob) (hk : findB h k = some o) : findB h' k = some o := findB_of (hg k o (findB_some hk).1) (findB_some hk).2
theorem load_grow {h h' : Heap} (hg : Grows h h') {t : TI} {a : PV} {K : PV → Prop} (hl : loadK h t a K) : loadK h' t a K := by
  unfold loadK at hl ⊢
  split at hl
  · exact hl
  · split at hl
    · exact hl
    · split at hl
      · rename_i h1 h2; rw [hg.b _ _ h1, h2]; exact hl
      · exact hl.elim
    · split at hl
      · rename_i h1 h2; rw [hg _ _ h1, h2]; exact hl
      · exact hl.elim
    · split at hl
      · rename_i h1 h2; rw [hg _ _ h1, h2]; exact hl
      · exact hl.elim
    · exact hl.elim
theorem ixAddr_grow {h h' : Heap} (hg : Grows h h') {t : TI} {a i : PV} {K : PV → Prop} (hl : indexAddrK h t a i K) : indexAddrK h' t a i K := by
  unfold indexAddrK intIx at hl ⊢
  split at hl
  · split at hl
    · exact hl
    · split at hl
      · rename_i h1; rw [hg _ _ h1]; exact hl
      · exact hl.elim
    · split at hl
      · rename_i h1; rw [hg _ _ h1]; exact hl
      · exact hl.elim
    · split at hl
      · rename_i h1; rw [hg _ _ h1]; exact hl
      · exact hl.elim
    · exact hl.elim
  · exact hl.elim
theorem len_grow {h h' : Heap} (hg : Grows h h') {t : TI} {a : PV} {K : PV → Prop} (hl : lenK h t a K) : lenK h' t a K := by
  unfold lenK at hl ⊢
  split at hl
  · exact hl
  · exact hl
  · split at hl
    · rename_i h1; rw [hg _ _ h1]; exact hl
    · exact hl.elim
  · exact hl
  · split at hl
    · rename_i h1; rw [hg _ _ h1]; exact hl
    · exact hl.elim
  · exact hl
  · exact hl.elim
theorem slice_grow {h h' : Heap} (hg : Grows h h') {t : TI} {x : PV} {lo hi : Option Int} {K : PV → Prop} (hl : sliceK h t x lo hi K) : sliceK h' t x lo hi K := by
  unfold sliceK at hl ⊢
  split at hl
  · exact hl
  · exact hl
  · split at hl
    · rename_i h1; rw [hg _ _ h1]; exact hl
    · exact hl.elim
  · exact hl
  · exact hl.elim
theorem snapX_grow {h h' : Heap} (hg : Grows h h') : ∀ {n : Nat} {x : XV} {y : CV}, snapX h n x = some y → snapX h' n x = some y := by
  have base : ∀ {n : Nat}, (∀ {x y}, snapX h n x = some y → snapX h' n x = some y) → ∀ {xs ys}, snapX.snapXs (snapX h n) xs = some ys → snapX.snapXs (snapX h' n) xs = some ys := fun {n} ih {xs} => by
    induction xs with
    | nil => exact fun h => h
    | cons x xs ihx =>
      intro ys hs
      simp only [snapX.snapXs] at hs ⊢
      split at hs
      · rename_i h1 h2
        rw [ih h1, ihx h2]; exact hs
      · cases hs
  intro n
  induction n with
  | zero =>
    intro x y hs
    cases x <;> simp only [snapX] at hs ⊢ <;> first | exact hs | (split at hs <;> first | (rename_i h1; rw [hg _ _ h1]; exact hs) | cases hs)
  | succ n ih =>
    intro x y hs
    cases x with
    | pb k off len =>
      simp only [snapX] at hs ⊢
      split at hs
      · rename_i h1
        rw [hg.b _ _ h1]
        simp only
        split at hs
        · rename_i h2
          rw [base ih h2]; exact hs
        · cases hs
      · cases hs
    | fb f pre k m post =>
      simp only [snapX] at hs ⊢
      split at hs
      · rename_i h1
        rw [hg.b _ _ h1]
        simp only
        split at hs
        · rename_i h2
          rw [base ih h2]; exact hs
        · cases hs
      · cases hs
    | _ => simp only [snapX] at hs ⊢; first | exact hs | (split at hs <;> first | (rename_i h1; rw [hg _ _ h1]; exact hs) | cases hs)
theorem snapXs_grow {h h' : Heap} (hg : Grows h h') {n : Nat} : ∀ {xs : List XV} {ys : List CV}, snapX.snapXs (snapX h n) xs = some ys → snapX.snapXs (snapX h' n) xs = some ys
  | [], ys, hs => hs
  | x :: xs, ys, hs => by
    simp only [snapX.snapXs] at hs ⊢
    split at hs
    · rename_i h1 h2
      rw [snapX_grow hg h1, snapXs_grow hg h2]; exact hs
    · cases hs
theorem snapB_grow {h h' : Heap} (hg : Grows h h') : ∀ {vs : List PV} {ys : List Comp}, snapB h vs = some ys → snapB h' vs = some ys
  | [], ys, hs => hs
  | v :: vs, ys, hs => by
    cases v with
    | tup _ => simp only [snapB] at hs; cases hs
    | one x =>
      simp only [snapB] at hs ⊢
      split at hs
      · rename_i y ys' h1 h2
        rw [snapB_grow hg h2]
        cases hx : snapX h 3 x with
        | none => simp [hx] at h1
        | some z => rw [hx] at h1; rw [snapX_grow hg hx, h1]; exact hs
      · cases hs
    | agg xs =>
      simp only [snapB] at hs ⊢
      split at hs
      · rename_i y ys' h1 h2
        rw [snapB_grow hg h2]
        cases hx : snapX.snapXs (snapX h 3) xs with
        | none => simp [hx] at h1
        | some z => rw [hx] at h1; rw [snapXs_grow hg hx, h1]; exact hs
      · cases hs
theorem callQ_grow {h h' : Heap} (hg : Grows h h') {P : Program} {f : PV} {vs : List PV} {K : PV → Prop} (hl : callQ P h f vs K) : callQ P h' f vs K := by
  unfold callQ at hl ⊢
  split at hl
  · rename_i h1
    rw [snapB_grow hg h1]
    exact hl
  · exact hl.elim
theorem optInt_mon' {r : List PV} {tt : TT} {x : Option Operand} {F G : Option Int → Prop} (h : ∀ n, F n → G n) (hx : optInt r tt x F) : optInt r tt x G := by
  unfold optInt at hx ⊢
  cases x with
  | none => exact h _ hx
  | some x =>
    refine (ex_opd _ _ _).mon _ _ (fun v hv => ?_) hx
    unfold intIx at hv ⊢
    split at hv
    · exact h _ hv
    · exact hv

theorem opQ_grow {P : Program} {tt : TT} {r : List PV} {h h' : Heap} (hg : Grows h h') {o : Oper} {K : PV → Prop} (hq : opQ P tt ⟨r, h⟩ o K) : opQ P tt ⟨r, h'⟩ o K := by
  cases hop : o.op <;> simp only [opQ, hop] at hq ⊢ <;> try exact hq
  case load t x => exact (ex_opd _ _ _).mon _ _ (fun v h => load_grow hg h) hq
  case slice t x lo hi mx =>
    cases mx with
    | some m => exact hq
    | none =>
      simp only at hq ⊢
      exact (ex_opd _ _ _).mon _ _ (fun v h => optInt_mon' (fun l h => optInt_mon' (fun m h => slice_grow hg h) h) h) hq
  case makeFunc fn first captured => cases fn <;> simp only at hq ⊢ <;> exact hq
  case indexAddr t x i => exact (ex_opd _ _ _).mon _ _ (fun v h => (ex_opd _ _ _).mon _ _ (fun u h => ixAddr_grow hg h) h) hq
  case call c =>
    split at hq
    · split at hq
      · exact (ex_opd _ _ _).mon _ _ (fun v h => len_grow hg h) hq
      · exact hq
    · exact hq
    · exact hq
    · exact (ex_opd _ _ _).mon _ _ (fun v h => (ex_args _ _ _ _).mon _ _ (fun u h => callQ_grow hg h) h) hq
    · exact hq

section
variable {P : Program} {C : Ctx} {L : Lay} {I : Nat → Prop} {s : St} {a : Act} {w : World}

theorem ins_comm {k k2 : Nat} {o o2 : Ob} (hne : k ≠ k2) : ∀ h : Heap, ins k o (ins k2 o2 h) = ins k2 o2 (ins k o h)
  | [] => by
    simp only [ins]
    cases h1 : Nat.blt k k2 with
    | true =>
      have h1' := Nat.blt_eq.mp h1
      have h2 : Nat.blt k2 k = false := by
        cases h2 : Nat.blt k2 k with
        | false => rfl
        | true => have := Nat.blt_eq.mp h2; omega
      simp only [h2, ins]
    | false =>
      have h2 : Nat.blt k2 k = true := Nat.blt_eq.mpr (by
        have : ¬ k < k2 := fun h => by rw [Nat.blt_eq.mpr h] at h1; cases h1
        omega)
      simp only [h2, ins]
  | (k', o') :: h => by
    have ih := ins_comm (o := o) (o2 := o2) hne h
    have lt : ∀ a b : Nat, Nat.blt a b = decide (a < b) := fun a b => by
      cases hb : Nat.blt a b with
      | true => have := Nat.blt_eq.mp hb; simp [this]
      | false =>
        have : ¬ a < b := fun h => by rw [Nat.blt_eq.mpr h] at hb; cases hb
        simp; omega
    have eqs : ∀ a x (l : Heap) b y, ins a x ((b, y) :: l) = if a < b then (a, x) :: (b, y) :: l else (b, y) :: ins a x l := fun a x l b y => by
      simp only [ins, lt]
      by_cases hab : a < b <;> simp [hab]
    rw [eqs k2, eqs k]
    by_cases h1 : k < k' <;> by_cases h2 : k2 < k' <;> simp only [h1, h2, if_true, if_false] <;> rw [eqs, eqs]
    · by_cases h3 : k < k2
      · have : ¬ k2 < k := by omega
        simp [h3, this, eqs, h2]
      · have : k2 < k := by omega
        simp [h3, this, eqs, h1]
    · have : ¬ k2 < k := by omega
      simp [h1, this, eqs, h2]
    · have : ¬ k < k2 := by omega
      simp [h2, this, eqs, h1]
    · simp [h1, h2, ih]

/-! ### several new objects -/
def NoDup : Heap → Prop
  | [] => True
  | (k, _) :: N => find N k = none ∧ NoDup N
def FreshN (N h : Heap) : Prop := NoDup N ∧ ∀ k o, find N k = some o → find h k = none
theorem find_cons {k j : Nat} {o : Ob} {h : Heap} : find ((k, o) :: h) j = if k = j then some o else find h j := by
  simp only [find]
  by_cases e : k = j
  · subst e; rw [beq_iff.2 rfl, if_pos rfl]
  · rw [beq_false.2 e, if_neg e]
theorem FreshN.one {k : Nat} {o : Ob} {h : Heap} (hn : find h k = none) : FreshN [(k, o)] h := ⟨⟨rfl, trivial⟩, fun j o' hj => by
  rw [find_cons] at hj
  split at hj
  · rename_i e; subst e; exact hn
  · cases hj⟩
theorem FreshN.one_iff {k : Nat} {o : Ob} {h : Heap} (hf : FreshN [(k, o)] h) : find h k = none := hf.2 k o (by rw [find_cons, if_pos rfl])
theorem FreshN.tail {k : Nat} {o : Ob} {N h : Heap} (hf : FreshN ((k, o) :: N) h) : FreshN N (ins k o h) := by
  obtain ⟨⟨h1, h2⟩, h3⟩ := hf
  have hk : find h k = none := h3 k o (by rw [find_cons, if_pos rfl])
  refine ⟨h2, fun j o' hj => ?_⟩
  have hne : k ≠ j := fun e => by rw [← e, h1] at hj; cases hj
  rw [find_ins _ _ _ _ hk, if_neg (Ne.symm hne)]
  exact h3 j o' (by rw [find_cons, if_neg hne]; exact hj)
theorem find_insAll : ∀ {N h : Heap} (j : Nat), FreshN N h → find (insAll N h) j = match find N j with | some o => some o | none => find h j
  | [], h, j, _ => rfl
  | (k, o) :: N, h, j, hf => by
    have hk : find h k = none := hf.2 k o (by rw [find_cons, if_pos rfl])
    simp only [insAll]
    rw [find_insAll j hf.tail, find_cons, find_ins _ _ _ _ hk]
    by_cases e : k = j
    · subst e
      rw [if_pos rfl, hf.1.1]; simp
    · rw [if_neg e, if_neg (Ne.symm e)]
theorem Grows.insAll {N h : Heap} (hf : FreshN N h) : Grows h (insAll N h) := fun k o hk => by
  rw [find_insAll k hf]
  cases e : find N k with
  | none => exact hk
  | some o' => have := hf.2 k o' e; rw [hk] at this; cases this
theorem ins_insAll : ∀ {N : Heap} {k : Nat} {o : Ob} {h : Heap}, find N k = none → ins k o (insAll N h) = insAll N (ins k o h)
  | [], k, o, h, _ => rfl
  | (k', o') :: N, k, o, h, hn => by
    rw [find_cons] at hn
    split at hn
    · cases hn
    · rename_i e
      simp only [insAll]
      rw [ins_insAll hn, ins_comm (Ne.symm e)]
theorem insAll_comm : ∀ {N1 N2 h : Heap}, (∀ k o, find N1 k = some o → find N2 k = none) → insAll N1 (insAll N2 h) = insAll N2 (insAll N1 h)
  | [], N2, h, _ => rfl
  | (k, o) :: N1, N2, h, hd => by
    simp only [insAll]
    rw [ins_insAll (hd k o (by rw [find_cons, if_pos rfl]))]
    refine insAll_comm fun j o' hj => ?_
    by_cases e : k = j
    · exact hd j o (by rw [find_cons, if_pos e])
    · exact hd j o' (by rw [find_cons, if_neg e]; exact hj)
theorem freshN_spec {d : Nat} : ∀ {h H N : Heap}, freshN d h H = some N → FreshN N H ∧ (∀ j, find N (d + j) = find h j) ∧ ∀ H', FreshN N H' → freshN d h H' = some N
  | [], H, N, e => by
    simp only [freshN, Option.some.injEq] at e
    subst e
    exact ⟨⟨trivial, fun k o h => by simp [find] at h⟩, fun j => rfl, fun H' _ => rfl⟩
  | (k, o) :: h, H, N, e => by
    have key : ∀ {N' : Heap}, find H (d + k) = none → find h k = none → freshN d h H = some N' → N = (d + k, o) :: N' → (∀ H', find H' (d + k) = none → freshN d h H' = some N' → freshN d ((k, o) :: h) H' = some N) → FreshN N H ∧ (∀ j, find N (d + j) = find ((k, o) :: h) j) ∧ ∀ H', FreshN N H' → freshN d ((k, o) :: h) H' = some N := fun {N'} h1 h2 h3 h4 h5 => by
      obtain ⟨g1, g2, g3⟩ := freshN_spec h3
      subst h4
      have hnk : find N' (d + k) = none := by rw [g2]; exact h2
      refine ⟨⟨⟨hnk, g1.1⟩, fun j o' hj => ?_⟩, fun j => ?_, fun H' hf => ?_⟩
      · rw [find_cons] at hj
        split at hj
        · rename_i e; rw [← e]; exact h1
        · exact g1.2 j o' hj
      · rw [find_cons, find_cons, g2]
        by_cases e : k = j
        · subst e; simp
        · rw [if_neg e, if_neg (by omega)]
      · refine h5 H' (hf.2 _ o (by rw [find_cons, if_pos rfl])) (g3 H' ⟨hf.1.2, fun j o' hj => hf.2 j o' ?_⟩)
        rw [find_cons]
        split
        · rename_i e; rw [← e, hnk] at hj; cases hj
        · exact hj
    cases o with
    | box cs => simp [freshN] at e
    | arr sz rows =>
      simp only [freshN] at e
      split at e
      · rename_i h1 h2 h3 h4
        cases e
        exact key h1 h3 h4 rfl fun H' q1 q2 => by simp only [freshN, q1, h2, h3, q2]
      · cases e
    | deep a sz rows =>
      simp only [freshN] at e
      split at e
      · rename_i h1 h2 h3 h4
        cases e
        exact key h1 h3 h4 rfl fun H' q1 q2 => by simp only [freshN, q1, h2, h3, q2]
      · cases e
theorem freshN_pin {d : Nat} {k : Nat} {o : Ob} {h H N : Heap} (e : freshN d ((k, o) :: h) H = some N) : pinK (d + k) = false ∧ find H (d + k) = none ∧ find h k = none ∧ (∀ cs, o ≠ .box cs) ∧ ∃ N', N = (d + k, o) :: N' ∧ freshN d h H = some N' := by
  cases o with
  | box cs => simp [freshN] at e
  | arr sz rows =>
    simp only [freshN] at e
    split at e
    · rename_i h1 h2 h3 h4; cases e; exact ⟨h2, h1, h3, fun _ h => (by cases h), _, rfl, h4⟩
    · cases e
  | deep a sz rows =>
    simp only [freshN] at e
    split at e
    · rename_i h1 h2 h3 h4; cases e; exact ⟨h2, h1, h3, fun _ h => (by cases h), _, rfl, h4⟩
    · cases e
theorem newsK_fresh {d : Nat} : ∀ {h : Heap} {s : St} {N : Heap} {K : St → Prop}, freshN d h s.heap = some N → K ⟨s.regs, insAll N s.heap⟩ → newsK d h s K
  | [], s, N, K, e, hK => by
    simp only [freshN, Option.some.injEq] at e
    subst e
    exact hK
  | (k, o) :: h, s, N, K, e, hK => by
    obtain ⟨h1, h2, h3, h4, N', rfl, h5⟩ := freshN_pin e
    have hfr := (freshN_spec e).1
    have hnx : freshN d h (ins (d + k) o s.heap) = some N' := (freshN_spec h5).2.2 _ hfr.tail
    have hnew : newK (d + k) o s fun s => newsK d h s K := by
      unfold newK killK
      simp only [h1, h2, forceH_eq]
      exact newsK_fresh (s := ⟨s.regs, ins (d + k) o s.heap⟩) hnx hK
    cases o with
    | box cs => exact absurd rfl (h4 cs)
    | arr sz rows => simp only [newsK, h3]; exact hnew
    | deep a sz rows => simp only [newsK, h3]; exact hnew

theorem opF_ex {tt : TT} {o : Oper} {K : PV → St → Prop} (h : opF P tt s o K) : ∃ u N, FreshN N s.heap ∧ K u ⟨s.regs, insAll N s.heap⟩ ∧ ∀ (s' : St) (K' : PV → St → Prop), (∀ n, Operand.tmp n ∈ o.op.operands → s.regs[n]? = s'.regs[n]?) → FreshN N s'.heap → K' u ⟨s'.regs, insAll N s'.heap⟩ → opF P tt s' o K' := by
  unfold opF at h
  split at h
  · rename_i t len ps hop
    split at h
    · rename_i sz by' hsl hlen hbig
      obtain ⟨vs, h, hall⟩ := ex_parts _ _ _ _ _ h
      split at h
      · rename_i hk
        split at h
        · rename_i rows hrows
          unfold dstK at h
          split at h
          · rename_i d hd
            split at h
            · rename_i hf hp
              simp only [forceH_eq] at h
              refine ⟨_, [(64 * d, .arr sz rows)], .one hf, h, fun s' K' hr hf' hK => ?_⟩
              replace hf' := hf'.one_iff
              unfold opF
              simp only [hop, hsl, hlen]
              have hbig' : Nat.ble (len * ((tt t).slice.getD (0, 0)).1) 16777216 = true := hbig
              rw [hsl] at hbig'
              simp only [hbig']
              rw [← parts_congr (xs := ps.toList) (r := s.regs) (r' := s'.regs) (fun n hn => hr n (by
                simp only [hop, Op.operands]
                simpa using hn))]
              refine hall _ ?_
              simp only [hk, hrows, dstK, hd, hf', hp, forceH_eq]
              exact hK
            · exact h.elim
          · exact h.elim
        · exact h.elim
      · exact h.elim
    · exact h.elim
  · rename_i t hop
    split at h
    · rename_i z zs hz
      unfold dstK at h
      split at h
      · rename_i d hd
        split at h
        · rename_i hf hp hfb
          simp only [forceH_eq] at h
          refine ⟨_, [(64 * d, .box (z :: zs))], .one hf, h, fun s' K' hr hf' hK => ?_⟩
          replace hf' := hf'.one_iff
          unfold opF
          simp only [hop, hz, dstK, hd, hf', hp, hfb, forceH_eq]
          exact hK
        · exact h.elim
      · exact h.elim
    · exact h.elim
  · rename_i t l c hop
    obtain ⟨vl, h, hl⟩ := ex_opd _ _ _ _ h
    obtain ⟨vc, h, hc⟩ := ex_opd _ _ _ _ h
    unfold intIx at h
    split at h
    · rename_i l' 
      split at h
      · rename_i c'
        split at h
        · rename_i sz by' hsl
          split at h
          · exact h.elim
          · rename_i z zs hez
            obtain ⟨h1, h⟩ := h
            unfold dstK at h
            split at h
            · rename_i d hd
              split at h
              · rename_i hf hp
                simp only [forceH_eq] at h
                refine ⟨_, [(64 * d, _)], .one hf, h, fun s' K' hr hf' hK => ?_⟩
                replace hf' := hf'.one_iff
                unfold opF
                simp only [hop]
                have e1 := opd_congr (x := l) (r := s.regs) (r' := s'.regs) (fun n hn => hr n (by simp [hop, Op.operands, hn])) (tt 0)
                have e2 := opd_congr (x := c) (r := s.regs) (r' := s'.regs) (fun n hn => hr n (by simp [hop, Op.operands, hn])) (tt 0)
                rw [← e1, ← e2]
                refine hl _ (hc _ ?_)
                simp only [intIx, hsl, hez]
                refine ⟨h1, ?_⟩
                simp only [dstK, hd, hf', hp, forceH_eq]
                rw [hez] at hK
                exact hK
              · exact h.elim
            · exact h.elim
        · exact h.elim
      · exact h.elim
    · exact h.elim
  · rename_i c hop
    split at h
    · rename_i f hcal
      obtain ⟨g, h, hg⟩ := ex_opd _ _ _ _ h
      split at h
      · rename_i g' caps
        obtain ⟨vs, h, hvs⟩ := ex_args _ _ _ _ _ h
        split at h
        · rename_i comps h1 h2 h3
          obtain ⟨res, hsat, h⟩ := h
          split at h
          · rename_i sz rows
            unfold dstK at h
            split at h
            · rename_i d hd
              split at h
              · rename_i hf hp
                simp only [forceH_eq] at h
                refine ⟨_, [(64 * d, _)], .one hf, h, fun s' K' hr hf' hK => ?_⟩
                replace hf' := hf'.one_iff
                unfold opF
                simp only [hop, hcal]
                rw [← opd_congr (x := f) (r := s.regs) (r' := s'.regs) (fun n e => hr n (by simp [hop, Op.operands, Call.operands, hcal, e])) (tt 0)]
                refine hg _ ?_
                simp only
                rw [← args_congr (xs := c.args.toList) (r := s.regs) (r' := s'.regs) (fun n hn => hr n (by simp only [hop, Op.operands, Call.operands, hcal]; simp at hn ⊢; exact Or.inr hn)) c.argTypes.toList]
                refine hvs _ ?_
                simp only [h1, h2, h3]
                refine ⟨_, hsat, ?_⟩
                simp only [dstK, hd, hf', hp, forceH_eq]
                exact hK
              · exact h.elim
            · exact h.elim
          · rename_i pv
            simp only [forceP_eq] at h
            refine ⟨pv, [], ⟨trivial, fun k o h => by simp [find] at h⟩, h, fun s' K' hr _ hK => ?_⟩
            unfold opF
            simp only [hop, hcal]
            rw [← opd_congr (x := f) (r := s.regs) (r' := s'.regs) (fun n e => hr n (by simp [hop, Op.operands, Call.operands, hcal, e])) (tt 0)]
            refine hg _ ?_
            simp only
            rw [← args_congr (xs := c.args.toList) (r := s.regs) (r' := s'.regs) (fun n hn => hr n (by simp only [hop, Op.operands, Call.operands, hcal]; simp at hn ⊢; exact Or.inr hn)) c.argTypes.toList]
            refine hvs _ ?_
            simp only [h1, h2, h3]
            refine ⟨_, hsat, ?_⟩
            simp only [forceP_eq]
            exact hK
          · rename_i pv x xs hno
            unfold dstK at h
            split at h
            · rename_i d hd
              split at h
              · rename_i N hN hru
                simp only [forceP_eq, forceH_eq] at h
                obtain ⟨q1, _, q3⟩ := freshN_spec hN
                refine ⟨_, N, q1, h, fun s' K' hr hf' hK => ?_⟩
                unfold opF
                simp only [hop, hcal]
                rw [← opd_congr (x := f) (r := s.regs) (r' := s'.regs) (fun n e => hr n (by simp [hop, Op.operands, Call.operands, hcal, e])) (tt 0)]
                refine hg _ ?_
                simp only
                rw [← args_congr (xs := c.args.toList) (r := s.regs) (r' := s'.regs) (fun n hn => hr n (by simp only [hop, Op.operands, Call.operands, hcal]; simp at hn ⊢; exact Or.inr hn)) c.argTypes.toList]
                refine hvs _ ?_
                simp only [h1, h2, h3]
                refine ⟨_, hsat, ?_⟩
                simp only [dstK, hd, q3 _ hf', forceP_eq, forceH_eq]
                simp only [hru]; exact hK
              · exact h.elim
            · exact h.elim
        · exact h.elim
      · exact h.elim
    · exact h.elim
  · exact h.elim

theorem opM_of_F {tt : TT} {o : Oper} {K : PV → St → Prop} (h : opF P tt s o K) : opM P tt s o K := by
  unfold opF at h
  split at h
  · rename_i t len ps hop
    split at h
    · rename_i sz by' hsl hlen hbig
      have hbig' : Nat.ble (len * sz) 16777216 = true := by simpa only [hsl, Option.getD_some] using hbig
      simp only [opM, hop, hsl, hlen, Option.getD_some, hbig']
      obtain ⟨vs, h, hall⟩ := ex_parts _ _ _ _ _ h
      refine hall _ ?_
      split at h
      · rename_i hk
        have key : buildF tt t len sz ps.toList o vs s K := by
          unfold buildF
          rw [hk]
          simp only [frzKeys]
          refine hall _ ?_
          split at h
          · rename_i rows hrows
            unfold dstK at h ⊢
            split at h
            · split at h
              · rename_i hf hp
                unfold newK killK
                simp only [hp, hf]
                exact h
              · exact h.elim
            · exact h.elim
          · exact h.elim
        split
        · rename_i h1; rw [hk] at h1; cases h1
        · exact key
      · exact h.elim
    · exact h.elim
  · rename_i t hop
    simp only [opM, hop]
    split at h
    · rename_i z zs hz
      unfold dstK at h ⊢
      split at h
      · rename_i d _
        split at h
        · rename_i hf hp hfb
          cases hTB : Nat.beq t TB with
          | true => rw [hTB] at hfb; cases hfb
          | false =>
          rw [hTB] at hfb
          simp only at hfb
          simp only [hz]
          unfold freshBox at hfb
          split at hfb
          · cases hfb
          · rename_i hnn
            split at hfb
            · rename_i hal hbk
              have key : boxM (64 * d) (z :: zs) s K := by
                unfold boxM
                simp only [hal, hfb, hbk]
                unfold newK killK
                simp only [hp, hf]
                exact h
              cases zs with
              | cons z2 zs2 => cases z <;> exact key
              | nil =>
                cases z with
                | nil sz => exact absurd rfl (hnn sz)
                | _ => exact key
            · cases hfb
        · exact h.elim
      · exact h.elim
    · exact h.elim
  · rename_i t l c hop
    simp only [opM, hop]
    obtain ⟨vl, h, hl⟩ := ex_opd _ _ _ _ h
    obtain ⟨vc, h, hc⟩ := ex_opd _ _ _ _ h
    refine hl _ (hc _ ?_)
    unfold intIx at h ⊢
    split at h
    · split at h
      · split at h
        · rename_i sz by' hsl
          split at h
          · exact h.elim
          · rename_i z zs hez
            simp only [hez]
            refine ⟨h.1, ?_⟩
            replace h := h.2
            unfold dstK at h ⊢
            split at h
            · split at h
              · rename_i hf hp
                unfold newK killK
                simp only [hp, hf]
                rw [hez] at h; exact h
              · exact h.elim
            · exact h.elim
        · exact h.elim
      · exact h.elim
    · exact h.elim
  · rename_i c hop
    simp only [opM, hop]
    split at h
    · rename_i f hcal
      obtain ⟨g, h, hg⟩ := ex_opd _ _ _ _ h
      simp only [hcal]
      refine hg _ ?_
      split at h
      · rename_i g' caps
        obtain ⟨vs, h, hvs⟩ := ex_args _ _ _ _ _ h
        simp only [callM]
        refine hvs _ ?_
        split at h
        · rename_i comps h1 h2 h3
          simp only [h2]
          have fin : ∀ {g1 : Nat} {caps1 : List CV} (hvs0 : True), callR P tt s g' caps c.args.toList c.argTypes.toList o.dst vs K → callE P tt s g' caps c.args.toList c.argTypes.toList o.dst vs K := fun _ hR => by
            unfold callE
            split
            · exact hR
            · exact CallC.r (CallC.r hR)
          refine fin (g1 := 0) (caps1 := []) trivial ?_
          unfold callR
          rw [h1]
          simp only [frzKeys]
          refine hvs _ ?_
          simp only [h3]
          obtain ⟨res, hsat, h⟩ := h
          refine ⟨res, hsat, ?_⟩
          split at h
          · rename_i sz rows
            unfold dstK at h
            split at h
            · rename_i d hd
              split at h
              · rename_i hf hp
                simp only [forceH_eq] at h
                have hsc : PV.scalar (.one (.rs 0)) = false := rfl
                simp only [hsc, hd]
                have key : newsK (64 * d) [(0, .arr sz rows)] s fun s'' => forceP (PV.map (shiftX (64 * d)) (.one (.rs 0))) fun pv => K pv s'' := by
                  simp only [newsK, find, newK, killK, Nat.add_zero, hf, hp, forceH_eq, forceP_eq]
                  exact h
                split
                · exact key
                · simp only [ruRes]; exact key
              · exact h.elim
            · exact h.elim
          · rename_i pv
            cases hsc : PV.scalar pv with
            | true => simp only [hsc]; exact h
            | false => simp only [hsc]; exact h
          · rename_i pv x xs hno
            unfold dstK at h
            split at h
            · rename_i d hd
              split at h
              · rename_i N hN hru
                simp only [forceP_eq, forceH_eq] at h
                have key : newsK (64 * d) (x :: xs) s fun s'' => forceP (PV.map (shiftX (64 * d)) pv) fun pv => K pv s'' := newsK_fresh hN (by simp only [forceP_eq]; exact h)
                simp only [hd]
                split
                · rename_i e; cases e
                · rename_i e _; cases e
                · have e : ∀ {d' : Nat}, some d = some d' → d = d' := fun h => by cases h; rfl
                  obtain rfl := e (by assumption)
                  split
                  · exact key
                  · simp only [hru]; exact key
                · rename_i e _ _; cases e
              · exact h.elim
            · exact h.elim
        · exact h.elim
      · exact h.elim
    · exact h.elim
  · exact h.elim

theorem rowsOf_ex {h : Heap} {sz : Nat} {v : PV} {K : List (List CV) → Prop} (hh : rowsOf h sz v K) : ∃ es, K es ∧ ∀ K' : List (List CV) → Prop, K' es → rowsOf h sz v K' := by
  unfold rowsOf at hh ⊢
  split at hh
  · split at hh
    · exact ⟨_, hh, fun K' h => h⟩
    · exact hh.elim
  · exact ⟨_, hh, fun K' h => h⟩
  · split at hh
    · exact ⟨_, hh, fun K' h => h⟩
    · exact hh.elim
  · split at hh
    · split at hh
      · exact ⟨_, hh, fun K' h => h⟩
      · exact hh.elim
    · exact hh.elim
  · split at hh
    · split at hh
      · exact ⟨_, hh, fun K' h => h⟩
      · exact hh.elim
    · exact hh.elim
  · exact hh.elim

theorem opS_ex {tt : TT} {o : Oper} {K : PV → St → Prop} (h : opS tt s o K) : ∃ u H, K u ⟨s.regs, H⟩ ∧ ∀ (s' : St) (K' : PV → St → Prop), (∀ n, Operand.tmp n ∈ o.op.operands → s.regs[n]? = s'.regs[n]?) → s'.heap = s.heap → K' u ⟨s'.regs, H⟩ → opS tt s' o K' := by
  unfold opS at h
  split at h
  · rename_i t a x hop
    split at h
    · exact h.elim
    · rename_i m hm
      obtain ⟨p, h, hp⟩ := ex_opd _ _ _ _ h
      obtain ⟨v, h, hv⟩ := ex_opd _ _ _ _ h
      split at h
      · rename_i k r o2 n hk _
        split at h
        · rename_i ys sz rows h1 h2 h3
          split at h
          · rename_i h4 h5
            simp only [forceH_eq] at h
            refine ⟨_, _, h, fun s' K' hr hh hK => ?_⟩
            unfold opS
            simp only [hop, hm]
            rw [← opd_congr (x := a) (r := s.regs) (r' := s'.regs) (fun n hn => hr n (by simp [hop, Op.operands, hn])) (tt 0)]
            refine hp _ ?_
            rw [← opd_congr (x := x) (r := s.regs) (r' := s'.regs) (fun n hn => hr n (by simp [hop, Op.operands, hn])) (tt t)]
            refine hv _ ?_
            simp only [hk, h1, hh, h2, h3, h4, h5, forceH_eq]
            exact hK
          · exact h.elim
        · exact h.elim
      · exact h.elim
  · rename_i c hop
    split at h
    · rename_i x y t t2 hcal hargs hts
      obtain ⟨d, hd, h⟩ := dstK_iff h
      obtain ⟨v, h, hv⟩ := ex_opd _ _ _ _ h
      obtain ⟨u, h, hu⟩ := ex_opd _ _ _ _ h
      split at h
      · have hik : (tt t2).ik = none := by assumption
        unfold appendT at h
        split at h
        · rename_i sz bytes hsl hok
          obtain ⟨es, h, hes⟩ := rowsOf_ex h
          split at h
          · rename_i ap sz1 rows hf1 hf2 hp
            obtain ⟨p, hpp, h⟩ := h
            have hb := h.b
            simp only [forceH_eq] at hb
            refine ⟨_, _, hb, fun s' K' hr hh hK => ?_⟩
            unfold opS
            simp only [hop, hcal, hargs, hts]
            unfold dstK
            rw [hd]
            simp only
            have hmx : ∀ z : Operand, z ∈ [x, y] → ∀ n, z = .tmp n → s.regs[n]? = s'.regs[n]? := fun z hz n hn => hr n (by
              subst hn
              have hz : Operand.tmp n ∈ c.args := by rw [← Array.mem_toList_iff, hargs]; exact hz
              simp only [hop, Op.operands, Call.operands, hcal]
              simp [hz])
            rw [← opd_congr (x := x) (r := s.regs) (r' := s'.regs) (fun n hn => hmx x (by simp) n hn) (tt t)]
            refine hv _ ?_
            rw [← opd_congr (x := y) (r := s.regs) (r' := s'.regs) (fun n hn => hmx y (by simp) n hn) (tt t2)]
            refine hu _ ?_
            simp only [hik]
            unfold appendT
            simp only [hsl, hok, hh]
            refine hes _ ?_
            simp only [hf1, hf2, hp]
            refine ⟨p, hpp, h.a, ?_⟩
            simp only [forceH_eq]
            obtain ⟨g', h'⟩ := s'
            simp only at hh hK ⊢
            first | exact hK | (subst hh; exact hK)
          · exact h.elim
        · exact h.elim
      · exact h.elim
    · exact h.elim
  · exact h.elim

theorem opM_of_S {tt : TT} {o : Oper} {K : PV → St → Prop} (h : opS tt s o K) : opM P tt s o K := by
  unfold opS at h
  split at h
  · rename_i t a x hop
    simp only [opM, hop, storeM]
    split at h
    · exact h.elim
    · rename_i m hm
      obtain ⟨p, h, hp⟩ := ex_opd _ _ _ _ h
      obtain ⟨v, h, hv⟩ := ex_opd _ _ _ _ h
      refine hp _ (hv _ ?_)
      split at h
      · rename_i k r o2 n hk _
        simp only [hk, frzKeys]
        refine hp _ (hv _ ?_)
        split at h
        · rename_i ys sz rows h1 h2 h3
          simp only [h1, h2, h3]
          split at h
          · rename_i h4 h5
            simp only [h4, h5]
            exact h
          · exact h.elim
        · exact h.elim
      · exact h.elim
  · rename_i c hop
    split at h
    · rename_i x y t t2 hcal hargs hts
      simp only [opM, hop, hcal, restM, hargs, hts]
      refine dstK_mon _ _ _ (fun k h => (ex_opd _ _ _).mon _ _ (fun v h => (ex_opd _ _ _).mon _ _ (fun u h => ?_) h) h) h
      split at h
      · have hik : (tt t2).ik = none := by assumption
        simp only [hik, appendA]
        exact h
      · exact h.elim
    · exact h.elim
  · exact h.elim

variable (P) in
def stepF (tt : TT) (ops : Array Oper) (n i : Nat) (K : St → Prop) (s : St) : Prop :=
  match ops[i]? with
  | none => K s
  | some o => guardK ops.toList o s fun run => match run, isQ n i o, isG n i o with
    | true, true, _ => opQ P tt s o fun v => putK o.dst v s K
    | true, false, true => opF P tt s o fun v s => putK o.dst v s K
    | true, false, false => match isS n o with
      | true => opS tt s o fun v s => putK o.dst v s K
      | false => opM P tt s o fun v s => putK o.dst v s K
    | false, _, _ => putK o.dst (.one .undef) s K

theorem isQ_lt {n i : Nat} {o : Oper} (h : isQ n i o = true) : i < n := by
  unfold isQ at h
  split at h
  · unfold isB at h
    split at h
    · split at h
      · rename_i _ h1 h2
        exact Nat.lt_of_lt_of_le (Nat.blt_eq.mp h2) (Nat.mod_le _ _)
      · cases h
    · cases h
  · split at h
    · cases h
    · rename_i h1; exact Nat.lt_of_lt_of_le (Nat.blt_eq.mp h1) (Nat.mod_le _ _)
    · unfold isP at h
      split at h
      · split at h
        · rename_i h1 h2
          have h1 := Nat.le_of_ble_eq_true h1
          have h2 := Nat.blt_eq.mp h2
          omega
        · cases h
      · split at h
        · rename_i h1 h2
          have h1 := Nat.le_of_ble_eq_true h1
          have h2 := Nat.blt_eq.mp h2
          omega
        · cases h
      · cases h

theorem stepF_mono {tt : TT} {ops : Array Oper} {n i : Nat} {K K' : St → Prop} (hk : ∀ s, K s → K' s) (h : stepF P tt ops n i K s) : stepF P tt ops n i K' s := by
  unfold stepF at h ⊢
  cases ho : ops[i]? with
  | none => simp only [ho] at h ⊢; exact hk _ h
  | some o =>
    simp only [ho] at h ⊢
    obtain ⟨run, h1, h2⟩ := guardK_ex _ h
    refine h2 _ ?_
    have pm : ∀ {v : PV} {s : St}, putK o.dst v s K → putK o.dst v s K' := fun h => putK_iff.2 ⟨(putK_iff.1 h).1, hk _ (putK_iff.1 h).2⟩
    cases run with
    | false => exact pm h1
    | true =>
      cases hd : isQ n i o with
      | true => simp only [hd] at h1 ⊢; exact (ex_opQ P tt s o).mon _ _ (fun v h => pm h) h1
      | false =>
        simp only [hd] at h1 ⊢
        cases hf : isG n i o with
        | true =>
          simp only [hf] at h1 ⊢
          obtain ⟨u, N, g1, g2, g3⟩ := opF_ex h1
          exact g3 s _ (fun _ _ => rfl) g1 (pm g2)
        | false =>
          simp only [hf] at h1 ⊢
          cases hS : isS n o with
          | true =>
            simp only [hS] at h1 ⊢
            obtain ⟨_, H, g1, g2⟩ := opS_ex h1
            exact g2 s _ (fun _ _ => rfl) rfl (pm g1)
          | false => simp only [hS] at h1 ⊢; exact opM_mono (fun v s h => pm h) h1

theorem stepF_Q {tt : TT} {ops : Array Oper} {n i : Nat} {o : Oper} {K : St → Prop} (ho : ops[i]? = some o) (hn : isQ n i o = true) : stepF P tt ops n i K s ↔ stepA P tt ops n i K s := by
  unfold stepF stepA
  rw [ho]
  have e : (fun run => match run, isQ n i o, isG n i o with
      | true, true, _ => opQ P tt s o fun v => putK o.dst v s K
      | true, false, true => opF P tt s o fun v s => putK o.dst v s K
      | true, false, false => match isS n o with
        | true => opS tt s o fun v s => putK o.dst v s K
        | false => opM P tt s o fun v s => putK o.dst v s K
      | false, _, _ => putK o.dst (.one .undef) s K) = (fun run => match run, decide (i < n) with
      | true, true => opQ P tt s o fun v => putK o.dst v s K
      | true, false => opM P tt s o fun v s => putK o.dst v s K
      | false, _ => putK o.dst (.one .undef) s K) := by
    funext run
    cases run <;> simp [hn, isQ_lt hn]
  simp only [e]
  exact Iff.rfl

theorem YieldQ.grow {tt : TT} {ops : Array Oper} {o : Oper} {v : PV} {s s' : St} (hy : YieldQ P tt ops o v s) (hg : Grows s.heap s'.heap) (hr : ∀ n ∈ o.looksAt ops, s.regs[n]? = s'.regs[n]?) (hd : s'.has o.dst ↔ s.has o.dst) : YieldQ P tt ops o v s' := by
  have h1 : YieldQ P tt ops o v ⟨s'.regs, s.heap⟩ := hy.of_same rfl hr (by cases hdst : o.dst <;> simp only [hdst, St.has] at hd ⊢ <;> exact hd)
  obtain ⟨h0, run, g1, g2⟩ := h1
  refine ⟨by cases hdst : o.dst <;> simp only [hdst, St.has] at h0 ⊢ <;> exact h0, run, fun K hk => ?_, ?_⟩
  · rw [guardK_congr (s := s') (s' := ⟨s'.regs, s.heap⟩) (fun n _ => rfl)]; exact g1 K hk
  · cases run with
    | false => exact g2
    | true => exact fun K hk => opQ_grow hg (g2 K hk)

theorem stepF_put {tt : TT} {ops : Array Oper} {n j : Nat} {oi oj : Oper} {v : PV} (hj : ops[j]? = some oj) (hn : isQ n j oj = false) (hf : isG n j oj = true) (hap : oi.apart ops oj = true) {K : St → Prop} (hy : YieldQ P tt ops oi v s) (h : stepF P tt ops n j K (s.put oi.dst v)) :
    stepF P tt ops n j (fun s' => YieldQ P tt ops oi v s' ∧ K (s'.put oi.dst v)) s := by
  obtain ⟨h1, h2, h3⟩ := Oper.apart_spec hap
  have hregs : ∀ m ∈ oj.looksAt ops, (s.put oi.dst v).regs[m]? = s.regs[m]? := fun m hm => St.put_get fun e he => fun e2 => h1 e he (e2 ▸ hm)
  unfold stepF at h ⊢
  simp only [hj] at h ⊢
  obtain ⟨run, g1, g2⟩ := guardK_ex _ h
  rw [guardK_congr hregs] at g2
  refine g2 _ ?_
  have hput : ∀ {u : PV} {t : St}, Grows s.heap t.heap → t.regs = s.regs → putK oj.dst u (⟨(s.put oi.dst v).regs, t.heap⟩ : St) K → putK oj.dst u t (fun s' => YieldQ P tt ops oi v s' ∧ K (s'.put oi.dst v)) := fun {u t} hg ht hk => by
    rw [putK_iff] at hk ⊢
    have e : (⟨(s.put oi.dst v).regs, t.heap⟩ : St) = t.put oi.dst v := by
      cases hd : oi.dst <;> simp only [St.put, hd, ← ht]
    rw [e] at hk
    refine ⟨(St.has_put (d := oi.dst) (v := v)).1 hk.1, ?_, ?_⟩
    · refine hy.grow (by rw [St.put_heap]; exact hg) (fun m hm => ?_) ?_
      · rw [St.put_get (fun e he => fun e2 => h3 e he (e2 ▸ hm)), ht]
      · rw [St.has_put]
        cases hd : oi.dst <;> simp only [St.has, ht]
    · rw [← St.put_comm h2]; exact hk.2
  cases run with
  | false =>
    simp only at g1 ⊢
    exact hput (fun _ _ h => h) rfl (by rw [← St.put_heap s oi.dst v]; exact g1)
  | true =>
    simp only [hn, hf] at g1 ⊢
    obtain ⟨u, N, q1, q2, q3⟩ := opF_ex g1
    rw [St.put_heap] at q1 q2
    exact q3 s _ (fun m hm => hregs m (mem_looks hm)) q1 (hput (t := ⟨s.regs, insAll N s.heap⟩) (Grows.insAll q1) rfl q2)

theorem opQ_R {tt : TT} {r : List PV} {h h' : Heap} {o : Oper} (hR : isR o = true) {K : PV → Prop} (hq : opQ P tt ⟨r, h⟩ o K) : opQ P tt ⟨r, h'⟩ o K := by
  unfold isR at hR
  split at hR
  · rename_i x hop; simp only [opQ, hop] at hq ⊢; exact hq
  · rename_i t x y z hop; simp only [opQ, hop] at hq ⊢; exact hq
  · cases hR
theorem YieldQ.heap {tt : TT} {ops : Array Oper} {o : Oper} {v : PV} {s s' : St} (hR : isR o = true) (hy : YieldQ P tt ops o v s) (hr : ∀ n ∈ o.looksAt ops, s.regs[n]? = s'.regs[n]?) (hd : s'.has o.dst ↔ s.has o.dst) : YieldQ P tt ops o v s' := by
  have h1 : YieldQ P tt ops o v ⟨s'.regs, s.heap⟩ := hy.of_same rfl hr (by cases hdst : o.dst <;> simp only [hdst, St.has] at hd ⊢ <;> exact hd)
  obtain ⟨h0, run, g1, g2⟩ := h1
  refine ⟨by cases hdst : o.dst <;> simp only [hdst, St.has] at h0 ⊢ <;> exact h0, run, fun K hk => ?_, ?_⟩
  · rw [guardK_congr (s := s') (s' := ⟨s'.regs, s.heap⟩) (fun n _ => rfl)]; exact g1 K hk
  · cases run with
    | false => exact g2
    | true => exact fun K hk => opQ_R hR (g2 K hk)

theorem stepF_putS {tt : TT} {ops : Array Oper} {n j : Nat} {oi oj : Oper} {v : PV} (hj : ops[j]? = some oj) (hn : isQ n j oj = false) (hf : isG n j oj = false) (hS : isS n oj = true) (hR : isR oi = true) (hap : oi.apart ops oj = true) {K : St → Prop} (hy : YieldQ P tt ops oi v s) (h : stepF P tt ops n j K (s.put oi.dst v)) :
    stepF P tt ops n j (fun s' => YieldQ P tt ops oi v s' ∧ K (s'.put oi.dst v)) s := by
  obtain ⟨h1, h2, h3⟩ := Oper.apart_spec hap
  have hregs : ∀ m ∈ oj.looksAt ops, (s.put oi.dst v).regs[m]? = s.regs[m]? := fun m hm => St.put_get fun e he => fun e2 => h1 e he (e2 ▸ hm)
  unfold stepF at h ⊢
  simp only [hj] at h ⊢
  obtain ⟨run, g1, g2⟩ := guardK_ex _ h
  rw [guardK_congr hregs] at g2
  refine g2 _ ?_
  have hput : ∀ {u : PV} {t : St}, t.regs = s.regs → putK oj.dst u (⟨(s.put oi.dst v).regs, t.heap⟩ : St) K → putK oj.dst u t (fun s' => YieldQ P tt ops oi v s' ∧ K (s'.put oi.dst v)) := fun {u t} ht hk => by
    rw [putK_iff] at hk ⊢
    have e : (⟨(s.put oi.dst v).regs, t.heap⟩ : St) = t.put oi.dst v := by
      cases hd : oi.dst <;> simp only [St.put, hd, ← ht]
    rw [e] at hk
    refine ⟨(St.has_put (d := oi.dst) (v := v)).1 hk.1, ?_, ?_⟩
    · refine hy.heap hR (fun m hm => ?_) ?_
      · rw [St.put_get (fun e he => fun e2 => h3 e he (e2 ▸ hm)), ht]
      · rw [St.has_put]
        cases hd : oi.dst <;> simp only [St.has, ht]
    · rw [← St.put_comm h2]; exact hk.2
  cases run with
  | false =>
    simp only at g1 ⊢
    exact hput rfl (by rw [← St.put_heap s oi.dst v]; exact g1)
  | true =>
    simp only [hn, hf, hS] at g1 ⊢
    obtain ⟨_, H, q1, q2⟩ := opS_ex g1
    exact q2 s _ (fun m hm => hregs m (mem_looks hm)) (St.put_heap s oi.dst v).symm (hput (t := ⟨s.regs, H⟩) rfl q1)

/-! ### operations that change the references in all registers alike -/
theorem killK_ex {k : Nat} {s : St} {K : St → Prop} (h : killK k s K) : ∃ (F : PV → PV) (H : Heap), K ⟨s.regs.map F, H⟩ ∧ ∀ (s1 : St) (K1 : St → Prop), s1.heap = s.heap → K1 ⟨s1.regs.map F, H⟩ → killK k s1 K1 := by
  unfold killK at h
  cases hf : find s.heap k with
  | none =>
    simp only [hf] at h
    refine ⟨fun x => x, s.heap, by rw [List.map_id']; exact h, fun s1 K1 e h1 => ?_⟩
    unfold killK
    rw [e, hf]
    rw [List.map_id', ← e] at h1
    exact h1
  | some o =>
    simp only [hf, force_eq] at h
    refine ⟨_, _, h, fun s1 K1 e h1 => ?_⟩
    unfold killK
    simp only [e, hf, force_eq]
    exact h1
theorem newK_ex {k : Nat} {o : Ob} {s : St} {K : St → Prop} (h : newK k o s K) : ∃ (F : PV → PV) (H : Heap), K ⟨s.regs.map F, H⟩ ∧ ∀ (s1 : St) (K1 : St → Prop), s1.heap = s.heap → K1 ⟨s1.regs.map F, H⟩ → newK k o s1 K1 := by
  unfold newK at h
  cases hp : pinK k with
  | true => simp only [hp] at h
  | false =>
    simp only [hp, forceH_eq] at h
    obtain ⟨F, H, h1, h2⟩ := killK_ex h
    refine ⟨F, ins k o H, h1, fun s1 K1 e hk => ?_⟩
    unfold newK
    simp only [hp, forceH_eq]
    exact h2 s1 _ e hk
theorem killnew_ex {k k2 : Nat} {o : Ob} {s : St} {K : St → Prop} (h : killK k s fun s => newK k2 o s K) : ∃ (F : PV → PV) (H : Heap), K ⟨s.regs.map F, H⟩ ∧ ∀ (s1 : St) (K1 : St → Prop), s1.heap = s.heap → K1 ⟨s1.regs.map F, H⟩ → killK k s1 fun s => newK k2 o s K1 := by
  obtain ⟨F, H, h1, h2⟩ := killK_ex h
  obtain ⟨G, H2, h3, h4⟩ := newK_ex h1
  refine ⟨fun x => G (F x), H2, by rw [List.map_map] at h3; exact h3, fun s1 K1 e hk => h2 s1 _ e (h4 ⟨s1.regs.map F, H⟩ K1 rfl ?_)⟩
  rw [List.map_map]; exact hk
theorem killkill_ex {k k2 k3 : Nat} {o : Ob} {s : St} {K : St → Prop} (h : killK k3 s fun s => killK k s fun s => newK k2 o s K) : ∃ (F : PV → PV) (H : Heap), K ⟨s.regs.map F, H⟩ ∧ ∀ (s1 : St) (K1 : St → Prop), s1.heap = s.heap → K1 ⟨s1.regs.map F, H⟩ → killK k3 s1 fun s => killK k s fun s => newK k2 o s K1 := by
  obtain ⟨F, H, h1, h2⟩ := killK_ex h
  obtain ⟨G, H2, h3, h4⟩ := killnew_ex h1
  refine ⟨fun x => G (F x), H2, by rw [List.map_map] at h3; exact h3, fun s1 K1 e hk => h2 s1 _ e (h4 ⟨s1.regs.map F, H⟩ K1 rfl ?_)⟩
  rw [List.map_map]; exact hk

def Alike (A : St → (PV → St → Prop) → Prop) : Prop := ∀ (s : St) (K : PV → St → Prop), A s K → ∃ (F : PV → PV) (u : PV) (H : Heap), K u ⟨s.regs.map F, H⟩ ∧ ∀ (s1 : St) (K1 : PV → St → Prop), s1.heap = s.heap → K1 u ⟨s1.regs.map F, H⟩ → A s1 K1

theorem appendZ_alike {t : TI} {k : Nat} {v u : PV} : Alike fun s K => appendZ t k s v u K := fun s K h => by
  unfold appendZ at h
  split at h
  · rename_i sz bytes z zs sz' hsl hez
    unfold intIx at h
    split at h
    · rename_i kk n
      split at h
      · rename_i hb
        obtain ⟨F, H, h1, h2⟩ := newK_ex h.b
        refine ⟨F, _, H, h1, fun s1 K1 e hk => ?_⟩
        have h3 := h2 s1 _ e hk
        simp only [hez] at h3
        simp only [appendZ, hsl, hez, intIx, hb]
        exact ⟨h.a, h3⟩
      · exact h.elim
    · exact h.elim
  · exact h.elim
theorem appendM_alike {t t2 : TI} {k2 : Nat} {x y : PV} : Alike fun s K => appendM t t2 k2 s x y K := fun s K h => by
  unfold appendM at h
  split at h
  · rename_i sz bytes hsl hok
    obtain ⟨es, h, hes⟩ := rowsOf_ex h
    split at h
    · split at h
      · rename_i hb
        obtain ⟨F, H, h1, h2⟩ := newK_ex h.b
        refine ⟨F, _, H, h1, fun s1 K1 e hk => ?_⟩
        simp only [appendM, hsl, hok, e]
        refine hes _ ?_
        simp only [hb]
        exact ⟨h.a, h2 s1 _ e hk⟩
      · exact h.elim
    · split at h
      · rename_i hf
        split at h
        · rename_i hb
          obtain ⟨F, H, h1, h2⟩ := killnew_ex h.b
          refine ⟨F, _, H, h1, fun s1 K1 e hk => ?_⟩
          simp only [appendM, hsl, hok, e]
          refine hes _ ?_
          simp only [hf, hb]
          exact ⟨h.a, h2 s1 _ e hk⟩
        · exact h.elim
      · exact h.elim
    · split at h
      · rename_i hf
        split at h
        · rename_i hb
          obtain ⟨F, H, h1, h2⟩ := killnew_ex h.b
          refine ⟨F, _, H, h1, fun s1 K1 e hk => ?_⟩
          simp only [appendM, hsl, hok, e]
          refine hes _ ?_
          simp only [hf, hb]
          exact ⟨h.a, h2 s1 _ e hk⟩
        · exact h.elim
      · exact h.elim
    · split at h
      · rename_i hf
        split at h
        · rename_i hb
          obtain ⟨F, H, h1, h2⟩ := killnew_ex h.b
          refine ⟨F, _, H, h1, fun s1 K1 e hk => ?_⟩
          simp only [appendM, hsl, hok, e]
          refine hes _ ?_
          simp only [hf, hb]
          exact ⟨h.a, h2 s1 _ e hk⟩
        · exact h.elim
      · exact h.elim
    · exact h.elim
  · exact h.elim
theorem appendD_alike {t : TI} {k2 k ky : Nat} : Alike fun s K => appendD t k2 s k ky K := fun s K h => by
  unfold appendD at h
  split at h
  · rename_i sz bytes hsl
    split at h
    · rename_i sz1 rows a sz2 es h1 h2 h3
      split at h
      · rename_i h4 h5
        obtain ⟨F, H, g1, g2⟩ := killkill_ex h.b
        refine ⟨F, _, H, g1, fun s1 K1 e hk => ?_⟩
        simp only [appendD, hsl, e, h1, h2, h3, h4, h5]
        exact ⟨h.a, g2 s1 _ e hk⟩
      · exact h.elim
    · exact h.elim
  · exact h.elim
theorem appendT_alike {t t2 : TI} {k a r j : Nat} {u : PV} : Alike fun s K => appendT t t2 k s a r j u K := fun s K h => by
  unfold appendT at h
  split at h
  · rename_i sz bytes hsl hok
    obtain ⟨es, h, hes⟩ := rowsOf_ex h
    split at h
    · rename_i ap sz1 rows hf1 hf2 hp
      obtain ⟨p, hpp, h⟩ := h
      have hb := h.b
      simp only [forceH_eq] at hb
      refine ⟨fun x => x, _, _, by rw [List.map_id']; exact hb, fun s1 K1 e hk => ?_⟩
      simp only [appendT, hsl, hok, e]
      refine hes _ ?_
      simp only [hf1, hf2, hp]
      refine ⟨p, hpp, h.a, ?_⟩
      simp only [forceH_eq, e]
      rw [List.map_id'] at hk
      exact hk
    · exact h.elim
  · exact h.elim
theorem appendA_alike {t t2 : TI} {k : Nat} {v u : PV} : Alike fun s K => appendA t t2 k s v u K := fun s K h => by
  unfold appendA at h
  split at h
  · rename_i a b
    split at h
    · rename_i hok
      obtain ⟨F, w, H, h1, h2⟩ := appendD_alike s K h
      refine ⟨F, w, H, h1, fun s1 K1 e hk => ?_⟩
      simp only [appendA, hok]
      exact h2 s1 K1 e hk
    · exact h.elim
  · obtain ⟨F, w, H, h1, h2⟩ := appendT_alike s K h
    refine ⟨F, w, H, h1, fun s1 K1 e hk => ?_⟩
    simp only [appendA]
    exact h2 s1 K1 e hk
  · rename_i n1 n2
    obtain ⟨F, w, H, h1, h2⟩ := appendM_alike s K h
    refine ⟨F, w, H, h1, fun s1 K1 e hk => ?_⟩
    unfold appendA
    split
    · first | exact (n2 _ _ rfl rfl).elim | exact (n1 _ _ rfl rfl).elim
    · first | exact (n1 _ _ _ rfl).elim | exact (n2 _ _ _ rfl).elim
    · exact h2 s1 K1 e hk

theorem opA_ex {tt : TT} {o : Oper} {K : PV → St → Prop} (hA : isA o = true) (h : opM P tt s o K) : ∃ (F : PV → PV) (u : PV) (H : Heap), K u ⟨s.regs.map F, H⟩ ∧ ∀ (s1 : St) (K1 : PV → St → Prop), (∀ n, Operand.tmp n ∈ o.op.operands → s.regs[n]? = s1.regs[n]?) → s1.heap = s.heap → K1 u ⟨s1.regs.map F, H⟩ → opM P tt s1 o K1 := by
  unfold isA at hA
  split at hA
  · rename_i c hop
    split at hA
    · rename_i b hcal
      split at hA
      · simp only [opM, hop, hcal, restM] at h
        split at h
        · rename_i x y t t2 hargs hts
          unfold dstK at h
          split at h
          · rename_i d hd
            obtain ⟨v, h, hv⟩ := ex_opd _ _ _ _ h
            obtain ⟨u, h, hu⟩ := ex_opd _ _ _ _ h
            have mk : ∀ {s1 : St} {K1 : PV → St → Prop}, (∀ n, Operand.tmp n ∈ o.op.operands → s.regs[n]? = s1.regs[n]?) → (match (tt t2).ik with
                | some _ => appendZ (tt t) (64 * d) s1 v u K1
                | none => appendA (tt t) (tt t2) (64 * d) s1 v u K1) → opM P tt s1 o K1 := fun {s1 K1} hr hm => by
              simp only [opM, hop, hcal, restM, hargs, hts]
              unfold dstK
              rw [hd]
              simp only
              have hmx : ∀ z : Operand, z ∈ [x, y] → ∀ n, z = .tmp n → s.regs[n]? = s1.regs[n]? := fun z hz n hn => hr n (by
                subst hn
                have hz : Operand.tmp n ∈ c.args := by rw [← Array.mem_toList_iff, hargs]; exact hz
                simp only [hop, Op.operands, Call.operands, hcal]
                simp [hz])
              rw [← opd_congr (x := x) (r := s.regs) (r' := s1.regs) (fun n hn => hmx x (by simp) n hn) (tt t)]
              refine hv _ ?_
              rw [← opd_congr (x := y) (r := s.regs) (r' := s1.regs) (fun n hn => hmx y (by simp) n hn) (tt t2)]
              exact hu _ hm
            cases hik : (tt t2).ik with
            | some z =>
              simp only [hik] at h
              obtain ⟨F, w, H, h1, h2⟩ := appendZ_alike s K h
              exact ⟨F, w, H, h1, fun s1 K1 hr e hk => mk hr (by simp only [hik]; exact h2 s1 K1 e hk)⟩
            | none =>
              simp only [hik] at h
              obtain ⟨F, w, H, h1, h2⟩ := appendA_alike s K h
              exact ⟨F, w, H, h1, fun s1 K1 hr e hk => mk hr (by simp only [hik]; exact h2 s1 K1 e hk)⟩
          · exact h.elim
        · exact h.elim
      · cases hA
    · cases hA
  · cases hA

theorem stepF_putA {tt : TT} {ops : Array Oper} {n j : Nat} {oi oj : Oper} {v : PV} (hj : ops[j]? = some oj) (hn : isQ n j oj = false) (hf : isG n j oj = false) (hS : isS n oj = false) (hA : isA oj = true) (hM : isMv oi = true) (hap : oi.apart ops oj = true) {K : St → Prop} (hy : YieldQ P tt ops oi v s) (h : stepF P tt ops n j K (s.put oi.dst v)) :
    stepF P tt ops n j (fun s' => ∃ v', YieldQ P tt ops oi v' s' ∧ K (s'.put oi.dst v')) s := by
  obtain ⟨h1, h2, h3⟩ := Oper.apart_spec hap
  obtain ⟨m, hop, hg⟩ : ∃ m, oi.op = .move (.tmp m) ∧ oi.guard = none := by
    unfold isMv at hM
    split at hM
    · rename_i m hop; exact ⟨m, hop, by simpa using hM⟩
    · cases hM
  have hyv : s.regs[m]? = some v := by
    obtain ⟨_, run, g1, g2⟩ := hy
    cases run with
    | false => have := g1 (fun b => b = false) rfl; simp [guardK, hg] at this
    | true =>
      have := g2 (fun w => w = v) rfl
      simp only [opQ, hop, opd, look_iff] at this
      obtain ⟨w, q1, q2⟩ := this
      rw [q1, q2]
  have hyld : ∀ {t : St} {w : PV}, t.has oi.dst → t.regs[m]? = some w → YieldQ P tt ops oi w t := fun {t w} ht hw =>
    ⟨ht, true, fun K hk => by simp only [guardK, hg]; exact hk, fun K hk => by simp only [opQ, hop, opd, look_iff]; exact ⟨w, hw, hk⟩⟩
  have hmo : ∀ e, oj.dst = some e → e ≠ m := fun e he e2 => h3 e he (by
    rw [e2]
    exact mem_looks (by rw [hop]; simp [Op.operands]))
  have hregs : ∀ m ∈ oj.looksAt ops, (s.put oi.dst v).regs[m]? = s.regs[m]? := fun m hm => St.put_get fun e he => fun e2 => h1 e he (e2 ▸ hm)
  unfold stepF at h ⊢
  simp only [hj] at h ⊢
  obtain ⟨run, g1, g2⟩ := guardK_ex _ h
  rw [guardK_congr hregs] at g2
  refine g2 _ ?_
  have hput : ∀ {u : PV} {F : PV → PV} {H : Heap}, putK oj.dst u (⟨(s.put oi.dst v).regs.map F, H⟩ : St) K → putK oj.dst u (⟨s.regs.map F, H⟩ : St) (fun s' => ∃ v', YieldQ P tt ops oi v' s' ∧ K (s'.put oi.dst v')) := fun {u F H} hk => by
    rw [putK_iff] at hk ⊢
    have e : (⟨(s.put oi.dst v).regs.map F, H⟩ : St) = (⟨s.regs.map F, H⟩ : St).put oi.dst (F v) := by
      cases hd : oi.dst with
      | none => simp only [St.put]
      | some d => simp only [St.put, List.map_set]
    rw [e] at hk
    refine ⟨(St.has_put (d := oi.dst) (v := F v)).1 hk.1, F v, hyld ?_ ?_, ?_⟩
    · rw [St.has_put]
      have := hy.1
      cases hd : oi.dst with
      | none => trivial
      | some d => simp only [hd, St.has, List.length_map] at this ⊢; exact this
    · rw [St.put_get (fun e he => hmo e he)]
      simp only [List.getElem?_map, hyv, Option.map_some]
    · rw [← St.put_comm h2]; exact hk.2
  cases run with
  | false =>
    simp only at g1 ⊢
    have e1 : s.put oi.dst v = ⟨(s.put oi.dst v).regs.map fun x => x, s.heap⟩ := by rw [List.map_id', ← St.put_heap s oi.dst v]
    have e2 : s = ⟨s.regs.map fun x => x, s.heap⟩ := by rw [List.map_id']
    rw [e1] at g1
    have := hput g1
    rw [← e2] at this
    exact this
  | true =>
    simp only [hn, hf, hS] at g1 ⊢
    obtain ⟨F, u, H, q1, q2⟩ := opA_ex hA g1
    exact q2 s _ (fun m hm => hregs m (mem_looks hm)) (St.put_heap s oi.dst v).symm (hput q1)

def YieldF (P : Program) (tt : TT) (o : Oper) (u : PV) (N : Heap) (s : St) : Prop :=
  s.has o.dst ∧ FreshN N s.heap ∧ ∀ (s' : St) (K' : PV → St → Prop), (∀ n, Operand.tmp n ∈ o.op.operands → s.regs[n]? = s'.regs[n]?) → FreshN N s'.heap → K' u ⟨s'.regs, insAll N s'.heap⟩ → opF P tt s' o K'
def St.putF (s : St) (d : Option Nat) (u : PV) (N : Heap) : St := (⟨s.regs, insAll N s.heap⟩ : St).put d u

theorem guard_none {ops : List Oper} {o : Oper} (hg : o.guard.isNone = true) {s : St} {K : Bool → Prop} : guardK ops o s K ↔ K true := by
  unfold guardK
  cases hgo : o.guard with
  | none => exact Iff.rfl
  | some x => rw [hgo] at hg; cases hg

theorem yieldF_of_step {tt : TT} {ops : Array Oper} {n i : Nat} {o : Oper} {K : St → Prop} (hi : ops[i]? = some o) (hq : isQ n i o = false) (hf : isG n i o = true) (hg : o.guard.isNone = true) (h : stepF P tt ops n i K s) : ∃ u N, YieldF P tt o u N s ∧ K (s.putF o.dst u N) := by
  unfold stepF at h
  simp only [hi] at h
  rw [guard_none hg] at h
  simp only [hq, hf] at h
  obtain ⟨u, N, h1, h2, h3⟩ := opF_ex h
  rw [putK_iff] at h2
  exact ⟨u, N, ⟨by cases hd : o.dst <;> simp only [hd, St.has] at h2 ⊢ <;> exact h2.1, h1, h3⟩, h2.2⟩
theorem YieldF.step {tt : TT} {ops : Array Oper} {n i : Nat} {o : Oper} {u : PV} {N : Heap} {K : St → Prop} (hi : ops[i]? = some o) (hq : isQ n i o = false) (hf : isG n i o = true) (hg : o.guard.isNone = true) (hy : YieldF P tt o u N s) (h : K (s.putF o.dst u N)) : stepF P tt ops n i K s := by
  unfold stepF
  simp only [hi]
  rw [guard_none hg]
  simp only [hq, hf]
  refine hy.2.2 s _ (fun _ _ => rfl) hy.2.1 (putK_iff.2 ⟨?_, h⟩)
  have := hy.1
  cases hd : o.dst <;> simp only [hd, St.has] at this ⊢ <;> exact this

theorem stepF_putF {tt : TT} {ops : Array Oper} {n j : Nat} {oi oj : Oper} {u : PV} {N : Heap} (hj : ops[j]? = some oj) (hn : isQ n j oj = false) (hf : isG n j oj = true) (hgj : oj.guard.isNone = true) (hap : oi.apart ops oj = true) {K : St → Prop} (hy : YieldF P tt oi u N s) (h : stepF P tt ops n j K (s.putF oi.dst u N)) :
    stepF P tt ops n j (fun s' => YieldF P tt oi u N s' ∧ K (s'.putF oi.dst u N)) s := by
  obtain ⟨h1, h2, h3⟩ := Oper.apart_spec hap
  obtain ⟨u2, N2, hy2, hk⟩ := yieldF_of_step hj hn hf hgj h
  have hh : (s.putF oi.dst u N).heap = insAll N s.heap := by unfold St.putF; rw [St.put_heap]
  have hk2 := hy2.2.1
  rw [hh] at hk2
  have hdis : ∀ k o, find N2 k = some o → find N k = none ∧ find s.heap k = none := fun k o h => by
    have := hk2.2 k o h
    rw [find_insAll k hy.2.1] at this
    cases e : find N k with
    | none => rw [e] at this; exact ⟨rfl, this⟩
    | some o' => rw [e] at this; cases this
  have hdis2 : ∀ k o, find N k = some o → find N2 k = none := fun k o h => by
    cases e : find N2 k with
    | none => rfl
    | some o' => have := (hdis k o' e).1; rw [h] at this; cases this
  have hk3 : FreshN N2 s.heap := ⟨hk2.1, fun k o h => (hdis k o h).2⟩
  have hregs : ∀ m ∈ oj.looksAt ops, (s.putF oi.dst u N).regs[m]? = s.regs[m]? := fun m hm => by
    unfold St.putF
    rw [St.put_get fun e he => fun e2 => h1 e he (e2 ▸ hm)]
  have hy2' : YieldF P tt oj u2 N2 s := ⟨by
      have := hy2.1
      unfold St.putF at this
      rw [St.has_put] at this
      cases hd : oj.dst <;> simp only [hd, St.has] at this ⊢ <;> exact this, hk3, fun s' K' hr hf' hK => hy2.2.2 s' K' (fun m hm => (hregs m (mem_looks hm)).trans (hr m hm)) hf' hK⟩
  refine hy2'.step hj hn hf hgj ⟨⟨?_, ?_, fun s' K' hr hf' hK => hy.2.2 s' K' (fun m hm => ?_) hf' hK⟩, ?_⟩
  · unfold St.putF
    rw [St.has_put]
    have := hy.1
    cases hd : oi.dst <;> simp only [hd, St.has] at this ⊢ <;> exact this
  · unfold St.putF
    rw [St.put_heap]
    refine ⟨hy.2.1.1, fun k o h => ?_⟩
    show find (insAll N2 s.heap) k = none
    rw [find_insAll k hk3, hdis2 k o h]
    exact hy.2.1.2 k o h
  · refine Eq.trans ?_ (hr m hm)
    unfold St.putF
    rw [St.put_get fun e he => fun e2 => h3 e he (e2 ▸ mem_looks hm)]
  · have e : (s.putF oj.dst u2 N2).putF oi.dst u N = (s.putF oi.dst u N).putF oj.dst u2 N2 := by
      unfold St.putF
      have e1 : ∀ (t : St) (d : Option Nat) (v : PV) (H : Heap), (⟨(t.put d v).regs, H⟩ : St) = (⟨t.regs, H⟩ : St).put d v := fun t d v H => by cases d <;> rfl
      rw [e1, e1, St.put_heap, St.put_heap, ← St.put_comm h2, insAll_comm hdis2]
    rw [e]; exact hk

/-! ### what waits for what -/
inductive Dep (ops : Array Oper) : Nat → Nat → Prop
  | one {j i : Nat} {oj : Oper} (h : ops[j]? = some oj) (hw : waitsFor oj i = true) : Dep ops j i
  | via {j l i : Nat} {oj : Oper} (h : ops[j]? = some oj) (hw : waitsFor oj l = true) (hd : Dep ops l i) : Dep ops j i

theorem depsOf_waits {o : Oper} {i : Nat} (h : i ∈ depsOf o) : waitsFor o i = true := by
  obtain ⟨e, he, h⟩ := List.mem_filterMap.1 h
  split at h
  · rename_i hb
    cases h
    exact Array.any_eq_true'.2 ⟨e, by simpa using he, by simp [hb]⟩
  · cases h

theorem clos_dep {ops : Array Oper} : ∀ {r : List Oper} {acc : List (List Nat)}, (∀ j, r[j]? = ops[acc.length + j]?) → (∀ j i, i ∈ acc.getD j [] → Dep ops j i) → ∀ j i, i ∈ (clos r acc).getD j [] → Dep ops j i
  | [], acc, _, h => h
  | o :: r, acc, hr, h => by
    refine clos_dep (r := r) (acc := acc ++ [dedup (depsOf o ++ (depsOf o).flatMap fun d => acc.getD d [])]) (fun j => ?_) (fun j i hi => ?_)
    · have := hr (j + 1)
      rw [List.length_append, List.length_singleton, show acc.length + 1 + j = acc.length + (j + 1) by omega]
      simpa using this
    · have ho : ops[acc.length]? = some o := by simpa using (hr 0).symm
      rw [List.getD_eq_getElem?_getD] at hi
      by_cases hj : j < acc.length
      · rw [List.getElem?_append_left hj, ← List.getD_eq_getElem?_getD] at hi
        exact h j i hi
      · by_cases e : j = acc.length
        · subst e
          rw [List.getElem?_append_right (Nat.le_refl _), Nat.sub_self] at hi
          simp only [List.getElem?_cons_zero, Option.getD_some] at hi
          rcases List.mem_append.1 (dedup_mem.1 hi) with hi | hi
          · exact .one ho (depsOf_waits hi)
          · obtain ⟨l, hl, hi⟩ := List.mem_flatMap.1 hi
            exact .via ho (depsOf_waits hl) (h l i hi)
        · rw [List.getElem?_eq_none (by simp; omega)] at hi
          simp at hi

def Closed (ops : Array Oper) (listed : Array Bool) : Prop := ∀ j i, listed.getD j true = true → j < ops.size → Dep ops j i → listed.getD i true = true
theorem ready_dep {ops : Array Oper} {listed : Array Bool} (hc : Closed ops listed) {j i : Nat} (hj : j ∈ Region.ready .any ops listed) (hd : Dep ops j i) : listed.getD i true = true := by
  obtain ⟨_, oj, hoj, hall⟩ := mem_ready.1 hj
  have key : ∀ {l : Nat}, waitsFor oj l = true → listed.getD l true = true := fun {l} hw => by
    unfold waitsFor at hw
    obtain ⟨e, he, hb⟩ := Array.any_eq_true'.1 hw
    simp only [Bool.and_eq_true, beq_iff_eq] at hb
    have h1 := hall e he hb.1
    rw [hb.2] at h1
    rcases Nat.lt_or_ge l listed.size with h | h
    · simp only [Array.getD_eq_getD_getElem?, Array.getElem?_eq_getElem h, Option.getD_some] at h1 ⊢; exact h1
    · simp [Array.getD_eq_getD_getElem?, Array.getElem?_eq_none h]
  cases hd with
  | one h hw => rw [hoj] at h; cases h; exact key hw
  | via h hw hd =>
    rw [hoj] at h; cases h
    rename_i l
    have hl := key hw
    rcases Nat.lt_or_ge l ops.size with hlt | hge
    · exact hc l i hl hlt hd
    · cases hd with
      | one h _ => rw [Array.getElem?_eq_none hge] at h; cases h
      | via h _ _ => rw [Array.getElem?_eq_none hge] at h; cases h
theorem Closed.add {ops : Array Oper} {listed : Array Bool} (hc : Closed ops listed) {k : Nat} (hk : k ∈ Region.ready .any ops listed) : Closed ops (listed.setIfInBounds k true) := fun j i hj hlt hd => by
  have up : ∀ {i : Nat}, listed.getD i true = true → (listed.setIfInBounds k true).getD i true = true := fun {i} h => by
    by_cases e : k = i
    · subst e
      rcases Nat.lt_or_ge k listed.size with h2 | h2
      · simp [Array.getD_eq_getD_getElem?, h2]
      · simp [Array.getD_eq_getD_getElem?, Array.getElem?_eq_none (xs := listed.setIfInBounds k true) (i := k) (by simpa using h2)]
    · rw [getD_set_ne true e]; exact h
  by_cases e : k = j
  · subst e; exact up (ready_dep hc hk hd)
  · rw [getD_set_ne true e] at hj
    exact up (hc j i hj hlt hd)

variable (P) in
def anyF (tt : TT) (ops : Array Oper) (n : Nat) (K : St → Prop) : Nat → Array Bool → St → Prop
  | 0, listed, s => Region.ready .any ops listed = [] ∧ K s
  | f + 1, listed, s => (Region.ready .any ops listed = [] → K s) ∧ ∀ i ∈ Region.ready .any ops listed, stepF P tt ops n i (anyF tt ops n K f (listed.setIfInBounds i true)) s

theorem wpAny_of_anyF {tt : TT} (hT : TOK P tt) {ops : Array Oper} {n : Nat} {Q : Exit → Act → World → Prop} {K : St → Prop} (hQ : True) (hK : ∀ s' a' w' L' I', K s' → Inv C L' I' s' a' w' → Q .normal a' w') :
    ∀ (f : Nat) (listed : Array Bool) (s : St) (a : Act) (w : World) (L : Lay) (I : Nat → Prop), anyF P tt ops n K f listed s → Inv C L I s a w → wpAny P .any ops Q f listed a w
  | 0, listed, s, a, w, L, I, h, hi => ⟨h.1, hK s a w L I h.2 hi⟩
  | f + 1, listed, s, a, w, L, I, h, hi => by
    refine ⟨fun h0 => hK s a w L I (h.1 h0) hi, fun i hm => ?_⟩
    have h := h.2 i hm
    unfold stepF at h
    unfold wpOp
    split at h
    · rename_i ho
      simp only [ho]
      exact wpAny_of_anyF hT hQ hK f _ s a w L I h hi
    · rename_i o ho
      simp only [ho]
      obtain ⟨run, h, hw⟩ := guardK_sound hi h
      rw [hw]
      split at h
      · simp only [if_true]
        obtain ⟨pv, h, hg⟩ := opQ_sound hT hi h
        refine hg _ Q hQ fun v w' I' hi' hv => ?_
        obtain ⟨s2, h2, hi2⟩ := hi'.put h hv
        exact wpAny_of_anyF hT hQ hK f _ _ _ _ _ _ h2 hi2
      · simp only [if_true]
        obtain ⟨pv, s', h, hg⟩ := opM_sound hT hi (opM_of_F h)
        refine hg _ Q hQ fun v w' I' L' hi' hv => ?_
        obtain ⟨s2, h2, hi2⟩ := hi'.put h hv
        exact wpAny_of_anyF hT hQ hK f _ _ _ _ _ _ h2 hi2
      · simp only [if_true]
        have h : opM P tt s o fun v s => putK o.dst v s (anyF P tt ops n K f (listed.setIfInBounds i true)) := by
          split at h
          · exact opM_of_S h
          · exact h
        obtain ⟨pv, s', h, hg⟩ := opM_sound hT hi h
        refine hg _ Q hQ fun v w' I' L' hi' hv => ?_
        obtain ⟨s2, h2, hi2⟩ := hi'.put h hv
        exact wpAny_of_anyF hT hQ hK f _ _ _ _ _ _ h2 hi2
      · simp only [Bool.false_eq_true, if_false]
        obtain ⟨s2, h2, hi2⟩ := hi.put (v := undef) h rfl
        exact wpAny_of_anyF hT hQ hK f _ _ _ _ _ _ h2 hi2

theorem anyF_first {tt : TT} {ops : Array Oper} {n : Nat} {K : St → Prop} {i : Nat} {oi : Oper} (hi : ops[i]? = some oi) (hin : isQ n i oi = true) :
    ∀ (f : Nat) (listed : Array Bool) (s : St) (v : PV), Closed ops listed →
      (∀ j oj, ops[j]? = some oj → j ≠ i → listed.getD j true = false → ¬ Dep ops j i → (isQ n j oj = true ∨ isG n j oj = true ∨ (isR oi = true ∧ isS n oj = true) ∨ (isMv oi = true ∧ isA oj = true)) ∧ oi.apart ops oj = true) →
      i ∈ Region.ready .any ops listed → YieldQ P tt ops oi v s →
      anyF P tt ops n K f (listed.setIfInBounds i true) (s.put oi.dst v) → anyF P tt ops n K (f + 1) listed s := by
  intro f
  induction f with
  | zero =>
    intro listed s v _ _ hr hy H
    refine ⟨fun h => (by rw [h] at hr; cases hr), fun j hj => ?_⟩
    by_cases hji : j = i
    · subst hji; exact (stepF_Q hi hin).2 (hy.step hi (isQ_lt hin) H)
    · have := ready_mono hj hji
      rw [H.1] at this
      cases this
  | succ f ih =>
    intro listed s v hcl hfree hr hy H
    refine ⟨fun h => (by rw [h] at hr; cases hr), fun j hj => ?_⟩
    by_cases hji : j = i
    · subst hji; exact (stepF_Q hi hin).2 (hy.step hi (isQ_lt hin) H)
    · have h1 := H.2 j (ready_mono hj hji)
      obtain ⟨hjun, oj, hoj, hall⟩ := mem_ready.1 hj
      have hnot : ¬ Dep ops j i := fun hd => by
        have := ready_dep hcl hj hd
        rw [(mem_ready.1 hr).1] at this; cases this
      obtain ⟨hjn, hap⟩ := hfree j oj hoj hji hjun hnot
      have h2 : stepF P tt ops n j (fun s' => ∃ v', YieldQ P tt ops oi v' s' ∧ anyF P tt ops n K f ((listed.setIfInBounds i true).setIfInBounds j true) (s'.put oi.dst v')) s := by
        have one : stepF P tt ops n j (fun s' => YieldQ P tt ops oi v s' ∧ anyF P tt ops n K f ((listed.setIfInBounds i true).setIfInBounds j true) (s'.put oi.dst v)) s → stepF P tt ops n j (fun s' => ∃ v', YieldQ P tt ops oi v' s' ∧ anyF P tt ops n K f ((listed.setIfInBounds i true).setIfInBounds j true) (s'.put oi.dst v')) s := stepF_mono fun s' h => ⟨v, h⟩
        cases hq : isQ n j oj with
        | true => exact one ((stepF_Q hoj hq).2 (step_put hoj (isQ_lt hq) hap hy ((stepF_Q hoj hq).1 h1)))
        | false =>
          cases hf : isG n j oj with
          | true => exact one (stepF_put hoj hq hf hap hy h1)
          | false =>
            rcases hjn with hjn | hjn | hjn | hjn
            · rw [hq] at hjn; cases hjn
            · rw [hf] at hjn; cases hjn
            · exact one (stepF_putS hoj hq hf hjn.2 hjn.1 hap hy h1)
            · cases hS : isS n oj with
              | true =>
                exact one (stepF_putS hoj hq hf hS (by
                  have := hjn.1
                  unfold isMv at this
                  split at this
                  · rename_i m hop; unfold isR; rw [hop]
                  · cases this) hap hy h1)
              | false => exact stepF_putA hoj hq hf hS hjn.2 hjn.1 hap hy h1
      have hfree' : ∀ k ok, ops[k]? = some ok → k ≠ i → (listed.setIfInBounds j true).getD k true = false → ¬ Dep ops k i → (isQ n k ok = true ∨ isG n k ok = true ∨ (isR oi = true ∧ isS n ok = true) ∨ (isMv oi = true ∧ isA ok = true)) ∧ oi.apart ops ok = true := fun k ok hk hki hun hno => by
        refine hfree k ok hk hki ?_ hno
        by_cases hjk : j = k
        · subst hjk; exact hjun
        · rw [getD_set_ne true hjk] at hun; exact hun
      refine stepF_mono (fun s' ⟨v', h3⟩ => ih (listed.setIfInBounds j true) s' v' (hcl.add hj) hfree' (ready_mono hr (Ne.symm hji)) h3.1 ?_) h2
      rw [Array.setIfInBounds_comm _ _ hji]
      exact h3.2

theorem anyF_firstF {tt : TT} {ops : Array Oper} {n : Nat} {K : St → Prop} {i : Nat} {oi : Oper} {u : PV} {N : Heap} (hi : ops[i]? = some oi) (hiq : isQ n i oi = false) (hig : isG n i oi = true) (hgd : oi.guard.isNone = true) :
    ∀ (f : Nat) (listed : Array Bool) (s : St), Closed ops listed →
      (∀ j oj, ops[j]? = some oj → j ≠ i → listed.getD j true = false → ¬ Dep ops j i → isQ n j oj = false ∧ isG n j oj = true ∧ oj.guard.isNone = true ∧ oi.apart ops oj = true) →
      i ∈ Region.ready .any ops listed → YieldF P tt oi u N s →
      anyF P tt ops n K f (listed.setIfInBounds i true) (s.putF oi.dst u N) → anyF P tt ops n K (f + 1) listed s := by
  intro f
  induction f with
  | zero =>
    intro listed s _ _ hr hy H
    refine ⟨fun h => (by rw [h] at hr; cases hr), fun j hj => ?_⟩
    by_cases hji : j = i
    · subst hji; exact hy.step hi hiq hig hgd H
    · have := ready_mono hj hji
      rw [H.1] at this
      cases this
  | succ f ih =>
    intro listed s hcl hfree hr hy H
    refine ⟨fun h => (by rw [h] at hr; cases hr), fun j hj => ?_⟩
    by_cases hji : j = i
    · subst hji; exact hy.step hi hiq hig hgd H
    · have h1 := H.2 j (ready_mono hj hji)
      obtain ⟨hjun, oj, hoj, hall⟩ := mem_ready.1 hj
      have hnot : ¬ Dep ops j i := fun hd => by
        have := ready_dep hcl hj hd
        rw [(mem_ready.1 hr).1] at this; cases this
      obtain ⟨hjq, hjg, hjgd, hap⟩ := hfree j oj hoj hji hjun hnot
      have h2 := stepF_putF hoj hjq hjg hjgd hap hy h1
      have hfree' : ∀ k ok, ops[k]? = some ok → k ≠ i → (listed.setIfInBounds j true).getD k true = false → ¬ Dep ops k i → isQ n k ok = false ∧ isG n k ok = true ∧ ok.guard.isNone = true ∧ oi.apart ops ok = true := fun k ok hk hki hun hno => by
        refine hfree k ok hk hki ?_ hno
        by_cases hjk : j = k
        · subst hjk; exact hjun
        · rw [getD_set_ne true hjk] at hun; exact hun
      refine stepF_mono (fun s' h3 => ih (listed.setIfInBounds j true) s' (hcl.add hj) hfree' (ready_mono hr (Ne.symm hji)) h3.1 ?_) h2
      rw [Array.setIfInBounds_comm _ _ hji]
      exact h3.2

variable (P) in
def lexF (tt : TT) (ops : Array Oper) (n : Nat) (K : St → Prop) : List (Nat × Bool × Oper) → St → Prop
  | [], s => K s
  | x :: r, s => stepF P tt ops n x.1 (lexF tt ops n K r) s

theorem regG_lex {tt : TT} {ops : Array Oper} {n : Nat} {K : St → Prop} : ∀ {σ : List (Nat × Bool × Oper)} {s : St}, (∀ x ∈ σ, ops[x.1]? = some x.2.2 ∧ x.2.1 = isQ n x.1 x.2.2) → regG P tt n ops.toList σ s K → lexF P tt ops n K σ s
  | [], s, _, h => h
  | (i, q, o) :: r, s, hr, h => by
    obtain ⟨ho, hq⟩ := hr _ (List.mem_cons_self ..)
    replace ho : ops[_]? = some o := ho
    replace hq : q = isQ n _ o := hq
    have hr' : ∀ x ∈ r, ops[x.1]? = some x.2.2 ∧ x.2.1 = isQ n x.1 x.2.2 := fun x hx => hr x (List.mem_cons_of_mem _ hx)
    simp only [regG] at h
    simp only [lexF, stepF, ho]
    obtain ⟨run, h1, h2⟩ := guardK_ex _ h
    refine h2 _ ?_
    rw [← hq]
    have fin : ∀ {v : PV} {s' : St}, splitK (isGuard i (r.map (·.2.2))) v (fun v => putK o.dst v s' fun s => regG P tt n ops.toList r s K) → putK o.dst v s' (lexF P tt ops n K r) := fun h => by
      have := splitK_sound h
      rw [putK_iff] at this ⊢
      exact ⟨this.1, regG_lex hr' this.2⟩
    cases run with
    | false => simp only at h1 ⊢; exact putK_iff.2 ⟨(putK_iff.1 h1).1, regG_lex hr' (putK_iff.1 h1).2⟩
    | true =>
      cases q with
      | true => simp only at h1 ⊢; exact (ex_opQ P tt s o).mon _ _ (fun v h => fin h) h1
      | false =>
        cases hf : isG n i o with
        | true =>
          simp only [hf] at h1 ⊢
          obtain ⟨u, N, g1, g2, g3⟩ := opF_ex h1
          exact g3 s _ (fun _ _ => rfl) g1 (fin g2)
        | false =>
          simp only [hf] at h1 ⊢
          cases hS : isS n o with
          | true =>
            simp only [hS] at h1 ⊢
            obtain ⟨_, H, g1, g2⟩ := opS_ex h1
            refine g2 s _ (fun _ _ => rfl) rfl ?_
            rw [putK_iff] at g1 ⊢
            exact ⟨g1.1, regG_lex hr' g1.2⟩
          | false => simp only [hS] at h1 ⊢; exact opM_mono (fun v s' h => fin h) h1

theorem anyF_lex {tt : TT} {ops : Array Oper} {n : Nat} {K : St → Prop} {cl : List (List Nat)} (hcl0 : ∀ j i, i ∈ cl.getD j [] → Dep ops j i) : ∀ {σ : List (Nat × Bool × Oper)} {done : List Nat} {listed : Array Bool} {s : St},
    (∀ x ∈ σ, ops[x.1]? = some x.2.2 ∧ x.2.1 = isQ n x.1 x.2.2) → okG ops n cl done σ = true → (σ.map (·.1)).Nodup → (∀ x ∈ σ, x.1 ∉ done) → (∀ j ∈ done, j < ops.size) → (∀ j, j < ops.size → j ∈ done ∨ j ∈ σ.map (·.1)) → listed.size = ops.size → (∀ j, j < ops.size → (listed.getD j true = true ↔ j ∈ done)) → Closed ops listed →
    lexF P tt ops n K σ s → anyF P tt ops n K σ.length listed s
  | [], done, listed, s, _, _, _, _, _, hall, hsz, hl, _, h => by
    refine ⟨?_, h⟩
    cases hr : Region.ready .any ops listed with
    | nil => rfl
    | cons i l =>
      exfalso
      have hm : i ∈ Region.ready .any ops listed := by rw [hr]; simp
      obtain ⟨hun, o, ho, _⟩ := mem_ready.1 hm
      have hlt : i < ops.size := (Array.getElem?_eq_some_iff.1 ho).1
      have := (hl i hlt).2 (by simpa using hall i hlt)
      rw [hun] at this; cases this
  | (k, q, o) :: r, done, listed, s, hσ, hok, hnd, hfr, hdl, hall, hsz, hl, hcl, h => by
    simp only [okG, Bool.and_eq_true] at hok
    obtain ⟨⟨hok1, hok2⟩, hok3⟩ := hok
    obtain ⟨ho, hq⟩ := hσ _ (List.mem_cons_self ..)
    replace ho : ops[_]? = some o := ho
    replace hq : q = isQ n _ o := hq
    have hr' : ∀ x ∈ r, ops[x.1]? = some x.2.2 ∧ x.2.1 = isQ n x.1 x.2.2 := fun x hx => hσ x (List.mem_cons_of_mem _ hx)
    have hklt : k < ops.size := (Array.getElem?_eq_some_iff.1 ho).1
    have hnd' := List.nodup_cons.1 hnd
    have hready : k ∈ Region.ready .any ops listed := by
      refine mem_ready.2 ⟨?_, o, ho, fun e he hb => ?_⟩
      · have := mt (hl k hklt).1 (hfr _ (List.mem_cons_self ..))
        simpa using this
      · have h1 := (Array.all_eq_true_iff_forall_mem.1 hok1) e he
        simp only [hb, Bool.not_true, Bool.false_or] at h1
        have hm := memB_iff.1 h1
        rcases Nat.lt_or_ge e.on ops.size with hlt | hge
        · have h2 := (hl e.on hlt).2 hm
          have h3 : e.on < listed.size := by omega
          simp only [Array.getD_eq_getD_getElem?, Array.getElem?_eq_getElem h3, Option.getD_some] at h2 ⊢
          exact h2
        · exact absurd (hdl _ hm) (by omega)
    have hl' : ∀ j, j < ops.size → ((listed.setIfInBounds k true).getD j true = true ↔ j ∈ k :: done) := fun j hj => by
      by_cases e : k = j
      · subst e
        have : k < listed.size := by omega
        simp [Array.getD_eq_getD_getElem?, this]
      · rw [getD_set_ne true e, hl j hj]
        simp [Ne.symm e]
    have hfr' : ∀ x ∈ r, x.1 ∉ k :: done := fun x hx hm => by
      rcases List.mem_cons.1 hm with e | hm
      · exact hnd'.1 (List.mem_map.2 ⟨x, hx, e⟩)
      · exact hfr x (List.mem_cons_of_mem _ hx) hm
    have hall' : ∀ j, j < ops.size → j ∈ k :: done ∨ j ∈ r.map (·.1) := fun j hj => by
      rcases hall j hj with h | h
      · exact .inl (List.mem_cons_of_mem _ h)
      · rcases List.mem_cons.1 h with e | h
        · exact .inl (by simp at e; simp [e])
        · exact .inr h
    have hrest : ∀ j oj, ops[j]? = some oj → j ≠ k → listed.getD j true = false → ∃ x ∈ r, x.1 = j ∧ x.2.2 = oj ∧ x.2.1 = isQ n j oj := fun j oj hj hjk hun => by
      have hjlt : j < ops.size := (Array.getElem?_eq_some_iff.1 hj).1
      rcases hall' j hjlt with h | h
      · rcases List.mem_cons.1 h with e | h
        · exact absurd e hjk
        · rw [(hl j hjlt).2 h] at hun; cases hun
      · obtain ⟨x, hx, e⟩ := List.mem_map.1 h
        obtain ⟨h1, h2⟩ := hr' x hx
        rw [e, hj] at h1
        cases h1
        exact ⟨x, hx, e, rfl, e ▸ h2⟩
    simp only [lexF] at h
    have go : ∀ {s' : St}, lexF P tt ops n K r s' → anyF P tt ops n K r.length (listed.setIfInBounds k true) s' := fun h => anyF_lex hcl0 hr' hok3 hnd'.2 hfr' (fun j hj => (List.mem_cons.1 hj).elim (fun e => e ▸ hklt) (hdl j)) hall' (by simpa using hsz) hl' (hcl.add hready) h
    cases q with
    | true =>
      obtain ⟨v, hy, hK⟩ := yieldQ_of_step ho (isQ_lt hq.symm) ((stepF_Q ho hq.symm).1 h)
      refine anyF_first ho hq.symm r.length listed s v hcl (fun j oj hj hjk hun hno => ?_) hready hy (go hK)
      obtain ⟨x, hx, e1, e2, e3⟩ := hrest j oj hj hjk hun
      have := List.all_eq_true.1 hok2 x hx
      simp only [Bool.and_eq_true, Bool.or_eq_true, e1, e2, e3] at this
      obtain ⟨h1, h2⟩ := this
      refine ⟨?_, ?_⟩
      · rcases h2 with (((h2 | h2) | h2) | h2) | h2
        · exact .inl h2
        · exact .inr (.inl h2)
        · exact .inr (.inr (.inl h2))
        · exact .inr (.inr (.inr h2))
        · exact absurd (hcl0 j k (memB_iff.1 h2)) hno
      · rcases h1 with h | h
        · exact absurd (.one hj h) hno
        · exact h
    | false =>
      by_cases hall2 : (r.all fun x => memB k (cl.getD x.1 [])) = true
      · refine ⟨fun h => (by rw [h] at hready; cases hready), fun i hi => ?_⟩
        have hik : i = k := by
          refine Classical.byContradiction fun hne => ?_
          obtain ⟨hun, oi, hoi, _⟩ := mem_ready.1 hi
          obtain ⟨x, hx, e1, e2, e3⟩ := hrest i oi hoi hne hun
          have := List.all_eq_true.1 hall2 x hx
          rw [e1] at this
          have hd := ready_dep hcl hi (hcl0 i k (memB_iff.1 this))
          rw [(mem_ready.1 hready).1] at hd; cases hd
        subst hik
        exact stepF_mono (fun s' h => go h) h
      · have hex : ∃ x ∈ r, ¬ memB k (cl.getD x.1 []) = true := by
          refine Classical.byContradiction fun hn => hall2 (List.all_eq_true.2 fun x hx => ?_)
          exact Classical.byContradiction fun h2 => hn ⟨x, hx, h2⟩
        obtain ⟨x0, hx0, hx1⟩ := hex
        have h0 := List.all_eq_true.1 hok2 x0 hx0
        simp only [Bool.or_eq_true, Bool.and_eq_true] at h0
        obtain ⟨⟨⟨⟨hgk, hgn⟩, _⟩, _⟩, _⟩ := h0.resolve_left hx1
        obtain ⟨u, N, hy, hK⟩ := yieldF_of_step ho hq.symm hgk hgn h
        refine anyF_firstF ho hq.symm hgk hgn r.length listed s hcl (fun j oj hj hjk hun hno => ?_) hready hy (go hK)
        obtain ⟨x, hx, e1, e2, e3⟩ := hrest j oj hj hjk hun
        have := List.all_eq_true.1 hok2 x hx
        simp only [Bool.or_eq_true, Bool.and_eq_true, Bool.not_eq_true', e1, e2, e3] at this
        rcases this with h2 | h2
        · exact absurd (hcl0 j k (memB_iff.1 h2)) hno
        · exact ⟨h2.1.1.2, h2.1.2.1, h2.1.2.2, h2.2⟩

def isE (n : Nat) (x : Nat × Bool × Oper) : Bool := isQ n x.1 x.2.2 && Nat.blt x.1 (Nat.mod n 1000)
theorem qsOf_cons {n i : Nat} {o : Oper} {os : List Oper} (q : Bool) : (isE n (i, q, o) = true ∧ qsOf n i (o :: os) = (i, true, o) :: qsOf n (i + 1) os ∧ nqOf n i (o :: os) = nqOf n (i + 1) os ∧ isQ n i o = true) ∨ (isE n (i, q, o) = false ∧ qsOf n i (o :: os) = qsOf n (i + 1) os ∧ nqOf n i (o :: os) = (i, isQ n i o, o) :: nqOf n (i + 1) os) := by
  unfold isE
  simp only [qsOf, nqOf]
  cases h1 : isQ n i o <;> cases h2 : Nat.blt i (Nat.mod n 1000) <;> simp
theorem places {i : Nat} {o : Oper} {os : List Oper} {x : Nat × Bool × Oper} : (∃ j, x.1 = i + j ∧ (o :: os)[j]? = some x.2.2) ↔ (x.1 = i ∧ o = x.2.2) ∨ ∃ j, x.1 = i + 1 + j ∧ os[j]? = some x.2.2 := by
  constructor
  · rintro ⟨j, h1, h2⟩
    cases j with
    | zero => exact .inl ⟨by simpa using h1, by simpa using h2⟩
    | succ j => exact .inr ⟨j, by omega, by simpa using h2⟩
  · rintro (⟨h1, h2⟩ | ⟨j, h1, h2⟩)
    · exact ⟨0, by simpa using h1, by simpa using h2⟩
    · exact ⟨j + 1, by omega, by simpa using h2⟩
theorem mem_qsOf {n : Nat} {x : Nat × Bool × Oper} : ∀ {os : List Oper} {i : Nat}, x ∈ qsOf n i os ↔ x.2.1 = true ∧ isE n x = true ∧ ∃ j, x.1 = i + j ∧ os[j]? = some x.2.2
  | [], i => by simp [qsOf]
  | o :: os, i => by
    have ih := mem_qsOf (n := n) (x := x) (os := os) (i := i + 1)
    rw [places]
    rcases qsOf_cons (n := n) (i := i) (o := o) (os := os) true with ⟨h1, h2, _, h3⟩ | ⟨h1, h2, _⟩
    · rw [h2, List.mem_cons, ih]
      constructor
      · rintro (h | ⟨g1, g2, g3⟩)
        · subst h; exact ⟨rfl, h1, .inl ⟨rfl, rfl⟩⟩
        · exact ⟨g1, g2, .inr g3⟩
      · rintro ⟨g1, g2, ⟨g3, g4⟩ | g3⟩
        · refine .inl ?_
          obtain ⟨a, b, c⟩ := x
          simp only at g1 g3 g4; subst g1 g3 g4; rfl
        · exact .inr ⟨g1, g2, g3⟩
    · rw [h2, ih]
      constructor
      · rintro ⟨g1, g2, g3⟩; exact ⟨g1, g2, .inr g3⟩
      · rintro ⟨g1, g2, ⟨g3, g4⟩ | g3⟩
        · unfold isE at g2 h1
          rw [g3, ← g4] at g2
          simp only at h1
          rw [h1] at g2; cases g2
        · exact ⟨g1, g2, g3⟩
theorem mem_nqOf {n : Nat} {x : Nat × Bool × Oper} : ∀ {os : List Oper} {i : Nat}, x ∈ nqOf n i os ↔ x.2.1 = isQ n x.1 x.2.2 ∧ isE n x = false ∧ ∃ j, x.1 = i + j ∧ os[j]? = some x.2.2
  | [], i => by simp [nqOf]
  | o :: os, i => by
    have ih := mem_nqOf (n := n) (x := x) (os := os) (i := i + 1)
    rw [places]
    rcases qsOf_cons (n := n) (i := i) (o := o) (os := os) true with ⟨h1, _, h2, h3⟩ | ⟨h1, _, h2⟩
    · rw [h2, ih]
      constructor
      · rintro ⟨g1, g2, g3⟩; exact ⟨g1, g2, .inr g3⟩
      · rintro ⟨g1, g2, ⟨g3, g4⟩ | g3⟩
        · unfold isE at g2 h1
          rw [g3, ← g4] at g2
          simp only at h1
          rw [h1] at g2; cases g2
        · exact ⟨g1, g2, g3⟩
    · rw [h2, List.mem_cons, ih]
      constructor
      · rintro (h | ⟨g1, g2, g3⟩)
        · subst h; exact ⟨rfl, h1, .inl ⟨rfl, rfl⟩⟩
        · exact ⟨g1, g2, .inr g3⟩
      · rintro ⟨g1, g2, ⟨g3, g4⟩ | g3⟩
        · refine .inl ?_
          obtain ⟨a, b, c⟩ := x
          simp only at g1 g3 g4; subst g3 g4; rw [g1]
        · exact .inr ⟨g1, g2, g3⟩
theorem nodup_qs {n : Nat} : ∀ {os : List Oper} {i : Nat}, ((qsOf n i os).map (·.1)).Nodup ∧ ((nqOf n i os).map (·.1)).Nodup
  | [], i => by simp [qsOf, nqOf]
  | o :: os, i => by
    have ih := nodup_qs (n := n) (os := os) (i := i + 1)
    rcases qsOf_cons (n := n) (i := i) (o := o) (os := os) true with ⟨_, h1, h2, _⟩ | ⟨_, h1, h2⟩
    · rw [h1, h2]
      refine ⟨List.nodup_cons.2 ⟨fun h => ?_, ih.1⟩, ih.2⟩
      obtain ⟨x, hx, e⟩ := List.mem_map.1 h
      obtain ⟨_, _, j, h1, _⟩ := mem_qsOf.1 hx
      simp only at e; omega
    · rw [h1, h2]
      refine ⟨ih.1, List.nodup_cons.2 ⟨fun h => ?_, ih.2⟩⟩
      obtain ⟨x, hx, e⟩ := List.mem_map.1 h
      obtain ⟨_, _, j, h1, _⟩ := mem_nqOf.1 hx
      simp only at e; omega
theorem len_qs {n : Nat} : ∀ {os : List Oper} {i : Nat}, (qsOf n i os).length + (nqOf n i os).length = os.length
  | [], i => rfl
  | o :: os, i => by
    have ih := len_qs (n := n) (os := os) (i := i + 1)
    rcases qsOf_cons (n := n) (i := i) (o := o) (os := os) true with ⟨_, h1, h2, _⟩ | ⟨_, h1, h2⟩ <;> rw [h1, h2] <;> simp only [List.length_cons] <;> omega

theorem anyF_draw {tt : TT} {ops : Array Oper} {n : Nat} {K : St → Prop} (hd : drawF ops n = true) {s : St} (h : regG P tt n ops.toList (ordG ops n) s K) : anyF P tt ops n K ops.size (Array.replicate ops.size false) s := by
  have hd2 := hd
  unfold drawF at hd2
  simp only [Bool.and_eq_true] at hd2
  replace hd2 := hd2.2
  have hmem : ∀ x ∈ ordG ops n, ops[x.1]? = some x.2.2 ∧ x.2.1 = isQ n x.1 x.2.2 := fun x hx => by
    rcases List.mem_append.1 hx with hx | hx
    · obtain ⟨h1, h2, j, h3, h4⟩ := mem_qsOf.1 hx
      unfold isE at h2
      rw [Bool.and_eq_true] at h2
      exact ⟨by rw [h3, Nat.zero_add]; simpa using h4, by rw [h1, h2.1]⟩
    · obtain ⟨h1, h2, j, h3, h4⟩ := mem_nqOf.1 hx
      exact ⟨by rw [h3, Nat.zero_add]; simpa using h4, h1⟩
  have hlen : (ordG ops n).length = ops.size := by
    rw [ordG, List.length_append, len_qs]; simp
  rw [← hlen]
  have := anyF_lex (P := P) (tt := tt) (K := K) (n := n) (cl := clos ops.toList []) (fun j i => clos_dep (ops := ops) (r := ops.toList) (acc := []) (fun j => by simp) (fun j i h => by simp at h) j i) (σ := ordG ops n) (done := []) (listed := Array.replicate ops.size false) (s := s) hmem hd2 ?_ (by simp) (by simp) (fun j hj => .inr ?_) (by simp) (fun j hj => by simp [hj]) (fun j i hj hlt hd => by simp [hlt] at hj) (regG_lex hmem h)
  · rw [hlen] at this ⊢; exact this
  · rw [ordG, List.map_append]
    refine List.nodup_append.2 ⟨nodup_qs.1, nodup_qs.2, fun a ha b hb e => ?_⟩
    obtain ⟨x, hx, ex⟩ := List.mem_map.1 ha
    obtain ⟨z, hz, ez⟩ := List.mem_map.1 hb
    obtain ⟨_, h2, j, h3, h4⟩ := mem_qsOf.1 hx
    obtain ⟨_, g2, j', g3, g4⟩ := mem_nqOf.1 hz
    have : j = j' := by omega
    subst this
    have g5 : x.2.2 = z.2.2 := Option.some.inj (h4.symm.trans g4)
    unfold isE at h2 g2
    rw [show z.1 = x.1 by omega, ← g5, h2] at g2; cases g2
  · have ho : ops.toList[j]? = some ops[j] := by simp [hj]
    cases hq : isE n (j, true, ops[j]) with
    | true => exact List.mem_map.2 ⟨(j, true, ops[j]), List.mem_append_left _ (mem_qsOf.2 ⟨rfl, hq, j, by simp, ho⟩), rfl⟩
    | false => exact List.mem_map.2 ⟨(j, isQ n j ops[j], ops[j]), List.mem_append_right _ (mem_nqOf.2 ⟨rfl, hq, j, by simp, ho⟩), rfl⟩
end

end Go.Proofs.YtnafogjagbhdbaaDoor.Pi
/- Code, and calls of functions with a body: sound. No statement of the seat is proved here. -/
namespace Go.Proofs.YtnafogjagbhdbaaDoor.Pi
open Go Go.RowKit
set_option linter.unusedVariables false
set_option linter.unusedSimpArgs false

theorem find_keepH (ks : List Nat) : ∀ (h : Heap) (k : Nat), find (keepH ks h) k = if ks.contains k then find h k else none
  | [], k => by simp [keepH, find]
  | (a, o) :: h, k => by
    simp only [keepH]
    cases hc : ks.contains a with
    | true =>
      simp only [find]
      cases hb : Nat.beq a k with
      | true =>
        have e := beq_iff.1 hb
        subst e
        simp only [hc, if_true]
      | false => simpa using find_keepH ks h k
    | false =>
      simp only
      rw [find_keepH ks h k]
      simp only [find]
      cases hb : Nat.beq a k with
      | true =>
        have e := beq_iff.1 hb
        subst e
        simp only [hc, Bool.false_eq_true, if_false]
      | false => rfl

theorem cleanK_fn (live : List Nat) (s : St) : ∃ s', ∀ K : St → Prop, cleanK live s K ↔ K s' := by
  obtain ⟨r, h⟩ := s
  unfold cleanK
  simp only [forceR_eq, force_eq, forceNs_eq]
  exact ⟨_, fun K => Iff.rfl⟩

theorem cleanR_get (live : List Nat) : ∀ (r : List PV) (i t : Nat) (pv : PV), (cleanR live i r)[t]? = some pv → r[t]? = some pv ∨ (pv = .one .dead ∧ t < r.length)
  | [], i, t, pv, h => by simp [cleanR] at h
  | v :: r, i, t, pv, h => by
    simp only [cleanR] at h
    cases t with
    | zero =>
      simp only [List.getElem?_cons_zero, Option.some.injEq] at h ⊢
      split at h
      · exact Or.inl h
      · exact Or.inr ⟨h.symm, by simp⟩
    | succ t =>
      simp only [List.getElem?_cons_succ] at h ⊢
      rcases cleanR_get live r (i + 1) t pv h with h | ⟨h1, h2⟩
      · exact Or.inl h
      · exact Or.inr ⟨h1, by simpa using h2⟩
theorem cleanR_length (live : List Nat) : ∀ (r : List PV) (i : Nat), (cleanR live i r).length = r.length
  | [], i => rfl
  | v :: r, i => by simp [cleanR, cleanR_length live r]

theorem keepX_none {ks : List Nat} {x : XV} (h : x.key? = none) : keepX ks x = x := by unfold keepX; rw [h]
theorem keepX_in {ks : List Nat} {x : XV} {k : Nat} (h : x.key? = some k) (h2 : ks.contains k = true) : keepX ks x = x := by unfold keepX; rw [h]; simp only [h2]
theorem keepX_out {ks : List Nat} {x : XV} {k : Nat} (h : x.key? = some k) (h2 : ks.contains k = false) : keepX ks x = .dead := by unfold keepX; rw [h]; simp only [h2]

section
variable {P : Program} {C : Ctx} {L : Lay} {I : Nat → Prop} {s : St} {a : Act} {w : World}

theorem cleanK_inv {live : List Nat} {K : St → Prop} (h : cleanK live s K) (hi : Inv C L I s a w) : ∃ s', K s' ∧ Inv C L I s' a w := by
  obtain ⟨r, H⟩ := s
  unfold cleanK at h
  simp only [forceR_eq, force_eq, forceNs_eq] at h
  refine ⟨_, h, ?_⟩
  have hi1 : Inv C L I ⟨cleanR live 0 r, H⟩ a w := ⟨by simpa [cleanR_length] using hi.len, fun t pv v h1 h2 => by
    rcases cleanR_get live r 0 t pv h1 with h1 | ⟨h1, _⟩
    · exact hi.regs t pv v h1 h2
    · subst h1; trivial, hi.heap, hi.Ib, hi.Io, hi.fr, hi.defers, hi.pin⟩
  generalize heapKeys H (heapKeys H (keysPs (cleanR live 0 r))) = ks
  have hfind : ∀ k, find ((keepH ks H).mapX (keepX ks)) k = if ks.contains k then (find H k).map (Ob.map (keepX ks)) else none := fun k => by
    rw [find_mapX, find_keepH]; split <;> rfl
  have hf : ∀ v x, RepX L H I w v x → RepX L ((keepH ks H).mapX (keepX ks)) I w v (keepX ks x) := fun v x hx => by
    cases hk : x.key? with
    | none => rw [keepX_none hk]; exact RepX.ext (q := fun _ => False) (fun j o hq => hq.elim) (fun _ h => h) (fun _ _ => rfl) (fun k h' => by rw [hk] at h'; cases h') hx
    | some k =>
      cases hc : ks.contains k with
      | false => rw [keepX_out hk hc]; trivial
      | true =>
        rw [keepX_in hk hc]
        refine RepX.ext (q := fun j => ks.contains j = true) (fun j o hq hj => ⟨⟨o.map (keepX ks), by rw [hfind, if_pos hq, hj]; rfl, shape_map _ _⟩, rfl, rfl, rfl⟩) (fun _ h => h) (fun _ _ => rfl) (fun k' h' => by rw [hk] at h'; cases h'; exact hc) hx
  have hold : ∀ k o, find ((keepH ks H).mapX (keepX ks)) k = some o → ∃ o', find H k = some o' ∧ o = o'.map (keepX ks) := fun k o h => by
    rw [hfind] at h
    split at h
    · cases h2 : find H k with
      | none => simp [h2] at h
      | some o' => simp only [h2, Option.map_some, Option.some.injEq] at h; exact ⟨o', rfl, h.symm⟩
    · cases h
  refine hi1.change (f := keepX ks) hf rfl ⟨fun k o h => ?_, fun k o b h hb => ?_, fun k k' o o' b h h' hb hb' => ?_⟩ hi.Ib hi.Io hi.fr (fun k o _ h => by
    obtain ⟨o', h1, _⟩ := hold k o h
    exact ⟨o', h1, rfl, rfl⟩)
  · obtain ⟨o', h1, rfl⟩ := hold k o h
    exact (hi.heap.ob k o' h1).ext hf (fun _ h => h) (fun _ _ => rfl) .rfl (fun _ _ => rfl) (fun _ => rfl)
  · obtain ⟨o', h1, rfl⟩ := hold k o h
    exact hi.heap.own k o' b h1 hb
  · obtain ⟨o1, h1, _⟩ := hold k o h
    obtain ⟨o2, h2, _⟩ := hold k' o' h'
    exact hi.heap.inj k k' o1 o2 b h1 h2 hb hb'

theorem deepK_inv {k : Nat} {K : St → Prop} (h : deepK k s K) (hi : Inv C L I s a w) : ∃ s' L', K s' ∧ Inv C L' I s' a w := by
  unfold deepK at h
  split at h
  · rename_i sz rows hf
    obtain ⟨hfl, h⟩ := h
    rw [force_eq] at h
    have ho := hi.heap.ob k _ hf
    obtain ⟨hd, hdeep⟩ : ∃ hd : Nat → Value, match L.blk k with | none => rows = [] | some b => DRows w (fun _ => False) hd b (L.cap k) sz rows := by
      simp only [RepO] at ho
      cases hbk : L.blk k with
      | none => simp only [hbk] at ho; exact ⟨fun _ => undef, ho⟩
      | some b =>
        simp only [hbk] at ho
        obtain ⟨h0, hl, vs, e, fr, h3, h4, h5, h6⟩ := ho
        refine ⟨fun q => vs.getD q undef, h0, hl, vs, e, fr, fun _ _ => False, h3, h4, h5, fun i r j c q1 q2 => ?_, fun _ _ h => h.elim, fun _ _ _ h => h.elim⟩
        obtain ⟨v, p1, p2⟩ := h6 i r j c q1 q2
        exact ⟨v, p1, RepD.of_flat (hfl r (List.mem_of_getElem? q1) c (List.mem_of_getElem? q2)) p2, fun _ => by simp [p1]⟩
    let L' : Lay := L.updD k (L.blk k) (L.cap k) (fun _ => False) hd
    have hL' : L'.blk k = L.blk k ∧ L'.cap k = L.cap k ∧ L'.fp k = (fun _ => False) ∧ L'.hd k = hd := ⟨by simp [L', Lay.updD], by simp [L', Lay.updD], by simp [L', Lay.updD], by simp [L', Lay.updD]⟩
    have hfind : ∀ j, find ((setOb s.heap k (.deep true sz rows)).mapX (deepX k)) j = if j = k then some (.deep true sz rows) else (find s.heap j).map (Ob.map (deepX k)) := fun j => by
      rw [find_mapX, find_setOb]
      by_cases e : j = k
      · simp [e, hf, Ob.map]
      · simp [e]
    have hfoot : ∀ {j b}, Foot L' j b → Foot L j b := fun {j b} h => by
      by_cases e : j = k
      · subst e
        rcases h with h | h
        · exact .inl (hL'.1 ▸ h)
        · rw [hL'.2.2.1] at h; exact h.elim
      · obtain ⟨e1, _, e3, _⟩ := L.updD_same (nb := L.blk k) (cap := L.cap k) (fp := fun _ => False) (hd := hd) e
        rcases h with h | h
        · exact .inl (e1 ▸ h)
        · exact .inr (e3 ▸ h)
    have hrx : ∀ v x, RepX L s.heap I w v x → RepX L' ((setOb s.heap k (.deep true sz rows)).mapX (deepX k)) I w v (deepX k x) := fun v x hx => by
      by_cases hk : x.key? = some k
      · cases x <;> simp only [XV.key?, Option.some.injEq, reduceCtorEq] at hk <;> subst hk
        · obtain ⟨_, _, g1, g2⟩ := hx
          rw [hf] at g1; cases g1
          simp only [deepX, (beq_iff (a := _) (b := _)).2 rfl]
          refine ⟨true, sz, rows, by rw [hfind, if_pos rfl], ?_⟩
          rw [hL'.1, hL'.2.1]
          rename_i k
          cases hbk : L.blk k with
          | none => simp only [hbk] at g2; exact ⟨Or.inl g2, fun _ => g2⟩
          | some b => simp only [hbk] at g2; exact g2
        · simp only [deepX, (beq_iff (a := _) (b := _)).2 rfl]; trivial
        · obtain ⟨_, _, g1, _⟩ := hx; rw [hf] at g1; cases g1
        · obtain ⟨_, _, b, g1, g2, g3⟩ := hx
          rw [hf] at g1; cases g1
          simp only [deepX, (beq_iff (a := _) (b := _)).2 rfl]
          exact ⟨true, sz, rows, b, by rw [hfind, if_pos rfl], by rw [hL'.1]; exact g2, g3⟩
        · obtain ⟨_, _, _, g1, _⟩ := hx; rw [hf] at g1; cases g1
        · obtain ⟨_, _, _, _, g1, _⟩ := hx; rw [hf] at g1; cases g1
        · obtain ⟨_, _, _, g1, _⟩ := hx; rw [hf] at g1; cases g1
        · obtain ⟨_, _, _, _, g1, _⟩ := hx; rw [hf] at g1; cases g1
      · have e : deepX k x = x := by
          cases x <;> simp only [deepX] <;> (split <;> rename_i hb' <;> first | rfl | exact absurd (by simp [XV.key?, beq_iff.1 hb']) hk)
        rw [e]
        exact RepX.ext (q := fun j => j ≠ k) (fun j o hq hj => ⟨⟨o.map (deepX k), by rw [hfind, if_neg hq, hj]; rfl, shape_map _ _⟩, (L.updD_same hq).1, (L.updD_same hq).2.1, (L.updD_same hq).2.2.2⟩) (fun _ h => h) (fun _ _ => rfl) (fun j hj e => hk (e ▸ hj)) hx
    have hback : ∀ j o, find ((setOb s.heap k (.deep true sz rows)).mapX (deepX k)) j = some o → ∃ o', find s.heap j = some o' := fun j o h => by
      rw [hfind] at h
      by_cases e : j = k
      · exact ⟨_, e ▸ hf⟩
      · rw [if_neg e] at h
        cases h2 : find s.heap j with
        | none => simp [h2] at h
        | some o' => exact ⟨o', rfl⟩
    refine ⟨_, L', h, hi.change (f := deepX k) hrx rfl ⟨fun j o hj => ?_, fun j o b hj hb => ?_, fun j j' o o' b hj hj' hb hb' => ?_⟩ hi.Ib hi.Io hi.fr (fun j o _ hj => ?_)⟩
    · simp only at hj
      by_cases e : j = k
      · subst e
        rw [hfind, if_pos rfl] at hj; cases hj
        simp only [RepO]
        rw [hL'.1, hL'.2.1, hL'.2.2.1, hL'.2.2.2]
        cases hbk : L.blk j with
        | none => simpa only [hbk] using hdeep
        | some b => simp only [hbk] at hdeep; exact ⟨hdeep, fun h => h⟩
      · rw [hfind, if_neg e] at hj
        cases h2 : find s.heap j with
        | none => simp [h2] at hj
        | some o' =>
          simp only [h2, Option.map_some, Option.some.injEq] at hj
          subst hj
          exact (hi.heap.ob j o' h2).ext hrx (fun _ h => h) (fun _ _ => rfl) (L.updD_same e) (fun _ _ => rfl) (fun _ => rfl)
    · obtain ⟨o', ho'⟩ := hback j o hj
      exact hi.heap.own j o' b ho' (hfoot hb)
    · obtain ⟨o1, ho1⟩ := hback j o hj
      obtain ⟨o2, ho2⟩ := hback j' o' hj'
      exact hi.heap.inj j j' o1 o2 b ho1 ho2 (hfoot hb) (hfoot hb')
    · obtain ⟨o1, ho1⟩ := hback j o hj
      refine ⟨o1, ho1, ?_⟩
      by_cases e : j = k
      · subst e; exact ⟨hL'.1, hL'.2.1⟩
      · exact ⟨(L.updD_same e).1, (L.updD_same e).2.1⟩
  · exact ⟨s, L, h, hi⟩
  · exact h.elim

theorem deepKeys_inv : ∀ {ks : List Nat} {s : St} {L : Lay} {K : St → Prop}, deepKeys ks s K → Inv C L I s a w → ∃ s' L', K s' ∧ Inv C L' I s' a w
  | [], s, L, K, h, hi => ⟨s, L, h, hi⟩
  | k :: ks, s, L, K, h, hi => by
    obtain ⟨s1, L1, h, hi1⟩ := deepK_inv h hi
    exact deepKeys_inv h hi1


def PostE (C : Ctx) (Q : Ex → St → Prop) : Exit → Act → World → Prop
  | .normal, a, w => ∃ s L I, Q .normal s ∧ Inv C L I s a w
  | .exit i, a, w => ∃ s L I, Q (.exit i) s ∧ Inv C L I s a w
  | .ret, a, w => ∃ s L I, Q .ret s ∧ Inv C L I s a w
  | _, _, _ => False

theorem PostE.mono {Q Q' : Ex → St → Prop} (h : ∀ e s, Q e s → Q' e s) : ∀ e a w, PostE C Q e a w → PostE C Q' e a w := fun e a w hq => by
  cases e with
  | normal => obtain ⟨s, L, I, h1, h2⟩ := hq; exact ⟨s, L, I, h _ _ h1, h2⟩
  | exit i => obtain ⟨s, L, I, h1, h2⟩ := hq; exact ⟨s, L, I, h _ _ h1, h2⟩
  | ret => obtain ⟨s, L, I, h1, h2⟩ := hq; exact ⟨s, L, I, h _ _ h1, h2⟩
  | outgrown => exact hq.elim
  | goto l => exact hq
  | panic c => exact hq

theorem loop_sound {tt : TT} {c : Code} (ihc : ∀ {s : St} {Q : Ex → St → Prop} {a : Act} {w : World} {L : Lay} {I : Nat → Prop}, pwp P tt c s Q → Inv C L I s a w → c.wp P (PostE C Q) a w) {live : List Nat} {Q : Ex → St → Prop} {s : St} (h : LoopL (pwp P tt c) live Q s) :
    ∀ {a : Act} {w : World} {L : Lay} {I : Nat → Prop}, Inv C L I s a w → ∀ (b : Frame) (k : List Item) (cs : List Frame), ∃ e a' w', PostE C Q e a' w' ∧ Arrives P (lone (b.at a (.code c :: .inLoop c :: k)) cs w) b k cs e a' w' := by
  induction h with
  | mk s K hB hN hE ih =>
    intro a w L I hi b k cs
    obtain ⟨e, a₁, w₁, hq, harr⟩ := ihc hB hi b (.inLoop c :: k) cs
    cases e with
    | normal =>
      obtain ⟨s1, L1, I1, h1, h2⟩ := hq
      obtain ⟨s2, hs2⟩ := cleanK_fn live s1
      obtain ⟨s3, e3, h3⟩ := cleanK_inv (K := fun x => x = s2) ((hs2 _).2 rfl) h2
      subst e3
      obtain ⟨e₂, a₂, w₂, hq₂, harr₂⟩ := ih s1 s3 h1 (fun R hR => (hs2 R).1 hR) h3 b k cs
      exact ⟨e₂, a₂, w₂, hq₂, .of_steps (Steps.trans harr (.one step_inLoop)) harr₂⟩
    | exit i =>
      obtain ⟨s1, L1, I1, h1, h2⟩ := hq
      exact ⟨.exit i, a₁, w₁, ⟨s1, L1, I1, hE _ _ (by simp) h1, h2⟩, .pass (x := .inLoop c) rfl (fun _ _ => .inl (by simp)) harr⟩
    | ret =>
      obtain ⟨s1, L1, I1, h1, h2⟩ := hq
      exact ⟨.ret, a₁, w₁, ⟨s1, L1, I1, hE _ _ (by simp) h1, h2⟩, .pass (x := .inLoop c) rfl (fun _ _ => .inl (by simp)) harr⟩
    | outgrown => exact hq.elim
    | goto l => exact hq.elim
    | panic ch => exact hq.elim

theorem forceOps_eq : ∀ {σ : List (Nat × Bool × Oper)} {K : List (Nat × Bool × Oper) → Prop}, forceOps σ K = K σ
  | [], _ => rfl
  | (i, q, o) :: r, K => by rw [forceOps]; exact forceOps_eq (σ := r)

theorem pwp_sound {tt : TT} (hT : TOK P tt) (hm : P.follows .mixedOrders = true) : ∀ (c : Code) {s : St} {Q : Ex → St → Prop} {a : Act} {w : World} {L : Lay} {I : Nat → Prop}, pwp P tt c s Q → Inv C L I s a w → c.wp P (PostE C Q) a w
  | .skip, s, Q, a, w, L, I, h, hi => wp_skip ⟨s, L, I, h, hi⟩
  | .region id ops false, s, Q, a, w, L, I, h, hi => by
    have h : regN P tt ops.toList 0 ops.toList s (Q .normal) := h
    refine wp_region ?_
    have := regN_sound (C := C) hT (Q := PostE C Q) trivial (fun s' a' w' L' I' h1 h2 => ⟨s', L', I', h1, h2⟩) (r := ops.toList) (i := 0) (fun j => by simp) h hi
    rw [List.range_eq_range']
    simpa using this
  | .region id ops true, s, Q, a, w, L, I, h, hi => by
    have h : Pick (drawR2 ops) fun n => match Nat.beq n 1000, Nat.ble 2000 n with
      | true, _ => anyM P tt ops (Q .normal) ops.size (Array.replicate ops.size false) s
      | false, false => regQ P tt ops.toList 0 (ops.toList.take n) s fun s => regN P tt ops.toList n (ops.toList.drop n) s (Q .normal)
      | false, true => forceOps (ordG ops (n - 2000)) fun σ => regG P tt (n - 2000) ops.toList σ s (Q .normal) := h
    obtain ⟨n, hd, h⟩ := h
    refine wp_region_any hm ?_
    have hi' : Inv C L I s a { w with drawn := w.drawn + 1 } := hi.grow (w' := { w with drawn := w.drawn + 1 }) (fun _ _ => rfl) (Nat.le_refl _) rfl rfl ⟨rfl, fun _ => Nat.le_succ _⟩
    split at h
    · have hany := anyA_of_anyM _ _ _ h
      have := wpAny_of_anyA (C := C) hT (Q := PostE C Q) trivial (fun s' a' w' L' I' h1 h2 => ⟨s', L', I', h1, h2⟩) _ _ _ _ _ _ _ hany hi'
      simpa using this
    case h_3 =>
      rename_i hne hle
      have hle : 2000 ≤ n := Nat.le_of_ble_eq_true hle
      have hd : drawF ops (n - 2000) = true := by
        rcases hd with (hd | hd) | hd
        · rw [Nat.ble_eq_true_of_le hle] at hd; cases hd.2
        · omega
        · exact hd.2
      rw [forceOps_eq] at h
      generalize n - 2000 = n at hd h
      have hany := anyF_draw hd h
      have := wpAny_of_anyF (C := C) hT (Q := PostE C Q) trivial (fun s' a' w' L' I' h1 h2 => ⟨s', L', I', h1, h2⟩) _ _ _ _ _ _ _ hany hi'
      simpa using this
    rename_i hne hle
    have hd : drawB ops n = true := by
      rcases hd with (hd | hd) | hd
      · exact hd.1
      · rw [hd] at hne; cases hne
      · rw [Nat.ble_eq_true_of_le hd.1] at hle; cases hle
    have hlex : lexA P tt ops n (Q .normal) 0 (ops.toList.take n ++ ops.toList.drop n) s := by
      refine regQ_lex (fun j => by simp) (by simp; omega) (fun s' hs' => ?_) h
      rcases Nat.lt_or_ge n ops.size with hlt | hge
      · have e : 0 + (ops.toList.take n).length = n := by simp; omega
        rw [e]
        exact regN_lex (fun j => by simp) (Nat.le_refl _) hs'
      · have e : ops.toList.drop n = [] := List.drop_eq_nil_of_le (by simpa using hge)
        rw [e] at hs' ⊢
        exact hs'
    rw [List.take_append_drop] at hlex
    have hany := anyA_lex hd (r := ops.toList) (k := 0) (listed := Array.replicate ops.size false) (fun j => by simp) (by simp) (by simp) (fun j hj => by simp [hj]) hlex
    have := wpAny_of_anyA (C := C) hT (Q := PostE C Q) trivial (fun s' a' w' L' I' h1 h2 => ⟨s', L', I', h1, h2⟩) _ _ _ _ _ _ _ hany hi'
    simpa using this
  | .seq x y, s, Q, a, w, L, I, h, hi => by
    refine wp_seq (wp_mono (pwp_sound hT hm x h hi) fun e a' w' hq => ?_)
    cases e with
    | normal => obtain ⟨s1, L1, I1, h1, h2⟩ := hq; exact pwp_sound hT hm y h1 h2
    | exit i => exact hq
    | ret => exact hq
    | outgrown => exact hq.elim
    | goto l => exact hq
    | panic c => exact hq
  | .cond c x y, s, Q, a, w, L, I, h, hi => by
    have h : opd s.regs c (tt 0) fun v => match v with
      | .one (.c (.bool t)) => Br t (pwp P tt x s Q) (pwp P tt y s Q)
      | _ => False := h
    obtain ⟨v, h, hv⟩ := opd_sound hi h
    split at h
    · rename_i t
      exact wp_cond_split (rep_bool hv) (fun e => pwp_sound hT hm x (h.t e) hi) (fun e => pwp_sound hT hm y (h.f e) hi)
    · exact h.elim
  | .block id c, s, Q, a, w, L, I, h, hi => by
    refine wp_block (wp_mono (pwp_sound hT hm c h hi) fun e a' w' hq => ?_)
    cases e with
    | normal => exact hq
    | exit i =>
      obtain ⟨s1, L1, I1, h1, h2⟩ := hq
      simp only [Exit.inBlock]
      split
      · rename_i e
        have hb : Nat.beq i id = true := beq_iff.2 e
        simp only [hb] at h1
        exact ⟨s1, L1, I1, h1, h2⟩
      · rename_i e
        have hb : Nat.beq i id = false := beq_false.2 e
        simp only [hb] at h1
        exact ⟨s1, L1, I1, h1, h2⟩
    | ret => exact hq
    | outgrown => exact hq.elim
    | goto l => exact hq
    | panic c => exact hq
  | .loop c, s, Q, a, w, L, I, h, hi => by
    have h : Pick (fun _ : List Nat => True) fun live => frzKeys 20 (toFrz live) s fun s => ownKeys (toOwn live) s fun s => deepKeys (toDeep live) s fun s => cleanK live s fun s' => LoopL (pwp P tt c) live (fun e s => frzKeys 20 (toExit live) s (Q e)) s' := h
    obtain ⟨live, _, h⟩ := h
    obtain ⟨s0, I0, h, hi0, _⟩ := frzKeys_inv h hi
    obtain ⟨s1, L1, h, hi1⟩ := ownKeys_inv h hi0
    obtain ⟨s2, L2, h, hi2⟩ := deepKeys_inv h hi1
    obtain ⟨s', h, hi'⟩ := cleanK_inv h hi2
    intro b k cs
    obtain ⟨e, a', w', hq, harr⟩ := loop_sound (C := C) (fun h hi => pwp_sound hT hm c h hi) h hi' b k cs
    refine ⟨e, a', w', ?_, .of_steps (.one step_loop) harr⟩
    cases e with
    | normal =>
      obtain ⟨s3, L3, I3, h3, h4⟩ := hq
      obtain ⟨s5, I5, h5, h6, _⟩ := frzKeys_inv h3 h4
      exact ⟨s5, L3, I5, h5, h6⟩
    | exit i =>
      obtain ⟨s3, L3, I3, h3, h4⟩ := hq
      obtain ⟨s5, I5, h5, h6, _⟩ := frzKeys_inv h3 h4
      exact ⟨s5, L3, I5, h5, h6⟩
    | ret =>
      obtain ⟨s3, L3, I3, h3, h4⟩ := hq
      obtain ⟨s5, I5, h5, h6, _⟩ := frzKeys_inv h3 h4
      exact ⟨s5, L3, I5, h5, h6⟩
    | outgrown => exact hq.elim
    | goto l => exact hq.elim
    | panic c => exact hq.elim
  | .exit id, s, Q, a, w, L, I, h, hi => wp_exit ⟨s, L, I, h, hi⟩
  | .label l, s, Q, a, w, L, I, h, hi => wp_label ⟨s, L, I, h, hi⟩
  | .ret, s, Q, a, w, L, I, h, hi => wp_ret ⟨s, L, I, h, hi⟩
  | .rangeFunc .., s, Q, a, w, L, I, h, hi => h.elim
  | .scope _, s, Q, a, w, L, I, h, hi => h.elim
  | .goto _, s, Q, a, w, L, I, h, hi => h.elim
  | .refuse _, s, Q, a, w, L, I, h, hi => h.elim

end

end Go.Proofs.YtnafogjagbhdbaaDoor.Pi
/- Functions: from the predicate transformer to 'Sat'. No statement of the seat is proved here. -/
namespace Go.Proofs.YtnafogjagbhdbaaDoor.Pi
open Go Go.RowKit
set_option linter.unusedVariables false
set_option linter.unusedSimpArgs false

theorem canonH_get {H : Heap} : ∀ {ks : List Nat} {i : Nat} {h : Heap}, canonH H ks i = some h →
    (∀ j k, ks[j]? = some k → find h (i + j) = find H k) ∧ (∀ j o, find h j = some o → ∃ k, i ≤ j ∧ ks[j - i]? = some k ∧ (∀ cs, o ≠ .box cs) ∧ find H k = some o)
  | [], i, h, e => by simp only [canonH, Option.some.injEq] at e; subst e; exact ⟨by simp, by simp [find]⟩
  | k :: ks, i, h, e => by
    have key : ∀ {o r}, find H k = some o → (∀ cs, o ≠ .box cs) → canonH H ks (i + 1) = some r → h = (i, o) :: r → (∀ j k', (k :: ks)[j]? = some k' → find h (i + j) = find H k') ∧ (∀ j o, find h j = some o → ∃ k', i ≤ j ∧ (k :: ks)[j - i]? = some k' ∧ (∀ cs, o ≠ .box cs) ∧ find H k' = some o) := fun {o r} h1 hb h2 e => by
      subst e
      obtain ⟨g1, g2⟩ := canonH_get h2
      refine ⟨fun j k' hk => ?_, fun j o ho => ?_⟩
      · cases j with
        | zero => simp only [List.getElem?_cons_zero, Option.some.injEq] at hk; subst hk; simp [find, h1]
        | succ j =>
          simp only [List.getElem?_cons_succ] at hk
          have hne : Nat.beq i (i + (j + 1)) = false := beq_false.2 (by omega)
          simp only [find, hne]
          have := g1 j k' hk
          rwa [show i + 1 + j = i + (j + 1) by omega] at this
      · simp only [find] at ho
        split at ho
        · rename_i e
          have e := beq_iff.1 e
          subst e
          cases ho
          exact ⟨k, Nat.le_refl _, by simp, hb, h1⟩
        · obtain ⟨k', q1, q2, q3, q4⟩ := g2 j o ho
          refine ⟨k', by omega, ?_, q3, q4⟩
          rw [show j - i = (j - (i + 1)) + 1 by omega]
          simpa using q2
    simp only [canonH] at e
    split at e
    · rename_i sz rows r h1 h2
      cases e
      exact key h1 (fun cs h => by cases h) h2 rfl
    · rename_i ap sz rows r h1 h2
      cases e
      exact key h1 (fun cs h => by cases h) h2 rfl
    · cases e

def canonL (L : Lay) (ks : List Nat) : Lay := ⟨fun i => (ks[i]?).bind L.blk, fun i => L.cap (ks.getD i 0), fun i => L.fp (ks.getD i 0), fun i => L.hd (ks.getD i 0)⟩

section
variable {P : Program} {C : Ctx} {L : Lay} {I : Nat → Prop} {s : St} {a : Act} {w : World}

theorem RepX.canon {ks : List Nat} {h H : Heap} (hh : canonH H ks 0 = some h) {v : Value} {x : XV} (hx : RepX L H I w v x) :
    RepX (canonL L ks) h I w v (canonX ks x) := by
  obtain ⟨g1, g2⟩ := canonH_get hh
  have hk : ∀ {k i}, idx k ks 0 = some i → ks[i]? = some k ∧ find h i = find H k := fun {k i} e => by
    obtain ⟨_, e2⟩ := idx_get e
    have e2 : ks[i]? = some k := by simpa using e2
    exact ⟨e2, by have := g1 i k e2; simpa using this⟩
  cases x with
  | c y => exact hx
  | nil sz => exact hx
  | undef => exact hx
  | dead => trivial
  | pb k o l => trivial
  | dp k r o l => trivial
  | dn k r j => trivial
  | fb f cs k n qs => trivial
  | rs k =>
    simp only [canonX]
    cases e : idx k ks 0 with
    | none => trivial
    | some i =>
      obtain ⟨e1, e2⟩ := hk e
      obtain ⟨sz, rows, h1, h2⟩ := hx
      refine ⟨sz, rows, e2.trans h1, ?_⟩
      simpa [canonL, e1, List.getD_eq_getElem?_getD] using h2
  | ds k =>
    simp only [canonX]
    cases e : idx k ks 0 with
    | none => trivial
    | some i =>
      obtain ⟨e1, e2⟩ := hk e
      obtain ⟨ap, sz, rows, h1, h2⟩ := hx
      refine ⟨ap, sz, rows, e2.trans h1, ?_⟩
      simpa [canonL, e1, List.getD_eq_getElem?_getD] using h2
  | ru k o l =>
    simp only [canonX]
    cases e : idx k ks 0 with
    | none => trivial
    | some i =>
      obtain ⟨e1, e2⟩ := hk e
      obtain ⟨sz, rows, h1, h3, h2⟩ := hx
      refine ⟨sz, rows, e2.trans h1, h3, ?_⟩
      simpa [canonL, e1, List.getD_eq_getElem?_getD] using h2
  | pe k r o l =>
    simp only [canonX]
    cases e : idx k ks 0 with
    | none => trivial
    | some i =>
      obtain ⟨e1, e2⟩ := hk e
      obtain ⟨sz, rows, b, h1, h2, h3⟩ := hx
      exact ⟨sz, rows, b, e2.trans h1, by simpa [canonL, e1] using h2, h3⟩

theorem canon_heap {O : Nat → Prop} {ks : List Nat} {h H : Heap} (hn : ks.Nodup) (hh : canonH H ks 0 = some h) (hok : HeapOK O L H I w) :
    HeapOK O (canonL L ks) h I w := by
  obtain ⟨g1, g2⟩ := canonH_get hh
  have hft : ∀ {i k b}, ks[i]? = some k → Foot (canonL L ks) i b → Foot L k b := fun {i k b} q2 hb => by
    have hg : ks.getD i 0 = k := by simp [List.getD_eq_getElem?_getD, q2]
    rcases hb with hb | hb
    · simp only [canonL, q2, Option.bind_some] at hb; exact .inl hb
    · simp only [canonL, hg] at hb; exact .inr hb
  refine ⟨fun i o ho => ?_, fun i o b ho hb => ?_, fun i i' o o' b ho ho' hb hb' => ?_⟩
  · obtain ⟨k, _, q2, q3, q4⟩ := g2 i o ho
    have q2 : ks[i]? = some k := by simpa using q2
    have hr := hok.ob k _ q4
    have hg : ks.getD i 0 = k := by simp [List.getD_eq_getElem?_getD, q2]
    cases o with
    | box cs => exact absurd rfl (q3 cs)
    | arr sz rows =>
      simp only [RepO, canonL, q2, Option.bind_some, hg] at hr ⊢
      exact hr
    | deep ap sz rows =>
      simp only [RepO, canonL, q2, Option.bind_some, hg] at hr ⊢
      exact hr
  · obtain ⟨k, _, q2, q3, q4⟩ := g2 i o ho
    have q2 : ks[i]? = some k := by simpa using q2
    exact hok.own k _ b q4 (hft q2 hb)
  · obtain ⟨k, _, q2, _, q4⟩ := g2 i o ho
    have q2 : ks[i]? = some k := by simpa using q2
    obtain ⟨k', _, q2', _, q4'⟩ := g2 i' o' ho'
    have q2' : ks[i']? = some k' := by simpa using q2'
    have e := hok.inj k k' _ _ b q4 q4' (hft q2 hb) (hft q2' hb')
    subst e
    exact nodup_inj hn q2 q2'

/-! ### own flat slices are deep ones -/
theorem find_asDeep : ∀ (h : Heap) (k : Nat), find (asDeep h) k = (find h k).map fun o => match o with | .arr sz rows => .deep true sz rows | o => o
  | [], k => rfl
  | (k0, o) :: h, k => by
    cases o <;> (simp only [asDeep, find]; cases Nat.beq k0 k <;> simp [find_asDeep h k])
theorem flatH_get : ∀ {h : Heap}, flatH h → ∀ {k sz rows}, find h k = some (.arr sz rows) → flatRows rows
  | [], _, k, sz, rows, hf => by simp [find] at hf
  | (k0, o) :: h, hh, k, sz, rows, hf => by
    cases o with
    | box cs =>
      simp only [find] at hf
      split at hf
      · cases hf
      · exact flatH_get (h := h) hh hf
    | deep _ _ _ =>
      simp only [find] at hf
      split at hf
      · cases hf
      · exact flatH_get (h := h) hh hf
    | arr sz' rows' =>
      simp only [find] at hf
      split at hf
      · cases hf; exact hh.1
      · exact flatH_get (h := h) hh.2 hf

theorem asDeep_rep {O : Nat → Prop} {H : Heap} (hfl : flatH H) (hb : ∀ k o, find H k = some o → ∀ cs, o ≠ .box cs) (hok : HeapOK O L H I w) : ∃ L', HeapOK O L' (asDeep H) I w ∧ ∀ v x, RepX L H I w v x → RepX L' (asDeep H) I w v (asDs x) := by
  have hex : ∀ k, ∃ hd : Nat → Value, ∀ sz rows, find H k = some (.arr sz rows) → match L.blk k with | none => rows = [] | some b => DRows w (fun _ => False) hd b (L.cap k) sz rows := fun k => by
    cases hf : find H k with
    | none => exact ⟨fun _ => undef, fun _ _ h => by cases h⟩
    | some o =>
      cases o with
      | box cs => exact ⟨fun _ => undef, fun _ _ h => by cases h⟩
      | deep _ _ _ => exact ⟨fun _ => undef, fun _ _ h => by cases h⟩
      | arr sz rows =>
        have ho := hok.ob k _ hf
        simp only [RepO] at ho
        cases hbk : L.blk k with
        | none => simp only [hbk] at ho; exact ⟨fun _ => undef, fun _ _ h => by cases h; exact ho⟩
        | some b =>
          simp only [hbk] at ho
          obtain ⟨h0, hl, vs, e, fr, h3, h4, h5, h6⟩ := ho
          refine ⟨fun q => vs.getD q undef, fun _ _ h => ?_⟩
          cases h
          refine ⟨h0, hl, vs, e, fr, fun _ _ => False, h3, h4, h5, fun i r j c q1 q2 => ?_, fun _ _ h => h.elim, fun _ _ _ h => h.elim⟩
          obtain ⟨v, p1, p2⟩ := h6 i r j c q1 q2
          exact ⟨v, p1, RepD.of_flat (flatH_get hfl hf r (List.mem_of_getElem? q1) c (List.mem_of_getElem? q2)) p2, fun _ => by simp [p1]⟩
  let isA : Nat → Prop := fun k => ∃ sz rows, find H k = some (.arr sz rows)
  classical
  let L' : Lay := ⟨L.blk, L.cap, fun k => if isA k then fun _ => False else L.fp k, fun k => if isA k then (hex k).choose else L.hd k⟩
  have hft : ∀ {k b}, Foot L' k b → Foot L k b := fun {k b} h => by
    rcases h with h | h
    · exact .inl h
    · simp only [L'] at h
      split at h
      · exact h.elim
      · exact .inr h
  have hback : ∀ {k o}, find (asDeep H) k = some o → ∃ o', find H k = some o' := fun {k o} h => by
    rw [find_asDeep] at h
    cases h2 : find H k with
    | none => simp [h2] at h
    | some o' => exact ⟨o', rfl⟩
  refine ⟨L', ⟨fun k o hk => ?_, fun k o b hk hbb => ?_, fun k k' o o' b hk hk' hb1 hb2 => ?_⟩, fun v x hx => ?_⟩
  · rw [find_asDeep] at hk
    cases h2 : find H k with
    | none => simp [h2] at hk
    | some o' =>
      simp only [h2, Option.map_some, Option.some.injEq] at hk
      have ho := hok.ob k _ h2
      cases o' with
      | box cs => exact absurd rfl (hb k _ h2 cs)
      | arr sz rows =>
        subst hk
        have hA : isA k := ⟨sz, rows, h2⟩
        have := (hex k).choose_spec sz rows h2
        simp only [RepO, L', hA, if_true]
        generalize (hex k).choose = hd0 at this ⊢
        cases hbk : L.blk k with
        | none => simpa only [hbk] using this
        | some b => simp only [hbk] at this; exact ⟨this, fun h => h⟩
      | deep ap sz rows =>
        subst hk
        have hA : ¬ isA k := fun ⟨_, _, h⟩ => by rw [h2] at h; cases h
        simp only [RepO, L', hA, if_false] at ho ⊢
        exact ho
  · obtain ⟨o', h2⟩ := hback hk
    exact hok.own k o' b h2 (hft hbb)
  · obtain ⟨o1, h1⟩ := hback hk
    obtain ⟨o2, h2⟩ := hback hk'
    exact hok.inj k k' o1 o2 b h1 h2 (hft hb1) (hft hb2)
  · cases x with
    | c y => exact hx
    | nil sz => exact hx
    | undef => exact hx
    | dead => trivial
    | ru k o l => trivial
    | pe k r o l => trivial
    | pb k o l => obtain ⟨cs, b, h, _⟩ := hx; exact absurd rfl (hb k _ h cs)
    | fb f cs k n qs => obtain ⟨vs, cells, b, _, h, _⟩ := hx; exact absurd rfl (hb k _ h cells)
    | rs k =>
      obtain ⟨sz, rows, h1, h2⟩ := hx
      refine ⟨true, sz, rows, by rw [find_asDeep, h1]; rfl, ?_⟩
      simp only [L']
      cases hbk : L.blk k with
      | none => simp only [hbk] at h2; exact ⟨Or.inl h2, fun _ => h2⟩
      | some b => simp only [hbk] at h2; exact h2
    | ds k =>
      obtain ⟨ap, sz, rows, h1, h2⟩ := hx
      exact ⟨ap, sz, rows, by rw [find_asDeep, h1]; rfl, h2⟩
    | dp k r o l =>
      obtain ⟨ap, sz, rows, b, h1, h2⟩ := hx
      exact ⟨ap, sz, rows, b, by rw [find_asDeep, h1]; rfl, h2⟩
    | dn k r j =>
      obtain ⟨ap, sz, rows, h1, h2, h3, h4⟩ := hx
      have hA : ¬ isA k := fun ⟨_, _, h⟩ => by rw [h1] at h; cases h
      exact ⟨ap, sz, rows, by rw [find_asDeep, h1]; rfl, h2, by simp only [L', hA, if_false]; exact h3, h4⟩

/-! ### nil slices are own ones -/
theorem topK_lt : ∀ {H : Heap} {k : Nat} {o : Ob}, find H k = some o → k < topK H
  | [], k, o, h => by simp [find] at h
  | (k0, o0) :: H, k, o, h => by
    simp only [find] at h
    unfold topK
    split at h
    · rename_i e
      have e := beq_iff.1 e
      subst e
      split
      · rename_i e2; exact Nat.le_of_ble_eq_true e2
      · exact Nat.lt_succ_self _
    · have ih := topK_lt h
      split
      · exact ih
      · rename_i e2
        have : ¬ k0 + 1 ≤ topK H := fun h => by rw [Nat.ble_eq_true_of_le h] at e2; cases e2
        omega
theorem find_app : ∀ (H N : Heap) (k : Nat), find (H ++ N) k = match find H k with | some o => some o | none => find N k
  | [], N, k => rfl
  | (k0, o0) :: H, N, k => by
    simp only [List.cons_append, find]
    cases Nat.beq k0 k with
    | true => rfl
    | false => exact find_app H N k
def nilN (n : Nat) (N : Heap) : Prop := ∀ p ∈ N, n ≤ p.1 ∧ ∃ sz, p.2 = .deep true sz []
theorem nilN_find : ∀ {n : Nat} {N : Heap} {k : Nat} {o : Ob}, nilN n N → find N k = some o → n ≤ k ∧ ∃ sz, o = .deep true sz []
  | n, [], k, o, _, h => by simp [find] at h
  | n, (k0, o0) :: N, k, o, hN, h => by
    simp only [find] at h
    split at h
    · rename_i e
      have e := beq_iff.1 e
      subst e
      cases h
      exact hN _ (List.mem_cons_self ..)
    · exact nilN_find (fun p hp => hN p (List.mem_cons_of_mem _ hp)) h
theorem nilN_mem : ∀ {n : Nat} {N : Heap} {k : Nat} {o : Ob}, nilN n N → (k, o) ∈ N → ∃ sz, find N k = some (.deep true sz [])
  | n, [], k, o, _, h => by simp at h
  | n, (k0, o0) :: N, k, o, hN, h => by
    simp only [find]
    cases e : Nat.beq k0 k with
    | true =>
      obtain ⟨_, sz, h2⟩ := hN _ (List.mem_cons_self ..)
      exact ⟨sz, by simpa using h2⟩
    | false =>
      rcases List.mem_cons.1 h with h | h
      · cases h; rw [beq_iff.2 rfl] at e; cases e
      · exact nilN_mem (fun p hp => hN p (List.mem_cons_of_mem _ hp)) h
theorem ownNX_len : ∀ (xs : List XV) (n : Nat), (ownNX xs n).length = xs.length
  | [], n => rfl
  | x :: xs, n => by
    unfold ownNX
    split <;> simp [ownNX_len xs]
theorem ownNX_get : ∀ {xs : List XV} {n i : Nat} {y : XV}, (ownNX xs n)[i]? = some y → ∃ x, xs[i]? = some x ∧ (y = x ∨ ∃ sz m, x = .nil sz ∧ y = .ds m ∧ (m, Ob.deep true sz []) ∈ ownNH xs n)
  | [], n, i, y, h => by simp [ownNX] at h
  | x :: xs, n, i, y, h => by
    unfold ownNX at h
    split at h
    · rename_i sz
      cases i with
      | zero =>
        simp only [List.getElem?_cons_zero, Option.some.injEq] at h
        subst h
        exact ⟨_, rfl, .inr ⟨sz, n, rfl, rfl, by simp [ownNH]⟩⟩
      | succ i =>
        simp only [List.getElem?_cons_succ] at h
        obtain ⟨x', h1, h2⟩ := ownNX_get h
        refine ⟨x', by simpa using h1, h2.imp id fun ⟨sz', m, q1, q2, q3⟩ => ⟨sz', m, q1, q2, ?_⟩⟩
        simp only [ownNH]
        exact List.mem_cons_of_mem _ q3
    · rename_i hx
      have e : ownNH (x :: xs) n = ownNH xs n := by
        conv => lhs; unfold ownNH
        split
        · rename_i sz; exact absurd rfl (hx sz)
        · rfl
      rw [e]
      cases i with
      | zero =>
        simp only [List.getElem?_cons_zero, Option.some.injEq] at h
        subst h
        exact ⟨_, rfl, .inl rfl⟩
      | succ i =>
        simp only [List.getElem?_cons_succ] at h
        obtain ⟨x', h1, h2⟩ := ownNX_get h
        exact ⟨x', by simpa using h1, h2⟩
theorem ownNH_nil : ∀ (xs : List XV) (n m : Nat), m ≤ n → nilN m (ownNH xs n)
  | [], n, m, _ => fun p hp => by simp [ownNH] at hp
  | x :: xs, n, m, h => fun p hp => by
    unfold ownNH at hp
    split at hp
    · rename_i sz
      rcases List.mem_cons.1 hp with hp | hp
      · subst hp; exact ⟨h, sz, rfl⟩
      · exact ownNH_nil xs (n + 1) m (by omega) p hp
    · exact ownNH_nil xs n m h p hp
theorem ownNTH_nil : ∀ (vs : List (Bool × List XV)) (n m : Nat), m ≤ n → nilN m (ownNTH vs n)
  | [], n, m, _ => fun p hp => by simp [ownNTH] at hp
  | (b, xs) :: vs, n, m, h => fun p hp => by
    simp only [ownNTH, List.mem_append] at hp
    rcases hp with hp | hp
    · exact ownNH_nil xs n m h p hp
    · exact ownNTH_nil vs _ m (by omega) p hp
theorem ownNT_len : ∀ (vs : List (Bool × List XV)) (n : Nat), (ownNT vs n).length = vs.length
  | [], n => rfl
  | (b, xs) :: vs, n => by simp [ownNT, ownNT_len vs]
theorem ownNT_get : ∀ {vs : List (Bool × List XV)} {n i : Nat} {b : Bool} {ys : List XV}, (ownNT vs n)[i]? = some (b, ys) → ∃ xs m, vs[i]? = some (b, xs) ∧ ys = ownNX xs m ∧ ∀ p ∈ ownNH xs m, p ∈ ownNTH vs n
  | [], n, i, b, ys, h => by simp [ownNT] at h
  | (b0, xs) :: vs, n, i, b, ys, h => by
    simp only [ownNT] at h
    cases i with
    | zero =>
      simp only [List.getElem?_cons_zero, Option.some.injEq, Prod.mk.injEq] at h
      obtain ⟨rfl, rfl⟩ := h
      exact ⟨xs, n, rfl, rfl, fun p hp => by simp [ownNTH, hp]⟩
    | succ i =>
      simp only [List.getElem?_cons_succ] at h
      obtain ⟨xs', m, h1, h2, h3⟩ := ownNT_get h
      exact ⟨xs', m, by simpa using h1, h2, fun p hp => by simp [ownNTH, h3 p hp]⟩

theorem nil_rep {O : Nat → Prop} {H N : Heap} (hN : nilN (topK H) N) (hok : HeapOK O L H I w) : ∃ L', HeapOK O L' (H ++ N) I w ∧ (∀ v x, RepX L H I w v x → RepX L' (H ++ N) I w v x) ∧ ∀ m sz, (m, Ob.deep true sz []) ∈ N → RepX L' (H ++ N) I w (.slice none 0 0) (.ds m) := by
  have hfo : ∀ {k o}, find H k = some o → find (H ++ N) k = some o := fun {k o} h => by rw [find_app, h]
  have hfn : ∀ {k o}, find (H ++ N) k = some o → find H k = some o ∨ (topK H ≤ k ∧ ∃ sz, o = .deep true sz []) := fun {k o} h => by
    rw [find_app] at h
    cases e : find H k with
    | some o' => rw [e] at h; exact .inl h
    | none => rw [e] at h; exact .inr (nilN_find hN h)
  let L' : Lay := ⟨fun k => if k < topK H then L.blk k else none, L.cap, fun k => if k < topK H then L.fp k else fun _ => False, L.hd⟩
  have hb : ∀ {k o}, find H k = some o → L'.blk k = L.blk k := fun {k o} h => by simp only [L']; rw [if_pos (topK_lt h)]
  have hp : ∀ {k o}, find H k = some o → L'.fp k = L.fp k := fun {k o} h => by simp only [L']; rw [if_pos (topK_lt h)]
  have hft : ∀ {k b}, Foot L' k b → k < topK H ∧ Foot L k b := fun {k b} h => by
    by_cases hk : k < topK H
    · refine ⟨hk, ?_⟩
      rcases h with h | h
      · simp only [L', hk, if_true] at h; exact .inl h
      · simp only [L', hk, if_true] at h; exact .inr h
    · rcases h with h | h
      · simp only [L', hk, if_false] at h; cases h
      · simp only [L', hk, if_false] at h
  have hX : ∀ v x, RepX L H I w v x → RepX L' (H ++ N) I w v x := fun v x hx => by
    cases x with
    | c y => exact hx
    | nil sz => exact hx
    | undef => exact hx
    | dead => trivial
    | rs k => obtain ⟨sz, rows, h1, h2⟩ := hx; exact ⟨sz, rows, hfo h1, by rw [hb h1]; exact h2⟩
    | ru k o l => obtain ⟨sz, rows, h1, h3, h2⟩ := hx; exact ⟨sz, rows, hfo h1, h3, by rw [hb h1]; exact h2⟩
    | pb k o l => obtain ⟨cs, b, h1, h2, h3⟩ := hx; exact ⟨cs, b, hfo h1, by rw [hb h1]; exact h2, h3⟩
    | pe k r o l => obtain ⟨sz, rows, b, h1, h2, h3⟩ := hx; exact ⟨sz, rows, b, hfo h1, by rw [hb h1]; exact h2, h3⟩
    | ds k => obtain ⟨a, sz, rows, h1, h2⟩ := hx; exact ⟨a, sz, rows, hfo h1, by rw [hb h1]; exact h2⟩
    | dp k r o l => obtain ⟨a, sz, rows, b, h1, h2, h3⟩ := hx; exact ⟨a, sz, rows, b, hfo h1, by rw [hb h1]; exact h2, h3⟩
    | dn k r j => obtain ⟨a, sz, rows, h1, h2, h3⟩ := hx; exact ⟨a, sz, rows, hfo h1, h2, h3⟩
    | fb f cs k n qs => obtain ⟨vs, cells, b, h1, h2, h3, h4⟩ := hx; exact ⟨vs, cells, b, h1, hfo h2, by rw [hb h2]; exact h3, h4⟩
  refine ⟨L', ⟨fun k o hk => ?_, fun k o b hk hbb => ?_, fun k k' o o' b hk hk' hb1 hb2 => ?_⟩, hX, fun m sz hm => ?_⟩
  · rcases hfn hk with h | ⟨h, sz, rfl⟩
    · have ho := hok.ob k o h
      cases o with
      | box cs =>
        simp only [RepO] at ho ⊢
        cases hB : bK k with
        | true =>
          rw [hB] at ho
          obtain ⟨b, l, e, h1, h2⟩ := ho
          exact ⟨b, l, e, by rw [hb h]; exact h1, h2.ext rfl (fun _ _ => rfl) (fun g q => by rw [hp h]; exact q)⟩
        | false =>
          rw [hB] at ho
          obtain ⟨b, vs, e, fr, h1, h2, h3, h4, h5⟩ := ho
          exact ⟨b, vs, e, fr, by rw [hb h]; exact h1, h2, h3, h4, h5.1, fun i x v q1 q2 => hX v x (h5.2 i x v q1 q2)⟩
      | arr sz rows => simp only [RepO] at ho ⊢; rw [hb h]; exact ho
      | deep a sz rows => simp only [RepO] at ho ⊢; rw [hb h, hp h]; exact ho
    · simp only [RepO, L']
      rw [if_neg (by omega)]
      trivial
  · obtain ⟨h1, h2⟩ := hft hbb
    rcases hfn hk with h | ⟨h, _⟩
    · exact hok.own k o b h h2
    · omega
  · obtain ⟨h1, h2⟩ := hft hb1
    obtain ⟨h3, h4⟩ := hft hb2
    rcases hfn hk with h | ⟨h, _⟩
    · rcases hfn hk' with h' | ⟨h', _⟩
      · exact hok.inj k k' o o' b h h' h2 h4
      · omega
    · omega
  · obtain ⟨sz', h⟩ := nilN_mem hN hm
    have hk := (nilN_find hN h).1
    have hf : find (H ++ N) m = some (.deep true sz' []) := by
      rw [find_app]
      cases e : find H m with
      | some o => have := topK_lt e; omega
      | none => exact h
    refine ⟨true, sz', [], hf, ?_⟩
    simp only [L']
    rw [if_neg (by omega)]
    exact ⟨.inl rfl, by simp⟩

theorem ownN_rep {O : Nat → Prop} {r : Res} {v : Value} (hok : HeapOK O L r.2 I w) (hv : RepP L r.2 I w v r.1) : ∃ L', HeapOK O L' (ownN r).2 I w ∧ RepP L' (ownN r).2 I w v (ownN r).1 := by
  obtain ⟨pv, H⟩ := r
  simp only at hok hv
  have xs_rep : ∀ {N : Heap} {L' : Lay} {vs : Array Value} {xs : List XV} {m : Nat}, (∀ v x, RepX L H I w v x → RepX L' (H ++ N) I w v x) → (∀ m sz, (m, Ob.deep true sz []) ∈ N → RepX L' (H ++ N) I w (.slice none 0 0) (.ds m)) → (∀ p ∈ ownNH xs m, p ∈ N) → RepXs L H I w vs xs → RepXs L' (H ++ N) I w vs (ownNX xs m) := fun {N L' vs xs m} h1 h2 h3 h4 => by
    refine ⟨by rw [ownNX_len]; exact h4.1, fun i y u hy hu => ?_⟩
    obtain ⟨x, q1, q2⟩ := ownNX_get hy
    have hx := h4.2 i x u q1 hu
    rcases q2 with rfl | ⟨sz, m', rfl, rfl, q3⟩
    · exact h1 _ _ hx
    · have : u = .slice none 0 0 := hx
      subst this
      exact h2 _ _ (h3 _ q3)
  cases pv with
  | one x =>
    cases x with
    | nil sz =>
      obtain ⟨L', q1, q2, q3⟩ := nil_rep (N := [(topK H, .deep true sz [])]) (fun p hp => by simp only [List.mem_singleton] at hp; subst hp; exact ⟨Nat.le_refl _, sz, rfl⟩) hok
      have : v = .slice none 0 0 := hv
      subst this
      exact ⟨L', q1, q3 _ sz (List.mem_singleton.2 rfl)⟩
    | _ => exact ⟨L, hok, hv⟩
  | agg xs =>
    obtain ⟨L', q1, q2, q3⟩ := nil_rep (ownNH_nil xs _ _ (Nat.le_refl _)) hok
    obtain ⟨vs, rfl, hxs⟩ := hv
    exact ⟨L', q1, vs, rfl, xs_rep q2 q3 (fun p hp => hp) hxs⟩
  | tup ps =>
    obtain ⟨L', q1, q2, q3⟩ := nil_rep (ownNTH_nil ps _ _ (Nat.le_refl _)) hok
    obtain ⟨vs, rfl, hl, hps⟩ := hv
    refine ⟨L', q1, vs, rfl, by rw [ownNT_len]; exact hl, fun i p u hp hu => ?_⟩
    obtain ⟨b, ys⟩ := p
    obtain ⟨xs, m, g1, rfl, g3⟩ := ownNT_get hp
    have hb := hps i (b, xs) u g1 hu
    cases b with
    | true =>
      obtain ⟨us, rfl, hxs⟩ := hb
      exact ⟨us, rfl, xs_rep q2 q3 g3 hxs⟩
    | false =>
      match xs, hb with
      | [x], hx =>
        have h1 := xs_rep (vs := #[u]) (xs := [x]) q2 q3 g3 ⟨rfl, fun i x' v' e1 e2 => by
          cases i with
          | zero => simp at e1 e2; subst e1 e2; exact hx
          | succ i => simp at e1⟩
        have hlen := ownNX_len [x] m
        match hy : ownNX [x] m, hlen with
        | [y], _ =>
          rw [hy] at h1
          exact h1.2 0 y u rfl (by simp)

theorem compK_sound {v : Value} {pv : PV} {K : Bool × List XV → Prop} (h : compK pv K) (hr : RepP L s.heap I w v pv) : ∃ p, K p ∧ RepB L s.heap I w v p := by
  cases pv with
  | one x => exact ⟨_, h, hr⟩
  | agg xs => exact ⟨_, h, hr⟩
  | tup _ => exact h.elim

def oneVal : List Value → Value
  | [v] => v
  | vs => .tuple vs.toArray

theorem load_as {t : TypeId} {v v' : Value} (h : (Instr.loadAt t v).run P w = .ok v' w) : (do loadVar t (← asAddr v) : Sem Value).run P w = .ok v' w := by
  simp only [Instr.loadAt] at h
  cases v with
  | pointer a =>
    cases a with
    | some a => simpa [Instr.sureAddr, asAddr] using h
    | none => simp [Instr.sureAddr] at h
  | _ => simp [Instr.sureAddr] at h

def resRun (tmps : Array Value) (rv : ResultVar) : Sem Value :=
  match rv with
  | .tmp t => pure (tmps.getD t undef)
  | .cell a t => do loadVar t (← asAddr (tmps.getD a undef))

theorem resVals_sound {tt : TT} (hT : TOK P tt) (hi : Inv C L I s a w) : ∀ {l : List ResultVar} {K : List (Bool × List XV) → Prop}, resVals tt s l K →
    ∃ ps vs, K ps ∧ (l.mapM (resRun a.tmps)).run P w = .ok vs w ∧ vs.length = ps.length ∧ ∀ (i : Nat) (p : Bool × List XV) (v : Value), ps[i]? = some p → vs[i]? = some v → RepB L s.heap I w v p
  | [], K, h => ⟨[], [], h, by simp, rfl, by simp⟩
  | rv :: l, K, h => by
    simp only [resVals] at h
    have hone : ∃ p v, (resVals tt s l fun ps => K (p :: ps)) ∧ (resRun a.tmps rv).run P w = .ok v w ∧ RepB L s.heap I w v p := by
      cases rv with
      | tmp t =>
        obtain ⟨pv, h1, h2⟩ := opd_sound (x := .tmp t) (t := tt 0) hi h
        obtain ⟨p, h3, h4⟩ := compK_sound h1 h2
        exact ⟨p, _, h3, by simp [resRun, Act.eval], h4⟩
      | cell b t =>
        obtain ⟨pv, h1, h2⟩ := opd_sound (x := .tmp b) (t := tt 0) hi h
        obtain ⟨pv', v', h3, h4, h5⟩ := loadK_sound hi (hT t) h1 h2
        obtain ⟨p, h6, h7⟩ := compK_sound h3 h5
        exact ⟨p, v', h6, by unfold resRun; exact load_as h4, h7⟩
    obtain ⟨p, v, h1, h2, h3⟩ := hone
    obtain ⟨ps, vs, g1, g2, g3, g4⟩ := resVals_sound hT hi h1
    refine ⟨p :: ps, v :: vs, g1, by simp [h2, g2], by simp [g3], fun i q u hq hu => ?_⟩
    cases i with
    | zero => simp only [List.getElem?_cons_zero, Option.some.injEq] at hq hu; subst hq hu; exact h3
    | succ i => simp only [List.getElem?_cons_succ] at hq hu; exact g4 i q u hq hu

theorem results_run {fn : Func} {tmps : Array Value} {vs : List Value} (h : (fn.results.toList.mapM (resRun tmps)).run P w = .ok vs w) :
    (results fn tmps).run P w = .ok (oneVal vs) w := by
  have e : results fn tmps = (do let vs ← fn.results.mapM (resRun tmps); pure (if h : vs.size = 1 then vs[0] else .tuple vs)) := rfl
  rw [e]
  simp only [Array.mapM_eq_mapM_toList, Sem.run_bind, Sem.run_map, h]
  match vs with
  | [] => simp [oneVal, h]
  | [v] => simp [oneVal, h]
  | v :: u :: vs => simp [oneVal, h]

theorem resPV_rep {ps : List (Bool × List XV)} {vs : List Value} {H : Heap} (hl : vs.length = ps.length) (hr : ∀ (i : Nat) (p : Bool × List XV) (v : Value), ps[i]? = some p → vs[i]? = some v → RepB L H I w v p) :
    RepP L H I w (oneVal vs) (resPV ps) := by
  have tup : RepP L H I w (.tuple vs.toArray) (.tup ps) := ⟨vs.toArray, rfl, by simp [hl], fun i p v h1 h2 => hr i p v h1 (by simpa using h2)⟩
  match vs, ps, hl with
  | [], [], _ => exact tup
  | [v], [(false, [x])], _ => exact hr 0 _ v rfl rfl
  | [v], [(true, xs)], _ => exact hr 0 _ v rfl rfl
  | [v], [(false, [])], _ => exact (hr 0 _ v rfl rfl).elim
  | [v], [(false, _ :: _ :: _)], _ => exact (hr 0 _ v rfl rfl).elim
  | v :: u :: vs, p :: q :: ps, _ =>
    have : resPV (p :: q :: ps) = .tup (p :: q :: ps) := by
      unfold resPV
      split <;> simp_all
    rw [this]
    exact tup

theorem retK_sound {tt : TT} (hT : TOK P tt) {L0 : Lay} {w0 : World} {I0 : Nat → Prop} {fn : Func} {r : Res} {hlw : LaidIn (fun b => w0.heap.size ≤ b) w0} (hi : Inv ⟨w0, fun b => w0.heap.size ≤ b, I0, fun b h => h, L0, hlw⟩ L I s a w) {e : Ex} (h : retK tt fn r e s) :
    ∃ v, (results fn a.tmps).run P w = .ok v w ∧ Back I0 w0 r v w := by
  have h : resVals tt s fn.results.toList fun ps => match resPV ps with
    | pv => match dedup (keysP pv) with
      | ks => match canonH s.heap ks 0 with
        | some h => forceP (pv.map (canonX ks)) fun pv => ResOK (pv, h) r
        | none => frzP (pv, s.heap) = some r.1 ∧ r.2 = [] := by
    cases e with
    | exit _ => exact h.elim
    | normal => exact h
    | ret => exact h
  obtain ⟨ps, vs, h, hrun, hl, hr⟩ := resVals_sound hT hi h
  simp only [forceP_eq] at h
  refine ⟨_, results_run hrun, ?_⟩
  have hv := resPV_rep hl hr
  generalize oneVal vs = v at *
  generalize hpv : resPV ps = pv at *
  have hnd := dedup_nodup (keysP pv)
  generalize dedup (keysP pv) = ks at *
  have hB : Blw w0 w := ⟨hi.fr.os, hi.fr.tape, hi.fr.output, hi.fr.size, fun b hb => hi.fr.block b hb (by simpa using hb)⟩
  have hI : ∀ b, b < w0.heap.size → I b → I0 b := fun b hb hb' => (hi.Io b hb hb').elim id fun h => absurd h (by simp; omega)
  split at h
  · rename_i hh hc
    have hv' := hv.map' (fun v x hx => RepX.canon hc hx)
    have hok := canon_heap hnd hc hi.heap
    cases h with
    | same h => subst h; exact ⟨hB, _, I, hI, hi.Ib, hv', hok⟩
    | frz h h2 =>
      refine ⟨hB, ⟨fun _ => none, fun _ => 0, fun _ _ => False, fun _ _ => undef⟩, Iall _ hh I, fun b hb hIa => ?_, fun b hIa => ?_, frzP_rep hok (fun b h => h) h hv', ?_⟩
      · rcases hIa with h | ⟨k, o, h3, h4⟩
        · exact hI b hb h
        · have := (hok.own k o b h3 h4).1
          simp only at this; omega
      · rcases hIa with h | ⟨k, o, h3, h4⟩
        · exact hi.Ib b h
        · exact (hok.own k o b h3 h4).2.2
      · rw [h2]
        exact ⟨fun k o h => by simp [find] at h, fun k o b h => by simp [find] at h, fun k k' o o' b h => by simp [find] at h⟩
    | deep h h2 =>
      obtain ⟨L', q1, q2⟩ := asDeep_rep h2 (fun k o hf cs e => ((canonH_get hc).2 k o hf).elim fun k' h => h.2.2.1 cs e) hok
      rw [← h]
      exact ⟨hB, L', I, hI, hi.Ib, hv'.map' q2, q1⟩
    | own h h2 =>
      obtain ⟨L', q1, q2⟩ := asDeep_rep h2 (fun k o hf cs e => ((canonH_get hc).2 k o hf).elim fun k' h => h.2.2.1 cs e) hok
      obtain ⟨L2, q3, q4⟩ := ownN_rep (r := (_, _)) q1 (hv'.map' q2)
      rw [← h]
      exact ⟨hB, L2, I, hI, hi.Ib, q4, q3⟩
  · obtain ⟨h, h2⟩ := h
    have hok := hi.heap
    refine ⟨hB, ⟨fun _ => none, fun _ => 0, fun _ _ => False, fun _ _ => undef⟩, Iall _ s.heap I, fun b hb hIa => ?_, fun b hIa => ?_, frzP_rep hok (fun b h => h) h hv, ?_⟩
    · rcases hIa with h | ⟨k, o, h3, h4⟩
      · exact hI b hb h
      · have := (hok.own k o b h3 h4).1
        simp only at this; omega
    · rcases hIa with h | ⟨k, o, h3, h4⟩
      · exact hi.Ib b h
      · exact (hok.own k o b h3 h4).2.2
    · rw [h2]
      exact ⟨fun k o h => by simp [find] at h, fun k o b h => by simp [find] at h, fun k k' o o' b h => by simp [find] at h⟩

theorem Sat.intro {tt : TT} (hT : TOK P tt) (hm : P.follows .mixedOrders = true) {f : FuncId} {fn : Func} {c : Code} (hf : P.funcs[f]? = some fn) (hb : fn.body = some c) (hn : (fn.name == "runtime.NumGoroutine") = false)
    {args : List Comp} {r : Res} (h : initK args fn.ntmps fun s => pwp P tt c s (retK tt fn r)) : Sat P f args r := by
  refine ⟨⟨fn, hf, by simp [hb], hn⟩, fun I w vals hlw hI hsz hrep => ?_⟩
  unfold initK at h
  simp only [force_eq] at h
  refine calls_of_wp hf hb ?_
  have hinv : Inv ⟨w, fun b => w.heap.size ≤ b, I, fun b h => h, ⟨fun _ => none, fun _ => 0, fun _ _ => False, fun _ _ => undef⟩, hlw.to (fun b h => .inr h) (Nat.le_refl _) fun _ _ _ => rfl⟩ ⟨fun _ => none, fun _ => 0, fun _ _ => False, fun _ _ => undef⟩ I ⟨args.map argP ++ List.replicate (fn.ntmps - args.length) (.one .undef), []⟩ { tmps := vals ++ Array.replicate (fn.ntmps - vals.size) undef, defers := [] } w := by
    refine ⟨by simp [hsz], fun t pv v h1 h2 => ?_, ⟨fun k o h => by simp [find] at h, fun k o b h => by simp [find] at h, fun k k' o o' b h => by simp [find] at h⟩, hI, fun b _ h => Or.inl h, ⟨rfl, rfl, .rfl, Nat.le_refl _, fun _ _ _ => rfl⟩, rfl, fun k o _ h => by simp [find] at h⟩
    simp only at h1 h2
    by_cases ht : t < args.length
    · rw [List.getElem?_append_left (by simpa using ht), List.getElem?_map] at h1
      rw [Array.getElem?_append_left (by omega)] at h2
      have e : args[t]? = some args[t] := List.getElem?_eq_getElem ht
      have hr := hrep t args[t] v e h2
      rw [e] at h1
      simp only [Option.map_some, Option.some.injEq] at h1
      subst h1
      generalize args[t] = cc at hr
      match cc, hr with
      | (false, [y]), hr => exact hr
      | (true, ys), hr =>
        obtain ⟨vs, rfl, g1, g2⟩ := hr
        have e : argP (true, ys) = .agg (ys.map .c) := by unfold argP; rfl
        rw [e]
        refine ⟨vs, rfl, by simp [g1], fun i x u h3 h4 => ?_⟩
        rw [List.getElem?_map] at h3
        cases h5 : ys[i]? with
        | none => simp [h5] at h3
        | some y => simp only [h5, Option.map_some, Option.some.injEq] at h3; subst h3; exact g2 i y u h5 h4
    · rw [List.getElem?_append_right (by simpa using Nat.le_of_not_lt ht)] at h1
      rw [Array.getElem?_append_right (by omega)] at h2
      rw [List.getElem?_replicate] at h1
      rw [Array.getElem?_replicate] at h2
      split at h1
      · split at h2
        · cases h1; cases h2; exact rfl
        · cases h2
      · cases h1
  have := pwp_sound (C := ⟨w, fun b => w.heap.size ≤ b, I, fun b h => h, ⟨fun _ => none, fun _ => 0, fun _ _ => False, fun _ _ => undef⟩, hlw.to (fun b h => .inr h) (Nat.le_refl _) fun _ _ _ => rfl⟩) hT hm c h hinv
  refine wp_mono this fun e a' w' hq => ?_
  cases e with
  | normal =>
    obtain ⟨s1, L1, I1, h1, h2⟩ := hq
    obtain ⟨v, h3, h4⟩ := retK_sound hT h2 h1
    exact ⟨h2.defers, v, h3, h4⟩
  | ret =>
    obtain ⟨s1, L1, I1, h1, h2⟩ := hq
    obtain ⟨v, h3, h4⟩ := retK_sound hT h2 h1
    exact ⟨h2.defers, v, h3, h4⟩
  | exit i =>
    obtain ⟨s1, L1, I1, h1, h2⟩ := hq
    exact h1.elim
  | outgrown => exact hq.elim
  | goto l => exact hq.elim
  | panic c => exact hq.elim

theorem pinSelf_get : ∀ {ρ : List (Nat × Nat)}, pinSelf ρ = true → ∀ k b, (k, b) ∈ ρ → pinK b = true → k = b
  | [], _, k, b, h, _ => by cases h
  | (x, y) :: ρ, h, k, b, hm, hp => by
    simp only [pinSelf] at h
    split at h
    · split at h
      · rename_i e
        rcases List.mem_cons.1 hm with e2 | hm
        · cases e2; exact beq_iff.1 e
        · exact pinSelf_get h k b hm hp
      · cases h
    · rename_i hp2
      rcases List.mem_cons.1 hm with e2 | hm
      · cases e2; rw [hp] at hp2; cases hp2
      · exact pinSelf_get h k b hm hp

theorem retM_sound {tt : TT} (hT : TOK P tt) {L0 : Lay} {w0 : World} {O I0 : Nat → Prop} {fn : Func} {r : Res} {hlw : LaidIn (fun b => w0.heap.size ≤ b ∨ O b) w0} (hi : Inv ⟨w0, fun b => w0.heap.size ≤ b ∨ O b, I0, fun b h => .inl h, L0, hlw⟩ L I s a w) {e : Ex} (h : retM tt fn r e s) :
    ∃ v, (results fn a.tmps).run P w = .ok v w ∧ BackM O I0 w0 L0 r v w := by
  have h : resVals tt s fn.results.toList fun ps => match resPV ps with
    | pv => forceN (numbered (under (dedup (keysP pv))) 0 ++ selves (keptKeys s.heap)) fun ρ =>
      match nodupB (ρ.map (·.1)), nodupB (ρ.map (·.2)), pinSelf ρ, renH ρ s.heap ρ with
      | true, true, true, some h => forceP (pv.map (renX ρ)) fun pv => forceH h fun h => (pv, h) = r
      | _, _, _, _ => False := by
    cases e with
    | exit _ => exact h.elim
    | normal => exact h
    | ret => exact h
  obtain ⟨ps, vs, h, hrun, hl, hr⟩ := resVals_sound hT hi h
  simp only [forceN_eq] at h
  refine ⟨_, results_run hrun, ?_⟩
  have hv := resPV_rep hl hr
  generalize oneVal vs = v at *
  generalize hpv : resPV ps = pv at *
  generalize numbered (under (dedup (keysP pv))) 0 ++ selves (keptKeys s.heap) = ρ at h
  split at h
  · rename_i hh n1 n2 hps hH
    simp only [forceP_eq, forceH_eq] at h
    subst h
    have n1 := nodupB_iff n1
    have n2 := nodupB_iff n2
    obtain ⟨hok, hren⟩ := ren_heap n1 n2 hH hi.heap
    obtain ⟨g1, g2⟩ := renH_get hH n2
    refine ⟨⟨hi.fr.os, hi.fr.tape, hi.fr.output, hi.fr.size, fun b hb hO => hi.fr.block b hb (fun h => h.elim (fun h => absurd h (Nat.not_le.2 hb)) hO)⟩, layR ρ L, I, fun b hb hb' => (hi.Io b hb hb').elim .inl fun h => h.elim (fun h => absurd h (Nat.not_le.2 hb)) .inr, hi.Ib, hv.map' hren, ⟨hok.ob, fun k o b h1 h2 => ⟨(hok.own k o b h1 h2).1.1, (hok.own k o b h1 h2).2⟩, hok.inj⟩, fun k o hk hf => ?_⟩
    obtain ⟨k', o', q1, q2, _⟩ := g2 k o hf
    have e := pinSelf_get hps k' k q1 hk
    subst e
    obtain ⟨e1, e2, _⟩ := layR_at L (rold_of_mem n2 q1)
    rw [e1, e2]
    exact hi.pin k' o' hk q2
  · exact h.elim

theorem SatM.intro {tt : TT} (hT : TOK P tt) (hm : P.follows .mixedOrders = true) {f : FuncId} {fn : Func} {c : Code} (hf : P.funcs[f]? = some fn) (hb : fn.body = some c) (hn : (fn.name == "runtime.NumGoroutine") = false)
    {args : List PV} {H : Heap} {r : Res} (h : initM args H fn.ntmps fun s => pwp P tt c s (retM tt fn r)) : SatM P f args H r := by
  refine ⟨⟨fn, hf, by simp [hb], hn⟩, fun O I w L0 vals hlw hI hsz hrep hok => ?_⟩
  unfold initM at h
  simp only [force_eq] at h
  refine calls_of_wp hf hb ?_
  have hinv : Inv ⟨w, fun b => w.heap.size ≤ b ∨ O b, I, fun b h => .inl h, L0, hlw.to (fun b h => h.symm) (Nat.le_refl _) fun _ _ _ => rfl⟩ L0 I ⟨args ++ List.replicate (fn.ntmps - args.length) (.one .undef), H⟩ { tmps := vals ++ Array.replicate (fn.ntmps - vals.size) undef, defers := [] } w := by
    refine ⟨by simp [hsz], fun t pv v h1 h2 => ?_, ⟨hok.ob, fun k o b h1 h2 => ⟨.inr (hok.own k o b h1 h2).1, (hok.own k o b h1 h2).2⟩, hok.inj⟩, hI, fun b _ h => Or.inl h, ⟨rfl, rfl, .rfl, Nat.le_refl _, fun _ _ _ => rfl⟩, rfl, fun k o _ h => ⟨rfl, rfl⟩⟩
    simp only at h1 h2
    by_cases ht : t < args.length
    · rw [List.getElem?_append_left ht] at h1
      rw [Array.getElem?_append_left (by omega)] at h2
      exact hrep t pv v h1 h2
    · rw [List.getElem?_append_right (by omega)] at h1
      rw [Array.getElem?_append_right (by omega)] at h2
      rw [List.getElem?_replicate] at h1
      rw [Array.getElem?_replicate] at h2
      split at h1
      · split at h2
        · cases h1; cases h2; exact rfl
        · cases h2
      · cases h1
  have := pwp_sound (C := ⟨w, fun b => w.heap.size ≤ b ∨ O b, I, fun b h => .inl h, L0, hlw.to (fun b h => h.symm) (Nat.le_refl _) fun _ _ _ => rfl⟩) hT hm c h hinv
  refine wp_mono this fun e a' w' hq => ?_
  cases e with
  | normal =>
    obtain ⟨s1, L1, I1, h1, h2⟩ := hq
    obtain ⟨v, h3, h4⟩ := retM_sound hT h2 h1
    exact ⟨h2.defers, v, h3, h4⟩
  | ret =>
    obtain ⟨s1, L1, I1, h1, h2⟩ := hq
    obtain ⟨v, h3, h4⟩ := retM_sound hT h2 h1
    exact ⟨h2.defers, v, h3, h4⟩
  | exit i =>
    obtain ⟨s1, L1, I1, h1, h2⟩ := hq
    exact h1.elim
  | outgrown => exact hq.elim
  | goto l => exact hq.elim
  | panic c => exact hq.elim

end

end Go.Proofs.YtnafogjagbhdbaaDoor.Pi
