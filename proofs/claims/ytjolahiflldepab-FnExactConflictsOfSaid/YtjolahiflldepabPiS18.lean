/- Regions, their order fixed or drawn: sound. No statement of the seat is proved here. -/
import Derived.Test.YtjolahiflldepabPiS17
namespace Go.Proofs.Ytjolahiflldepab.Pi
open Go Go.RowKit
set_option linter.unusedVariables false
set_option linter.unusedSimpArgs false

section
variable {P : Program} {C : Ctx} {L : Lay} {I : Nat → Prop} {s : St} {a : Act} {w : World}

theorem guardK_sound {ops : Array Oper} {o : Oper} {K : Bool → Prop} (hi : Inv C L I s a w) (h : guardK ops.toList o s K) : ∃ run, K run ∧ Region.wanted o (yielded ops a.tmps) = run := by
  unfold guardK at h
  split at h
  · rename_i hg; exact ⟨true, h, by simp [Region.wanted, hg]⟩
  · rename_i j want hg
    split at h
    · rename_i d hd
      rw [look_iff] at h
      obtain ⟨v, h1, h⟩ := h
      have hlt : d < a.tmps.size := by rw [hi.len]; exact (List.getElem?_eq_some_iff.1 h1).1
      have hr := hi.regs d v a.tmps[d] h1 (Array.getElem?_eq_getElem hlt)
      have hd' : (ops[j]?).bind (·.dst) = some d := by rw [← Array.getElem?_toList]; exact hd
      split at h
      · rename_i b
        have e := rep_bool hr
        refine ⟨b == want, h, ?_⟩
        simp [Region.wanted, hg, yielded, hd', hlt, e]
      · have e : a.tmps[d] = undef := hr
        refine ⟨false, h, ?_⟩
        simp [Region.wanted, hg, yielded, hd', hlt, e, undef]
      · exact h.elim
    · exact h.elim

theorem splitK_sound {sp : Bool} {v : PV} {K : PV → Prop} (h : splitK sp v K) : K v := by
  unfold splitK at h
  split at h
  · rename_i b
    split at h
    · cases b
      · exact h.f rfl
      · exact h.t rfl
    · exact h
  · exact h

theorem regN_sound {tt : TT} (hT : TOK P tt) {ops : Array Oper} {Q : Exit → Act → World → Prop} {K : St → Prop} (hQ : True) (hK : ∀ s' a' w' L' I', K s' → Inv C L' I' s' a' w' → Q .normal a' w') :
    ∀ {r : List Oper} {i : Nat} {s : St} {a : Act} {w : World} {L : Lay} {I : Nat → Prop}, (∀ j, r[j]? = ops[i + j]?) → regN P tt ops.toList i r s K → Inv C L I s a w → wpOps P ops Q (List.range' i r.length) a w
  | [], i, s, a, w, L, I, _, h, hi => hK s a w L I h hi
  | o :: r, i, s, a, w, L, I, hr, h, hi => by
    have ho : ops[i]? = some o := by simpa using (hr 0).symm
    simp only [regN] at h
    replace h := guardK_sound hi h
    obtain ⟨run, h, hw⟩ := h
    have hr' : ∀ j, r[j]? = ops[i + 1 + j]? := fun j => by
      have := hr (j + 1)
      rw [show i + 1 + j = i + (j + 1) by omega]; simpa using this
    simp only [List.length_cons, List.range'_succ, wpOps, ho]
    cases run with
    | true =>
      simp only at h
      rw [hw]
      simp only [if_true]
      obtain ⟨pv, s', h, hg⟩ := opM_sound hT hi h
      replace h := splitK_sound h
      refine hg _ Q hQ fun v w' I' L' hi' hv => ?_
      obtain ⟨s2, h2, hi2⟩ := hi'.put h hv
      exact regN_sound hT hQ hK hr' h2 hi2
    | false =>
      simp only at h
      rw [hw]
      simp only [Bool.false_eq_true, if_false]
      obtain ⟨s2, h2, hi2⟩ := hi.put (v := undef) h rfl
      exact regN_sound hT hQ hK hr' h2 hi2

/-! ### the order drawn -/
variable (P) in
def anyA (tt : TT) (ops : Array Oper) (n : Nat) (K : St → Prop) : Nat → Array Bool → St → Prop
  | 0, listed, s => Region.ready .any ops listed = [] ∧ K s
  | f + 1, listed, s => (Region.ready .any ops listed = [] → K s) ∧ ∀ i ∈ Region.ready .any ops listed, stepA P tt ops n i (anyA tt ops n K f (listed.setIfInBounds i true)) s

theorem wpAny_of_anyA {tt : TT} (hT : TOK P tt) {ops : Array Oper} {n : Nat} {Q : Exit → Act → World → Prop} {K : St → Prop} (hQ : True) (hK : ∀ s' a' w' L' I', K s' → Inv C L' I' s' a' w' → Q .normal a' w') :
    ∀ (f : Nat) (listed : Array Bool) (s : St) (a : Act) (w : World) (L : Lay) (I : Nat → Prop), anyA P tt ops n K f listed s → Inv C L I s a w → wpAny P .any ops Q f listed a w
  | 0, listed, s, a, w, L, I, h, hi => ⟨h.1, hK s a w L I h.2 hi⟩
  | f + 1, listed, s, a, w, L, I, h, hi => by
    refine ⟨fun h0 => hK s a w L I (h.1 h0) hi, fun i hm => ?_⟩
    have h := h.2 i hm
    unfold stepA at h
    unfold wpOp
    split at h
    · rename_i ho
      simp only [ho]
      exact wpAny_of_anyA hT hQ hK f _ s a w L I h hi
    · rename_i o ho
      simp only [ho]
      obtain ⟨run, h, hw⟩ := guardK_sound hi h
      rw [hw]
      split at h
      · simp only [if_true]
        obtain ⟨pv, h, hg⟩ := opQ_sound hT hi h
        refine hg _ Q hQ fun v w' I' hi' hv => ?_
        obtain ⟨s2, h2, hi2⟩ := hi'.put h hv
        exact wpAny_of_anyA hT hQ hK f _ _ _ _ _ _ h2 hi2
      · simp only [if_true]
        obtain ⟨pv, s', h, hg⟩ := opM_sound hT hi h
        refine hg _ Q hQ fun v w' I' L' hi' hv => ?_
        obtain ⟨s2, h2, hi2⟩ := hi'.put h hv
        exact wpAny_of_anyA hT hQ hK f _ _ _ _ _ _ h2 hi2
      · simp only [Bool.false_eq_true, if_false]
        obtain ⟨s2, h2, hi2⟩ := hi.put (v := undef) h rfl
        exact wpAny_of_anyA hT hQ hK f _ _ _ _ _ _ h2 hi2

/-! ### two operations that have nothing to do with each other -/
def St.put (s : St) (d : Option Nat) (v : PV) : St := match d with | some d => ⟨s.regs.set d v, s.heap⟩ | none => s
def St.has (s : St) (d : Option Nat) : Prop := match d with | some d => d < s.regs.length | none => True

theorem putK_iff {d : Option Nat} {v : PV} {s : St} {K : St → Prop} : putK d v s K ↔ s.has d ∧ K (s.put d v) := by
  obtain ⟨r, h⟩ := s
  cases d with
  | none => simp [putK, St.has, St.put]
  | some d => simp [putK, setK_iff, St.has, St.put]

theorem St.put_get {s : St} {d : Option Nat} {v : PV} {n : Nat} (h : ∀ e, d = some e → e ≠ n) : (s.put d v).regs[n]? = s.regs[n]? := by
  cases d with
  | none => rfl
  | some d => simp only [St.put, List.getElem?_set]; rw [if_neg (h d rfl)]
theorem St.put_heap (s : St) (d : Option Nat) (v : PV) : (s.put d v).heap = s.heap := by cases d <;> rfl
theorem St.has_put {s : St} {d e : Option Nat} {v : PV} : (s.put d v).has e ↔ s.has e := by cases d <;> cases e <;> simp [St.put, St.has]
theorem St.put_comm {s : St} {x y : Option Nat} {v u : PV} (h : ∀ d, x = some d → y ≠ some d) : (s.put x v).put y u = (s.put y u).put x v := by
  cases x with
  | none => rfl
  | some d =>
    cases y with
    | none => rfl
    | some e =>
      have hne : d ≠ e := fun he => h d rfl (he ▸ rfl)
      simp only [St.put, List.set_comm _ _ hne]

theorem guardK_ex {ops : List Oper} {o : Oper} {s : St} : Ex1 (guardK ops o s) := by
  unfold guardK
  split
  · exact ex_pure _
  · split
    · refine ex_bind (ex_look _ _) fun v => ?_
      split <;> first | exact ex_pure _ | exact ex_false
    · exact ex_false

theorem mem_looks {ops : Array Oper} {o : Oper} {n : Nat} (h : Operand.tmp n ∈ o.op.operands) : n ∈ o.looksAt ops := by
  unfold Oper.looksAt
  refine List.mem_append_left _ (List.mem_filterMap.2 ⟨.tmp n, by simpa using h, rfl⟩)

theorem guardK_congr {ops : Array Oper} {o : Oper} {s s' : St} (h : ∀ n ∈ o.looksAt ops, s.regs[n]? = s'.regs[n]?) : guardK ops.toList o s = guardK ops.toList o s' := by
  funext K
  unfold guardK
  split
  · rfl
  · rename_i j want hg
    split
    · rename_i d hd
      have : s.regs[d]? = s'.regs[d]? := h d (by
        unfold Oper.looksAt
        refine List.mem_append_right _ ?_
        rw [hg]
        have hd' : (ops[j]?).bind (·.dst) = some d := by rw [← Array.getElem?_toList]; exact hd
        simp [hd'])
      exact propext ⟨fun hh => by rw [look_iff] at hh ⊢; rw [← this]; exact hh, fun hh => by rw [look_iff] at hh ⊢; rw [this]; exact hh⟩
    · rfl

/-- A quiet operation, in the state 's', leaves 'v' in its register. -/
def YieldQ (P : Program) (tt : TT) (ops : Array Oper) (o : Oper) (v : PV) (s : St) : Prop :=
  s.has o.dst ∧ ∃ run, (∀ K : Bool → Prop, K run → guardK ops.toList o s K) ∧ match run with
    | true => ∀ K : PV → Prop, K v → opQ P tt s o K
    | false => v = .one .undef

theorem YieldQ.step {tt : TT} {ops : Array Oper} {n i : Nat} {o : Oper} {v : PV} {K : St → Prop} (hi : ops[i]? = some o) (hn : i < n) (hy : YieldQ P tt ops o v s) (h : K (s.put o.dst v)) : stepA P tt ops n i K s := by
  unfold stepA
  simp only [hi]
  obtain ⟨hh, run, h1, h2⟩ := hy
  refine h1 _ ?_
  cases run with
  | true => simp only [hn, decide_true]; exact h2 _ (putK_iff.2 ⟨hh, h⟩)
  | false => simp only; subst h2; exact putK_iff.2 ⟨hh, h⟩

theorem YieldQ.of_same {tt : TT} {ops : Array Oper} {o : Oper} {v : PV} {s s' : St} (hy : YieldQ P tt ops o v s) (hh : s.heap = s'.heap) (hr : ∀ n ∈ o.looksAt ops, s.regs[n]? = s'.regs[n]?) (hd : s'.has o.dst ↔ s.has o.dst) : YieldQ P tt ops o v s' := by
  obtain ⟨h0, run, h1, h2⟩ := hy
  refine ⟨hd.2 h0, run, ?_, ?_⟩
  · rw [← guardK_congr hr]; exact h1
  · cases run with
    | true => rw [← opQ_congr hh (fun n hn => hr n (mem_looks hn))]; exact h2
    | false => exact h2

theorem yieldQ_of_step {tt : TT} {ops : Array Oper} {n i : Nat} {o : Oper} {K : St → Prop} (hi : ops[i]? = some o) (hn : i < n) (h : stepA P tt ops n i K s) : ∃ v, YieldQ P tt ops o v s ∧ K (s.put o.dst v) := by
  unfold stepA at h
  simp only [hi] at h
  obtain ⟨run, h, hg⟩ := guardK_ex _ h
  cases run with
  | true =>
    simp only [hn, decide_true] at h
    obtain ⟨v, h1, h2⟩ := ex_opQ P tt s o _ h
    obtain ⟨g1, g2⟩ := putK_iff.1 h1
    exact ⟨v, ⟨g1, true, hg, h2⟩, g2⟩
  | false =>
    simp only at h
    obtain ⟨g1, g2⟩ := putK_iff.1 h
    exact ⟨.one .undef, ⟨g1, false, hg, rfl⟩, g2⟩

theorem step_put {tt : TT} {ops : Array Oper} {n j : Nat} {oi oj : Oper} {v : PV} (hj : ops[j]? = some oj) (hn : j < n) (hap : oi.apart ops oj = true) {K : St → Prop} (hy : YieldQ P tt ops oi v s) (h : stepA P tt ops n j K (s.put oi.dst v)) :
    stepA P tt ops n j (fun s' => YieldQ P tt ops oi v s' ∧ K (s'.put oi.dst v)) s := by
  obtain ⟨h1, h2, h3⟩ := Oper.apart_spec hap
  obtain ⟨u, hu, hk⟩ := yieldQ_of_step hj hn h
  have hu' : YieldQ P tt ops oj u s := hu.of_same (St.put_heap _ _ _) (fun m hm => St.put_get fun e he => fun e2 => h1 e he (e2 ▸ hm)) St.has_put.symm
  refine hu'.step hj hn ⟨hy.of_same (St.put_heap _ _ _).symm (fun m hm => (St.put_get fun e he => fun e2 => h3 e he (e2 ▸ hm)).symm) St.has_put, ?_⟩
  rw [← St.put_comm h2]
  exact hk

theorem stepA_mono {tt : TT} {ops : Array Oper} {n i : Nat} (hn : i < n) {K K' : St → Prop} (hk : ∀ s, K s → K' s) (h : stepA P tt ops n i K s) : stepA P tt ops n i K' s := by
  cases ho : ops[i]? with
  | none => unfold stepA at h ⊢; simp only [ho] at h ⊢; exact hk _ h
  | some o =>
    obtain ⟨v, h1, h2⟩ := yieldQ_of_step ho hn h
    exact h1.step ho hn (hk _ h2)

theorem anyA_first {tt : TT} {ops : Array Oper} {n : Nat} {K : St → Prop} {i : Nat} {oi : Oper} {v : PV} (hi : ops[i]? = some oi) (hin : i < n) :
    ∀ (f : Nat) (listed : Array Bool) (s : St),
      (∀ j oj, ops[j]? = some oj → j ≠ i → listed.getD j true = false → waitsFor oj i = false → j < n ∧ oi.apart ops oj = true) →
      i ∈ Region.ready .any ops listed → YieldQ P tt ops oi v s →
      anyA P tt ops n K f (listed.setIfInBounds i true) (s.put oi.dst v) → anyA P tt ops n K (f + 1) listed s := by
  intro f
  induction f with
  | zero =>
    intro listed s _ hr hy H
    refine ⟨fun h => (by rw [h] at hr; cases hr), fun j hj => ?_⟩
    by_cases hji : j = i
    · subst hji; exact hy.step hi hin H
    · have := ready_mono hj hji
      rw [H.1] at this
      cases this
  | succ f ih =>
    intro listed s hfree hr hy H
    refine ⟨fun h => (by rw [h] at hr; cases hr), fun j hj => ?_⟩
    by_cases hji : j = i
    · subst hji; exact hy.step hi hin H
    · have h1 := H.2 j (ready_mono hj hji)
      obtain ⟨hjun, oj, hoj, hall⟩ := mem_ready.1 hj
      have hnot : waitsFor oj i = false := by
        unfold waitsFor
        rw [← Bool.not_eq_true, Array.any_eq_true']
        rintro ⟨e, he, hb⟩
        simp only [Bool.and_eq_true, beq_iff_eq] at hb
        have h1 := hall e he hb.1
        have h0 := (mem_ready.1 hr).1
        rw [hb.2] at h1
        rcases Nat.lt_or_ge i listed.size with h' | h'
        · simp [h'] at h0 h1; rw [h0] at h1; cases h1
        · simp [Array.getElem?_eq_none h'] at h1
      obtain ⟨hjn, hap⟩ := hfree j oj hoj hji hjun hnot
      have h2 := step_put hoj hjn hap hy h1
      have hfree' : ∀ k ok, ops[k]? = some ok → k ≠ i → (listed.setIfInBounds j true).getD k true = false → waitsFor ok i = false → k < n ∧ oi.apart ops ok = true := fun k ok hk hki hun hno => by
        refine hfree k ok hk hki ?_ hno
        by_cases hjk : j = k
        · subst hjk; exact hjun
        · rw [getD_set_ne true hjk] at hun; exact hun
      refine stepA_mono hjn (fun s' h3 => ih (listed.setIfInBounds j true) s' hfree' (ready_mono hr (Ne.symm hji)) h3.1 ?_) h2
      rw [Array.setIfInBounds_comm _ _ hji]
      exact h3.2

/-! ### what follows may be weakened -/
def Mon {α : Type} (F : (α → Prop) → Prop) : Prop := ∀ K K' : α → Prop, (∀ x, K x → K' x) → F K → F K'
theorem Ex1.mon {α : Type} {F : (α → Prop) → Prop} (h : Ex1 F) : Mon F := fun K K' hk hf => by
  obtain ⟨x, h1, h2⟩ := h K hf
  exact h2 K' (hk x h1)
theorem killK_mon (k : Nat) (s : St) : Mon (killK k s) := by
  obtain ⟨s', h⟩ := killK_fn k s
  exact fun K K' hk hf => (h K').2 (hk _ ((h K).1 hf))
theorem newK_mon (k : Nat) (o : Ob) (s : St) : Mon (newK k o s) := fun K K' hk hf => by
  obtain ⟨s', h⟩ := newK_fnD hf
  exact (h K').2 (hk _ ((h K).1 hf))
theorem newsK_mon (d : Nat) (h : Heap) (s : St) : Mon (newsK d h s) := fun K K' hk hf => by
  obtain ⟨s', hs⟩ := newsK_fn hf
  exact (hs K').2 (hk _ ((hs K).1 hf))
theorem renK_mon (k k2 : Nat) (s : St) : Mon (renK k k2 s) := fun K K' hk hf => by
  unfold renK at hf ⊢
  split at hf
  · exact hk _ hf
  · split at hf
    · exact hf.elim
    · refine killK_mon _ _ _ _ (fun s h => ?_) hf
      split at h
      · simp only [force_eq] at h ⊢; exact hk _ h
      · exact h
theorem frzK_mon (k : Nat) (s : St) : Mon (frzK k s) := fun K K' hk hf => by
  unfold frzK at hf ⊢
  split at hf
  · simp only [force_eq] at hf ⊢; exact hk _ hf
  · simp only [force_eq] at hf ⊢; exact hk _ hf
  · split at hf
    · simp only [force_eq] at hf ⊢; exact hk _ hf
    · exact hf
  · exact hk _ hf
theorem frzKeys_mon : ∀ (n : Nat) (ks : List Nat) (s : St), Mon (frzKeys n ks s) := by
  intro n
  induction n with
  | zero => intro ks s K K' hk hf; cases ks with | nil => exact hk _ hf | cons _ _ => exact hf
  | succ n ih =>
    intro ks s K K' hk hf
    cases ks with
    | nil => exact hk _ hf
    | cons k ks =>
      simp only [frzKeys] at hf ⊢
      split at hf
      · exact ih _ _ _ _ (fun s h => frzK_mon _ _ _ _ (fun s h => ih _ _ _ _ hk h) h) hf
      · exact frzK_mon _ _ _ _ (fun s h => ih _ _ _ _ hk h) hf
theorem dstK_mon (o : Oper) : Mon (dstK o) := fun K K' hk hf => by
  unfold dstK at hf ⊢
  split at hf
  · exact hk _ hf
  · exact hf
theorem rowsOf_mon (h : Heap) (sz : Nat) (v : PV) : Mon (rowsOf h sz v) := fun K K' hk hf => by
  unfold rowsOf at hf ⊢
  split at hf
  · split at hf
    · exact hk _ hf
    · exact hf
  · exact hk _ hf
  · split at hf
    · exact hk _ hf
    · exact hf
  · split at hf
    · split at hf
      · exact hk _ hf
      · exact hf
    · exact hf
  · split at hf
    · split at hf
      · exact hk _ hf
      · exact hf
    · exact hf
  · exact hf

theorem setK'_mon (k : Nat) (o : Ob) (s : St) : Mon (setK' k o s) := fun K K' hk hf => by
  rw [setK'_iff] at hf ⊢; exact hk _ hf
theorem backK_mon (out : Heap) : ∀ (ks : List Nat) (i : Nat) (s : St), Mon (backK out ks i s)
  | [], i, s => fun K K' hk hf => hk _ hf
  | k :: ks, i, s => fun K K' hk hf => by
    simp only [backK] at hf ⊢
    split at hf
    · split at hf
      · exact ⟨hf.a, setK'_mon _ _ _ _ _ (fun s h => backK_mon out ks _ s _ _ hk h) hf.b⟩
      · exact hf
    · exact hf

theorem absorbK_mono {m : Bool} : ∀ {xs : List XV} {s : St} {K K' : List CV → St → Prop}, (∀ ys s, K ys s → K' ys s) → absorbK m xs s K → absorbK m xs s K'
  | [], s, K, K', hk, h => hk _ _ h
  | x :: xs, s, K, K', hk, h => by
    cases x <;> simp only [absorbK] at h ⊢
    · split at h
      · exact absorbK_mono (fun ys s h => hk _ _ h) h
      · exact h
    · exact absorbK_mono (fun ys s h => hk _ _ h) h
    · split at h
      · refine ⟨h.a, ?_⟩
        replace h := h.b
        cases m with
        | true => exact killK_mon _ _ _ _ (fun s h => absorbK_mono (fun ys s h => hk _ _ h) h) h
        | false => exact killK_mon _ _ _ _ (fun s h => absorbK_mono (fun ys s h => hk _ _ h) h) h
      · exact h
    · split at h
      · exact killK_mon _ _ _ _ (fun s h => absorbK_mono (fun ys s h => hk _ _ h) h) h
      · exact h

theorem absK_mono {m : Bool} {xs : List XV} {s : St} {K K' : List CV → St → Prop} (hk : ∀ ys s, K ys s → K' ys s) (h : absK m xs s K) : absK m xs s K' := by
  unfold absK at h ⊢
  split at h
  · exact absorbK_mono hk h
  · exact h

theorem storeD_mono {k r o n : Nat} {xs : List XV} {K K' : St → Prop} (hk : ∀ s, K s → K' s) (h : storeD k r o n xs s K) : storeD k r o n xs s K' := by
  unfold storeD at h ⊢
  refine absK_mono (fun ys s h => ?_) h
  split at h
  · split at h
    · exact setK'_mon _ _ _ _ _ hk h
    · obtain ⟨row, hr, h⟩ := h
      exact ⟨row, hr, setK'_mon _ _ _ _ _ hk h⟩
  · exact h

theorem callD_mono {g : Nat} {caps : List CV} {vs : List PV} {K K' : PV → St → Prop} (hk : ∀ v s, K v s → K' v s) (h : callD P g caps vs s K) : callD P g caps vs s K' := by
  unfold callD at h ⊢
  split at h
  · simp only at h ⊢
    split at h
    · obtain ⟨r, hs, h⟩ := h
      refine ⟨r, hs, ?_⟩
      split at h
      · refine backK_mon _ _ _ _ _ _ (fun s h => ?_) h
        simp only [forceP_eq] at h ⊢; exact hk _ _ h
      · exact h
    · exact h
  · refine ⟨h.a, ?_⟩
    replace h := h.b
    split at h
    · obtain ⟨p, hp, h⟩ := h
      refine ⟨p, hp, ?_⟩
      obtain ⟨q, hq, h⟩ := h
      refine ⟨q, hq, ?_⟩
      split at h
      · split at h
        · refine ⟨h.a, setK'_mon _ _ _ _ _ (fun s h => ?_) h.b⟩
          simp only [forceP_eq] at h ⊢; exact hk _ _ h
        · exact h
      · exact h
    · exact h

theorem callR_mono {tt : TT} {g : Nat} {caps : List CV} {args : List Operand} {ts : List TypeId} {dst : Option Nat} {vs : List PV} {K K' : PV → St → Prop} (hk : ∀ v s, K v s → K' v s) (h : callR P tt s g caps args ts dst vs K) : callR P tt s g caps args ts dst vs K' := by
  unfold callR at h ⊢
  refine frzKeys_mon _ _ _ _ _ (fun s' h => (ex_args _ _ _ _).mon _ _ (fun vs' h => ?_) h) h
  split at h
  · obtain ⟨r, hs, h⟩ := h
    refine ⟨r, hs, ?_⟩
    split at h
    · simp only [forceP_eq] at h ⊢; exact hk _ _ h
    · simp only [forceP_eq] at h ⊢; exact hk _ _ h
    · split at h
      · refine newsK_mon _ _ _ _ _ (fun s h => ?_) h
        simp only [forceP_eq] at h ⊢; exact hk _ _ h
      · split at h
        · refine ⟨h.a, newsK_mon _ _ _ _ _ (fun s h => ?_) h.b⟩
          simp only [forceP_eq] at h ⊢; exact hk _ _ h
        · refine newsK_mon _ _ _ _ _ (fun s h => ?_) h
          simp only [forceP_eq] at h ⊢; exact hk _ _ h
    · exact hk _ _ h
  · exact h

theorem sameShape_mono {o o' : Ob} {A B : Prop} (hk : A → B) (h : sameShapeK o o' A) : sameShapeK o o' B := by
  unfold sameShapeK at h ⊢
  split at h
  · split at h
    · exact hk h
    · exact h
  · split at h
    · exact ⟨h.a, hk h.b⟩
    · exact h
  · split at h
    · exact ⟨h.a, hk h.b⟩
    · exact h
  · split at h
    · exact ⟨h.a, hk h.b⟩
    · exact h
  · exact h
theorem mergeK_mono {τ : List (Nat × Nat)} {H3 : Heap} {K K' : Heap → Prop} (hk : ∀ h, K h → K' h) : ∀ {r : List (Nat × Nat)} {h : Heap}, mergeK τ r H3 h K → mergeK τ r H3 h K'
  | [], h, hK => hk h hK
  | (x, y) :: r, h, hK => by
    simp only [mergeK] at hK ⊢
    split at hK
    · split at hK
      · exact sameShape_mono (mergeK_mono hk) hK
      · exact mergeK_mono hk hK
    · exact hK
theorem callX_mono {g : Nat} {extra vs : List PV} {dst : Option Nat} {K K' : PV → St → Prop} (hk : ∀ v s, K v s → K' v s) (h : callX P s g extra vs dst K) : callX P s g extra vs dst K' := by
  unfold callX at h ⊢
  simp only [forceNs_eq, forceN_eq, forceH_eq, forceR_eq, force_eq, forceP_eq] at h ⊢
  split at h
  · obtain ⟨r, hs, h⟩ := h
    refine ⟨r, hs, ?_⟩
    split at h
    · exact mergeK_mono (fun h hK => hk _ _ hK) h
    · exact h
  · exact h
theorem callE_mono {tt : TT} {g : Nat} {caps : List CV} {args : List Operand} {ts : List TypeId} {dst : Option Nat} {vs : List PV} {K K' : PV → St → Prop} (hk : ∀ v s, K v s → K' v s) (h : callE P tt s g caps args ts dst vs K) : callE P tt s g caps args ts dst vs K' := by
  unfold callE at h ⊢
  split at h
  · exact callR_mono hk h
  · cases h with
    | r h => exact .r (callR_mono hk h)
    | x h => exact .x (callX_mono hk h)

theorem flatKeys_mon : ∀ (ks : List Nat) (s : St), Mon (flatKeys ks s)
  | [], s => fun K K' hk hf => hk _ hf
  | k :: ks, s => fun K K' hk hf => by
    simp only [flatKeys] at hf ⊢
    unfold flatK at hf ⊢
    split at hf
    · rw [force_eq] at hf ⊢
      exact flatKeys_mon ks _ _ _ hk hf
    · exact flatKeys_mon ks _ _ _ hk hf
theorem appendT_mono {t t2 : TI} {k b r j : Nat} {u : PV} {K K' : PV → St → Prop} (hk : ∀ v s, K v s → K' v s) (h : appendT t t2 k s b r j u K) : appendT t t2 k s b r j u K' := by
  unfold appendT at h ⊢
  split at h
  · refine rowsOf_mon _ _ _ _ _ (fun es h => ?_) h
    split at h
    · obtain ⟨p, hp, h⟩ := h
      refine ⟨p, hp, h.a, ?_⟩
      have := h.b
      simp only [forceH_eq] at this ⊢
      exact hk _ _ this
    · exact h
  · exact h
theorem callM_mono {tt : TT} {f : PV} {args : List Operand} {ts : List TypeId} {dst : Option Nat} {K K' : PV → St → Prop} (hk : ∀ v s, K v s → K' v s) (h : callM P tt s f args ts dst K) : callM P tt s f args ts dst K' := by
  unfold callM at h ⊢
  split at h
  · refine (ex_args _ _ _ _).mon _ _ (fun vs h => ?_) h
    split at h
    · obtain ⟨m, hm, h⟩ := h
      refine ⟨m, hm, ?_⟩
      match m, h with
      | some true, h => exact callD_mono hk h
      | some false, h => exact callE_mono hk h
      | none, h => exact flatKeys_mon _ _ _ _ (fun s h => (ex_args _ _ _ _).mon _ _ (fun vs h => callE_mono hk h) h) h
    · exact callE_mono hk h
  · exact (ex_args _ _ _ _).mon _ _ (fun vs h => callX_mono hk h) h
  · exact h

theorem shrinkK_mono {k k2 l : Nat} {K K' : St → Prop} (hk : ∀ s, K s → K' s) (h : shrinkK k k2 l s K) : shrinkK k k2 l s K' := by
  unfold shrinkK at h ⊢
  split at h
  · exact killK_mon _ _ _ _ (fun s h => newK_mon _ _ _ _ _ (fun s h => hk _ h) h) h
  · exact h
theorem appendZ_mono {t : TI} {k : Nat} {x y : PV} {K K' : PV → St → Prop} (hk : ∀ v s, K v s → K' v s) (h : appendZ t k s x y K) : appendZ t k s x y K' := by
  unfold appendZ at h ⊢
  split at h
  · unfold intIx at h ⊢
    split at h
    · split at h
      · exact ⟨h.a, newK_mon _ _ _ _ _ (fun s h => hk _ _ h) h.b⟩
      · exact h
    · exact h
  · exact h
theorem capM_mono {h0 : Heap} {t : TI} {v : PV} {K K' : PV → Prop} (hk : ∀ v, K v → K' v) (h : capM h0 t v K) : capM h0 t v K' := by
  unfold capM at h ⊢
  split at h
  · exact hk _ h
  · exact fun c hc => hk _ (h c hc)
  · split at h
    · exact fun c hc => hk _ (h c hc)
    · exact h
  · exact h

theorem appendD_mono {t : TI} {k2 k ky : Nat} {K K' : PV → St → Prop} (hk : ∀ v s, K v s → K' v s) (h : appendD t k2 s k ky K) : appendD t k2 s k ky K' := by
  unfold appendD at h ⊢
  split at h
  · split at h
    · split at h
      · exact ⟨h.a, killK_mon _ _ _ _ (fun s h => killK_mon _ _ _ _ (fun s h => newK_mon _ _ _ _ _ (fun s h => hk _ _ h) h) h) h.b⟩
      · exact h
    · exact h
  · exact h

theorem appendM_mono {t t2 : TI} {k2 : Nat} {x y : PV} {K K' : PV → St → Prop} (hk : ∀ v s, K v s → K' v s) (h : appendM t t2 k2 s x y K) : appendM t t2 k2 s x y K' := by
  unfold appendM at h ⊢
  split at h
  · refine rowsOf_mon _ _ _ _ _ (fun es h => ?_) h
    split at h
    · split at h
      · exact ⟨h.a, newK_mon _ _ _ _ _ (fun s h => hk _ _ h) h.b⟩
      · exact h
    · split at h
      · split at h
        · exact ⟨h.a, killK_mon _ _ _ _ (fun s h => newK_mon _ _ _ _ _ (fun s h => hk _ _ h) h) h.b⟩
        · exact h
      · exact h
    · split at h
      · split at h
        · exact ⟨h.a, killK_mon _ _ _ _ (fun s h => newK_mon _ _ _ _ _ (fun s h => hk _ _ h) h) h.b⟩
        · exact h
      · exact h
    · split at h
      · split at h
        · exact ⟨h.a, killK_mon _ _ _ _ (fun s h => newK_mon _ _ _ _ _ (fun s h => hk _ _ h) h) h.b⟩
        · exact h
      · exact h
    · exact h
  · exact h

theorem boxM_mono {k : Nat} {xs : List XV} {K K' : PV → St → Prop} (hk : ∀ v s, K v s → K' v s) (h : boxM k xs s K) : boxM k xs s K' := by
  unfold boxM at h ⊢
  split at h
  · exact newK_mon _ _ _ _ _ (fun s h => hk _ _ h) h
  · exact h

theorem storeM_mono {tt : TT} {t : TypeId} {x y : Operand} {K K' : St → Prop} (hk : ∀ s, K s → K' s) (h : storeM tt t x y s K) : storeM tt t x y s K' := by
  unfold storeM at h ⊢
  split at h
  · exact h
  · refine (ex_opd _ _ _).mon _ _ (fun p h => (ex_opd _ _ _).mon _ _ (fun v h => ?_) h) h
    split at h
    · split at h
      · split at h
        · simp only [forceXs_eq, forceH_eq] at h ⊢
          split at h
          · exact renK_mon _ _ _ _ _ hk h
          · exact hk _ h
        · exact h
      · exact h
    · refine frzKeys_mon _ _ _ _ _ (fun s h => (ex_opd _ _ _).mon _ _ (fun p h => (ex_opd _ _ _).mon _ _ (fun v h => ?_) h) h) h
      split at h
      · split at h
        · split at h
          · split at h
            · simp only [forceH_eq] at h ⊢; exact hk _ h
            · obtain ⟨row, hr, h⟩ := h
              refine ⟨row, hr, ?_⟩
              simp only [forceH_eq] at h ⊢; exact hk _ h
          · exact h
        · exact h
      · exact h
    · split at h
      · exact storeD_mono hk h
      · exact h
    · exact h

theorem opM_mono {tt : TT} {o : Oper} {K K' : PV → St → Prop} (hk : ∀ v s, K v s → K' v s) (h : opM P tt s o K) : opM P tt s o K' := by
  have fall : ∀ {s1 : St}, opQ P tt s1 o (fun v => K v s1) → opQ P tt s1 o (fun v => K' v s1) := fun h => (ex_opQ P tt _ o).mon _ _ (fun v h => hk _ _ h) h
  cases hop : o.op <;> simp only [opM, hop] at h ⊢
  case assign x =>
    refine (ex_opd _ _ _).mon _ _ (fun v h => ?_) h
    unfold assignM at h ⊢
    split at h
    · rename_i x
      cases x with
      | nil sz => exact dstK_mon _ _ _ (fun k h => newK_mon _ _ _ _ _ (fun s h => hk _ _ h) h) h
      | rs k =>
        simp only at h ⊢
        split at h
        · exact hk _ _ h
        · exact dstK_mon _ _ _ (fun k h => renK_mon _ _ _ _ _ (fun s h => hk _ _ h) h) h
      | ds k =>
        simp only at h ⊢
        split at h
        · exact hk _ _ h
        · exact dstK_mon _ _ _ (fun k h => renK_mon _ _ _ _ _ (fun s h => hk _ _ h) h) h
      | ru k off l =>
        simp only at h ⊢
        split at h
        · cases h with
          | r h => exact .r (hk _ _ h)
          | x h => exact .x (dstK_mon _ _ _ (fun k h => shrinkK_mono (fun s h => hk _ _ h) h) h)
        · exact hk _ _ h
      | _ => exact hk _ _ h
    · exact hk _ _ h
  case alloc t =>
    refine dstK_mon _ _ _ (fun k h => ?_) h
    split at h
    · exact h
    · exact newK_mon _ _ _ _ _ (fun s h => boxM_mono hk h) h
    · exact boxM_mono hk h
  case box t x =>
    refine dstK_mon _ _ _ (fun k h => (ex_opd _ _ _).mon _ _ (fun v h => ?_) h) h
    split at h
    · exact boxM_mono hk h
    · exact h
  case buildSlice t len ps =>
    split at h
    · refine (ex_parts _ _ _ _).mon _ _ (fun vs h => ?_) h
      have flat : ∀ {sz : Nat}, buildF tt t len sz ps.toList o vs s K → buildF tt t len sz ps.toList o vs s K' := fun {sz} h => by
        unfold buildF at h ⊢
        refine frzKeys_mon _ _ _ _ _ (fun s h => (ex_parts _ _ _ _).mon _ _ (fun vs h => ?_) h) h
        split at h
        · exact dstK_mon _ _ _ (fun k h => newK_mon _ _ _ _ _ (fun s h => hk _ _ h) h) h
        · exact h
      split at h
      · obtain ⟨m, hm, h⟩ := h
        refine ⟨m, hm, ?_⟩
        match m, h with
        | some false, h => exact flat h
        | some true, h =>
          simp only at h ⊢
          split at h
          · refine absK_mono (fun ys s h => ?_) h
            split at h
            · exact dstK_mon _ _ _ (fun k h => newK_mon _ _ _ _ _ (fun s h => hk _ _ h) h) h
            · exact h
          · exact h
        | none, h =>
          simp only at h ⊢
          split at h
          · refine absK_mono (fun ys s h => ?_) h
            split at h
            · exact dstK_mon _ _ _ (fun k h => newK_mon _ _ _ _ _ (fun s h => hk _ _ h) h) h
            · exact h
          · exact h
      · exact flat h
    · exact h
  case makeSlice t l c =>
    refine (ex_opd _ _ _).mon _ _ (fun vl h => (ex_opd _ _ _).mon _ _ (fun vc h => ?_) h) h
    have ii : ∀ (i : PV), Mon (intIx i) := fun i K K' hk h => by
      unfold intIx at h ⊢
      split at h
      · exact hk _ h
      · exact h
    refine ii _ _ _ (fun l h => ii _ _ _ (fun c h => ?_) h) h
    split at h
    · split at h
      · exact h
      · exact ⟨h.a, dstK_mon _ _ _ (fun k h => newK_mon _ _ _ _ _ (fun s h => hk _ _ h) h) h.b⟩
    · exact h
  case binOp op t x y yt =>
    split at h
    · refine (ex_opd _ _ _).mon _ _ (fun v h => ?_) h
      unfold nilM at h ⊢
      split at h
      · exact fun b hb => hk _ _ (h b hb)
      · exact hk _ _ h
      · split at h
        · exact fun b hb => hk _ _ (h b hb)
        · exact h
      · split at h
        · exact fun b hb => hk _ _ (h b hb)
        · exact h
      · exact h
    · exact fall h
  case store t x y => exact storeM_mono (fun s h => hk _ _ h) h
  case convert src dst x =>
    refine (ex_opd _ _ _).mon _ _ (fun v h => ?_) h
    split at h
    · exact ⟨h.a, dstK_mon _ _ _ (fun k h => newK_mon _ _ _ _ _ (fun s h => hk _ _ h) h) h.b⟩
    · exact hk _ _ h
    · exact h
    · refine rowsOf_mon _ _ _ _ _ (fun rows h => ?_) h
      obtain ⟨b, hb, h⟩ := h
      exact ⟨b, hb, hk _ _ h⟩
    · exact fall h
  case makeFunc fn first captured =>
    cases fn <;> (first | exact fall h | skip)
    simp only [opM] at h ⊢
    split at h
    · refine (ex_args _ _ _ _).mon _ _ (fun vs h => ?_) h
      unfold makeM at h ⊢
      split at h
      · obtain ⟨m, hm, h⟩ := h
        refine ⟨m, hm, ?_⟩
        cases m with
        | true => exact hk _ _ h
        | false => exact frzKeys_mon _ _ _ _ _ (fun s h => fall h) h
      · exact frzKeys_mon _ _ _ _ _ (fun s h => fall h) h
    · exact h
  case call c =>
    split at h
    · exact (ex_opd _ _ _).mon _ _ (fun g h => callM_mono hk h) h
    · unfold restM at h ⊢
      split at h
      · split at h
        · refine dstK_mon _ _ _ (fun k h => (ex_opd _ _ _).mon _ _ (fun v h => (ex_opd _ _ _).mon _ _ (fun u h => ?_) h) h) h
          split at h
          · exact appendZ_mono hk h
          · unfold appendA at h ⊢
            split at h
            · split at h
              · exact appendD_mono hk h
              · exact h
            · exact appendT_mono hk h
            · exact appendM_mono hk h
        · exact h
      · split at h
        · exact (ex_opd _ _ _).mon _ _ (fun g h => capM_mono (fun v h => hk _ _ h) h) h
        · exact h
      · exact fall h
    · exact fall h
  all_goals exact fall h

theorem stepA_monoM {tt : TT} {ops : Array Oper} {n i : Nat} {o : Oper} (ho : ops[i]? = some o) (hn : decide (i < n) = false) {K K' : St → Prop} (hk : ∀ s, K s → K' s) (h : stepA P tt ops n i K s) : stepA P tt ops n i K' s := by
  unfold stepA at h ⊢
  simp only [ho] at h ⊢
  obtain ⟨run, h1, h2⟩ := guardK_ex _ h
  refine h2 _ ?_
  rw [hn] at h1 ⊢
  cases run with
  | true => exact opM_mono (fun v s h => by rw [putK_iff] at h ⊢; exact ⟨h.1, hk _ h.2⟩) h1
  | false => simp only at h1 ⊢; exact putK_iff.2 ⟨(putK_iff.1 h1).1, hk _ (putK_iff.1 h1).2⟩

theorem anyA_of_anyM {tt : TT} {ops : Array Oper} {K : St → Prop} : ∀ (f : Nat) (listed : Array Bool) (s : St), anyM P tt ops K f listed s → anyA P tt ops 0 K f listed s
  | 0, listed, s, h => h
  | f + 1, listed, s, h => by
    obtain ⟨l, hl, h⟩ := h
    have key : ∀ (l : List Nat), bothK l (fun i => stepA P tt ops 0 i (anyM P tt ops K f (listed.setIfInBounds i true)) s) → ∀ i ∈ l, stepA P tt ops 0 i (anyA P tt ops 0 K f (listed.setIfInBounds i true)) s := fun l => by
      induction l with
      | nil => intro _ i hi; simp at hi
      | cons j l ih =>
        intro h i hi
        rcases List.mem_cons.1 hi with rfl | hi
        · have h1 := h.1
          cases ho : ops[i]? with
          | none => unfold stepA at h1 ⊢; simp only [ho] at h1 ⊢; exact anyA_of_anyM f _ s h1
          | some o => exact stepA_monoM ho (by simp) (fun s' hs => anyA_of_anyM f _ s' hs) h1
        · exact ih h.2 i hi
    refine ⟨fun h0 => ?_, fun i hi => ?_⟩
    · rw [hl] at h0
      subst h0
      exact h
    · rw [hl] at hi
      cases l with
      | nil => simp at hi
      | cons j l => exact key _ h i hi

variable (P) in
def lexA (tt : TT) (ops : Array Oper) (n : Nat) (K : St → Prop) : Nat → List Oper → St → Prop
  | _, [], s => K s
  | k, _ :: r, s => stepA P tt ops n k (lexA tt ops n K (k + 1) r) s

theorem stepA_mono' {tt : TT} {ops : Array Oper} {n i : Nat} {o : Oper} (ho : ops[i]? = some o) {K : St → Prop} {K1 : St → Prop} (hk : ∀ s, K s → K1 s) : (decide (i < n) = true → guardK ops.toList o s (fun run => match run with
      | true => opQ P tt s o fun v => putK o.dst v s K
      | false => putK o.dst (.one .undef) s K) → stepA P tt ops n i K1 s) := fun hn h => by
  unfold stepA
  simp only [ho]
  obtain ⟨run, h1, h2⟩ := guardK_ex _ h
  refine h2 _ ?_
  rw [hn]
  cases run with
  | true =>
    simp only at h1 ⊢
    obtain ⟨v, h3, h4⟩ := ex_opQ P tt s o _ h1
    exact h4 _ (putK_iff.2 ⟨(putK_iff.1 h3).1, hk _ (putK_iff.1 h3).2⟩)
  | false => simp only at h1 ⊢; exact putK_iff.2 ⟨(putK_iff.1 h1).1, hk _ (putK_iff.1 h1).2⟩

theorem regN_lex {tt : TT} {ops : Array Oper} {n : Nat} {K : St → Prop} : ∀ {r : List Oper} {i : Nat} {s : St}, (∀ j, r[j]? = ops[i + j]?) → n ≤ i → regN P tt ops.toList i r s K → lexA P tt ops n K i r s
  | [], i, s, _, _, h => h
  | o :: r, i, s, hr, hn, h => by
    have ho : ops[i]? = some o := by simpa using (hr 0).symm
    have hr' : ∀ j, r[j]? = ops[i + 1 + j]? := fun j => by
      have := hr (j + 1)
      rw [show i + 1 + j = i + (j + 1) by omega]; simpa using this
    simp only [regN] at h
    simp only [lexA, stepA, ho]
    obtain ⟨run, h1, h2⟩ := guardK_ex _ h
    refine h2 _ ?_
    have hni : decide (i < n) = false := by simpa using hn
    rw [hni]
    cases run with
    | true =>
      simp only at h1 ⊢
      refine opM_mono (fun v s' h => ?_) h1
      have := splitK_sound h
      rw [putK_iff] at this ⊢
      exact ⟨this.1, regN_lex hr' (by omega) this.2⟩
    | false => simp only at h1 ⊢; exact putK_iff.2 ⟨(putK_iff.1 h1).1, regN_lex hr' (by omega) (putK_iff.1 h1).2⟩

theorem regQ_lex {tt : TT} {ops : Array Oper} {n : Nat} {K K0 : St → Prop} {l2 : List Oper} : ∀ {r : List Oper} {i : Nat} {s : St}, (∀ j, (r ++ l2)[j]? = ops[i + j]?) → i + r.length ≤ n → (∀ s', K0 s' → lexA P tt ops n K (i + r.length) l2 s') → regQ P tt ops.toList i r s K0 → lexA P tt ops n K i (r ++ l2) s
  | [], i, s, _, _, hk, h => by simpa using hk s h
  | o :: r, i, s, hr, hn, hk, h => by
    have ho : ops[i]? = some o := by simpa using (hr 0).symm
    simp only [List.length_cons] at hn hk
    have hr' : ∀ j, (r ++ l2)[j]? = ops[i + 1 + j]? := fun j => by
      have := hr (j + 1)
      rw [show i + 1 + j = i + (j + 1) by omega]; simpa using this
    simp only [regQ] at h
    show lexA P tt ops n K i (o :: (r ++ l2)) s
    simp only [lexA]
    refine stepA_mono' ho (K := fun s => regQ P tt ops.toList (i + 1) r s K0) (fun s' h => regQ_lex hr' (by omega) (fun s h => by have := hk s h; rwa [show i + 1 + r.length = i + (r.length + 1) by omega]) h) (by simp; omega) ?_
    obtain ⟨run, h1, h2⟩ := guardK_ex _ h
    refine h2 _ ?_
    cases run with
    | true =>
      simp only at h1 ⊢
      obtain ⟨v, h3, h4⟩ := ex_opQ P tt s o _ h1
      exact h4 _ (splitK_sound h3)
    | false => exact h1

theorem anyA_lex {tt : TT} {ops : Array Oper} {n : Nat} {K : St → Prop} (hd : drawB ops n = true) : ∀ {r : List Oper} {k : Nat} {listed : Array Bool} {s : St}, (∀ j, r[j]? = ops[k + j]?) → k + r.length = ops.size → listed.size = ops.size → (∀ j, j < ops.size → listed.getD j true = decide (j < k)) →
    lexA P tt ops n K k r s → anyA P tt ops n K r.length listed s
  | [], k, listed, s, _, hk, hsz, hl, h => by
    refine ⟨?_, h⟩
    cases hr : Region.ready .any ops listed with
    | nil => rfl
    | cons i l =>
      exfalso
      have hm : i ∈ Region.ready .any ops listed := by rw [hr]; simp
      obtain ⟨hun, o, ho, _⟩ := mem_ready.1 hm
      have hlt : i < ops.size := (Array.getElem?_eq_some_iff.1 ho).1
      rw [hl i hlt] at hun
      simp at hk hun; omega
  | o :: r, k, listed, s, hr, hk, hsz, hl, h => by
    simp only [List.length_cons] at hk ⊢
    have ho : ops[k]? = some o := by simpa using (hr 0).symm
    have hr' : ∀ j, r[j]? = ops[k + 1 + j]? := fun j => by
      have := hr (j + 1)
      rw [show k + 1 + j = k + (j + 1) by omega]; simpa using this
    have hklt : k < ops.size := by omega
    have hd2 := hd
    simp only [drawB, Bool.and_eq_true, List.all_eq_true, List.mem_range] at hd2
    replace hd2 := hd2.2
    have hchk : ∀ i oi, ops[i]? = some oi → (∀ e ∈ oi.after, Region.binds .any e = true → e.on < i) ∧ (i < n → ∀ j oj, ops[j]? = some oj → i < j → waitsFor oj i = true ∨ oi.apart ops oj = true) ∧ (n ≤ i → ∀ j, j < i → waitsFor oi j = true) := fun i oi hi => by
      have hilt : i < ops.size := (Array.getElem?_eq_some_iff.1 hi).1
      have := hd2 i hilt
      simp only [hi, Bool.and_eq_true] at this
      obtain ⟨h1, h2⟩ := this
      refine ⟨fun e he hb => ?_, fun hin j oj hj hij => ?_, fun hni j hj => ?_⟩
      · have := (Array.all_eq_true_iff_forall_mem.1 h1) e he
        simpa [hb] using this
      · rw [if_pos hin] at h2
        have hjlt : j < ops.size := (Array.getElem?_eq_some_iff.1 hj).1
        have := List.all_eq_true.1 h2 j (List.mem_range.2 hjlt)
        simp only [hj, Bool.or_eq_true, decide_eq_true_eq] at this
        rcases this with h | h
        · omega
        · exact h
      · rw [if_neg (by omega)] at h2
        exact List.all_eq_true.1 h2 j (List.mem_range.2 hj)
    have hready : k ∈ Region.ready .any ops listed := by
      refine mem_ready.2 ⟨by rw [hl k hklt]; simp, o, ho, fun e he hb => ?_⟩
      have hlt := (hchk k o ho).1 e he hb
      have h1 := hl e.on (by omega)
      have h2 : e.on < listed.size := by omega
      simp only [Array.getD_eq_getD_getElem?, Array.getElem?_eq_getElem h2, Option.getD_some] at h1 ⊢
      rw [h1]; simpa using hlt
    have hl' : ∀ j, j < ops.size → (listed.setIfInBounds k true).getD j true = decide (j < k + 1) := fun j hj => by
      by_cases e : k = j
      · subst e
        have : k < listed.size := by omega
        simp [Array.getD_eq_getD_getElem?, this]
      · rw [getD_set_ne true e, hl j hj]
        by_cases h : j < k
        · simp [h]; omega
        · simp [h]; omega
    simp only [lexA] at h
    by_cases hkn : k < n
    · obtain ⟨v, hy, hK⟩ := yieldQ_of_step ho hkn h
      refine anyA_first ho hkn r.length listed s (fun j oj hj hjk hun hno => ?_) hready hy (anyA_lex hd hr' (by omega) (by simpa using hsz) hl' hK)
      have hjlt : j < ops.size := (Array.getElem?_eq_some_iff.1 hj).1
      rw [hl j hjlt] at hun
      have hkj : k < j := by simp at hun; omega
      have hjn : j < n := by
        rcases Nat.lt_or_ge j n with h | h
        · exact h
        · have := (hchk j oj hj).2.2 h k hkj
          rw [hno] at this; cases this
      refine ⟨hjn, ?_⟩
      rcases (hchk k o ho).2.1 hkn j oj hj hkj with h | h
      · rw [hno] at h; cases h
      · exact h
    · refine ⟨fun h => (by rw [h] at hready; cases hready), fun i hi => ?_⟩
      have hik : i = k := by
        obtain ⟨hun, oi, hoi, hall⟩ := mem_ready.1 hi
        have hilt : i < ops.size := (Array.getElem?_eq_some_iff.1 hoi).1
        rw [hl i hilt] at hun
        rcases Nat.lt_or_ge k i with h | h
        · exfalso
          have hw := (hchk i oi hoi).2.2 (by omega) k h
          unfold waitsFor at hw
          obtain ⟨e, he, hb⟩ := Array.any_eq_true'.1 hw
          simp only [Bool.and_eq_true, beq_iff_eq] at hb
          have h1 := hall e he hb.1
          rw [hb.2] at h1
          have h2 := hl k hklt
          have h3 : k < listed.size := by omega
          simp only [Array.getD_eq_getD_getElem?, Array.getElem?_eq_getElem h3, Option.getD_some] at h1 h2
          rw [h1] at h2; simp at h2
        · simp at hun; omega
      subst hik
      have hkn' : decide (i < n) = false := by simpa using hkn
      refine stepA_monoM ho hkn' (fun s' h => ?_) h
      exact anyA_lex hd hr' (by omega) (by simpa using hsz) hl' h

end

end Go.Proofs.Ytjolahiflldepab.Pi
