/- Merged states, the reference and the program. No statement of the seat is proved here. -/
import Derived.Test.YtjolahiflldepabPiFMergeR
namespace Go.Proofs.Ytjolahiflldepab.Pi
open Go
set_option maxRecDepth 10000
set_option maxHeartbeats 1600000
set_option linter.unusedVariables false

def mergeE (base a b : List Setting) (t : ByteArray) : List Setting := if 0 ≤ mergeV base a b t then [⟨t, mergeV base a b t⟩] else []
def mergeL (base a b : List Setting) (ts : List ByteArray) : List Setting := ts.flatMap (mergeE base a b)
theorem mergeL_snoc (base a b : List Setting) (ts : List ByteArray) (t : ByteArray) : mergeL base a b (ts ++ [t]) = mergeL base a b ts ++ mergeE base a b t := by simp [mergeL]
theorem mergeL_len (base a b : List Setting) : ∀ ts : List ByteArray, (mergeL base a b ts).length ≤ ts.length
  | [] => by simp [mergeL]
  | t :: ts => by
    have h := mergeL_len base a b ts
    have h2 : (mergeE base a b t).length ≤ 1 := by unfold mergeE; split <;> simp
    have e : mergeL base a b (t :: ts) = mergeE base a b t ++ mergeL base a b ts := by simp [mergeL]
    rw [e, List.length_append, List.length_cons]; omega
def mergeF (base a b : List Setting) : List Setting := mergeL base a b (allN base a b)
def mergedOf (base a b : List Setting) : List Setting × Int :=
  if okS3 base a b then (if (confs base a b).length = 0 then (if (mergeF base a b).length ≤ 24 then (mergeF base a b, 0) else ([], 5)) else ([], 6)) else ([], 1)

theorem s_impl_MergeStates (base a b : List Setting) (o0 : Enc.ok base) (o1 : Enc.ok a) (o2 : Enc.ok b) : Sat Try.prog 18 [(false, Enc.enc base), (false, Enc.enc a), (false, Enc.enc b)]
    (.tup [(false, [.ds 0]), (false, [.c (.int .i64 (mergedOf base a b).2)])], [(0, .deep true 2 ((mergedOf base a b).1.map Enc.enc))]) := by
  refine Sat.intro tok mixed Try.func18 rfl rfl ?_
  ((conv => whnf); repeat ((first | refine B0 ?_ | refine B1 ?_ | refine D1 ?_ | refine D2 ?_ | refine CallC.r ?_); conv => whnf))
  refine Pick.mk _ (s_areStates [base, a, b] ⟨by simp [maxLen], by simp; exact ⟨o0, o1, o2⟩⟩) ?_
  ((conv => whnf); repeat ((first | refine B0 ?_ | refine B1 ?_ | refine D1 ?_ | refine D2 ?_ | refine CallC.r ?_); conv => whnf))
  refine Br.mk (fun h => ?_) (fun h => ?_) <;> ((conv => whnf); repeat ((first | refine B0 ?_ | refine B1 ?_ | refine D1 ?_ | refine D2 ?_ | refine CallC.r ?_); conv => whnf))
  · have hk : okS3 base a b = false := by
      simp only [okS3]
      simp only [List.any_cons, List.any_nil] at h
      revert h
      cases okState base <;> cases okState a <;> cases okState b <;> simp
    rw [show mergedOf base a b = ([], 1) by simp [mergedOf, hk]]
    exact ResOK.own rfl ⟨(fun r hr => nomatch hr), trivial⟩
  have hk : okS3 base a b = true := by
    simp only [okS3]
    simp only [List.any_cons, List.any_nil] at h
    revert h
    cases okState base <;> cases okState a <;> cases okState b <;> simp
  have hk2 := hk
  simp only [okS3, Bool.and_eq_true] at hk2
  obtain ⟨k0, k1, k2⟩ := hk2
  have l0 := okS_len k0
  have l1 := okS_len k1
  have l2 := okS_len k2
  have hal : (allN base a b).length ≤ 72 := Nat.le_trans (nameSet_len _) (by simp; omega)
  refine Pick.mk _ (s_conflictsOf base a b (okState_ord k0).1 (okState_ord k1).1 (okState_ord k2).1 l0 l1 l2) ?_
  ((conv => whnf); repeat ((first | refine B0 ?_ | refine B1 ?_ | refine D1 ?_ | refine D2 ?_ | refine CallC.r ?_); conv => whnf))
  refine Br.mk (fun h3 => ?_) (fun h3 => ?_) <;> ((conv => whnf); repeat ((first | refine B0 ?_ | refine B1 ?_ | refine D1 ?_ | refine D2 ?_ | refine CallC.r ?_); conv => whnf))
  · have hc : ¬ (confs base a b).length = 0 := by simp at h3; omega
    rw [show mergedOf base a b = ([], 6) by simp only [mergedOf, hk, if_true]; rw [if_neg hc]]
    exact ResOK.own rfl ⟨(fun r hr => nomatch hr), trivial⟩
  have hc : (confs base a b).length = 0 := by simp at h3; simp [h3]
  refine Pick.mk _ (s_allNames [base, a, b] (by simp) (by simp; omega)) ?_
  ((conv => whnf); repeat ((first | refine B0 ?_ | refine B1 ?_ | refine D1 ?_ | refine D2 ?_ | refine CallC.r ?_); conv => whnf))
  refine Pick.mk [0, 1, 2, 8, 28, 29, 30, 1001792] trivial ?_
  ((conv => whnf); repeat ((first | refine B0 ?_ | refine B1 ?_ | refine D1 ?_ | refine D2 ?_ | refine CallC.r ?_); conv => whnf))
  refine LoopL.over (fun (i : Nat) => [(30, .one (.c (.int .i64 ((i : Int)))))]) (fun (i : Nat) => [(512, .arr 2 (List.map Enc.enc (mergeL base a b ((allN base a b).take i))))]) (fun (i : Nat) => (allN base a b).length - i) (fun (i : Nat) => i ≤ (allN base a b).length) ?_ 0 (Nat.zero_le _)
  intro i hi ih
  ((conv => whnf); repeat ((first | refine B0 ?_ | refine B1 ?_ | refine D1 ?_ | refine D2 ?_ | refine CallC.r ?_); conv => whnf))
  refine Br.mk (fun h => ?_) (fun h => ?_) <;> ((conv => whnf); repeat ((first | refine B0 ?_ | refine B1 ?_ | refine D1 ?_ | refine D2 ?_ | refine CallC.r ?_); conv => whnf))
  · have h : i < (allN base a b).length := by simp only [List.length_map, decide_eq_true_eq] at h; exact Int.ofNat_lt.1 h
    have ht : (allN base a b).take (i + 1) = (allN base a b).take i ++ [(allN base a b)[i]] := by rw [List.take_add_one, List.getElem?_eq_getElem h]; rfl
    refine Pick.ix (xs := allN base a b) h ?_
    ((conv => whnf); repeat ((first | refine B0 ?_ | refine B1 ?_ | refine D1 ?_ | refine D2 ?_ | refine CallC.r ?_); conv => whnf))
    generalize (allN base a b)[i] = t at ht ⊢
    refine Pick.mk _ (s_valueOf a t (okState_ord k1).1 (by omega)) ?_
    ((conv => whnf); repeat ((first | refine B0 ?_ | refine B1 ?_ | refine D1 ?_ | refine D2 ?_ | refine CallC.r ?_); conv => whnf))
    refine Pick.mk _ (s_valueOf base t (okState_ord k0).1 (by omega)) ?_
    ((conv => whnf); repeat ((first | refine B0 ?_ | refine B1 ?_ | refine D1 ?_ | refine D2 ?_ | refine CallC.r ?_); conv => whnf))
    have hn := ih (i + 1) (by omega) (by omega)
    rw [ht, mergeL_snoc] at hn
    have hlen := mergeL_len base a b ((allN base a b).take i)
    rw [List.length_take] at hlen
    refine Br.mk (fun e1 => ?_) (fun e1 => ?_) <;> ((conv => whnf); repeat ((first | refine B0 ?_ | refine B1 ?_ | refine D1 ?_ | refine D2 ?_ | refine CallC.r ?_); conv => whnf))
    · refine Pick.mk _ (s_valueOf b t (okState_ord k2).1 (by omega)) ?_
      ((conv => whnf); repeat ((first | refine B0 ?_ | refine B1 ?_ | refine D1 ?_ | refine D2 ?_ | refine CallC.r ?_); conv => whnf))
      have hv : mergeV base a b t = valOf b t := by simp only [mergeV]; rw [if_pos e1]
      refine Br.mk (fun e2 => ?_) (fun e2 => ?_) <;> ((conv => whnf); repeat ((first | refine B0 ?_ | refine B1 ?_ | refine D1 ?_ | refine D2 ?_ | refine CallC.r ?_); conv => whnf))
      · refine Side.mk (by simp only [List.length_map, List.length_cons, List.length_nil]; omega) ?_
        ((conv => whnf); repeat ((first | refine B0 ?_ | refine B1 ?_ | refine D1 ?_ | refine D2 ?_ | refine CallC.r ?_); conv => whnf))
        refine Pick.at64 (z := (i + 1 : Nat)) (by simp) (by omega) ?_
        ((conv => whnf); repeat ((first | refine B0 ?_ | refine B1 ?_ | refine D1 ?_ | refine D2 ?_ | refine CallC.r ?_); conv => whnf))
        rw [show mergeE base a b t = [⟨t, valOf b t⟩] by simp only [mergeE, hv]; rw [if_pos (by simpa using e2)], List.map_append] at hn
        exact hn
      · refine Pick.at64 (z := (i + 1 : Nat)) (by simp) (by omega) ?_
        ((conv => whnf); repeat ((first | refine B0 ?_ | refine B1 ?_ | refine D1 ?_ | refine D2 ?_ | refine CallC.r ?_); conv => whnf))
        rw [show mergeE base a b t = [] by simp only [mergeE, hv]; rw [if_neg (by simpa using e2)], List.append_nil] at hn
        exact hn
    · have hv : mergeV base a b t = valOf a t := by simp only [mergeV]; rw [if_neg (by simpa using e1)]
      refine Br.mk (fun e2 => ?_) (fun e2 => ?_) <;> ((conv => whnf); repeat ((first | refine B0 ?_ | refine B1 ?_ | refine D1 ?_ | refine D2 ?_ | refine CallC.r ?_); conv => whnf))
      · refine Side.mk (by simp only [List.length_map, List.length_cons, List.length_nil]; omega) ?_
        ((conv => whnf); repeat ((first | refine B0 ?_ | refine B1 ?_ | refine D1 ?_ | refine D2 ?_ | refine CallC.r ?_); conv => whnf))
        refine Pick.at64 (z := (i + 1 : Nat)) (by simp) (by omega) ?_
        ((conv => whnf); repeat ((first | refine B0 ?_ | refine B1 ?_ | refine D1 ?_ | refine D2 ?_ | refine CallC.r ?_); conv => whnf))
        rw [show mergeE base a b t = [⟨t, valOf a t⟩] by simp only [mergeE, hv]; rw [if_pos (by simpa using e2)], List.map_append] at hn
        exact hn
      · refine Pick.at64 (z := (i + 1 : Nat)) (by simp) (by omega) ?_
        ((conv => whnf); repeat ((first | refine B0 ?_ | refine B1 ?_ | refine D1 ?_ | refine D2 ?_ | refine CallC.r ?_); conv => whnf))
        rw [show mergeE base a b t = [] by simp only [mergeE, hv]; rw [if_neg (by simpa using e2)], List.append_nil] at hn
        exact hn
  · have h : (allN base a b).length ≤ i := by
      simp only [List.length_map, decide_eq_false_iff_not] at h
      have hq : (nameSet [base, a, b].flatten).length = (allN base a b).length := rfl
      omega
    rw [List.take_of_length_le h]
    refine Br.mk (fun e3 => ?_) (fun e3 => ?_) <;> ((conv => whnf); repeat ((first | refine B0 ?_ | refine B1 ?_ | refine D1 ?_ | refine D2 ?_ | refine CallC.r ?_); conv => whnf))
    · have e3 : ¬ (mergeF base a b).length ≤ 24 := by simp only [List.length_map, decide_eq_true_eq] at e3; unfold mergeF; omega
      rw [show mergedOf base a b = ([], 5) by simp only [mergedOf, hk, hc, if_true]; rw [if_neg e3]]
      exact ResOK.own rfl ⟨(fun r hr => nomatch hr), trivial⟩
    · have e3 : (mergeF base a b).length ≤ 24 := by simp only [List.length_map, decide_eq_false_iff_not] at e3; unfold mergeF; omega
      rw [show mergedOf base a b = (mergeF base a b, 0) by simp only [mergedOf, hk, hc, if_true]; rw [if_pos e3]]
      exact ResOK.own rfl ⟨flat_set _, trivial⟩

theorem s_l27Merge (base a b : List Setting) (hk : okS3 base a b = true) : Sat Try.prog 49 [(false, Enc.enc base), (false, Enc.enc a), (false, Enc.enc b)]
    (.tup [(false, [.c (.slice 2 ((mergedOf base a b).1.map Enc.enc))]), (false, [.c (.int .i64 (mergedOf base a b).2)])], []) := by
  have hk2 := hk
  simp only [okS3, Bool.and_eq_true] at hk2
  obtain ⟨k0, k1, k2⟩ := hk2
  have l0 := okS_len k0
  have l1 := okS_len k1
  have l2 := okS_len k2
  have v0 := okS_vals k0
  have v1 := okS_vals k1
  have v2 := okS_vals k2
  have hne := names_ne k0 k1 k2
  have hal : (allN base a b).length ≤ 72 := Nat.le_trans (nameSet_len _) (by simp; omega)
  refine Sat.intro tok mixed Try.func49 rfl rfl ?_
  ((conv => whnf); repeat ((first | refine B0 ?_ | refine B1 ?_ | refine D1 ?_ | refine D2 ?_ | refine CallC.r ?_); conv => whnf))
  refine Pick.mk _ (s_l27Conflicts base a b v0 v1 v2 l0 l1 l2 hne) ?_
  ((conv => whnf); repeat ((first | refine B0 ?_ | refine B1 ?_ | refine D1 ?_ | refine D2 ?_ | refine CallC.r ?_); conv => whnf))
  refine Br.mk (fun h3 => ?_) (fun h3 => ?_) <;> ((conv => whnf); repeat ((first | refine B0 ?_ | refine B1 ?_ | refine D1 ?_ | refine D2 ?_ | refine CallC.r ?_); conv => whnf))
  · have hc : ¬ (confs base a b).length = 0 := by simp at h3; omega
    rw [show mergedOf base a b = ([], 6) by simp only [mergedOf, hk, if_true]; rw [if_neg hc]]
    exact ResOK.frz rfl rfl
  have hc : (confs base a b).length = 0 := by simp at h3; simp [h3]
  refine Pick.mk _ (s_l27Names base a b l0 l1 l2) ?_
  ((conv => whnf); repeat ((first | refine B0 ?_ | refine B1 ?_ | refine D1 ?_ | refine D2 ?_ | refine CallC.r ?_); conv => whnf))
  refine Pick.mk [0, 1, 2, 8, 9, 10, 1000512] trivial ?_
  ((conv => whnf); repeat ((first | refine B0 ?_ | refine B1 ?_ | refine D1 ?_ | refine D2 ?_ | refine CallC.r ?_); conv => whnf))
  refine LoopL.over (fun (i : Nat) => [(10, .one (.c (.int .i64 ((i : Int)))))]) (fun (i : Nat) => [(576, .arr 2 (List.map Enc.enc (mergeL base a b ((allN base a b).take i))))]) (fun (i : Nat) => (allN base a b).length - i) (fun (i : Nat) => i ≤ (allN base a b).length) ?_ 0 (Nat.zero_le _)
  intro i hi ih
  ((conv => whnf); repeat ((first | refine B0 ?_ | refine B1 ?_ | refine D1 ?_ | refine D2 ?_ | refine CallC.r ?_); conv => whnf))
  refine Br.mk (fun h => ?_) (fun h => ?_) <;> ((conv => whnf); repeat ((first | refine B0 ?_ | refine B1 ?_ | refine D1 ?_ | refine D2 ?_ | refine CallC.r ?_); conv => whnf))
  · have h : i < (allN base a b).length := by simp only [List.length_map, decide_eq_true_eq] at h; omega
    have ht : (allN base a b).take (i + 1) = (allN base a b).take i ++ [(allN base a b)[i]] := by rw [List.take_add_one, List.getElem?_eq_getElem h]; rfl
    have hte := hne _ (List.getElem_mem h)
    have hn := ih (i + 1) (by omega) (by omega)
    rw [ht, mergeL_snoc] at hn
    have hlen := mergeL_len base a b ((allN base a b).take i)
    rw [List.length_take] at hlen
    have hG := mergeG_eq v0 v1 v2 hte
    have hnil : (⟨#[]⟩ : ByteArray).toList = [] := by rw [ByteArray.toList_eq]
    refine Pick.ix (h) ?_
    ((conv => whnf); repeat ((first | refine B0 ?_ | refine B1 ?_ | refine D1 ?_ | refine D2 ?_ | refine CallC.r ?_); conv => whnf))
    refine Pick.mk _ (s_l27Get a (allN base a b)[i] v1 (by omega)) ?_
    ((conv => whnf); repeat ((first | refine B0 ?_ | refine B1 ?_ | refine D1 ?_ | refine D2 ?_ | refine CallC.r ?_); conv => whnf))
    refine Pick.ix (h) ?_
    ((conv => whnf); repeat ((first | refine B0 ?_ | refine B1 ?_ | refine D1 ?_ | refine D2 ?_ | refine CallC.r ?_); conv => whnf))
    refine Pick.mk _ (s_l27Get base (allN base a b)[i] v0 (by omega)) ?_
    ((conv => whnf); repeat ((first | refine B0 ?_ | refine B1 ?_ | refine D1 ?_ | refine D2 ?_ | refine CallC.r ?_); conv => whnf))
    refine Br.mk (fun e1 => ?_) (fun e1 => ?_) <;> ((conv => whnf); repeat ((first | refine B0 ?_ | refine B1 ?_ | refine D1 ?_ | refine D2 ?_ | refine CallC.r ?_); conv => whnf))
    · rw [sEq] at e1
      refine Pick.ix (h) ?_
      ((conv => whnf); repeat ((first | refine B0 ?_ | refine B1 ?_ | refine D1 ?_ | refine D2 ?_ | refine CallC.r ?_); conv => whnf))
      refine Pick.mk _ (s_l27Get b (allN base a b)[i] v2 (by omega)) ?_
      ((conv => whnf); repeat ((first | refine B0 ?_ | refine B1 ?_ | refine D1 ?_ | refine D2 ?_ | refine CallC.r ?_); conv => whnf))
      have hg : mergeG base a b (allN base a b)[i] = getS b (allN base a b)[i] := by simp only [mergeG, e1, if_true]
      rw [hg] at hG
      refine Br.mk (fun e2 => ?_) (fun e2 => ?_) <;> ((conv => whnf); repeat ((first | refine B0 ?_ | refine B1 ?_ | refine D1 ?_ | refine D2 ?_ | refine CallC.r ?_); conv => whnf))
      · rcases hG with ⟨g1, g2⟩ | ⟨g1, g2⟩
        · rw [g1, hnil] at e2; simp at e2
        refine Side.mk (by simp only [List.length_map, List.length_cons, List.length_nil]; omega) ?_
        ((conv => whnf); repeat ((first | refine B0 ?_ | refine B1 ?_ | refine D1 ?_ | refine D2 ?_ | refine CallC.r ?_); conv => whnf))
        refine Pick.at64 (z := (i + 1 : Nat)) (by simp) (by omega) ?_
        ((conv => whnf); repeat ((first | refine B0 ?_ | refine B1 ?_ | refine D1 ?_ | refine D2 ?_ | refine CallC.r ?_); conv => whnf))
        rw [show mergeE base a b (allN base a b)[i] = [getS b (allN base a b)[i]] by simp only [mergeE]; rw [if_pos g2, g1], List.map_append] at hn
        exact hn
      · rcases hG with ⟨g1, g2⟩ | ⟨g1, g2⟩
        · refine Pick.at64 (z := (i + 1 : Nat)) (by simp) (by omega) ?_
          ((conv => whnf); repeat ((first | refine B0 ?_ | refine B1 ?_ | refine D1 ?_ | refine D2 ?_ | refine CallC.r ?_); conv => whnf))
          rw [show mergeE base a b (allN base a b)[i] = [] by simp only [mergeE]; rw [if_neg (by omega)], List.append_nil] at hn
          exact hn
        · rw [g1] at e2; rw [hnil] at e2; simp at e2; exact absurd e2 hte
    · rw [sEq] at e1
      have hg : mergeG base a b (allN base a b)[i] = getS a (allN base a b)[i] := by simp [mergeG, e1]
      rw [hg] at hG
      refine Br.mk (fun e2 => ?_) (fun e2 => ?_) <;> ((conv => whnf); repeat ((first | refine B0 ?_ | refine B1 ?_ | refine D1 ?_ | refine D2 ?_ | refine CallC.r ?_); conv => whnf))
      · rcases hG with ⟨g1, g2⟩ | ⟨g1, g2⟩
        · rw [g1, hnil] at e2; simp at e2
        refine Side.mk (by simp only [List.length_map, List.length_cons, List.length_nil]; omega) ?_
        ((conv => whnf); repeat ((first | refine B0 ?_ | refine B1 ?_ | refine D1 ?_ | refine D2 ?_ | refine CallC.r ?_); conv => whnf))
        refine Pick.at64 (z := (i + 1 : Nat)) (by simp) (by omega) ?_
        ((conv => whnf); repeat ((first | refine B0 ?_ | refine B1 ?_ | refine D1 ?_ | refine D2 ?_ | refine CallC.r ?_); conv => whnf))
        rw [show mergeE base a b (allN base a b)[i] = [getS a (allN base a b)[i]] by simp only [mergeE]; rw [if_pos g2, g1], List.map_append] at hn
        exact hn
      · rcases hG with ⟨g1, g2⟩ | ⟨g1, g2⟩
        · refine Pick.at64 (z := (i + 1 : Nat)) (by simp) (by omega) ?_
          ((conv => whnf); repeat ((first | refine B0 ?_ | refine B1 ?_ | refine D1 ?_ | refine D2 ?_ | refine CallC.r ?_); conv => whnf))
          rw [show mergeE base a b (allN base a b)[i] = [] by simp only [mergeE]; rw [if_neg (by omega)], List.append_nil] at hn
          exact hn
        · rw [g1] at e2; rw [hnil] at e2; simp at e2; exact absurd e2 hte
  · have h : (allN base a b).length ≤ i := by simp only [List.length_map, decide_eq_false_iff_not] at h; omega
    rw [List.take_of_length_le h]
    refine Br.mk (fun e3 => ?_) (fun e3 => ?_) <;> ((conv => whnf); repeat ((first | refine B0 ?_ | refine B1 ?_ | refine D1 ?_ | refine D2 ?_ | refine CallC.r ?_); conv => whnf))
    · have e3 : ¬ (mergeF base a b).length ≤ 24 := by simp only [List.length_map, decide_eq_true_eq] at e3; unfold mergeF; omega
      rw [show mergedOf base a b = ([], 5) by simp only [mergedOf, hk, hc, if_true]; rw [if_neg e3]]
      exact ResOK.frz rfl rfl
    · have e3 : (mergeF base a b).length ≤ 24 := by simp only [List.length_map, decide_eq_false_iff_not] at e3; unfold mergeF; omega
      rw [show mergedOf base a b = (mergeF base a b, 0) by simp only [mergedOf, hk, hc, if_true]; rw [if_pos e3]]
      exact ResOK.frz rfl rfl

theorem s_spec_MergeStates (base a b : List Setting) (o0 : Enc.ok base) (o1 : Enc.ok a) (o2 : Enc.ok b) : Sat Try.prog 17 [(false, Enc.enc base), (false, Enc.enc a), (false, Enc.enc b)]
    (.tup [(false, [.c (.slice 2 ((mergedOf base a b).1.map Enc.enc))]), (false, [.c (.int .i64 (mergedOf base a b).2)])], []) := by
  have bad : okS3 base a b = false → mergedOf base a b = ([], 1) := fun h => by simp [mergedOf, h]
  refine Sat.intro tok mixed Try.func17 rfl rfl ?_
  ((conv => whnf); repeat ((first | refine B0 ?_ | refine B1 ?_ | refine D1 ?_ | refine D2 ?_ | refine CallC.r ?_); conv => whnf))
  refine Pick.mk _ (s_l27State base o0) ?_
  ((conv => whnf); repeat ((first | refine B0 ?_ | refine B1 ?_ | refine D1 ?_ | refine D2 ?_ | refine CallC.r ?_); conv => whnf))
  refine Br.mk (fun k0 => ?_) (fun k0 => ?_) <;> ((conv => whnf); repeat ((first | refine B0 ?_ | refine B1 ?_ | refine D1 ?_ | refine D2 ?_ | refine CallC.r ?_); conv => whnf))
  · simp at k0
    rw [bad (by simp [okS3, k0])]
    exact ResOK.frz rfl rfl
  simp at k0
  refine Pick.mk _ (s_l27State a o1) ?_
  ((conv => whnf); repeat ((first | refine B0 ?_ | refine B1 ?_ | refine D1 ?_ | refine D2 ?_ | refine CallC.r ?_); conv => whnf))
  refine Br.mk (fun k1 => ?_) (fun k1 => ?_) <;> ((conv => whnf); repeat ((first | refine B0 ?_ | refine B1 ?_ | refine D1 ?_ | refine D2 ?_ | refine CallC.r ?_); conv => whnf))
  · simp at k1
    rw [bad (by simp [okS3, k1])]
    exact ResOK.frz rfl rfl
  simp at k1
  refine Pick.mk _ (s_l27State b o2) ?_
  ((conv => whnf); repeat ((first | refine B0 ?_ | refine B1 ?_ | refine D1 ?_ | refine D2 ?_ | refine CallC.r ?_); conv => whnf))
  refine Br.mk (fun k2 => ?_) (fun k2 => ?_) <;> ((conv => whnf); repeat ((first | refine B0 ?_ | refine B1 ?_ | refine D1 ?_ | refine D2 ?_ | refine CallC.r ?_); conv => whnf))
  · simp at k2
    rw [bad (by simp [okS3, k2])]
    exact ResOK.frz rfl rfl
  simp at k2
  refine Pick.mk _ (s_l27Merge base a b (by simp [okS3, k0, k1, k2])) ?_
  ((conv => whnf); repeat ((first | refine B0 ?_ | refine B1 ?_ | refine D1 ?_ | refine D2 ?_ | refine CallC.r ?_); conv => whnf))
  exact ResOK.same rfl

theorem mergeF_small {base a b : List Setting} (k0 : okState base = true) (k1 : okState a = true) (k2 : okState b = true) : ∀ x ∈ mergeF base a b, x.name.size ≤ 10 := fun x hx => by
  obtain ⟨t, ht, hx⟩ := List.mem_flatMap.1 hx
  have hn : x.name = t := by
    unfold mergeE at hx
    split at hx
    · simp only [List.mem_singleton] at hx; rw [hx]
    · simp at hx
  rw [hn]
  obtain ⟨y, hy, rfl⟩ := List.mem_map.1 (nameSet_mem.1 ht)
  simp only [List.flatten_cons, List.flatten_nil, List.append_nil, List.mem_append] at hy
  rcases hy with hy | hy | hy
  · exact name_small k0 y hy
  · exact name_small k1 y hy
  · exact name_small k2 y hy
theorem sumS_ten : ∀ {xs : List Setting}, (∀ t ∈ xs, t.name.size ≤ 10) → (xs.map Enc.wt).sum ≤ xs.length * 10
  | [], _ => by simp
  | x :: xs, h => by
    have h1 := sumS_ten (xs := xs) fun t ht => h t (List.mem_cons_of_mem _ ht)
    have h2 := h x (List.mem_cons_self ..)
    have h3 : Enc.wt x = x.name.size + 0 := rfl
    simp only [List.map_cons, List.sum_cons, List.length_cons, h3]; omega
theorem mergedOf_wt (base a b : List Setting) : Enc.wt (mergedOf base a b).1 ≤ 1000 := by
  have h0 : Enc.wt ([] : List Setting) = 0 := by rw [wt_list]; rfl
  by_cases hk : okS3 base a b = true
  · have hk2 := hk
    simp only [okS3, Bool.and_eq_true] at hk2
    obtain ⟨k0, k1, k2⟩ := hk2
    have hs := sumS_ten (mergeF_small k0 k1 k2)
    simp only [mergedOf, hk, if_true]
    split
    · split
      · show Enc.wt (mergeF base a b) ≤ 1000
        rw [wt_list]; omega
      · show Enc.wt ([] : List Setting) ≤ 1000
        omega
    · show Enc.wt ([] : List Setting) ≤ 1000
      omega
  · rw [show mergedOf base a b = ([], 1) by simp [mergedOf, hk]]
    show Enc.wt ([] : List Setting) ≤ 1000
    omega
end Go.Proofs.Ytjolahiflldepab.Pi
