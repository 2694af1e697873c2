/- Merged versions, the reference and the program. No statement of the seat is proved here. -/
import Derived.Test.YtjolahiflldepabPiFMergeS
import Derived.Test.YtjolahiflldepabPiFStateOf
namespace Go.Proofs.Ytjolahiflldepab.Pi
open Go
set_option maxRecDepth 10000
set_option maxHeartbeats 1600000
set_option linter.unusedVariables false

def mbase (xs : List Version) (a b : Int) : List Setting := stV xs (common xs a b)
def mst (xs : List Version) (a b : Int) : List Setting × Int := mergedOf (mbase xs a b) (stV xs a) (stV xs b)
def mergedV (xs : List Version) (a b : Int) (memo : ByteArray) : List Version × Int :=
  if okMemo memo then (if askC xs [a, b] = 0 then (if (mst xs a b).2 = 0 then added xs a memo (mst xs a b).1 else ([], (mst xs a b).2)) else ([], askC xs [a, b])) else ([], 1)

theorem stV_at {xs : List Version} (hk : okHistory xs = true) (o : Enc.ok xs) (p : Int) : okState (stV xs p) = true ∧ Enc.ok (stV xs p) := by
  unfold stV
  split
  · exact ⟨rfl, by simp [Enc.ok, maxLen]⟩
  · split
    · rename_i v hv
      obtain ⟨hi, rfl⟩ := List.getElem?_eq_some_iff.1 hv
      have h := okHistory_get hk _ hi
      simp only [okVersion, Bool.and_eq_true] at h
      have o2 := o.2 _ (List.getElem_mem hi)
      exact ⟨h.2.2.2, o2.2.2.2⟩
    · exact ⟨rfl, by simp [Enc.ok, maxLen]⟩
theorem common_ok {xs : List Version} (hk : okHistory xs = true) {a b : Int} (h1 : 1 ≤ a) (h2 : a ≤ xs.length) : 0 ≤ common xs a b ∧ common xs a b ≤ xs.length := by
  have hl : ∀ (f : Nat) (n : Int), n ≤ xs.length → ∀ x ∈ line xs f n, 0 ≤ x ∧ x ≤ xs.length := fun f => by
    induction f with
    | zero => intro n hn x hx; simp [line] at hx
    | succ f ih =>
      intro n hn x hx
      by_cases h0 : 0 < n
      · rw [line_step h0] at hx
        rcases List.mem_cons.1 hx with rfl | hx
        · omega
        · have := up_ok hk (n := n) (by omega) hn
          exact ih _ (by omega) x hx
      · rw [line_zero (by omega)] at hx; simp at hx
  unfold common
  cases h : (line xs 32 a).find? fun x => (line xs 32 b).any fun y => x == y with
  | none => simp
  | some x => exact hl 32 a h2 x (List.mem_of_find?_eq_some h)

theorem mst_len {xs : List Version} (hk : okHistory xs = true) (o : Enc.ok xs) (a b : Int) : (mst xs a b).1.length ≤ 1000 := by
  have h := mergedOf_wt (mbase xs a b) (stV xs a) (stV xs b)
  have h2 := lenwt_list (mst xs a b).1
  have e : mst xs a b = mergedOf (mbase xs a b) (stV xs a) (stV xs b) := rfl
  rw [← e] at h
  omega

theorem s_impl_MergeVersions (xs : List Version) (o : Enc.ok xs) (hb : Enc.wt xs ≤ 1048576) (a b : Int) (memo : ByteArray) (om : Enc.ok memo) : Sat Try.prog 23 [(false, Enc.enc xs), (false, [.int .i64 a]), (false, [.int .i64 b]), (false, Enc.enc memo)]
    (.tup [(false, [.ds 0]), (false, [.c (.int .i64 (mergedV xs a b memo).2)])], [(0, .deep true 4 ((mergedV xs a b memo).1.map Enc.enc))]) := by
  refine Sat.intro tok mixed Try.func23 rfl rfl ?_
  ((conv => whnf); repeat ((first | refine B0 ?_ | refine B1 ?_ | refine D1 ?_ | refine D2 ?_ | refine CallC.r ?_); conv => whnf))
  refine Pick.mk _ (s_validMemo memo om) ?_
  ((conv => whnf); repeat ((first | refine B0 ?_ | refine B1 ?_ | refine D1 ?_ | refine D2 ?_ | refine CallC.r ?_); conv => whnf))
  refine Br.mk (fun h => ?_) (fun h => ?_) <;> ((conv => whnf); repeat ((first | refine B0 ?_ | refine B1 ?_ | refine D1 ?_ | refine D2 ?_ | refine CallC.r ?_); conv => whnf))
  · simp at h
    rw [show mergedV xs a b memo = ([], 1) by simp [mergedV, h]]
    exact ResOK.own rfl ⟨(fun r hr => nomatch hr), trivial⟩
  simp at h
  refine Pick.mk _ (s_versioned xs o [a, b] (by simp [maxLen])) ?_
  ((conv => whnf); repeat ((first | refine B0 ?_ | refine B1 ?_ | refine D1 ?_ | refine D2 ?_ | refine CallC.r ?_); conv => whnf))
  refine Br.mk (fun h2 => ?_) (fun h2 => ?_) <;> ((conv => whnf); repeat ((first | refine B0 ?_ | refine B1 ?_ | refine D1 ?_ | refine D2 ?_ | refine CallC.r ?_); conv => whnf))
  · simp at h2
    rw [show mergedV xs a b memo = ([], askC xs [a, b]) by simp only [mergedV, h, if_true]; rw [if_neg h2]]
    exact ResOK.own rfl ⟨(fun r hr => nomatch hr), trivial⟩
  simp at h2
  obtain ⟨hk, hn⟩ := askC_ok h2
  have ha := hn a (by simp)
  have hbb := hn b (by simp)
  have h32 := okHistory_len hk
  have hc := common_ok hk (a := a) (b := b) ha.1 ha.2
  refine Pick.mk _ (s_commonAncestor xs hk a b (by omega) ha.2 (by omega) hbb.2) ?_
  ((conv => whnf); repeat ((first | refine B0 ?_ | refine B1 ?_ | refine D1 ?_ | refine D2 ?_ | refine CallC.r ?_); conv => whnf))
  refine Pick.mk _ (s_stateOf xs (common xs a b) h32 hc.1 hc.2) ?_
  ((conv => whnf); repeat ((first | refine B0 ?_ | refine B1 ?_ | refine D1 ?_ | refine D2 ?_ | refine CallC.r ?_); conv => whnf))
  refine Pick.mk _ (s_stateOf xs a h32 (by omega) ha.2) ?_
  ((conv => whnf); repeat ((first | refine B0 ?_ | refine B1 ?_ | refine D1 ?_ | refine D2 ?_ | refine CallC.r ?_); conv => whnf))
  refine Pick.mk _ (s_stateOf xs b h32 (by omega) hbb.2) ?_
  ((conv => whnf); repeat ((first | refine B0 ?_ | refine B1 ?_ | refine D1 ?_ | refine D2 ?_ | refine CallC.r ?_); conv => whnf))
  refine Pick.mk _ (s_impl_MergeStates (mbase xs a b) (stV xs a) (stV xs b) (stV_at hk o _).2 (stV_at hk o _).2 (stV_at hk o _).2) ?_
  ((conv => whnf); repeat ((first | refine B0 ?_ | refine B1 ?_ | refine D1 ?_ | refine D2 ?_ | refine CallC.r ?_); conv => whnf))
  have e : mst xs a b = mergedOf (mbase xs a b) (stV xs a) (stV xs b) := rfl
  rw [← e]
  refine Br.mk (fun h3 => ?_) (fun h3 => ?_) <;> ((conv => whnf); repeat ((first | refine B0 ?_ | refine B1 ?_ | refine D1 ?_ | refine D2 ?_ | refine CallC.r ?_); conv => whnf))
  · simp at h3
    rw [show mergedV xs a b memo = ([], (mst xs a b).2) by simp only [mergedV, h, h2, if_true]; rw [if_neg h3]]
    exact ResOK.own rfl ⟨(fun r hr => nomatch hr), trivial⟩
  simp at h3
  have hl := mst_len hk o a b
  refine Pick.mk false trivial ?_
  ((conv => whnf); repeat ((first | refine B0 ?_ | refine B1 ?_ | refine D1 ?_ | refine D2 ?_ | refine CallC.r ?_); conv => whnf))
  refine Pick.mk _ (s_commit xs hk hb a memo (mst xs a b).1 (by omega)) ?_
  ((conv => whnf); repeat ((first | refine B0 ?_ | refine B1 ?_ | refine D1 ?_ | refine D2 ?_ | refine CallC.r ?_); conv => whnf))
  rw [show mergedV xs a b memo = added xs a memo (mst xs a b).1 by simp only [mergedV, h, h2, h3, if_true]]
  exact ResOK.same rfl

theorem s_spec_MergeVersions (xs : List Version) (o : Enc.ok xs) (hb : Enc.wt xs ≤ 1048576) (a b : Int) (memo : ByteArray) (om : Enc.ok memo) : Sat Try.prog 21 [(false, Enc.enc xs), (false, [.int .i64 a]), (false, [.int .i64 b]), (false, Enc.enc memo)]
    (.tup [(false, [.c (.slice 4 ((mergedV xs a b memo).1.map Enc.enc))]), (false, [.c (.int .i64 (mergedV xs a b memo).2)])], []) := by
  refine Sat.intro tok mixed Try.func21 rfl rfl ?_
  ((conv => whnf); repeat ((first | refine B0 ?_ | refine B1 ?_ | refine D1 ?_ | refine D2 ?_ | refine CallC.r ?_); conv => whnf))
  refine Pick.mk _ (s_l27Ok xs o) ?_
  ((conv => whnf); repeat ((first | refine B0 ?_ | refine B1 ?_ | refine D1 ?_ | refine D2 ?_ | refine CallC.r ?_); conv => whnf))
  refine Br.mk (fun h => ?_) (fun h => ?_) <;> ((conv => whnf); repeat ((first | refine B0 ?_ | refine B1 ?_ | refine D1 ?_ | refine D2 ?_ | refine CallC.r ?_); conv => whnf))
  · simp at h
    rw [show mergedV xs a b memo = ([], 1) by
      have e : askC xs [a, b] = 1 := by simp [askC, h]
      simp only [mergedV, e]; split <;> simp]
    exact ResOK.frz rfl rfl
  simp at h
  refine Pick.mk _ (s_l27Memo memo om) ?_
  ((conv => whnf); repeat ((first | refine B0 ?_ | refine B1 ?_ | refine D1 ?_ | refine D2 ?_ | refine CallC.r ?_); conv => whnf))
  refine Br.mk (fun hm => ?_) (fun hm => ?_) <;> ((conv => whnf); repeat ((first | refine B0 ?_ | refine B1 ?_ | refine D1 ?_ | refine D2 ?_ | refine CallC.r ?_); conv => whnf))
  · simp at hm
    rw [show mergedV xs a b memo = ([], 1) by simp [mergedV, hm]]
    exact ResOK.frz rfl rfl
  simp at hm
  refine Pick.mk _ (s_l27Number xs a) ?_
  ((conv => whnf); repeat ((first | refine B0 ?_ | refine B1 ?_ | refine D1 ?_ | refine D2 ?_ | refine CallC.r ?_); conv => whnf))
  refine Br.mk (fun h3 => ?_) (fun h3 => ?_) <;> ((conv => whnf); repeat ((first | refine B0 ?_ | refine B1 ?_ | refine D1 ?_ | refine D2 ?_ | refine CallC.r ?_); conv => whnf))
  · simp at h3
    rw [show mergedV xs a b memo = ([], 3) by
      have e : askC xs [a, b] = 3 := by simp [askC, h, h3]
      simp only [mergedV, hm, e, if_true]; rw [if_neg (by decide)]]
    exact ResOK.frz rfl rfl
  simp at h3
  refine Pick.mk _ (s_l27Number xs b) ?_
  ((conv => whnf); repeat ((first | refine B0 ?_ | refine B1 ?_ | refine D1 ?_ | refine D2 ?_ | refine CallC.r ?_); conv => whnf))
  refine Br.mk (fun h4 => ?_) (fun h4 => ?_) <;> ((conv => whnf); repeat ((first | refine B0 ?_ | refine B1 ?_ | refine D1 ?_ | refine D2 ?_ | refine CallC.r ?_); conv => whnf))
  · simp at h4
    rw [show mergedV xs a b memo = ([], 3) by
      have e : askC xs [a, b] = 3 := by simp [askC, h, h3, h4]
      simp only [mergedV, hm, e, if_true]; rw [if_neg (by decide)]]
    exact ResOK.frz rfl rfl
  simp at h4
  have h2 : askC xs [a, b] = 0 := by simp [askC, h, h3, h4]
  obtain ⟨hk, hn⟩ := askC_ok h2
  have ha := hn a (by simp)
  have hbb := hn b (by simp)
  have h32 := okHistory_len hk
  have hc := common_ok hk (a := a) (b := b) ha.1 ha.2
  refine Pick.mk _ (s_l27Common xs hk a b ha.1 ha.2 hbb.1 hbb.2) ?_
  ((conv => whnf); repeat ((first | refine B0 ?_ | refine B1 ?_ | refine D1 ?_ | refine D2 ?_ | refine CallC.r ?_); conv => whnf))
  refine Pick.mk _ (s_l27StateOf xs (common xs a b) h32 hc.1 hc.2) ?_
  ((conv => whnf); repeat ((first | refine B0 ?_ | refine B1 ?_ | refine D1 ?_ | refine D2 ?_ | refine CallC.r ?_); conv => whnf))
  refine Pick.mk _ (s_l27StateOf xs a h32 (by omega) ha.2) ?_
  ((conv => whnf); repeat ((first | refine B0 ?_ | refine B1 ?_ | refine D1 ?_ | refine D2 ?_ | refine CallC.r ?_); conv => whnf))
  refine Pick.mk _ (s_l27StateOf xs b h32 (by omega) hbb.2) ?_
  ((conv => whnf); repeat ((first | refine B0 ?_ | refine B1 ?_ | refine D1 ?_ | refine D2 ?_ | refine CallC.r ?_); conv => whnf))
  have hok3 : okS3 (mbase xs a b) (stV xs a) (stV xs b) = true := by simp only [okS3, mbase, (stV_at hk o _).1, Bool.and_self]
  refine Pick.mk _ (s_l27Merge (mbase xs a b) (stV xs a) (stV xs b) hok3) ?_
  ((conv => whnf); repeat ((first | refine B0 ?_ | refine B1 ?_ | refine D1 ?_ | refine D2 ?_ | refine CallC.r ?_); conv => whnf))
  have e : mst xs a b = mergedOf (mbase xs a b) (stV xs a) (stV xs b) := rfl
  rw [← e]
  refine Br.mk (fun h3 => ?_) (fun h3 => ?_) <;> ((conv => whnf); repeat ((first | refine B0 ?_ | refine B1 ?_ | refine D1 ?_ | refine D2 ?_ | refine CallC.r ?_); conv => whnf))
  · simp at h3
    rw [show mergedV xs a b memo = ([], (mst xs a b).2) by simp only [mergedV, hm, h2, if_true]; rw [if_neg h3]]
    exact ResOK.frz rfl rfl
  simp at h3
  have hl := mst_len hk o a b
  refine Pick.mk _ (s_l27Add xs hk hb a memo (mst xs a b).1 (by omega)) ?_
  ((conv => whnf); repeat ((first | refine B0 ?_ | refine B1 ?_ | refine D1 ?_ | refine D2 ?_ | refine CallC.r ?_); conv => whnf))
  rw [show mergedV xs a b memo = added xs a memo (mst xs a b).1 by simp only [mergedV, hm, h2, h3, if_true]]
  exact ResOK.same rfl

theorem mergedV_wt (xs : List Version) (a b : Int) (memo : ByteArray) (h1 : memo.size ≤ 1048576) (h2 : Enc.wt xs ≤ 1048576) : Enc.wt (mergedV xs a b memo).1 ≤ 4194304 := by
  have h0 : Enc.wt ([] : List Version) = 0 := by rw [wt_list]; rfl
  have hst := mergedOf_wt (mbase xs a b) (stV xs a) (stV xs b)
  have e : mst xs a b = mergedOf (mbase xs a b) (stV xs a) (stV xs b) := rfl
  rw [← e] at hst
  unfold mergedV added
  repeat' split
  all_goals first
    | (simp only [h0]; omega)
    | skip
  simp only [wt_append]
  have : Enc.wt [(⟨xs.length + 1, a, memo, (mst xs a b).1⟩ : Version)] = 1 + (Enc.wt memo + Enc.wt (mst xs a b).1) := by
    have : Enc.wt (⟨xs.length + 1, a, memo, (mst xs a b).1⟩ : Version) = 0 + 0 + Enc.wt memo + Enc.wt (mst xs a b).1 := rfl
    rw [wt_list]; simp only [List.length_cons, List.length_nil, List.map_cons, List.map_nil, List.sum_cons, List.sum_nil, this]; omega
  have h4 : Enc.wt memo = memo.size := rfl
  omega
end Go.Proofs.Ytjolahiflldepab.Pi
