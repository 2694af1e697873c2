/- What the law FnMerges answers: true. The statement is drawn from it in the next text. -/
import Derived.Test.YtjolahiflldepabPiFDrawT
import Derived.Test.YtjolahiflldepabPiFSameState
namespace Go.Proofs.Ytjolahiflldepab.Pi
open Go
set_option maxRecDepth 10000
set_option maxHeartbeats 6400000
set_option linter.unusedVariables false

theorem same_refl (xs : List Setting) : sameBy sameSetting xs xs = true := by
  refine sameBy_yes rfl fun i h h2 => ?_
  simp only [sameSetting, bytes_refl, beq_self_eq_true, Bool.and_self]
theorem merged_six {base a b : List Setting} (k0 : okState base = true) (k1 : okState a = true) (k2 : okState b = true) : (mergedOf base a b).2 = 6 ↔ (confs base a b).length > 0 := by
  have hk : okS3 base a b = true := by simp [okS3, k0, k1, k2]
  unfold mergedOf
  rw [if_pos hk]
  split
  · rename_i h
    split <;> simp [h]
  · rename_i h
    simp; omega
theorem okState_enc {xs : List Setting} (h : okState xs = true) : Enc.ok xs := by
  refine ⟨by have := okS_len h; simp only [maxLen]; omega, fun x hx => ?_⟩
  have hs := okState_each h x hx
  simp only [okSetting, Bool.and_eq_true, decide_eq_true_eq] at hs
  refine ⟨?_, (⟨by omega, by omega⟩ : I64 x.value)⟩
  show x.name.size ≤ maxLen
  have hn := hs.1
  simp only [isName, Bool.and_eq_true, decide_eq_true_eq] at hn
  rw [size_list]
  simp only [maxLen]
  omega
theorem okHistory_enc {xs : List Version} (h : okHistory xs = true) : Enc.ok xs := by
  have hl := okHistory_len h
  refine ⟨by simp only [maxLen]; omega, fun x hx => ?_⟩
  obtain ⟨i, hi, rfl⟩ := List.mem_iff_getElem.1 hx
  have hv := okHistory_get h i hi
  simp only [okVersion, Bool.and_eq_true, beq_iff_eq, decide_eq_true_eq] at hv
  obtain ⟨v1, v2, v3, v4⟩ := hv
  refine ⟨(⟨by omega, by omega⟩ : I64 _), (⟨by omega, by omega⟩ : I64 _), ?_, okState_enc v4⟩
  show xs[i].memo.size ≤ maxLen
  simp only [okMemo, Bool.and_eq_true, decide_eq_true_eq] at v3
  simp only [maxLen]; omega
theorem both_ok : okMemo ⟨#[98, 111, 116, 104]⟩ = true := by unfold okMemo; rw [ByteArray.toList_eq]; decide
theorem mergedV_ok {xs : List Version} (hk : okHistory xs = true) (o : Enc.ok xs) {a b : Int} (ha : askC xs [a, b] = 0) (h0 : (mergedV xs a b ⟨#[98, 111, 116, 104]⟩).2 = 0) :
    (mergedV xs a b ⟨#[98, 111, 116, 104]⟩).1.length = xs.length + 1 ∧ okHistory (mergedV xs a b ⟨#[98, 111, 116, 104]⟩).1 = true := by
  have hab := (askC_ok ha).2
  have h1 := hab a (by simp)
  unfold mergedV at h0 ⊢
  rw [if_pos both_ok, if_pos ha] at h0 ⊢
  split at h0
  · rename_i hm
    rw [if_pos hm]
    have hs : okState (mst xs a b).1 = true := merged_ok (stV_at hk o _).1 (stV_at hk o _).1 (stV_at hk o _).1 hm
    exact added_ok hk (by omega) h1.2 both_ok hs h0
  · rename_i hm
    exact absurd h0 hm
theorem sat_law (code more : List UInt8) (o1 : Enc.ok code) (o2 : Enc.ok more) : Sat Try.prog 6 [(false, Enc.enc code), (false, Enc.enc more)] (.one (.c (.bool true)), []) := by
  refine Sat.intro tok mixed Try.func6 rfl rfl ?_
  ((conv => whnf); repeat ((first | refine B0 ?_ | refine B1 ?_ | refine D1 ?_ | refine D2 ?_ | refine CallC.r ?_); conv => whnf))
  refine Pick.mk _ (s_r8Long code more) ?_
  ((conv => whnf); repeat ((first | refine B0 ?_ | refine B1 ?_ | refine D1 ?_ | refine D2 ?_ | refine CallC.r ?_); conv => whnf))
  refine Br.mk (fun h => ?_) (fun h => ?_) <;> ((conv => whnf); repeat ((first | refine B0 ?_ | refine B1 ?_ | refine D1 ?_ | refine D2 ?_ | refine CallC.r ?_); conv => whnf))
  · exact ResOK.same rfl
  have h : code.length ≤ 1048576 ∧ more.length ≤ 1048576 := by simp only [decide_eq_false_iff_not] at h; omega
  have hbase := drawSt_ok code ⟨0, 0⟩
  refine Pick.mk _ (s_R8State code h.1) ?_
  ((conv => whnf); repeat ((first | refine B0 ?_ | refine B1 ?_ | refine D1 ?_ | refine D2 ?_ | refine CallC.r ?_); conv => whnf))
  generalize (drawSt code ⟨0, 0⟩).2 = base at *
  have ha := (chS_ok more ⟨0, 0⟩ hbase).1
  refine Pick.mk _ (s_R8Changed more base hbase h.2) ?_
  ((conv => whnf); repeat ((first | refine B0 ?_ | refine B1 ?_ | refine D1 ?_ | refine D2 ?_ | refine CallC.r ?_); conv => whnf))
  generalize (chS more ⟨0, 0⟩ base).2 = a at *
  have hb := (chS_ok code ⟨0, 0⟩ hbase).1
  refine Pick.mk _ (s_R8Changed code base hbase h.1) ?_
  ((conv => whnf); repeat ((first | refine B0 ?_ | refine B1 ?_ | refine D1 ?_ | refine D2 ?_ | refine CallC.r ?_); conv => whnf))
  generalize (chS code ⟨0, 0⟩ base).2 = b at *
  have k0 := okD_ok hbase
  have k1 := okD_ok ha
  have k2 := okD_ok hb
  have e0 := okD_enc hbase
  have e1 := okD_enc ha
  have e2 := okD_enc hb
  refine Pick.mk _ (s_impl_MergeStates base a base e0 e1 e0) ?_
  ((conv => whnf); repeat ((first | refine B0 ?_ | refine B1 ?_ | refine D1 ?_ | refine D2 ?_ | refine CallC.r ?_); conv => whnf))
  rw [merge_left k0 k1]
  refine Pick.mk _ (s_impl_MergeStates base base a e0 e0 e1) ?_
  ((conv => whnf); repeat ((first | refine B0 ?_ | refine B1 ?_ | refine D1 ?_ | refine D2 ?_ | refine CallC.r ?_); conv => whnf))
  rw [merge_right k0 k1]
  refine Pick.mk _ (s_impl_MergeStates base a a e0 e1 e1) ?_
  ((conv => whnf); repeat ((first | refine B0 ?_ | refine B1 ?_ | refine D1 ?_ | refine D2 ?_ | refine CallC.r ?_); conv => whnf))
  rw [merge_both k0 k1]
  have hsa := s_spec_SameState a a (by have := okD_len ha; simp only [maxLen]; omega)
  rw [same_refl] at hsa
  repeat (refine Br.mk (fun h => absurd h (by first | (simp; done) | (simp <;> omega))) (fun _ => ?_); ((conv => whnf); repeat ((first | refine B0 ?_ | refine B1 ?_ | refine D1 ?_ | refine D2 ?_ | refine CallC.r ?_); conv => whnf)))
  refine Pick.mk false trivial ?_
  ((conv => whnf); repeat ((first | refine B0 ?_ | refine B1 ?_ | refine D1 ?_ | refine D2 ?_ | refine CallC.r ?_); conv => whnf))
  refine Pick.mk _ hsa ?_
  ((conv => whnf); repeat ((first | refine B0 ?_ | refine B1 ?_ | refine D1 ?_ | refine D2 ?_ | refine CallC.r ?_); conv => whnf))
  repeat (refine Br.mk (fun h => absurd h (by first | (simp; done) | (simp <;> omega))) (fun _ => ?_); ((conv => whnf); repeat ((first | refine B0 ?_ | refine B1 ?_ | refine D1 ?_ | refine D2 ?_ | refine CallC.r ?_); conv => whnf)))
  refine Pick.mk false trivial ?_
  ((conv => whnf); repeat ((first | refine B0 ?_ | refine B1 ?_ | refine D1 ?_ | refine D2 ?_ | refine CallC.r ?_); conv => whnf))
  refine Pick.mk _ hsa ?_
  ((conv => whnf); repeat ((first | refine B0 ?_ | refine B1 ?_ | refine D1 ?_ | refine D2 ?_ | refine CallC.r ?_); conv => whnf))
  repeat (refine Br.mk (fun h => absurd h (by first | (simp; done) | (simp <;> omega))) (fun _ => ?_); ((conv => whnf); repeat ((first | refine B0 ?_ | refine B1 ?_ | refine D1 ?_ | refine D2 ?_ | refine CallC.r ?_); conv => whnf)))
  refine Pick.mk false trivial ?_
  ((conv => whnf); repeat ((first | refine B0 ?_ | refine B1 ?_ | refine D1 ?_ | refine D2 ?_ | refine CallC.r ?_); conv => whnf))
  refine Pick.mk _ hsa ?_
  ((conv => whnf); repeat ((first | refine B0 ?_ | refine B1 ?_ | refine D1 ?_ | refine D2 ?_ | refine CallC.r ?_); conv => whnf))
  repeat (refine Br.mk (fun h => absurd h (by first | (simp; done) | (simp <;> omega))) (fun _ => ?_); ((conv => whnf); repeat ((first | refine B0 ?_ | refine B1 ?_ | refine D1 ?_ | refine D2 ?_ | refine CallC.r ?_); conv => whnf)))
  have hk3 : okS3 base a b = true := by simp [okS3, k0, k1, k2]
  have hk3' : okS3 base b a = true := by simp [okS3, k0, k1, k2]
  have hC : conflOf base a b = (confs base a b, 0) := by rw [conflOf, if_pos hk3]
  have hC' : conflOf base b a = (confs base a b, 0) := by rw [conflOf, if_pos hk3', confs_sym]
  have six := merged_six k0 k1 k2
  have hok := fun hz => merged_ok (base := base) (a := a) (b := b) k0 k1 k2 hz
  have s1 := s_impl_ConflictsOf base a b e0 e1 e2
  have s2 := s_impl_ConflictsOf base b a e0 e2 e1
  have s3 := s_impl_MergeStates base a b e0 e1 e2
  have s4 := s_impl_MergeStates base b a e0 e2 e1
  rw [hC] at s1
  rw [hC'] at s2
  rw [mergedOf_sym base b a] at s4
  generalize mergedOf base a b = M at *
  generalize confs base a b = cf at *
  refine Pick.mk _ s1 ?_
  ((conv => whnf); repeat ((first | refine B0 ?_ | refine B1 ?_ | refine D1 ?_ | refine D2 ?_ | refine CallC.r ?_); conv => whnf))
  refine Pick.mk _ s2 ?_
  ((conv => whnf); repeat ((first | refine B0 ?_ | refine B1 ?_ | refine D1 ?_ | refine D2 ?_ | refine CallC.r ?_); conv => whnf))
  refine Pick.mk _ s3 ?_
  ((conv => whnf); repeat ((first | refine B0 ?_ | refine B1 ?_ | refine D1 ?_ | refine D2 ?_ | refine CallC.r ?_); conv => whnf))
  refine Pick.mk _ s4 ?_
  ((conv => whnf); repeat ((first | refine B0 ?_ | refine B1 ?_ | refine D1 ?_ | refine D2 ?_ | refine CallC.r ?_); conv => whnf))
  have hbr : (M.2 == 6) = decide (((cf.map (Enc.enc (α := ByteArray))).length : Int) > 0) := by
    rw [List.length_map, Bool.eq_iff_iff]
    simp only [beq_iff_eq, decide_eq_true_eq]
    omega
  iterate 2 (refine Br.mk (fun h => absurd h (by simp)) (fun _ => ?_); ((conv => whnf); repeat ((first | refine B0 ?_ | refine B1 ?_ | refine D1 ?_ | refine D2 ?_ | refine CallC.r ?_); conv => whnf)))
  refine Br.mk (fun hh => absurd hh (by show ¬ (!((M.2 == 6) == decide (((cf.map (Enc.enc (α := ByteArray))).length : Int) > 0))) = true; rw [hbr]; simp)) (fun _ => ?_)
  ((conv => whnf); repeat ((first | refine B0 ?_ | refine B1 ?_ | refine D1 ?_ | refine D2 ?_ | refine CallC.r ?_); conv => whnf))
  refine Br.mk (fun hz => ?_) (fun hz => ?_) <;> ((conv => whnf); repeat ((first | refine B0 ?_ | refine B1 ?_ | refine D1 ?_ | refine D2 ?_ | refine CallC.r ?_); conv => whnf))
  · have hz : M.2 = 0 := by simpa using hz
    have hM := hok hz
    have hsm := s_spec_SameState M.1 M.1 (by have := okS_len hM; simp only [maxLen]; omega)
    rw [same_refl] at hsm
    refine Pick.mk false trivial ?_
    ((conv => whnf); repeat ((first | refine B0 ?_ | refine B1 ?_ | refine D1 ?_ | refine D2 ?_ | refine CallC.r ?_); conv => whnf))
    refine Pick.mk _ hsm ?_
    ((conv => whnf); repeat ((first | refine B0 ?_ | refine B1 ?_ | refine D1 ?_ | refine D2 ?_ | refine CallC.r ?_); conv => whnf))
    refine Pick.mk false trivial ?_
    ((conv => whnf); repeat ((first | refine B0 ?_ | refine B1 ?_ | refine D1 ?_ | refine D2 ?_ | refine CallC.r ?_); conv => whnf))
    refine Pick.mk _ (s_spec_ValidState M.1 (okState_enc hM)) ?_
    ((conv => whnf); repeat ((first | refine B0 ?_ | refine B1 ?_ | refine D1 ?_ | refine D2 ?_ | refine CallC.r ?_); conv => whnf))
    rw [hM]
    ((conv => whnf); repeat ((first | refine B0 ?_ | refine B1 ?_ | refine D1 ?_ | refine D2 ?_ | refine CallC.r ?_); conv => whnf))
    refine Pick.mk _ (s_R8History more h.2) ?_
    ((conv => whnf); repeat ((first | refine B0 ?_ | refine B1 ?_ | refine D1 ?_ | refine D2 ?_ | refine CallC.r ?_); conv => whnf))
    have hH := (hiS_ok more ⟨0, 0⟩).1
    have hHl := (hiS_ok more ⟨0, 0⟩).2.1
    generalize (hiS more ⟨0, 0⟩).2 = xs at *
    have hk := okH_ok hH (by omega)
    have hxe := okH_enc hH (by omega)
    have hxw := okH_wt hH
    refine Br.mk (fun hn => ?_) (fun hn => ?_) <;> ((conv => whnf); repeat ((first | refine B0 ?_ | refine B1 ?_ | refine D1 ?_ | refine D2 ?_ | refine CallC.r ?_); conv => whnf))
    · exact ResOK.same rfl
    have hn : 1 ≤ xs.length := by
      cases xs with
      | nil => simp at hn
      | cons _ _ => simp
    have hlm : (xs.map (Enc.enc (α := Version))).length = xs.length := by simp
    rw [hlm]
    have hp := atB_lt more 0 xs.length (by omega)
    have hq := atB_lt more 1 xs.length (by omega)
    refine Pick.mk _ (s_r8At more 0 xs.length (by omega)) ?_
    ((conv => whnf); repeat ((first | refine B0 ?_ | refine B1 ?_ | refine D1 ?_ | refine D2 ?_ | refine CallC.r ?_); conv => whnf))
    generalize atB more 0 xs.length = p at *
    refine Pick.at64 (z := 1 + p) rfl (by omega) ?_
    ((conv => whnf); repeat ((first | refine B0 ?_ | refine B1 ?_ | refine D1 ?_ | refine D2 ?_ | refine CallC.r ?_); conv => whnf))
    refine Pick.mk _ (s_r8At more 1 xs.length (by omega)) ?_
    ((conv => whnf); repeat ((first | refine B0 ?_ | refine B1 ?_ | refine D1 ?_ | refine D2 ?_ | refine CallC.r ?_); conv => whnf))
    generalize atB more 1 xs.length = q at *
    refine Pick.at64 (z := 1 + q) rfl (by omega) ?_
    ((conv => whnf); repeat ((first | refine B0 ?_ | refine B1 ?_ | refine D1 ?_ | refine D2 ?_ | refine CallC.r ?_); conv => whnf))
    have c1 := s_impl_CommonAncestor xs hxe (1 + p) (1 + q)
    have c2 := s_impl_CommonAncestor xs hxe (1 + q) (1 + p)
    have hp2 : okNum xs.length (1 + p) = true := by simp only [okNum, Bool.and_eq_true, decide_eq_true_eq]; omega
    have hq2 : okNum xs.length (1 + q) = true := by simp only [okNum, Bool.and_eq_true, decide_eq_true_eq]; omega
    have ask1 : askC xs [1 + p, 1 + q] = 0 := by simp [askC, hk, hp2, hq2]
    have ask2 : askC xs [1 + q, 1 + p] = 0 := by simp [askC, hk, hp2, hq2]
    rw [commonOf, if_pos ask1] at c1
    rw [commonOf, if_pos ask2, common_sym hk (show 1 + q ≤ xs.length by omega) (show 1 + p ≤ xs.length by omega)] at c2
    have hcl := common_le hk (show 1 ≤ 1 + p by omega) (by omega) (show 1 ≤ 1 + q by omega) (by omega)
    generalize common xs (1 + p) (1 + q) = cm at *
    refine Pick.mk _ c1 ?_
    ((conv => whnf); repeat ((first | refine B0 ?_ | refine B1 ?_ | refine D1 ?_ | refine D2 ?_ | refine CallC.r ?_); conv => whnf))
    refine Pick.mk _ c2 ?_
    ((conv => whnf); repeat ((first | refine B0 ?_ | refine B1 ?_ | refine D1 ?_ | refine D2 ?_ | refine CallC.r ?_); conv => whnf))
    have hmv := s_impl_MergeVersions xs hxe (by omega) (1 + p) (1 + q) ⟨#[98, 111, 116, 104]⟩ (by show (4 : Nat) ≤ maxLen; decide)
    have hmo := mergedV_ok hk hxe ask1
    generalize mergedV xs (1 + p) (1 + q) ⟨#[98, 111, 116, 104]⟩ = W at *
    refine Pick.mk _ hmv ?_
    ((conv => whnf); repeat ((first | refine B0 ?_ | refine B1 ?_ | refine D1 ?_ | refine D2 ?_ | refine CallC.r ?_); conv => whnf))
    refine Br.mk (fun h => absurd h (by simp)) (fun _ => ?_)
    ((conv => whnf); repeat ((first | refine B0 ?_ | refine B1 ?_ | refine D1 ?_ | refine D2 ?_ | refine CallC.r ?_); conv => whnf))
    refine Br.mk (fun h => absurd h (by simp only [decide_eq_true_eq]; omega)) (fun _ => ?_)
    ((conv => whnf); repeat ((first | refine B0 ?_ | refine B1 ?_ | refine D1 ?_ | refine D2 ?_ | refine CallC.r ?_); conv => whnf))
    refine Br.mk (fun h => absurd h (by simp only [decide_eq_true_eq]; (try split) <;> omega)) (fun _ => ?_)
    ((conv => whnf); repeat ((first | refine B0 ?_ | refine B1 ?_ | refine D1 ?_ | refine D2 ?_ | refine CallC.r ?_); conv => whnf))
    refine Br.mk (fun hw => ?_) (fun hw => ?_) <;> ((conv => whnf); repeat ((first | refine B0 ?_ | refine B1 ?_ | refine D1 ?_ | refine D2 ?_ | refine CallC.r ?_); conv => whnf))
    · exact ResOK.same rfl
    have hw : W.2 = 0 := by simpa using hw
    obtain ⟨m1, m2⟩ := hmo hw
    refine Pick.at64 (z := (xs.length : Int) + 1) rfl (by omega) ?_
    ((conv => whnf); repeat ((first | refine B0 ?_ | refine B1 ?_ | refine D1 ?_ | refine D2 ?_ | refine CallC.r ?_); conv => whnf))
    refine Br.mk (fun _ => ?_) (fun h => absurd h (by simp [m1]))
    ((conv => whnf); repeat ((first | refine B0 ?_ | refine B1 ?_ | refine D1 ?_ | refine D2 ?_ | refine CallC.r ?_); conv => whnf))
    refine Pick.mk false trivial ?_
    ((conv => whnf); repeat ((first | refine B0 ?_ | refine B1 ?_ | refine D1 ?_ | refine D2 ?_ | refine CallC.r ?_); conv => whnf))
    refine Pick.mk _ (s_spec_ValidHistory W.1 (okHistory_enc m2)) ?_
    ((conv => whnf); repeat ((first | refine B0 ?_ | refine B1 ?_ | refine D1 ?_ | refine D2 ?_ | refine CallC.r ?_); conv => whnf))
    exact ResOK.same (by rw [m2])
  · refine Pick.mk _ (s_R8History more h.2) ?_
    ((conv => whnf); repeat ((first | refine B0 ?_ | refine B1 ?_ | refine D1 ?_ | refine D2 ?_ | refine CallC.r ?_); conv => whnf))
    have hH := (hiS_ok more ⟨0, 0⟩).1
    have hHl := (hiS_ok more ⟨0, 0⟩).2.1
    generalize (hiS more ⟨0, 0⟩).2 = xs at *
    have hk := okH_ok hH (by omega)
    have hxe := okH_enc hH (by omega)
    have hxw := okH_wt hH
    refine Br.mk (fun hn => ?_) (fun hn => ?_) <;> ((conv => whnf); repeat ((first | refine B0 ?_ | refine B1 ?_ | refine D1 ?_ | refine D2 ?_ | refine CallC.r ?_); conv => whnf))
    · exact ResOK.same rfl
    have hn : 1 ≤ xs.length := by
      cases xs with
      | nil => simp at hn
      | cons _ _ => simp
    have hlm : (xs.map (Enc.enc (α := Version))).length = xs.length := by simp
    rw [hlm]
    have hp := atB_lt more 0 xs.length (by omega)
    have hq := atB_lt more 1 xs.length (by omega)
    refine Pick.mk _ (s_r8At more 0 xs.length (by omega)) ?_
    ((conv => whnf); repeat ((first | refine B0 ?_ | refine B1 ?_ | refine D1 ?_ | refine D2 ?_ | refine CallC.r ?_); conv => whnf))
    generalize atB more 0 xs.length = p at *
    refine Pick.at64 (z := 1 + p) rfl (by omega) ?_
    ((conv => whnf); repeat ((first | refine B0 ?_ | refine B1 ?_ | refine D1 ?_ | refine D2 ?_ | refine CallC.r ?_); conv => whnf))
    refine Pick.mk _ (s_r8At more 1 xs.length (by omega)) ?_
    ((conv => whnf); repeat ((first | refine B0 ?_ | refine B1 ?_ | refine D1 ?_ | refine D2 ?_ | refine CallC.r ?_); conv => whnf))
    generalize atB more 1 xs.length = q at *
    refine Pick.at64 (z := 1 + q) rfl (by omega) ?_
    ((conv => whnf); repeat ((first | refine B0 ?_ | refine B1 ?_ | refine D1 ?_ | refine D2 ?_ | refine CallC.r ?_); conv => whnf))
    have c1 := s_impl_CommonAncestor xs hxe (1 + p) (1 + q)
    have c2 := s_impl_CommonAncestor xs hxe (1 + q) (1 + p)
    have hp2 : okNum xs.length (1 + p) = true := by simp only [okNum, Bool.and_eq_true, decide_eq_true_eq]; omega
    have hq2 : okNum xs.length (1 + q) = true := by simp only [okNum, Bool.and_eq_true, decide_eq_true_eq]; omega
    have ask1 : askC xs [1 + p, 1 + q] = 0 := by simp [askC, hk, hp2, hq2]
    have ask2 : askC xs [1 + q, 1 + p] = 0 := by simp [askC, hk, hp2, hq2]
    rw [commonOf, if_pos ask1] at c1
    rw [commonOf, if_pos ask2, common_sym hk (show 1 + q ≤ xs.length by omega) (show 1 + p ≤ xs.length by omega)] at c2
    have hcl := common_le hk (show 1 ≤ 1 + p by omega) (by omega) (show 1 ≤ 1 + q by omega) (by omega)
    generalize common xs (1 + p) (1 + q) = cm at *
    refine Pick.mk _ c1 ?_
    ((conv => whnf); repeat ((first | refine B0 ?_ | refine B1 ?_ | refine D1 ?_ | refine D2 ?_ | refine CallC.r ?_); conv => whnf))
    refine Pick.mk _ c2 ?_
    ((conv => whnf); repeat ((first | refine B0 ?_ | refine B1 ?_ | refine D1 ?_ | refine D2 ?_ | refine CallC.r ?_); conv => whnf))
    have hmv := s_impl_MergeVersions xs hxe (by omega) (1 + p) (1 + q) ⟨#[98, 111, 116, 104]⟩ (by show (4 : Nat) ≤ maxLen; decide)
    have hmo := mergedV_ok hk hxe ask1
    generalize mergedV xs (1 + p) (1 + q) ⟨#[98, 111, 116, 104]⟩ = W at *
    refine Pick.mk _ hmv ?_
    ((conv => whnf); repeat ((first | refine B0 ?_ | refine B1 ?_ | refine D1 ?_ | refine D2 ?_ | refine CallC.r ?_); conv => whnf))
    refine Br.mk (fun h => absurd h (by simp)) (fun _ => ?_)
    ((conv => whnf); repeat ((first | refine B0 ?_ | refine B1 ?_ | refine D1 ?_ | refine D2 ?_ | refine CallC.r ?_); conv => whnf))
    refine Br.mk (fun h => absurd h (by simp only [decide_eq_true_eq]; omega)) (fun _ => ?_)
    ((conv => whnf); repeat ((first | refine B0 ?_ | refine B1 ?_ | refine D1 ?_ | refine D2 ?_ | refine CallC.r ?_); conv => whnf))
    refine Br.mk (fun h => absurd h (by simp only [decide_eq_true_eq]; (try split) <;> omega)) (fun _ => ?_)
    ((conv => whnf); repeat ((first | refine B0 ?_ | refine B1 ?_ | refine D1 ?_ | refine D2 ?_ | refine CallC.r ?_); conv => whnf))
    refine Br.mk (fun hw => ?_) (fun hw => ?_) <;> ((conv => whnf); repeat ((first | refine B0 ?_ | refine B1 ?_ | refine D1 ?_ | refine D2 ?_ | refine CallC.r ?_); conv => whnf))
    · exact ResOK.same rfl
    have hw : W.2 = 0 := by simpa using hw
    obtain ⟨m1, m2⟩ := hmo hw
    refine Pick.at64 (z := (xs.length : Int) + 1) rfl (by omega) ?_
    ((conv => whnf); repeat ((first | refine B0 ?_ | refine B1 ?_ | refine D1 ?_ | refine D2 ?_ | refine CallC.r ?_); conv => whnf))
    refine Br.mk (fun _ => ?_) (fun h => absurd h (by simp [m1]))
    ((conv => whnf); repeat ((first | refine B0 ?_ | refine B1 ?_ | refine D1 ?_ | refine D2 ?_ | refine CallC.r ?_); conv => whnf))
    refine Pick.mk false trivial ?_
    ((conv => whnf); repeat ((first | refine B0 ?_ | refine B1 ?_ | refine D1 ?_ | refine D2 ?_ | refine CallC.r ?_); conv => whnf))
    refine Pick.mk _ (s_spec_ValidHistory W.1 (okHistory_enc m2)) ?_
    ((conv => whnf); repeat ((first | refine B0 ?_ | refine B1 ?_ | refine D1 ?_ | refine D2 ?_ | refine CallC.r ?_); conv => whnf))
    exact ResOK.same (by rw [m2])
end Go.Proofs.Ytjolahiflldepab.Pi
