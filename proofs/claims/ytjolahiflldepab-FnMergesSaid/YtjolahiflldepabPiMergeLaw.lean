/- What merging states comes to, plain. No statement of the seat is proved here. -/
import Derived.Test.YtjolahiflldepabPiFMergeS
namespace Go.Proofs.Ytjolahiflldepab.Pi
open Go
set_option linter.unusedVariables false

theorem allN_sym (base a b : List Setting) : allN base a b = allN base b a :=
  ord_unique (nameSet_ord _) (nameSet_ord _) fun t => by
    unfold allN
    rw [nameSet_mem, nameSet_mem]
    simp only [List.flatten_cons, List.flatten_nil, List.append_nil, List.map_append, List.mem_append]
    constructor <;> (rintro (h | h | h) <;> simp [h])
theorem bneI (a b : Int) : (a != b) = (b != a) := by
  by_cases h : a = b
  · subst h; rfl
  · rw [bne_iff_ne.2 h, bne_iff_ne.2 (Ne.symm h)]
theorem confT_sym (base a b : List Setting) (t : ByteArray) : confT base a b t = confT base b a t := by
  unfold confT
  rw [bneI (valOf a t) (valOf b t), Bool.and_comm (valOf a t != valOf base t)]
theorem confs_sym (base a b : List Setting) : confs base a b = confs base b a := by
  unfold confs
  rw [allN_sym]
  exact List.filter_congr fun t _ => confT_sym base a b t
theorem confs_none {base a b : List Setting} (h : (confs base a b).length = 0) : ∀ t ∈ allN base a b, confT base a b t = false := fun t ht => by
  have h := List.eq_nil_of_length_eq_zero h
  unfold confs at h
  rw [List.filter_eq_nil_iff] at h
  simpa using h t ht
theorem mergeV_sym {base a b : List Setting} {t : ByteArray} (h : confT base a b t = false) : mergeV base a b t = mergeV base b a t := by
  unfold confT at h
  unfold mergeV
  by_cases h1 : valOf a t = valOf b t <;> by_cases h2 : valOf a t = valOf base t <;> by_cases h3 : valOf b t = valOf base t <;> simp_all [bne]
/-- The merged states, named by name. -/
def pickL (v : ByteArray → Int) (ts : List ByteArray) : List Setting := (ts.filter fun t => decide (0 ≤ v t)).map fun t => ⟨t, v t⟩
theorem mergeL_pick (base a b : List Setting) : ∀ ts : List ByteArray, mergeL base a b ts = pickL (mergeV base a b) ts
  | [] => rfl
  | t :: ts => by
    have ih := mergeL_pick base a b ts
    have e : mergeL base a b (t :: ts) = mergeE base a b t ++ mergeL base a b ts := by simp [mergeL]
    rw [e, ih]
    unfold mergeE pickL
    by_cases h : 0 ≤ mergeV base a b t <;> simp [h]
theorem pickL_congr {v u : ByteArray → Int} {ts : List ByteArray} (h : ∀ t ∈ ts, v t = u t) : pickL v ts = pickL u ts := by
  unfold pickL
  rw [List.filter_congr (q := fun t => decide (0 ≤ u t)) fun t ht => by rw [h t ht]]
  exact List.map_congr_left fun t ht => by rw [h t (List.mem_filter.1 ht).1]
theorem mergeF_sym {base a b : List Setting} (h : (confs base a b).length = 0) : mergeF base a b = mergeF base b a := by
  unfold mergeF
  rw [mergeL_pick, mergeL_pick, allN_sym base b a]
  exact pickL_congr fun t ht => mergeV_sym (confs_none h t ht)
theorem mergedOf_sym (base a b : List Setting) : mergedOf base a b = mergedOf base b a := by
  have e : okS3 base a b = okS3 base b a := by unfold okS3; cases okState base <;> cases okState a <;> cases okState b <;> rfl
  unfold mergedOf
  rw [e, confs_sym base b a]
  split
  · split
    · rename_i h
      rw [mergeF_sym h]
    · rfl
  · rfl
theorem pickL_names (v : ByteArray → Int) (ts : List ByteArray) : (pickL v ts).map (·.name) = ts.filter fun t => decide (0 ≤ v t) := by
  simp [pickL, List.map_map, Function.comp_def]
theorem valOf_mem {xs : List Setting} (ho : Ord Setting.name xs) {x : Setting} (hx : x ∈ xs) : valOf xs x.name = x.value := by
  rcases get_cases xs x.name with ⟨_, _, h3⟩ | ⟨y, hy, _, h2, h3⟩
  · exact absurd (List.mem_map.2 ⟨x, hx, rfl⟩) h3
  · rw [h3]
    obtain ⟨i, hi, rfl⟩ := List.mem_iff_getElem.1 hx
    obtain ⟨j, hj, rfl⟩ := List.mem_iff_getElem.1 hy
    have := ord_inj ho hj hi h2
    subst this; rfl
theorem valOf_pos {xs : List Setting} (hv : Vals xs) {t : ByteArray} : 0 ≤ valOf xs t ↔ t ∈ xs.map (·.name) := by
  rcases get_cases xs t with ⟨_, h2, h3⟩ | ⟨y, hy, _, h2, h3⟩
  · exact ⟨fun h => by omega, fun h => absurd h h3⟩
  · exact ⟨fun _ => List.mem_map.2 ⟨y, hy, h2⟩, fun _ => by rw [h3]; exact hv y hy⟩
theorem filter_ord {ts : List ByteArray} (h : Ord id ts) (p : ByteArray → Bool) : Ord id (ts.filter p) := by
  rw [ord_pw] at h ⊢
  exact h.filter p
/-- A state is what its names say. -/
theorem pickL_self {xs : List Setting} {ts : List ByteArray} (ho : Ord Setting.name xs) (hv : Vals xs) (ht : Ord id ts) (hs : ∀ t ∈ xs.map (·.name), t ∈ ts) : pickL (valOf xs) ts = xs := by
  have hn : ts.filter (fun t => decide (0 ≤ valOf xs t)) = xs.map (·.name) := by
    refine ord_unique (filter_ord ht _) ?_ fun t => ?_
    · rw [ord_pw, List.pairwise_map]; exact ord_pw.1 ho
    · rw [List.mem_filter, decide_eq_true_eq, valOf_pos hv]
      exact ⟨fun h => h.2, fun h => ⟨hs t h, h⟩⟩
  unfold pickL
  rw [hn, List.map_map]
  conv => rhs; rw [← List.map_id xs]
  exact List.map_congr_left fun x hx => by
    show (⟨x.name, valOf xs x.name⟩ : Setting) = x
    rw [valOf_mem ho hx]
theorem names_in {base a b : List Setting} {t : ByteArray} : t ∈ allN base a b ↔ t ∈ base.map (·.name) ∨ t ∈ a.map (·.name) ∨ t ∈ b.map (·.name) := by
  unfold allN
  rw [nameSet_mem]
  simp only [List.flatten_cons, List.flatten_nil, List.append_nil, List.map_append, List.mem_append]
/-- Merging that comes to a state. -/
theorem merged_is {base a b xs : List Setting} (k0 : okState base = true) (k1 : okState a = true) (k2 : okState b = true) (kx : okState xs = true)
    (hc : ∀ t, confT base a b t = false) (hm : ∀ t, mergeV base a b t = valOf xs t) (hs : ∀ t ∈ xs.map (·.name), t ∈ allN base a b) : mergedOf base a b = (xs, 0) := by
  have e : mergeF base a b = xs := by
    unfold mergeF
    rw [mergeL_pick, pickL_congr fun t _ => hm t]
    exact pickL_self (okState_ord kx).1 (okS_vals kx) (nameSet_ord _) hs
  have e2 : (confs base a b).length = 0 := by
    unfold confs
    rw [List.filter_eq_nil_iff.2 fun t _ => by rw [hc t]; decide]; rfl
  have hl := okS_len kx
  simp only [mergedOf, okS3, k0, k1, k2, Bool.and_self, if_true, e2, e, hl]
theorem merge_left {base a : List Setting} (k0 : okState base = true) (k1 : okState a = true) : mergedOf base a base = (a, 0) :=
  merged_is k0 k1 k0 k1 (fun t => by unfold confT; simp) (fun t => by unfold mergeV; split <;> simp_all) (fun t h => names_in.2 (Or.inr (Or.inl h)))
theorem merge_right {base a : List Setting} (k0 : okState base = true) (k1 : okState a = true) : mergedOf base base a = (a, 0) := by
  rw [mergedOf_sym]; exact merge_left k0 k1
theorem merge_both {base a : List Setting} (k0 : okState base = true) (k1 : okState a = true) : mergedOf base a a = (a, 0) :=
  merged_is k0 k1 k1 k1 (fun t => by unfold confT; simp) (fun t => by unfold mergeV; split <;> rfl) (fun t h => names_in.2 (Or.inr (Or.inl h)))
theorem okState_of {xs : List Setting} (ho : Ord Setting.name xs) (h : ∀ x ∈ xs, okSetting x = true) (hl : xs.length ≤ 24) : okState xs = true := by
  simp only [okState, Bool.and_eq_true, decide_eq_true_eq]
  refine ⟨allIx_iff.2 fun i hi => ?_, hl⟩
  simp only [okStep, Bool.and_eq_true, Bool.or_eq_true, decide_eq_true_eq]
  refine ⟨h _ (List.getElem_mem hi), ?_⟩
  by_cases e : i = 0
  · exact Or.inl e
  · right
    rw [List.getElem?_eq_getElem (by omega : i - 1 < xs.length)]
    exact ho (i - 1) i (by omega) hi (by omega)
theorem okState_each {xs : List Setting} (h : okState xs = true) : ∀ x ∈ xs, okSetting x = true := fun x hx => by
  obtain ⟨i, hi, rfl⟩ := List.mem_iff_getElem.1 hx
  simp only [okState, Bool.and_eq_true] at h
  have := (allIx_iff.1 h.1) i hi
  simp only [okStep, Bool.and_eq_true] at this
  exact this.1
theorem valOf_le {xs : List Setting} (h : okState xs = true) (t : ByteArray) : valOf xs t ≤ 1000 := by
  rcases get_cases xs t with ⟨_, h2, _⟩ | ⟨y, hy, _, _, h3⟩
  · omega
  · rw [h3]; exact ((okState_ord h).2 y hy).2
theorem name_okOf {xs : List Setting} (h : okState xs = true) {t : ByteArray} (ht : t ∈ xs.map (·.name)) : isName t = true := by
  obtain ⟨x, hx, rfl⟩ := List.mem_map.1 ht
  have := okState_each h x hx
  simp only [okSetting, Bool.and_eq_true] at this
  exact this.1
theorem merged_ok {base a b : List Setting} (k0 : okState base = true) (k1 : okState a = true) (k2 : okState b = true) (hz : (mergedOf base a b).2 = 0) : okState (mergedOf base a b).1 = true := by
  have hk : okS3 base a b = true := by simp [okS3, k0, k1, k2]
  unfold mergedOf at hz ⊢
  rw [if_pos hk] at hz ⊢
  split at hz
  · rename_i h1
    rw [if_pos h1]
    split at hz
    · rename_i h2
      rw [if_pos h2]
      show okState (mergeF base a b) = true
      unfold mergeF at h2 ⊢
      rw [mergeL_pick] at h2 ⊢
      refine okState_of ?_ ?_ h2
      · have h3 := filter_ord (nameSet_ord [base, a, b].flatten) fun t => decide (0 ≤ mergeV base a b t)
        have e := pickL_names (mergeV base a b) (allN base a b)
        have h4 : Ord id ((pickL (mergeV base a b) (allN base a b)).map (·.name)) := by rw [e]; exact h3
        rw [ord_pw, List.pairwise_map] at h4
        exact ord_pw.2 h4
      · intro x hx
        obtain ⟨t, ht, rfl⟩ := List.mem_map.1 hx
        obtain ⟨h4, h5⟩ := List.mem_filter.1 ht
        simp only [decide_eq_true_eq] at h5
        simp only [okSetting, Bool.and_eq_true, decide_eq_true_eq]
        refine ⟨?_, h5, ?_⟩
        · rcases names_in.1 h4 with h | h | h
          · exact name_okOf k0 h
          · exact name_okOf k1 h
          · exact name_okOf k2 h
        · unfold mergeV
          split
          · exact valOf_le k2 t
          · exact valOf_le k1 t
    · exact absurd hz (by decide)
  · exact absurd hz (by decide)
end Go.Proofs.Ytjolahiflldepab.Pi
