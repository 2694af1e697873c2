/- The library's sort and compact give the set of names in order. No statement of the seat is proved here. -/
import Derived.Test.YtjolahiflldepabPiNameSet
import Derived.Test.YtjolahiflldepabPiFSort
namespace Go.Proofs.Ytjolahiflldepab.Pi
open Go
set_option linter.unusedVariables false

theorem srtF_srt (xs : List ByteArray) : srtF xs = srt xs := by
  unfold srtF srt srtL
  have : (xs.map fun s => s.data.toList) = xs.map ByteArray.toList := List.map_congr_left fun s _ => (ByteArray.toList_eq s).symm
  rw [this]
  rfl

theorem cptF_get (L : List ByteArray) : cptF L = ((List.range L.length).filter (Lib.keeps (L.map fun s => s.data.toList).toArray)).map fun j => ofL ((L.map fun s => s.data.toList).toArray[j]!) := by
  simp [cptF, Lib.compact, Lib.compactUpTo, ofL]

theorem at_get (L : List ByteArray) (j : Nat) (h : j < L.length) : (L.map fun s => s.data.toList).toArray[j]! = L[j].toList := by
  rw [getElem!_pos _ j (by simpa using h)]
  simp [ByteArray.toList_eq]

theorem keeps_iff (L : List ByteArray) (j : Nat) (h : j < L.length) : Lib.keeps (L.map fun s => s.data.toList).toArray j = true ↔ j = 0 ∨ ∃ h2 : j - 1 < L.length, L[j] ≠ L[j - 1] := by
  unfold Lib.keeps
  rw [decide_eq_true_eq, at_get L j h, at_get L (j - 1) (by omega)]
  constructor
  · rintro (h0 | h1)
    · exact .inl h0
    · exact .inr ⟨by omega, fun e => h1 (by rw [e])⟩
  · rintro (h0 | ⟨h2, h1⟩)
    · exact .inl h0
    · exact .inr fun e => h1 (bytes_inj e)

theorem cptF_get2 (L : List ByteArray) : cptF L = ((List.range L.length).filter (Lib.keeps (L.map fun s => s.data.toList).toArray)).map fun j => L.getD j ⟨#[]⟩ := by
  rw [cptF_get]
  refine List.map_congr_left fun j hj => ?_
  have hj := List.mem_range.1 (List.mem_filter.1 hj).1
  rw [at_get L j hj, toList_ofL, List.getD_eq_getElem?_getD, List.getElem?_eq_getElem hj]; rfl

theorem cptF_mem {L : List ByteArray} {t : ByteArray} : t ∈ cptF L ↔ t ∈ L := by
  rw [cptF_get2]
  constructor
  · intro h
    obtain ⟨j, hj, rfl⟩ := List.mem_map.1 h
    have hj := List.mem_range.1 (List.mem_filter.1 hj).1
    rw [List.getD_eq_getElem?_getD, List.getElem?_eq_getElem hj]
    exact List.getElem_mem hj
  · intro h
    obtain ⟨j, hj, e⟩ := List.getElem_of_mem h
    have key : ∀ (n j : Nat) (hj : j < L.length), j ≤ n → L[j] = t → ∃ i, ∃ hi : i < L.length, L[i] = t ∧ Lib.keeps (L.map fun s => s.data.toList).toArray i = true := fun n => by
      induction n with
      | zero =>
        intro j hj hn e
        obtain rfl : j = 0 := by omega
        exact ⟨0, hj, e, (keeps_iff L 0 hj).2 (.inl rfl)⟩
      | succ n ih =>
        intro j hj hn e
        by_cases h0 : j = 0
        · subst h0; exact ⟨0, hj, e, (keeps_iff L 0 hj).2 (.inl rfl)⟩
        · by_cases h1 : L[j] = L[j - 1]
          · exact ih (j - 1) (by omega) (by omega) (by rw [← h1, e])
          · exact ⟨j, hj, e, (keeps_iff L j hj).2 (.inr ⟨by omega, h1⟩)⟩
    obtain ⟨i, hi, e2, hk⟩ := key j j hj (Nat.le_refl _) e
    exact List.mem_map.2 ⟨i, List.mem_filter.2 ⟨List.mem_range.2 hi, hk⟩, by rw [List.getD_eq_getElem?_getD, List.getElem?_eq_getElem hi]; exact e2⟩

theorem cptF_ord {L : List ByteArray} (h : L.Pairwise fun a b => less b a = false) : Ord id (cptF L) := by
  rw [ord_pw, cptF_get2, List.pairwise_map]
  have hp := List.pairwise_iff_getElem.1 h
  refine (List.pairwise_lt_range.filter _).imp_of_mem fun {i j} hi hj hij => ?_
  obtain ⟨hi, _⟩ := List.mem_filter.1 hi
  obtain ⟨hj, hk⟩ := List.mem_filter.1 hj
  have hi := List.mem_range.1 hi
  have hj := List.mem_range.1 hj
  rw [List.getD_eq_getElem?_getD, List.getElem?_eq_getElem hi, List.getD_eq_getElem?_getD, List.getElem?_eq_getElem hj]
  show less L[i] L[j] = true
  rcases (keeps_iff L j hj).1 hk with h0 | ⟨h2, hne⟩
  · omega
  · have h3 : less L[j - 1] L[j] = true := less_total (hp (j - 1) j h2 hj (by omega)) fun e => hne e
    by_cases e : i = j - 1
    · subst e; exact h3
    · have h4 := hp i (j - 1) hi h2 (by omega)
      by_cases e2 : L[i] = L[j - 1]
      · rw [e2]; exact h3
      · exact less_trans (less_total h4 (Ne.symm e2)) h3

theorem names_eqF (l : List Setting) : cptF (srtF (l.map (·.name))) = nameSet l := by
  rw [srtF_srt]
  exact ord_unique (cptF_ord (srt_pw _)) (nameSet_ord l) fun t => by rw [cptF_mem, (srt_perm _).mem_iff, nameSet_mem]
end Go.Proofs.Ytjolahiflldepab.Pi
