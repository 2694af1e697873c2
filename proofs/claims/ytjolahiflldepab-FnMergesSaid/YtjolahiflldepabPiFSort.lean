/- Texts put in order by the library, for an own slice. No statement of the seat is proved here. -/
import Derived.Test.YtjolahiflldepabPiEnc
import Derived.Shelf.Sort.Plain
import Derived.Shelf.Slices.In.SortNone
import Derived.Sort.OwnSorted
import Derived.Shelf.Slices.CompactS
import Derived.Lib.RowBridge
namespace Go.Proofs.Ytjolahiflldepab.Pi
open Go Go.RowKit Go.Sort
set_option linter.unusedVariables false

/-- Texts in order. -/
def srtF (xs : List ByteArray) : List ByteArray := ((xs.map fun s => s.data.toList).mergeSort fun x y => decide (x ≤ y)).map fun l => ⟨l.toArray⟩
theorem srtF_len (xs : List ByteArray) : (srtF xs).length = xs.length := by simp [srtF]

theorem s_SortString {P : Program} {ρ : Go.Shelf.Ren} (Ly : Go.Proofs.Lays.n190 P ρ) (he : Ent P (ρ.f 190)) (xs : List ByteArray) (hb : xs.length < 4611686018427387904) :
    SatM P (ρ.f 190) [.one (.rs 1000000)] [(1000000, .arr 1 (xs.map Enc.enc))] (.tup [], [(1000000, .arr 1 ((srtF xs).map Enc.enc))]) := by
  refine ⟨he, fun O I w L0 vals hlw hI hsz hargs hH => ?_⟩
  obtain ⟨v, rfl⟩ : ∃ v, vals = #[v] := Array.size_eq_one_iff.1 hsz
  have hx := hargs 0 _ v rfl rfl
  have ho := hH.ob 1000000 (.arr 1 (xs.map Enc.enc)) rfl
  obtain ⟨sz, rows, hf, hx⟩ := hx
  have hfe : find [(1000000, Ob.arr 1 (xs.map (Enc.enc (α := ByteArray))))] 1000000 = some (.arr 1 (xs.map Enc.enc)) := rfl
  rw [hfe] at hf
  cases hf
  have back : ∀ (w' : World), Kept O w w' → RepO L0 [(1000000, .arr 1 ((srtF xs).map Enc.enc))] I w' 1000000 (.arr 1 ((srtF xs).map (Enc.enc (α := ByteArray)))) →
      BackM O I w L0 (.tup [], [(1000000, .arr 1 ((srtF xs).map Enc.enc))]) (.tuple #[]) w' := fun w' hk hr => by
    have one : ∀ {k : Nat} {o : Ob}, find [(1000000, Ob.arr 1 ((srtF xs).map (Enc.enc (α := ByteArray))))] k = some o → k = 1000000 ∧ o = .arr 1 ((srtF xs).map Enc.enc) := fun {k o} hf => by
      simp only [find] at hf
      split at hf
      · rename_i e
        cases hf
        exact ⟨(beq_iff.1 e).symm, rfl⟩
      · cases hf
    refine ⟨hk, L0, I, fun b _ h => .inl h, fun b h => Nat.lt_of_lt_of_le (hI b h) hk.size, ⟨#[], rfl, rfl, fun i p v h => by simp at h⟩, ⟨fun k o hf => ?_, fun k o b hf hb => ?_, fun k k' o o' b hf hf' h1 h2 => ?_⟩, fun k o _ _ => ⟨rfl, rfl⟩⟩
    · obtain ⟨rfl, rfl⟩ := one hf
      exact hr
    · obtain ⟨rfl, rfl⟩ := one hf
      obtain ⟨g1, g2, g3⟩ := hH.own 1000000 _ b hfe hb
      exact ⟨.inr g1, g2, Nat.lt_of_lt_of_le g3 hk.size⟩
    · rw [(one hf).1, (one hf').1]
  cases hblk : L0.blk 1000000 with
  | none =>
    simp only [hblk] at hx
    simp only [RepO, hblk] at ho
    have hnil : xs = [] := by simpa using ho
    subst hnil
    subst hx
    refine (Any.slices_Sort_string_none Ly none 0 w).mono ?_
    rintro e w' ⟨rfl, hw⟩
    rw [hw]
    refine back w ⟨rfl, rfl, .rfl, Nat.le_refl _, fun _ _ _ => rfl⟩ ?_
    simp only [RepO, hblk]
    simp [srtF]
  | some b =>
    simp only [hblk] at hx
    simp only [RepO, hblk] at ho
    obtain ⟨hcap, hrow, vs, e, fr, hheap, hvs, hfz, hcell⟩ := ho
    rw [List.length_map] at hcap hx
    subst hx
    have hbs : b < w.heap.size := (Array.getElem?_eq_some_iff.1 hheap).1
    have hget : ∀ (i : Nat) (hi : i < xs.length), vs[i]? = some (.string xs[i]) := fun i hi => by
      obtain ⟨u, h1, h2⟩ := hcell i [.str xs[i]] 0 (.str xs[i]) (by rw [List.getElem?_map, List.getElem?_eq_getElem hi]; rfl) rfl
      cases h2
      simpa using h1
    have hHold : Holds encStr w b 0 (xs.map fun s => s.data.toList).toArray := fun j hj => by
      have hj' : j < xs.length := by simpa using hj
      have hjv : j < vs.size := (Array.getElem?_eq_some_iff.1 (hget j hj')).1
      refine ⟨?_, by rw [Nat.zero_add]; exact hfz j hjv⟩
      rw [Nat.zero_add]
      have : w.cell? ⟨b, j, none⟩ = vs[j]? := by
        have := cell_row (w := w) (j := j) hheap
        simpa using this
      rw [this, hget j hj']
      simp [hj', encStr]
    have hcall := Any.slices_Sort_string Ly b 0 (L0.cap 1000000) (xs.map fun s => s.data.toList) w hHold hbs (by simpa using hb)
    rw [List.length_map] at hcall
    refine hcall.mono ?_
    rintro e' w' ⟨rfl, n, os, rfl⟩
    have hg := grownBy_sorted (w := w) (g := b) (n := n) (os := os) ((xs.map fun s => s.data.toList).mergeSort fun x y => decide (x ≤ y)).toArray
    obtain ⟨_, _, _, _, hgb⟩ := hg
    have hOb : O b := (hH.own 1000000 _ b hfe (.inl hblk)).1
    refine back _ ⟨rfl, rfl, ⟨rfl, Nat.le_add_right _ _⟩, by simp, fun k hk hno => ?_⟩ ?_
    · exact hgb k hk (fun e => hno (by cases e; exact hOb))
    · simp only [RepO, hblk]
      refine ⟨by rw [List.length_map, srtF_len]; exact hcap, fun i r hr => ?_, _, e, fr, heap_sorted _ hheap, by simpa [putCells] using hvs, fun o ho => ?_, fun i r j c hr hc => ?_⟩
      · rw [List.getElem?_map] at hr
        cases h : (srtF xs)[i]? with
        | none => simp [h] at hr
        | some s => simp only [h, Option.map_some, Option.some.injEq] at hr; subst hr; rfl
      · rw [frozen?_grow _ _ _ (by simpa using hbs)]
        rw [frozen?_putRow, frozen?_ahead]
        exact hfz o (by simpa [putCells] using ho)
      · rw [List.getElem?_map] at hr
        cases h : (srtF xs)[i]? with
        | none => simp [h] at hr
        | some s =>
          simp only [h, Option.map_some, Option.some.injEq] at hr
          subst hr
          have hj : j = 0 ∧ c = .str s := by
            cases j with
            | zero => simp [Enc.enc] at hc; exact ⟨rfl, hc.symm⟩
            | succ j => simp [Enc.enc] at hc
          obtain ⟨rfl, rfl⟩ := hj
          have hil : i < xs.length := by rw [← srtF_len xs]; exact (List.getElem?_eq_some_iff.1 h).1
          have hiv : i < vs.size := (Array.getElem?_eq_some_iff.1 (hget i hil)).1
          refine ⟨.string s, ?_, RepC.str s⟩
          simp only [srtF, List.getElem?_map] at h
          cases h2 : ((xs.map fun s => s.data.toList).mergeSort fun x y => decide (x ≤ y))[i]? with
          | none => simp [h2] at h
          | some l =>
            simp only [h2, Option.map_some, Option.some.injEq] at h
            subst h
            have hlt := (List.getElem?_eq_some_iff.1 h2).1
            have he2 := (List.getElem?_eq_some_iff.1 h2).2
            simp only [putCells, Array.getElem?_mapIdx, Nat.mul_one, Nat.add_zero, Array.getElem?_eq_getElem hiv, Option.map_some]
            rw [if_pos ⟨Nat.zero_le _, by simpa using hil⟩]
            simp [hil, he2, encStr]
            done

/-- Texts, each once where equal ones stand beside each other. -/
def cptF (xs : List ByteArray) : List ByteArray := (Lib.compact (xs.map fun s => s.data.toList)).map fun l => ⟨l.toArray⟩

theorem s_CompactString {P : Program} {ρ : Go.Shelf.Ren} (Ly : Go.Proofs.Lays.n194 P ρ) (he : Ent P (ρ.f 194)) (xs : List ByteArray) (hb : xs.length < 4611686018427387904) :
    SatM P (ρ.f 194) [.one (.rs 1000000)] [(1000000, .arr 1 (xs.map Enc.enc))] (.one (.rs 0), [(0, .arr 1 ((cptF xs).map Enc.enc))]) := by
  refine ⟨he, fun O I w L0 vals hlw hI hsz hargs hH => ?_⟩
  obtain ⟨v, rfl⟩ : ∃ v, vals = #[v] := Array.size_eq_one_iff.1 hsz
  have hx := hargs 0 _ v rfl rfl
  have ho := hH.ob 1000000 (.arr 1 (xs.map Enc.enc)) rfl
  obtain ⟨sz, rows, hf, hx⟩ := hx
  have hfe : find [(1000000, Ob.arr 1 (xs.map (Enc.enc (α := ByteArray))))] 1000000 = some (.arr 1 (xs.map Enc.enc)) := rfl
  rw [hfe] at hf
  cases hf
  let L : Lay := ⟨fun _ => L0.blk 1000000, fun _ => L0.cap 1000000, fun _ => L0.fp 1000000, L0.hd⟩
  have back : ∀ (w' : World) (u : Value), Kept O w w' → RepO L [(0, .arr 1 ((cptF xs).map Enc.enc))] I w' 0 (.arr 1 ((cptF xs).map (Enc.enc (α := ByteArray)))) → RepX L [(0, .arr 1 ((cptF xs).map Enc.enc))] I w' u (.rs 0) →
      BackM O I w L0 (.one (.rs 0), [(0, .arr 1 ((cptF xs).map Enc.enc))]) u w' := fun w' u hk hr hu => by
    have one : ∀ {k : Nat} {o : Ob}, find [(0, Ob.arr 1 ((cptF xs).map (Enc.enc (α := ByteArray))))] k = some o → k = 0 ∧ o = .arr 1 ((cptF xs).map Enc.enc) := fun {k o} hf => by
      simp only [find] at hf
      split at hf
      · rename_i e
        cases hf
        exact ⟨(beq_iff.1 e).symm, rfl⟩
      · cases hf
    refine ⟨hk, L, I, fun b _ h => .inl h, fun b h => Nat.lt_of_lt_of_le (hI b h) hk.size, hu, ⟨fun k o hf => ?_, fun k o b hf hb => ?_, fun k k' o o' b hf hf' h1 h2 => ?_⟩, fun k o hp hf => ?_⟩
    · obtain ⟨rfl, rfl⟩ := one hf
      exact hr
    · obtain ⟨rfl, rfl⟩ := one hf
      obtain ⟨g1, g2, g3⟩ := hH.own 1000000 _ b hfe hb
      exact ⟨.inr g1, g2, Nat.lt_of_lt_of_le g3 hk.size⟩
    · rw [(one hf).1, (one hf').1]
    · obtain ⟨rfl, rfl⟩ := one hf
      exact absurd hp (by decide)
  cases hblk : L0.blk 1000000 with
  | none =>
    simp only [hblk] at hx
    simp only [RepO, hblk] at ho
    have hnil : xs = [] := by simpa using ho
    subst hnil
    subst hx
    refine (Any.slices_Compact_string_empty Ly none 0 w).mono ?_
    rintro e w' ⟨rfl, hw⟩
    rw [hw]
    refine back w _ ⟨rfl, rfl, .rfl, Nat.le_refl _, fun _ _ _ => rfl⟩ ?_ ⟨1, _, rfl, ?_⟩
    · simp only [RepO, L, hblk]
      rfl
    · simp only [L, hblk]
  | some b =>
    simp only [hblk] at hx
    simp only [RepO, hblk] at ho
    obtain ⟨hcap, hrow, vs, e, fr, hheap, hvs, hfz, hcell⟩ := ho
    rw [List.length_map] at hcap hx
    subst hx
    have hbs : b < w.heap.size := (Array.getElem?_eq_some_iff.1 hheap).1
    have hget : ∀ (i : Nat) (hi : i < xs.length), vs[i]? = some (.string xs[i]) := fun i hi => by
      obtain ⟨u, h1, h2⟩ := hcell i [.str xs[i]] 0 (.str xs[i]) (by rw [List.getElem?_map, List.getElem?_eq_getElem hi]; rfl) rfl
      cases h2
      simpa using h1
    have hHold : Holds encStr w b 0 (xs.map fun s => s.data.toList).toArray := fun j hj => by
      have hj' : j < xs.length := by simpa using hj
      have hjv : j < vs.size := (Array.getElem?_eq_some_iff.1 (hget j hj')).1
      refine ⟨?_, by rw [Nat.zero_add]; exact hfz j hjv⟩
      rw [Nat.zero_add]
      have : w.cell? ⟨b, j, none⟩ = vs[j]? := by
        have := cell_row (w := w) (j := j) hheap
        simpa using this
      rw [this, hget j hj']
      simp [hj', encStr]
    have hcall := Any.slices_Compact_string Ly b 0 (L0.cap 1000000) (xs.map fun s => s.data.toList) w hHold (by simp; omega) (by simpa using hcap)
    rw [List.length_map] at hcall
    have hle := Lib.compact_length_le (xs.map fun s => s.data.toList)
    rw [List.length_map] at hle
    have hcl : (cptF xs).length = (Lib.compact (xs.map fun s => s.data.toList)).length := by simp [cptF]
    refine hcall.mono ?_
    rintro e' w' ⟨rfl, n, rfl⟩
    generalize hd : (Lib.compact (xs.map fun (s : ByteArray) => s.data.toList) ++ List.replicate (xs.length - (Lib.compact (xs.map fun (s : ByteArray) => s.data.toList)).length) []).toArray = d
    have hdl : d.size = xs.length := by rw [← hd]; simp; omega
    have hg := grownBy_sorted (w := w) (g := b) (n := n) (os := #[]) d
    have hhp := heap_sorted (w := w) (n := n) (os := #[]) d hheap
    rw [grow_empty] at hg hhp
    obtain ⟨_, _, _, _, hgb⟩ := hg
    have hOb : O b := (hH.own 1000000 _ b hfe (.inl hblk)).1
    refine back _ _ ⟨rfl, rfl, ⟨rfl, Nat.le_add_right _ _⟩, by simp [putRow, mapBlock, Sort.ahead], fun k hk hno => ?_⟩ ?_ ⟨1, _, rfl, ?_⟩
    · exact hgb k hk (fun e => hno (by cases e; exact hOb))
    · simp only [RepO, L, hblk]
      refine ⟨by rw [List.length_map, hcl]; omega, fun i r hr => ?_, _, e, fr, hhp, by simpa [putCells] using hvs, fun o ho => ?_, fun i r j c hr hc => ?_⟩
      · rw [List.getElem?_map] at hr
        cases h : (cptF xs)[i]? with
        | none => simp [h] at hr
        | some s => simp only [h, Option.map_some, Option.some.injEq] at hr; subst hr; rfl
      · rw [frozen?_putRow, frozen?_ahead]
        exact hfz o (by simpa [putCells] using ho)
      · rw [List.getElem?_map] at hr
        cases h : (cptF xs)[i]? with
        | none => simp [h] at hr
        | some s =>
          simp only [h, Option.map_some, Option.some.injEq] at hr
          subst hr
          have hj : j = 0 ∧ c = .str s := by
            cases j with
            | zero => simp [Enc.enc] at hc; exact ⟨rfl, hc.symm⟩
            | succ j => simp [Enc.enc] at hc
          obtain ⟨rfl, rfl⟩ := hj
          have hil : i < (cptF xs).length := (List.getElem?_eq_some_iff.1 h).1
          have hiv : i < vs.size := (Array.getElem?_eq_some_iff.1 (hget i (by omega))).1
          refine ⟨.string s, ?_, RepC.str s⟩
          simp only [cptF, List.getElem?_map] at h
          cases h2 : (Lib.compact (xs.map fun s => s.data.toList))[i]? with
          | none => simp [h2] at h
          | some l =>
            simp only [h2, Option.map_some, Option.some.injEq] at h
            subst h
            obtain ⟨hlt, he2⟩ := List.getElem?_eq_some_iff.1 h2
            simp only [putCells, Array.getElem?_mapIdx, Nat.mul_one, Nat.add_zero, Array.getElem?_eq_getElem hiv, Option.map_some]
            rw [if_pos ⟨Nat.zero_le _, by omega⟩]
            have hdx : d[i]? = some l := by
              rw [← hd, List.getElem?_toArray, List.getElem?_append_left hlt]
              exact h2
            have hdi : d[i - 0]! = l := by
              obtain ⟨h5, h6⟩ := Array.getElem?_eq_some_iff.1 hdx
              rw [Nat.sub_zero, getElem!_pos d i h5, h6]
            rw [hdi]
    · simp only [L, hblk]
      rw [List.length_map, hcl]
end Go.Proofs.Ytjolahiflldepab.Pi
