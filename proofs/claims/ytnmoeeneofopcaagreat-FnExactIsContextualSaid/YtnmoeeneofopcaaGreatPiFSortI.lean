/- Numbers put in order by the library, for an own slice. No statement of the seat is proved here. -/
import Derived.Test.YtnmoeeneofopcaaGreatPiEnc
import Derived.Shelf.SortM.Plain
import Derived.Shelf.SortM.SortNone
import Derived.Sort.OwnSorted
import Derived.Shelf.SlicesG.CompactI
import Derived.Lib.RowBridge
namespace Go.Proofs.YtnmoeeneofopcaaGreat.Pi
open Go Go.RowKit Go.Sort
set_option linter.unusedVariables false

theorem heap_sortedG {α : Type} [Inhabited α] (enc : α → Value) {w : World} {g n : Nat} {os : Array Obj} {cur : Array Value} {e : TypeId} {fr : Nat × Nat} (d : Array α) (hb : w.heap[g]? = some (.cells cur e fr)) :
    (grow (putRow enc (Sort.ahead w n) g 0 d) os).heap[g]? = some (.cells (putCells enc 0 d cur) e fr) := by
  have hg : g < w.heap.size := (Array.getElem?_eq_some_iff.1 hb).1
  rw [heap_grow_old _ _ (by simpa using hg)]
  simp [putRow, mapBlock, Sort.ahead, Array.getElem?_modify, hb, onCells]
theorem grownBy_sortedG {α : Type} [Inhabited α] (enc : α → Value) {w : World} {g n : Nat} {os : Array Obj} (d : Array α) : w.grownBy (grow (putRow enc (Sort.ahead w n) g 0 d) os) (some g) := by
  refine ⟨rfl, rfl, rfl, by simp, fun k hk hne => ?_⟩
  rw [heap_grow_old _ _ (by simpa using hk)]
  have : g ≠ k := fun e => hne (by rw [e])
  simp [putRow, mapBlock, Sort.ahead, Array.getElem?_modify, this]
/-- Numbers in order. -/
def srtI (xs : List Int) : List Int := xs.mergeSort fun x y => decide (x ≤ y)
theorem srtI_len (xs : List Int) : (srtI xs).length = xs.length := by simp [srtI]

theorem s_SortInt {P : Program} {ρ : Go.Shelf.Ren} (Ly : Go.Proofs.SlLaysM.n5 P ρ) (he : Ent P (ρ.f 5)) (xs : List Int) (hb : xs.length < 4611686018427387904) :
    SatM P (ρ.f 5) [.one (.rs 1000000)] [(1000000, .arr 1 (xs.map Enc.enc))] (.tup [], [(1000000, .arr 1 ((srtI xs).map Enc.enc))]) := by
  refine ⟨he, fun O I w L0 vals hI hsz hargs hH => ?_⟩
  obtain ⟨v, rfl⟩ : ∃ v, vals = #[v] := Array.size_eq_one_iff.1 hsz
  have hx := hargs 0 _ v rfl rfl
  have ho := hH.ob 1000000 (.arr 1 (xs.map Enc.enc)) rfl
  obtain ⟨sz, rows, hf, hx⟩ := hx
  have hfe : find [(1000000, Ob.arr 1 (xs.map (Enc.enc (α := Int))))] 1000000 = some (.arr 1 (xs.map Enc.enc)) := rfl
  rw [hfe] at hf
  cases hf
  have back : ∀ (w' : World), Kept O w w' → RepO L0 [(1000000, .arr 1 ((srtI xs).map Enc.enc))] I w' 1000000 (.arr 1 ((srtI xs).map (Enc.enc (α := Int)))) →
      BackM O I w L0 (.tup [], [(1000000, .arr 1 ((srtI xs).map Enc.enc))]) (.tuple #[]) w' := fun w' hk hr => by
    have one : ∀ {k : Nat} {o : Ob}, find [(1000000, Ob.arr 1 ((srtI xs).map (Enc.enc (α := Int))))] k = some o → k = 1000000 ∧ o = .arr 1 ((srtI xs).map Enc.enc) := fun {k o} hf => by
      simp only [find] at hf
      split at hf
      · rename_i e
        cases hf
        exact ⟨(beq_iff.1 e).symm, rfl⟩
      · cases hf
    refine ⟨hk, L0, I, fun b _ h => .inl h, fun b h => Nat.lt_of_lt_of_le (hI b h) hk.size, ⟨#[], rfl, rfl, fun i p v h => by simp at h⟩, ⟨fun k o hf => ?_, fun k o b hf hb => ?_, fun k k' o o' b hf hf' h1 h2 => ?_⟩, fun k o _ _ => ⟨rfl, rfl⟩⟩
    · obtain ⟨rfl, rfl⟩ := one hf
      exact hr
    · obtain ⟨rfl, rfl⟩ := one hf
      obtain ⟨g1, g2, g3⟩ := hH.own 1000000 _ b hfe hb
      exact ⟨.inr g1, g2, Nat.lt_of_lt_of_le g3 hk.size⟩
    · rw [(one hf).1, (one hf').1]
  cases hblk : L0.blk 1000000 with
  | none =>
    simp only [hblk] at hx
    simp only [RepO, hblk] at ho
    have hnil : xs = [] := by simpa using ho
    subst hnil
    subst hx
    refine (AnyM.slices_Sort_int_none Ly none 0 w).mono ?_
    rintro e w' ⟨rfl, hw⟩
    rw [hw]
    refine back w ⟨rfl, rfl, .rfl, Nat.le_refl _, fun _ _ _ => rfl⟩ ?_
    simp only [RepO, hblk]
    simp [srtI]
  | some b =>
    simp only [hblk] at hx
    simp only [RepO, hblk] at ho
    obtain ⟨hcap, hrow, vs, e, fr, hheap, hvs, hfz, hcell⟩ := ho
    rw [List.length_map] at hcap hx
    subst hx
    have hbs : b < w.heap.size := (Array.getElem?_eq_some_iff.1 hheap).1
    have hget : ∀ (i : Nat) (hi : i < xs.length), vs[i]? = some (.int .i64 xs[i]) := fun i hi => by
      obtain ⟨u, h1, h2⟩ := hcell i [.int .i64 xs[i]] 0 (.int .i64 xs[i]) (by rw [List.getElem?_map, List.getElem?_eq_getElem hi]; rfl) rfl
      cases h2
      simpa using h1
    have hHold : Holds (Value.int .i64) w b 0 xs.toArray := fun j hj => by
      have hj' : j < xs.length := by simpa using hj
      have hjv : j < vs.size := (Array.getElem?_eq_some_iff.1 (hget j hj')).1
      refine ⟨?_, by rw [Nat.zero_add]; exact hfz j hjv⟩
      rw [Nat.zero_add]
      have : w.cell? ⟨b, j, none⟩ = vs[j]? := by
        have := cell_row (w := w) (j := j) hheap
        simpa using this
      rw [this, hget j hj']
      simp [hj']
    have hcall := AnyM.slices_Sort_int Ly b 0 (L0.cap 1000000) xs w hHold hbs hb
    refine hcall.mono ?_
    rintro e' w' ⟨rfl, n, os, rfl⟩
    have hg := grownBy_sortedG (Value.int .i64) (w := w) (g := b) (n := n) (os := os) (xs.mergeSort fun x y => decide (x ≤ y)).toArray
    obtain ⟨_, _, _, _, hgb⟩ := hg
    have hOb : O b := (hH.own 1000000 _ b hfe (.inl hblk)).1
    refine back _ ⟨rfl, rfl, ⟨rfl, Nat.le_add_right _ _⟩, by simp, fun k hk hno => ?_⟩ ?_
    · exact hgb k hk (fun e => hno (by cases e; exact hOb))
    · simp only [RepO, hblk]
      refine ⟨by rw [List.length_map, srtI_len]; exact hcap, fun i r hr => ?_, _, e, fr, heap_sortedG _ _ hheap, by simpa [putCells] using hvs, fun o ho => ?_, fun i r j c hr hc => ?_⟩
      · rw [List.getElem?_map] at hr
        cases h : (srtI xs)[i]? with
        | none => simp [h] at hr
        | some s => simp only [h, Option.map_some, Option.some.injEq] at hr; subst hr; rfl
      · rw [frozen?_grow _ _ _ (by simpa using hbs)]
        rw [frozen?_putRow, frozen?_ahead]
        exact hfz o (by simpa [putCells] using ho)
      · rw [List.getElem?_map] at hr
        cases h : (srtI xs)[i]? with
        | none => simp [h] at hr
        | some s =>
          simp only [h, Option.map_some, Option.some.injEq] at hr
          subst hr
          have hj : j = 0 ∧ c = .int .i64 s := by
            cases j with
            | zero => simp [Enc.enc] at hc; exact ⟨rfl, hc.symm⟩
            | succ j => simp [Enc.enc] at hc
          obtain ⟨rfl, rfl⟩ := hj
          have hil : i < xs.length := by rw [← srtI_len xs]; exact (List.getElem?_eq_some_iff.1 h).1
          have hiv : i < vs.size := (Array.getElem?_eq_some_iff.1 (hget i hil)).1
          refine ⟨.int .i64 s, ?_, RepC.int .i64 s⟩
          obtain ⟨hlt, he2⟩ := List.getElem?_eq_some_iff.1 h
          simp only [srtI] at hlt he2
          simp only [putCells, Array.getElem?_mapIdx, Nat.mul_one, Nat.add_zero, Array.getElem?_eq_getElem hiv, Option.map_some]
          rw [if_pos ⟨Nat.zero_le _, by simpa using hil⟩]
          simp [hil, he2]

/-- Numbers, each once where equal ones stand beside each other. -/
def cptI (xs : List Int) : List Int := Lib.compact xs

theorem s_CompactInt {P : Program} {ρ : Go.Shelf.Ren} (Ly : Go.Proofs.SlLaysN.n43 P ρ) (he : Ent P (ρ.f 43)) (xs : List Int) (hb : xs.length < 4611686018427387904) :
    SatM P (ρ.f 43) [.one (.rs 1000000)] [(1000000, .arr 1 (xs.map Enc.enc))] (.one (.rs 0), [(0, .arr 1 ((cptI xs).map Enc.enc))]) := by
  refine ⟨he, fun O I w L0 vals hI hsz hargs hH => ?_⟩
  obtain ⟨v, rfl⟩ : ∃ v, vals = #[v] := Array.size_eq_one_iff.1 hsz
  have hx := hargs 0 _ v rfl rfl
  have ho := hH.ob 1000000 (.arr 1 (xs.map Enc.enc)) rfl
  obtain ⟨sz, rows, hf, hx⟩ := hx
  have hfe : find [(1000000, Ob.arr 1 (xs.map (Enc.enc (α := Int))))] 1000000 = some (.arr 1 (xs.map Enc.enc)) := rfl
  rw [hfe] at hf
  cases hf
  let L : Lay := ⟨fun _ => L0.blk 1000000, fun _ => L0.cap 1000000, fun _ => L0.fp 1000000, L0.hd⟩
  have back : ∀ (w' : World) (u : Value), Kept O w w' → RepO L [(0, .arr 1 ((cptI xs).map Enc.enc))] I w' 0 (.arr 1 ((cptI xs).map (Enc.enc (α := Int)))) → RepX L [(0, .arr 1 ((cptI xs).map Enc.enc))] I w' u (.rs 0) →
      BackM O I w L0 (.one (.rs 0), [(0, .arr 1 ((cptI xs).map Enc.enc))]) u w' := fun w' u hk hr hu => by
    have one : ∀ {k : Nat} {o : Ob}, find [(0, Ob.arr 1 ((cptI xs).map (Enc.enc (α := Int))))] k = some o → k = 0 ∧ o = .arr 1 ((cptI xs).map Enc.enc) := fun {k o} hf => by
      simp only [find] at hf
      split at hf
      · rename_i e
        cases hf
        exact ⟨(beq_iff.1 e).symm, rfl⟩
      · cases hf
    refine ⟨hk, L, I, fun b _ h => .inl h, fun b h => Nat.lt_of_lt_of_le (hI b h) hk.size, hu, ⟨fun k o hf => ?_, fun k o b hf hb => ?_, fun k k' o o' b hf hf' h1 h2 => ?_⟩, fun k o hp hf => ?_⟩
    · obtain ⟨rfl, rfl⟩ := one hf
      exact hr
    · obtain ⟨rfl, rfl⟩ := one hf
      obtain ⟨g1, g2, g3⟩ := hH.own 1000000 _ b hfe hb
      exact ⟨.inr g1, g2, Nat.lt_of_lt_of_le g3 hk.size⟩
    · rw [(one hf).1, (one hf').1]
    · obtain ⟨rfl, rfl⟩ := one hf
      exact absurd hp (by decide)
  cases hblk : L0.blk 1000000 with
  | none =>
    simp only [hblk] at hx
    simp only [RepO, hblk] at ho
    have hnil : xs = [] := by simpa using ho
    subst hnil
    subst hx
    refine (AnyG.slices_Compact_int_empty Ly none 0 w).mono ?_
    rintro e w' ⟨rfl, hw⟩
    rw [hw]
    refine back w _ ⟨rfl, rfl, .rfl, Nat.le_refl _, fun _ _ _ => rfl⟩ ?_ ⟨1, _, rfl, ?_⟩
    · simp only [RepO, L, hblk]
      rfl
    · simp only [L, hblk]
  | some b =>
    simp only [hblk] at hx
    simp only [RepO, hblk] at ho
    obtain ⟨hcap, hrow, vs, e, fr, hheap, hvs, hfz, hcell⟩ := ho
    rw [List.length_map] at hcap hx
    subst hx
    have hbs : b < w.heap.size := (Array.getElem?_eq_some_iff.1 hheap).1
    have hget : ∀ (i : Nat) (hi : i < xs.length), vs[i]? = some (.int .i64 xs[i]) := fun i hi => by
      obtain ⟨u, h1, h2⟩ := hcell i [.int .i64 xs[i]] 0 (.int .i64 xs[i]) (by rw [List.getElem?_map, List.getElem?_eq_getElem hi]; rfl) rfl
      cases h2
      simpa using h1
    have hHold : Holds (Value.int .i64) w b 0 xs.toArray := fun j hj => by
      have hj' : j < xs.length := by simpa using hj
      have hjv : j < vs.size := (Array.getElem?_eq_some_iff.1 (hget j hj')).1
      refine ⟨?_, by rw [Nat.zero_add]; exact hfz j hjv⟩
      rw [Nat.zero_add]
      have : w.cell? ⟨b, j, none⟩ = vs[j]? := by
        have := cell_row (w := w) (j := j) hheap
        simpa using this
      rw [this, hget j hj']
      simp [hj']
    have hcall := AnyG.slices_Compact_int Ly b 0 (L0.cap 1000000) xs w hHold (by omega) hcap
    have hle := Lib.compact_length_le xs
    have hcl : (cptI xs).length = (Lib.compact xs).length := by simp [cptI]
    refine hcall.mono ?_
    rintro e' w' ⟨rfl, n, rfl⟩
    generalize hd : (Lib.compact xs ++ List.replicate (xs.length - (Lib.compact xs).length) 0).toArray = d
    have hdl : d.size = xs.length := by rw [← hd]; simp; omega
    have hg := grownBy_sortedG (Value.int .i64) (w := w) (g := b) (n := n) (os := #[]) d
    have hhp := heap_sortedG (Value.int .i64) (w := w) (n := n) (os := #[]) d hheap
    rw [grow_empty] at hg hhp
    obtain ⟨_, _, _, _, hgb⟩ := hg
    have hOb : O b := (hH.own 1000000 _ b hfe (.inl hblk)).1
    refine back _ _ ⟨rfl, rfl, ⟨rfl, Nat.le_add_right _ _⟩, by simp [putRow, mapBlock, Sort.ahead], fun k hk hno => ?_⟩ ?_ ⟨1, _, rfl, ?_⟩
    · exact hgb k hk (fun e => hno (by cases e; exact hOb))
    · simp only [RepO, L, hblk]
      refine ⟨by rw [List.length_map, hcl]; omega, fun i r hr => ?_, _, e, fr, hhp, by simpa [putCells] using hvs, fun o ho => ?_, fun i r j c hr hc => ?_⟩
      · rw [List.getElem?_map] at hr
        cases h : (cptI xs)[i]? with
        | none => simp [h] at hr
        | some s => simp only [h, Option.map_some, Option.some.injEq] at hr; subst hr; rfl
      · rw [frozen?_putRow, frozen?_ahead]
        exact hfz o (by simpa [putCells] using ho)
      · rw [List.getElem?_map] at hr
        cases h : (cptI xs)[i]? with
        | none => simp [h] at hr
        | some s =>
          simp only [h, Option.map_some, Option.some.injEq] at hr
          subst hr
          have hj : j = 0 ∧ c = .int .i64 s := by
            cases j with
            | zero => simp [Enc.enc] at hc; exact ⟨rfl, hc.symm⟩
            | succ j => simp [Enc.enc] at hc
          obtain ⟨rfl, rfl⟩ := hj
          have hil : i < (cptI xs).length := (List.getElem?_eq_some_iff.1 h).1
          have hiv : i < vs.size := (Array.getElem?_eq_some_iff.1 (hget i (by omega))).1
          refine ⟨.int .i64 s, ?_, RepC.int .i64 s⟩
          obtain ⟨hlt, he2⟩ := List.getElem?_eq_some_iff.1 h
          simp only [cptI] at hlt he2
          simp only [putCells, Array.getElem?_mapIdx, Nat.mul_one, Nat.add_zero, Array.getElem?_eq_getElem hiv, Option.map_some]
          rw [if_pos ⟨Nat.zero_le _, by omega⟩]
          have hdx : d[i]? = some s := by
            rw [← hd, List.getElem?_toArray, List.getElem?_append_left hlt]
            exact h
          have hdi : d[i - 0]! = s := by
            obtain ⟨h5, h6⟩ := Array.getElem?_eq_some_iff.1 hdx
            rw [Nat.sub_zero, getElem!_pos d i h5, h6]
          rw [hdi]
    · simp only [L, hblk]
      rw [List.length_map, hcl]
end Go.Proofs.YtnmoeeneofopcaaGreat.Pi
