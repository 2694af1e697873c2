/- Elimination: the reference. No statement of the seat is proved here. -/
import Derived.Test.YtnmoeeneofopcaaPiFElim
namespace Go.Proofs.Ytnmoeeneofopcaa.Pi
open Go
set_option maxRecDepth 10000
set_option maxHeartbeats 6400000
set_option linter.unusedVariables false

theorem s_l00Own (xs : List Int) (hb : xs.length ≤ 16777216) : Sat Try.prog 36 [(false, Enc.enc xs)] (.one (.rs 0), [(0, .arr 1 (xs.map Enc.enc))]) := by
  refine Sat.intro tok mixed Try.func36 rfl rfl ?_
  ((conv => whnf); repeat ((first | refine B0 ?_ | refine B1 ?_ | refine D1 ?_ | refine D2 ?_ | refine CallC.r ?_); conv => whnf))
  refine Side.mk (by simp; omega) ?_
  ((conv => whnf); repeat ((first | refine B0 ?_ | refine B1 ?_ | refine D1 ?_ | refine D2 ?_ | refine CallC.r ?_); conv => whnf))
  exact ResOK.same rfl

theorem grid_getE {r c : Nat} {f : Nat → Nat → Int} {i j : Nat} (hi : i < r) (hj : j < c) (h : i * c + j < (grid r c f).length) : (grid r c f)[i * c + j] = f i j := by
  have := grid_get (f := f) hi hj
  rw [List.getElem?_eq_getElem h] at this
  exact Option.some.inj this
theorem Pick.rg {r w : Nat} {F : Nat → Nat → Int} {i j n : Nat} {x : Int} {K : List CV → Prop} (hi : i < r) (hj : j < w) (e : n = i * w + j) (hx : F i j = x) (k : K (Enc.enc x)) : Pick (fun row => ((grid r w F).map (Enc.enc (α := Int)))[n]? = some row) K :=
  ⟨_, by subst e; rw [List.getElem?_map, grid_get hi hj, hx]; rfl, k⟩
theorem gset {r w : Nat} {F : Nat → Nat → Int} {i j : Nat} (x : Int) (n : Nat) (y : List CV) (hi : i < r) (hj : j < w) (hn : n = i * w + j) (hy : y = Enc.enc x) : ((grid r w F).map (Enc.enc (α := Int))).set n y = (grid r w (upd2 F i j x)).map Enc.enc := by
  rw [hn, hy, ← List.map_set, grid_set hi hj]

/-- Columns that have changed, and columns still to come. -/
def colUp (f g : Nat → Nat → Int) (n : Nat) : Nat → Nat → Int := fun a b => if b < n then g a b else f a b
theorem colUp_zero (f g : Nat → Nat → Int) : colUp f g 0 = f := by funext a b; simp [colUp]
theorem colUp_at (f g : Nat → Nat → Int) (a j : Nat) : colUp f g j a j = f a j := by simp [colUp]
theorem colUp_all {f g : Nat → Nat → Int} {r w : Nat} : grid r w (colUp f g w) = grid r w g := grid_congr fun a b _ hb => by simp [colUp, hb]
theorem colUp_set1 {f g : Nat → Nat → Int} {r w i j : Nat} (h : ∀ a, a ≠ i → g a j = f a j) : grid r w (upd2 (colUp f g j) i j (g i j)) = grid r w (colUp f g (j + 1)) := grid_congr fun a b _ _ => by
  unfold upd2 colUp
  by_cases h1 : b = j
  · subst h1
    by_cases h2 : a = i
    · subst h2; simp
    · simp [h2, h a h2]
  · by_cases h2 : b < j
    · simp [h1, h2, Nat.lt_succ_of_lt h2]
    · have : ¬ b < j + 1 := by omega
      simp [h1, h2, this]
theorem colUp_set2 {f g : Nat → Nat → Int} {r w i1 i2 j : Nat} (hne : i1 ≠ i2) (h : ∀ a, a ≠ i1 → a ≠ i2 → g a j = f a j) : grid r w (upd2 (upd2 (colUp f g j) i1 j (g i1 j)) i2 j (g i2 j)) = grid r w (colUp f g (j + 1)) := grid_congr fun a b _ _ => by
  unfold upd2 colUp
  by_cases h1 : b = j
  · subst h1
    by_cases h2 : a = i2
    · subst h2; simp
    · by_cases h3 : a = i1
      · subst h3; simp [h2]
      · simp [h2, h3, h a h3 h2]
  · by_cases h2 : b < j
    · simp [h1, h2, Nat.lt_succ_of_lt h2]
    · have : ¬ b < j + 1 := by omega
      simp [h1, h2, this]
theorem grid_of_tab {r w : Nat} {f g : Nat → Nat → Int} (h : tab r w f = tab r w g) : grid r w f = grid r w g := by rw [← tab_grid, h, tab_grid]
theorem sub_mod (a x b p : Int) : (a - x * b) % p = (a + (p - x) * b) % p := by
  rw [Int.sub_mul, show a + (p * b - x * b) = a - x * b + p * b by omega, Int.add_mul_emod_self_left]

end Go.Proofs.Ytnmoeeneofopcaa.Pi
