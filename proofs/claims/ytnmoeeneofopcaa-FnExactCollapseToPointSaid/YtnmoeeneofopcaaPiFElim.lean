/- Elimination: the program and the reference. No statement of the seat is proved here. -/
import Derived.Test.YtnmoeeneofopcaaPiElim
import Derived.Test.YtnmoeeneofopcaaPiFMat2
namespace Go.Proofs.Ytnmoeeneofopcaa.Pi
open Go
set_option maxRecDepth 10000
set_option maxHeartbeats 1600000
set_option linter.unusedVariables false

/-- a plus c times b. -/
def addT (p : Int) (a b : List Int) (c : Int) : List Int := (List.range a.length).map fun k => (a.getD k 0 + c * b.getD k 0) % p
theorem mul_bound' {a b : Int} (ha : 0 ≤ a ∧ a ≤ 251) (hb : 0 ≤ b ∧ b ≤ 251) : 0 ≤ a * b ∧ a * b ≤ 63001 := by
  refine ⟨Int.mul_nonneg ha.1 hb.1, ?_⟩
  have h1 : a * b ≤ 251 * b := Int.mul_le_mul_of_nonneg_right ha.2 hb.1
  omega
/-! ### rows in memory of their own -/
theorem Pick.ro {α : Type} [Enc α] {xs : List α} {i n : Nat} {K : List CV → Prop} (h : i < xs.length) (e : n = i) (k : K (Enc.enc xs[i])) : Pick (fun row => (xs.map Enc.enc)[n]? = some row) K :=
  ⟨_, by subst e; simp [h], k⟩
theorem Pick.roI {α : Type} [Enc α] {xs : List α} {i : Nat} {n : Int} {K : List CV → Prop} (h : i < xs.length) (e : n = (i : Int)) (k : K (Enc.enc xs[i])) : Pick (fun row => 0 ≤ n ∧ (xs.map Enc.enc)[n.toNat]? = some row) K :=
  ⟨_, by subst e; exact ⟨by omega, by simp [h]⟩, k⟩
theorem seek_congr {g g' : Nat → Bool} : ∀ {n q : Nat}, (∀ i, q ≤ i → i < q + n → g i = g' i) → seek g n q = seek g' n q
  | 0, q, _ => rfl
  | n + 1, q, h => by
    unfold seek
    rw [h q (Nat.le_refl _) (by omega), seek_congr (n := n) (q := q + 1) fun i h1 h2 => h i (by omega) (by omega)]
/-- Rows that have been cleared, and rows still to come. -/
def partF (f : Nat → Nat → Int) (p : Int) (top c n : Nat) : Nat → Nat → Int := fun a b => if a < n then clearF f p top c a b else f a b
theorem partF_zero (f : Nat → Nat → Int) (p : Int) (top c : Nat) : partF f p top c 0 = f := by
  funext a b; simp [partF]
theorem partF_self (f : Nat → Nat → Int) (p : Int) (top c n : Nat) : partF f p top c n n = f n := by
  funext b; simp [partF]
theorem partF_top (f : Nat → Nat → Int) (p : Int) (top c n : Nat) : partF f p top c n top = f top := by
  funext b; simp [partF, clearF]
theorem partF_succ {f : Nat → Nat → Int} {p : Int} {top c n w r : Nat} : tab r w (partF f p top c (n + 1)) = tab r w (upd1 (partF f p top c n) n (clearF f p top c n)) := tab_congr fun a b _ _ => by
  unfold partF upd1
  by_cases h : a = n
  · subst h; simp
  · by_cases h2 : a < n
    · simp [h, h2, Nat.lt_succ_of_lt h2]
    · have : ¬ a < n + 1 := by omega
      simp [h, h2, this]
theorem partF_keep {f : Nat → Nat → Int} {p : Int} {top c n w r : Nat} (hf : ∀ i j, i < r → j < w → 0 ≤ f i j ∧ f i j < p) (h : n = top ∨ f n c = 0) : tab r w (partF f p top c (n + 1)) = tab r w (partF f p top c n) := tab_congr fun a b ha hb => by
  unfold partF
  by_cases h1 : a = n
  · subst h1
    have h2 := hf a b ha hb
    rw [if_pos (by omega), if_neg (by omega)]
    unfold clearF
    split
    · rfl
    · rename_i h3
      rw [h.resolve_left h3, Int.sub_zero, Int.add_mul_emod_self_left, Int.emod_eq_of_lt h2.1 h2.2]
  · by_cases h2 : a < n
    · rw [if_pos (by omega), if_pos h2]
    · rw [if_neg (by omega), if_neg h2]
theorem partF_all {f : Nat → Nat → Int} {p : Int} {top c w r : Nat} : tab r w (partF f p top c r) = tab r w (clearF f p top c) := tab_congr fun a b ha hb => by
  unfold partF; rw [if_pos ha]
theorem swap_self (f : Nat → Nat → Int) (a : Nat) : swapF f a a = f := by
  funext i j
  unfold swapF
  split
  · rename_i h; rw [h]
  · rfl
theorem swap_set {r w : Nat} {f : Nat → Nat → Int} {a b : Nat} (ha : a < r) (hb : b < r) : (((tab r w f).map (Enc.enc (α := List Int))).set a (Enc.enc ((List.range w).map (f b)))).set b (Enc.enc ((List.range w).map (f a))) = (tab r w (swapF f a b)).map Enc.enc := by
  rw [← List.map_set, tab_set ha, ← List.map_set, tab_set hb]
  congr 1
  refine tab_congr fun i j _ _ => ?_
  unfold upd1 swapF
  by_cases h1 : i = b
  · rw [if_pos h1]
    by_cases h2 : i = a
    · rw [if_pos h2, ← h1, ← h2]
    · rw [if_neg h2, if_pos h1]
  · rw [if_neg h1]
    by_cases h2 : i = a
    · rw [if_pos h2, if_pos h2]
    · rw [if_neg h2, if_neg h2, if_neg h1]

def pvI (s : ES) : List Int := s.pv.map fun (c : Nat) => (c : Int)
theorem pvI_len (s : ES) : (pvI s).length = s.pv.length := by simp [pvI]
end Go.Proofs.Ytnmoeeneofopcaa.Pi
