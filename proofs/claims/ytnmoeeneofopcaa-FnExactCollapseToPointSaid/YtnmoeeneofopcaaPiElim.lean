/- Elimination as plain values. No statement of the seat is proved here. -/
import Derived.Test.YtnmoeeneofopcaaPiMat2
namespace Go.Proofs.Ytnmoeeneofopcaa.Pi
open Go
set_option linter.unusedVariables false

/-- The first place from 'q' on, of 'n' places, where 'g' holds; behind them, if there is none. -/
def seek (g : Nat → Bool) : Nat → Nat → Nat
  | 0, q => q
  | n + 1, q => if g q then q else seek g n (q + 1)
theorem seek_ge (g : Nat → Bool) : ∀ (n q : Nat), q ≤ seek g n q
  | 0, q => Nat.le_refl _
  | n + 1, q => by
    unfold seek; split
    · exact Nat.le_refl _
    · have := seek_ge g n (q + 1); omega
theorem seek_le (g : Nat → Bool) : ∀ (n q : Nat), seek g n q ≤ q + n
  | 0, q => Nat.le_refl _
  | n + 1, q => by
    unfold seek; split
    · omega
    · have := seek_le g n (q + 1); omega
theorem seek_at {g : Nat → Bool} : ∀ {n q : Nat}, seek g n q < q + n → g (seek g n q) = true
  | 0, q, h => by simp [seek] at h
  | n + 1, q, h => by
    unfold seek at h ⊢; split
    · assumption
    · rename_i h2
      rw [if_neg h2] at h
      exact seek_at (by omega)
theorem seek_before {g : Nat → Bool} : ∀ {n q j : Nat}, q ≤ j → j < seek g n q → g j = false
  | 0, q, j, h1, h2 => by simp [seek] at h2; omega
  | n + 1, q, j, h1, h2 => by
    unfold seek at h2; split at h2
    · omega
    · rename_i h3
      by_cases e : q = j
      · subst e; simpa using h3
      · exact seek_before (by omega) h2
theorem seek_eq {g : Nat → Bool} {n q j : Nat} (h1 : q ≤ j) (h2 : j < q + n) (h3 : g j = true) (h4 : ∀ i, q ≤ i → i < j → g i = false) : seek g n q = j := by
  have hle := seek_le g n q
  have hge := seek_ge g n q
  rcases Nat.lt_trichotomy (seek g n q) j with h | h | h
  · have := seek_at (g := g) (n := n) (q := q) (by omega)
    rw [h4 _ hge h] at this; cases this
  · exact h
  · have := seek_before h1 h
    rw [h3] at this; cases this
theorem seek_none {g : Nat → Bool} {n q : Nat} (h : ∀ i, q ≤ i → i < q + n → g i = false) : seek g n q = q + n := by
  have hle := seek_le g n q
  have hge := seek_ge g n q
  rcases Nat.lt_or_ge (seek g n q) (q + n) with h2 | h2
  · have := seek_at h2
    rw [h _ hge h2] at this; cases this
  · omega

def tab (r w : Nat) (f : Nat → Nat → Int) : List (List Int) := (List.range r).map fun i => (List.range w).map (f i)
theorem tab_len (r w : Nat) (f : Nat → Nat → Int) : (tab r w f).length = r := by simp [tab]
theorem tab_get {r w : Nat} {f : Nat → Nat → Int} {i : Nat} (h : i < r) : (tab r w f)[i]? = some ((List.range w).map (f i)) := by simp [tab, h]
theorem tab_getE {r w : Nat} {f : Nat → Nat → Int} {i : Nat} (h : i < (tab r w f).length) : (tab r w f)[i] = (List.range w).map (f i) := by simp [tab]
theorem tab_congr {r w : Nat} {f g : Nat → Nat → Int} (h : ∀ i j, i < r → j < w → f i j = g i j) : tab r w f = tab r w g :=
  List.map_congr_left fun i hi => List.map_congr_left fun j hj => h i j (List.mem_range.1 hi) (List.mem_range.1 hj)
theorem tab_grid (r w : Nat) (f : Nat → Nat → Int) : (tab r w f).flatten = grid r w f := by rw [tab, grid, List.flatMap_def]
def upd1 (f : Nat → Nat → Int) (i : Nat) (g : Nat → Int) : Nat → Nat → Int := fun a b => if a = i then g b else f a b
theorem tab_set {r w : Nat} {f : Nat → Nat → Int} {i : Nat} {g : Nat → Int} (hi : i < r) : (tab r w f).set i ((List.range w).map g) = tab r w (upd1 f i g) := by
  refine List.ext_getElem? fun k => ?_
  rw [List.getElem?_set]
  by_cases hk : k < r
  · rw [tab_get (f := upd1 f i g) hk]
    by_cases e : i = k
    · subst e
      simp only [if_true, tab_len, hi]
      congr 1
      exact List.map_congr_left fun b _ => by simp [upd1]
    · rw [if_neg e, tab_get hk]
      congr 1
      exact List.map_congr_left fun b _ => by simp [upd1, Ne.symm e]
  · have e : i ≠ k := by omega
    rw [if_neg e, List.getElem?_eq_none (by rw [tab_len]; omega), List.getElem?_eq_none (by rw [tab_len]; omega)]

def upd2 (f : Nat → Nat → Int) (i j : Nat) (x : Int) : Nat → Nat → Int := fun a b => if a = i ∧ b = j then x else f a b
theorem grid_set {r w : Nat} {f : Nat → Nat → Int} {i j : Nat} {x : Int} (hi : i < r) (hj : j < w) : (grid r w f).set (i * w + j) x = grid r w (upd2 f i j x) := by
  refine List.ext_getElem? fun k => ?_
  rw [List.getElem?_set]
  by_cases hk : k < r * w
  · obtain ⟨a, b, ha, hb, rfl⟩ := ij_split hk
    rw [grid_get (f := upd2 f i j x) ha hb, grid_len]
    by_cases e : i * w + j = a * w + b
    · have h1 : i = a := by
        have e1 : (i * w + j) / w = i := by rw [Nat.mul_comm, Nat.mul_add_div (by omega), Nat.div_eq_of_lt hj, Nat.add_zero]
        have e2 : (a * w + b) / w = a := by rw [Nat.mul_comm, Nat.mul_add_div (by omega), Nat.div_eq_of_lt hb, Nat.add_zero]
        rw [← e1, e, e2]
      subst h1
      have h2 : j = b := by omega
      subst h2
      rw [if_pos rfl, if_pos hk]; simp [upd2]
    · rw [if_neg e, grid_get ha hb]
      have : ¬ (a = i ∧ b = j) := fun ⟨h1, h2⟩ => e (by rw [h1, h2])
      simp [upd2, this]
  · have := ij_lt hi hj
    rw [if_neg (by omega), List.getElem?_eq_none (by rw [grid_len]; omega), List.getElem?_eq_none (by rw [grid_len]; omega)]

/-! ### one step, and all of them -/
def pw (a p : Int) (n : Nat) : Int := a ^ n % p
def invM (a p : Int) : Int := pw a p (p - 2).toNat
def swapF (f : Nat → Nat → Int) (a b : Nat) : Nat → Nat → Int := fun i j => if i = a then f b j else if i = b then f a j else f i j
def leadF (f : Nat → Nat → Int) (p : Int) (top : Nat) (iv : Int) : Nat → Nat → Int := fun i j => if i = top then f top j * iv % p else f i j
def clearF (f : Nat → Nat → Int) (p : Int) (top c : Nat) : Nat → Nat → Int := fun i j => if i = top then f i j else (f i j + (p - f i c) * f top j) % p
structure ES where
  f : Nat → Nat → Int
  pv : List Nat
  dI : Int
  dS : Int
def at0 (r c : Nat) (s : ES) : Nat := seek (fun q => s.f q c != 0) (r - s.pv.length) s.pv.length
def leadV (r c : Nat) (s : ES) : Int := s.f (at0 r c s) c
def stepE (p : Int) (r : Nat) (s : ES) (c : Nat) : ES :=
  if at0 r c s < r then
    ⟨clearF (leadF (swapF s.f s.pv.length (at0 r c s)) p s.pv.length (invM (leadV r c s) p)) p s.pv.length c, s.pv ++ [c],
      (if at0 r c s = s.pv.length then s.dI else ((-s.dI) % p + p) % p) * leadV r c s % p, (if at0 r c s = s.pv.length then s.dS else p - s.dS) * leadV r c s % p⟩
  else { s with dI := 0 }
def elimF (p : Int) (r : Nat) (f : Nat → Nat → Int) (n : Nat) : ES := (List.range n).foldl (stepE p r) ⟨f, [], 1, 1⟩
theorem elimF_succ (p : Int) (r : Nat) (f : Nat → Nat → Int) (n : Nat) : elimF p r f (n + 1) = stepE p r (elimF p r f n) n := by
  simp only [elimF, List.range_succ, List.foldl_append, List.foldl_cons, List.foldl_nil]

structure ESOK (p : Int) (r w n : Nat) (s : ES) : Prop where
  el : ∀ i j, i < r → j < w → 0 ≤ s.f i j ∧ s.f i j < p
  pr : s.pv.length ≤ r
  pn : s.pv.length ≤ n
  pb : ∀ c ∈ s.pv, c < n
  dI : 0 ≤ s.dI ∧ s.dI < p
  dS : 0 ≤ s.dS ∧ s.dS ≤ p
theorem pw_el {a p : Int} {n : Nat} (hp : 2 ≤ p) : 0 ≤ pw a p n ∧ pw a p n < p := ⟨Int.emod_nonneg _ (by omega), Int.emod_lt_of_pos _ (by omega)⟩
theorem mod_el {a p : Int} (hp : 2 ≤ p) : 0 ≤ a % p ∧ a % p < p := ⟨Int.emod_nonneg _ (by omega), Int.emod_lt_of_pos _ (by omega)⟩
theorem swap_el {p : Int} {r w : Nat} {f : Nat → Nat → Int} (h : ∀ i j, i < r → j < w → 0 ≤ f i j ∧ f i j < p) {a b : Nat} (ha : a < r) (hb : b < r) : ∀ i j, i < r → j < w → 0 ≤ swapF f a b i j ∧ swapF f a b i j < p := fun i j hi hj => by
  unfold swapF; split
  · exact h _ _ hb hj
  · split
    · exact h _ _ ha hj
    · exact h _ _ hi hj
theorem lead_el {p : Int} {r w : Nat} {f : Nat → Nat → Int} (hp : 2 ≤ p) (h : ∀ i j, i < r → j < w → 0 ≤ f i j ∧ f i j < p) {t : Nat} {iv : Int} : ∀ i j, i < r → j < w → 0 ≤ leadF f p t iv i j ∧ leadF f p t iv i j < p := fun i j hi hj => by
  unfold leadF; split
  · exact mod_el hp
  · exact h _ _ hi hj
theorem clear_el {p : Int} {r w : Nat} {f : Nat → Nat → Int} (hp : 2 ≤ p) (h : ∀ i j, i < r → j < w → 0 ≤ f i j ∧ f i j < p) {t c : Nat} : ∀ i j, i < r → j < w → 0 ≤ clearF f p t c i j ∧ clearF f p t c i j < p := fun i j hi hj => by
  unfold clearF; split
  · exact h _ _ hi hj
  · exact mod_el hp
theorem ESOK.step {p : Int} {r w n : Nat} {s : ES} (hp : 2 ≤ p) (h : ESOK p r w n s) : ESOK p r w (n + 1) (stepE p r s n) := by
  unfold stepE
  split
  · rename_i hq
    have hge : s.pv.length ≤ at0 r n s := seek_ge _ _ _
    refine ⟨clear_el hp (lead_el hp (swap_el h.el (by omega) hq)), by simp only [List.length_append, List.length_singleton]; omega, by simp only [List.length_append, List.length_singleton]; have := h.pn; omega, fun c hc => ?_, mod_el hp, ?_⟩
    rotate_left
    · have := mod_el (a := (if at0 r n s = s.pv.length then s.dS else p - s.dS) * leadV r n s) hp
      exact ⟨this.1, Int.le_of_lt this.2⟩
    rcases List.mem_append.1 hc with hc | hc
    · have := h.pb c hc; omega
    · simp at hc; omega
  · exact ⟨h.el, h.pr, Nat.le_succ_of_le h.pn, fun c hc => Nat.lt_succ_of_lt (h.pb c hc), ⟨Int.le_refl _, by show (0 : Int) < p; omega⟩, h.dS⟩
theorem elimF_ok {p : Int} {r w : Nat} {f : Nat → Nat → Int} (hp : 2 ≤ p) (h : ∀ i j, i < r → j < w → 0 ≤ f i j ∧ f i j < p) : ∀ n, ESOK p r w n (elimF p r f n)
  | 0 => ⟨h, by simp [elimF], by simp [elimF], by simp [elimF], by simp [elimF]; omega, by simp [elimF]; omega⟩
  | n + 1 => by rw [elimF_succ]; exact (elimF_ok hp h n).step hp
/-- Once each row has its pivot, nothing changes but the determinant. -/
theorem elimF_full {p : Int} {r : Nat} {f : Nat → Nat → Int} {n : Nat} (h : (elimF p r f n).pv.length = r) : ∀ m, (elimF p r f (n + m)).f = (elimF p r f n).f ∧ (elimF p r f (n + m)).pv = (elimF p r f n).pv ∧ (elimF p r f (n + m)).dS = (elimF p r f n).dS
  | 0 => ⟨rfl, rfl, rfl⟩
  | m + 1 => by
    obtain ⟨h1, h2, h3⟩ := elimF_full h m
    rw [← Nat.add_assoc, elimF_succ]
    have hn : ¬ at0 r (n + m) (elimF p r f (n + m)) < r := by
      unfold at0
      rw [h2, h, Nat.sub_self]
      simp [seek]
    unfold stepE
    rw [if_neg hn]
    exact ⟨h1, h2, h3⟩

theorem pow_emod (a p : Int) : ∀ n : Nat, (a % p) ^ n % p = a ^ n % p
  | 0 => by simp
  | n + 1 => by
    rw [Int.pow_succ, Int.pow_succ, Int.mul_emod, pow_emod a p n, Int.emod_emod_of_dvd _ (Int.dvd_refl p), ← Int.mul_emod]
theorem pow_mod_step (x b p : Int) (n : Nat) (h : n % 2 = 1) : x * b % p * (b * b % p) ^ (n / 2) % p = x * b ^ n % p := by
  have e : n = n / 2 + n / 2 + 1 := by omega
  rw [Int.mul_emod, Int.emod_emod_of_dvd _ (Int.dvd_refl p), ← Int.mul_emod]
  have h2 : ((b * b % p) ^ (n / 2)) % p = ((b * b) ^ (n / 2)) % p := pow_emod _ _ _
  rw [Int.mul_emod, h2, ← Int.mul_emod]
  congr 1
  conv => rhs; rw [e]
  rw [Int.pow_succ, Int.pow_add, Int.mul_pow, Int.mul_assoc, Int.mul_comm b (b ^ (n / 2) * b ^ (n / 2))]
theorem pow_mod_half (x b p : Int) (n : Nat) (h : n % 2 = 0) : x * (b * b % p) ^ (n / 2) % p = x * b ^ n % p := by
  have e : n = n / 2 + n / 2 := by omega
  have h2 : ((b * b % p) ^ (n / 2)) % p = ((b * b) ^ (n / 2)) % p := pow_emod _ _ _
  rw [Int.mul_emod, h2, ← Int.mul_emod]
  congr 1
  conv => rhs; rw [e]
  rw [Int.pow_add, Int.mul_pow]
end Go.Proofs.Ytnmoeeneofopcaa.Pi
