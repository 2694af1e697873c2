/- Searching in an ordered list. No statement of the seat is proved here. -/
import Derived.Test.YtjolahiflldepaaDoorPiFValidState
import Derived.Test.YtjolahiflldepaaDoorPiFSlices
namespace Go.Proofs.YtjolahiflldepaaDoor.Pi
open Go
set_option maxRecDepth 10000
set_option linter.unusedVariables false

theorem less_irrefl (a : ByteArray) : less a a = false := by
  unfold less
  generalize a.toList = l
  induction l with
  | nil => rfl
  | cons x l ih => simp [Op.bytesLess, ih]
theorem bytesLess_trans : ∀ (x y z : List UInt8), Op.bytesLess x y = true → Op.bytesLess y z = true → Op.bytesLess x z = true
  | _, _, [], _, h => by cases ‹List UInt8› <;> simp [Op.bytesLess] at h
  | [], _, _ :: _, _, _ => rfl
  | _ :: _, [], _ :: _, h, _ => by simp [Op.bytesLess] at h
  | a :: x, b :: y, c :: z, h1, h2 => by
    simp only [Op.bytesLess, Bool.or_eq_true, decide_eq_true_eq, Bool.and_eq_true, beq_iff_eq] at h1 h2 ⊢
    rcases h1 with h1 | ⟨rfl, h1⟩
    · rcases h2 with h2 | ⟨rfl, h2⟩
      · left
        have := UInt8.lt_iff_toNat_lt.1 h1; have := UInt8.lt_iff_toNat_lt.1 h2
        exact UInt8.lt_iff_toNat_lt.2 (by omega)
      · exact Or.inl h1
    · rcases h2 with h2 | ⟨rfl, h2⟩
      · exact Or.inl h2
      · exact Or.inr ⟨rfl, bytesLess_trans x y z h1 h2⟩
theorem less_trans {a b c : ByteArray} (h1 : less a b = true) (h2 : less b c = true) : less a c = true := bytesLess_trans _ _ _ h1 h2

def cmpB (a b : ByteArray) : Int := if less a b then -1 else if a.toList == b.toList then 0 else 1

theorem cmpB_neg {a b : ByteArray} : cmpB a b < 0 ↔ less a b = true := by
  unfold cmpB; repeat' split
  all_goals simp_all
theorem cmpB_zero {a b : ByteArray} : cmpB a b = 0 ↔ a.toList = b.toList := by
  unfold cmpB
  split
  · rename_i h
    refine ⟨fun h2 => by omega, fun h2 => ?_⟩
    have := less_irrefl a
    unfold less at h this
    rw [← h2, this] at h; cases h
  · split
    · rename_i h; simpa using h
    · rename_i h; simp at h; simp [h]

section
variable {α : Type}
/-- The place behind all that are too small. -/
def posOf (c : α → Int) (xs : List α) : Nat := (xs.takeWhile fun x => decide (c x < 0)).length
def hitOf (c : α → Int) (xs : List α) : Bool := match xs[posOf c xs]? with | some x => c x == 0 | none => false
theorem posOf_at {c : α → Int} : ∀ {xs : List α} {i : Nat}, i ≤ xs.length → (∀ (k : Nat) (h : k < xs.length), k < i → c xs[k] < 0) → (∀ (h : i < xs.length), ¬ c xs[i] < 0) → posOf c xs = i
  | [], i, h, _, _ => by simp at h; subst h; rfl
  | x :: xs, 0, _, _, h => by
    have := h (by simp)
    simp only [List.getElem_cons_zero] at this
    simp [posOf, List.takeWhile, this]
  | x :: xs, i + 1, h1, h2, h3 => by
    have h0 := h2 0 (by simp) (by omega)
    simp only [List.getElem_cons_zero] at h0
    have ih := posOf_at (c := c) (xs := xs) (i := i) (by simpa using h1) (fun k h hk => h2 (k + 1) (Nat.succ_lt_succ h) (by omega)) (fun h => h3 (Nat.succ_lt_succ h))
    unfold posOf at ih ⊢
    simp only [List.takeWhile, h0, decide_true, List.length_cons, ih]
end

--[ slices.BinarySearchFunc[[]impl.Setting,impl.Setting,string]
--]
--[ slices.BinarySearchFunc[[]impl.Item,impl.Item,string]
--]
/-- Ordered by name. -/
def Ord {α : Type} (f : α → ByteArray) (xs : List α) : Prop := ∀ (i j : Nat) (hi : i < xs.length) (hj : j < xs.length), i < j → less (f xs[i]) (f xs[j]) = true
theorem ord_of_steps {α : Type} {f : α → ByteArray} {xs : List α} (h : ∀ (i : Nat) (hi : i + 1 < xs.length), less (f xs[i]) (f xs[i + 1]) = true) : Ord f xs := by
  have : ∀ (d i : Nat) (hi : i < xs.length) (hj : i + 1 + d < xs.length), less (f xs[i]) (f xs[i + 1 + d]) = true := fun d => by
    induction d with
    | zero => exact fun i hi hj => h i hj
    | succ d ih => exact fun i hi hj => less_trans (ih i hi (by omega)) (h (i + 1 + d) (by omega))
  intro i j hi hj hlt
  have := this (j - i - 1) i hi (by omega)
  simpa only [show i + 1 + (j - i - 1) = j by omega] using this
theorem ord_mono {α : Type} {f : α → ByteArray} {xs : List α} (ho : Ord f xs) (t : ByteArray) (i j : Nat) (hi : i < xs.length) (hj : j < xs.length) (hij : i ≤ j) (h : cmpB (f xs[j]) t < 0) : cmpB (f xs[i]) t < 0 := by
  rw [cmpB_neg] at h ⊢
  by_cases e : i = j
  · subst e; exact h
  · exact less_trans (ho i j hi hj (by omega)) h

/-- The first of a name, or -1. -/
def atName {α : Type} (f : α → ByteArray) (xs : List α) (t : ByteArray) : Int := firstIx (fun x => (f x).toList == t.toList) xs 0
theorem hit_at {α : Type} {f : α → ByteArray} {xs : List α} (ho : Ord f xs) (t : ByteArray) : (hitOf (fun x => cmpB (f x) t) xs = true ∧ atName f xs t = posOf (fun x => cmpB (f x) t) xs ∧ posOf (fun x => cmpB (f x) t) xs < xs.length) ∨ (hitOf (fun x => cmpB (f x) t) xs = false ∧ atName f xs t = -1) := by
  obtain ⟨i, hi, h1, h2⟩ : ∃ i, i ≤ xs.length ∧ (∀ (k : Nat) (h : k < xs.length), k < i → cmpB (f xs[k]) t < 0) ∧ (∀ (h : i < xs.length), ¬ cmpB (f xs[i]) t < 0) := by
    have : ∀ (n : Nat), n ≤ xs.length → (∀ (k : Nat) (h : k < xs.length), k < n → cmpB (f xs[k]) t < 0) → ∃ i, i ≤ xs.length ∧ (∀ (k : Nat) (h : k < xs.length), k < i → cmpB (f xs[k]) t < 0) ∧ (∀ (h : i < xs.length), ¬ cmpB (f xs[i]) t < 0) := fun n => by
      induction hd : xs.length - n generalizing n with
      | zero => intro h1 h2; exact ⟨n, h1, h2, fun h => by omega⟩
      | succ d ih =>
        intro h1 h2
        by_cases hc : cmpB (f (xs[n]'(by omega))) t < 0
        · refine ih (n + 1) (by omega) (by omega) fun k hk hlt => ?_
          by_cases e : k = n
          · subst e; exact hc
          · exact h2 k hk (by omega)
        · exact ⟨n, h1, h2, fun _ => hc⟩
    exact this 0 (Nat.zero_le _) (by intros; omega)
  have hp := posOf_at (c := fun x => cmpB (f x) t) hi h1 h2
  have hbefore : ∀ (k : Nat) (h : k < xs.length), k < i → ((f xs[k]).toList == t.toList) = false := fun k hk hlt => by
    have := h1 k hk hlt
    cases hb : ((f xs[k]).toList == t.toList) with
    | false => rfl
    | true => rw [(cmpB_zero).2 (by simpa using hb)] at this; omega
  by_cases hlt : i < xs.length
  · by_cases hz : cmpB (f xs[i]) t = 0
    · refine Or.inl ⟨by simp only [hitOf, hp, List.getElem?_eq_getElem hlt]; simpa using hz, ?_, by omega⟩
      rw [hp]
      unfold atName
      rw [firstIx_at hlt (by simpa using cmpB_zero.1 hz) (fun j hj hji => hbefore j hj hji), Nat.zero_add]
    · refine Or.inr ⟨by simp only [hitOf, hp, List.getElem?_eq_getElem hlt]; simpa using hz, ?_⟩
      unfold atName
      refine firstIx_none fun j hj => ?_
      by_cases hji : j < i
      · exact hbefore j hj hji
      · cases hb : ((f xs[j]).toList == t.toList) with
        | false => rfl
        | true =>
          exfalso
          have hjt : (f xs[j]).toList = t.toList := by simpa using hb
          by_cases e : j = i
          · subst e; exact hz (cmpB_zero.2 hjt)
          · have h3 := ho i j hlt hj (by omega)
            have h4 := h2 hlt
            rw [cmpB_neg] at h4
            unfold less at h3 h4
            rw [hjt] at h3
            exact h4 h3
  · refine Or.inr ⟨by simp only [hitOf, hp]; rw [List.getElem?_eq_none (by omega)], ?_⟩
    unfold atName
    exact firstIx_none fun j hj => hbefore j hj (by omega)

end Go.Proofs.YtjolahiflldepaaDoor.Pi
