/- Searching in an ordered list. No statement of the seat is proved here. -/
import Derived.Test.YtjolahiflldepabPiFValidState
import Derived.Test.YtjolahiflldepabPiFSlices
namespace Go.Proofs.Ytjolahiflldepab.Pi
open Go
set_option maxRecDepth 10000
set_option linter.unusedVariables false

theorem less_irrefl (a : ByteArray) : less a a = false := by
  unfold less
  generalize a.toList = l
  induction l with
  | nil => rfl
  | cons x l ih => simp [Op.bytesLess, ih]
theorem bytesLess_trans : ∀ (x y z : List UInt8), Op.bytesLess x y = true → Op.bytesLess y z = true → Op.bytesLess x z = true
  | _, _, [], _, h => by cases ‹List UInt8› <;> simp [Op.bytesLess] at h
  | [], _, _ :: _, _, _ => rfl
  | _ :: _, [], _ :: _, h, _ => by simp [Op.bytesLess] at h
  | a :: x, b :: y, c :: z, h1, h2 => by
    simp only [Op.bytesLess, Bool.or_eq_true, decide_eq_true_eq, Bool.and_eq_true, beq_iff_eq] at h1 h2 ⊢
    rcases h1 with h1 | ⟨rfl, h1⟩
    · rcases h2 with h2 | ⟨rfl, h2⟩
      · left
        have := UInt8.lt_iff_toNat_lt.1 h1; have := UInt8.lt_iff_toNat_lt.1 h2
        exact UInt8.lt_iff_toNat_lt.2 (by omega)
      · exact Or.inl h1
    · rcases h2 with h2 | ⟨rfl, h2⟩
      · exact Or.inl h2
      · exact Or.inr ⟨rfl, bytesLess_trans x y z h1 h2⟩
theorem less_trans {a b c : ByteArray} (h1 : less a b = true) (h2 : less b c = true) : less a c = true := bytesLess_trans _ _ _ h1 h2

def cmpB (a b : ByteArray) : Int := if less a b then -1 else if a.toList == b.toList then 0 else 1

theorem s_isNaN (a : ByteArray) : Sat Try.prog 159 [(false, [.str a])] (.one (.c (.bool false)), []) := by
  refine Sat.intro tok mixed Try.func159 rfl rfl ?_
  ((conv => whnf); repeat ((first | refine B0 ?_ | refine B1 ?_ | refine D1 ?_ | refine D2 ?_ | refine CallC.r ?_); conv => whnf))
  exact ResOK.same (by simp)

theorem s_Compare (a b : ByteArray) : Sat Try.prog 133 [(false, [.str a]), (false, [.str b])] (.one (.c (.int .i64 (cmpB a b))), []) := by
  refine Sat.intro tok mixed Try.func133 rfl rfl ?_
  ((conv => whnf); repeat ((first | refine B0 ?_ | refine B1 ?_ | refine D1 ?_ | refine D2 ?_ | refine CallC.r ?_); conv => whnf))
  refine Pick.mk _ (s_isNaN a) ?_
  ((conv => whnf); repeat ((first | refine B0 ?_ | refine B1 ?_ | refine D1 ?_ | refine D2 ?_ | refine CallC.r ?_); conv => whnf))
  refine Pick.mk _ (s_isNaN b) ?_
  ((conv => whnf); repeat ((first | refine B0 ?_ | refine B1 ?_ | refine D1 ?_ | refine D2 ?_ | refine CallC.r ?_); conv => whnf))
  refine Br.mk (fun h => ?_) (fun h => ?_) <;> ((conv => whnf); repeat ((first | refine B0 ?_ | refine B1 ?_ | refine D1 ?_ | refine D2 ?_ | refine CallC.r ?_); conv => whnf))
  · exact ResOK.same (by simp only [cmpB, less, h, if_true])
  · refine Br.mk (fun h2 => ?_) (fun h2 => ?_) <;> ((conv => whnf); repeat ((first | refine B0 ?_ | refine B1 ?_ | refine D1 ?_ | refine D2 ?_ | refine CallC.r ?_); conv => whnf))
    · simp only [h, Bool.false_or, Bool.not_eq_true'] at h2
      exact ResOK.same (by simp only [cmpB, less, h, h2, Bool.false_eq_true, if_false])
    · simp only [h, Bool.false_or, Bool.not_eq_false'] at h2
      exact ResOK.same (by simp only [cmpB, less, h, h2, Bool.false_eq_true, if_false, if_true])

theorem cmpB_neg {a b : ByteArray} : cmpB a b < 0 ↔ less a b = true := by
  unfold cmpB; repeat' split
  all_goals simp_all
theorem cmpB_zero {a b : ByteArray} : cmpB a b = 0 ↔ a.toList = b.toList := by
  unfold cmpB
  split
  · rename_i h
    refine ⟨fun h2 => by omega, fun h2 => ?_⟩
    have := less_irrefl a
    unfold less at h this
    rw [← h2, this] at h; cases h
  · split
    · rename_i h; simpa using h
    · rename_i h; simp at h; simp [h]

section
variable {α : Type}
/-- The place behind all that are too small. -/
def posOf (c : α → Int) (xs : List α) : Nat := (xs.takeWhile fun x => decide (c x < 0)).length
def hitOf (c : α → Int) (xs : List α) : Bool := match xs[posOf c xs]? with | some x => c x == 0 | none => false
theorem posOf_at {c : α → Int} : ∀ {xs : List α} {i : Nat}, i ≤ xs.length → (∀ (k : Nat) (h : k < xs.length), k < i → c xs[k] < 0) → (∀ (h : i < xs.length), ¬ c xs[i] < 0) → posOf c xs = i
  | [], i, h, _, _ => by simp at h; subst h; rfl
  | x :: xs, 0, _, _, h => by
    have := h (by simp)
    simp only [List.getElem_cons_zero] at this
    simp [posOf, List.takeWhile, this]
  | x :: xs, i + 1, h1, h2, h3 => by
    have h0 := h2 0 (by simp) (by omega)
    simp only [List.getElem_cons_zero] at h0
    have ih := posOf_at (c := c) (xs := xs) (i := i) (by simpa using h1) (fun k h hk => h2 (k + 1) (Nat.succ_lt_succ h) (by omega)) (fun h => h3 (Nat.succ_lt_succ h))
    unfold posOf at ih ⊢
    simp only [List.takeWhile, h0, decide_true, List.length_cons, ih]
end

theorem s_BinarySearchSetting (xs : List Setting) (t : ByteArray) (g : Nat) (c : Setting → Int) (hb : xs.length ≤ 1048576) (hp : ∀ x ∈ xs, Sat Try.prog g [(true, Enc.enc x), (false, [.str t])] (.one (.c (.int .i64 (c x))), []))
    (hm : ∀ (i j : Nat) (hi : i < xs.length) (hj : j < xs.length), i ≤ j → c xs[j] < 0 → c xs[i] < 0) :
    Sat Try.prog 131 [(false, Enc.enc xs), (false, [.str t]), (false, [.fn g []])] (.tup [(false, [.c (.int .i64 (posOf c xs))]), (false, [.c (.bool (hitOf c xs))])], []) := by
  have hl : (xs.map (Enc.enc (α := Setting))).length = xs.length := by simp
  refine Sat.intro tok mixed Try.func131 rfl rfl ?_
  ((conv => whnf); repeat ((first | refine B0 ?_ | refine B1 ?_ | refine D1 ?_ | refine D2 ?_ | refine CallC.r ?_); conv => whnf))
  refine Pick.mk [0, 1, 2, 8, 9, 10] trivial ?_
  ((conv => whnf); repeat ((first | refine B0 ?_ | refine B1 ?_ | refine D1 ?_ | refine D2 ?_ | refine CallC.r ?_); conv => whnf))
  refine LoopL.run (fun p : Nat × Nat => St.mk [.one (.c (.slice 2 (xs.map Enc.enc))), .one (.c (.str t)), .one (.c (.fn g [])), .one .dead, .one .dead, .one .dead, .one .dead, .one .dead, .one (.c (.int .i64 (xs.map (Enc.enc (α := Setting))).length)), .one (.c (.int .i64 p.1)), .one (.c (.int .i64 p.2)), .one .dead, .one .dead, .one .dead, .one .dead, .one .dead, .one .dead, .one .dead, .one .dead, .one .dead, .one .dead, .one .dead, .one .dead, .one .dead, .one .dead, .one .dead, .one .dead, .one .dead, .one .dead, .one .dead, .one .dead, .one .dead, .one .dead, .one .dead, .one .dead, .one .dead, .one .dead, .one .dead, .one .dead, .one .dead, .one .dead, .one .dead, .one .dead, .one .dead, .one .dead, .one .dead, .one .dead, .one .dead, .one .dead] []) (fun p => p.2 - p.1)
    (fun p => p.1 ≤ p.2 ∧ p.2 ≤ xs.length ∧ (∀ (k : Nat) (h : k < xs.length), k < p.1 → c xs[k] < 0) ∧ (∀ (k : Nat) (h : k < xs.length), p.2 ≤ k → ¬ c xs[k] < 0)) ?_ (0, xs.length) ⟨Nat.zero_le _, Nat.le_refl _, by intros; omega, by intros; omega⟩ (by simp only [hl]; rfl)
  intro ⟨i, j⟩ ⟨h2, h3, h4, h5⟩ ih
  simp only at h2 h3 h4 h5
  ((conv => whnf); repeat ((first | refine B0 ?_ | refine B1 ?_ | refine D1 ?_ | refine D2 ?_ | refine CallC.r ?_); conv => whnf))
  refine Br.mk (fun h => ?_) (fun h => ?_) <;> ((conv => whnf); repeat ((first | refine B0 ?_ | refine B1 ?_ | refine D1 ?_ | refine D2 ?_ | refine CallC.r ?_); conv => whnf))
  · simp at h
    have hh : (i + j) / 2 < xs.length := by omega
    refine Pick.at64 (z := ((i + j : Nat) : Int)) (by simp) (by omega) ?_
    ((conv => whnf); repeat ((first | refine B0 ?_ | refine B1 ?_ | refine D1 ?_ | refine D2 ?_ | refine CallC.r ?_); conv => whnf))
    refine Pick.mk ((i + j : Nat) : Int) (by simp only [IntKind.wrap, IntKind.bits, IntKind.signed]; simp; omega) ?_
    ((conv => whnf); repeat ((first | refine B0 ?_ | refine B1 ?_ | refine D1 ?_ | refine D2 ?_ | refine CallC.r ?_); conv => whnf))
    refine Side.mk (by omega) ?_
    ((conv => whnf); repeat ((first | refine B0 ?_ | refine B1 ?_ | refine D1 ?_ | refine D2 ?_ | refine CallC.r ?_); conv => whnf))
    refine Pick.at64 (z := (((i + j) / 2 : Nat) : Int)) (by
      show (((i + j : Nat) : Int)).fdiv 2 = _
      rw [Int.fdiv_eq_ediv_of_nonneg _ (by omega)]; omega) (by omega) ?_
    ((conv => whnf); repeat ((first | refine B0 ?_ | refine B1 ?_ | refine D1 ?_ | refine D2 ?_ | refine CallC.r ?_); conv => whnf))
    refine Pick.ix hh ?_
    ((conv => whnf); repeat ((first | refine B0 ?_ | refine B1 ?_ | refine D1 ?_ | refine D2 ?_ | refine CallC.r ?_); conv => whnf))
    refine Pick.mk _ (hp xs[(i + j) / 2] (List.getElem_mem hh)) ?_
    ((conv => whnf); repeat ((first | refine B0 ?_ | refine B1 ?_ | refine D1 ?_ | refine D2 ?_ | refine CallC.r ?_); conv => whnf))
    refine Br.mk (fun h6 => ?_) (fun h6 => ?_) <;> ((conv => whnf); repeat ((first | refine B0 ?_ | refine B1 ?_ | refine D1 ?_ | refine D2 ?_ | refine CallC.r ?_); conv => whnf))
    · simp only [decide_eq_true_eq] at h6
      refine Pick.at64 (z := (((i + j) / 2 + 1 : Nat) : Int)) (by omega) (by omega) ?_
      ((conv => whnf); repeat ((first | refine B0 ?_ | refine B1 ?_ | refine D1 ?_ | refine D2 ?_ | refine CallC.r ?_); conv => whnf))
      exact ih ((i + j) / 2 + 1, j) ⟨by simp only []; omega, h3, fun k hk hlt => hm k ((i + j) / 2) hk hh (by simp only [] at hlt; omega) h6, h5⟩ (by simp only []; omega)
    · simp only [decide_eq_false_iff_not] at h6
      exact ih (i, (i + j) / 2) ⟨by simp only []; omega, by simp only []; omega, h4, fun k hk hle h7 => h6 (hm ((i + j) / 2) k hh hk hle h7)⟩ (by simp only []; omega)
  · simp at h
    have hij : i = j := by omega
    subst hij
    have e : posOf c xs = i := posOf_at h3 (fun k hk hlt => h4 k hk hlt) (fun hk => h5 i hk (Nat.le_refl _))
    refine Br.mk (fun h6 => ?_) (fun h6 => ?_) <;> ((conv => whnf); repeat ((first | refine B0 ?_ | refine B1 ?_ | refine D1 ?_ | refine D2 ?_ | refine CallC.r ?_); conv => whnf))
    · simp at h6
      refine Pick.ix h6 ?_
      ((conv => whnf); repeat ((first | refine B0 ?_ | refine B1 ?_ | refine D1 ?_ | refine D2 ?_ | refine CallC.r ?_); conv => whnf))
      refine Pick.mk _ (hp xs[i] (List.getElem_mem h6)) ?_
      ((conv => whnf); repeat ((first | refine B0 ?_ | refine B1 ?_ | refine D1 ?_ | refine D2 ?_ | refine CallC.r ?_); conv => whnf))
      exact ResOK.same (by simp only [hitOf, e, List.getElem?_eq_getElem h6])
    · simp at h6
      exact ResOK.same (by simp only [hitOf, e, List.getElem?_eq_none h6])

theorem s_BinarySearchItem (xs : List Item) (t : ByteArray) (g : Nat) (c : Item → Int) (hb : xs.length ≤ 1048576) (hp : ∀ x ∈ xs, Sat Try.prog g [(true, Enc.enc x), (false, [.str t])] (.one (.c (.int .i64 (c x))), []))
    (hm : ∀ (i j : Nat) (hi : i < xs.length) (hj : j < xs.length), i ≤ j → c xs[j] < 0 → c xs[i] < 0) :
    Sat Try.prog 160 [(false, Enc.enc xs), (false, [.str t]), (false, [.fn g []])] (.tup [(false, [.c (.int .i64 (posOf c xs))]), (false, [.c (.bool (hitOf c xs))])], []) := by
  have hl : (xs.map (Enc.enc (α := Item))).length = xs.length := by simp
  refine Sat.intro tok mixed Try.func160 rfl rfl ?_
  ((conv => whnf); repeat ((first | refine B0 ?_ | refine B1 ?_ | refine D1 ?_ | refine D2 ?_ | refine CallC.r ?_); conv => whnf))
  refine Pick.mk [0, 1, 2, 8, 9, 10] trivial ?_
  ((conv => whnf); repeat ((first | refine B0 ?_ | refine B1 ?_ | refine D1 ?_ | refine D2 ?_ | refine CallC.r ?_); conv => whnf))
  refine LoopL.run (fun p : Nat × Nat => St.mk [.one (.c (.slice 4 (xs.map Enc.enc))), .one (.c (.str t)), .one (.c (.fn g [])), .one .dead, .one .dead, .one .dead, .one .dead, .one .dead, .one (.c (.int .i64 (xs.map (Enc.enc (α := Item))).length)), .one (.c (.int .i64 p.1)), .one (.c (.int .i64 p.2)), .one .dead, .one .dead, .one .dead, .one .dead, .one .dead, .one .dead, .one .dead, .one .dead, .one .dead, .one .dead, .one .dead, .one .dead, .one .dead, .one .dead, .one .dead, .one .dead, .one .dead, .one .dead, .one .dead, .one .dead, .one .dead, .one .dead, .one .dead, .one .dead, .one .dead, .one .dead, .one .dead, .one .dead, .one .dead, .one .dead, .one .dead, .one .dead, .one .dead, .one .dead, .one .dead, .one .dead, .one .dead, .one .dead] []) (fun p => p.2 - p.1)
    (fun p => p.1 ≤ p.2 ∧ p.2 ≤ xs.length ∧ (∀ (k : Nat) (h : k < xs.length), k < p.1 → c xs[k] < 0) ∧ (∀ (k : Nat) (h : k < xs.length), p.2 ≤ k → ¬ c xs[k] < 0)) ?_ (0, xs.length) ⟨Nat.zero_le _, Nat.le_refl _, by intros; omega, by intros; omega⟩ (by simp only [hl]; rfl)
  intro ⟨i, j⟩ ⟨h2, h3, h4, h5⟩ ih
  simp only at h2 h3 h4 h5
  ((conv => whnf); repeat ((first | refine B0 ?_ | refine B1 ?_ | refine D1 ?_ | refine D2 ?_ | refine CallC.r ?_); conv => whnf))
  refine Br.mk (fun h => ?_) (fun h => ?_) <;> ((conv => whnf); repeat ((first | refine B0 ?_ | refine B1 ?_ | refine D1 ?_ | refine D2 ?_ | refine CallC.r ?_); conv => whnf))
  · simp at h
    have hh : (i + j) / 2 < xs.length := by omega
    refine Pick.at64 (z := ((i + j : Nat) : Int)) (by simp) (by omega) ?_
    ((conv => whnf); repeat ((first | refine B0 ?_ | refine B1 ?_ | refine D1 ?_ | refine D2 ?_ | refine CallC.r ?_); conv => whnf))
    refine Pick.mk ((i + j : Nat) : Int) (by simp only [IntKind.wrap, IntKind.bits, IntKind.signed]; simp; omega) ?_
    ((conv => whnf); repeat ((first | refine B0 ?_ | refine B1 ?_ | refine D1 ?_ | refine D2 ?_ | refine CallC.r ?_); conv => whnf))
    refine Side.mk (by omega) ?_
    ((conv => whnf); repeat ((first | refine B0 ?_ | refine B1 ?_ | refine D1 ?_ | refine D2 ?_ | refine CallC.r ?_); conv => whnf))
    refine Pick.at64 (z := (((i + j) / 2 : Nat) : Int)) (by
      show (((i + j : Nat) : Int)).fdiv 2 = _
      rw [Int.fdiv_eq_ediv_of_nonneg _ (by omega)]; omega) (by omega) ?_
    ((conv => whnf); repeat ((first | refine B0 ?_ | refine B1 ?_ | refine D1 ?_ | refine D2 ?_ | refine CallC.r ?_); conv => whnf))
    refine Pick.ix hh ?_
    ((conv => whnf); repeat ((first | refine B0 ?_ | refine B1 ?_ | refine D1 ?_ | refine D2 ?_ | refine CallC.r ?_); conv => whnf))
    refine Pick.mk _ (hp xs[(i + j) / 2] (List.getElem_mem hh)) ?_
    ((conv => whnf); repeat ((first | refine B0 ?_ | refine B1 ?_ | refine D1 ?_ | refine D2 ?_ | refine CallC.r ?_); conv => whnf))
    refine Br.mk (fun h6 => ?_) (fun h6 => ?_) <;> ((conv => whnf); repeat ((first | refine B0 ?_ | refine B1 ?_ | refine D1 ?_ | refine D2 ?_ | refine CallC.r ?_); conv => whnf))
    · simp only [decide_eq_true_eq] at h6
      refine Pick.at64 (z := (((i + j) / 2 + 1 : Nat) : Int)) (by omega) (by omega) ?_
      ((conv => whnf); repeat ((first | refine B0 ?_ | refine B1 ?_ | refine D1 ?_ | refine D2 ?_ | refine CallC.r ?_); conv => whnf))
      exact ih ((i + j) / 2 + 1, j) ⟨by simp only []; omega, h3, fun k hk hlt => hm k ((i + j) / 2) hk hh (by simp only [] at hlt; omega) h6, h5⟩ (by simp only []; omega)
    · simp only [decide_eq_false_iff_not] at h6
      exact ih (i, (i + j) / 2) ⟨by simp only []; omega, by simp only []; omega, h4, fun k hk hle h7 => h6 (hm ((i + j) / 2) k hh hk hle h7)⟩ (by simp only []; omega)
  · simp at h
    have hij : i = j := by omega
    subst hij
    have e : posOf c xs = i := posOf_at h3 (fun k hk hlt => h4 k hk hlt) (fun hk => h5 i hk (Nat.le_refl _))
    refine Br.mk (fun h6 => ?_) (fun h6 => ?_) <;> ((conv => whnf); repeat ((first | refine B0 ?_ | refine B1 ?_ | refine D1 ?_ | refine D2 ?_ | refine CallC.r ?_); conv => whnf))
    · simp at h6
      refine Pick.ix h6 ?_
      ((conv => whnf); repeat ((first | refine B0 ?_ | refine B1 ?_ | refine D1 ?_ | refine D2 ?_ | refine CallC.r ?_); conv => whnf))
      refine Pick.mk _ (hp xs[i] (List.getElem_mem h6)) ?_
      ((conv => whnf); repeat ((first | refine B0 ?_ | refine B1 ?_ | refine D1 ?_ | refine D2 ?_ | refine CallC.r ?_); conv => whnf))
      exact ResOK.same (by simp only [hitOf, e, List.getElem?_eq_getElem h6])
    · simp at h6
      exact ResOK.same (by simp only [hitOf, e, List.getElem?_eq_none h6])

/-- Ordered by name. -/
def Ord {α : Type} (f : α → ByteArray) (xs : List α) : Prop := ∀ (i j : Nat) (hi : i < xs.length) (hj : j < xs.length), i < j → less (f xs[i]) (f xs[j]) = true
theorem ord_of_steps {α : Type} {f : α → ByteArray} {xs : List α} (h : ∀ (i : Nat) (hi : i + 1 < xs.length), less (f xs[i]) (f xs[i + 1]) = true) : Ord f xs := by
  have : ∀ (d i : Nat) (hi : i < xs.length) (hj : i + 1 + d < xs.length), less (f xs[i]) (f xs[i + 1 + d]) = true := fun d => by
    induction d with
    | zero => exact fun i hi hj => h i hj
    | succ d ih => exact fun i hi hj => less_trans (ih i hi (by omega)) (h (i + 1 + d) (by omega))
  intro i j hi hj hlt
  have := this (j - i - 1) i hi (by omega)
  simpa only [show i + 1 + (j - i - 1) = j by omega] using this
theorem ord_mono {α : Type} {f : α → ByteArray} {xs : List α} (ho : Ord f xs) (t : ByteArray) (i j : Nat) (hi : i < xs.length) (hj : j < xs.length) (hij : i ≤ j) (h : cmpB (f xs[j]) t < 0) : cmpB (f xs[i]) t < 0 := by
  rw [cmpB_neg] at h ⊢
  by_cases e : i = j
  · subst e; exact h
  · exact less_trans (ho i j hi hj (by omega)) h

/-- The first of a name, or -1. -/
def atName {α : Type} (f : α → ByteArray) (xs : List α) (t : ByteArray) : Int := firstIx (fun x => (f x).toList == t.toList) xs 0
theorem hit_at {α : Type} {f : α → ByteArray} {xs : List α} (ho : Ord f xs) (t : ByteArray) : (hitOf (fun x => cmpB (f x) t) xs = true ∧ atName f xs t = posOf (fun x => cmpB (f x) t) xs ∧ posOf (fun x => cmpB (f x) t) xs < xs.length) ∨ (hitOf (fun x => cmpB (f x) t) xs = false ∧ atName f xs t = -1) := by
  obtain ⟨i, hi, h1, h2⟩ : ∃ i, i ≤ xs.length ∧ (∀ (k : Nat) (h : k < xs.length), k < i → cmpB (f xs[k]) t < 0) ∧ (∀ (h : i < xs.length), ¬ cmpB (f xs[i]) t < 0) := by
    have : ∀ (n : Nat), n ≤ xs.length → (∀ (k : Nat) (h : k < xs.length), k < n → cmpB (f xs[k]) t < 0) → ∃ i, i ≤ xs.length ∧ (∀ (k : Nat) (h : k < xs.length), k < i → cmpB (f xs[k]) t < 0) ∧ (∀ (h : i < xs.length), ¬ cmpB (f xs[i]) t < 0) := fun n => by
      induction hd : xs.length - n generalizing n with
      | zero => intro h1 h2; exact ⟨n, h1, h2, fun h => by omega⟩
      | succ d ih =>
        intro h1 h2
        by_cases hc : cmpB (f (xs[n]'(by omega))) t < 0
        · refine ih (n + 1) (by omega) (by omega) fun k hk hlt => ?_
          by_cases e : k = n
          · subst e; exact hc
          · exact h2 k hk (by omega)
        · exact ⟨n, h1, h2, fun _ => hc⟩
    exact this 0 (Nat.zero_le _) (by intros; omega)
  have hp := posOf_at (c := fun x => cmpB (f x) t) hi h1 h2
  have hbefore : ∀ (k : Nat) (h : k < xs.length), k < i → ((f xs[k]).toList == t.toList) = false := fun k hk hlt => by
    have := h1 k hk hlt
    cases hb : ((f xs[k]).toList == t.toList) with
    | false => rfl
    | true => rw [(cmpB_zero).2 (by simpa using hb)] at this; omega
  by_cases hlt : i < xs.length
  · by_cases hz : cmpB (f xs[i]) t = 0
    · refine Or.inl ⟨by simp only [hitOf, hp, List.getElem?_eq_getElem hlt]; simpa using hz, ?_, by omega⟩
      rw [hp]
      unfold atName
      rw [firstIx_at hlt (by simpa using cmpB_zero.1 hz) (fun j hj hji => hbefore j hj hji), Nat.zero_add]
    · refine Or.inr ⟨by simp only [hitOf, hp, List.getElem?_eq_getElem hlt]; simpa using hz, ?_⟩
      unfold atName
      refine firstIx_none fun j hj => ?_
      by_cases hji : j < i
      · exact hbefore j hj hji
      · cases hb : ((f xs[j]).toList == t.toList) with
        | false => rfl
        | true =>
          exfalso
          have hjt : (f xs[j]).toList = t.toList := by simpa using hb
          by_cases e : j = i
          · subst e; exact hz (cmpB_zero.2 hjt)
          · have h3 := ho i j hlt hj (by omega)
            have h4 := h2 hlt
            rw [cmpB_neg] at h4
            unfold less at h3 h4
            rw [hjt] at h3
            exact h4 h3
  · refine Or.inr ⟨by simp only [hitOf, hp]; rw [List.getElem?_eq_none (by omega)], ?_⟩
    unfold atName
    exact firstIx_none fun j hj => hbefore j hj (by omega)

end Go.Proofs.Ytjolahiflldepab.Pi
