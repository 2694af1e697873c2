/- The values of Go as plain values: how they lie in cells; how they are read off. No statement of the seat is proved here. -/
import Derived.Test.YtnafogjagbhdbaaDoorPiL
namespace Go.Proofs.YtnafogjagbhdbaaDoor.Pi
open Go
set_option linter.unusedVariables false

class Enc (α : Type) where
  enc : α → List CV
  sz : Nat
  ok : α → Prop
  wt : α → Nat
  len : ∀ x, (enc x).length = sz

def I64 (n : Int) : Prop := -9223372036854775808 ≤ n ∧ n ≤ 9223372036854775807

instance : Enc Int := ⟨fun n => [.int .i64 n], 1, I64, fun _ => 0, fun _ => rfl⟩
instance : Enc Bool := ⟨fun n => [.bool n], 1, fun _ => True, fun _ => 0, fun _ => rfl⟩
instance : Enc ByteArray := ⟨fun n => [.str n], 1, fun s => s.size ≤ maxLen, fun s => s.size, fun _ => rfl⟩
instance : Enc UInt8 := ⟨fun n => [.int .u8 n.toNat], 1, fun _ => True, fun _ => 0, fun _ => rfl⟩
instance {α : Type} [Enc α] : Enc (List α) := ⟨fun xs => [.slice (Enc.sz α) (xs.map Enc.enc)], 1, fun xs => xs.length ≤ maxLen ∧ ∀ x ∈ xs, Enc.ok x, fun xs => xs.length + (xs.map Enc.wt).sum, fun _ => rfl⟩

structure Setting where
  name : ByteArray
  value : Int
instance : Enc Setting := ⟨fun s => [.str s.name, .int .i64 s.value], 2, fun s => Enc.ok s.name ∧ Enc.ok s.value, fun s => Enc.wt s.name + Enc.wt s.value, fun _ => rfl⟩

structure Item where
  name : ByteArray
  needs : List ByteArray
  made : Int
  cost : Int
structure Change where
  kind : Int
  setting : Setting
instance : Enc Change := ⟨fun s => [.int .i64 s.kind, .str s.setting.name, .int .i64 s.setting.value], 3, fun s => Enc.ok s.kind ∧ Enc.ok s.setting, fun s => Enc.wt s.kind + Enc.wt s.setting, fun _ => rfl⟩

instance : Enc Item := ⟨fun s => [.str s.name, .slice 1 (s.needs.map Enc.enc), .int .i64 s.made, .int .i64 s.cost], 4, fun s => Enc.ok s.name ∧ Enc.ok s.needs ∧ Enc.ok s.made ∧ Enc.ok s.cost, fun s => Enc.wt s.name + Enc.wt s.needs + Enc.wt s.made + Enc.wt s.cost, fun _ => rfl⟩

structure Version where
  number : Int
  parent : Int
  memo : ByteArray
  state : List Setting
instance : Enc Version := ⟨fun s => [.int .i64 s.number, .int .i64 s.parent, .str s.memo, .slice 2 (s.state.map Enc.enc)], 4, fun s => Enc.ok s.number ∧ Enc.ok s.parent ∧ Enc.ok s.memo ∧ Enc.ok s.state, fun s => Enc.wt s.number + Enc.wt s.parent + Enc.wt s.memo + Enc.wt s.state, fun _ => rfl⟩

structure Matrix where
  prime : Int
  rows : Int
  columns : Int
  cells : List Int
instance : Enc Matrix := ⟨fun s => [.int .i64 s.prime, .int .i64 s.rows, .int .i64 s.columns, .slice 1 (s.cells.map Enc.enc)], 4, fun s => Enc.ok s.prime ∧ Enc.ok s.rows ∧ Enc.ok s.columns ∧ Enc.ok s.cells, fun s => Enc.wt s.prime + Enc.wt s.rows + Enc.wt s.columns + Enc.wt s.cells, fun _ => rfl⟩

structure Proof where
  kind : Int
  claim : Matrix
  vectors : List (List Int)
instance : Enc Proof := ⟨fun s => [.int .i64 s.kind, .int .i64 s.claim.prime, .int .i64 s.claim.rows, .int .i64 s.claim.columns, .slice 1 (s.claim.cells.map Enc.enc), .slice 1 (s.vectors.map Enc.enc)], 6, fun s => Enc.ok s.kind ∧ Enc.ok s.claim ∧ Enc.ok s.vectors, fun s => Enc.wt s.kind + Enc.wt s.claim + Enc.wt s.vectors, fun _ => rfl⟩

structure Complex where
  simplices : List (List Int)
instance : Enc Complex := ⟨fun s => [.slice 1 (s.simplices.map Enc.enc)], 1, fun s => Enc.ok s.simplices, fun s => Enc.wt s.simplices, fun _ => rfl⟩

/-- Cells of the type are those of a value. -/
def Dec (P : Program) (t : TypeId) (α : Type) [Enc α] : Prop := P.cellsOf t = Enc.sz α ∧ ∀ n cs, HasT P n t cs → ∃ x : α, Enc.ok x ∧ cs = Enc.enc x

section
variable {P : Program} {t e : TypeId}

theorem Dec.int (hu : P.underlying t = some (.int .i64)) (hs : P.cellsOf t = 1) : Dec P t Int := ⟨hs, fun n cs h => by
  cases n with
  | zero => exact h.elim
  | succ n =>
    simp only [HasT, hu] at h
    obtain ⟨m, rfl, hw⟩ := h
    simp only [Lit.wf, Bool.and_eq_true, decide_eq_true_eq] at hw
    exact ⟨m, hw, rfl⟩⟩

theorem Dec.bool (hu : P.underlying t = some .bool) (hs : P.cellsOf t = 1) : Dec P t Bool := ⟨hs, fun n cs h => by
  cases n with
  | zero => exact h.elim
  | succ n =>
    simp only [HasT, hu] at h
    obtain ⟨m, rfl⟩ := h
    exact ⟨m, trivial, rfl⟩⟩

theorem Dec.str (hu : P.underlying t = some .string) (hs : P.cellsOf t = 1) : Dec P t ByteArray := ⟨hs, fun n cs h => by
  cases n with
  | zero => exact h.elim
  | succ n =>
    simp only [HasT, hu] at h
    obtain ⟨m, rfl, hw⟩ := h
    exact ⟨m, hw, rfl⟩⟩

theorem Dec.slice {α : Type} [Enc α] (hu : P.underlying t = some (.slice e)) (hs : P.cellsOf t = 1) (he : Dec P e α) : Dec P t (List α) := ⟨hs, fun n cs h => by
  cases n with
  | zero => exact h.elim
  | succ n =>
    simp only [HasT, hu] at h
    obtain ⟨es, rfl, hl, hes⟩ := h
    have : ∀ es : List (List CV), (∀ r ∈ es, HasT P n e r) → ∃ xs : List α, (∀ x ∈ xs, Enc.ok x) ∧ es = xs.map Enc.enc := fun es => by
      induction es with
      | nil => exact fun _ => ⟨[], by simp, rfl⟩
      | cons r es ih =>
        intro h
        obtain ⟨x, h1, rfl⟩ := he.2 n r (h r (by simp))
        obtain ⟨xs, h2, rfl⟩ := ih fun r hr => h r (by simp [hr])
        exact ⟨x :: xs, by simpa using ⟨h1, h2⟩, rfl⟩
    obtain ⟨xs, h1, rfl⟩ := this es hes
    exact ⟨xs, ⟨by simpa using hl, h1⟩, by rw [he.1]; rfl⟩⟩

theorem hasFs_nil {g : TypeId → List CV → Prop} {cs : List CV} (h : HasFs P g [] cs) : cs = [] := h
theorem hasFs_cons {g : TypeId → List CV → Prop} {f : Field} {fs : List Field} {cs : List CV} (h : HasFs P g (f :: fs) cs) : ∃ a b, cs = a ++ b ∧ g f.type a ∧ HasFs P g fs b := by
  obtain ⟨a, b, h1, _, h2, h3⟩ := h
  exact ⟨a, b, h1, h2, h3⟩
theorem hasT_struct {fs : Array Field} {n : Nat} {cs : List CV} (hu : P.underlying t = some (.struct fs)) (h : HasT P n t cs) : ∃ m, HasFs P (HasT P m) fs.toList cs := by
  cases n with
  | zero => exact h.elim
  | succ n => simp only [HasT, hu] at h; exact ⟨n, h⟩

end

theorem Pick.ix {α : Type} [Enc α] {xs : List α} {i : Nat} {K : List CV → Prop} (h : i < xs.length) (k : K (Enc.enc xs[i])) : Pick (fun row => 0 ≤ (i : Int) ∧ (xs.map Enc.enc)[(i : Int).toNat]? = some row) K :=
  ⟨_, ⟨by omega, by simp [h]⟩, k⟩

theorem wt_int (n : Int) : Enc.wt n = 0 := rfl
theorem wt_bool (n : Bool) : Enc.wt n = 0 := rfl
theorem wt_str (n : ByteArray) : Enc.wt n = n.size := rfl
theorem wt_list {α : Type} [Enc α] (xs : List α) : Enc.wt xs = xs.length + (xs.map Enc.wt).sum := rfl

/-- What is left of 'n' behind a weight. -/
def szR (n : Int) (w : Nat) : Int := if n < w then -1 else n - w
theorem szR_lt {n : Int} {w : Nat} (h : n < w) : szR n w = -1 := if_pos h
theorem szR_or (n : Int) (w : Nat) : (n < w ∧ szR n w = -1) ∨ (w ≤ n ∧ szR n w = n - w) := by unfold szR; split <;> omega
theorem szR_ge {n : Int} {w : Nat} (h : ¬ n < w) : szR n w = n - w := if_neg h

/-- The weight of the first 'i'. -/
def wts {α : Type} [Enc α] (xs : List α) (i : Nat) : Nat := ((xs.take i).map Enc.wt).sum
theorem wts_zero {α : Type} [Enc α] (xs : List α) : wts xs 0 = 0 := by simp [wts]
theorem wts_succ {α : Type} [Enc α] (xs : List α) (i : Nat) (h : i < xs.length) : wts xs (i + 1) = wts xs i + Enc.wt xs[i] := by
  simp only [wts, List.take_add_one, List.getElem?_eq_getElem h, Option.toList_some, List.map_append, List.map_cons, List.map_nil, List.sum_append, List.sum_cons, List.sum_nil, Nat.add_zero]
theorem wts_le {α : Type} [Enc α] (xs : List α) (i : Nat) : wts xs i ≤ (xs.map Enc.wt).sum := by
  have h : (xs.map Enc.wt).sum = ((xs.take i).map Enc.wt).sum + ((xs.drop i).map Enc.wt).sum := by
    rw [← List.sum_append, ← List.map_append, List.take_append_drop]
  unfold wts; omega
theorem wts_all {α : Type} [Enc α] (xs : List α) (i : Nat) (h : xs.length ≤ i) : wts xs i = (xs.map Enc.wt).sum := by
  unfold wts; rw [List.take_of_length_le h]

/-- A copy, as far as it has come. -/
def upTo {α : Type} [Enc α] (z : List CV) (xs : List α) (i : Nat) : List (List CV) := (xs.take i).map Enc.enc ++ List.replicate (xs.length - i) z
theorem upTo_zero {α : Type} [Enc α] (z : List CV) (xs : List α) : upTo z xs 0 = List.replicate xs.length z := by simp [upTo]
theorem upTo_all {α : Type} [Enc α] (z : List CV) (xs : List α) (i : Nat) (h : xs.length ≤ i) : upTo z xs i = xs.map Enc.enc := by
  simp [upTo, List.take_of_length_le h, Nat.sub_eq_zero_of_le h]
theorem upTo_length {α : Type} [Enc α] (z : List CV) (xs : List α) (i : Nat) (h : i ≤ xs.length) : (upTo z xs i).length = xs.length := by simp [upTo]; omega
theorem upTo_set {α : Type} [Enc α] (z : List CV) (xs : List α) (i : Nat) (h : i < xs.length) : (upTo z xs i).set i (Enc.enc xs[i]) = upTo z xs (i + 1) := by
  have e : xs.length - i = (xs.length - (i + 1)) + 1 := by omega
  unfold upTo
  rw [e, List.replicate_succ, List.set_append_right _ _ (by simp; omega)]
  have e2 : i - ((xs.take i).map Enc.enc).length = 0 := by simp; omega
  rw [e2, List.set_cons_zero, List.take_add_one, List.getElem?_eq_getElem h]
  simp only [List.map_append, List.append_assoc, Option.toList_some, List.map_cons, List.map_nil, List.cons_append, List.nil_append]

/-- Alike, part by part. -/
def sameBy {α : Type} (g : α → α → Bool) : List α → List α → Bool
  | [], [] => true
  | x :: xs, y :: ys => g x y && sameBy g xs ys
  | _, _ => false
theorem sameBy_len {α : Type} {g : α → α → Bool} : ∀ {xs ys : List α}, xs.length ≠ ys.length → sameBy g xs ys = false
  | [], [], h => absurd rfl h
  | [], _ :: _, _ => rfl
  | _ :: _, [], _ => rfl
  | x :: xs, y :: ys, h => by simp only [sameBy, sameBy_len (g := g) (xs := xs) (ys := ys) (by simpa using h), Bool.and_false]
theorem sameBy_no {α : Type} {g : α → α → Bool} : ∀ {xs ys : List α} (i : Nat) (h : i < xs.length) (h2 : i < ys.length), g xs[i] ys[i] = false → sameBy g xs ys = false
  | x :: xs, y :: ys, 0, _, _, e => by simp only [List.getElem_cons_zero] at e; simp [sameBy, e]
  | x :: xs, y :: ys, i + 1, h, h2, e => by
    simp only [sameBy, sameBy_no (xs := xs) (ys := ys) i (by simpa using h) (by simpa using h2) (by simpa using e), Bool.and_false]
theorem sameBy_yes {α : Type} {g : α → α → Bool} : ∀ {xs ys : List α}, xs.length = ys.length → (∀ (i : Nat) (h : i < xs.length) (h2 : i < ys.length), g xs[i] ys[i] = true) → sameBy g xs ys = true
  | [], [], _, _ => rfl
  | x :: xs, y :: ys, h, e => by
    simp only [sameBy, Bool.and_eq_true]
    exact ⟨e 0 (by simp) (by simp), sameBy_yes (by simpa using h) fun i h1 h2 => e (i + 1) (Nat.succ_lt_succ h1) (Nat.succ_lt_succ h2)⟩

theorem wt_get {α : Type} [Enc α] (xs : List α) (i : Nat) (h : i < xs.length) : Enc.wt xs[i] + xs.length ≤ Enc.wt xs := by
  have e1 := wts_succ xs i h
  have e2 := wts_le xs (i + 1)
  have := wt_list xs
  omega
theorem wt_ints (xs : List Int) : (xs.map Enc.wt).sum = 0 := by
  induction xs with
  | nil => rfl
  | cons x xs ih => simp only [List.map_cons, List.sum_cons, wt_int, Nat.zero_add]; exact ih

/-- The first place of a kind, or -1. -/
def firstIx {α : Type} (p : α → Bool) : List α → Nat → Int
  | [], _ => -1
  | x :: xs, k => if p x then k else firstIx p xs (k + 1)
theorem firstIx_at {α : Type} {p : α → Bool} : ∀ {xs : List α} {i k : Nat} (h : i < xs.length), p xs[i] = true → (∀ (j : Nat) (h : j < xs.length), j < i → p xs[j] = false) → firstIx p xs k = ((k + i : Nat) : Int)
  | x :: xs, 0, k, _, e, _ => by simp only [List.getElem_cons_zero] at e; simp [firstIx, e]
  | x :: xs, i + 1, k, h, e, hn => by
    have h0 := hn 0 (by simp) (by omega)
    simp only [List.getElem_cons_zero] at h0
    have := firstIx_at (p := p) (xs := xs) (i := i) (k := k + 1) (by simpa using h) (by simpa using e) fun j h hj => hn (j + 1) (Nat.succ_lt_succ h) (by omega)
    simp only [firstIx, h0, Bool.false_eq_true, if_false, this]
    omega
theorem firstIx_none {α : Type} {p : α → Bool} : ∀ {xs : List α} {k : Nat}, (∀ (j : Nat) (h : j < xs.length), p xs[j] = false) → firstIx p xs k = -1
  | [], k, _ => rfl
  | x :: xs, k, hn => by
    have h0 := hn 0 (by simp)
    simp only [List.getElem_cons_zero] at h0
    have := firstIx_none (p := p) (xs := xs) (k := k + 1) fun j h => hn (j + 1) (Nat.succ_lt_succ h)
    simp only [firstIx, h0, Bool.false_eq_true, if_false, this]
theorem firstIx_iff {α : Type} (p : α → Bool) : ∀ (xs : List α) (k : Nat), firstIx p xs k ≥ 0 ↔ xs.any p = true
  | [], k => by simp [firstIx]
  | x :: xs, k => by
    simp only [firstIx, List.any_cons, Bool.or_eq_true]
    split
    · rename_i h; exact ⟨fun _ => Or.inl h, fun _ => by omega⟩
    · rename_i h; exact ⟨fun h2 => Or.inr ((firstIx_iff p xs (k + 1)).1 h2), fun h2 => (firstIx_iff p xs (k + 1)).2 (h2.resolve_left h)⟩
theorem firstIx_any {α : Type} (p : α → Bool) (xs : List α) (k : Nat) : decide (firstIx p xs k ≥ 0) = xs.any p := by
  rw [Bool.eq_iff_iff, decide_eq_true_iff]
  exact firstIx_iff p xs k

theorem own : ownKnob Tryd.prog.godebug = none := by kernel_rfl

end Go.Proofs.YtnafogjagbhdbaaDoor.Pi
