/- The values of Go as plain values: how they lie in cells; how they are read off. No statement of the seat is proved here. -/
import Derived.Test.YtphdicamabjbbaaPiL
namespace Go.Proofs.Ytphdicamabjbbaa.Pi
open Go
set_option linter.unusedVariables false

class Enc (α : Type) where
  enc : α → List CV
  sz : Nat
  ok : α → Prop
  len : ∀ x, (enc x).length = sz

def I64 (n : Int) : Prop := -9223372036854775808 ≤ n ∧ n ≤ 9223372036854775807

instance : Enc Int := ⟨fun n => [.int .i64 n], 1, I64, fun _ => rfl⟩
instance : Enc Bool := ⟨fun n => [.bool n], 1, fun _ => True, fun _ => rfl⟩
instance : Enc ByteArray := ⟨fun n => [.str n], 1, fun s => s.size ≤ maxLen, fun _ => rfl⟩
instance {α : Type} [Enc α] : Enc (List α) := ⟨fun xs => [.slice (Enc.sz α) (xs.map Enc.enc)], 1, fun xs => xs.length ≤ maxLen ∧ ∀ x ∈ xs, Enc.ok x, fun _ => rfl⟩

structure Setting where
  name : ByteArray
  value : Int
instance : Enc Setting := ⟨fun s => [.str s.name, .int .i64 s.value], 2, fun s => Enc.ok s.name ∧ Enc.ok s.value, fun _ => rfl⟩

structure Item where
  name : ByteArray
  needs : List ByteArray
  made : Int
  cost : Int
instance : Enc Item := ⟨fun s => [.str s.name, .slice 1 (s.needs.map Enc.enc), .int .i64 s.made, .int .i64 s.cost], 4, fun s => Enc.ok s.name ∧ Enc.ok s.needs ∧ Enc.ok s.made ∧ Enc.ok s.cost, fun _ => rfl⟩

structure Version where
  number : Int
  parent : Int
  memo : ByteArray
  state : List Setting
instance : Enc Version := ⟨fun s => [.int .i64 s.number, .int .i64 s.parent, .str s.memo, .slice 2 (s.state.map Enc.enc)], 4, fun s => Enc.ok s.number ∧ Enc.ok s.parent ∧ Enc.ok s.memo ∧ Enc.ok s.state, fun _ => rfl⟩

structure Matrix where
  prime : Int
  rows : Int
  columns : Int
  cells : List Int
instance : Enc Matrix := ⟨fun s => [.int .i64 s.prime, .int .i64 s.rows, .int .i64 s.columns, .slice 1 (s.cells.map Enc.enc)], 4, fun s => Enc.ok s.prime ∧ Enc.ok s.rows ∧ Enc.ok s.columns ∧ Enc.ok s.cells, fun _ => rfl⟩

structure Proof where
  kind : Int
  claim : Matrix
  vectors : List (List Int)
instance : Enc Proof := ⟨fun s => [.int .i64 s.kind, .int .i64 s.claim.prime, .int .i64 s.claim.rows, .int .i64 s.claim.columns, .slice 1 (s.claim.cells.map Enc.enc), .slice 1 (s.vectors.map Enc.enc)], 6, fun s => Enc.ok s.kind ∧ Enc.ok s.claim ∧ Enc.ok s.vectors, fun _ => rfl⟩

structure Complex where
  simplices : List (List Int)
instance : Enc Complex := ⟨fun s => [.slice 1 (s.simplices.map Enc.enc)], 1, fun s => Enc.ok s.simplices, fun _ => rfl⟩

/-- Cells of the type are those of a value. -/
def Dec (P : Program) (t : TypeId) (α : Type) [Enc α] : Prop := P.cellsOf t = Enc.sz α ∧ ∀ n cs, HasT P n t cs → ∃ x : α, Enc.ok x ∧ cs = Enc.enc x

section
variable {P : Program} {t e : TypeId}

theorem Dec.int (hu : P.underlying t = some (.int .i64)) (hs : P.cellsOf t = 1) : Dec P t Int := ⟨hs, fun n cs h => by
  cases n with
  | zero => exact h.elim
  | succ n =>
    simp only [HasT, hu] at h
    obtain ⟨m, rfl, hw⟩ := h
    simp only [Lit.wf, Bool.and_eq_true, decide_eq_true_eq] at hw
    exact ⟨m, hw, rfl⟩⟩

theorem Dec.bool (hu : P.underlying t = some .bool) (hs : P.cellsOf t = 1) : Dec P t Bool := ⟨hs, fun n cs h => by
  cases n with
  | zero => exact h.elim
  | succ n =>
    simp only [HasT, hu] at h
    obtain ⟨m, rfl⟩ := h
    exact ⟨m, trivial, rfl⟩⟩

theorem Dec.str (hu : P.underlying t = some .string) (hs : P.cellsOf t = 1) : Dec P t ByteArray := ⟨hs, fun n cs h => by
  cases n with
  | zero => exact h.elim
  | succ n =>
    simp only [HasT, hu] at h
    obtain ⟨m, rfl, hw⟩ := h
    exact ⟨m, hw, rfl⟩⟩

theorem Dec.slice {α : Type} [Enc α] (hu : P.underlying t = some (.slice e)) (hs : P.cellsOf t = 1) (he : Dec P e α) : Dec P t (List α) := ⟨hs, fun n cs h => by
  cases n with
  | zero => exact h.elim
  | succ n =>
    simp only [HasT, hu] at h
    obtain ⟨es, rfl, hl, hes⟩ := h
    have : ∀ es : List (List CV), (∀ r ∈ es, HasT P n e r) → ∃ xs : List α, (∀ x ∈ xs, Enc.ok x) ∧ es = xs.map Enc.enc := fun es => by
      induction es with
      | nil => exact fun _ => ⟨[], by simp, rfl⟩
      | cons r es ih =>
        intro h
        obtain ⟨x, h1, rfl⟩ := he.2 n r (h r (by simp))
        obtain ⟨xs, h2, rfl⟩ := ih fun r hr => h r (by simp [hr])
        exact ⟨x :: xs, by simpa using ⟨h1, h2⟩, rfl⟩
    obtain ⟨xs, h1, rfl⟩ := this es hes
    exact ⟨xs, ⟨by simpa using hl, h1⟩, by rw [he.1]; rfl⟩⟩

theorem hasFs_nil {g : TypeId → List CV → Prop} {cs : List CV} (h : HasFs P g [] cs) : cs = [] := h
theorem hasFs_cons {g : TypeId → List CV → Prop} {f : Field} {fs : List Field} {cs : List CV} (h : HasFs P g (f :: fs) cs) : ∃ a b, cs = a ++ b ∧ g f.type a ∧ HasFs P g fs b := by
  obtain ⟨a, b, h1, _, h2, h3⟩ := h
  exact ⟨a, b, h1, h2, h3⟩
theorem hasT_struct {fs : Array Field} {n : Nat} {cs : List CV} (hu : P.underlying t = some (.struct fs)) (h : HasT P n t cs) : ∃ m, HasFs P (HasT P m) fs.toList cs := by
  cases n with
  | zero => exact h.elim
  | succ n => simp only [HasT, hu] at h; exact ⟨n, h⟩

end

theorem own : ownKnob Try.prog.godebug = none := by kernel_rfl

end Go.Proofs.Ytphdicamabjbbaa.Pi
