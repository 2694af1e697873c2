/- The table of types against the program; reading memory. No statement of the seat is proved here. -/
import Derived.Test.YtjolahiflldepabPiS4
import Derived.ChangeKeysEq
namespace Go.Proofs.Ytjolahiflldepab.Pi
open Go Go.RowKit
set_option linter.unusedVariables false
set_option linter.unusedSimpArgs false

def zeroOk : List Value → List XV → Bool
  | [], [] => true
  | .int k n :: vs, .c (.int k' m) :: xs => decide (k = k') && decide (n = m) && zeroOk vs xs
  | .bool b :: vs, .c (.bool b') :: xs => b == b' && zeroOk vs xs
  | .string s :: vs, .c (.str t) :: xs => decide (s = t) && zeroOk vs xs
  | .slice none 0 0 :: vs, .nil _ :: xs => zeroOk vs xs
  | .nilIface :: vs, .c (.iface true) :: xs => zeroOk vs xs
  | _, _ => false
def zeroOkC : List Value → List CV → Bool
  | [], [] => true
  | .int k n :: vs, .int k' m :: xs => decide (k = k') && decide (n = m) && zeroOkC vs xs
  | .bool b :: vs, .bool b' :: xs => b == b' && zeroOkC vs xs
  | .string s :: vs, .str t :: xs => decide (s = t) && zeroOkC vs xs
  | .slice none 0 0 :: vs, .slice _ [] :: xs => zeroOkC vs xs
  | .nilIface :: vs, .iface true :: xs => zeroOkC vs xs
  | _, _ => false

def aggOf (P : Program) (t : TypeId) : Bool := match P.underlying t with | some (.struct _) | some (.array _ _) => true | _ => false

def leavesOf (P : Program) (g : TypeId → Option (List LK)) : List Field → Nat → Option (List LK)
  | [], _ => some []
  | f :: fs, off => match decide (f.name = "_"), decide (f.offset = off), g f.type with
    | false, true, some ls => match decide (P.cellsOf f.type = ls.length), leavesOf P g fs (off + ls.length) with
      | true, some r => some (ls ++ r)
      | _, _ => none
    | _, _, _ => none
def eqLeaves (P : Program) : Nat → TypeId → Option (List LK)
  | 0, _ => none
  | d + 1, t => match P.underlying t with
    | some .bool => some [.bool]
    | some (.int k) => some [.int k]
    | some .string => some [.str]
    | some (.struct fs) => match P.stoodInHeld t with
      | true => none
      | false => leavesOf P (eqLeaves P d) fs.toList 0
    | _ => none

def fieldsOk (P : Program) : List Field → List (Nat × Nat × Bool) → Bool
  | [], [] => true
  | f :: fs, (o, n, a) :: gs => f.offset == o && P.cellsOf f.type == n && (P.info? f.type).isSome && (P.underlying f.type).isSome && aggOf P f.type == a && fieldsOk P fs gs
  | _, _ => false

def tiOk (P : Program) (t : TypeId) (ti : TI) : Bool :=
  match ti.size with
  | 0 => ti.slice.isNone && ti.fields.isEmpty && ti.eq.isNone && ti.ik.isNone && !ti.str && !ti.u8 && !ti.iface && !ti.bool && ti.zero.isEmpty
  | n + 1 => match P.info? t, P.underlying t with
    | some i, some d => i.size == n + 1 && i.bytes == ti.bytes && aggOf P t == ti.agg
      && (match ti.zero with | [] => true | z :: zs => (match i.zero with | some v => zeroOk v.cells.toList (z :: zs) | none => false))
      && (match ti.slice with
        | none => true
        | some (sz, b) => (match d with
          | .slice e => e == ti.elem && (match P.info? e with | some ie => ie.size == sz && ie.bytes == b && decide (0 < sz) && (decide (0 < b ∧ b ≤ 1048576) && (match ie.zero with | some v => v.cells.size == sz && (match ti.ez with | [] => true | z :: zs => zeroOkC v.cells.toList (z :: zs)) | none => false)) | none => false)
          | _ => false))
      && (match ti.fields with
        | [] => true
        | g :: gs => (match d with | .struct fs => fieldsOk P fs.toList (g :: gs) | _ => false))
      && (match ti.eq with | none => true | some ls => decide (eqLeaves P 8 t = some ls) && !P.eqGuardType P.depth t)
      && (match ti.ik with | none => true | some k => decide (P.underlying t matches some (.int k')) && (match d with | .int k' => decide (k = k') | _ => false))
      && (!ti.str || (match d with | .string => true | _ => false))
      && (!ti.u8 || (match d with | .slice e => (match P.underlying e with | some (.int .u8) => true | _ => false) | _ => false))
      && (!ti.iface || (match d with | .interface _ => true | _ => false))
      && (!ti.bool || (match d with | .bool => true | _ => false))
    | _, _ => false

def TOK (P : Program) (tt : TT) : Prop := ∀ t, tiOk P t (tt t) = true

section
variable {P : Program} {w : World}

/-- What the table tells of a type that it knows. -/
structure Known (P : Program) (t : TypeId) (ti : TI) : Prop where
  info : ∃ i, P.info? t = some i ∧ i.size = ti.size ∧ i.bytes = ti.bytes ∧ (ti.zero ≠ [] → ∃ v, i.zero = some v ∧ zeroOk v.cells.toList ti.zero = true)
  under : ∃ d, P.underlying t = some d
  agg : aggOf P t = ti.agg
  slice : ∀ sz b, ti.slice = some (sz, b) → P.underlying t = some (.slice ti.elem) ∧ 0 < sz ∧ ∃ ie, P.info? ti.elem = some ie ∧ ie.size = sz ∧ ie.bytes = b ∧ (0 < b ∧ b ≤ 1048576) ∧ ∃ v, ie.zero = some v ∧ v.cells.size = sz ∧ (ti.ez ≠ [] → zeroOkC v.cells.toList ti.ez = true)
  fields : ti.fields ≠ [] → ∃ fs, P.underlying t = some (.struct fs) ∧ fieldsOk P fs.toList ti.fields = true
  eq : ∀ ls, ti.eq = some ls → eqLeaves P 8 t = some ls ∧ P.eqGuardType P.depth t = false
  ik : ∀ k, ti.ik = some k → P.underlying t = some (.int k)
  str : ti.str = true → P.underlying t = some .string
  u8 : ti.u8 = true → ∃ e, P.underlying t = some (.slice e) ∧ P.underlying e = some (.int .u8)
  iface : ti.iface = true → ∃ ms, P.underlying t = some (.interface ms)
  bool : ti.bool = true → P.underlying t = some .bool

theorem known_of {t : TypeId} {ti : TI} (h : tiOk P t ti = true) (hs : ti.size ≠ 0) : Known P t ti := by
  unfold tiOk at h
  cases hn : ti.size with
  | zero => exact absurd hn hs
  | succ n =>
    simp only [hn] at h
    cases hi : P.info? t with
    | none => simp [hi] at h
    | some i =>
      cases hd : P.underlying t with
      | none => simp [hi, hd] at h
      | some d =>
        simp only [hi, hd, Bool.and_eq_true, Bool.or_eq_true, Bool.not_eq_true'] at h
        obtain ⟨⟨⟨⟨⟨⟨⟨⟨⟨⟨⟨h1, h2⟩, h3⟩, h4⟩, h5⟩, h6⟩, h7⟩, h8⟩, h9⟩, h10⟩, h11⟩, h12⟩ := h
        refine ⟨⟨i, hi, by rw [hn]; exact eq_of_beq h1, eq_of_beq h2, fun hz => ?_⟩, ⟨d, hd⟩, eq_of_beq h3, fun sz b hsl => ?_, fun hf => ?_, fun ls hl => ?_, fun k hk => ?_, fun hstr => ?_, fun hu => ?_, fun hif => ?_, fun hbo => ?_⟩
        · cases hz2 : ti.zero with
          | nil => exact absurd hz2 hz
          | cons z zs =>
            simp only [hz2] at h4
            cases hzv : i.zero with
            | none => simp [hzv] at h4
            | some v => simp only [hzv] at h4; exact ⟨v, rfl, h4⟩
        · simp only [hsl] at h5
          cases d <;> simp only [Bool.false_eq_true] at h5
          rename_i e
          simp only [Bool.and_eq_true] at h5
          obtain ⟨he, h5⟩ := h5
          have he' := eq_of_beq he
          subst he'
          cases hie : P.info? ti.elem with
          | none => simp [hie] at h5
          | some ie =>
            simp only [hie, Bool.and_eq_true, decide_eq_true_eq] at h5
            obtain ⟨⟨⟨q1, q2⟩, q3⟩, q5, q4⟩ := h5
            refine ⟨hd, q3, ie, rfl, eq_of_beq q1, eq_of_beq q2, q5, ?_⟩
            cases hzv : ie.zero with
            | none => simp [hzv] at q4
            | some v =>
              simp only [hzv, Bool.and_eq_true] at q4
              refine ⟨v, rfl, eq_of_beq q4.1, fun hez => ?_⟩
              cases he : ti.ez with
              | nil => exact absurd he hez
              | cons z zs => have := q4.2; simp only [he] at this; exact this
        · cases hf2 : ti.fields with
          | nil => exact absurd hf2 hf
          | cons g gs =>
            simp only [hf2] at h6
            cases d <;> simp only [Bool.false_eq_true] at h6
            exact ⟨_, hd, h6⟩
        · simp only [hl, Bool.and_eq_true, decide_eq_true_eq, Bool.not_eq_true'] at h7
          exact h7
        · simp only [hk, Bool.and_eq_true] at h8
          obtain ⟨_, h8⟩ := h8
          cases d <;> simp only [Bool.false_eq_true, decide_eq_true_eq] at h8
          subst h8; exact hd
        · rw [hstr] at h9
          simp only [Bool.true_eq_false, false_or] at h9
          cases d <;> simp only [Bool.false_eq_true] at h9
          exact hd
        · rw [hu] at h10
          simp only [Bool.true_eq_false, false_or] at h10
          cases d <;> simp only [Bool.false_eq_true] at h10
          rename_i e
          refine ⟨e, hd, ?_⟩
          split at h10
          · assumption
          · cases h10
        · rw [hif] at h11
          simp only [Bool.true_eq_false, false_or] at h11
          cases d <;> simp only [Bool.false_eq_true] at h11
          exact ⟨_, hd⟩
        · rw [hbo] at h12
          simp only [Bool.true_eq_false, false_or] at h12
          cases d <;> simp only [Bool.false_eq_true] at h12
          exact hd

/-- Whatever the table tells of a type, the type is known. -/
theorem known_any {t : TypeId} {ti : TI} (h : tiOk P t ti = true) (hs : ti.slice ≠ none ∨ ti.fields ≠ [] ∨ ti.eq ≠ none ∨ ti.ik ≠ none ∨ ti.str = true ∨ ti.u8 = true ∨ ti.iface = true ∨ ti.zero ≠ [] ∨ ti.bool = true) : Known P t ti := by
  refine known_of h fun h0 => ?_
  simp only [tiOk, h0, Bool.and_eq_true, Bool.not_eq_true', Option.isNone_iff_eq_none, List.isEmpty_iff] at h
  obtain ⟨⟨⟨⟨⟨⟨⟨⟨h1, h2⟩, h3⟩, h4⟩, h5⟩, h6⟩, h7⟩, h9⟩, h8⟩ := h
  rcases hs with h | h | h | h | h | h | h | h | h
  · exact h h1
  · exact h h2
  · exact h h3
  · exact h h4
  · rw [h5] at h; cases h
  · rw [h6] at h; cases h
  · rw [h7] at h; cases h
  · exact h h8
  · rw [h9] at h; cases h

theorem run_isAgg' {t : TypeId} {d : TypeDesc} (h : P.underlying t = some d) : (isAgg t).run P w = .ok (aggOf P t) w := by
  simp only [isAgg, Sem.run_bind, run_underlying h, Result.andThen_ok, aggOf, h]
  cases d <;> rfl

theorem run_info {t : TypeId} {i : TypeInfo} (h : P.info? t = some i) : (typeInfo t).run P w = .ok i w := by
  simp [typeInfo, h]
theorem run_size {t : TypeId} {i : TypeInfo} (h : P.info? t = some i) : (sizeOf t).run P w = .ok i.size w := by
  simp [sizeOf, run_info h]

theorem run_loadVar' {t : TypeId} {ti : TI} (hk : Known P t ti) {b o : Nat} {f : Nat → Value} (hc : ∀ j, j < ti.size → w.cell? ⟨b, o + j, none⟩ = some (f j)) (h1 : ti.agg = false → ti.size = 1) :
    (loadVar t ⟨b, o, none⟩).run P w = .ok (if ti.agg then .agg ((List.range ti.size).map f).toArray else f 0) w := by
  obtain ⟨d, hd⟩ := hk.under
  obtain ⟨i, hi, hs, _⟩ := hk.info
  simp only [loadVar, Sem.run_bind, run_isAgg' hd, Result.andThen_ok, hk.agg]
  cases ha : ti.agg with
  | true =>
    simp only [if_true, Sem.run_bind, run_size hi, Result.andThen_ok, hs]
    rw [run_loadCells w ⟨b, o, none⟩ ti.size f (fun j hj => by rw [add_plain]; exact hc j hj)]
    simp
  | false =>
    have h0 := hc 0 (by rw [h1 ha]; omega)
    simp only [Nat.add_zero] at h0
    simp [h0]

end

end Go.Proofs.Ytjolahiflldepab.Pi
