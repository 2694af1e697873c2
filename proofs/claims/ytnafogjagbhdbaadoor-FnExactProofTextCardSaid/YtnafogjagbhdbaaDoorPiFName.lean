/- Names: what the program and the reference take for one. No statement of the seat is proved here. -/
import Derived.Test.YtnafogjagbhdbaaDoorPiEnc
namespace Go.Proofs.YtnafogjagbhdbaaDoor.Pi
open Go
set_option maxRecDepth 10000
set_option linter.unusedVariables false

def small (b : UInt8) : Bool := decide ((97 : Int) ≤ b.toNat) && decide ((b.toNat : Int) ≤ 122)
def digit (b : UInt8) : Bool := decide ((48 : Int) ≤ b.toNat) && decide ((b.toNat : Int) ≤ 57)
def okAt (i : Nat) (b : UInt8) : Bool := small b || (decide (i ≠ 0) && digit b)

def allIx {α : Type} (p : Nat → α → Bool) : Nat → List α → Bool
  | _, [] => true
  | i, x :: xs => p i x && allIx p (i + 1) xs
theorem allIx_no {α : Type} {p : Nat → α → Bool} : ∀ {l : List α} {k i : Nat} {x : α}, l[i]? = some x → p (k + i) x = false → allIx p k l = false
  | [], k, i, x, h, _ => by simp at h
  | y :: l, k, 0, x, h, e => by
    simp only [List.getElem?_cons_zero, Option.some.injEq] at h
    subst h
    simp only [Nat.add_zero] at e
    simp [allIx, e]
  | y :: l, k, i + 1, x, h, e => by
    simp only [List.getElem?_cons_succ] at h
    have := allIx_no (p := p) (k := k + 1) h (by rw [← e]; congr 1; omega)
    simp [allIx, this]
theorem allIx_yes {α : Type} {p : Nat → α → Bool} : ∀ {l : List α} {k : Nat}, (∀ (i : Nat) (x : α), l[i]? = some x → p (k + i) x = true) → allIx p k l = true
  | [], k, h => rfl
  | y :: l, k, h => by
    simp only [allIx, Bool.and_eq_true]
    exact ⟨by simpa using h 0 y rfl, allIx_yes fun i x hi => by have := h (i + 1) x (by simpa using hi); rw [← this]; congr 1; omega⟩

def isName (s : ByteArray) : Bool := decide (s.toList.length ≠ 0) && decide (s.toList.length ≤ 10) && allIx okAt 0 s.toList

theorem size_list (s : ByteArray) : s.size = s.toList.length := by rw [ByteArray.toList_eq]; rfl
theorem get_list (s : ByteArray) (i : Nat) : s[i]? = s.toList[i]? := by
  rw [ByteArray.toList_eq]
  show (if h : i < s.size then some s[i] else none) = s.data.toList[i]?
  by_cases h : i < s.size
  · rw [dif_pos h]
    have h' : i < s.data.toList.length := h
    rw [List.getElem?_eq_getElem h']
    rfl
  · rw [dif_neg h]
    have h' : s.data.toList.length ≤ i := Nat.le_of_not_lt h
    rw [List.getElem?_eq_none h']
theorem list_nil {s : ByteArray} (h : s.toList = []) : s = ⟨#[]⟩ := by
  rw [ByteArray.toList_eq] at h
  cases s with
  | mk d => simp at h; rw [h]
theorem Pick.byte {s : ByteArray} {i : Nat} {K : UInt8 → Prop} (h : i < s.toList.length) (k : K s.toList[i]) : Pick (fun b => 0 ≤ (i : Int) ∧ s[(i : Int).toNat]? = some b) K :=
  ⟨_, ⟨by omega, by rw [get_list]; simp [h]⟩, k⟩
theorem Pick.byteRow {s : ByteArray} {i : Nat} {K : List CV → Prop} (h : i < s.toList.length) (k : K [.int .u8 s.toList[i].toNat]) : Pick (fun row => (bytesRows s)[(i : Int).toNat]? = some row) K :=
  ⟨_, by simp [bytesRows, h], k⟩

theorem nil_list : (ByteArray.mk #[]).toList = [] := by rw [ByteArray.toList_eq]
theorem okAt_yes {i : Nat} {b : UInt8} (h : ((97 : Int) ≤ b.toNat ∧ (b.toNat : Int) ≤ 122) ∨ (i ≠ 0 ∧ (48 : Int) ≤ b.toNat ∧ (b.toNat : Int) ≤ 57)) : okAt i b = true := by
  simp only [okAt, small, digit, Bool.or_eq_true, Bool.and_eq_true, decide_eq_true_eq]
  exact h
theorem okAt_not {i : Nat} {b : UInt8} (h : ¬ (((97 : Int) ≤ b.toNat ∧ (b.toNat : Int) ≤ 122) ∨ (i ≠ 0 ∧ (48 : Int) ≤ b.toNat ∧ (b.toNat : Int) ≤ 57))) : okAt i b = false := by
  rw [← Bool.not_eq_true]
  intro h2
  simp only [okAt, small, digit, Bool.or_eq_true, Bool.and_eq_true, decide_eq_true_eq] at h2
  exact h h2

theorem s_within (a b c : Int) : Sat Tryd.prog 31 [(false, [.int .i64 a]), (false, [.int .i64 b]), (false, [.int .i64 c])] (.one (.c (.bool (decide (b ≤ a) && decide (a ≤ c)))), []) := by
  refine Sat.intro tok mixed Tryd.func31 rfl rfl ?_
  conv => whnf
  repeat' first | (refine Br.mk (fun _ => ?_) (fun _ => ?_) <;> conv => whnf)
  all_goals refine ResOK.same ?_
  all_goals simp_all
  all_goals omega
theorem s_l00In (a b c : Int) : Sat Tryd.prog 44 [(false, [.int .i64 a]), (false, [.int .i64 b]), (false, [.int .i64 c])] (.one (.c (.bool (decide (b ≤ a) && decide (a ≤ c)))), []) := by
  refine Sat.intro tok mixed Tryd.func44 rfl rfl ?_
  conv => whnf
  repeat' first | (refine Br.mk (fun _ => ?_) (fun _ => ?_) <;> conv => whnf)
  all_goals refine ResOK.same ?_
  all_goals simp_all
  all_goals omega

end Go.Proofs.YtnafogjagbhdbaaDoor.Pi
