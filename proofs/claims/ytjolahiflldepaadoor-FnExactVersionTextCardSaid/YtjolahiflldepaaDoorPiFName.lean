/- Names: what the program and the reference take for one. No statement of the seat is proved here. -/
import Derived.Test.YtjolahiflldepaaDoorPiEnc
namespace Go.Proofs.YtjolahiflldepaaDoor.Pi
open Go
set_option maxRecDepth 10000
set_option linter.unusedVariables false

def small (b : UInt8) : Bool := decide ((97 : Int) ≤ b.toNat) && decide ((b.toNat : Int) ≤ 122)
def digit (b : UInt8) : Bool := decide ((48 : Int) ≤ b.toNat) && decide ((b.toNat : Int) ≤ 57)
def okAt (i : Nat) (b : UInt8) : Bool := small b || (decide (i ≠ 0) && digit b)

def allIx {α : Type} (p : Nat → α → Bool) : Nat → List α → Bool
  | _, [] => true
  | i, x :: xs => p i x && allIx p (i + 1) xs
theorem allIx_no {α : Type} {p : Nat → α → Bool} : ∀ {l : List α} {k i : Nat} {x : α}, l[i]? = some x → p (k + i) x = false → allIx p k l = false
  | [], k, i, x, h, _ => by simp at h
  | y :: l, k, 0, x, h, e => by
    simp only [List.getElem?_cons_zero, Option.some.injEq] at h
    subst h
    simp only [Nat.add_zero] at e
    simp [allIx, e]
  | y :: l, k, i + 1, x, h, e => by
    simp only [List.getElem?_cons_succ] at h
    have := allIx_no (p := p) (k := k + 1) h (by rw [← e]; congr 1; omega)
    simp [allIx, this]
theorem allIx_yes {α : Type} {p : Nat → α → Bool} : ∀ {l : List α} {k : Nat}, (∀ (i : Nat) (x : α), l[i]? = some x → p (k + i) x = true) → allIx p k l = true
  | [], k, h => rfl
  | y :: l, k, h => by
    simp only [allIx, Bool.and_eq_true]
    exact ⟨by simpa using h 0 y rfl, allIx_yes fun i x hi => by have := h (i + 1) x (by simpa using hi); rw [← this]; congr 1; omega⟩

def isName (s : ByteArray) : Bool := decide (s.toList.length ≠ 0) && decide (s.toList.length ≤ 10) && allIx okAt 0 s.toList

theorem size_list (s : ByteArray) : s.size = s.toList.length := by rw [ByteArray.toList_eq]; rfl
theorem get_list (s : ByteArray) (i : Nat) : s[i]? = s.toList[i]? := by
  rw [ByteArray.toList_eq]
  show (if h : i < s.size then some s[i] else none) = s.data.toList[i]?
  by_cases h : i < s.size
  · rw [dif_pos h]
    have h' : i < s.data.toList.length := h
    rw [List.getElem?_eq_getElem h']
    rfl
  · rw [dif_neg h]
    have h' : s.data.toList.length ≤ i := Nat.le_of_not_lt h
    rw [List.getElem?_eq_none h']
theorem list_nil {s : ByteArray} (h : s.toList = []) : s = ⟨#[]⟩ := by
  rw [ByteArray.toList_eq] at h
  cases s with
  | mk d => simp at h; rw [h]
theorem Pick.byte {s : ByteArray} {i : Nat} {K : UInt8 → Prop} (h : i < s.toList.length) (k : K s.toList[i]) : Pick (fun b => 0 ≤ (i : Int) ∧ s[(i : Int).toNat]? = some b) K :=
  ⟨_, ⟨by omega, by rw [get_list]; simp [h]⟩, k⟩
theorem Pick.byteRow {s : ByteArray} {i : Nat} {K : List CV → Prop} (h : i < s.toList.length) (k : K [.int .u8 s.toList[i].toNat]) : Pick (fun row => (bytesRows s)[(i : Int).toNat]? = some row) K :=
  ⟨_, by simp [bytesRows, h], k⟩

theorem nil_list : (ByteArray.mk #[]).toList = [] := by rw [ByteArray.toList_eq]
theorem okAt_yes {i : Nat} {b : UInt8} (h : ((97 : Int) ≤ b.toNat ∧ (b.toNat : Int) ≤ 122) ∨ (i ≠ 0 ∧ (48 : Int) ≤ b.toNat ∧ (b.toNat : Int) ≤ 57)) : okAt i b = true := by
  simp only [okAt, small, digit, Bool.or_eq_true, Bool.and_eq_true, decide_eq_true_eq]
  exact h
theorem okAt_not {i : Nat} {b : UInt8} (h : ¬ (((97 : Int) ≤ b.toNat ∧ (b.toNat : Int) ≤ 122) ∨ (i ≠ 0 ∧ (48 : Int) ≤ b.toNat ∧ (b.toNat : Int) ≤ 57))) : okAt i b = false := by
  rw [← Bool.not_eq_true]
  intro h2
  simp only [okAt, small, digit, Bool.or_eq_true, Bool.and_eq_true, decide_eq_true_eq] at h2
  exact h h2

theorem s_within (a b c : Int) : Sat Tryd.prog 29 [(false, [.int .i64 a]), (false, [.int .i64 b]), (false, [.int .i64 c])] (.one (.c (.bool (decide (b ≤ a) && decide (a ≤ c)))), []) := by
  refine Sat.intro tok mixed Tryd.func29 rfl rfl ?_
  conv => whnf
  repeat' first | (refine Br.mk (fun _ => ?_) (fun _ => ?_) <;> conv => whnf)
  all_goals refine ResOK.same ?_
  all_goals simp_all
  all_goals omega
theorem s_l00In (a b c : Int) : Sat Tryd.prog 24 [(false, [.int .i64 a]), (false, [.int .i64 b]), (false, [.int .i64 c])] (.one (.c (.bool (decide (b ≤ a) && decide (a ≤ c)))), []) := by
  refine Sat.intro tok mixed Tryd.func24 rfl rfl ?_
  conv => whnf
  repeat' first | (refine Br.mk (fun _ => ?_) (fun _ => ?_) <;> conv => whnf)
  all_goals refine ResOK.same ?_
  all_goals simp_all
  all_goals omega

theorem s_l01Small (b : UInt8) : Sat Tryd.prog 93 [(false, [.int .u8 b.toNat])] (.one (.c (.bool (small b))), []) := by
  refine Sat.intro tok mixed Tryd.func93 rfl rfl ?_
  conv => whnf
  refine Br.mk (fun h => ?_) (fun h => ?_) <;> conv => whnf
  all_goals refine ResOK.same ?_
  all_goals simp at h
  · have : (97 : Int) ≤ b.toNat := by omega
    simp [small, this]
  · have : ¬ (97 : Int) ≤ b.toNat := by omega
    simp [small, this]
theorem s_l01Digit (b : UInt8) : Sat Tryd.prog 94 [(false, [.int .u8 b.toNat])] (.one (.c (.bool (digit b))), []) := by
  refine Sat.intro tok mixed Tryd.func94 rfl rfl ?_
  conv => whnf
  refine Br.mk (fun h => ?_) (fun h => ?_) <;> conv => whnf
  all_goals refine ResOK.same ?_
  all_goals simp at h
  · have : (48 : Int) ≤ b.toNat := by omega
    simp [digit, this]
  · have : ¬ (48 : Int) ≤ b.toNat := by omega
    simp [digit, this]

theorem s_l01Name (s : ByteArray) (hs : s.size ≤ maxLen) : Sat Tryd.prog 79 [(false, Enc.enc s)] (.one (.c (.bool (isName s))), []) := by
  simp only [maxLen] at hs
  rw [size_list] at hs
  have hsz := size_list s
  refine Sat.intro tok mixed Tryd.func79 rfl rfl ?_
  ((conv => whnf); repeat ((first | refine B0 ?_ | refine B1 ?_ | refine D1 ?_ | refine D2 ?_ | refine CallC.r ?_); conv => whnf))
  refine Br.mk (fun h0 => ?_) (fun h0 => ?_) <;> ((conv => whnf); repeat ((first | refine B0 ?_ | refine B1 ?_ | refine D1 ?_ | refine D2 ?_ | refine CallC.r ?_); conv => whnf))
  · have h0 : s.toList = [] := by simpa [nil_list] using h0
    exact ResOK.same (by simp [isName, h0])
  have h0 : s.toList ≠ [] := fun e => by
    rw [e, nil_list] at h0
    simp at h0
  have hpos : 0 < s.toList.length := List.length_pos_iff.2 h0
  refine Br.mk (fun h1 => ?_) (fun h1 => ?_) <;> ((conv => whnf); repeat ((first | refine B0 ?_ | refine B1 ?_ | refine D1 ?_ | refine D2 ?_ | refine CallC.r ?_); conv => whnf))
  · simp at h1
    exact ResOK.same (by have : ¬ s.toList.length ≤ 10 := by omega
                         simp [isName, this])
  simp at h1
  have hlen : s.toList.length ≤ 10 := by omega
  refine Pick.byte (i := 0) hpos ?_
  ((conv => whnf); repeat ((first | refine B0 ?_ | refine B1 ?_ | refine D1 ?_ | refine D2 ?_ | refine CallC.r ?_); conv => whnf))
  refine Pick.mk _ (s_l01Small s.toList[0]) ?_
  ((conv => whnf); repeat ((first | refine B0 ?_ | refine B1 ?_ | refine D1 ?_ | refine D2 ?_ | refine CallC.r ?_); conv => whnf))
  refine Br.mk (fun h2 => ?_) (fun h2 => ?_) <;> ((conv => whnf); repeat ((first | refine B0 ?_ | refine B1 ?_ | refine D1 ?_ | refine D2 ?_ | refine CallC.r ?_); conv => whnf))
  · have h2 : (!small s.toList[0]) = true := h2
    have e : allIx okAt 0 s.toList = false := allIx_no (i := 0) (List.getElem?_eq_getElem hpos) (by simpa [okAt] using h2)
    exact ResOK.same (by simp [isName, e])
  have h2 : small s.toList[0] = true := by
    have h2 : (!small s.toList[0]) = false := h2
    simpa using h2
  refine Pick.mk [0, 3] trivial ?_
  ((conv => whnf); repeat ((first | refine B0 ?_ | refine B1 ?_ | refine D1 ?_ | refine D2 ?_ | refine CallC.r ?_); conv => whnf))
  refine LoopL.run (fun i : Nat => St.mk [.one (.c (.str s)), .one .dead, .one .dead, .one (.c (.int .i64 i)), .one .dead, .one .dead, .one .dead, .one .dead, .one .dead, .one .dead, .one .dead, .one .dead, .one .dead, .one .dead, .one .dead, .one .dead, .one .dead, .one .dead, .one .dead, .one .dead, .one .dead, .one .dead, .one .dead, .one .dead, .one .dead, .one .dead, .one .dead, .one .dead, .one .dead, .one .dead, .one .dead, .one .dead, .one .dead, .one .dead, .one .dead] []) (fun i => s.toList.length - i) (fun i => i ≤ s.toList.length ∧ ∀ (j : Nat) (x : UInt8), j < i → s.toList[j]? = some x → okAt j x = true) ?_ 0 ⟨Nat.zero_le _, by intros; omega⟩
  intro i ⟨h3, h4⟩ ih
  ((conv => whnf); repeat ((first | refine B0 ?_ | refine B1 ?_ | refine D1 ?_ | refine D2 ?_ | refine CallC.r ?_); conv => whnf))
  refine Br.mk (fun h => ?_) (fun h => ?_) <;> ((conv => whnf); repeat ((first | refine B0 ?_ | refine B1 ?_ | refine D1 ?_ | refine D2 ?_ | refine CallC.r ?_); conv => whnf))
  · simp at h
    rw [hsz] at h
    refine Pick.byte (i := i) h ?_
    ((conv => whnf); repeat ((first | refine B0 ?_ | refine B1 ?_ | refine D1 ?_ | refine D2 ?_ | refine CallC.r ?_); conv => whnf))
    refine Pick.mk _ (s_l01Small s.toList[i]) ?_
    ((conv => whnf); repeat ((first | refine B0 ?_ | refine B1 ?_ | refine D1 ?_ | refine D2 ?_ | refine CallC.r ?_); conv => whnf))
    have next : okAt i s.toList[i] = true → ∀ (j : Nat) (x : UInt8), j < i + 1 → s.toList[j]? = some x → okAt j x = true := fun ok j x hj hx => by
      by_cases hji : j < i
      · exact h4 j x hji hx
      · obtain rfl : j = i := by omega
        rw [List.getElem?_eq_getElem h] at hx
        cases hx
        exact ok
    refine Br.mk (fun h5 => ?_) (fun h5 => ?_) <;> ((conv => whnf); repeat ((first | refine B0 ?_ | refine B1 ?_ | refine D1 ?_ | refine D2 ?_ | refine CallC.r ?_); conv => whnf))
    · have h5 : small s.toList[i] = false := by simpa using h5
      refine Pick.byte (i := i) h ?_
      ((conv => whnf); repeat ((first | refine B0 ?_ | refine B1 ?_ | refine D1 ?_ | refine D2 ?_ | refine CallC.r ?_); conv => whnf))
      refine Pick.mk _ (s_l01Digit s.toList[i]) ?_
      ((conv => whnf); repeat ((first | refine B0 ?_ | refine B1 ?_ | refine D1 ?_ | refine D2 ?_ | refine CallC.r ?_); conv => whnf))
      refine Br.mk (fun h6 => ?_) (fun h6 => ?_) <;> ((conv => whnf); repeat ((first | refine B0 ?_ | refine B1 ?_ | refine D1 ?_ | refine D2 ?_ | refine CallC.r ?_); conv => whnf))
      · have h6 : digit s.toList[i] = false := by simpa using h6
        have e : allIx okAt 0 s.toList = false := allIx_no (i := i) (List.getElem?_eq_getElem h) (by simp [okAt, h5, h6])
        exact ResOK.same (by simp [isName, e])
      · have h6 : digit s.toList[i] = true := by simpa using h6
        refine Pick.at64 (z := (i + 1 : Nat)) (by simp) (by omega) ?_
        ((conv => whnf); repeat ((first | refine B0 ?_ | refine B1 ?_ | refine D1 ?_ | refine D2 ?_ | refine CallC.r ?_); conv => whnf))
        refine ih (i + 1) ⟨by omega, next ?_⟩ (by omega)
        have : i ≠ 0 := fun e => by subst e; rw [h2] at h5; cases h5
        simp [okAt, h6, this]
    · have h5 : small s.toList[i] = true := by simpa using h5
      refine Pick.at64 (z := (i + 1 : Nat)) (by simp) (by omega) ?_
      ((conv => whnf); repeat ((first | refine B0 ?_ | refine B1 ?_ | refine D1 ?_ | refine D2 ?_ | refine CallC.r ?_); conv => whnf))
      exact ih (i + 1) ⟨by omega, next (by simp [okAt, h5])⟩ (by omega)
  · simp at h
    rw [hsz] at h
    have e : allIx okAt 0 s.toList = true := allIx_yes fun j x hx => by
      have : j < s.toList.length := (List.getElem?_eq_some_iff.1 hx).1
      rw [Nat.zero_add]
      exact h4 j x (by omega) hx
    exact ResOK.same (by simp [isName, e, hlen, h0])

theorem s_IsName (s : ByteArray) (hs : s.size ≤ maxLen) : Sat Tryd.prog 81 [(false, Enc.enc s)] (.one (.c (.bool (isName s))), []) := by
  simp only [maxLen] at hs
  rw [size_list] at hs
  have hsz := size_list s
  refine Sat.intro tok mixed Tryd.func81 rfl rfl ?_
  ((conv => whnf); repeat ((first | refine B0 ?_ | refine B1 ?_ | refine D1 ?_ | refine D2 ?_ | refine CallC.r ?_); conv => whnf))
  refine Br.mk (fun h0 => ?_) (fun h0 => ?_) <;> ((conv => whnf); repeat ((first | refine B0 ?_ | refine B1 ?_ | refine D1 ?_ | refine D2 ?_ | refine CallC.r ?_); conv => whnf))
  · simp at h0
    exact ResOK.same (by simp [isName]; intro h; exact absurd (List.length_pos_iff.2 h) (by omega))
  simp at h0
  refine Br.mk (fun h1 => ?_) (fun h1 => ?_) <;> ((conv => whnf); repeat ((first | refine B0 ?_ | refine B1 ?_ | refine D1 ?_ | refine D2 ?_ | refine CallC.r ?_); conv => whnf))
  · simp at h1
    exact ResOK.same (by have : ¬ s.toList.length ≤ 10 := by omega
                         simp [isName, this])
  simp at h1
  have hlen : s.toList.length ≤ 10 := by omega
  have hne : s.toList ≠ [] := fun e => by rw [e, List.length_nil] at hsz; omega
  have hbr : (bytesRows s).length = s.toList.length := by simp [bytesRows]
  refine Side.mk (by omega) ?_
  ((conv => whnf); repeat ((first | refine B0 ?_ | refine B1 ?_ | refine D1 ?_ | refine D2 ?_ | refine CallC.r ?_); conv => whnf))
  refine Pick.mk [16, 17, 18] trivial ?_
  ((conv => whnf); repeat ((first | refine B0 ?_ | refine B1 ?_ | refine D1 ?_ | refine D2 ?_ | refine CallC.r ?_); conv => whnf))
  refine LoopL.run (fun i : Nat => St.mk [.one .dead, .one .dead, .one .dead, .one .dead, .one .dead, .one .dead, .one .dead, .one .dead, .one .dead, .one .dead, .one .dead, .one .dead, .one .dead, .one .dead, .one .dead, .one .dead, .one (.rs 1024), .one (.c (.int .i64 (bytesRows s).length)), .one (.c (.int .i64 i)), .one .dead, .one .dead, .one .dead, .one .dead, .one .dead, .one .dead, .one .dead, .one .dead, .one .dead, .one .dead, .one .dead, .one .dead, .one .dead, .one .dead, .one .dead, .one .dead, .one .dead, .one .dead, .one .dead, .one .dead, .one .dead, .one .dead, .one .dead, .one .dead, .one .dead, .one .dead, .one .dead] [(1024, .arr 1 (bytesRows s))]) (fun i => s.toList.length - i) (fun i => i ≤ s.toList.length ∧ ∀ (j : Nat) (x : UInt8), j < i → s.toList[j]? = some x → okAt j x = true) ?_ 0 ⟨Nat.zero_le _, by intros; omega⟩
  intro i ⟨h3, h4⟩ ih
  ((conv => whnf); repeat ((first | refine B0 ?_ | refine B1 ?_ | refine D1 ?_ | refine D2 ?_ | refine CallC.r ?_); conv => whnf))
  refine Br.mk (fun h => ?_) (fun h => ?_) <;> ((conv => whnf); repeat ((first | refine B0 ?_ | refine B1 ?_ | refine D1 ?_ | refine D2 ?_ | refine CallC.r ?_); conv => whnf))
  · simp at h
    rw [hbr] at h
    refine Side.mk (by omega) ?_
    ((conv => whnf); repeat ((first | refine B0 ?_ | refine B1 ?_ | refine D1 ?_ | refine D2 ?_ | refine CallC.r ?_); conv => whnf))
    refine Pick.byteRow h ?_
    ((conv => whnf); repeat ((first | refine B0 ?_ | refine B1 ?_ | refine D1 ?_ | refine D2 ?_ | refine CallC.r ?_); conv => whnf))
    have next : okAt i s.toList[i] = true → ∀ (j : Nat) (x : UInt8), j < i + 1 → s.toList[j]? = some x → okAt j x = true := fun ok j x hj hx => by
      by_cases hji : j < i
      · exact h4 j x hji hx
      · obtain rfl : j = i := by omega
        rw [List.getElem?_eq_getElem h] at hx
        cases hx
        exact ok
    have no : okAt i s.toList[i] = false → isName s = false := fun hok => by
      have e : allIx okAt 0 s.toList = false := allIx_no (i := i) (List.getElem?_eq_getElem h) (by simpa using hok)
      simp [isName, e]
    repeat' first
      | (refine Br.no ?_; conv => whnf)
      | (refine Br.yes ?_; conv => whnf)
      | (refine Br.mk (fun h => ?_) (fun h => ?_) <;> (conv => whnf) <;> try simp at h)
    all_goals first
      | exact ResOK.same (by rw [no (okAt_not (by omega))])
      | (refine Pick.at64 (z := (i + 1 : Nat)) (by simp) (by omega) ?_
         ((conv => whnf); repeat ((first | refine B0 ?_ | refine B1 ?_ | refine D1 ?_ | refine D2 ?_ | refine CallC.r ?_); conv => whnf))
         exact ih (i + 1) ⟨by omega, next (okAt_yes (by omega))⟩ (by omega))
  · simp at h
    rw [hbr] at h
    have e : allIx okAt 0 s.toList = true := allIx_yes fun j x hx => by
      have : j < s.toList.length := (List.getElem?_eq_some_iff.1 hx).1
      rw [Nat.zero_add]
      exact h4 j x (by omega) hx
    exact ResOK.same (by simp [isName, e, hlen, hne])
end Go.Proofs.YtjolahiflldepaaDoor.Pi
