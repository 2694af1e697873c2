/- ValidState, the reference and the program. No statement of the seat is proved here. -/
import Derived.Test.YtjolahiflldepaaDoorPiFName
namespace Go.Proofs.YtjolahiflldepaaDoor.Pi
open Go
set_option maxRecDepth 10000
set_option linter.unusedVariables false

def less (a b : ByteArray) : Bool := Op.bytesLess a.toList b.toList
theorem bytesLess_total : ∀ (x y : List UInt8), (!(Op.bytesLess x y)) = (Op.bytesLess y x || y == x)
  | [], [] => rfl
  | _ :: _, [] => by simp [Op.bytesLess]
  | [], _ :: _ => by simp [Op.bytesLess]
  | a :: x, b :: y => by
    have ih := bytesLess_total x y
    simp only [Op.bytesLess, List.cons_beq_cons]
    by_cases h1 : a < b
    · have h2 : ¬ b < a := fun h => by have := UInt8.lt_iff_toNat_lt.1 h1; have := UInt8.lt_iff_toNat_lt.1 h; omega
      have h3 : ¬ b = a := fun h => by subst h; exact h2 h1
      simp [h1, h2, h3]
    · by_cases h2 : b < a
      · have h3 : ¬ a = b := fun h => by subst h; exact h1 h2
        simp [h1, h2, h3]
      · have h3 : a = b := by
          have := mt UInt8.lt_iff_toNat_lt.2 h1
          have := mt UInt8.lt_iff_toNat_lt.2 h2
          exact UInt8.toNat_inj.1 (by omega)
        subst h3
        simp [h1, ih]

def okSetting (x : Setting) : Bool := isName x.name && (decide (0 ≤ x.value) && decide (x.value ≤ 1000))
def okStep (xs : List Setting) (i : Nat) (x : Setting) : Bool := okSetting x && (decide (i = 0) || match xs[i - 1]? with | some y => less y.name x.name | none => true)
def okState (xs : List Setting) : Bool := allIx (okStep xs) 0 xs && decide (xs.length ≤ 24)

theorem s_validSetting (x : Setting) (o : Enc.ok x) : Sat Tryd.prog 58 [(true, Enc.enc x)] (.one (.c (.bool (okSetting x))), []) := by
  refine Sat.intro tok mixed Tryd.func58 rfl rfl ?_
  ((conv => whnf); repeat ((first | refine B0 ?_ | refine B1 ?_ | refine D1 ?_ | refine D2 ?_ | refine CallC.r ?_); conv => whnf))
  refine Pick.mk _ (s_IsName x.name o.1) ?_
  ((conv => whnf); repeat ((first | refine B0 ?_ | refine B1 ?_ | refine D1 ?_ | refine D2 ?_ | refine CallC.r ?_); conv => whnf))
  refine Br.mk (fun h => ?_) (fun h => ?_) <;> ((conv => whnf); repeat ((first | refine B0 ?_ | refine B1 ?_ | refine D1 ?_ | refine D2 ?_ | refine CallC.r ?_); conv => whnf))
  · refine Pick.mk _ (s_within x.value 0 1000) ?_
    ((conv => whnf); repeat ((first | refine B0 ?_ | refine B1 ?_ | refine D1 ?_ | refine D2 ?_ | refine CallC.r ?_); conv => whnf))
    exact ResOK.same (by simp [okSetting, h])
  · exact ResOK.same (by simp [okSetting, h])
theorem s_l27Setting (x : Setting) (o : Enc.ok x) : Sat Tryd.prog 54 [(false, [.ptr 2 (Enc.enc x)])] (.one (.c (.bool (okSetting x))), []) := by
  refine Sat.intro tok mixed Tryd.func54 rfl rfl ?_
  ((conv => whnf); repeat ((first | refine B0 ?_ | refine B1 ?_ | refine D1 ?_ | refine D2 ?_ | refine CallC.r ?_); conv => whnf))
  refine Pick.mk _ (s_l01Name x.name o.1) ?_
  ((conv => whnf); repeat ((first | refine B0 ?_ | refine B1 ?_ | refine D1 ?_ | refine D2 ?_ | refine CallC.r ?_); conv => whnf))
  refine Br.mk (fun h => ?_) (fun h => ?_) <;> ((conv => whnf); repeat ((first | refine B0 ?_ | refine B1 ?_ | refine D1 ?_ | refine D2 ?_ | refine CallC.r ?_); conv => whnf))
  · refine Pick.mk _ (s_l00In x.value 0 1000) ?_
    ((conv => whnf); repeat ((first | refine B0 ?_ | refine B1 ?_ | refine D1 ?_ | refine D2 ?_ | refine CallC.r ?_); conv => whnf))
    exact ResOK.same (by simp [okSetting, h])
  · exact ResOK.same (by simp [okSetting, h])

theorem s_l27State (xs : List Setting) (o : Enc.ok xs) : Sat Tryd.prog 26 [(false, Enc.enc xs)] (.one (.c (.bool (okState xs))), []) := by
  obtain ⟨o1, o2⟩ := o
  simp only [maxLen] at o1
  have hl : (xs.map (Enc.enc (α := Setting))).length = xs.length := by simp
  refine Sat.intro tok mixed Tryd.func26 rfl rfl ?_
  ((conv => whnf); repeat ((first | refine B0 ?_ | refine B1 ?_ | refine D1 ?_ | refine D2 ?_ | refine CallC.r ?_); conv => whnf))
  refine Pick.mk [0, 3] trivial ?_
  ((conv => whnf); repeat ((first | refine B0 ?_ | refine B1 ?_ | refine D1 ?_ | refine D2 ?_ | refine CallC.r ?_); conv => whnf))
  refine LoopL.run (fun i : Nat => St.mk [.one (.c (.slice 2 (xs.map Enc.enc))), .one .dead, .one .dead, .one (.c (.int .i64 i)), .one .dead, .one .dead, .one .dead, .one .dead, .one .dead, .one .dead, .one .dead, .one .dead, .one .dead, .one .dead, .one .dead, .one .dead, .one .dead, .one .dead, .one .dead, .one .dead, .one .dead, .one .dead, .one .dead, .one .dead, .one .dead, .one .dead, .one .dead, .one .dead, .one .dead, .one .dead, .one .dead, .one .dead, .one .dead, .one .dead, .one .dead, .one .dead] []) (fun i => xs.length - i) (fun i => i ≤ xs.length ∧ ∀ (j : Nat) (x : Setting), j < i → xs[j]? = some x → okStep xs j x = true) ?_ 0 ⟨Nat.zero_le _, by intros; omega⟩
  intro i ⟨h3, h4⟩ ih
  ((conv => whnf); repeat ((first | refine B0 ?_ | refine B1 ?_ | refine D1 ?_ | refine D2 ?_ | refine CallC.r ?_); conv => whnf))
  refine Br.mk (fun h => ?_) (fun h => ?_) <;> ((conv => whnf); repeat ((first | refine B0 ?_ | refine B1 ?_ | refine D1 ?_ | refine D2 ?_ | refine CallC.r ?_); conv => whnf))
  · simp at h
    have no : okStep xs i xs[i] = false → okState xs = false := fun hok => by
      have e : allIx (okStep xs) 0 xs = false := allIx_no (i := i) (List.getElem?_eq_getElem h) (by simpa using hok)
      simp [okState, e]
    have next : okStep xs i xs[i] = true → ∀ (j : Nat) (x : Setting), j < i + 1 → xs[j]? = some x → okStep xs j x = true := fun ok j x hj hx => by
      by_cases hji : j < i
      · exact h4 j x hji hx
      · obtain rfl : j = i := by omega
        rw [List.getElem?_eq_getElem h] at hx
        cases hx
        exact ok
    refine Pick.ix h ?_
    ((conv => whnf); repeat ((first | refine B0 ?_ | refine B1 ?_ | refine D1 ?_ | refine D2 ?_ | refine CallC.r ?_); conv => whnf))
    refine Pick.mk _ (s_l27Setting xs[i] (o2 _ (List.getElem_mem h))) ?_
    ((conv => whnf); repeat ((first | refine B0 ?_ | refine B1 ?_ | refine D1 ?_ | refine D2 ?_ | refine CallC.r ?_); conv => whnf))
    refine Br.mk (fun h5 => ?_) (fun h5 => ?_) <;> ((conv => whnf); repeat ((first | refine B0 ?_ | refine B1 ?_ | refine D1 ?_ | refine D2 ?_ | refine CallC.r ?_); conv => whnf))
    · exact ResOK.same (by rw [no (by simp at h5; simp [okStep, h5])])
    have h5 : okSetting xs[i] = true := by simpa using h5
    refine Br.mk (fun h6 => ?_) (fun h6 => ?_) <;> ((conv => whnf); repeat ((first | refine B0 ?_ | refine B1 ?_ | refine D1 ?_ | refine D2 ?_ | refine CallC.r ?_); conv => whnf))
    · simp at h6
      refine Pick.at64 (z := (i - 1 : Nat)) (by omega) (by omega) ?_
      ((conv => whnf); repeat ((first | refine B0 ?_ | refine B1 ?_ | refine D1 ?_ | refine D2 ?_ | refine CallC.r ?_); conv => whnf))
      refine Pick.ix (i := i - 1) (by omega) ?_
      ((conv => whnf); repeat ((first | refine B0 ?_ | refine B1 ?_ | refine D1 ?_ | refine D2 ?_ | refine CallC.r ?_); conv => whnf))
      refine Pick.ix h ?_
      ((conv => whnf); repeat ((first | refine B0 ?_ | refine B1 ?_ | refine D1 ?_ | refine D2 ?_ | refine CallC.r ?_); conv => whnf))
      have e1 : xs[i - 1]? = some (xs[i - 1]'(by omega)) := List.getElem?_eq_getElem (by omega)
      refine Br.mk (fun h7 => ?_) (fun h7 => ?_) <;> ((conv => whnf); repeat ((first | refine B0 ?_ | refine B1 ?_ | refine D1 ?_ | refine D2 ?_ | refine CallC.r ?_); conv => whnf))
      · have h7 : (!less (xs[i - 1]'(by omega)).name xs[i].name) = true := h7
        exact ResOK.same (by rw [no (by simp only [okStep, e1]; simp at h7; simp [h5, h7]; omega)])
      · have h7 : (!less (xs[i - 1]'(by omega)).name xs[i].name) = false := h7
        refine Pick.at64 (z := (i + 1 : Nat)) (by simp) (by omega) ?_
        ((conv => whnf); repeat ((first | refine B0 ?_ | refine B1 ?_ | refine D1 ?_ | refine D2 ?_ | refine CallC.r ?_); conv => whnf))
        exact ih (i + 1) ⟨by omega, next (by simp only [okStep, e1]; simp at h7; simp [h5, h7])⟩ (by omega)
    · simp at h6
      refine Pick.at64 (z := (i + 1 : Nat)) (by simp) (by omega) ?_
      ((conv => whnf); repeat ((first | refine B0 ?_ | refine B1 ?_ | refine D1 ?_ | refine D2 ?_ | refine CallC.r ?_); conv => whnf))
      exact ih (i + 1) ⟨by omega, next (by subst h6; simpa [okStep] using h5)⟩ (by omega)
  · simp at h
    have e : allIx (okStep xs) 0 xs = true := allIx_yes fun j x hx => by
      have : j < xs.length := (List.getElem?_eq_some_iff.1 hx).1
      rw [Nat.zero_add]
      exact h4 j x (by omega) hx
    exact ResOK.same (by simp [okState, e]; omega)

theorem s_impl_ValidState (xs : List Setting) (o : Enc.ok xs) : Sat Tryd.prog 31 [(false, Enc.enc xs)] (.one (.c (.bool (okState xs))), []) := by
  obtain ⟨o1, o2⟩ := o
  simp only [maxLen] at o1
  have hl : (xs.map (Enc.enc (α := Setting))).length = xs.length := by simp
  refine Sat.intro tok mixed Tryd.func31 rfl rfl ?_
  ((conv => whnf); repeat ((first | refine B0 ?_ | refine B1 ?_ | refine D1 ?_ | refine D2 ?_ | refine CallC.r ?_); conv => whnf))
  refine Pick.mk [0, 5, 6, 7] trivial ?_
  ((conv => whnf); repeat ((first | refine B0 ?_ | refine B1 ?_ | refine D1 ?_ | refine D2 ?_ | refine CallC.r ?_); conv => whnf))
  refine LoopL.run (fun i : Nat => St.mk [.one (.c (.slice 2 (xs.map Enc.enc))), .one .dead, .one .dead, .one .dead, .one .dead, .one (.c (.slice 2 (xs.map Enc.enc))), .one (.c (.int .i64 (xs.map (Enc.enc (α := Setting))).length)), .one (.c (.int .i64 i)), .one .dead, .one .dead, .one .dead, .one .dead, .one .dead, .one .dead, .one .dead, .one .dead, .one .dead, .one .dead, .one .dead, .one .dead, .one .dead, .one .dead, .one .dead, .one .dead, .one .dead, .one .dead, .one .dead, .one .dead, .one .dead, .one .dead, .one .dead, .one .dead, .one .dead, .one .dead] []) (fun i => xs.length - i) (fun i => i ≤ xs.length ∧ ∀ (j : Nat) (x : Setting), j < i → xs[j]? = some x → okStep xs j x = true) ?_ 0 ⟨Nat.zero_le _, by intros; omega⟩
  intro i ⟨h3, h4⟩ ih
  ((conv => whnf); repeat ((first | refine B0 ?_ | refine B1 ?_ | refine D1 ?_ | refine D2 ?_ | refine CallC.r ?_); conv => whnf))
  refine Br.mk (fun h => ?_) (fun h => ?_) <;> ((conv => whnf); repeat ((first | refine B0 ?_ | refine B1 ?_ | refine D1 ?_ | refine D2 ?_ | refine CallC.r ?_); conv => whnf))
  · simp at h
    have no : okStep xs i xs[i] = false → okState xs = false := fun hok => by
      have e : allIx (okStep xs) 0 xs = false := allIx_no (i := i) (List.getElem?_eq_getElem h) (by simpa using hok)
      simp [okState, e]
    have next : okStep xs i xs[i] = true → ∀ (j : Nat) (x : Setting), j < i + 1 → xs[j]? = some x → okStep xs j x = true := fun ok j x hj hx => by
      by_cases hji : j < i
      · exact h4 j x hji hx
      · obtain rfl : j = i := by omega
        rw [List.getElem?_eq_getElem h] at hx
        cases hx
        exact ok
    refine Pick.ix h ?_
    ((conv => whnf); repeat ((first | refine B0 ?_ | refine B1 ?_ | refine D1 ?_ | refine D2 ?_ | refine CallC.r ?_); conv => whnf))
    refine Pick.mk _ (s_validSetting xs[i] (o2 _ (List.getElem_mem h))) ?_
    ((conv => whnf); repeat ((first | refine B0 ?_ | refine B1 ?_ | refine D1 ?_ | refine D2 ?_ | refine CallC.r ?_); conv => whnf))
    refine Br.mk (fun h5 => ?_) (fun h5 => ?_) <;> ((conv => whnf); repeat ((first | refine B0 ?_ | refine B1 ?_ | refine D1 ?_ | refine D2 ?_ | refine CallC.r ?_); conv => whnf))
    · exact ResOK.same (by rw [no (by simp at h5; simp [okStep, h5])])
    have h5 : okSetting xs[i] = true := by simpa using h5
    refine Br.mk (fun h6 => ?_) (fun h6 => ?_) <;> ((conv => whnf); repeat ((first | refine B0 ?_ | refine B1 ?_ | refine D1 ?_ | refine D2 ?_ | refine CallC.r ?_); conv => whnf))
    · simp at h6
      refine Pick.at64 (z := (i - 1 : Nat)) (by omega) (by omega) ?_
      ((conv => whnf); repeat ((first | refine B0 ?_ | refine B1 ?_ | refine D1 ?_ | refine D2 ?_ | refine CallC.r ?_); conv => whnf))
      refine Pick.ix (i := i - 1) (by omega) ?_
      ((conv => whnf); repeat ((first | refine B0 ?_ | refine B1 ?_ | refine D1 ?_ | refine D2 ?_ | refine CallC.r ?_); conv => whnf))
      have e1 : xs[i - 1]? = some (xs[i - 1]'(by omega)) := List.getElem?_eq_getElem (by omega)
      have e2 := bytesLess_total (xs[i - 1]'(by omega)).name.toList xs[i].name.toList
      refine Br.mk (fun h7 => ?_) (fun h7 => ?_) <;> ((conv => whnf); repeat ((first | refine B0 ?_ | refine B1 ?_ | refine D1 ?_ | refine D2 ?_ | refine CallC.r ?_); conv => whnf))
      · have h7 : (!less (xs[i - 1]'(by omega)).name xs[i].name) = true := e2.trans h7
        exact ResOK.same (by rw [no (by simp only [okStep, e1]; simp at h7; simp [h5, h7]; omega)])
      · have h7 : (!less (xs[i - 1]'(by omega)).name xs[i].name) = false := e2.trans h7
        refine Pick.at64 (z := (i + 1 : Nat)) (by simp) (by omega) ?_
        ((conv => whnf); repeat ((first | refine B0 ?_ | refine B1 ?_ | refine D1 ?_ | refine D2 ?_ | refine CallC.r ?_); conv => whnf))
        exact ih (i + 1) ⟨by omega, next (by simp only [okStep, e1]; simp at h7; simp [h5, h7])⟩ (by omega)
    · simp at h6
      refine Pick.at64 (z := (i + 1 : Nat)) (by simp) (by omega) ?_
      ((conv => whnf); repeat ((first | refine B0 ?_ | refine B1 ?_ | refine D1 ?_ | refine D2 ?_ | refine CallC.r ?_); conv => whnf))
      exact ih (i + 1) ⟨by omega, next (by subst h6; simpa [okStep] using h5)⟩ (by omega)
  · simp at h
    have e : allIx (okStep xs) 0 xs = true := allIx_yes fun j x hx => by
      have : j < xs.length := (List.getElem?_eq_some_iff.1 hx).1
      rw [Nat.zero_add]
      exact h4 j x (by omega) hx
    exact ResOK.same (by simp [okState, e]; omega)

end Go.Proofs.YtjolahiflldepaaDoor.Pi
