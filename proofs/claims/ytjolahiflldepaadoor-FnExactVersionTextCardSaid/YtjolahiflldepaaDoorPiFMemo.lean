/- Memos, the reference and the program. No statement of the seat is proved here. -/
import Derived.Test.YtjolahiflldepaaDoorPiFName
namespace Go.Proofs.YtjolahiflldepaaDoor.Pi
open Go
set_option maxRecDepth 10000
set_option linter.unusedVariables false

theorem s_IndexFuncByte (xs : List UInt8) (g : Nat) (caps : List CV) (p : UInt8 → Bool) (hb : xs.length ≤ maxLen) (hp : ∀ x ∈ xs, Sat Tryd.prog g ((false, Enc.enc x) :: caps.map fun y => (false, [y])) (.one (.c (.bool (p x))), [])) :
    Sat Tryd.prog 80 [(false, Enc.enc xs), (false, [.fn g caps])] (.one (.c (.int .i64 (firstIx p xs 0))), []) := by
  simp only [maxLen] at hb
  have hl : (xs.map (Enc.enc (α := UInt8))).length = xs.length := by simp
  refine Sat.intro tok mixed Tryd.func80 rfl rfl ?_
  ((conv => whnf); repeat ((first | refine B0 ?_ | refine B1 ?_ | refine D1 ?_ | refine D2 ?_ | refine CallC.r ?_); conv => whnf))
  refine Pick.mk [0, 1, 7, 8] trivial ?_
  ((conv => whnf); repeat ((first | refine B0 ?_ | refine B1 ?_ | refine D1 ?_ | refine D2 ?_ | refine CallC.r ?_); conv => whnf))
  refine LoopL.run (fun i : Nat => St.mk [.one (.c (.slice 1 (xs.map Enc.enc))), .one (.c (.fn g caps)), .one .dead, .one .dead, .one .dead, .one .dead, .one .dead, .one (.c (.int .i64 (xs.map (Enc.enc (α := UInt8))).length)), .one (.c (.int .i64 i)), .one .dead, .one .dead, .one .dead, .one .dead, .one .dead, .one .dead, .one .dead, .one .dead, .one .dead, .one .dead] []) (fun i => xs.length - i) (fun i => i ≤ xs.length ∧ ∀ (j : Nat) (h : j < xs.length), j < i → p xs[j] = false) ?_ 0 ⟨Nat.zero_le _, by intros; omega⟩
  intro i ⟨h2, h3⟩ ih
  ((conv => whnf); repeat ((first | refine B0 ?_ | refine B1 ?_ | refine D1 ?_ | refine D2 ?_ | refine CallC.r ?_); conv => whnf))
  refine Br.mk (fun h => ?_) (fun h => ?_) <;> ((conv => whnf); repeat ((first | refine B0 ?_ | refine B1 ?_ | refine D1 ?_ | refine D2 ?_ | refine CallC.r ?_); conv => whnf))
  · simp at h
    refine Pick.ix h ?_
    ((conv => whnf); repeat ((first | refine B0 ?_ | refine B1 ?_ | refine D1 ?_ | refine D2 ?_ | refine CallC.r ?_); conv => whnf))
    refine Pick.mk _ (hp xs[i] (List.getElem_mem h)) ?_
    ((conv => whnf); repeat ((first | refine B0 ?_ | refine B1 ?_ | refine D1 ?_ | refine D2 ?_ | refine CallC.r ?_); conv => whnf))
    refine Br.mk (fun h5 => ?_) (fun h5 => ?_) <;> ((conv => whnf); repeat ((first | refine B0 ?_ | refine B1 ?_ | refine D1 ?_ | refine D2 ?_ | refine CallC.r ?_); conv => whnf))
    · exact ResOK.same (by rw [firstIx_at h h5 h3, Nat.zero_add])
    · refine Pick.at64 (z := (i + 1 : Nat)) (by simp) (by omega) ?_
      ((conv => whnf); repeat ((first | refine B0 ?_ | refine B1 ?_ | refine D1 ?_ | refine D2 ?_ | refine CallC.r ?_); conv => whnf))
      refine ih (i + 1) ⟨by omega, fun j h1 h6 => ?_⟩ (by omega)
      by_cases hj : j < i
      · exact h3 j h1 hj
      · obtain rfl : j = i := by omega
        exact h5
  · simp at h
    exact ResOK.same (by rw [firstIx_none fun j h1 => h3 j h1 (by omega)])

theorem s_ContainsFuncByte (xs : List UInt8) (g : Nat) (caps : List CV) (p : UInt8 → Bool) (hb : xs.length ≤ maxLen) (hp : ∀ x ∈ xs, Sat Tryd.prog g ((false, Enc.enc x) :: caps.map fun y => (false, [y])) (.one (.c (.bool (p x))), [])) :
    Sat Tryd.prog 56 [(false, Enc.enc xs), (false, [.fn g caps])] (.one (.c (.bool (xs.any p))), []) := by
  refine Sat.intro tok mixed Tryd.func56 rfl rfl ?_
  ((conv => whnf); repeat ((first | refine B0 ?_ | refine B1 ?_ | refine D1 ?_ | refine D2 ?_ | refine CallC.r ?_); conv => whnf))
  refine Pick.mk _ (s_IndexFuncByte xs g caps p hb hp) ?_
  ((conv => whnf); repeat ((first | refine B0 ?_ | refine B1 ?_ | refine D1 ?_ | refine D2 ?_ | refine CallC.r ?_); conv => whnf))
  exact ResOK.same (by rw [firstIx_any])

def odd (b : UInt8) : Bool := decide ((b.toNat : Int) < 32) || decide ((b.toNat : Int) > 126)
def okMemo (s : ByteArray) : Bool := decide ((s.size : Int) ≤ 20) && !(s.toList.any odd)

theorem s_odd (b : UInt8) : Sat Tryd.prog 57 [(false, Enc.enc b)] (.one (.c (.bool (odd b))), []) := by
  refine Sat.intro tok mixed Tryd.func57 rfl rfl ?_
  ((conv => whnf); repeat ((first | refine B0 ?_ | refine B1 ?_ | refine D1 ?_ | refine D2 ?_ | refine CallC.r ?_); conv => whnf))
  refine Br.mk (fun h => ?_) (fun h => ?_) <;> ((conv => whnf); repeat ((first | refine B0 ?_ | refine B1 ?_ | refine D1 ?_ | refine D2 ?_ | refine CallC.r ?_); conv => whnf))
  · exact ResOK.same (by simp at h; simp [odd, h])
  · exact ResOK.same (by simp at h; simp [odd]; omega)

theorem s_validMemo (s : ByteArray) (o : Enc.ok s) : Sat Tryd.prog 30 [(false, Enc.enc s)] (.one (.c (.bool (okMemo s))), []) := by
  have hsz := size_list s
  refine Sat.intro tok mixed Tryd.func30 rfl rfl ?_
  ((conv => whnf); repeat ((first | refine B0 ?_ | refine B1 ?_ | refine D1 ?_ | refine D2 ?_ | refine CallC.r ?_); conv => whnf))
  refine Br.mk (fun h => ?_) (fun h => ?_) <;> ((conv => whnf); repeat ((first | refine B0 ?_ | refine B1 ?_ | refine D1 ?_ | refine D2 ?_ | refine CallC.r ?_); conv => whnf))
  · simp at h
    refine Side.mk (by omega) ?_
    ((conv => whnf); repeat ((first | refine B0 ?_ | refine B1 ?_ | refine D1 ?_ | refine D2 ?_ | refine CallC.r ?_); conv => whnf))
    refine Pick.mk _ (s_ContainsFuncByte s.toList 57 [] odd (by simp only [maxLen]; omega) fun x _ => s_odd x) ?_
    ((conv => whnf); repeat ((first | refine B0 ?_ | refine B1 ?_ | refine D1 ?_ | refine D2 ?_ | refine CallC.r ?_); conv => whnf))
    exact ResOK.same (by simp [okMemo, h])
  · exact ResOK.same (by simp at h; have : ¬ (s.size : Int) ≤ 20 := by omega
                         simp [okMemo, this])

theorem s_l27Memo (s : ByteArray) (o : Enc.ok s) : Sat Tryd.prog 25 [(false, Enc.enc s)] (.one (.c (.bool (okMemo s))), []) := by
  have o : s.size ≤ maxLen := o
  simp only [maxLen] at o
  have hsz := size_list s
  refine Sat.intro tok mixed Tryd.func25 rfl rfl ?_
  ((conv => whnf); repeat ((first | refine B0 ?_ | refine B1 ?_ | refine D1 ?_ | refine D2 ?_ | refine CallC.r ?_); conv => whnf))
  refine Pick.mk [0, 3] trivial ?_
  ((conv => whnf); repeat ((first | refine B0 ?_ | refine B1 ?_ | refine D1 ?_ | refine D2 ?_ | refine CallC.r ?_); conv => whnf))
  refine LoopL.run (fun i : Nat => St.mk [.one (.c (.str s)), .one .dead, .one .dead, .one (.c (.int .i64 i)), .one .dead, .one .dead, .one .dead, .one .dead, .one .dead, .one .dead, .one .dead, .one .dead, .one .dead, .one .dead, .one .dead, .one .dead, .one .dead, .one .dead, .one .dead, .one .dead, .one .dead, .one .dead, .one .dead] []) (fun i => s.toList.length - i) (fun i => i ≤ s.toList.length ∧ ∀ (j : Nat) (h : j < s.toList.length), j < i → odd s.toList[j] = false) ?_ 0 ⟨Nat.zero_le _, by intros; omega⟩
  intro i ⟨h3, h4⟩ ih
  ((conv => whnf); repeat ((first | refine B0 ?_ | refine B1 ?_ | refine D1 ?_ | refine D2 ?_ | refine CallC.r ?_); conv => whnf))
  refine Br.mk (fun h => ?_) (fun h => ?_) <;> ((conv => whnf); repeat ((first | refine B0 ?_ | refine B1 ?_ | refine D1 ?_ | refine D2 ?_ | refine CallC.r ?_); conv => whnf))
  · simp at h
    rw [hsz] at h
    have no : odd s.toList[i] = true → okMemo s = false := fun e => by
      have : s.toList.any odd = true := List.any_eq_true.2 ⟨_, List.getElem_mem h, e⟩
      simp [okMemo, this]
    have next : odd s.toList[i] = false → ∀ (j : Nat) (h : j < s.toList.length), j < i + 1 → odd s.toList[j] = false := fun e j h1 hj => by
      by_cases hji : j < i
      · exact h4 j h1 hji
      · obtain rfl : j = i := by omega
        exact e
    refine Pick.byte h ?_
    ((conv => whnf); repeat ((first | refine B0 ?_ | refine B1 ?_ | refine D1 ?_ | refine D2 ?_ | refine CallC.r ?_); conv => whnf))
    refine Br.mk (fun h5 => ?_) (fun h5 => ?_) <;> ((conv => whnf); repeat ((first | refine B0 ?_ | refine B1 ?_ | refine D1 ?_ | refine D2 ?_ | refine CallC.r ?_); conv => whnf))
    · exact ResOK.same (by simp at h5; rw [no (by simp [odd, h5])])
    · simp at h5
      refine Pick.byte h ?_
      ((conv => whnf); repeat ((first | refine B0 ?_ | refine B1 ?_ | refine D1 ?_ | refine D2 ?_ | refine CallC.r ?_); conv => whnf))
      refine Br.mk (fun h6 => ?_) (fun h6 => ?_) <;> ((conv => whnf); repeat ((first | refine B0 ?_ | refine B1 ?_ | refine D1 ?_ | refine D2 ?_ | refine CallC.r ?_); conv => whnf))
      · exact ResOK.same (by simp at h6; rw [no (by simp [odd, h6])])
      · simp at h6
        refine Pick.at64 (z := (i + 1 : Nat)) (by simp) (by omega) ?_
        ((conv => whnf); repeat ((first | refine B0 ?_ | refine B1 ?_ | refine D1 ?_ | refine D2 ?_ | refine CallC.r ?_); conv => whnf))
        exact ih (i + 1) ⟨by omega, next (by simp [odd]; omega)⟩ (by omega)
  · simp at h
    rw [hsz] at h
    have e : s.toList.any odd = false := by
      rw [← Bool.not_eq_true]
      intro e
      obtain ⟨x, hx, hx2⟩ := List.any_eq_true.1 e
      obtain ⟨j, hj, rfl⟩ := List.getElem_of_mem hx
      rw [h4 j hj (by omega)] at hx2
      cases hx2
    exact ResOK.same (by simp [okMemo, e])

end Go.Proofs.YtjolahiflldepaaDoor.Pi
