/- ValidHistory, the reference and the program. No statement of the seat is proved here. -/
import Derived.Test.YtjolahiflldepaaDoorPiFMemo
import Derived.Test.YtjolahiflldepaaDoorPiFValidState
namespace Go.Proofs.YtjolahiflldepaaDoor.Pi
open Go
set_option maxRecDepth 10000
set_option linter.unusedVariables false

def okVersion (i : Nat) (x : Version) : Bool := (x.number == (i : Int) + 1) && ((decide (0 ≤ x.parent) && decide (x.parent ≤ (i : Int))) && (okMemo x.memo && okState x.state))
def okHistory (xs : List Version) : Bool := allIx okVersion 0 xs && decide (xs.length ≤ 32)

theorem s_l27Ok (xs : List Version) (o : Enc.ok xs) : Sat Tryd.prog 43 [(false, Enc.enc xs)] (.one (.c (.bool (okHistory xs))), []) := by
  obtain ⟨o1, o2⟩ := o
  simp only [maxLen] at o1
  have hl : (xs.map (Enc.enc (α := Version))).length = xs.length := by simp
  refine Sat.intro tok mixed Tryd.func43 rfl rfl ?_
  ((conv => whnf); repeat ((first | refine B0 ?_ | refine B1 ?_ | refine D1 ?_ | refine D2 ?_ | refine CallC.r ?_); conv => whnf))
  refine Pick.mk [0, 3] trivial ?_
  ((conv => whnf); repeat ((first | refine B0 ?_ | refine B1 ?_ | refine D1 ?_ | refine D2 ?_ | refine CallC.r ?_); conv => whnf))
  refine LoopL.run (fun i : Nat => St.mk [.one (.c (.slice 4 (xs.map Enc.enc))), .one .dead, .one .dead, .one (.c (.int .i64 i)), .one .dead, .one .dead, .one .dead, .one .dead, .one .dead, .one .dead, .one .dead, .one .dead, .one .dead, .one .dead, .one .dead, .one .dead, .one .dead, .one .dead, .one .dead, .one .dead, .one .dead, .one .dead, .one .dead, .one .dead, .one .dead, .one .dead, .one .dead, .one .dead, .one .dead, .one .dead, .one .dead, .one .dead, .one .dead, .one .dead, .one .dead, .one .dead, .one .dead, .one .dead, .one .dead, .one .dead, .one .dead, .one .dead] []) (fun i => xs.length - i) (fun i => i ≤ xs.length ∧ ∀ (j : Nat) (x : Version), j < i → xs[j]? = some x → okVersion j x = true) ?_ 0 ⟨Nat.zero_le _, by intros; omega⟩
  intro i ⟨h3, h4⟩ ih
  ((conv => whnf); repeat ((first | refine B0 ?_ | refine B1 ?_ | refine D1 ?_ | refine D2 ?_ | refine CallC.r ?_); conv => whnf))
  refine Br.mk (fun h => ?_) (fun h => ?_) <;> ((conv => whnf); repeat ((first | refine B0 ?_ | refine B1 ?_ | refine D1 ?_ | refine D2 ?_ | refine CallC.r ?_); conv => whnf))
  · simp at h
    have no : okVersion i xs[i] = false → okHistory xs = false := fun hok => by
      have e : allIx okVersion 0 xs = false := allIx_no (i := i) (List.getElem?_eq_getElem h) (by simpa using hok)
      simp [okHistory, e]
    have next : okVersion i xs[i] = true → ∀ (j : Nat) (x : Version), j < i + 1 → xs[j]? = some x → okVersion j x = true := fun ok j x hj hx => by
      by_cases hji : j < i
      · exact h4 j x hji hx
      · obtain rfl : j = i := by omega
        rw [List.getElem?_eq_getElem h] at hx
        cases hx
        exact ok
    have hix := h
    have hx := o2 _ (List.getElem_mem hix)
    refine Pick.ix hix ?_
    ((conv => whnf); repeat ((first | refine B0 ?_ | refine B1 ?_ | refine D1 ?_ | refine D2 ?_ | refine CallC.r ?_); conv => whnf))
    repeat' first
      | (refine Pick.at64 (z := ((i + 1 : Nat) : Int)) ?_ ?_ ?_
         · simp
         · omega
         ((conv => whnf); repeat ((first | refine B0 ?_ | refine B1 ?_ | refine D1 ?_ | refine D2 ?_ | refine CallC.r ?_); conv => whnf)))
      | (refine Pick.at64 (z := (i : Int)) ?_ ?_ ?_
         · omega
         · omega
         ((conv => whnf); repeat ((first | refine B0 ?_ | refine B1 ?_ | refine D1 ?_ | refine D2 ?_ | refine CallC.r ?_); conv => whnf)))
      | (refine Pick.mk _ (s_l00In xs[i].parent 0 i) ?_; ((conv => whnf); repeat ((first | refine B0 ?_ | refine B1 ?_ | refine D1 ?_ | refine D2 ?_ | refine CallC.r ?_); conv => whnf)))
      | (refine Pick.mk _ (s_l27Memo xs[i].memo hx.2.2.1) ?_; ((conv => whnf); repeat ((first | refine B0 ?_ | refine B1 ?_ | refine D1 ?_ | refine D2 ?_ | refine CallC.r ?_); conv => whnf)))
      | (refine Pick.mk _ (s_l27State xs[i].state hx.2.2.2) ?_; ((conv => whnf); repeat ((first | refine B0 ?_ | refine B1 ?_ | refine D1 ?_ | refine D2 ?_ | refine CallC.r ?_); conv => whnf)))
      | (refine Br.mk (fun h => ?_) (fun h => ?_) <;> ((conv => whnf); repeat ((first | refine B0 ?_ | refine B1 ?_ | refine D1 ?_ | refine D2 ?_ | refine CallC.r ?_); conv => whnf)))
    all_goals first
      | exact ih (i + 1) ⟨by omega, next (by clear ih no next h4 o2; simp_all [okVersion] <;> (intros; omega))⟩ (by omega)
      | exact ResOK.same (by rw [no (by clear ih no next h4 o2; simp_all [okVersion] <;> (intros; omega))])
  · simp at h
    have e : allIx okVersion 0 xs = true := allIx_yes fun j x hx => by
      have : j < xs.length := (List.getElem?_eq_some_iff.1 hx).1
      rw [Nat.zero_add]
      exact h4 j x (by omega) hx
    exact ResOK.same (by simp [okHistory, e]; omega)

theorem s_impl_ValidHistory (xs : List Version) (o : Enc.ok xs) : Sat Tryd.prog 74 [(false, Enc.enc xs)] (.one (.c (.bool (okHistory xs))), []) := by
  obtain ⟨o1, o2⟩ := o
  simp only [maxLen] at o1
  have hl : (xs.map (Enc.enc (α := Version))).length = xs.length := by simp
  refine Sat.intro tok mixed Tryd.func74 rfl rfl ?_
  ((conv => whnf); repeat ((first | refine B0 ?_ | refine B1 ?_ | refine D1 ?_ | refine D2 ?_ | refine CallC.r ?_); conv => whnf))
  refine Pick.mk [0, 6, 7, 8] trivial ?_
  ((conv => whnf); repeat ((first | refine B0 ?_ | refine B1 ?_ | refine D1 ?_ | refine D2 ?_ | refine CallC.r ?_); conv => whnf))
  refine LoopL.run (fun i : Nat => St.mk [.one (.c (.slice 4 (xs.map Enc.enc))), .one .dead, .one .dead, .one .dead, .one .dead, .one .dead, .one (.c (.slice 4 (xs.map Enc.enc))), .one (.c (.int .i64 (xs.map (Enc.enc (α := Version))).length)), .one (.c (.int .i64 i)), .one .dead, .one .dead, .one .dead, .one .dead, .one .dead, .one .dead, .one .dead, .one .dead, .one .dead, .one .dead, .one .dead, .one .dead, .one .dead, .one .dead, .one .dead, .one .dead, .one .dead, .one .dead, .one .dead, .one .dead, .one .dead, .one .dead, .one .dead, .one .dead, .one .dead, .one .dead, .one .dead, .one .dead, .one .dead, .one .dead, .one .dead, .one .dead, .one .dead, .one .dead] []) (fun i => xs.length - i) (fun i => i ≤ xs.length ∧ ∀ (j : Nat) (x : Version), j < i → xs[j]? = some x → okVersion j x = true) ?_ 0 ⟨Nat.zero_le _, by intros; omega⟩
  intro i ⟨h3, h4⟩ ih
  ((conv => whnf); repeat ((first | refine B0 ?_ | refine B1 ?_ | refine D1 ?_ | refine D2 ?_ | refine CallC.r ?_); conv => whnf))
  refine Br.mk (fun h => ?_) (fun h => ?_) <;> ((conv => whnf); repeat ((first | refine B0 ?_ | refine B1 ?_ | refine D1 ?_ | refine D2 ?_ | refine CallC.r ?_); conv => whnf))
  · simp at h
    have no : okVersion i xs[i] = false → okHistory xs = false := fun hok => by
      have e : allIx okVersion 0 xs = false := allIx_no (i := i) (List.getElem?_eq_getElem h) (by simpa using hok)
      simp [okHistory, e]
    have next : okVersion i xs[i] = true → ∀ (j : Nat) (x : Version), j < i + 1 → xs[j]? = some x → okVersion j x = true := fun ok j x hj hx => by
      by_cases hji : j < i
      · exact h4 j x hji hx
      · obtain rfl : j = i := by omega
        rw [List.getElem?_eq_getElem h] at hx
        cases hx
        exact ok
    have hix := h
    have hx := o2 _ (List.getElem_mem hix)
    refine Pick.ix hix ?_
    ((conv => whnf); repeat ((first | refine B0 ?_ | refine B1 ?_ | refine D1 ?_ | refine D2 ?_ | refine CallC.r ?_); conv => whnf))
    repeat' first
      | (refine Pick.at64 (z := ((i + 1 : Nat) : Int)) ?_ ?_ ?_
         · simp
         · omega
         ((conv => whnf); repeat ((first | refine B0 ?_ | refine B1 ?_ | refine D1 ?_ | refine D2 ?_ | refine CallC.r ?_); conv => whnf)))
      | (refine Pick.at64 (z := (i : Int)) ?_ ?_ ?_
         · omega
         · omega
         ((conv => whnf); repeat ((first | refine B0 ?_ | refine B1 ?_ | refine D1 ?_ | refine D2 ?_ | refine CallC.r ?_); conv => whnf)))
      | (refine Pick.mk _ (s_within xs[i].parent 0 i) ?_; ((conv => whnf); repeat ((first | refine B0 ?_ | refine B1 ?_ | refine D1 ?_ | refine D2 ?_ | refine CallC.r ?_); conv => whnf)))
      | (refine Pick.mk _ (s_validMemo xs[i].memo hx.2.2.1) ?_; ((conv => whnf); repeat ((first | refine B0 ?_ | refine B1 ?_ | refine D1 ?_ | refine D2 ?_ | refine CallC.r ?_); conv => whnf)))
      | (refine Pick.mk _ (s_impl_ValidState xs[i].state hx.2.2.2) ?_; ((conv => whnf); repeat ((first | refine B0 ?_ | refine B1 ?_ | refine D1 ?_ | refine D2 ?_ | refine CallC.r ?_); conv => whnf)))
      | (refine Br.mk (fun h => ?_) (fun h => ?_) <;> ((conv => whnf); repeat ((first | refine B0 ?_ | refine B1 ?_ | refine D1 ?_ | refine D2 ?_ | refine CallC.r ?_); conv => whnf)))
    all_goals first
      | exact ih (i + 1) ⟨by omega, next (by clear ih no next h4 o2; simp_all [okVersion] <;> (intros; omega))⟩ (by omega)
      | exact ResOK.same (by rw [no (by clear ih no next h4 o2; simp_all [okVersion] <;> (intros; omega))])
  · simp at h
    have e : allIx okVersion 0 xs = true := allIx_yes fun j x hx => by
      have : j < xs.length := (List.getElem?_eq_some_iff.1 hx).1
      rw [Nat.zero_add]
      exact h4 j x (by omega) hx
    exact ResOK.same (by simp [okHistory, e]; omega)


end Go.Proofs.YtjolahiflldepaaDoor.Pi
