/- Changes between two states, the reference and the program. No statement of the seat is proved here. -/
import Derived.Test.YtjolahiflldepabPiFNames
import Derived.Test.YtjolahiflldepabPiFCommit
namespace Go.Proofs.Ytjolahiflldepab.Pi
open Go
set_option maxRecDepth 10000
set_option linter.unusedVariables false

theorem bytes_refl (a : ByteArray) : (a == a) = true := by
  show (a.data == a.data) = true
  simp
section
variable {α β : Type}
/-- Those of a kind, as far as one has come. -/
def filtUp (p : α → Bool) (g : α → β) (xs : List α) (i : Nat) : List β := ((xs.take i).filter p).map g
theorem filtUp_zero (p : α → Bool) (g : α → β) (xs : List α) : filtUp p g xs 0 = [] := by simp [filtUp]
theorem filtUp_yes {p : α → Bool} (g : α → β) {xs : List α} {i : Nat} (h : i < xs.length) (hh : p xs[i] = true) : filtUp p g xs (i + 1) = filtUp p g xs i ++ [g xs[i]] := by
  simp only [filtUp, List.take_add_one, List.getElem?_eq_getElem h, Option.toList_some, List.filter_append, List.filter_cons, hh, if_true, List.filter_nil, List.map_append, List.map_cons, List.map_nil]
theorem filtUp_no {p : α → Bool} (g : α → β) {xs : List α} {i : Nat} (h : i < xs.length) (hh : p xs[i] = false) : filtUp p g xs (i + 1) = filtUp p g xs i := by
  simp only [filtUp, List.take_add_one, List.getElem?_eq_getElem h, Option.toList_some, List.filter_append, List.filter_cons, hh, List.filter_nil, Bool.false_eq_true, if_false, List.append_nil]
theorem filtUp_len (p : α → Bool) (g : α → β) (xs : List α) (i : Nat) : (filtUp p g xs i).length ≤ i := by
  simp only [filtUp, List.length_map]
  exact Nat.le_trans (List.length_filter_le _ _) (by simp; omega)
theorem filtUp_all (p : α → Bool) (g : α → β) (xs : List α) : filtUp p g xs xs.length = (xs.filter p).map g := by simp [filtUp]
end

theorem okState_ord {xs : List Setting} (h : okState xs = true) : Ord Setting.name xs ∧ ∀ x ∈ xs, 0 ≤ x.value ∧ x.value ≤ 1000 := by
  have hget : ∀ (i : Nat) (hi : i < xs.length), okStep xs i xs[i] = true := fun i hi => by
    simp only [okState, Bool.and_eq_true] at h
    cases hb : okStep xs i xs[i] with
    | true => rfl
    | false => rw [allIx_no (i := i) (List.getElem?_eq_getElem hi) (by simpa using hb)] at h; cases h.1
  refine ⟨ord_of_steps fun i hi => ?_, fun x hx => ?_⟩
  · have := hget (i + 1) hi
    have e : xs[i]? = some (xs[i]'(by omega)) := List.getElem?_eq_getElem (by omega)
    simp only [okStep, Bool.and_eq_true, Nat.add_sub_cancel, e] at this
    simpa using this.2
  · obtain ⟨i, hi, rfl⟩ := List.mem_iff_getElem.1 hx
    have := hget i hi
    simp only [okStep, okSetting, Bool.and_eq_true, decide_eq_true_eq] at this
    exact this.1.2

/-- The value of a name, or -1. -/
def valOf (xs : List Setting) (t : ByteArray) : Int := match xs.find? (fun x => x.name.toList == t.toList) with | some x => x.value | none => -1

theorem at_cases (xs : List Setting) (t : ByteArray) : (atName Setting.name xs t = -1 ∧ valOf xs t = -1) ∨ ∃ (k : Nat) (h : k < xs.length), atName Setting.name xs t = k ∧ xs[k].name.toList = t.toList ∧ valOf xs t = xs[k].value := by
  have : ∀ (xs : List Setting) (n : Nat), (firstIx (fun x : Setting => x.name.toList == t.toList) xs n = -1 ∧ valOf xs t = -1) ∨ ∃ (k : Nat) (h : k < xs.length), firstIx (fun x : Setting => x.name.toList == t.toList) xs n = ((n + k : Nat) : Int) ∧ xs[k].name.toList = t.toList ∧ valOf xs t = xs[k].value := fun xs => by
    induction xs with
    | nil => intro n; left; exact ⟨rfl, rfl⟩
    | cons x xs ih =>
      intro n
      by_cases h : (x.name.toList == t.toList) = true
      · right
        exact ⟨0, by simp, by simp [firstIx, h], by simpa using h, by simp [valOf, h]⟩
      · have h : (x.name.toList == t.toList) = false := by simpa using h
        have e : valOf (x :: xs) t = valOf xs t := by simp only [valOf, List.find?_cons, h]
        have e2 : firstIx (fun x : Setting => x.name.toList == t.toList) (x :: xs) n = firstIx (fun x : Setting => x.name.toList == t.toList) xs (n + 1) := by simp [firstIx, h]
        rw [e, e2]
        rcases ih (n + 1) with h1 | ⟨k, hk, h1, h2, h3⟩
        · exact Or.inl h1
        · exact Or.inr ⟨k + 1, by simpa using hk, by rw [h1]; omega, by simpa using h2, by simpa using h3⟩
  have := this xs 0
  simp only [Nat.zero_add] at this
  exact this

theorem s_settingAt1 (x : Setting) (t : ByteArray) : Sat Try.prog 132 [(true, Enc.enc x), (false, [.str t])] (.one (.c (.int .i64 (cmpB x.name t))), []) := by
  refine Sat.intro tok mixed Try.func132 rfl rfl ?_
  ((conv => whnf); repeat ((first | refine B0 ?_ | refine B1 ?_ | refine D1 ?_ | refine D2 ?_ | refine CallC.r ?_); conv => whnf))
  refine Pick.mk _ (s_Compare x.name t) ?_
  ((conv => whnf); repeat ((first | refine B0 ?_ | refine B1 ?_ | refine D1 ?_ | refine D2 ?_ | refine CallC.r ?_); conv => whnf))
  exact ResOK.same rfl

theorem s_settingAt (xs : List Setting) (t : ByteArray) (ho : Ord Setting.name xs) (hb : xs.length ≤ 1048576) : Sat Try.prog 94 [(false, Enc.enc xs), (false, [.str t])] (.tup [(false, [.c (.int .i64 (posOf (fun x => cmpB x.name t) xs))]), (false, [.c (.bool (hitOf (fun x => cmpB x.name t) xs))])], []) := by
  refine Sat.intro tok mixed Try.func94 rfl rfl ?_
  ((conv => whnf); repeat ((first | refine B0 ?_ | refine B1 ?_ | refine D1 ?_ | refine D2 ?_ | refine CallC.r ?_); conv => whnf))
  refine Pick.mk _ (s_BinarySearchSetting xs t 132 (fun x => cmpB x.name t) hb (fun x _ => s_settingAt1 x t) (fun i j hi hj hij h => ord_mono ho t i j hi hj hij h)) ?_
  ((conv => whnf); repeat ((first | refine B0 ?_ | refine B1 ?_ | refine D1 ?_ | refine D2 ?_ | refine CallC.r ?_); conv => whnf))
  exact ResOK.same rfl

theorem s_valueOf (xs : List Setting) (t : ByteArray) (ho : Ord Setting.name xs) (hb : xs.length ≤ 1048576) : Sat Try.prog 51 [(false, Enc.enc xs), (false, [.str t])] (.one (.c (.int .i64 (valOf xs t))), []) := by
  refine Sat.intro tok mixed Try.func51 rfl rfl ?_
  ((conv => whnf); repeat ((first | refine B0 ?_ | refine B1 ?_ | refine D1 ?_ | refine D2 ?_ | refine CallC.r ?_); conv => whnf))
  refine Pick.mk _ (s_settingAt xs t ho hb) ?_
  ((conv => whnf); repeat ((first | refine B0 ?_ | refine B1 ?_ | refine D1 ?_ | refine D2 ?_ | refine CallC.r ?_); conv => whnf))
  have hh := hit_at ho t
  have hc := at_cases xs t
  refine Br.mk (fun h => ?_) (fun h => ?_) <;> ((conv => whnf); repeat ((first | refine B0 ?_ | refine B1 ?_ | refine D1 ?_ | refine D2 ?_ | refine CallC.r ?_); conv => whnf))
  · simp only [Bool.not_eq_true'] at h
    rw [h] at hh
    have e : valOf xs t = -1 := by
      rcases hc with h1 | ⟨k, hk, h1, _⟩
      · exact h1.2
      · rcases hh with h2 | h2
        · cases h2.1
        · omega
    exact ResOK.same (by rw [e])
  · simp only [Bool.not_eq_false'] at h
    rw [h] at hh
    rcases hh with ⟨_, h2, h3⟩ | h2
    · rcases hc with h1 | ⟨k, hk, h1, _, h4⟩
      · omega
      · have e : posOf (fun x => cmpB x.name t) xs = k := by omega
        refine Pick.ix h3 ?_
        ((conv => whnf); repeat ((first | refine B0 ?_ | refine B1 ?_ | refine D1 ?_ | refine D2 ?_ | refine CallC.r ?_); conv => whnf))
        exact ResOK.same (by simp only [e]; rw [h4])
    · cases h2.1

theorem s_areStates1 (x : List Setting) (o : Enc.ok x) : Sat Try.prog 89 [(false, Enc.enc x)] (.one (.c (.bool (!okState x))), []) := by
  refine Sat.intro tok mixed Try.func89 rfl rfl ?_
  ((conv => whnf); repeat ((first | refine B0 ?_ | refine B1 ?_ | refine D1 ?_ | refine D2 ?_ | refine CallC.r ?_); conv => whnf))
  refine Pick.mk _ (s_impl_ValidState x o) ?_
  ((conv => whnf); repeat ((first | refine B0 ?_ | refine B1 ?_ | refine D1 ?_ | refine D2 ?_ | refine CallC.r ?_); conv => whnf))
  exact ResOK.same rfl

theorem s_areStates (xs : List (List Setting)) (o : Enc.ok xs) : Sat Try.prog 45 [(false, Enc.enc xs)] (.one (.c (.bool (!(xs.any fun x => !okState x)))), []) := by
  refine Sat.intro tok mixed Try.func45 rfl rfl ?_
  ((conv => whnf); repeat ((first | refine B0 ?_ | refine B1 ?_ | refine D1 ?_ | refine D2 ?_ | refine CallC.r ?_); conv => whnf))
  refine Pick.mk _ (s_ContainsFuncSettingS xs 89 [] (fun x => !okState x) o.1 fun x hx => s_areStates1 x (o.2 x hx)) ?_
  ((conv => whnf); repeat ((first | refine B0 ?_ | refine B1 ?_ | refine D1 ?_ | refine D2 ?_ | refine CallC.r ?_); conv => whnf))
  exact ResOK.same rfl

theorem s_l27At (xs : List Setting) (t : ByteArray) (hb : xs.length ≤ 1048576) : Sat Try.prog 109 [(false, Enc.enc xs), (false, [.str t])] (.one (.c (.int .i64 (atName Setting.name xs t))), []) := by
  have hl : (xs.map (Enc.enc (α := Setting))).length = xs.length := by simp
  refine Sat.intro tok mixed Try.func109 rfl rfl ?_
  ((conv => whnf); repeat ((first | refine B0 ?_ | refine B1 ?_ | refine D1 ?_ | refine D2 ?_ | refine CallC.r ?_); conv => whnf))
  refine Pick.mk [0, 1, 5] trivial ?_
  ((conv => whnf); repeat ((first | refine B0 ?_ | refine B1 ?_ | refine D1 ?_ | refine D2 ?_ | refine CallC.r ?_); conv => whnf))
  refine LoopL.run (fun i : Nat => St.mk [.one (.c (.slice 2 (xs.map Enc.enc))), .one (.c (.str t)), .one .dead, .one .dead, .one .dead, .one (.c (.int .i64 i)), .one .dead, .one .dead, .one .dead, .one .dead, .one .dead, .one .dead, .one .dead, .one .dead, .one .dead, .one .dead, .one .dead, .one .dead, .one .dead, .one .dead] []) (fun i => xs.length - i) (fun i => i ≤ xs.length ∧ ∀ (k : Nat) (h : k < xs.length), k < i → (xs[k].name.toList == t.toList) = false) ?_ 0 ⟨Nat.zero_le _, by intros; omega⟩
  intro i ⟨h2, h3⟩ ih
  ((conv => whnf); repeat ((first | refine B0 ?_ | refine B1 ?_ | refine D1 ?_ | refine D2 ?_ | refine CallC.r ?_); conv => whnf))
  refine Br.mk (fun h => ?_) (fun h => ?_) <;> ((conv => whnf); repeat ((first | refine B0 ?_ | refine B1 ?_ | refine D1 ?_ | refine D2 ?_ | refine CallC.r ?_); conv => whnf))
  · simp at h
    refine Pick.ix h ?_
    ((conv => whnf); repeat ((first | refine B0 ?_ | refine B1 ?_ | refine D1 ?_ | refine D2 ?_ | refine CallC.r ?_); conv => whnf))
    refine Br.mk (fun h4 => ?_) (fun h4 => ?_) <;> ((conv => whnf); repeat ((first | refine B0 ?_ | refine B1 ?_ | refine D1 ?_ | refine D2 ?_ | refine CallC.r ?_); conv => whnf))
    · refine ResOK.same ?_
      unfold atName
      rw [firstIx_at h h4 (fun j hj hji => h3 j hj hji), Nat.zero_add]
    · refine Pick.at64 (z := (i + 1 : Nat)) (by simp) (by omega) ?_
      ((conv => whnf); repeat ((first | refine B0 ?_ | refine B1 ?_ | refine D1 ?_ | refine D2 ?_ | refine CallC.r ?_); conv => whnf))
      refine ih (i + 1) ⟨by omega, fun k hk hlt => ?_⟩ (by omega)
      by_cases e : k = i
      · subst e; exact h4
      · exact h3 k hk (by omega)
  · simp at h
    refine ResOK.same ?_
    unfold atName
    rw [firstIx_none fun j hj => h3 j hj (by omega)]


def dropC (s : Setting) : Change := ⟨2, s⟩
def setC (s : Setting) : Change := ⟨1, s⟩
def goneP (b : List Setting) (s : Setting) : Bool := decide (atName Setting.name b s.name < 0)
def newP (a : List Setting) (s : Setting) : Bool := !(valOf a s.name == s.value)
def drops (a b : List Setting) (i : Nat) : List Change := filtUp (goneP b) dropC a i
def sets (a b : List Setting) (i : Nat) : List Change := filtUp (newP a) setC b i
def diffOf (a b : List Setting) : List Change × Int := if okState a && okState b then (drops a b a.length ++ sets a b b.length, 0) else ([], 1)

theorem valOf_neg {b : List Setting} (h : okState b = true) (t : ByteArray) : valOf b t < 0 ↔ atName Setting.name b t < 0 := by
  rcases at_cases b t with ⟨h1, h2⟩ | ⟨k, hk, h1, _, h2⟩
  · omega
  · have := (okState_ord h).2 _ (List.getElem_mem hk)
    omega

theorem flat_change (xs : List Change) : flatRows (xs.map Enc.enc) := fun r hr c hc => by
  obtain ⟨x, _, rfl⟩ := List.mem_map.1 hr
  have : c = .int .i64 x.kind ∨ c = .str x.setting.name ∨ c = .int .i64 x.setting.value := by simpa [Enc.enc] using hc
  rcases this with rfl | rfl | rfl <;> rfl

theorem diffOf_wt (a b : List Setting) (ha : Enc.wt a ≤ 1048576) (hb : Enc.wt b ≤ 1048576) : Enc.wt (diffOf a b).1 ≤ 4194304 := by
  have filt : ∀ (p : Setting → Bool) (g : Setting → Change) (hg : ∀ x, Enc.wt (g x) = Enc.wt x) (xs : List Setting) (i : Nat), Enc.wt (filtUp p g xs i) ≤ Enc.wt xs := fun p g hg xs i => by
    simp only [filtUp, wt_list, List.length_map]
    have h1 : ∀ l : List Setting, (((l.filter p).map g).map Enc.wt).sum ≤ (l.map Enc.wt).sum ∧ (l.filter p).length ≤ l.length := fun l => by
      induction l with
      | nil => simp
      | cons x l ih =>
        cases h : p x with
        | true =>
          rw [List.filter_cons_of_pos h]
          simp only [List.map_cons, List.sum_cons, List.length_cons, hg]
          omega
        | false =>
          rw [List.filter_cons_of_neg (by simp [h])]
          simp only [List.map_cons, List.sum_cons, List.length_cons]
          omega
    have h2 := h1 (xs.take i)
    have h3 := wts_le xs i
    unfold wts at h3
    have h4 : (xs.take i).length ≤ xs.length := by simp; omega
    omega
  unfold diffOf
  split
  · have h1 := filt (goneP b) dropC (fun x => by show Enc.wt (2 : Int) + Enc.wt x = _; rw [wt_int]; omega) a a.length
    have h2 := filt (newP a) setC (fun x => by show Enc.wt (1 : Int) + Enc.wt x = _; rw [wt_int]; omega) b b.length
    simp only [wt_append, drops, sets] at *
    omega
  · simp [wt_list]

end Go.Proofs.Ytjolahiflldepab.Pi
