/- Valid items, the reference and the program. No statement of the seat is proved here. -/
import Derived.Test.YtjolahiflldepaaDoorPiFNames
namespace Go.Proofs.YtjolahiflldepaaDoor.Pi
open Go
set_option maxRecDepth 10000
set_option linter.unusedVariables false

/-! ### items in form -/
def prevOK {α : Type} (f : α → ByteArray) (xs : List α) (i : Nat) (x : ByteArray) : Bool := decide (i = 0) || match xs[i - 1]? with | some y => less (f y) x | none => true
def okNeed (xs : List Item) (ns : List ByteArray) (k : Nat) (n : ByteArray) : Bool := decide (0 ≤ atName Item.name xs n) && prevOK id ns k n
def okItem (xs : List Item) (i : Nat) (x : Item) : Bool := isName x.name && (prevOK Item.name xs i x.name && ((decide (0 ≤ x.made) && decide (x.made ≤ 1000000)) && ((decide (0 ≤ x.cost) && decide (x.cost ≤ 1000)) && allIx (okNeed xs x.needs) 0 x.needs)))
def okForm (xs : List Item) : Bool := allIx (okItem xs) 0 xs && decide (xs.length ≤ 16)

structure ItemOK (xs : List Item) (i : Nat) (h : i < xs.length) : Prop where
  nm : isName xs[i].name = true
  up : ∀ (h0 : 0 < i), less (xs[i - 1]'(by omega)).name xs[i].name = true
  made : 0 ≤ xs[i].made ∧ xs[i].made ≤ 1000000
  cost : 0 ≤ xs[i].cost ∧ xs[i].cost ≤ 1000
  need : ∀ (k : Nat) (hk : k < xs[i].needs.length), 0 ≤ atName Item.name xs xs[i].needs[k] ∧ ∀ (h0 : 0 < k), less (xs[i].needs[k - 1]'(by omega)) xs[i].needs[k] = true

theorem step_iff {α : Type} {f : α → ByteArray} {xs : List α} {i : Nat} {x : ByteArray} (h : i ≤ xs.length) : prevOK f xs i x = true ↔ ∀ (h0 : 0 < i), less (f (xs[i - 1]'(by omega))) x = true := by
  unfold prevOK
  by_cases h0 : 0 < i
  · have e : xs[i - 1]? = some (xs[i - 1]'(by omega)) := List.getElem?_eq_getElem (by omega)
    rw [e]
    simp only [Bool.or_eq_true, decide_eq_true_eq]
    exact ⟨fun h1 _ => h1.resolve_left (by omega), fun h1 => Or.inr (h1 h0)⟩
  · have : i = 0 := by omega
    subst this
    simp

theorem okItem_iff {xs : List Item} {i : Nat} (h : i < xs.length) : okItem xs i xs[i] = true ↔ ItemOK xs i h := by
  simp only [okItem, Bool.and_eq_true, decide_eq_true_eq]
  rw [allIx_iff]
  constructor
  · intro ⟨h1, h2, h3, h4, h5⟩
    refine ⟨h1, (step_iff (f := Item.name) (by omega)).1 h2, h3, h4, fun k hk => ?_⟩
    have := h5 k hk
    simp only [okNeed, Bool.and_eq_true, decide_eq_true_eq] at this
    exact ⟨this.1, (step_iff (f := id) (by omega)).1 this.2⟩
  · intro ⟨h1, h2, h3, h4, h5⟩
    refine ⟨h1, (step_iff (f := Item.name) (by omega)).2 h2, h3, h4, fun k hk => ?_⟩
    simp only [okNeed, Bool.and_eq_true, decide_eq_true_eq]
    exact ⟨(h5 k hk).1, (step_iff (f := id) (by omega)).2 (h5 k hk).2⟩

theorem okForm_iff {xs : List Item} : okForm xs = true ↔ xs.length ≤ 16 ∧ ∀ (i : Nat) (h : i < xs.length), ItemOK xs i h := by
  simp only [okForm, Bool.and_eq_true, decide_eq_true_eq]
  rw [allIx_iff]
  exact ⟨fun h => ⟨h.2, fun i hi => (okItem_iff hi).1 (h.1 i hi)⟩, fun h => ⟨fun i hi => (okItem_iff hi).2 (h.2 i hi), h.1⟩⟩
theorem okForm_no {xs : List Item} {i : Nat} (h : i < xs.length) (hn : ¬ ItemOK xs i h) : okForm xs = false := by
  cases hb : okForm xs with
  | false => rfl
  | true => exact absurd ((okForm_iff.1 hb).2 i h) hn
theorem form_ord {xs : List Item} (h : okForm xs = true) : Ord Item.name xs := ord_of_steps fun i hi => ((okForm_iff.1 h).2 (i + 1) hi).up (by omega)
theorem form_need {xs : List Item} (h : okForm xs = true) {x : Item} (hx : x ∈ xs) {n : ByteArray} (hn : n ∈ x.needs) : ∃ (k : Nat) (hk : k < xs.length), atName Item.name xs n = k ∧ xs[k].name = n := by
  obtain ⟨i, hi, rfl⟩ := List.mem_iff_getElem.1 hx
  obtain ⟨k, hk, rfl⟩ := List.mem_iff_getElem.1 hn
  have h1 := (((okForm_iff.1 h).2 i hi).need k hk).1
  rcases name_cases Item.name xs xs[i].needs[k] with ⟨h2, _⟩ | h2
  · omega
  · exact h2
theorem form_names {xs : List Item} (h : okForm xs = true) : okNames (xs.map Item.name) = true ∧ xs.length ≤ 16 := by
  refine ⟨okNames_iff.2 ⟨fun i j hi hj hlt => ?_, fun x hx => ?_⟩, (okForm_iff.1 h).1⟩
  · simp only [List.getElem_map, id]
    exact form_ord h i j (by simpa using hi) (by simpa using hj) hlt
  · obtain ⟨y, hy, rfl⟩ := List.mem_map.1 hx
    obtain ⟨i, hi, rfl⟩ := List.mem_iff_getElem.1 hy
    exact ((okForm_iff.1 h).2 i hi).nm
theorem form_needs {xs : List Item} (h : okForm xs = true) {x : Item} (hx : x ∈ xs) : okNames x.needs = true ∧ x.needs.length ≤ 16 := by
  have ho : Ord id x.needs := by
    obtain ⟨i, hi, rfl⟩ := List.mem_iff_getElem.1 hx
    exact ord_of_steps fun k hk => (((okForm_iff.1 h).2 i hi).need (k + 1) hk).2 (by omega)
  have hsub : ∀ n ∈ x.needs, n ∈ xs.map Item.name := fun n hn => by
    obtain ⟨k, hk, _, e⟩ := form_need h hx hn
    exact List.mem_map.2 ⟨xs[k], List.getElem_mem hk, e⟩
  obtain ⟨h1, h2⟩ := okNames_iff.1 (form_names h).1
  refine ⟨okNames_iff.2 ⟨ho, fun n hn => h2 n (hsub n hn)⟩, ?_⟩
  have := ord_sub ho h1 hsub
  have := (form_names h).2
  simp only [List.length_map] at *
  omega

theorem s_l28Find (xs : List Item) (t : ByteArray) (hb : xs.length ≤ maxLen) : Sat Tryd.prog 84 [(false, Enc.enc xs), (false, [.str t])] (.one (.c (.int .i64 (atName Item.name xs t))), []) := by
  simp only [maxLen] at hb
  have hl : (xs.map (Enc.enc (α := Item))).length = xs.length := by simp
  refine Sat.intro tok mixed Tryd.func84 rfl rfl ?_
  ((conv => whnf); repeat ((first | refine B0 ?_ | refine B1 ?_ | refine D1 ?_ | refine D2 ?_ | refine CallC.r ?_); conv => whnf))
  refine Pick.mk [0, 1, 5] trivial ?_
  ((conv => whnf); repeat ((first | refine B0 ?_ | refine B1 ?_ | refine D1 ?_ | refine D2 ?_ | refine CallC.r ?_); conv => whnf))
  refine LoopL.run (fun i : Nat => St.mk [.one (.c (.slice 4 (xs.map Enc.enc))), .one (.c (.str t)), .one .dead, .one .dead, .one .dead, .one (.c (.int .i64 i)), .one .dead, .one .dead, .one .dead, .one .dead, .one .dead, .one .dead, .one .dead, .one .dead, .one .dead, .one .dead, .one .dead, .one .dead, .one .dead, .one .dead] []) (fun i => xs.length - i) (fun i => i ≤ xs.length ∧ ∀ (k : Nat) (h : k < xs.length), k < i → (xs[k].name.toList == t.toList) = false) ?_ 0 ⟨Nat.zero_le _, by intros; omega⟩
  intro i ⟨h2, h3⟩ ih
  ((conv => whnf); repeat ((first | refine B0 ?_ | refine B1 ?_ | refine D1 ?_ | refine D2 ?_ | refine CallC.r ?_); conv => whnf))
  refine Br.mk (fun h => ?_) (fun h => ?_) <;> ((conv => whnf); repeat ((first | refine B0 ?_ | refine B1 ?_ | refine D1 ?_ | refine D2 ?_ | refine CallC.r ?_); conv => whnf))
  · simp at h
    refine Pick.ix h ?_
    ((conv => whnf); repeat ((first | refine B0 ?_ | refine B1 ?_ | refine D1 ?_ | refine D2 ?_ | refine CallC.r ?_); conv => whnf))
    refine Br.mk (fun h4 => ?_) (fun h4 => ?_) <;> ((conv => whnf); repeat ((first | refine B0 ?_ | refine B1 ?_ | refine D1 ?_ | refine D2 ?_ | refine CallC.r ?_); conv => whnf))
    · refine ResOK.same ?_
      unfold atName
      rw [firstIx_at h h4 (fun j hj hji => h3 j hj hji), Nat.zero_add]
    · refine Pick.at64 (z := (i + 1 : Nat)) (by simp) (by omega) ?_
      ((conv => whnf); repeat ((first | refine B0 ?_ | refine B1 ?_ | refine D1 ?_ | refine D2 ?_ | refine CallC.r ?_); conv => whnf))
      refine ih (i + 1) ⟨by omega, fun k hk hlt => ?_⟩ (by omega)
      by_cases e : k = i
      · subst e; exact h4
      · exact h3 k hk (by omega)
  · simp at h
    refine ResOK.same ?_
    unfold atName
    rw [firstIx_none fun j hj => h3 j hj (by omega)]

theorem s_l28Form (xs : List Item) (o : Enc.ok xs) : Sat Tryd.prog 63 [(false, Enc.enc xs)] (.one (.c (.bool (okForm xs))), []) := by
  have o1 := o.1
  have o2 := o.2
  have o3 := o.1
  simp only [maxLen] at o1
  have hl : (xs.map (Enc.enc (α := Item))).length = xs.length := by simp
  refine Sat.intro tok mixed Tryd.func63 rfl rfl ?_
  ((conv => whnf); repeat ((first | refine B0 ?_ | refine B1 ?_ | refine D1 ?_ | refine D2 ?_ | refine CallC.r ?_); conv => whnf))
  refine Pick.mk [0, 3] trivial ?_
  ((conv => whnf); repeat ((first | refine B0 ?_ | refine B1 ?_ | refine D1 ?_ | refine D2 ?_ | refine CallC.r ?_); conv => whnf))
  refine LoopL.run (fun i : Nat => St.mk [.one (.c (.slice 4 (xs.map Enc.enc))), .one .dead, .one .dead, .one (.c (.int .i64 i)), .one .dead, .one .dead, .one .dead, .one .dead, .one .dead, .one .dead, .one .dead, .one .dead, .one .dead, .one .dead, .one .dead, .one .dead, .one .dead, .one .dead, .one .dead, .one .dead, .one .dead, .one .dead, .one .dead, .one .dead, .one .dead, .one .dead, .one .dead, .one .dead, .one .dead, .one .dead, .one .dead, .one .dead, .one .dead, .one .dead, .one .dead, .one .dead, .one .dead, .one .dead, .one .dead, .one .dead, .one .dead, .one .dead, .one .dead, .one .dead, .one .dead, .one .dead, .one .dead, .one .dead, .one .dead, .one .dead, .one .dead, .one .dead, .one .dead, .one .dead, .one .dead, .one .dead, .one .dead, .one .dead, .one .dead, .one .dead, .one .dead, .one .dead, .one .dead, .one .dead, .one .dead, .one .dead, .one .dead, .one .dead, .one .dead, .one .dead, .one .dead, .one .dead, .one .dead, .one .dead, .one .dead, .one .dead, .one .dead, .one .dead, .one .dead, .one .dead, .one .dead, .one .dead, .one .dead] []) (fun i => xs.length - i) (fun i => i ≤ xs.length ∧ ∀ (j : Nat) (h : j < xs.length), j < i → ItemOK xs j h) ?_ 0 ⟨Nat.zero_le _, by intros; omega⟩
  intro i ⟨h3, h4⟩ ih
  ((conv => whnf); repeat ((first | refine B0 ?_ | refine B1 ?_ | refine D1 ?_ | refine D2 ?_ | refine CallC.r ?_); conv => whnf))
  refine Br.mk (fun h => ?_) (fun h => ?_) <;> ((conv => whnf); repeat ((first | refine B0 ?_ | refine B1 ?_ | refine D1 ?_ | refine D2 ?_ | refine CallC.r ?_); conv => whnf))
  · simp at h
    have ox : Enc.ok xs[i] := o2 _ (List.getElem_mem h)
    refine Pick.ix h ?_
    ((conv => whnf); repeat ((first | refine B0 ?_ | refine B1 ?_ | refine D1 ?_ | refine D2 ?_ | refine CallC.r ?_); conv => whnf))
    refine Pick.mk _ (s_l01Name xs[i].name ox.1) ?_
    ((conv => whnf); repeat ((first | refine B0 ?_ | refine B1 ?_ | refine D1 ?_ | refine D2 ?_ | refine CallC.r ?_); conv => whnf))
    refine Br.mk (fun h5 => ?_) (fun h5 => ?_) <;> ((conv => whnf); repeat ((first | refine B0 ?_ | refine B1 ?_ | refine D1 ?_ | refine D2 ?_ | refine CallC.r ?_); conv => whnf))
    · exact ResOK.same (by rw [okForm_no h fun q => by have := q.nm; simp [this] at h5])
    have h5 : isName xs[i].name = true := by simpa using h5
    refine Br.mk (fun h6 => ?yes) (fun h6 => ?no) <;> ((conv => whnf); repeat ((first | refine B0 ?_ | refine B1 ?_ | refine D1 ?_ | refine D2 ?_ | refine CallC.r ?_); conv => whnf))
    case' yes =>
      simp at h6
      refine Pick.at64 (z := (i - 1 : Nat)) (by omega) (by omega) ?_
      ((conv => whnf); repeat ((first | refine B0 ?_ | refine B1 ?_ | refine D1 ?_ | refine D2 ?_ | refine CallC.r ?_); conv => whnf))
      refine Pick.ix (i := i - 1) (by omega) ?_
      ((conv => whnf); repeat ((first | refine B0 ?_ | refine B1 ?_ | refine D1 ?_ | refine D2 ?_ | refine CallC.r ?_); conv => whnf))
      refine Br.mk (fun h7 => ?_) (fun h7 => ?_) <;> ((conv => whnf); repeat ((first | refine B0 ?_ | refine B1 ?_ | refine D1 ?_ | refine D2 ?_ | refine CallC.r ?_); conv => whnf))
      · have h7 : (!less (xs[i - 1]'(by omega)).name xs[i].name) = true := h7
        exact ResOK.same (by rw [okForm_no h fun q => by have := q.up (by omega); simp [this] at h7])
      have hup : ∀ (h0 : 0 < i), less (xs[i - 1]'(by omega)).name xs[i].name = true := fun _ => by
        have h7 : (!less (xs[i - 1]'(by omega)).name xs[i].name) = false := h7
        simpa using h7
    case' no =>
      have hup : ∀ (h0 : 0 < i), less (xs[i - 1]'(by omega)).name xs[i].name = true := fun _ => by simp at h6; omega
    all_goals
      refine Pick.mk _ (s_l00In xs[i].made 0 1000000) ?_
      ((conv => whnf); repeat ((first | refine B0 ?_ | refine B1 ?_ | refine D1 ?_ | refine D2 ?_ | refine CallC.r ?_); conv => whnf))
      refine Br.mk (fun h8 => ?_) (fun h8 => ?_) <;> ((conv => whnf); repeat ((first | refine B0 ?_ | refine B1 ?_ | refine D1 ?_ | refine D2 ?_ | refine CallC.r ?_); conv => whnf))
      · exact ResOK.same (by rw [okForm_no h fun q => by have := q.made; simp at h8; omega])
      have h8 : 0 ≤ xs[i].made ∧ xs[i].made ≤ 1000000 := by simpa using h8
      refine Pick.mk _ (s_l00In xs[i].cost 0 1000) ?_
      ((conv => whnf); repeat ((first | refine B0 ?_ | refine B1 ?_ | refine D1 ?_ | refine D2 ?_ | refine CallC.r ?_); conv => whnf))
      refine Br.mk (fun h9 => ?_) (fun h9 => ?_) <;> ((conv => whnf); repeat ((first | refine B0 ?_ | refine B1 ?_ | refine D1 ?_ | refine D2 ?_ | refine CallC.r ?_); conv => whnf))
      · exact ResOK.same (by rw [okForm_no h fun q => by have := q.cost; simp at h9; omega])
      have h9 : 0 ≤ xs[i].cost ∧ xs[i].cost ≤ 1000 := by simpa using h9
      have on1 : xs[i].needs.length ≤ 2 ^ 63 - 1 := ox.2.1.1
      have hl2 : (xs[i].needs.map (Enc.enc (α := ByteArray))).length = xs[i].needs.length := by simp
      refine Pick.mk [0, 3, 4, 5, 1000256] trivial ?_
      ((conv => whnf); repeat ((first | refine B0 ?_ | refine B1 ?_ | refine D1 ?_ | refine D2 ?_ | refine CallC.r ?_); conv => whnf))
      refine LoopL.run (fun k : Nat => St.mk [.one (.c (.slice 4 (xs.map Enc.enc))), .one .dead, .one .dead, .one (.c (.int .i64 i)), .one (.c (.ptr 4 (Enc.enc xs[i]))), .one (.c (.int .i64 k)), .one .dead, .one .dead, .one .dead, .one .dead, .one .dead, .one .dead, .one .dead, .one .dead, .one .dead, .one .dead, .one .dead, .one .dead, .one .dead, .one .dead, .one .dead, .one .dead, .one .dead, .one .dead, .one .dead, .one .dead, .one .dead, .one .dead, .one .dead, .one .dead, .one .dead, .one .dead, .one .dead, .one .dead, .one .dead, .one .dead, .one .dead, .one .dead, .one .dead, .one .dead, .one .dead, .one .dead, .one .dead, .one .dead, .one .dead, .one .dead, .one .dead, .one .dead, .one .dead, .one .dead, .one .dead, .one .dead, .one .dead, .one .dead, .one .dead, .one .dead, .one .dead, .one .dead, .one .dead, .one .dead, .one .dead, .one .dead, .one .dead, .one .dead, .one .dead, .one .dead, .one .dead, .one .dead, .one .dead, .one .dead, .one .dead, .one .dead, .one .dead, .one .dead, .one .dead, .one .dead, .one .dead, .one .dead, .one .dead, .one .dead, .one .dead, .one .dead, .one .dead] []) (fun k => xs[i].needs.length - k) (fun k => k ≤ xs[i].needs.length ∧ ∀ (j : Nat) (hj : j < xs[i].needs.length), j < k → 0 ≤ atName Item.name xs xs[i].needs[j] ∧ ∀ (h0 : 0 < j), less (xs[i].needs[j - 1]'(by omega)) xs[i].needs[j] = true) ?_ 0 ⟨Nat.zero_le _, by intros; omega⟩
      intro k ⟨k3, k4⟩ ih2
      ((conv => whnf); repeat ((first | refine B0 ?_ | refine B1 ?_ | refine D1 ?_ | refine D2 ?_ | refine CallC.r ?_); conv => whnf))
      refine Br.mk (fun hk => ?_) (fun hk => ?_) <;> ((conv => whnf); repeat ((first | refine B0 ?_ | refine B1 ?_ | refine D1 ?_ | refine D2 ?_ | refine CallC.r ?_); conv => whnf))
      · simp at hk
        refine Pick.ix hk ?_
        ((conv => whnf); repeat ((first | refine B0 ?_ | refine B1 ?_ | refine D1 ?_ | refine D2 ?_ | refine CallC.r ?_); conv => whnf))
        refine Pick.mk _ (s_l28Find xs xs[i].needs[k] o3) ?_
        ((conv => whnf); repeat ((first | refine B0 ?_ | refine B1 ?_ | refine D1 ?_ | refine D2 ?_ | refine CallC.r ?_); conv => whnf))
        refine Br.mk (fun g1 => ?_) (fun g1 => ?_) <;> ((conv => whnf); repeat ((first | refine B0 ?_ | refine B1 ?_ | refine D1 ?_ | refine D2 ?_ | refine CallC.r ?_); conv => whnf))
        · exact ResOK.same (by rw [okForm_no h fun q => by have := (q.need k hk).1; simp at g1; omega])
        simp at g1
        refine Br.mk (fun g2 => ?_) (fun g2 => ?_) <;> ((conv => whnf); repeat ((first | refine B0 ?_ | refine B1 ?_ | refine D1 ?_ | refine D2 ?_ | refine CallC.r ?_); conv => whnf))
        · simp at g2
          refine Pick.at64 (z := (k - 1 : Nat)) (by omega) (by omega) ?_
          ((conv => whnf); repeat ((first | refine B0 ?_ | refine B1 ?_ | refine D1 ?_ | refine D2 ?_ | refine CallC.r ?_); conv => whnf))
          refine Pick.ix (i := k - 1) (by omega) ?_
          ((conv => whnf); repeat ((first | refine B0 ?_ | refine B1 ?_ | refine D1 ?_ | refine D2 ?_ | refine CallC.r ?_); conv => whnf))
          refine Pick.ix hk ?_
          ((conv => whnf); repeat ((first | refine B0 ?_ | refine B1 ?_ | refine D1 ?_ | refine D2 ?_ | refine CallC.r ?_); conv => whnf))
          refine Br.mk (fun g3 => ?_) (fun g3 => ?_) <;> ((conv => whnf); repeat ((first | refine B0 ?_ | refine B1 ?_ | refine D1 ?_ | refine D2 ?_ | refine CallC.r ?_); conv => whnf))
          · have g3 : (!less (xs[i].needs[k - 1]'(by omega)) xs[i].needs[k]) = true := g3
            exact ResOK.same (by rw [okForm_no h fun q => by have := (q.need k hk).2 (by omega); simp [this] at g3])
          have hn : ∀ (h0 : 0 < k), less (xs[i].needs[k - 1]'(by omega)) xs[i].needs[k] = true := fun _ => by
            have g3 : (!less (xs[i].needs[k - 1]'(by omega)) xs[i].needs[k]) = false := g3
            simpa using g3
          refine Pick.at64 (z := (k + 1 : Nat)) (by simp) (by omega) ?_
          ((conv => whnf); repeat ((first | refine B0 ?_ | refine B1 ?_ | refine D1 ?_ | refine D2 ?_ | refine CallC.r ?_); conv => whnf))
          refine ih2 (k + 1) ⟨by omega, fun j hj hlt => ?_⟩ (by omega)
          by_cases e : j = k
          · subst e; exact ⟨g1, hn⟩
          · exact k4 j hj (by omega)
        · have hn : ∀ (h0 : 0 < k), less (xs[i].needs[k - 1]'(by omega)) xs[i].needs[k] = true := fun _ => by simp at g2; omega
          refine Pick.at64 (z := (k + 1 : Nat)) (by simp) (by omega) ?_
          ((conv => whnf); repeat ((first | refine B0 ?_ | refine B1 ?_ | refine D1 ?_ | refine D2 ?_ | refine CallC.r ?_); conv => whnf))
          refine ih2 (k + 1) ⟨by omega, fun j hj hlt => ?_⟩ (by omega)
          by_cases e : j = k
          · subst e; exact ⟨g1, hn⟩
          · exact k4 j hj (by omega)
      · simp at hk
        refine Pick.at64 (z := (i + 1 : Nat)) (by simp) (by omega) ?_
        ((conv => whnf); repeat ((first | refine B0 ?_ | refine B1 ?_ | refine D1 ?_ | refine D2 ?_ | refine CallC.r ?_); conv => whnf))
        refine ih (i + 1) ⟨by omega, fun j hj hlt => ?_⟩ (by omega)
        by_cases e : j = i
        · subst e
          exact ⟨h5, hup, h8, h9, fun k hk => k4 k hk (by omega)⟩
        · exact h4 j hj (by omega)
  · simp at h
    have hi : i = xs.length := by omega
    subst hi
    refine ResOK.same ?_
    have e : okForm xs = decide (((xs.map (Enc.enc (α := Item))).length : Int) ≤ 16) := by
      rw [Bool.eq_iff_iff, okForm_iff, decide_eq_true_iff, hl]
      exact ⟨fun q => by omega, fun q => ⟨by omega, fun j hj => h4 j hj hj⟩⟩
    rw [e]

/-! ### the order of making -/
def readyN (os : List ByteArray) (x : Item) : Bool := !(os.any fun o => x.name.toList == o.toList) && !(x.needs.any fun n => !(os.any fun o => n.toList == o.toList))
def runN (xs : List Item) : Nat → List ByteArray → List ByteArray
  | 0, os => os
  | k + 1, os => match xs.find? (readyN os) with
    | some x => runN xs k (os ++ [x.name])
    | none => os
def ordN (xs : List Item) : List ByteArray := runN xs xs.length []

theorem s_makeOrder11 (os : List ByteArray) (ho : os.length ≤ maxLen) (n : ByteArray) : Sat Tryd.prog 89 ((false, Enc.enc n) :: [CV.ptr 1 [.slice 1 (os.map Enc.enc)]].map fun y => (false, [y])) (.one (.c (.bool (!(os.any fun o => n.toList == o.toList)))), []) := by
  refine Sat.intro tok mixed Tryd.func89 rfl rfl ?_
  ((conv => whnf); repeat ((first | refine B0 ?_ | refine B1 ?_ | refine D1 ?_ | refine D2 ?_ | refine CallC.r ?_); conv => whnf))
  refine Pick.mk _ (s_ContainsString os n ho) ?_
  ((conv => whnf); repeat ((first | refine B0 ?_ | refine B1 ?_ | refine D1 ?_ | refine D2 ?_ | refine CallC.r ?_); conv => whnf))
  exact ResOK.same rfl

theorem s_makeOrder1 (os : List ByteArray) (ho : os.length ≤ maxLen) (x : Item) (hx : x.needs.length ≤ maxLen) : Sat Tryd.prog 88 ((true, Enc.enc x) :: [CV.ptr 1 [.slice 1 (os.map Enc.enc)]].map fun y => (false, [y])) (.one (.c (.bool (readyN os x))), []) := by
  refine Sat.intro tok mixed Tryd.func88 rfl rfl ?_
  ((conv => whnf); repeat ((first | refine B0 ?_ | refine B1 ?_ | refine D1 ?_ | refine D2 ?_ | refine CallC.r ?_); conv => whnf))
  refine Pick.mk _ (s_ContainsString os x.name ho) ?_
  ((conv => whnf); repeat ((first | refine B0 ?_ | refine B1 ?_ | refine D1 ?_ | refine D2 ?_ | refine CallC.r ?_); conv => whnf))
  refine Br.mk (fun h => ?_) (fun h => ?_) <;> ((conv => whnf); repeat ((first | refine B0 ?_ | refine B1 ?_ | refine D1 ?_ | refine D2 ?_ | refine CallC.r ?_); conv => whnf))
  · refine Pick.mk _ (s_ContainsFuncString x.needs 89 [CV.ptr 1 [.slice 1 (os.map Enc.enc)]] (fun n => !(os.any fun o => n.toList == o.toList)) hx fun n _ => s_makeOrder11 os ho n) ?_
    ((conv => whnf); repeat ((first | refine B0 ?_ | refine B1 ?_ | refine D1 ?_ | refine D2 ?_ | refine CallC.r ?_); conv => whnf))
    exact ResOK.same (by simp only [readyN, h, Bool.true_and])
  · exact ResOK.same (by simp only [readyN, h, Bool.false_and])

theorem s_makeOrder (xs : List Item) (o : Enc.ok xs) (hb : xs.length ≤ 1048576) : Sat Tryd.prog 70 [(false, Enc.enc xs)] (.one (.ds 0), [(0, .deep true 1 ((ordN xs).map Enc.enc))]) := by
  have o2 := o.2
  have hl : (xs.map (Enc.enc (α := Item))).length = xs.length := by simp
  refine Sat.intro tok mixed Tryd.func70 rfl rfl ?_
  ((conv => whnf); repeat ((first | refine B0 ?_ | refine B1 ?_ | refine D1 ?_ | refine D2 ?_ | refine CallC.r ?_); conv => whnf))
  refine Pick.mk [0, 3, 5, 6, 7] trivial ?_
  ((conv => whnf); repeat ((first | refine B0 ?_ | refine B1 ?_ | refine D1 ?_ | refine D2 ?_ | refine CallC.r ?_); conv => whnf))
  refine LoopL.run (fun p : Nat × List ByteArray => St.mk [.one (.c (.slice 4 (xs.map Enc.enc))), .one .dead, .one .dead, .one (.pb 192 0 1), .one .dead, .one (.c (.slice 4 (xs.map Enc.enc))), .one (.c (.int .i64 (xs.map (Enc.enc (α := Item))).length)), .one (.c (.int .i64 p.1)), .one .dead, .one .dead, .one .dead, .one .dead, .one .dead, .one .dead, .one .dead, .one .dead, .one .dead, .one .dead, .one .dead, .one .dead, .one .dead, .one .dead, .one .dead, .one .dead] [(192, .box [.rs 224]), (224, .arr 1 (p.2.map Enc.enc))]) (fun p => xs.length - p.1) (fun p => p.1 ≤ xs.length ∧ runN xs (xs.length - p.1) p.2 = ordN xs ∧ p.2.length ≤ p.1) ?_ (0, []) ⟨Nat.zero_le _, rfl, Nat.le_refl _⟩
  intro ⟨i, os⟩ ⟨h2, h3, h4⟩ ih
  simp only at h2 h3 h4
  have ho : os.length ≤ maxLen := by simp only [maxLen]; omega
  have fin : flatRows ((ordN xs).map Enc.enc) := fun r hr c hc => by
    obtain ⟨x, _, rfl⟩ := List.mem_map.1 hr
    have : c = .str x := by simpa [Enc.enc] using hc
    subst this; rfl
  ((conv => whnf); repeat ((first | refine B0 ?_ | refine B1 ?_ | refine D1 ?_ | refine D2 ?_ | refine CallC.r ?_); conv => whnf))
  refine Br.mk (fun h => ?_) (fun h => ?_) <;> ((conv => whnf); repeat ((first | refine B0 ?_ | refine B1 ?_ | refine D1 ?_ | refine D2 ?_ | refine CallC.r ?_); conv => whnf))
  · simp at h
    refine Pick.mk true trivial ?_
    ((conv => whnf); repeat ((first | refine B0 ?_ | refine B1 ?_ | refine D1 ?_ | refine D2 ?_ | refine CallC.r ?_); conv => whnf))
    have hs := s_IndexFuncItem xs 88 [CV.ptr 1 [.slice 1 (os.map Enc.enc)]] (readyN os) o.1 fun x hx => s_makeOrder1 os ho x (o2 x hx).2.1.1
    have hu : xs.length - i = (xs.length - (i + 1)) + 1 := by omega
    rw [hu, runN] at h3
    rcases first_cases (readyN os) xs with ⟨e1, e2, _⟩ | ⟨k, hk, e1, e2, _, _⟩
    · rw [e2] at h3
      simp only at h3
      subst h3
      rw [e1] at hs
      refine Pick.mk _ hs ?_
      ((conv => whnf); repeat ((first | refine B0 ?_ | refine B1 ?_ | refine D1 ?_ | refine D2 ?_ | refine CallC.r ?_); conv => whnf))
      exact ResOK.deep rfl ⟨fin, trivial⟩
    · rw [e2] at h3
      simp only at h3
      rw [e1] at hs
      have nxt := ih (i + 1, os ++ [xs[k].name]) ⟨by simp only []; omega, h3, by simp only [List.length_append, List.length_cons, List.length_nil]; omega⟩ (by simp only []; omega)
      simp only [List.map_append] at nxt
      refine Pick.mk _ hs ?_
      ((conv => whnf); repeat ((first | refine B0 ?_ | refine B1 ?_ | refine CallC.r ?_); conv => whnf))
      refine Pick.mk 1000 (Or.inl (Or.inr rfl)) ?_
      ((conv => whnf); repeat ((first | refine B0 ?_ | refine B1 ?_ | refine CallC.r ?_); conv => whnf))
      refine Pick.mk [0, 1, 2] (by kernel_rfl) ?_
      ((conv => whnf); repeat ((first | refine B0 ?_ | refine B1 ?_ | refine CallC.r ?_); conv => whnf))
      refine And.intro ?_ ?_
      · ((conv => whnf); repeat ((first | refine B0 ?_ | refine B1 ?_ | refine CallC.r ?_); conv => whnf))
        refine Pick.mk [1, 2] (by kernel_rfl) ?_
        ((conv => whnf); repeat ((first | refine B0 ?_ | refine B1 ?_ | refine CallC.r ?_); conv => whnf))
        refine And.intro ?_ ?_
        · ((conv => whnf); repeat ((first | refine B0 ?_ | refine B1 ?_ | refine CallC.r ?_); conv => whnf))
          refine Pick.mk [2] (by kernel_rfl) ?_
          ((conv => whnf); repeat ((first | refine B0 ?_ | refine B1 ?_ | refine CallC.r ?_); conv => whnf))
          refine And.intro ?_ trivial
          ((conv => whnf); repeat ((first | refine B0 ?_ | refine B1 ?_ | refine CallC.r ?_); conv => whnf))
          refine Pick.mk [3] (by kernel_rfl) ?_
          ((conv => whnf); repeat ((first | refine B0 ?_ | refine B1 ?_ | refine CallC.r ?_); conv => whnf))
          refine And.intro ?_ trivial
          ((conv => whnf); repeat ((first | refine B0 ?_ | refine B1 ?_ | refine CallC.r ?_); conv => whnf))
          refine Pick.ix hk ?_
          ((conv => whnf); repeat ((first | refine B0 ?_ | refine B1 ?_ | refine CallC.r ?_); conv => whnf))
          refine Pick.mk [4] (by kernel_rfl) ?_
          ((conv => whnf); repeat ((first | refine B0 ?_ | refine B1 ?_ | refine CallC.r ?_); conv => whnf))
          refine And.intro ?_ trivial
          ((conv => whnf); repeat ((first | refine B0 ?_ | refine B1 ?_ | refine CallC.r ?_); conv => whnf))
          refine Pick.mk [5] (by kernel_rfl) ?_
          ((conv => whnf); repeat ((first | refine B0 ?_ | refine B1 ?_ | refine CallC.r ?_); conv => whnf))
          refine And.intro ?_ trivial
          ((conv => whnf); repeat ((first | refine B0 ?_ | refine B1 ?_ | refine CallC.r ?_); conv => whnf))
          refine Pick.mk [6] (by kernel_rfl) ?_
          ((conv => whnf); repeat ((first | refine B0 ?_ | refine B1 ?_ | refine CallC.r ?_); conv => whnf))
          refine And.intro ?_ trivial
          ((conv => whnf); repeat ((first | refine B0 ?_ | refine B1 ?_ | refine CallC.r ?_); conv => whnf))
          refine Pick.mk [7] (by kernel_rfl) ?_
          ((conv => whnf); repeat ((first | refine B0 ?_ | refine B1 ?_ | refine CallC.r ?_); conv => whnf))
          refine And.intro ?_ trivial
          ((conv => whnf); repeat ((first | refine B0 ?_ | refine B1 ?_ | refine CallC.r ?_); conv => whnf))
          refine Side.mk (by simp; omega) ?_
          ((conv => whnf); repeat ((first | refine B0 ?_ | refine B1 ?_ | refine CallC.r ?_); conv => whnf))
          refine Pick.mk [8] (by kernel_rfl) ?_
          ((conv => whnf); repeat ((first | refine B0 ?_ | refine B1 ?_ | refine CallC.r ?_); conv => whnf))
          refine And.intro ?_ trivial
          ((conv => whnf); repeat ((first | refine B0 ?_ | refine B1 ?_ | refine CallC.r ?_); conv => whnf))
          refine And.intro (by kernel_rfl) ?_
          ((conv => whnf); repeat ((first | refine B0 ?_ | refine B1 ?_ | refine CallC.r ?_); conv => whnf))
          refine Pick.at64 (z := (i + 1 : Nat)) (by simp) (by omega) ?_
          ((conv => whnf); repeat ((first | refine B0 ?_ | refine B1 ?_ | refine D1 ?_ | refine D2 ?_ | refine CallC.r ?_); conv => whnf))
          exact nxt
        ((conv => whnf); repeat ((first | refine B0 ?_ | refine B1 ?_ | refine CallC.r ?_); conv => whnf))
        refine And.intro ?_ trivial
        ((conv => whnf); repeat ((first | refine B0 ?_ | refine B1 ?_ | refine CallC.r ?_); conv => whnf))
        refine Pick.mk [1] (by kernel_rfl) ?_
        ((conv => whnf); repeat ((first | refine B0 ?_ | refine B1 ?_ | refine CallC.r ?_); conv => whnf))
        refine And.intro ?_ trivial
        ((conv => whnf); repeat ((first | refine B0 ?_ | refine B1 ?_ | refine CallC.r ?_); conv => whnf))
        refine Pick.mk [3] (by kernel_rfl) ?_
        ((conv => whnf); repeat ((first | refine B0 ?_ | refine B1 ?_ | refine CallC.r ?_); conv => whnf))
        refine And.intro ?_ trivial
        ((conv => whnf); repeat ((first | refine B0 ?_ | refine B1 ?_ | refine CallC.r ?_); conv => whnf))
        refine Pick.ix hk ?_
        ((conv => whnf); repeat ((first | refine B0 ?_ | refine B1 ?_ | refine CallC.r ?_); conv => whnf))
        refine Pick.mk [4] (by kernel_rfl) ?_
        ((conv => whnf); repeat ((first | refine B0 ?_ | refine B1 ?_ | refine CallC.r ?_); conv => whnf))
        refine And.intro ?_ trivial
        ((conv => whnf); repeat ((first | refine B0 ?_ | refine B1 ?_ | refine CallC.r ?_); conv => whnf))
        refine Pick.mk [5] (by kernel_rfl) ?_
        ((conv => whnf); repeat ((first | refine B0 ?_ | refine B1 ?_ | refine CallC.r ?_); conv => whnf))
        refine And.intro ?_ trivial
        ((conv => whnf); repeat ((first | refine B0 ?_ | refine B1 ?_ | refine CallC.r ?_); conv => whnf))
        refine Pick.mk [6] (by kernel_rfl) ?_
        ((conv => whnf); repeat ((first | refine B0 ?_ | refine B1 ?_ | refine CallC.r ?_); conv => whnf))
        refine And.intro ?_ trivial
        ((conv => whnf); repeat ((first | refine B0 ?_ | refine B1 ?_ | refine CallC.r ?_); conv => whnf))
        refine Pick.mk [7] (by kernel_rfl) ?_
        ((conv => whnf); repeat ((first | refine B0 ?_ | refine B1 ?_ | refine CallC.r ?_); conv => whnf))
        refine And.intro ?_ trivial
        ((conv => whnf); repeat ((first | refine B0 ?_ | refine B1 ?_ | refine CallC.r ?_); conv => whnf))
        refine Side.mk (by simp; omega) ?_
        ((conv => whnf); repeat ((first | refine B0 ?_ | refine B1 ?_ | refine CallC.r ?_); conv => whnf))
        refine Pick.mk [8] (by kernel_rfl) ?_
        ((conv => whnf); repeat ((first | refine B0 ?_ | refine B1 ?_ | refine CallC.r ?_); conv => whnf))
        refine And.intro ?_ trivial
        ((conv => whnf); repeat ((first | refine B0 ?_ | refine B1 ?_ | refine CallC.r ?_); conv => whnf))
        refine And.intro (by kernel_rfl) ?_
        ((conv => whnf); repeat ((first | refine B0 ?_ | refine B1 ?_ | refine CallC.r ?_); conv => whnf))
        refine Pick.at64 (z := (i + 1 : Nat)) (by simp) (by omega) ?_
        ((conv => whnf); repeat ((first | refine B0 ?_ | refine B1 ?_ | refine D1 ?_ | refine D2 ?_ | refine CallC.r ?_); conv => whnf))
        exact nxt
      ((conv => whnf); repeat ((first | refine B0 ?_ | refine B1 ?_ | refine CallC.r ?_); conv => whnf))
      refine And.intro ?_ ?_
      · ((conv => whnf); repeat ((first | refine B0 ?_ | refine B1 ?_ | refine CallC.r ?_); conv => whnf))
        refine Pick.mk [0, 2] (by kernel_rfl) ?_
        ((conv => whnf); repeat ((first | refine B0 ?_ | refine B1 ?_ | refine CallC.r ?_); conv => whnf))
        refine And.intro ?_ ?_
        · ((conv => whnf); repeat ((first | refine B0 ?_ | refine B1 ?_ | refine CallC.r ?_); conv => whnf))
          refine Pick.mk [2] (by kernel_rfl) ?_
          ((conv => whnf); repeat ((first | refine B0 ?_ | refine B1 ?_ | refine CallC.r ?_); conv => whnf))
          refine And.intro ?_ trivial
          ((conv => whnf); repeat ((first | refine B0 ?_ | refine B1 ?_ | refine CallC.r ?_); conv => whnf))
          refine Pick.mk [3] (by kernel_rfl) ?_
          ((conv => whnf); repeat ((first | refine B0 ?_ | refine B1 ?_ | refine CallC.r ?_); conv => whnf))
          refine And.intro ?_ trivial
          ((conv => whnf); repeat ((first | refine B0 ?_ | refine B1 ?_ | refine CallC.r ?_); conv => whnf))
          refine Pick.ix hk ?_
          ((conv => whnf); repeat ((first | refine B0 ?_ | refine B1 ?_ | refine CallC.r ?_); conv => whnf))
          refine Pick.mk [4] (by kernel_rfl) ?_
          ((conv => whnf); repeat ((first | refine B0 ?_ | refine B1 ?_ | refine CallC.r ?_); conv => whnf))
          refine And.intro ?_ trivial
          ((conv => whnf); repeat ((first | refine B0 ?_ | refine B1 ?_ | refine CallC.r ?_); conv => whnf))
          refine Pick.mk [5] (by kernel_rfl) ?_
          ((conv => whnf); repeat ((first | refine B0 ?_ | refine B1 ?_ | refine CallC.r ?_); conv => whnf))
          refine And.intro ?_ trivial
          ((conv => whnf); repeat ((first | refine B0 ?_ | refine B1 ?_ | refine CallC.r ?_); conv => whnf))
          refine Pick.mk [6] (by kernel_rfl) ?_
          ((conv => whnf); repeat ((first | refine B0 ?_ | refine B1 ?_ | refine CallC.r ?_); conv => whnf))
          refine And.intro ?_ trivial
          ((conv => whnf); repeat ((first | refine B0 ?_ | refine B1 ?_ | refine CallC.r ?_); conv => whnf))
          refine Pick.mk [7] (by kernel_rfl) ?_
          ((conv => whnf); repeat ((first | refine B0 ?_ | refine B1 ?_ | refine CallC.r ?_); conv => whnf))
          refine And.intro ?_ trivial
          ((conv => whnf); repeat ((first | refine B0 ?_ | refine B1 ?_ | refine CallC.r ?_); conv => whnf))
          refine Side.mk (by simp; omega) ?_
          ((conv => whnf); repeat ((first | refine B0 ?_ | refine B1 ?_ | refine CallC.r ?_); conv => whnf))
          refine Pick.mk [8] (by kernel_rfl) ?_
          ((conv => whnf); repeat ((first | refine B0 ?_ | refine B1 ?_ | refine CallC.r ?_); conv => whnf))
          refine And.intro ?_ trivial
          ((conv => whnf); repeat ((first | refine B0 ?_ | refine B1 ?_ | refine CallC.r ?_); conv => whnf))
          refine And.intro (by kernel_rfl) ?_
          ((conv => whnf); repeat ((first | refine B0 ?_ | refine B1 ?_ | refine CallC.r ?_); conv => whnf))
          refine Pick.at64 (z := (i + 1 : Nat)) (by simp) (by omega) ?_
          ((conv => whnf); repeat ((first | refine B0 ?_ | refine B1 ?_ | refine D1 ?_ | refine D2 ?_ | refine CallC.r ?_); conv => whnf))
          exact nxt
        ((conv => whnf); repeat ((first | refine B0 ?_ | refine B1 ?_ | refine CallC.r ?_); conv => whnf))
        refine And.intro ?_ trivial
        ((conv => whnf); repeat ((first | refine B0 ?_ | refine B1 ?_ | refine CallC.r ?_); conv => whnf))
        refine Pick.mk [0, 3] (by kernel_rfl) ?_
        ((conv => whnf); repeat ((first | refine B0 ?_ | refine B1 ?_ | refine CallC.r ?_); conv => whnf))
        refine And.intro ?_ ?_
        · ((conv => whnf); repeat ((first | refine B0 ?_ | refine B1 ?_ | refine CallC.r ?_); conv => whnf))
          refine Pick.mk [3] (by kernel_rfl) ?_
          ((conv => whnf); repeat ((first | refine B0 ?_ | refine B1 ?_ | refine CallC.r ?_); conv => whnf))
          refine And.intro ?_ trivial
          ((conv => whnf); repeat ((first | refine B0 ?_ | refine B1 ?_ | refine CallC.r ?_); conv => whnf))
          refine Pick.ix hk ?_
          ((conv => whnf); repeat ((first | refine B0 ?_ | refine B1 ?_ | refine CallC.r ?_); conv => whnf))
          refine Pick.mk [4] (by kernel_rfl) ?_
          ((conv => whnf); repeat ((first | refine B0 ?_ | refine B1 ?_ | refine CallC.r ?_); conv => whnf))
          refine And.intro ?_ trivial
          ((conv => whnf); repeat ((first | refine B0 ?_ | refine B1 ?_ | refine CallC.r ?_); conv => whnf))
          refine Pick.mk [5] (by kernel_rfl) ?_
          ((conv => whnf); repeat ((first | refine B0 ?_ | refine B1 ?_ | refine CallC.r ?_); conv => whnf))
          refine And.intro ?_ trivial
          ((conv => whnf); repeat ((first | refine B0 ?_ | refine B1 ?_ | refine CallC.r ?_); conv => whnf))
          refine Pick.mk [6] (by kernel_rfl) ?_
          ((conv => whnf); repeat ((first | refine B0 ?_ | refine B1 ?_ | refine CallC.r ?_); conv => whnf))
          refine And.intro ?_ trivial
          ((conv => whnf); repeat ((first | refine B0 ?_ | refine B1 ?_ | refine CallC.r ?_); conv => whnf))
          refine Pick.mk [7] (by kernel_rfl) ?_
          ((conv => whnf); repeat ((first | refine B0 ?_ | refine B1 ?_ | refine CallC.r ?_); conv => whnf))
          refine And.intro ?_ trivial
          ((conv => whnf); repeat ((first | refine B0 ?_ | refine B1 ?_ | refine CallC.r ?_); conv => whnf))
          refine Side.mk (by simp; omega) ?_
          ((conv => whnf); repeat ((first | refine B0 ?_ | refine B1 ?_ | refine CallC.r ?_); conv => whnf))
          refine Pick.mk [8] (by kernel_rfl) ?_
          ((conv => whnf); repeat ((first | refine B0 ?_ | refine B1 ?_ | refine CallC.r ?_); conv => whnf))
          refine And.intro ?_ trivial
          ((conv => whnf); repeat ((first | refine B0 ?_ | refine B1 ?_ | refine CallC.r ?_); conv => whnf))
          refine And.intro (by kernel_rfl) ?_
          ((conv => whnf); repeat ((first | refine B0 ?_ | refine B1 ?_ | refine CallC.r ?_); conv => whnf))
          refine Pick.at64 (z := (i + 1 : Nat)) (by simp) (by omega) ?_
          ((conv => whnf); repeat ((first | refine B0 ?_ | refine B1 ?_ | refine D1 ?_ | refine D2 ?_ | refine CallC.r ?_); conv => whnf))
          exact nxt
        ((conv => whnf); repeat ((first | refine B0 ?_ | refine B1 ?_ | refine CallC.r ?_); conv => whnf))
        refine And.intro ?_ trivial
        ((conv => whnf); repeat ((first | refine B0 ?_ | refine B1 ?_ | refine CallC.r ?_); conv => whnf))
        refine Pick.ix hk ?_
        ((conv => whnf); repeat ((first | refine B0 ?_ | refine B1 ?_ | refine CallC.r ?_); conv => whnf))
        refine Pick.mk [0, 4] (by kernel_rfl) ?_
        ((conv => whnf); repeat ((first | refine B0 ?_ | refine B1 ?_ | refine CallC.r ?_); conv => whnf))
        refine And.intro ?_ ?_
        · ((conv => whnf); repeat ((first | refine B0 ?_ | refine B1 ?_ | refine CallC.r ?_); conv => whnf))
          refine Pick.mk [4] (by kernel_rfl) ?_
          ((conv => whnf); repeat ((first | refine B0 ?_ | refine B1 ?_ | refine CallC.r ?_); conv => whnf))
          refine And.intro ?_ trivial
          ((conv => whnf); repeat ((first | refine B0 ?_ | refine B1 ?_ | refine CallC.r ?_); conv => whnf))
          refine Pick.mk [5] (by kernel_rfl) ?_
          ((conv => whnf); repeat ((first | refine B0 ?_ | refine B1 ?_ | refine CallC.r ?_); conv => whnf))
          refine And.intro ?_ trivial
          ((conv => whnf); repeat ((first | refine B0 ?_ | refine B1 ?_ | refine CallC.r ?_); conv => whnf))
          refine Pick.mk [6] (by kernel_rfl) ?_
          ((conv => whnf); repeat ((first | refine B0 ?_ | refine B1 ?_ | refine CallC.r ?_); conv => whnf))
          refine And.intro ?_ trivial
          ((conv => whnf); repeat ((first | refine B0 ?_ | refine B1 ?_ | refine CallC.r ?_); conv => whnf))
          refine Pick.mk [7] (by kernel_rfl) ?_
          ((conv => whnf); repeat ((first | refine B0 ?_ | refine B1 ?_ | refine CallC.r ?_); conv => whnf))
          refine And.intro ?_ trivial
          ((conv => whnf); repeat ((first | refine B0 ?_ | refine B1 ?_ | refine CallC.r ?_); conv => whnf))
          refine Side.mk (by simp; omega) ?_
          ((conv => whnf); repeat ((first | refine B0 ?_ | refine B1 ?_ | refine CallC.r ?_); conv => whnf))
          refine Pick.mk [8] (by kernel_rfl) ?_
          ((conv => whnf); repeat ((first | refine B0 ?_ | refine B1 ?_ | refine CallC.r ?_); conv => whnf))
          refine And.intro ?_ trivial
          ((conv => whnf); repeat ((first | refine B0 ?_ | refine B1 ?_ | refine CallC.r ?_); conv => whnf))
          refine And.intro (by kernel_rfl) ?_
          ((conv => whnf); repeat ((first | refine B0 ?_ | refine B1 ?_ | refine CallC.r ?_); conv => whnf))
          refine Pick.at64 (z := (i + 1 : Nat)) (by simp) (by omega) ?_
          ((conv => whnf); repeat ((first | refine B0 ?_ | refine B1 ?_ | refine D1 ?_ | refine D2 ?_ | refine CallC.r ?_); conv => whnf))
          exact nxt
        ((conv => whnf); repeat ((first | refine B0 ?_ | refine B1 ?_ | refine CallC.r ?_); conv => whnf))
        refine And.intro ?_ trivial
        ((conv => whnf); repeat ((first | refine B0 ?_ | refine B1 ?_ | refine CallC.r ?_); conv => whnf))
        refine Pick.mk [0, 5] (by kernel_rfl) ?_
        ((conv => whnf); repeat ((first | refine B0 ?_ | refine B1 ?_ | refine CallC.r ?_); conv => whnf))
        refine And.intro ?_ ?_
        · ((conv => whnf); repeat ((first | refine B0 ?_ | refine B1 ?_ | refine CallC.r ?_); conv => whnf))
          refine Pick.mk [5] (by kernel_rfl) ?_
          ((conv => whnf); repeat ((first | refine B0 ?_ | refine B1 ?_ | refine CallC.r ?_); conv => whnf))
          refine And.intro ?_ trivial
          ((conv => whnf); repeat ((first | refine B0 ?_ | refine B1 ?_ | refine CallC.r ?_); conv => whnf))
          refine Pick.mk [6] (by kernel_rfl) ?_
          ((conv => whnf); repeat ((first | refine B0 ?_ | refine B1 ?_ | refine CallC.r ?_); conv => whnf))
          refine And.intro ?_ trivial
          ((conv => whnf); repeat ((first | refine B0 ?_ | refine B1 ?_ | refine CallC.r ?_); conv => whnf))
          refine Pick.mk [7] (by kernel_rfl) ?_
          ((conv => whnf); repeat ((first | refine B0 ?_ | refine B1 ?_ | refine CallC.r ?_); conv => whnf))
          refine And.intro ?_ trivial
          ((conv => whnf); repeat ((first | refine B0 ?_ | refine B1 ?_ | refine CallC.r ?_); conv => whnf))
          refine Side.mk (by simp; omega) ?_
          ((conv => whnf); repeat ((first | refine B0 ?_ | refine B1 ?_ | refine CallC.r ?_); conv => whnf))
          refine Pick.mk [8] (by kernel_rfl) ?_
          ((conv => whnf); repeat ((first | refine B0 ?_ | refine B1 ?_ | refine CallC.r ?_); conv => whnf))
          refine And.intro ?_ trivial
          ((conv => whnf); repeat ((first | refine B0 ?_ | refine B1 ?_ | refine CallC.r ?_); conv => whnf))
          refine And.intro (by kernel_rfl) ?_
          ((conv => whnf); repeat ((first | refine B0 ?_ | refine B1 ?_ | refine CallC.r ?_); conv => whnf))
          refine Pick.at64 (z := (i + 1 : Nat)) (by simp) (by omega) ?_
          ((conv => whnf); repeat ((first | refine B0 ?_ | refine B1 ?_ | refine D1 ?_ | refine D2 ?_ | refine CallC.r ?_); conv => whnf))
          exact nxt
        ((conv => whnf); repeat ((first | refine B0 ?_ | refine B1 ?_ | refine CallC.r ?_); conv => whnf))
        refine And.intro ?_ trivial
        ((conv => whnf); repeat ((first | refine B0 ?_ | refine B1 ?_ | refine CallC.r ?_); conv => whnf))
        refine Pick.mk [0, 6] (by kernel_rfl) ?_
        ((conv => whnf); repeat ((first | refine B0 ?_ | refine B1 ?_ | refine CallC.r ?_); conv => whnf))
        refine And.intro ?_ ?_
        · ((conv => whnf); repeat ((first | refine B0 ?_ | refine B1 ?_ | refine CallC.r ?_); conv => whnf))
          refine Pick.mk [6] (by kernel_rfl) ?_
          ((conv => whnf); repeat ((first | refine B0 ?_ | refine B1 ?_ | refine CallC.r ?_); conv => whnf))
          refine And.intro ?_ trivial
          ((conv => whnf); repeat ((first | refine B0 ?_ | refine B1 ?_ | refine CallC.r ?_); conv => whnf))
          refine Pick.mk [7] (by kernel_rfl) ?_
          ((conv => whnf); repeat ((first | refine B0 ?_ | refine B1 ?_ | refine CallC.r ?_); conv => whnf))
          refine And.intro ?_ trivial
          ((conv => whnf); repeat ((first | refine B0 ?_ | refine B1 ?_ | refine CallC.r ?_); conv => whnf))
          refine Side.mk (by simp; omega) ?_
          ((conv => whnf); repeat ((first | refine B0 ?_ | refine B1 ?_ | refine CallC.r ?_); conv => whnf))
          refine Pick.mk [8] (by kernel_rfl) ?_
          ((conv => whnf); repeat ((first | refine B0 ?_ | refine B1 ?_ | refine CallC.r ?_); conv => whnf))
          refine And.intro ?_ trivial
          ((conv => whnf); repeat ((first | refine B0 ?_ | refine B1 ?_ | refine CallC.r ?_); conv => whnf))
          refine And.intro (by kernel_rfl) ?_
          ((conv => whnf); repeat ((first | refine B0 ?_ | refine B1 ?_ | refine CallC.r ?_); conv => whnf))
          refine Pick.at64 (z := (i + 1 : Nat)) (by simp) (by omega) ?_
          ((conv => whnf); repeat ((first | refine B0 ?_ | refine B1 ?_ | refine D1 ?_ | refine D2 ?_ | refine CallC.r ?_); conv => whnf))
          exact nxt
        ((conv => whnf); repeat ((first | refine B0 ?_ | refine B1 ?_ | refine CallC.r ?_); conv => whnf))
        refine And.intro ?_ trivial
        ((conv => whnf); repeat ((first | refine B0 ?_ | refine B1 ?_ | refine CallC.r ?_); conv => whnf))
        refine Pick.mk [0] (by kernel_rfl) ?_
        ((conv => whnf); repeat ((first | refine B0 ?_ | refine B1 ?_ | refine CallC.r ?_); conv => whnf))
        refine And.intro ?_ trivial
        ((conv => whnf); repeat ((first | refine B0 ?_ | refine B1 ?_ | refine CallC.r ?_); conv => whnf))
        refine Pick.mk [7] (by kernel_rfl) ?_
        ((conv => whnf); repeat ((first | refine B0 ?_ | refine B1 ?_ | refine CallC.r ?_); conv => whnf))
        refine And.intro ?_ trivial
        ((conv => whnf); repeat ((first | refine B0 ?_ | refine B1 ?_ | refine CallC.r ?_); conv => whnf))
        refine Side.mk (by simp; omega) ?_
        ((conv => whnf); repeat ((first | refine B0 ?_ | refine B1 ?_ | refine CallC.r ?_); conv => whnf))
        refine Pick.mk [8] (by kernel_rfl) ?_
        ((conv => whnf); repeat ((first | refine B0 ?_ | refine B1 ?_ | refine CallC.r ?_); conv => whnf))
        refine And.intro ?_ trivial
        ((conv => whnf); repeat ((first | refine B0 ?_ | refine B1 ?_ | refine CallC.r ?_); conv => whnf))
        refine And.intro (by kernel_rfl) ?_
        ((conv => whnf); repeat ((first | refine B0 ?_ | refine B1 ?_ | refine CallC.r ?_); conv => whnf))
        refine Pick.at64 (z := (i + 1 : Nat)) (by simp) (by omega) ?_
        ((conv => whnf); repeat ((first | refine B0 ?_ | refine B1 ?_ | refine D1 ?_ | refine D2 ?_ | refine CallC.r ?_); conv => whnf))
        exact nxt
      ((conv => whnf); repeat ((first | refine B0 ?_ | refine B1 ?_ | refine CallC.r ?_); conv => whnf))
      refine And.intro ?_ trivial
      ((conv => whnf); repeat ((first | refine B0 ?_ | refine B1 ?_ | refine CallC.r ?_); conv => whnf))
      refine Pick.mk [0, 1] (by kernel_rfl) ?_
      ((conv => whnf); repeat ((first | refine B0 ?_ | refine B1 ?_ | refine CallC.r ?_); conv => whnf))
      refine And.intro ?_ ?_
      · ((conv => whnf); repeat ((first | refine B0 ?_ | refine B1 ?_ | refine CallC.r ?_); conv => whnf))
        refine Pick.mk [1] (by kernel_rfl) ?_
        ((conv => whnf); repeat ((first | refine B0 ?_ | refine B1 ?_ | refine CallC.r ?_); conv => whnf))
        refine And.intro ?_ trivial
        ((conv => whnf); repeat ((first | refine B0 ?_ | refine B1 ?_ | refine CallC.r ?_); conv => whnf))
        refine Pick.mk [3] (by kernel_rfl) ?_
        ((conv => whnf); repeat ((first | refine B0 ?_ | refine B1 ?_ | refine CallC.r ?_); conv => whnf))
        refine And.intro ?_ trivial
        ((conv => whnf); repeat ((first | refine B0 ?_ | refine B1 ?_ | refine CallC.r ?_); conv => whnf))
        refine Pick.ix hk ?_
        ((conv => whnf); repeat ((first | refine B0 ?_ | refine B1 ?_ | refine CallC.r ?_); conv => whnf))
        refine Pick.mk [4] (by kernel_rfl) ?_
        ((conv => whnf); repeat ((first | refine B0 ?_ | refine B1 ?_ | refine CallC.r ?_); conv => whnf))
        refine And.intro ?_ trivial
        ((conv => whnf); repeat ((first | refine B0 ?_ | refine B1 ?_ | refine CallC.r ?_); conv => whnf))
        refine Pick.mk [5] (by kernel_rfl) ?_
        ((conv => whnf); repeat ((first | refine B0 ?_ | refine B1 ?_ | refine CallC.r ?_); conv => whnf))
        refine And.intro ?_ trivial
        ((conv => whnf); repeat ((first | refine B0 ?_ | refine B1 ?_ | refine CallC.r ?_); conv => whnf))
        refine Pick.mk [6] (by kernel_rfl) ?_
        ((conv => whnf); repeat ((first | refine B0 ?_ | refine B1 ?_ | refine CallC.r ?_); conv => whnf))
        refine And.intro ?_ trivial
        ((conv => whnf); repeat ((first | refine B0 ?_ | refine B1 ?_ | refine CallC.r ?_); conv => whnf))
        refine Pick.mk [7] (by kernel_rfl) ?_
        ((conv => whnf); repeat ((first | refine B0 ?_ | refine B1 ?_ | refine CallC.r ?_); conv => whnf))
        refine And.intro ?_ trivial
        ((conv => whnf); repeat ((first | refine B0 ?_ | refine B1 ?_ | refine CallC.r ?_); conv => whnf))
        refine Side.mk (by simp; omega) ?_
        ((conv => whnf); repeat ((first | refine B0 ?_ | refine B1 ?_ | refine CallC.r ?_); conv => whnf))
        refine Pick.mk [8] (by kernel_rfl) ?_
        ((conv => whnf); repeat ((first | refine B0 ?_ | refine B1 ?_ | refine CallC.r ?_); conv => whnf))
        refine And.intro ?_ trivial
        ((conv => whnf); repeat ((first | refine B0 ?_ | refine B1 ?_ | refine CallC.r ?_); conv => whnf))
        refine And.intro (by kernel_rfl) ?_
        ((conv => whnf); repeat ((first | refine B0 ?_ | refine B1 ?_ | refine CallC.r ?_); conv => whnf))
        refine Pick.at64 (z := (i + 1 : Nat)) (by simp) (by omega) ?_
        ((conv => whnf); repeat ((first | refine B0 ?_ | refine B1 ?_ | refine D1 ?_ | refine D2 ?_ | refine CallC.r ?_); conv => whnf))
        exact nxt
      ((conv => whnf); repeat ((first | refine B0 ?_ | refine B1 ?_ | refine CallC.r ?_); conv => whnf))
      refine And.intro ?_ trivial
      ((conv => whnf); repeat ((first | refine B0 ?_ | refine B1 ?_ | refine CallC.r ?_); conv => whnf))
      refine Pick.mk [0, 3] (by kernel_rfl) ?_
      ((conv => whnf); repeat ((first | refine B0 ?_ | refine B1 ?_ | refine CallC.r ?_); conv => whnf))
      refine And.intro ?_ ?_
      · ((conv => whnf); repeat ((first | refine B0 ?_ | refine B1 ?_ | refine CallC.r ?_); conv => whnf))
        refine Pick.mk [3] (by kernel_rfl) ?_
        ((conv => whnf); repeat ((first | refine B0 ?_ | refine B1 ?_ | refine CallC.r ?_); conv => whnf))
        refine And.intro ?_ trivial
        ((conv => whnf); repeat ((first | refine B0 ?_ | refine B1 ?_ | refine CallC.r ?_); conv => whnf))
        refine Pick.ix hk ?_
        ((conv => whnf); repeat ((first | refine B0 ?_ | refine B1 ?_ | refine CallC.r ?_); conv => whnf))
        refine Pick.mk [4] (by kernel_rfl) ?_
        ((conv => whnf); repeat ((first | refine B0 ?_ | refine B1 ?_ | refine CallC.r ?_); conv => whnf))
        refine And.intro ?_ trivial
        ((conv => whnf); repeat ((first | refine B0 ?_ | refine B1 ?_ | refine CallC.r ?_); conv => whnf))
        refine Pick.mk [5] (by kernel_rfl) ?_
        ((conv => whnf); repeat ((first | refine B0 ?_ | refine B1 ?_ | refine CallC.r ?_); conv => whnf))
        refine And.intro ?_ trivial
        ((conv => whnf); repeat ((first | refine B0 ?_ | refine B1 ?_ | refine CallC.r ?_); conv => whnf))
        refine Pick.mk [6] (by kernel_rfl) ?_
        ((conv => whnf); repeat ((first | refine B0 ?_ | refine B1 ?_ | refine CallC.r ?_); conv => whnf))
        refine And.intro ?_ trivial
        ((conv => whnf); repeat ((first | refine B0 ?_ | refine B1 ?_ | refine CallC.r ?_); conv => whnf))
        refine Pick.mk [7] (by kernel_rfl) ?_
        ((conv => whnf); repeat ((first | refine B0 ?_ | refine B1 ?_ | refine CallC.r ?_); conv => whnf))
        refine And.intro ?_ trivial
        ((conv => whnf); repeat ((first | refine B0 ?_ | refine B1 ?_ | refine CallC.r ?_); conv => whnf))
        refine Side.mk (by simp; omega) ?_
        ((conv => whnf); repeat ((first | refine B0 ?_ | refine B1 ?_ | refine CallC.r ?_); conv => whnf))
        refine Pick.mk [8] (by kernel_rfl) ?_
        ((conv => whnf); repeat ((first | refine B0 ?_ | refine B1 ?_ | refine CallC.r ?_); conv => whnf))
        refine And.intro ?_ trivial
        ((conv => whnf); repeat ((first | refine B0 ?_ | refine B1 ?_ | refine CallC.r ?_); conv => whnf))
        refine And.intro (by kernel_rfl) ?_
        ((conv => whnf); repeat ((first | refine B0 ?_ | refine B1 ?_ | refine CallC.r ?_); conv => whnf))
        refine Pick.at64 (z := (i + 1 : Nat)) (by simp) (by omega) ?_
        ((conv => whnf); repeat ((first | refine B0 ?_ | refine B1 ?_ | refine D1 ?_ | refine D2 ?_ | refine CallC.r ?_); conv => whnf))
        exact nxt
      ((conv => whnf); repeat ((first | refine B0 ?_ | refine B1 ?_ | refine CallC.r ?_); conv => whnf))
      refine And.intro ?_ trivial
      ((conv => whnf); repeat ((first | refine B0 ?_ | refine B1 ?_ | refine CallC.r ?_); conv => whnf))
      refine Pick.ix hk ?_
      ((conv => whnf); repeat ((first | refine B0 ?_ | refine B1 ?_ | refine CallC.r ?_); conv => whnf))
      refine Pick.mk [0, 4] (by kernel_rfl) ?_
      ((conv => whnf); repeat ((first | refine B0 ?_ | refine B1 ?_ | refine CallC.r ?_); conv => whnf))
      refine And.intro ?_ ?_
      · ((conv => whnf); repeat ((first | refine B0 ?_ | refine B1 ?_ | refine CallC.r ?_); conv => whnf))
        refine Pick.mk [4] (by kernel_rfl) ?_
        ((conv => whnf); repeat ((first | refine B0 ?_ | refine B1 ?_ | refine CallC.r ?_); conv => whnf))
        refine And.intro ?_ trivial
        ((conv => whnf); repeat ((first | refine B0 ?_ | refine B1 ?_ | refine CallC.r ?_); conv => whnf))
        refine Pick.mk [5] (by kernel_rfl) ?_
        ((conv => whnf); repeat ((first | refine B0 ?_ | refine B1 ?_ | refine CallC.r ?_); conv => whnf))
        refine And.intro ?_ trivial
        ((conv => whnf); repeat ((first | refine B0 ?_ | refine B1 ?_ | refine CallC.r ?_); conv => whnf))
        refine Pick.mk [6] (by kernel_rfl) ?_
        ((conv => whnf); repeat ((first | refine B0 ?_ | refine B1 ?_ | refine CallC.r ?_); conv => whnf))
        refine And.intro ?_ trivial
        ((conv => whnf); repeat ((first | refine B0 ?_ | refine B1 ?_ | refine CallC.r ?_); conv => whnf))
        refine Pick.mk [7] (by kernel_rfl) ?_
        ((conv => whnf); repeat ((first | refine B0 ?_ | refine B1 ?_ | refine CallC.r ?_); conv => whnf))
        refine And.intro ?_ trivial
        ((conv => whnf); repeat ((first | refine B0 ?_ | refine B1 ?_ | refine CallC.r ?_); conv => whnf))
        refine Side.mk (by simp; omega) ?_
        ((conv => whnf); repeat ((first | refine B0 ?_ | refine B1 ?_ | refine CallC.r ?_); conv => whnf))
        refine Pick.mk [8] (by kernel_rfl) ?_
        ((conv => whnf); repeat ((first | refine B0 ?_ | refine B1 ?_ | refine CallC.r ?_); conv => whnf))
        refine And.intro ?_ trivial
        ((conv => whnf); repeat ((first | refine B0 ?_ | refine B1 ?_ | refine CallC.r ?_); conv => whnf))
        refine And.intro (by kernel_rfl) ?_
        ((conv => whnf); repeat ((first | refine B0 ?_ | refine B1 ?_ | refine CallC.r ?_); conv => whnf))
        refine Pick.at64 (z := (i + 1 : Nat)) (by simp) (by omega) ?_
        ((conv => whnf); repeat ((first | refine B0 ?_ | refine B1 ?_ | refine D1 ?_ | refine D2 ?_ | refine CallC.r ?_); conv => whnf))
        exact nxt
      ((conv => whnf); repeat ((first | refine B0 ?_ | refine B1 ?_ | refine CallC.r ?_); conv => whnf))
      refine And.intro ?_ trivial
      ((conv => whnf); repeat ((first | refine B0 ?_ | refine B1 ?_ | refine CallC.r ?_); conv => whnf))
      refine Pick.mk [0, 5] (by kernel_rfl) ?_
      ((conv => whnf); repeat ((first | refine B0 ?_ | refine B1 ?_ | refine CallC.r ?_); conv => whnf))
      refine And.intro ?_ ?_
      · ((conv => whnf); repeat ((first | refine B0 ?_ | refine B1 ?_ | refine CallC.r ?_); conv => whnf))
        refine Pick.mk [5] (by kernel_rfl) ?_
        ((conv => whnf); repeat ((first | refine B0 ?_ | refine B1 ?_ | refine CallC.r ?_); conv => whnf))
        refine And.intro ?_ trivial
        ((conv => whnf); repeat ((first | refine B0 ?_ | refine B1 ?_ | refine CallC.r ?_); conv => whnf))
        refine Pick.mk [6] (by kernel_rfl) ?_
        ((conv => whnf); repeat ((first | refine B0 ?_ | refine B1 ?_ | refine CallC.r ?_); conv => whnf))
        refine And.intro ?_ trivial
        ((conv => whnf); repeat ((first | refine B0 ?_ | refine B1 ?_ | refine CallC.r ?_); conv => whnf))
        refine Pick.mk [7] (by kernel_rfl) ?_
        ((conv => whnf); repeat ((first | refine B0 ?_ | refine B1 ?_ | refine CallC.r ?_); conv => whnf))
        refine And.intro ?_ trivial
        ((conv => whnf); repeat ((first | refine B0 ?_ | refine B1 ?_ | refine CallC.r ?_); conv => whnf))
        refine Side.mk (by simp; omega) ?_
        ((conv => whnf); repeat ((first | refine B0 ?_ | refine B1 ?_ | refine CallC.r ?_); conv => whnf))
        refine Pick.mk [8] (by kernel_rfl) ?_
        ((conv => whnf); repeat ((first | refine B0 ?_ | refine B1 ?_ | refine CallC.r ?_); conv => whnf))
        refine And.intro ?_ trivial
        ((conv => whnf); repeat ((first | refine B0 ?_ | refine B1 ?_ | refine CallC.r ?_); conv => whnf))
        refine And.intro (by kernel_rfl) ?_
        ((conv => whnf); repeat ((first | refine B0 ?_ | refine B1 ?_ | refine CallC.r ?_); conv => whnf))
        refine Pick.at64 (z := (i + 1 : Nat)) (by simp) (by omega) ?_
        ((conv => whnf); repeat ((first | refine B0 ?_ | refine B1 ?_ | refine D1 ?_ | refine D2 ?_ | refine CallC.r ?_); conv => whnf))
        exact nxt
      ((conv => whnf); repeat ((first | refine B0 ?_ | refine B1 ?_ | refine CallC.r ?_); conv => whnf))
      refine And.intro ?_ trivial
      ((conv => whnf); repeat ((first | refine B0 ?_ | refine B1 ?_ | refine CallC.r ?_); conv => whnf))
      refine Pick.mk [0, 6] (by kernel_rfl) ?_
      ((conv => whnf); repeat ((first | refine B0 ?_ | refine B1 ?_ | refine CallC.r ?_); conv => whnf))
      refine And.intro ?_ ?_
      · ((conv => whnf); repeat ((first | refine B0 ?_ | refine B1 ?_ | refine CallC.r ?_); conv => whnf))
        refine Pick.mk [6] (by kernel_rfl) ?_
        ((conv => whnf); repeat ((first | refine B0 ?_ | refine B1 ?_ | refine CallC.r ?_); conv => whnf))
        refine And.intro ?_ trivial
        ((conv => whnf); repeat ((first | refine B0 ?_ | refine B1 ?_ | refine CallC.r ?_); conv => whnf))
        refine Pick.mk [7] (by kernel_rfl) ?_
        ((conv => whnf); repeat ((first | refine B0 ?_ | refine B1 ?_ | refine CallC.r ?_); conv => whnf))
        refine And.intro ?_ trivial
        ((conv => whnf); repeat ((first | refine B0 ?_ | refine B1 ?_ | refine CallC.r ?_); conv => whnf))
        refine Side.mk (by simp; omega) ?_
        ((conv => whnf); repeat ((first | refine B0 ?_ | refine B1 ?_ | refine CallC.r ?_); conv => whnf))
        refine Pick.mk [8] (by kernel_rfl) ?_
        ((conv => whnf); repeat ((first | refine B0 ?_ | refine B1 ?_ | refine CallC.r ?_); conv => whnf))
        refine And.intro ?_ trivial
        ((conv => whnf); repeat ((first | refine B0 ?_ | refine B1 ?_ | refine CallC.r ?_); conv => whnf))
        refine And.intro (by kernel_rfl) ?_
        ((conv => whnf); repeat ((first | refine B0 ?_ | refine B1 ?_ | refine CallC.r ?_); conv => whnf))
        refine Pick.at64 (z := (i + 1 : Nat)) (by simp) (by omega) ?_
        ((conv => whnf); repeat ((first | refine B0 ?_ | refine B1 ?_ | refine D1 ?_ | refine D2 ?_ | refine CallC.r ?_); conv => whnf))
        exact nxt
      ((conv => whnf); repeat ((first | refine B0 ?_ | refine B1 ?_ | refine CallC.r ?_); conv => whnf))
      refine And.intro ?_ trivial
      ((conv => whnf); repeat ((first | refine B0 ?_ | refine B1 ?_ | refine CallC.r ?_); conv => whnf))
      refine Pick.mk [0] (by kernel_rfl) ?_
      ((conv => whnf); repeat ((first | refine B0 ?_ | refine B1 ?_ | refine CallC.r ?_); conv => whnf))
      refine And.intro ?_ trivial
      ((conv => whnf); repeat ((first | refine B0 ?_ | refine B1 ?_ | refine CallC.r ?_); conv => whnf))
      refine Pick.mk [7] (by kernel_rfl) ?_
      ((conv => whnf); repeat ((first | refine B0 ?_ | refine B1 ?_ | refine CallC.r ?_); conv => whnf))
      refine And.intro ?_ trivial
      ((conv => whnf); repeat ((first | refine B0 ?_ | refine B1 ?_ | refine CallC.r ?_); conv => whnf))
      refine Side.mk (by simp; omega) ?_
      ((conv => whnf); repeat ((first | refine B0 ?_ | refine B1 ?_ | refine CallC.r ?_); conv => whnf))
      refine Pick.mk [8] (by kernel_rfl) ?_
      ((conv => whnf); repeat ((first | refine B0 ?_ | refine B1 ?_ | refine CallC.r ?_); conv => whnf))
      refine And.intro ?_ trivial
      ((conv => whnf); repeat ((first | refine B0 ?_ | refine B1 ?_ | refine CallC.r ?_); conv => whnf))
      refine And.intro (by kernel_rfl) ?_
      ((conv => whnf); repeat ((first | refine B0 ?_ | refine B1 ?_ | refine CallC.r ?_); conv => whnf))
      refine Pick.at64 (z := (i + 1 : Nat)) (by simp) (by omega) ?_
      ((conv => whnf); repeat ((first | refine B0 ?_ | refine B1 ?_ | refine D1 ?_ | refine D2 ?_ | refine CallC.r ?_); conv => whnf))
      exact nxt
  · simp at h
    have hi : xs.length - i = 0 := by omega
    rw [hi, runN] at h3
    subst h3
    exact ResOK.deep rfl ⟨fin, trivial⟩

end Go.Proofs.YtjolahiflldepaaDoor.Pi
