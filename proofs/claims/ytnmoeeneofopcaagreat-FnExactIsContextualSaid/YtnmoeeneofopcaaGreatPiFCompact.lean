/- Rows that stand beside each other, each once: the library's way, in place. No statement of the seat is proved here. -/
import Derived.Test.YtnmoeeneofopcaaGreatPiFBud
namespace Go.Proofs.YtnmoeeneofopcaaGreat.Pi
open Go
set_option maxRecDepth 10000
set_option maxHeartbeats 6400000
set_option linter.unusedVariables false

theorem Pick.roC {α : Type} [Enc α] {xs : List α} {i n : Nat} {K : List CV → Prop} (h : i < xs.length) (e : n = i) (k : K (Enc.enc xs[i])) : Pick (fun row => (xs.map Enc.enc)[n]? = some row) K :=
  ⟨_, by subst e; simp [h], k⟩
theorem not0 {n : Nat} {A B : Prop} (h : n ≠ 0) (k : B) : (match Nat.beq n 0 with | true => A | false => B) := by
  have : Nat.beq n 0 = false := by cases n with | zero => exact absurd rfl h | succ n => rfl
  rw [this]; exact k
def newAt (xs : List (List Int)) (j : Nat) : Bool := decide (j = 0) || !decide (xs.getD j [] = xs.getD (j - 1) [])
/-- The rows below 'n' that are not as the one before. -/
def cptN (xs : List (List Int)) (n : Nat) : List (List Int) := ((List.range n).filter (newAt xs)).map fun j => xs.getD j []
def cptL (xs : List (List Int)) : List (List Int) := cptN xs xs.length
theorem cptN_succ (xs : List (List Int)) (n : Nat) : cptN xs (n + 1) = if newAt xs n = true then cptN xs n ++ [xs.getD n []] else cptN xs n := by
  simp only [cptN, List.range_succ, List.filter_append, List.filter_cons, List.filter_nil]
  cases newAt xs n <;> simp
theorem cptN_len (xs : List (List Int)) (n : Nat) : (cptN xs n).length ≤ n := by
  have := List.length_filter_le (newAt xs) (List.range n)
  rw [List.length_range] at this
  simpa [cptN] using this
theorem cptN_step (xs : List (List Int)) (n : Nat) : (cptN xs (n + 1)).length ≤ (cptN xs n).length + 1 := by
  rw [cptN_succ]; split <;> simp
theorem cptN_more (xs : List (List Int)) (m : Nat) : ∀ d, (cptN xs (m + d)).length ≤ (cptN xs m).length + d
  | 0 => Nat.le_refl _
  | d + 1 => by
    have h1 := cptN_more xs m d
    have h2 := cptN_step xs (m + d)
    rw [show m + (d + 1) = m + d + 1 by omega]
    omega
theorem newAt_iff {xs : List (List Int)} {i : Nat} (h0 : 0 < i) (h : i < xs.length) : newAt xs i = true ↔ xs[i] ≠ xs[i - 1] := by
  have h2 : i - 1 < xs.length := by omega
  simp [newAt, List.getD_eq_getElem?_getD, h, h2]
  omega
/-- All new: nothing is left out. -/
theorem cptN_all {xs : List (List Int)} : ∀ {n : Nat}, n ≤ xs.length → (∀ j, j < n → newAt xs j = true) → cptN xs n = xs.take n
  | 0, _, _ => by simp [cptN]
  | n + 1, hn, h => by
    have h2 : n < xs.length := by omega
    rw [cptN_succ, if_pos (h n (by omega)), cptN_all (by omega) (fun j hj => h j (by omega)), List.take_add_one, List.getElem?_eq_getElem h2]
    simp [List.getD_eq_getElem?_getD, h2]
theorem cpt_new {xs : List (List Int)} (h : (cptL xs).length = xs.length) : ∀ j, j < xs.length → newAt xs j = true := fun j hj => by
  cases hn : newAt xs j with
  | true => rfl
  | false =>
    exfalso
    have h1 : cptN xs (j + 1) = cptN xs j := by rw [cptN_succ, if_neg (by rw [hn]; simp)]
    have h2 := cptN_len xs j
    have h3 := cptN_more xs (j + 1) (xs.length - (j + 1))
    rw [show j + 1 + (xs.length - (j + 1)) = xs.length by omega, h1] at h3
    have : (cptL xs).length = (cptN xs xs.length).length := rfl
    omega
theorem cptL_same {xs : List (List Int)} (h : (cptL xs).length = xs.length) : cptL xs = xs := by
  rw [cptL, cptN_all (Nat.le_refl _) (cpt_new h), List.take_length]

/-- Each is new: the slice comes back. -/
theorem s_CompactSame (xs : List (List Int)) (hb : xs.length ≤ 65536) (hc : ∀ x ∈ xs, x.length ≤ 1048576) (h : (cptL xs).length = xs.length) :
    SatM Tryz.prog 341 [.one (.rs 1000000), .one (.c (.fn 101 []))] [(1000000, .arr 1 (xs.map Enc.enc))] (.one (.rs 1000000), [(1000000, .arr 1 (xs.map Enc.enc))]) := by
  have hnew := cpt_new h
  refine SatM.intro tok mixed Tryz.func341 rfl rfl ?_
  ((conv => whnf); repeat ((first | refine B0 ?_ | refine B1 ?_ | refine D1 ?_ | refine D2 ?_ | refine CallC.r ?_); conv => whnf))
  refine Br.mk (fun h0 => ?_) (fun h0 => ?_) <;> ((conv => whnf); repeat ((first | refine B0 ?_ | refine B1 ?_ | refine D1 ?_ | refine D2 ?_ | refine CallC.r ?_); conv => whnf))
  have h0 : 2 ≤ xs.length := by simp only [List.length_map, decide_eq_false_iff_not] at h0; omega
  refine Pick.mk [0, 1, 5] trivial ?_
  ((conv => whnf); repeat ((first | refine B0 ?_ | refine B1 ?_ | refine D1 ?_ | refine D2 ?_ | refine CallC.r ?_); conv => whnf))
  refine LoopL.over (fun (i : Nat) => [(5, .one (.c (.int .i64 ((i : Int)))))]) (fun (i : Nat) => [(1000000, .arr 1 (List.map Enc.enc (xs)))]) (fun (i : Nat) => xs.length - i) (fun (i : Nat) => 1 ≤ i ∧ i ≤ xs.length) ?_ 1 ⟨Nat.le_refl _, by omega⟩
  intro i ⟨g1, g2⟩ ih
  ((conv => whnf); repeat ((first | refine B0 ?_ | refine B1 ?_ | refine D1 ?_ | refine D2 ?_ | refine CallC.r ?_); conv => whnf))
  refine Br.mk (fun h => ?_) (fun h => ?_) <;> ((conv => whnf); repeat ((first | refine B0 ?_ | refine B1 ?_ | refine D1 ?_ | refine D2 ?_ | refine CallC.r ?_); conv => whnf))
  · have h : i < xs.length := by simp only [List.length_map, decide_eq_true_eq] at h; omega
    refine Side.mk (by simp only [List.length_map]; omega) ?_
    ((conv => whnf); repeat ((first | refine B0 ?_ | refine B1 ?_ | refine D1 ?_ | refine D2 ?_ | refine CallC.r ?_); conv => whnf))
    refine Pick.roC h (by omega) ?_
    ((conv => whnf); repeat ((first | refine B0 ?_ | refine B1 ?_ | refine D1 ?_ | refine D2 ?_ | refine CallC.r ?_); conv => whnf))
    refine Pick.at64 (z := ((i - 1 : Nat) : Int)) (by omega) (by omega) ?_
    ((conv => whnf); repeat ((first | refine B0 ?_ | refine B1 ?_ | refine D1 ?_ | refine D2 ?_ | refine CallC.r ?_); conv => whnf))
    refine Side.mk (by simp only [List.length_map]; omega) ?_
    ((conv => whnf); repeat ((first | refine B0 ?_ | refine B1 ?_ | refine D1 ?_ | refine D2 ?_ | refine CallC.r ?_); conv => whnf))
    refine Pick.roC (show i - 1 < xs.length by omega) (by omega) ?_
    ((conv => whnf); repeat ((first | refine B0 ?_ | refine B1 ?_ | refine D1 ?_ | refine D2 ?_ | refine CallC.r ?_); conv => whnf))
    refine Pick.mk _ (s_EqualInt xs[i] xs[i - 1] (by have := hc _ (List.getElem_mem h); simp only [maxLen]; omega)) ?_
    ((conv => whnf); repeat ((first | refine B0 ?_ | refine B1 ?_ | refine D1 ?_ | refine D2 ?_ | refine CallC.r ?_); conv => whnf))
    have hne : sameBy sameInt xs[i] xs[i - 1] = false := by
      rw [sameI, decide_eq_false_iff_not]
      exact (newAt_iff g1 h).1 (hnew i h)
    rw [hne]
    refine Br.mk (fun h => by cases h) (fun _ => ?_)
    ((conv => whnf); repeat ((first | refine B0 ?_ | refine B1 ?_ | refine D1 ?_ | refine D2 ?_ | refine CallC.r ?_); conv => whnf))
    refine Pick.at64 (z := (i + 1 : Nat)) (by simp) (by omega) ?_
    ((conv => whnf); repeat ((first | refine B0 ?_ | refine B1 ?_ | refine D1 ?_ | refine D2 ?_ | refine CallC.r ?_); conv => whnf))
    exact ih (i + 1) ⟨by omega, by omega⟩ (by omega)

theorem set_here {α β : Type} (f : α → β) (a b : List α) (x : α) (h : 0 < b.length) : ((a ++ b).map f).set a.length (f x) = (a ++ [x] ++ b.drop 1).map f := by
  cases b with
  | nil => cases h
  | cons y b => simp
theorem mid_get {α : Type} {a b : List α} {k m : Nat} (hk : a.length = k) (hm : k ≤ m) : (a ++ b.drop k)[m]? = b[m]? := by
  rw [List.getElem?_append_right (by omega), List.getElem?_drop, hk]
  congr 1; omega
theorem clear_tail {C xs : List (List Int)} (h : C.length ≤ xs.length) : clearRows ((C ++ xs.drop C.length).map (Enc.enc (α := List Int))) ((C.length : Nat) : Int).toNat (((C ++ xs.drop C.length).map (Enc.enc (α := List Int))).length - ((C.length : Nat) : Int).toNat) [CV.slice 1 []] = (C ++ List.replicate (xs.length - C.length) []).map Enc.enc := by
  have h2 : (xs.drop C.length).length = xs.length - C.length := List.length_drop
  rw [clearRows, Int.toNat_natCast, List.map_append, List.map_append, List.take_append_of_le_length (by simp), List.take_of_length_le (by simp), List.length_append, List.length_map, List.length_map, Nat.add_sub_cancel_left, h2, List.map_replicate, List.drop_eq_nil_of_le (by simp), List.append_nil]
  rfl
/-- Some are not new: those that are come first, the others are cleared. -/
theorem s_CompactLess (xs : List (List Int)) (hb : xs.length ≤ 65536) (hc : ∀ x ∈ xs, x.length ≤ 1048576) (h : (cptL xs).length ≠ xs.length) :
    SatM Tryz.prog 341 [.one (.rs 1000000), .one (.c (.fn 101 []))] [(1000000, .arr 1 (xs.map Enc.enc))] (.one (.ru 1000000 0 (cptL xs).length), [(1000000, .arr 1 ((cptL xs ++ List.replicate (xs.length - (cptL xs).length) []).map Enc.enc))]) := by
  refine SatM.intro tok mixed Tryz.func341 rfl rfl ?_
  ((conv => whnf); repeat ((first | refine B0 ?_ | refine B1 ?_ | refine D1 ?_ | refine D2 ?_ | refine CallC.r ?_); conv => whnf))
  refine Br.mk (fun h0 => ?_) (fun h0 => ?_)
  · have h0 : xs.length < 2 := by simp only [List.length_map, decide_eq_true_eq] at h0; omega
    exfalso
    refine h ?_
    match xs, h0 with
    | [], _ => rfl
    | [x], _ => rfl
  ((conv => whnf); repeat ((first | refine B0 ?_ | refine B1 ?_ | refine D1 ?_ | refine D2 ?_ | refine CallC.r ?_); conv => whnf))
  have h0 : 2 ≤ xs.length := by simp only [List.length_map, decide_eq_false_iff_not] at h0; omega
  refine Pick.mk [0, 1, 5] trivial ?_
  ((conv => whnf); repeat ((first | refine B0 ?_ | refine B1 ?_ | refine D1 ?_ | refine D2 ?_ | refine CallC.r ?_); conv => whnf))
  refine LoopL.over (fun (i : Nat) => [(5, .one (.c (.int .i64 ((i : Int)))))]) (fun (i : Nat) => [(1000000, .arr 1 (List.map Enc.enc (xs)))]) (fun (i : Nat) => xs.length - i) (fun (i : Nat) => 1 ≤ i ∧ i ≤ xs.length ∧ ∀ j, j < i → newAt xs j = true) ?_ 1 ⟨Nat.le_refl _, by omega, fun j hj => by rw [show j = 0 by omega]; rfl⟩
  intro k ⟨g1, g2, g3⟩ ih
  ((conv => whnf); repeat ((first | refine B0 ?_ | refine B1 ?_ | refine D1 ?_ | refine D2 ?_ | refine CallC.r ?_); conv => whnf))
  refine Br.mk (fun hk => ?_) (fun hk => ?_) <;> ((conv => whnf); repeat ((first | refine B0 ?_ | refine B1 ?_ | refine D1 ?_ | refine D2 ?_ | refine CallC.r ?_); conv => whnf))
  · have hk : k < xs.length := by simp only [List.length_map, decide_eq_true_eq] at hk; omega
    refine Side.mk (by simp only [List.length_map]; omega) ?_
    ((conv => whnf); repeat ((first | refine B0 ?_ | refine B1 ?_ | refine D1 ?_ | refine D2 ?_ | refine CallC.r ?_); conv => whnf))
    refine Pick.roC hk (by omega) ?_
    ((conv => whnf); repeat ((first | refine B0 ?_ | refine B1 ?_ | refine D1 ?_ | refine D2 ?_ | refine CallC.r ?_); conv => whnf))
    refine Pick.at64 (z := ((k - 1 : Nat) : Int)) (by omega) (by omega) ?_
    ((conv => whnf); repeat ((first | refine B0 ?_ | refine B1 ?_ | refine D1 ?_ | refine D2 ?_ | refine CallC.r ?_); conv => whnf))
    refine Side.mk (by simp only [List.length_map]; omega) ?_
    ((conv => whnf); repeat ((first | refine B0 ?_ | refine B1 ?_ | refine D1 ?_ | refine D2 ?_ | refine CallC.r ?_); conv => whnf))
    refine Pick.roC (show k - 1 < xs.length by omega) (by omega) ?_
    ((conv => whnf); repeat ((first | refine B0 ?_ | refine B1 ?_ | refine D1 ?_ | refine D2 ?_ | refine CallC.r ?_); conv => whnf))
    refine Pick.mk _ (s_EqualInt xs[k] xs[k - 1] (by have := hc _ (List.getElem_mem hk); simp only [maxLen]; omega)) ?_
    ((conv => whnf); repeat ((first | refine B0 ?_ | refine B1 ?_ | refine D1 ?_ | refine D2 ?_ | refine CallC.r ?_); conv => whnf))
    rw [sameI]
    refine Br.mk (fun he => ?_) (fun he => ?_) <;> ((conv => whnf); repeat ((first | refine B0 ?_ | refine B1 ?_ | refine D1 ?_ | refine D2 ?_ | refine CallC.r ?_); conv => whnf))
    · have he : xs[k] = xs[k - 1] := by simpa using he
      have hCk : cptN xs k = xs.take k := cptN_all (by omega) g3
      have hCk1 : cptN xs (k + 1) = xs.take k := by
        rw [cptN_succ, if_neg (fun hn => (newAt_iff g1 hk).1 hn he), hCk]
      refine Side.mk (by simp only [List.length_map]; omega) ?_
      ((conv => whnf); repeat ((first | refine B0 ?_ | refine B1 ?_ | refine D1 ?_ | refine D2 ?_ | refine CallC.r ?_); conv => whnf))
      refine not0 (by omega) ?_
      ((conv => whnf); repeat ((first | refine B0 ?_ | refine B1 ?_ | refine D1 ?_ | refine D2 ?_ | refine CallC.r ?_); conv => whnf))
      refine Pick.mk [0, 1, 5, 6, 7] trivial ?_
      ((conv => whnf); repeat ((first | refine B0 ?_ | refine B1 ?_ | refine D1 ?_ | refine D2 ?_ | refine CallC.r ?_); conv => whnf))
      refine LoopL.over (fun (j : Nat) => [(5, .one (.c (.int .i64 (((cptN xs (k + j)).length : Int))))), (7, .one (.c (.int .i64 ((j : Int)))))]) (fun (j : Nat) => [(1000000, .arr 1 (List.map Enc.enc (cptN xs (k + j) ++ xs.drop (cptN xs (k + j)).length)))]) (fun (j : Nat) => xs.length - k - j) (fun (j : Nat) => 1 ≤ j ∧ k + j ≤ xs.length ∧ (cptN xs (k + j)).length < k + j) ?_ 1 ⟨Nat.le_refl _, by omega, by rw [hCk1, List.length_take]; omega⟩ (by rw [hCk1, List.length_take, Nat.min_eq_left (by omega), List.take_append_drop]; rfl)
      intro j ⟨f1, f2, f3⟩ ih2
      have hyl : (cptN xs (k + j) ++ xs.drop (cptN xs (k + j)).length).length = xs.length := by rw [List.length_append, List.length_drop]; omega
      have e1 : ((k : Nat) : Int).toNat + ((j : Nat) : Int).toNat = k + j := by omega
      ((conv => whnf); repeat ((first | refine B0 ?_ | refine B1 ?_ | refine D1 ?_ | refine D2 ?_ | refine CallC.r ?_); conv => whnf))
      refine Br.mk (fun hj => ?_) (fun hj => ?_) <;> ((conv => whnf); repeat ((first | refine B0 ?_ | refine B1 ?_ | refine D1 ?_ | refine D2 ?_ | refine CallC.r ?_); conv => whnf))
      · have hj : k + j < xs.length := by simp only [List.length_map, decide_eq_true_eq, Int.toNat_natCast] at hj; omega
        have hgm : (cptN xs (k + j) ++ xs.drop (cptN xs (k + j)).length)[k + j]? = xs[k + j]? := mid_get rfl (by omega)
        have hgm1 : (cptN xs (k + j) ++ xs.drop (cptN xs (k + j)).length)[k + j - 1]? = xs[k + j - 1]? := mid_get rfl (by omega)
        refine Side.mk (by simp only [List.length_map, Int.toNat_natCast]; omega) ?_
        ((conv => whnf); repeat ((first | refine B0 ?_ | refine B1 ?_ | refine D1 ?_ | refine D2 ?_ | refine CallC.r ?_); conv => whnf))
        refine Pick.mk (Enc.enc xs[k + j]) (by rw [show (((k : Nat) : Int).toNat + ((j : Nat) : Int).toNat) = k + j by omega, List.getElem?_map, hgm, List.getElem?_eq_getElem hj]; rfl) ?_
        ((conv => whnf); repeat ((first | refine B0 ?_ | refine B1 ?_ | refine D1 ?_ | refine D2 ?_ | refine CallC.r ?_); conv => whnf))
        refine Pick.at64 (z := ((j - 1 : Nat) : Int)) (by omega) (by omega) ?_
        ((conv => whnf); repeat ((first | refine B0 ?_ | refine B1 ?_ | refine D1 ?_ | refine D2 ?_ | refine CallC.r ?_); conv => whnf))
        refine Side.mk (by simp only [List.length_map, Int.toNat_natCast]; omega) ?_
        ((conv => whnf); repeat ((first | refine B0 ?_ | refine B1 ?_ | refine D1 ?_ | refine D2 ?_ | refine CallC.r ?_); conv => whnf))
        refine Pick.mk (Enc.enc xs[k + j - 1]) (by rw [show (((k : Nat) : Int).toNat + ((j - 1 : Nat) : Int).toNat) = k + j - 1 by omega, List.getElem?_map, hgm1, List.getElem?_eq_getElem (by omega)]; rfl) ?_
        ((conv => whnf); repeat ((first | refine B0 ?_ | refine B1 ?_ | refine D1 ?_ | refine D2 ?_ | refine CallC.r ?_); conv => whnf))
        refine Pick.mk _ (s_EqualInt xs[k + j] xs[k + j - 1] (by have := hc _ (List.getElem_mem hj); simp only [maxLen]; omega)) ?_
        ((conv => whnf); repeat ((first | refine B0 ?_ | refine B1 ?_ | refine D1 ?_ | refine D2 ?_ | refine CallC.r ?_); conv => whnf))
        rw [sameI]
        refine Br.mk (fun hn => ?_) (fun hn => ?_) <;> ((conv => whnf); repeat ((first | refine B0 ?_ | refine B1 ?_ | refine D1 ?_ | refine D2 ?_ | refine CallC.r ?_); conv => whnf))
        · have hn : newAt xs (k + j) = true := (newAt_iff (by omega) hj).2 (by simpa using hn)
          have es : cptN xs (k + j + 1) = cptN xs (k + j) ++ [xs[k + j]] := by
            rw [cptN_succ, if_pos hn]; simp [List.getD_eq_getElem?_getD, hj]
          refine Side.mk (by simp only [List.length_map, Int.toNat_natCast]; omega) ?_
          ((conv => whnf); repeat ((first | refine B0 ?_ | refine B1 ?_ | refine D1 ?_ | refine D2 ?_ | refine CallC.r ?_); conv => whnf))
          refine Pick.mk (Enc.enc xs[k + j]) (by rw [e1, List.getElem?_map, hgm, List.getElem?_eq_getElem hj]; rfl) ?_
          ((conv => whnf); repeat ((first | refine B0 ?_ | refine B1 ?_ | refine D1 ?_ | refine D2 ?_ | refine CallC.r ?_); conv => whnf))
          refine Side.mk (by simp only [List.length_map]; omega) ?_
          ((conv => whnf); repeat ((first | refine B0 ?_ | refine B1 ?_ | refine D1 ?_ | refine D2 ?_ | refine CallC.r ?_); conv => whnf))
          refine Pick.at64 (z := (((cptN xs (k + j)).length + 1 : Nat) : Int)) (by omega) (by omega) ?_
          ((conv => whnf); repeat ((first | refine B0 ?_ | refine B1 ?_ | refine D1 ?_ | refine D2 ?_ | refine CallC.r ?_); conv => whnf))
          refine Pick.at64 (z := (j + 1 : Nat)) (by simp) (by omega) ?_
          ((conv => whnf); repeat ((first | refine B0 ?_ | refine B1 ?_ | refine D1 ?_ | refine D2 ?_ | refine CallC.r ?_); conv => whnf))
          have hn2 := ih2 (j + 1) ⟨by omega, by omega, by rw [← Nat.add_assoc, es, List.length_append]; simp only [List.length_cons, List.length_nil]; omega⟩ (by omega)
          rw [← Nat.add_assoc, es] at hn2
          have el : (cptN xs (k + j) ++ [xs[k + j]]).length = (cptN xs (k + j)).length + 1 := by simp
          rw [el] at hn2
          have e := set_here (Enc.enc (α := List Int)) (cptN xs (k + j)) (xs.drop (cptN xs (k + j)).length) xs[k + j] (by rw [List.length_drop]; omega)
          rw [List.drop_drop] at e
          refine cast (congrArg (fun r => LoopL _ _ _ ⟨_, [(_, .arr 1 r)]⟩) e.symm) hn2
        · have hn : ¬ newAt xs (k + j) = true := fun h => (newAt_iff (by omega) hj).1 h (by simpa using hn)
          have es : cptN xs (k + j + 1) = cptN xs (k + j) := by rw [cptN_succ, if_neg hn]
          refine Pick.at64 (z := (j + 1 : Nat)) (by simp) (by omega) ?_
          ((conv => whnf); repeat ((first | refine B0 ?_ | refine B1 ?_ | refine D1 ?_ | refine D2 ?_ | refine CallC.r ?_); conv => whnf))
          have hn := ih2 (j + 1) ⟨by omega, by omega, by rw [← Nat.add_assoc, es]; omega⟩ (by omega)
          rw [← Nat.add_assoc, es] at hn
          exact hn
      · have hj : k + j = xs.length := by simp only [List.length_map, decide_eq_false_iff_not, Int.toNat_natCast] at hj; omega
        rw [hj] at hyl f3 ⊢
        have hcl := cptN_len xs xs.length
        refine Side.mk (by simp only [List.length_map]; omega) ?_
        ((conv => whnf); repeat ((first | refine B0 ?_ | refine B1 ?_ | refine D1 ?_ | refine D2 ?_ | refine CallC.r ?_); conv => whnf))
        refine Side.mk (by rw [clear_tail hcl]; simp only [List.length_map, List.length_append, List.length_replicate]; omega) ?_
        ((conv => whnf); repeat ((first | refine B0 ?_ | refine B1 ?_ | refine D1 ?_ | refine D2 ?_ | refine CallC.r ?_); conv => whnf))
        rw [clear_tail hcl, Int.toNat_natCast, Nat.sub_zero]
        rfl
    · have he : xs[k] ≠ xs[k - 1] := by simpa using he
      refine Pick.at64 (z := (k + 1 : Nat)) (by simp) (by omega) ?_
      ((conv => whnf); repeat ((first | refine B0 ?_ | refine B1 ?_ | refine D1 ?_ | refine D2 ?_ | refine CallC.r ?_); conv => whnf))
      exact ih (k + 1) ⟨by omega, by omega, fun j hj => by
        by_cases e : j = k
        · subst e; exact (newAt_iff g1 hk).2 he
        · exact g3 j (by omega)⟩ (by omega)
  · have hk : k = xs.length := by simp only [List.length_map, decide_eq_false_iff_not] at hk; omega
    subst hk
    exact absurd (by rw [cptL, cptN_all (Nat.le_refl _) g3, List.take_length]) h
end Go.Proofs.YtnmoeeneofopcaaGreat.Pi
