/- Columns in common, rows that fit, as the program asks. No statement of the seat is proved here. -/
import Derived.Test.YtnmoeeneofopcaaGreatPiFTab2
namespace Go.Proofs.YtnmoeeneofopcaaGreat.Pi
open Go
set_option maxRecDepth 10000
set_option maxHeartbeats 3200000
set_option linter.unusedVariables false

theorem firstIx_cases {α : Type} (p : α → Bool) (xs : List α) : (firstIx p xs 0 = -1 ∧ ∀ (j : Nat) (h : j < xs.length), p xs[j] = false) ∨ ∃ (k : Nat) (h : k < xs.length), firstIx p xs 0 = k ∧ p xs[k] = true ∧ ∀ (j : Nat) (h : j < xs.length), j < k → p xs[j] = false := by
  by_cases h : ∃ k, ∃ h : k < xs.length, p xs[k] = true
  · obtain ⟨k, hk, hp⟩ := h
    have : ∀ (n k : Nat) (hk : k < xs.length), k < n → p xs[k] = true → ∃ (k : Nat) (h : k < xs.length), p xs[k] = true ∧ ∀ (j : Nat) (h : j < xs.length), j < k → p xs[j] = false := fun n => by
      induction n with
      | zero => intro k hk h; omega
      | succ n ih =>
        intro k hk hlt hp
        by_cases h2 : ∃ j, ∃ h : j < xs.length, j < k ∧ p xs[j] = true
        · obtain ⟨j, hj, h3, h4⟩ := h2
          exact ih j hj (by omega) h4
        · refine ⟨k, hk, hp, fun j hj hlt2 => ?_⟩
          rw [← Bool.not_eq_true]
          exact fun h3 => h2 ⟨j, hj, hlt2, h3⟩
    obtain ⟨m, hm, h1, h2⟩ := this _ k hk (Nat.lt_succ_self _) hp
    exact Or.inr ⟨m, hm, by rw [firstIx_at hm h1 h2, Nat.zero_add], h1, h2⟩
  · have h2 : ∀ (j : Nat) (h : j < xs.length), p xs[j] = false := fun j hj => by
      rw [← Bool.not_eq_true]
      exact fun h3 => h ⟨j, hj, h3⟩
    exact Or.inl ⟨firstIx_none h2, h2⟩

theorem s_project (cs xs ws : List Int) (hb : cs.length ≤ maxLen) (hw : ws.length ≤ 1048576) (hl : cs.length ≤ xs.length) (hin : ∀ c ∈ ws, c ∈ cs) : Sat Tryz.prog 102 [(false, Enc.enc cs), (false, Enc.enc xs), (false, Enc.enc ws)] (.one (.rs 0), [(0, .arr 1 ((ws.map (cellOf cs xs)).map Enc.enc))]) := by
  refine Sat.intro tok mixed Tryz.func102 rfl rfl ?_
  ((conv => whnf); repeat ((first | refine B0 ?_ | refine B1 ?_ | refine D1 ?_ | refine D2 ?_ | refine CallC.r ?_); conv => whnf))
  refine Pick.mk [0, 1, 7, 10, 11, 12] trivial ?_
  ((conv => whnf); repeat ((first | refine B0 ?_ | refine B1 ?_ | refine D1 ?_ | refine D2 ?_ | refine CallC.r ?_); conv => whnf))
  refine LoopL.over (fun (i : Nat) => [(12, .one (.c (.int .i64 ((i : Int)))))]) (fun (i : Nat) => [(448, .arr 1 (List.map Enc.enc ((ws.take i).map (cellOf cs xs))))]) (fun (i : Nat) => ws.length - i) (fun (i : Nat) => i ≤ ws.length) ?_ 0 (Nat.zero_le _)
  intro i g1 ih
  ((conv => whnf); repeat ((first | refine B0 ?_ | refine B1 ?_ | refine D1 ?_ | refine D2 ?_ | refine CallC.r ?_); conv => whnf))
  refine Br.mk (fun h => ?_) (fun h => ?_) <;> ((conv => whnf); repeat ((first | refine B0 ?_ | refine B1 ?_ | refine D1 ?_ | refine D2 ?_ | refine CallC.r ?_); conv => whnf))
  · have h : i < ws.length := by simp only [List.length_map, decide_eq_true_eq] at h; omega
    refine Pick.ix (h) ?_
    ((conv => whnf); repeat ((first | refine B0 ?_ | refine B1 ?_ | refine D1 ?_ | refine D2 ?_ | refine CallC.r ?_); conv => whnf))
    refine Pick.mk _ (s_IndexInt64 cs ws[i] hb) ?_
    ((conv => whnf); repeat ((first | refine B0 ?_ | refine B1 ?_ | refine D1 ?_ | refine D2 ?_ | refine CallC.r ?_); conv => whnf))
    rcases firstIx_cases (fun x => ws[i] == x) cs with ⟨_, a2⟩ | ⟨k, hk, a1, a2, a3⟩
    · exfalso
      obtain ⟨j, hj, e⟩ := List.getElem_of_mem (hin _ (List.getElem_mem h))
      have := a2 j hj
      simp [e] at this
    rw [a1]
    have hc : cellOf cs xs ws[i] = xs[k] := cellOf_first hk (by omega) (by have := a2; simp at this; exact this.symm) (fun j hj hlt => by have := a3 j hj hlt; simp at this; exact fun e => this e.symm)
    refine Pick.ix ((by omega : k < xs.length)) ?_
    ((conv => whnf); repeat ((first | refine B0 ?_ | refine B1 ?_ | refine D1 ?_ | refine D2 ?_ | refine CallC.r ?_); conv => whnf))
    refine Side.mk (by simp only [List.length_map, List.length_take, List.length_cons, List.length_nil]; omega) ?_
    ((conv => whnf); repeat ((first | refine B0 ?_ | refine B1 ?_ | refine D1 ?_ | refine D2 ?_ | refine CallC.r ?_); conv => whnf))
    refine Pick.at64 (z := (i + 1 : Nat)) (by simp) (by omega) ?_
    ((conv => whnf); repeat ((first | refine B0 ?_ | refine B1 ?_ | refine D1 ?_ | refine D2 ?_ | refine CallC.r ?_); conv => whnf))
    have hn := ih (i + 1) (by omega) (by omega)
    rw [List.take_add_one, List.getElem?_eq_getElem h, Option.toList_some, List.map_append, List.map_append, List.map_singleton, hc] at hn
    exact hn
  · have h : i = ws.length := by simp only [List.length_map, decide_eq_false_iff_not] at h; omega
    subst h
    exact ResOK.same (by rw [List.take_length])

/-- Those that are not struck, and how far they stand. -/
def keptTo (p : Int → Bool) (xs : List Int) (j : Nat) : List Int := (xs.take j).filter fun x => !p x
theorem keptTo_le (p : Int → Bool) (xs : List Int) (j : Nat) : (keptTo p xs j).length ≤ j := by
  have := List.length_filter_le (fun x => !p x) (xs.take j)
  simp only [keptTo]; rw [List.length_take] at this; omega
theorem keptTo_succ (p : Int → Bool) {xs : List Int} {j : Nat} (h : j < xs.length) : keptTo p xs (j + 1) = if p xs[j] = true then keptTo p xs j else keptTo p xs j ++ [xs[j]] := by
  simp only [keptTo, List.take_add_one, List.getElem?_eq_getElem h, Option.toList_some, List.filter_append]
  cases hp : p xs[j] <;> simp [List.filter, hp]
theorem s_DeleteFuncInt_none (xs : List Int) (g : Nat) (caps : List CV) (p : Int → Bool) (hb : xs.length ≤ maxLen) (hp : ∀ x ∈ xs, Sat Tryz.prog g ((false, Enc.enc x) :: caps.map fun y => (false, [y])) (.one (.c (.bool (p x))), [])) (hno : xs.any p = false) :
    SatM Tryz.prog 218 [.one (.rs 1000000), .one (.c (.fn g caps))] [(1000000, .arr 1 (xs.map Enc.enc))] (.one (.rs 1000000), [(1000000, .arr 1 (xs.map Enc.enc))]) := by
  refine SatM.intro tok mixed Tryz.func218 rfl rfl ?_
  ((conv => whnf); repeat ((first | refine B0 ?_ | refine B1 ?_ | refine D1 ?_ | refine D2 ?_ | refine CallC.r ?_); conv => whnf))
  refine Pick.mk _ (s_IndexFuncInt64 xs g caps p hb hp) ?_
  ((conv => whnf); repeat ((first | refine B0 ?_ | refine B1 ?_ | refine D1 ?_ | refine D2 ?_ | refine CallC.r ?_); conv => whnf))
  rcases firstIx_cases p xs with ⟨a1, a2⟩ | ⟨k, hk, a1, a2, a3⟩
  · rw [a1]
    refine Br.mk (fun _ => ?_) (fun h => absurd h (by simp))
    ((conv => whnf); repeat ((first | refine B0 ?_ | refine B1 ?_ | refine D1 ?_ | refine D2 ?_ | refine CallC.r ?_); conv => whnf))
  · exfalso
    have : xs.any p = true := List.any_eq_true.2 ⟨_, List.getElem_mem hk, a2⟩
    rw [this] at hno; cases hno
theorem s_DeleteFuncInt (xs : List Int) (g : Nat) (caps : List CV) (p : Int → Bool) (hb : xs.length ≤ 1048576) (hp : ∀ x ∈ xs, Sat Tryz.prog g ((false, Enc.enc x) :: caps.map fun y => (false, [y])) (.one (.c (.bool (p x))), [])) (hyes : xs.any p = true) :
    SatM Tryz.prog 218 [.one (.rs 1000000), .one (.c (.fn g caps))] [(1000000, .arr 1 (xs.map Enc.enc))]
      (.one (.ru 1000000 0 (keptTo p xs xs.length).length), [(1000000, .arr 1 ((keptTo p xs xs.length ++ List.replicate (xs.length - (keptTo p xs xs.length).length) 0).map Enc.enc))]) := by
  refine SatM.intro tok mixed Tryz.func218 rfl rfl ?_
  ((conv => whnf); repeat ((first | refine B0 ?_ | refine B1 ?_ | refine D1 ?_ | refine D2 ?_ | refine CallC.r ?_); conv => whnf))
  refine Pick.mk _ (s_IndexFuncInt64 xs g caps p (by simp only [maxLen]; omega) hp) ?_
  ((conv => whnf); repeat ((first | refine B0 ?_ | refine B1 ?_ | refine D1 ?_ | refine D2 ?_ | refine CallC.r ?_); conv => whnf))
  rcases firstIx_cases p xs with ⟨a1, a2⟩ | ⟨k, hk, a1, a2, a3⟩
  · exfalso
    obtain ⟨x, hx, e⟩ := List.any_eq_true.1 hyes
    obtain ⟨j, hj, rfl⟩ := List.getElem_of_mem hx
    rw [a2 j hj] at e; cases e
  rw [a1]
  refine Br.mk (fun h => absurd h (by simp <;> omega)) (fun _ => ?_)
  ((conv => whnf); repeat ((first | refine B0 ?_ | refine B1 ?_ | refine D1 ?_ | refine D2 ?_ | refine CallC.r ?_); conv => whnf))
  refine Pick.at64 (z := (k + 1 : Nat)) (by simp) (by omega) ?_
  ((conv => whnf); repeat ((first | refine B0 ?_ | refine B1 ?_ | refine D1 ?_ | refine D2 ?_ | refine CallC.r ?_); conv => whnf))
  have ek : keptTo p xs (k + 1) = xs.take k := by
    rw [keptTo_succ p hk, if_pos a2]
    simp only [keptTo]
    rw [List.filter_eq_self]
    intro x hx
    obtain ⟨j, hj, rfl⟩ := List.getElem_of_mem hx
    rw [List.length_take] at hj
    rw [List.getElem_take, a3 j (by omega) (by omega)]; rfl
  refine Pick.mk [0, 1, 5, 6] trivial ?_
  ((conv => whnf); repeat ((first | refine B0 ?_ | refine B1 ?_ | refine D1 ?_ | refine D2 ?_ | refine CallC.r ?_); conv => whnf))
  refine LoopL.over (fun (q : Nat × List Int) => [(5, .one (.c (.int .i64 (((keptTo p xs q.1).length : Int))))), (6, .one (.c (.int .i64 ((q.1 : Int)))))]) (fun (q : Nat × List Int) => [(1000000, .arr 1 (List.map Enc.enc (q.2)))]) (fun (q : Nat × List Int) => xs.length - q.1) (fun (q : Nat × List Int) => q.1 ≤ xs.length ∧ q.2.length = xs.length ∧ q.2.take (keptTo p xs q.1).length = keptTo p xs q.1 ∧ q.2.drop q.1 = xs.drop q.1) ?_ (k + 1, xs) ⟨by simp only []; omega, rfl, by simp only []; rw [ek, List.length_take, Nat.min_eq_left (by omega)], rfl⟩ (by simp only [ek, List.length_take, Nat.min_eq_left (Nat.le_of_lt hk)]; rfl)
  intro ⟨j, ys⟩ ⟨g1, g2, g3, g4⟩ ih
  simp only at g1 g2 g3 g4
  have kle := keptTo_le p xs j
  ((conv => whnf); repeat ((first | refine B0 ?_ | refine B1 ?_ | refine D1 ?_ | refine D2 ?_ | refine CallC.r ?_); conv => whnf))
  refine Br.mk (fun h => ?_) (fun h => ?_) <;> ((conv => whnf); repeat ((first | refine B0 ?_ | refine B1 ?_ | refine D1 ?_ | refine D2 ?_ | refine CallC.r ?_); conv => whnf))
  · have hj : j < xs.length := by simp only [List.length_map, decide_eq_true_eq] at h; omega
    have hjy : j < ys.length := by omega
    have ej : ys[j] = xs[j] := by
      have h1 : (ys.drop j)[0]? = (xs.drop j)[0]? := by rw [g4]
      rw [List.getElem?_drop, List.getElem?_drop, Nat.add_zero, List.getElem?_eq_getElem hjy, List.getElem?_eq_getElem hj] at h1
      exact Option.some.inj h1
    have g4' : ys.drop (j + 1) = xs.drop (j + 1) := by
      have h1 := congrArg (List.drop 1) g4
      rwa [List.drop_drop, List.drop_drop] at h1
    refine Side.mk (by simp only [List.length_map]; omega) ?_
    ((conv => whnf); repeat ((first | refine B0 ?_ | refine B1 ?_ | refine D1 ?_ | refine D2 ?_ | refine CallC.r ?_); conv => whnf))
    refine Pick.mk (Enc.enc ys[j]) (by rw [show (j : Int).toNat = j by omega, List.getElem?_map, List.getElem?_eq_getElem hjy]; rfl) ?_
    ((conv => whnf); repeat ((first | refine B0 ?_ | refine B1 ?_ | refine D1 ?_ | refine D2 ?_ | refine CallC.r ?_); conv => whnf))
    have hpj := hp xs[j] (List.getElem_mem hj)
    rw [← ej] at hpj
    refine Pick.mk _ (hpj) ?_
    ((conv => whnf); repeat ((first | refine B0 ?_ | refine B1 ?_ | refine D1 ?_ | refine D2 ?_ | refine CallC.r ?_); conv => whnf))
    rw [ej]
    refine Br.mk (fun h2 => ?_) (fun h2 => ?_) <;> ((conv => whnf); repeat ((first | refine B0 ?_ | refine B1 ?_ | refine D1 ?_ | refine D2 ?_ | refine CallC.r ?_); conv => whnf))
    · have h2 : p xs[j] = false := by simpa using h2
      have hi : (keptTo p xs j).length < ys.length := by omega
      refine Side.mk (by simp only [List.length_map]; omega) ?_
      ((conv => whnf); repeat ((first | refine B0 ?_ | refine B1 ?_ | refine D1 ?_ | refine D2 ?_ | refine CallC.r ?_); conv => whnf))
      refine Pick.at64 (z := ((keptTo p xs j).length + 1 : Nat)) (by simp) (by omega) ?_
      ((conv => whnf); repeat ((first | refine B0 ?_ | refine B1 ?_ | refine D1 ?_ | refine D2 ?_ | refine CallC.r ?_); conv => whnf))
      refine Pick.at64 (z := (j + 1 : Nat)) (by simp) (by omega) ?_
      ((conv => whnf); repeat ((first | refine B0 ?_ | refine B1 ?_ | refine D1 ?_ | refine D2 ?_ | refine CallC.r ?_); conv => whnf))
      have es := keptTo_succ p hj
      rw [h2] at es
      simp only [Bool.false_eq_true, if_false] at es
      have hn := ih (j + 1, ys.set (keptTo p xs j).length xs[j]) ⟨by simp only []; omega, by simp only [List.length_set]; exact g2, by
        simp only [es, List.length_append, List.length_cons, List.length_nil]
        rw [List.take_add_one, List.getElem?_set, if_pos rfl, if_pos hi, Option.toList_some, List.take_set_of_le (Nat.le_refl _), g3], by
        simp only []
        have h5 : (ys.set (keptTo p xs j).length xs[j]).drop (j + 1) = ys.drop (j + 1) := by rw [List.drop_set_of_lt (by omega)]
        rw [h5]; exact g4'⟩ (by simp only []; omega)
      simp only [es, List.length_append, List.length_cons, List.length_nil, List.map_set] at hn
      exact hn
    · have h2 : p xs[j] = true := by simpa using h2
      refine Pick.at64 (z := (j + 1 : Nat)) (by simp) (by omega) ?_
      ((conv => whnf); repeat ((first | refine B0 ?_ | refine B1 ?_ | refine D1 ?_ | refine D2 ?_ | refine CallC.r ?_); conv => whnf))
      have es := keptTo_succ p hj
      rw [if_pos h2] at es
      have hn := ih (j + 1, ys) ⟨by simp only []; omega, g2, by simp only [es]; exact g3, g4'⟩ (by simp only []; omega)
      simp only [es] at hn
      exact hn
  · have hj : j = xs.length := by simp only [List.length_map, decide_eq_false_iff_not] at h; omega
    subst hj
    have hc : clearRows (ys.map (Enc.enc (α := Int))) (keptTo p xs xs.length).length (xs.length - (keptTo p xs xs.length).length) [.int .i64 0] = (keptTo p xs xs.length ++ List.replicate (xs.length - (keptTo p xs xs.length).length) 0).map Enc.enc := by
      rw [clearRows, ← List.map_take, g3, List.drop_of_length_le (by simp only [List.length_map]; omega), List.append_nil, List.map_append, List.map_replicate]
      rfl
    refine Side.mk (by simp only [List.length_map]; omega) ?_
    ((conv => whnf); repeat ((first | refine B0 ?_ | refine B1 ?_ | refine D1 ?_ | refine D2 ?_ | refine CallC.r ?_); conv => whnf))
    refine Side.mk (by simp only [List.length_map, Int.toNat_natCast, g2, hc, List.length_append, List.length_replicate]; omega) ?_
    ((conv => whnf); repeat ((first | refine B0 ?_ | refine B1 ?_ | refine D1 ?_ | refine D2 ?_ | refine CallC.r ?_); conv => whnf))
    rw [← hc]
    simp only [List.length_map, g2, Int.toNat_natCast, Nat.sub_zero]

theorem s_without1 (b : List Int) (x : Int) (hb : b.length ≤ maxLen) : Sat Tryz.prog 219 ((false, Enc.enc x) :: [CV.ptr 1 (Enc.enc b)].map fun y => (false, [y])) (.one (.c (.bool (b.any fun y => x == y))), []) := by
  refine Sat.intro tok mixed Tryz.func219 rfl rfl ?_
  ((conv => whnf); repeat ((first | refine B0 ?_ | refine B1 ?_ | refine D1 ?_ | refine D2 ?_ | refine CallC.r ?_); conv => whnf))
  refine Pick.mk _ (s_ContainsInt64 b x hb) ?_
  ((conv => whnf); repeat ((first | refine B0 ?_ | refine B1 ?_ | refine D1 ?_ | refine D2 ?_ | refine CallC.r ?_); conv => whnf))
  exact ResOK.same rfl
theorem any_contains (b : List Int) (x : Int) : (b.any fun y => x == y) = b.contains x := by
  rw [Bool.eq_iff_iff, List.any_eq_true, List.contains_iff_mem]
  exact ⟨fun ⟨y, h1, h2⟩ => by rw [beq_iff_eq] at h2; rw [h2]; exact h1, fun h => ⟨x, h, by simp⟩⟩
theorem s_without (a b : List Int) (ha : a.length ≤ 1048576) (hb : b.length ≤ maxLen) : Sat Tryz.prog 117 [(false, Enc.enc a), (false, Enc.enc b)] (.one (.rs 0), [(0, .arr 1 ((a.filter fun x => !b.contains x).map Enc.enc))]) := by
  have hp : ∀ x ∈ a, Sat Tryz.prog 219 ((false, Enc.enc x) :: [CV.ptr 1 (Enc.enc b)].map fun y => (false, [y])) (.one (.c (.bool (b.contains x))), []) := fun x _ => by
    rw [← any_contains]; exact s_without1 b x hb
  refine Sat.intro tok mixed Tryz.func117 rfl rfl ?_
  ((conv => whnf); repeat ((first | refine B0 ?_ | refine B1 ?_ | refine D1 ?_ | refine D2 ?_ | refine CallC.r ?_); conv => whnf))
  refine Pick.mk _ (s_CloneInt a ha) ?_
  ((conv => whnf); repeat ((first | refine B0 ?_ | refine B1 ?_ | refine D1 ?_ | refine D2 ?_); conv => whnf))
  refine CallC.x ?_
  ((conv => whnf); repeat ((first | refine B0 ?_ | refine B1 ?_ | refine D1 ?_ | refine D2 ?_ | refine CallC.r ?_); conv => whnf))
  cases hany : a.any (fun x => b.contains x) with
  | false =>
    refine Pick.mk _ (s_DeleteFuncInt_none a _ _ (fun x => b.contains x) (by simp only [maxLen]; omega) hp hany) ?_
    ((conv => whnf); repeat ((first | refine B0 ?_ | refine B1 ?_ | refine D1 ?_ | refine D2 ?_ | refine CallC.r ?_); conv => whnf))
    refine Side.mk (by rfl) ?_
    ((conv => whnf); repeat ((first | refine B0 ?_ | refine B1 ?_ | refine D1 ?_ | refine D2 ?_ | refine CallC.r ?_); conv => whnf))
    have e : a.filter (fun x => !b.contains x) = a := by
      rw [List.filter_eq_self]
      intro x hx
      cases hc : b.contains x with
      | false => rfl
      | true =>
        have : a.any (fun x => b.contains x) = true := List.any_eq_true.2 ⟨x, hx, hc⟩
        rw [this] at hany; cases hany
    exact ResOK.same (by rw [e])
  | true =>
    refine Pick.mk _ (s_DeleteFuncInt a _ _ (fun x => b.contains x) ha hp hany) ?_
    ((conv => whnf); repeat ((first | refine B0 ?_ | refine B1 ?_ | refine D1 ?_ | refine D2 ?_ | refine CallC.r ?_); conv => whnf))
    have kle := keptTo_le (fun x => b.contains x) a a.length
    refine Side.mk (by simp only [List.length_map, List.length_append, List.length_replicate]; omega) ?_
    ((conv => whnf); repeat ((first | refine B0 ?_ | refine B1 ?_ | refine D1 ?_ | refine D2 ?_); conv => whnf))
    have ek : keptTo (fun x => b.contains x) a a.length = a.filter fun x => !b.contains x := by rw [keptTo, List.take_length]
    refine CallC.x ?_
    ((conv => whnf); repeat ((first | refine B0 ?_ | refine B1 ?_ | refine D1 ?_ | refine D2 ?_ | refine CallC.r ?_); conv => whnf))
    rw [ek]
    exact ResOK.same (by rw [← List.map_take, List.take_left])
theorem common_eq (a b : List Int) : (a.filter fun x => !(a.filter fun x => !b.contains x).contains x) = common a b := by
  refine List.filter_congr fun x hx => ?_
  rw [Bool.eq_iff_iff, Bool.not_eq_true']
  simp only [List.contains_eq_mem, decide_eq_false_iff_not, List.mem_filter, not_and, Bool.not_eq_true', decide_eq_true_eq]
  exact ⟨fun h => Classical.byContradiction fun h2 => h hx (by simpa using h2), fun h _ => by simpa using h⟩
theorem s_commonColumns (a b : Table) (ha : a.columns.length ≤ 1048576) (hb : b.columns.length ≤ maxLen) : Sat Tryz.prog 261 [(true, Enc.enc a), (true, Enc.enc b)] (.one (.c (.slice 1 ((common a.columns b.columns).map Enc.enc))), []) := by
  refine Sat.intro tok mixed Tryz.func261 rfl rfl ?_
  ((conv => whnf); repeat ((first | refine B0 ?_ | refine B1 ?_ | refine D1 ?_ | refine D2 ?_ | refine CallC.r ?_); conv => whnf))
  refine Pick.mk _ (s_without a.columns b.columns ha hb) ?_
  ((conv => whnf); repeat ((first | refine B0 ?_ | refine B1 ?_ | refine D1 ?_ | refine D2 ?_ | refine CallC.r ?_); conv => whnf))
  have hl := List.length_filter_le (fun x => !b.columns.contains x) a.columns
  refine Pick.mk _ (s_without a.columns (a.columns.filter fun x => !b.columns.contains x) ha (by simp only [maxLen]; omega)) ?_
  ((conv => whnf); repeat ((first | refine B0 ?_ | refine B1 ?_ | refine D1 ?_ | refine D2 ?_ | refine CallC.r ?_); conv => whnf))
  exact ResOK.frz (by rw [common_eq]; rfl) rfl
theorem s_fit (a b : Table) (x y : List Int) (ha : a.columns.length ≤ 1048576) (hb : b.columns.length ≤ 1048576) (hx : x.length = a.columns.length) (hy : y.length = b.columns.length) :
    Sat Tryz.prog 309 [(true, Enc.enc a), (true, Enc.enc b), (false, Enc.enc x), (false, Enc.enc y)] (.one (.c (.bool (fitI a.columns b.columns x y))), []) := by
  have hl := List.length_filter_le (fun c => b.columns.contains c) a.columns
  have hin : ∀ c ∈ common a.columns b.columns, c ∈ a.columns ∧ c ∈ b.columns := fun c hc => by
    simp only [common, List.mem_filter, List.contains_eq_mem, decide_eq_true_eq] at hc
    exact hc
  refine Sat.intro tok mixed Tryz.func309 rfl rfl ?_
  ((conv => whnf); repeat ((first | refine B0 ?_ | refine B1 ?_ | refine D1 ?_ | refine D2 ?_ | refine CallC.r ?_); conv => whnf))
  refine Pick.mk _ (s_commonColumns a b ha (by simp only [maxLen]; omega)) ?_
  ((conv => whnf); repeat ((first | refine B0 ?_ | refine B1 ?_ | refine D1 ?_ | refine D2 ?_ | refine CallC.r ?_); conv => whnf))
  refine Pick.mk _ (s_project a.columns x (common a.columns b.columns) (by simp only [maxLen]; omega) (by simp only [common]; omega) (by omega) (fun c hc => (hin c hc).1)) ?_
  ((conv => whnf); repeat ((first | refine B0 ?_ | refine B1 ?_ | refine D1 ?_ | refine D2 ?_ | refine CallC.r ?_); conv => whnf))
  refine Pick.mk _ (s_project b.columns y (common a.columns b.columns) (by simp only [maxLen]; omega) (by simp only [common]; omega) (by omega) (fun c hc => (hin c hc).2)) ?_
  ((conv => whnf); repeat ((first | refine B0 ?_ | refine B1 ?_ | refine D1 ?_ | refine D2 ?_ | refine CallC.r ?_); conv => whnf))
  refine Pick.mk _ (s_EqualInt ((common a.columns b.columns).map (cellOf a.columns x)) ((common a.columns b.columns).map (cellOf b.columns y)) (by simp only [List.length_map, common, maxLen]; omega)) ?_
  ((conv => whnf); repeat ((first | refine B0 ?_ | refine B1 ?_ | refine D1 ?_ | refine D2 ?_ | refine CallC.r ?_); conv => whnf))
  exact ResOK.same (by rw [sameI]; rfl)
end Go.Proofs.YtnmoeeneofopcaaGreat.Pi
