/- Sheaves, the reference. No statement of the seat is proved here. -/
import Derived.Test.YtlnjgoeicanehaaGreatPiFShfR
namespace Go.Proofs.YtlnjgoeicanehaaGreat.Pi
open Go
set_option maxRecDepth 10000
set_option maxHeartbeats 25600000
set_option linter.unusedVariables false

theorem s_l09Two (s : Sheaf) (h : okSheaf s = true) (k i j : Nat) (hk : k < s.base.simplices.length) (h3 : 3 ≤ s.base.simplices[k].length) (hi : i < s.base.simplices[k].length) (hj : j < s.base.simplices[k].length) (hij : i ≠ j) :
    Sat Tryz.prog 201 [(false, [.ptr 4 (Enc.enc s)]), (false, [.int .i64 k]), (false, [.int .i64 i]), (false, [.int .i64 j])] (.agg ((Enc.enc (wayAt s k i j)).map .c), []) := by
  have cx : CxOK s.base.simplices := ⟨(okSheaf_of h).1⟩
  have hsm := cx.each _ (List.getElem_mem hk)
  refine Sat.intro tok mixed Tryz.func201 rfl rfl ?_
  ((conv => whnf); repeat ((first | refine B0 ?_ | refine B1 ?_ | refine D1 ?_ | refine D2 ?_ | refine CallC.r ?_); conv => whnf))
  refine Pick.mk _ (s_l05Faces s.base cx k hk) ?_
  ((conv => whnf); repeat ((first | refine B0 ?_ | refine B1 ?_ | refine D1 ?_ | refine D2 ?_ | refine CallC.r ?_); conv => whnf))
  by_cases hlt : i < j
  · obtain ⟨na, ra, ca, da, ea, ia, qa, ma, mb, pa⟩ := way_ok h hk h3 hi (q := j - 1) (by omega)
    have wa : wayAt s k i j = mulM (mapAt s k i) (mapAt s (faceN s k i) (j - 1)) := by unfold wayAt; rw [if_pos hlt]
    rw [wa]
    refine Side.mk (by rw [List.length_map]; omega) ?_
    ((conv => whnf); repeat ((first | refine B0 ?_ | refine B1 ?_ | refine D1 ?_ | refine D2 ?_ | refine CallC.r ?_); conv => whnf))
    refine Pick.mk (Enc.enc ((faceN s k i : Nat) : Int)) (by rw [Int.toNat_natCast]; exact getD_mem ia 0 _ ea) ?_
    ((conv => whnf); repeat ((first | refine B0 ?_ | refine B1 ?_ | refine D1 ?_ | refine D2 ?_ | refine CallC.r ?_); conv => whnf))
    refine Br.mk (fun q1 => ?_) (fun q1 => absurd q1 (by simp; omega))
    ((conv => whnf); repeat ((first | refine B0 ?_ | refine B1 ?_ | refine D1 ?_ | refine D2 ?_ | refine CallC.r ?_); conv => whnf))
    refine Pick.at64 (z := ((j - 1 : Nat) : Int)) (by omega) (by omega) ?_
    ((conv => whnf); repeat ((first | refine B0 ?_ | refine B1 ?_ | refine D1 ?_ | refine D2 ?_ | refine CallC.r ?_); conv => whnf))
    refine Pick.mk _ (s_l09Get s h k i hk ia) ?_
    ((conv => whnf); repeat ((first | refine B0 ?_ | refine B1 ?_ | refine D1 ?_ | refine D2 ?_ | refine CallC.r ?_); conv => whnf))
    refine Pick.mk _ (s_l09Get s h (faceN s k i) (j - 1) na qa) ?_
    ((conv => whnf); repeat ((first | refine B0 ?_ | refine B1 ?_ | refine D1 ?_ | refine D2 ?_ | refine CallC.r ?_); conv => whnf))
    refine Pick.mk _ (s_l03Times (mapAt s k i) (mapAt s (faceN s k i) (j - 1)) ma mb pa) ?_
    ((conv => whnf); repeat ((first | refine B0 ?_ | refine B1 ?_ | refine D1 ?_ | refine D2 ?_ | refine CallC.r ?_); conv => whnf))
    exact ResOK.same rfl
  · obtain ⟨na, ra, ca, da, ea, ia, qa, ma, mb, pa⟩ := way_ok h hk h3 hi (q := j) (by omega)
    have wa : wayAt s k i j = mulM (mapAt s k i) (mapAt s (faceN s k i) j) := by unfold wayAt; rw [if_neg hlt]
    rw [wa]
    refine Side.mk (by rw [List.length_map]; omega) ?_
    ((conv => whnf); repeat ((first | refine B0 ?_ | refine B1 ?_ | refine D1 ?_ | refine D2 ?_ | refine CallC.r ?_); conv => whnf))
    refine Pick.mk (Enc.enc ((faceN s k i : Nat) : Int)) (by rw [Int.toNat_natCast]; exact getD_mem ia 0 _ ea) ?_
    ((conv => whnf); repeat ((first | refine B0 ?_ | refine B1 ?_ | refine D1 ?_ | refine D2 ?_ | refine CallC.r ?_); conv => whnf))
    refine Br.mk (fun q1 => absurd q1 (by simp; omega)) (fun q1 => ?_)
    ((conv => whnf); repeat ((first | refine B0 ?_ | refine B1 ?_ | refine D1 ?_ | refine D2 ?_ | refine CallC.r ?_); conv => whnf))
    refine Pick.mk _ (s_l09Get s h k i hk ia) ?_
    ((conv => whnf); repeat ((first | refine B0 ?_ | refine B1 ?_ | refine D1 ?_ | refine D2 ?_ | refine CallC.r ?_); conv => whnf))
    refine Pick.mk _ (s_l09Get s h (faceN s k i) j na qa) ?_
    ((conv => whnf); repeat ((first | refine B0 ?_ | refine B1 ?_ | refine D1 ?_ | refine D2 ?_ | refine CallC.r ?_); conv => whnf))
    refine Pick.mk _ (s_l03Times (mapAt s k i) (mapAt s (faceN s k i) j) ma mb pa) ?_
    ((conv => whnf); repeat ((first | refine B0 ?_ | refine B1 ?_ | refine D1 ?_ | refine D2 ?_ | refine CallC.r ?_); conv => whnf))
    exact ResOK.same rfl

def resR (s : Sheaf) : Int × Int × Int := match wrong s with
  | none => (-1, 0, 0)
  | some (k, i, j) => ((k : Int), (i : Int), (j : Int))
theorem way_okM {s : Sheaf} (h : okSheaf s = true) {k i j : Nat} (hk : k < s.base.simplices.length) (h3 : 3 ≤ s.base.simplices[k].length) (hi : i < s.base.simplices[k].length) (hj : j < s.base.simplices[k].length) (hij : i < j) : Enc.ok (wayAt s k i j) := by
  obtain ⟨na, ra, ca, da, ea, ia, qa, ma, mb, pa⟩ := way_ok h hk h3 hi (q := j - 1) (by omega)
  have wa : wayAt s k i j = mulM (mapAt s k i) (mapAt s (faceN s k i) (j - 1)) := by unfold wayAt; rw [if_pos hij]
  rw [wa]
  exact (mul_ok ma mb).encok2

theorem s_l09Wrong (s : Sheaf) (h : okSheaf s = true) : Sat Tryz.prog 152 [(false, [.ptr 4 (Enc.enc s)])] (.tup [(false, [.c (.int .i64 (resR s).1)]), (false, [.c (.int .i64 (resR s).2.1)]), (false, [.c (.int .i64 (resR s).2.2)])], []) := by
  have cx : CxOK s.base.simplices := ⟨(okSheaf_of h).1⟩
  have hl48 := cx.len
  refine Sat.intro tok mixed Tryz.func152 rfl rfl ?_
  ((conv => whnf); repeat ((first | refine B0 ?_ | refine B1 ?_ | refine D1 ?_ | refine D2 ?_ | refine CallC.r ?_); conv => whnf))
  refine Pick.mk [0, 5] trivial ?_
  ((conv => whnf); repeat ((first | refine B0 ?_ | refine B1 ?_ | refine D1 ?_ | refine D2 ?_ | refine CallC.r ?_); conv => whnf))
  refine LoopL.over (fun (k : Nat) => [(5, .one (.c (.int .i64 ((k : Int)))))]) (fun (k : Nat) => []) (fun (k : Nat) => s.base.simplices.length - k) (fun (k : Nat) => k ≤ s.base.simplices.length ∧ ∀ k', k' < k → wrK s k' = none) ?_ 0 ⟨Nat.zero_le _, by intros; omega⟩
  intro k ⟨k1, k2⟩ ihk
  ((conv => whnf); repeat ((first | refine B0 ?_ | refine B1 ?_ | refine D1 ?_ | refine D2 ?_ | refine CallC.r ?_); conv => whnf))
  refine Br.mk (fun hk => ?_) (fun hk => ?_) <;> ((conv => whnf); repeat ((first | refine B0 ?_ | refine B1 ?_ | refine D1 ?_ | refine D2 ?_ | refine CallC.r ?_); conv => whnf))
  · have hk : k < s.base.simplices.length := by simp only [List.length_map, decide_eq_true_eq] at hk; omega
    have hln := lenAt_eq hk
    have hsm := cx.each _ (List.getElem_mem hk)
    have hlx : (s.base.simplices[k].map (Enc.enc (α := Int))).length = s.base.simplices[k].length := by simp
    refine Pick.ix (hk) ?_
    ((conv => whnf); repeat ((first | refine B0 ?_ | refine B1 ?_ | refine D1 ?_ | refine D2 ?_ | refine CallC.r ?_); conv => whnf))
    rw [hlx]
    have invK : wrK s k = none → (k + 1 ≤ s.base.simplices.length ∧ ∀ k', k' < k + 1 → wrK s k' = none) := fun e => ⟨by omega, fun k' hk' => by
      by_cases e2 : k' = k
      · subst e2; exact e
      · exact k2 k' (by omega)⟩
    refine Pick.mk [0, 5, 6, 7] trivial ?_
    ((conv => whnf); repeat ((first | refine B0 ?_ | refine B1 ?_ | refine D1 ?_ | refine D2 ?_ | refine CallC.r ?_); conv => whnf))
    refine LoopL.over (fun (i : Nat) => [(7, .one (.c (.int .i64 ((i : Int)))))]) (fun (i : Nat) => []) (fun (i : Nat) => s.base.simplices[k].length - i) (fun (i : Nat) => i ≤ s.base.simplices[k].length ∧ ∀ i', i' < i → wrI s k i' = none) ?_ 0 ⟨Nat.zero_le _, by intros; omega⟩
    intro i ⟨i1, i2⟩ ihi
    ((conv => whnf); repeat ((first | refine B0 ?_ | refine B1 ?_ | refine D1 ?_ | refine D2 ?_ | refine CallC.r ?_); conv => whnf))
    refine Br.mk (fun hi => ?_) (fun hi => ?_) <;> ((conv => whnf); repeat ((first | refine B0 ?_ | refine B1 ?_ | refine D1 ?_ | refine D2 ?_ | refine CallC.r ?_); conv => whnf))
    · have hi : i < s.base.simplices[k].length := by simp only [decide_eq_true_eq] at hi; omega
      refine Br.mk (fun h3 => ?_) (fun h3 => ?_) <;> ((conv => whnf); repeat ((first | refine B0 ?_ | refine B1 ?_ | refine D1 ?_ | refine D2 ?_ | refine CallC.r ?_); conv => whnf))
      · have h3 : 3 ≤ s.base.simplices[k].length := by simp only [decide_eq_true_eq] at h3; omega
        refine Pick.at64 (z := (i + 1 : Nat)) (by simp) (by omega) ?_
        ((conv => whnf); repeat ((first | refine B0 ?_ | refine B1 ?_ | refine D1 ?_ | refine D2 ?_ | refine CallC.r ?_); conv => whnf))
        have invI : wrI s k i = none → (i + 1 ≤ s.base.simplices[k].length ∧ ∀ i', i' < i + 1 → wrI s k i' = none) := fun e => ⟨by omega, fun i' hi' => by
          by_cases e2 : i' = i
          · subst e2; exact e
          · exact i2 i' (by omega)⟩
        refine Pick.mk [0, 5, 6, 7, 8] trivial ?_
        ((conv => whnf); repeat ((first | refine B0 ?_ | refine B1 ?_ | refine D1 ?_ | refine D2 ?_ | refine CallC.r ?_); conv => whnf))
        refine LoopL.over (fun (j : Nat) => [(8, .one (.c (.int .i64 ((j : Int)))))]) (fun (j : Nat) => []) (fun (j : Nat) => s.base.simplices[k].length + 1 - j) (fun (j : Nat) => i + 1 ≤ j ∧ j ≤ s.base.simplices[k].length ∧ ∀ j', j' < j → wrJ s k i j' = none) ?_ (i + 1) ⟨Nat.le_refl _, by omega, fun j' hj' => wrJ_lt (by omega)⟩
        intro j ⟨j0, j1, j2⟩ ihj
        ((conv => whnf); repeat ((first | refine B0 ?_ | refine B1 ?_ | refine D1 ?_ | refine D2 ?_ | refine CallC.r ?_); conv => whnf))
        refine Br.mk (fun hj => ?_) (fun hj => ?_) <;> ((conv => whnf); repeat ((first | refine B0 ?_ | refine B1 ?_ | refine D1 ?_ | refine D2 ?_ | refine CallC.r ?_); conv => whnf))
        · have hj : j < s.base.simplices[k].length := by simp only [decide_eq_true_eq] at hj; omega
          have hwj : wrJ s k i j = if badAt s k i j = true then some (k, i, j) else none := by
            unfold wrJ; rw [hln]
            by_cases e : badAt s k i j = true
            · rw [if_pos ⟨by omega, h3, e⟩, if_pos e]
            · rw [if_neg (fun q => e q.2.2), if_neg e]
          refine Pick.mk _ (s_l09Two s h k i j hk h3 hi hj (by omega)) ?_
          ((conv => whnf); repeat ((first | refine B0 ?_ | refine B1 ?_ | refine D1 ?_ | refine D2 ?_ | refine CallC.r ?_); conv => whnf))
          refine Pick.mk _ (s_l09Two s h k j i hk h3 hj hi (by omega)) ?_
          ((conv => whnf); repeat ((first | refine B0 ?_ | refine B1 ?_ | refine D1 ?_ | refine D2 ?_ | refine CallC.r ?_); conv => whnf))
          refine Pick.mk _ (s_l03Same (wayAt s k i j) (wayAt s k j i) (way_okM h hk h3 hi hj (by omega))) ?_
          ((conv => whnf); repeat ((first | refine B0 ?_ | refine B1 ?_ | refine D1 ?_ | refine D2 ?_ | refine CallC.r ?_); conv => whnf))
          have hbad : badAt s k i j = !sameMatrix (wayAt s k i j) (wayAt s k j i) := rfl
          rw [← hbad]
          refine Br.mk (fun hb => ?_) (fun hb => ?_) <;> ((conv => whnf); repeat ((first | refine B0 ?_ | refine B1 ?_ | refine D1 ?_ | refine D2 ?_ | refine CallC.r ?_); conv => whnf))
          · rw [if_pos hb] at hwj
            have hw : wrong s = some (k, i, j) := fsr_some hk k2 (fsr_some (by rw [hln]; exact hi) i2 (fsr_some (by rw [hln]; exact hj) j2 hwj))
            exact ResOK.same (by rw [resR, hw])
          · rw [if_neg (by rw [hb]; decide)] at hwj
            refine Pick.at64 (z := (j + 1 : Nat)) (by simp) (by omega) ?_
            ((conv => whnf); repeat ((first | refine B0 ?_ | refine B1 ?_ | refine D1 ?_ | refine D2 ?_ | refine CallC.r ?_); conv => whnf))
            refine ihj (j + 1) ⟨by omega, by omega, fun j' hj' => ?_⟩ (by omega)
            by_cases e2 : j' = j
            · subst e2; exact hwj
            · exact j2 j' (by omega)
        · have hj : j = s.base.simplices[k].length := by simp only [decide_eq_false_iff_not] at hj; omega
          subst hj
          refine Pick.at64 (z := (i + 1 : Nat)) (by simp) (by omega) ?_
          ((conv => whnf); repeat ((first | refine B0 ?_ | refine B1 ?_ | refine D1 ?_ | refine D2 ?_ | refine CallC.r ?_); conv => whnf))
          exact ihi (i + 1) (invI (fsr_none fun j' hj' => j2 j' (by rw [hln] at hj'; exact hj'))) (by omega)
      · have h3 : s.base.simplices[k].length < 3 := by simp only [decide_eq_false_iff_not] at h3; omega
        refine Pick.at64 (z := (k + 1 : Nat)) (by simp) (by omega) ?_
        ((conv => whnf); repeat ((first | refine B0 ?_ | refine B1 ?_ | refine D1 ?_ | refine D2 ?_ | refine CallC.r ?_); conv => whnf))
        exact ihk (k + 1) (invK (wrK_lt (by omega))) (by omega)
    · have hi : i = s.base.simplices[k].length := by simp only [decide_eq_false_iff_not] at hi; omega
      subst hi
      refine Pick.at64 (z := (k + 1 : Nat)) (by simp) (by omega) ?_
      ((conv => whnf); repeat ((first | refine B0 ?_ | refine B1 ?_ | refine D1 ?_ | refine D2 ?_ | refine CallC.r ?_); conv => whnf))
      exact ihk (k + 1) (invK (fsr_none fun i' hi' => i2 i' (by rw [hln] at hi'; exact hi'))) (by omega)
  · have hk : k = s.base.simplices.length := by simp only [List.length_map, decide_eq_false_iff_not] at hk; omega
    subst hk
    have hw : wrong s = none := fsr_none k2
    exact ResOK.same (by rw [resR, hw])

theorem s_l09Is (s : Sheaf) (o : Enc.ok s) (hb : s.base.simplices.length ≤ 1048576) (hc : ∀ x ∈ s.base.simplices, x.length ≤ 1048576) (hm : s.maps.length ≤ 1048576) : Sat Tryz.prog 94 [(false, [.ptr 4 (Enc.enc s)])] (.one (.c (.bool (isSheaf s))), []) := by
  refine Sat.intro tok mixed Tryz.func94 rfl rfl ?_
  ((conv => whnf); repeat ((first | refine B0 ?_ | refine B1 ?_ | refine D1 ?_ | refine D2 ?_ | refine CallC.r ?_); conv => whnf))
  refine Pick.mk _ (s_l09Ok s o hb hc hm) ?_
  ((conv => whnf); repeat ((first | refine B0 ?_ | refine B1 ?_ | refine D1 ?_ | refine D2 ?_ | refine CallC.r ?_); conv => whnf))
  refine Br.mk (fun h => ?_) (fun h => ?_) <;> ((conv => whnf); repeat ((first | refine B0 ?_ | refine B1 ?_ | refine D1 ?_ | refine D2 ?_ | refine CallC.r ?_); conv => whnf))
  · exact ResOK.same (by simp only [Bool.not_eq_true'] at h; rw [isSheaf, h, Bool.false_and])
  simp only [Bool.not_eq_false'] at h
  refine Pick.mk _ (s_l09Wrong s h) ?_
  ((conv => whnf); repeat ((first | refine B0 ?_ | refine B1 ?_ | refine D1 ?_ | refine D2 ?_ | refine CallC.r ?_); conv => whnf))
  refine ResOK.same ?_
  have e : isSheaf s = decide ((resR s).1 < 0) := by
    rw [isSheaf, h, Bool.true_and, resR]
    cases wrong s with
    | none => rfl
    | some p =>
      have : ¬ ((p.1 : Nat) : Int) < 0 := by omega
      show false = decide (((p.1 : Nat) : Int) < 0)
      rw [decide_eq_false this]
  rw [e]
end Go.Proofs.YtlnjgoeicanehaaGreat.Pi
