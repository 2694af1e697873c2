/- Products of rows and columns, tables, rows and columns of matrices: the reference and the program. No statement of the seat is proved here. -/
import Derived.Test.YtnmoeeneofopcaaGreatPiMat
import Derived.Test.YtnmoeeneofopcaaGreatPiFMatrix
import Derived.Test.YtnmoeeneofopcaaGreatPiFSameProof
namespace Go.Proofs.YtnmoeeneofopcaaGreat.Pi
open Go
set_option maxRecDepth 10000
set_option maxHeartbeats 1600000
set_option linter.unusedVariables false

theorem s_dot (xs ys : List Int) (p : Int) (hx : El p xs) (hy : El p ys) (hp : 2 ≤ p ∧ p ≤ 251) (hb : xs.length ≤ 1048576) (hl : xs.length ≤ ys.length) : Sat Tryz.prog 247 [(false, Enc.enc xs), (false, Enc.enc ys), (false, [.int .i64 p])] (.one (.c (.int .i64 (dotM p xs ys))), []) := by
  have hlx : (xs.map (Enc.enc (α := Int))).length = xs.length := by simp
  refine Sat.intro tok mixed Tryz.func247 rfl rfl ?_
  ((conv => whnf); repeat ((first | refine B0 ?_ | refine B1 ?_ | refine D1 ?_ | refine D2 ?_ | refine CallC.r ?_); conv => whnf))
  refine Pick.mk [0, 1, 2, 7, 10, 11] trivial ?_
  ((conv => whnf); repeat ((first | refine B0 ?_ | refine B1 ?_ | refine D1 ?_ | refine D2 ?_ | refine CallC.r ?_); conv => whnf))
  refine LoopL.over (fun (k : Nat) => [(7, .one (.c (.int .i64 (sumN (dotT xs ys) k % p)))), (11, .one (.c (.int .i64 ((k : Int)))))]) (fun (k : Nat) => []) (fun (k : Nat) => xs.length - k) (fun (k : Nat) => k ≤ xs.length) ?_ 0 (Nat.zero_le _) (by simp [sumN]; rfl)
  intro k hk ih
  ((conv => whnf); repeat ((first | refine B0 ?_ | refine B1 ?_ | refine D1 ?_ | refine D2 ?_ | refine CallC.r ?_); conv => whnf))
  refine Br.mk (fun h => ?_) (fun h => ?_) <;> ((conv => whnf); repeat ((first | refine B0 ?_ | refine B1 ?_ | refine D1 ?_ | refine D2 ?_ | refine CallC.r ?_); conv => whnf))
  · simp at h
    have hky : k < ys.length := by omega
    have h1 := hx.at k h
    have h2 := hy.at k hky
    have hm := mul_bound (a := xs[k]) (b := ys[k]) (by omega) (by omega)
    have h3 := Int.emod_nonneg (sumN (dotT xs ys) k) (show p ≠ 0 by omega)
    have h4 := Int.emod_lt_of_pos (sumN (dotT xs ys) k) (show 0 < p by omega)
    refine Pick.ix (h) ?_
    ((conv => whnf); repeat ((first | refine B0 ?_ | refine B1 ?_ | refine D1 ?_ | refine D2 ?_ | refine CallC.r ?_); conv => whnf))
    refine Pick.ix (hky) ?_
    ((conv => whnf); repeat ((first | refine B0 ?_ | refine B1 ?_ | refine D1 ?_ | refine D2 ?_ | refine CallC.r ?_); conv => whnf))
    refine Pick.w64 (by omega) ?_
    ((conv => whnf); repeat ((first | refine B0 ?_ | refine B1 ?_ | refine D1 ?_ | refine D2 ?_ | refine CallC.r ?_); conv => whnf))
    refine Pick.w64 (by omega) ?_
    ((conv => whnf); repeat ((first | refine B0 ?_ | refine B1 ?_ | refine D1 ?_ | refine D2 ?_ | refine CallC.r ?_); conv => whnf))
    refine Side.mk (by omega) ?_
    ((conv => whnf); repeat ((first | refine B0 ?_ | refine B1 ?_ | refine D1 ?_ | refine D2 ?_ | refine CallC.r ?_); conv => whnf))
    have e : (sumN (dotT xs ys) k % p + xs[k] * ys[k]).tmod p = sumN (dotT xs ys) (k + 1) % p := by
      rw [Int.tmod_eq_emod_of_nonneg (by omega), dot_step _ _ _ _ (by omega)]
      simp only [sumN, dotT, getD_lt _ _ h, getD_lt _ _ hky]
    rw [e]
    refine Pick.at64 (z := (k + 1 : Nat)) (by simp) (by omega) ?_
    ((conv => whnf); repeat ((first | refine B0 ?_ | refine B1 ?_ | refine D1 ?_ | refine D2 ?_ | refine CallC.r ?_); conv => whnf))
    exact ih (k + 1) (by omega) (by omega)
  · simp at h
    obtain rfl : k = xs.length := by omega
    exact ResOK.same rfl

theorem s_row (m : Matrix) {r c : Nat} (ok : MatOK m r c) (i : Nat) (hi : i < r) : Sat Tryz.prog 248 [(true, Enc.enc m), (false, [.int .i64 i])] (.one (.c (.slice 1 ((rowL m i).map Enc.enc))), []) := by
  obtain ⟨p, rows, columns, cells⟩ := m
  have ok0 := ok
  obtain ⟨hp, hr, hc, hlen, hel, hrb, hcb⟩ := ok
  simp only at hr hc hp hlen hel
  subst hr; subst hc
  have hle : (i + 1) * c ≤ r * c := Nat.mul_le_mul_right _ hi
  have h2 := ok0.rc
  have hs : (i + 1) * c = i * c + c := Nat.succ_mul i c
  have hlc : (cells.map (Enc.enc (α := Int))).length = cells.length := by simp
  refine Sat.intro tok mixed Tryz.func248 rfl rfl ?_
  ((conv => whnf); repeat ((first | refine B0 ?_ | refine B1 ?_ | refine D1 ?_ | refine D2 ?_ | refine CallC.r ?_); conv => whnf))
  ((conv => whnf); repeat ((first | refine B0 ?_ | refine B1 ?_ | refine D1 ?_ | refine D2 ?_ | refine CallC.r ?_); conv => whnf))
  refine Pick.at64 (z := ((i * c : Nat) : Int)) (by push_cast; rfl) (by omega) ?_
  ((conv => whnf); repeat ((first | refine B0 ?_ | refine B1 ?_ | refine D1 ?_ | refine D2 ?_ | refine CallC.r ?_); conv => whnf))
  refine Pick.at64 (z := (i + 1 : Nat)) (by simp) (by omega) ?_
  ((conv => whnf); repeat ((first | refine B0 ?_ | refine B1 ?_ | refine D1 ?_ | refine D2 ?_ | refine CallC.r ?_); conv => whnf))
  refine Pick.at64 (z := (((i + 1) * c : Nat) : Int)) (by push_cast; rfl) (by omega) ?_
  ((conv => whnf); repeat ((first | refine B0 ?_ | refine B1 ?_ | refine D1 ?_ | refine D2 ?_ | refine CallC.r ?_); conv => whnf))
  refine Side.mk (by rw [hlc, hlen]; omega) ?_
  ((conv => whnf); repeat ((first | refine B0 ?_ | refine B1 ?_ | refine D1 ?_ | refine D2 ?_ | refine CallC.r ?_); conv => whnf))
  refine ResOK.same ?_
  simp only [rowL, Int.toNat_natCast, List.map_drop, List.map_take]

theorem s_at (m : Matrix) {r c : Nat} (ok : MatOK m r c) (i j : Nat) (hi : i < r) (hj : j < c) : Sat Tryz.prog 213 [(true, Enc.enc m), (false, [.int .i64 i]), (false, [.int .i64 j])] (.one (.c (.int .i64 (cellAt m i j))), []) := by
  have hce := ok.cell hi hj
  have hlt := ok.lt hi hj
  have hbig := ok.big hi hj
  obtain ⟨p, rows, columns, cells⟩ := m
  obtain ⟨hp, hr, hc, hlen, hel, hrb, hcb⟩ := ok
  simp only at hr hc hp hlen hel
  subst hr; subst hc
  simp only at hlt hce
  refine Sat.intro tok mixed Tryz.func213 rfl rfl ?_
  ((conv => whnf); repeat ((first | refine B0 ?_ | refine B1 ?_ | refine D1 ?_ | refine D2 ?_ | refine CallC.r ?_); conv => whnf))
  ((conv => whnf); repeat ((first | refine B0 ?_ | refine B1 ?_ | refine D1 ?_ | refine D2 ?_ | refine CallC.r ?_); conv => whnf))
  refine Pick.at64 (z := ((i * c : Nat) : Int)) (by push_cast; rfl) (by omega) ?_
  ((conv => whnf); repeat ((first | refine B0 ?_ | refine B1 ?_ | refine D1 ?_ | refine D2 ?_ | refine CallC.r ?_); conv => whnf))
  refine Pick.at64 (z := ((i * c + j : Nat) : Int)) (by push_cast; rfl) (by omega) ?_
  ((conv => whnf); repeat ((first | refine B0 ?_ | refine B1 ?_ | refine D1 ?_ | refine D2 ?_ | refine CallC.r ?_); conv => whnf))
  refine Pick.ix (hlt) ?_
  ((conv => whnf); repeat ((first | refine B0 ?_ | refine B1 ?_ | refine D1 ?_ | refine D2 ?_ | refine CallC.r ?_); conv => whnf))
  exact ResOK.same (by rw [hce])

theorem s_apply (m : Matrix) {r c : Nat} (ok : MatOK m r c) (v : List Int) (hv : v.length = c) (hve : El m.prime v) : Sat Tryz.prog 168 [(true, Enc.enc m), (false, Enc.enc v)] (.one (.c (.slice 1 ((applyM m v).map Enc.enc))), []) := by
  have hrn := ok.rn
  have hrow := ok.rows
  have hrb := ok.rb
  have hcb := ok.cb
  have hp := ok.p
  refine Sat.intro tok mixed Tryz.func168 rfl rfl ?_
  ((conv => whnf); repeat ((first | refine B0 ?_ | refine B1 ?_ | refine D1 ?_ | refine D2 ?_ | refine CallC.r ?_); conv => whnf))
  refine Pick.mk [1, 2, 5, 8, 9] trivial ?_
  ((conv => whnf); repeat ((first | refine B0 ?_ | refine B1 ?_ | refine D1 ?_ | refine D2 ?_ | refine CallC.r ?_); conv => whnf))
  refine LoopL.over (fun (i : Nat) => [(9, .one (.c (.int .i64 ((i : Int)))))]) (fun (i : Nat) => [(320, .arr 1 (List.map Enc.enc ((List.range i).map fun i => dotM m.prime (rowL m i) v)))]) (fun (i : Nat) => r - i) (fun (i : Nat) => i ≤ r) ?_ 0 (Nat.zero_le _)
  intro i hi ih
  ((conv => whnf); repeat ((first | refine B0 ?_ | refine B1 ?_ | refine D1 ?_ | refine D2 ?_ | refine CallC.r ?_); conv => whnf))
  refine Br.mk (fun h => ?_) (fun h => ?_) <;> ((conv => whnf); repeat ((first | refine B0 ?_ | refine B1 ?_ | refine D1 ?_ | refine D2 ?_ | refine CallC.r ?_); conv => whnf))
  · simp [hrow] at h
    have hlen := ok.rowLen h
    refine Pick.mk _ (s_row m ok i h) ?_
    ((conv => whnf); repeat ((first | refine B0 ?_ | refine B1 ?_ | refine D1 ?_ | refine D2 ?_ | refine CallC.r ?_); conv => whnf))
    refine Pick.mk _ (s_dot (rowL m i) v m.prime (ok.rowEl i) hve hp (by omega) (by omega)) ?_
    ((conv => whnf); repeat ((first | refine B0 ?_ | refine B1 ?_ | refine D1 ?_ | refine D2 ?_ | refine CallC.r ?_); conv => whnf))
    refine Side.mk (by simp only [List.length_map, List.length_range, List.length_cons, List.length_nil]; omega) ?_
    ((conv => whnf); repeat ((first | refine B0 ?_ | refine B1 ?_ | refine D1 ?_ | refine D2 ?_ | refine CallC.r ?_); conv => whnf))
    refine Pick.at64 (z := (i + 1 : Nat)) (by simp) (by omega) ?_
    ((conv => whnf); repeat ((first | refine B0 ?_ | refine B1 ?_ | refine D1 ?_ | refine D2 ?_ | refine CallC.r ?_); conv => whnf))
    have hn := ih (i + 1) (by omega) (by omega)
    rw [List.range_succ, List.map_append, List.map_append] at hn
    exact hn
  · simp [hrow] at h
    obtain rfl : i = r := by omega
    exact ResOK.frz (by rw [applyM, hrn]; rfl) rfl

theorem s_l03Apply (m : Matrix) {r c : Nat} (ok : MatOK m r c) (v : List Int) (hv : v.length = c) (hve : El m.prime v) : Sat Tryz.prog 161 [(false, [.ptr 4 (Enc.enc m)]), (false, Enc.enc v)] (.one (.c (.slice 1 ((applyM m v).map Enc.enc))), []) := by
  have hrn := ok.rn
  have hrow := ok.rows
  have hcol := ok.columns
  have hrb := ok.rb
  have hcb := ok.cb
  have hp := ok.p
  refine Sat.intro tok mixed Tryz.func161 rfl rfl ?_
  ((conv => whnf); repeat ((first | refine B0 ?_ | refine B1 ?_ | refine D1 ?_ | refine D2 ?_ | refine CallC.r ?_); conv => whnf))
  refine Pick.mk [0, 1, 5, 6] trivial ?_
  ((conv => whnf); repeat ((first | refine B0 ?_ | refine B1 ?_ | refine D1 ?_ | refine D2 ?_ | refine CallC.r ?_); conv => whnf))
  refine LoopL.over (fun (i : Nat) => [(6, .one (.c (.int .i64 ((i : Int)))))]) (fun (i : Nat) => [(320, .arr 1 (List.map Enc.enc ((List.range i).map fun i => dotM m.prime (rowL m i) v)))]) (fun (i : Nat) => r - i) (fun (i : Nat) => i ≤ r) ?_ 0 (Nat.zero_le _)
  intro i hi ih
  ((conv => whnf); repeat ((first | refine B0 ?_ | refine B1 ?_ | refine D1 ?_ | refine D2 ?_ | refine CallC.r ?_); conv => whnf))
  refine Br.mk (fun h => ?_) (fun h => ?_) <;> ((conv => whnf); repeat ((first | refine B0 ?_ | refine B1 ?_ | refine D1 ?_ | refine D2 ?_ | refine CallC.r ?_); conv => whnf))
  · simp [hrow] at h
    have hrl := ok.rowLen h
    have hb : ∀ k, k < c → 0 ≤ dotT (rowL m i) v k ∧ dotT (rowL m i) v k ≤ 62500 := fun k hk => dotT_bound (ok.rowEl i) hve hp k
    refine Pick.mk [0, 1, 5, 6, 7, 8] trivial ?_
    ((conv => whnf); repeat ((first | refine B0 ?_ | refine B1 ?_ | refine D1 ?_ | refine D2 ?_ | refine CallC.r ?_); conv => whnf))
    refine LoopL.over (fun (k : Nat) => [(7, .one (.c (.int .i64 (sumN (dotT (rowL m i) v) k)))), (8, .one (.c (.int .i64 ((k : Int)))))]) (fun (k : Nat) => []) (fun (k : Nat) => c - k) (fun (k : Nat) => k ≤ c) ?_ 0 (Nat.zero_le _)
    intro k hk ih2
    have hsb := sumN_bound (f := dotT (rowL m i) v) (B := 62500) (n := k) fun q hq => hb q (by omega)
    ((conv => whnf); repeat ((first | refine B0 ?_ | refine B1 ?_ | refine D1 ?_ | refine D2 ?_ | refine CallC.r ?_); conv => whnf))
    refine Br.mk (fun h2 => ?_) (fun h2 => ?_) <;> ((conv => whnf); repeat ((first | refine B0 ?_ | refine B1 ?_ | refine D1 ?_ | refine D2 ?_ | refine CallC.r ?_); conv => whnf))
    · simp [hcol] at h2
      have hbig := ok.big h h2
      have hlt := ok.lt h h2
      have hic : i * c ≤ i * c + k := Nat.le_add_right _ _
      have hkv : k < v.length := by omega
      have h5 := ok.rowGet h h2
      have h6 := ok.cell h h2
      have h7 : dotT (rowL m i) v k = m.cells[i * c + k] * v[k] := by unfold dotT; rw [h5, h6, getD_lt _ _ hkv]
      have h8 := hb k h2
      rw [h7] at h8
      refine Pick.at64 (z := ((i * c : Nat) : Int)) (by rw [hcol]; push_cast; rfl) (by omega) ?_
      ((conv => whnf); repeat ((first | refine B0 ?_ | refine B1 ?_ | refine D1 ?_ | refine D2 ?_ | refine CallC.r ?_); conv => whnf))
      refine Pick.at64 (z := ((i * c + k : Nat) : Int)) (by push_cast; rfl) (by omega) ?_
      ((conv => whnf); repeat ((first | refine B0 ?_ | refine B1 ?_ | refine D1 ?_ | refine D2 ?_ | refine CallC.r ?_); conv => whnf))
      refine Pick.ix (hlt) ?_
      ((conv => whnf); repeat ((first | refine B0 ?_ | refine B1 ?_ | refine D1 ?_ | refine D2 ?_ | refine CallC.r ?_); conv => whnf))
      refine Pick.ix (hkv) ?_
      ((conv => whnf); repeat ((first | refine B0 ?_ | refine B1 ?_ | refine D1 ?_ | refine D2 ?_ | refine CallC.r ?_); conv => whnf))
      refine Pick.w64 (by omega) ?_
      ((conv => whnf); repeat ((first | refine B0 ?_ | refine B1 ?_ | refine D1 ?_ | refine D2 ?_ | refine CallC.r ?_); conv => whnf))
      refine Pick.w64 (by omega) ?_
      ((conv => whnf); repeat ((first | refine B0 ?_ | refine B1 ?_ | refine D1 ?_ | refine D2 ?_ | refine CallC.r ?_); conv => whnf))
      refine Pick.at64 (z := (k + 1 : Nat)) (by simp) (by omega) ?_
      ((conv => whnf); repeat ((first | refine B0 ?_ | refine B1 ?_ | refine D1 ?_ | refine D2 ?_ | refine CallC.r ?_); conv => whnf))
      have hn := ih2 (k + 1) (by omega) (by omega)
      simp only [sumN, h7] at hn
      exact hn
    · simp [hcol] at h2
      obtain rfl : k = c := by omega
      refine Side.mk (by omega) ?_
      ((conv => whnf); repeat ((first | refine B0 ?_ | refine B1 ?_ | refine D1 ?_ | refine D2 ?_ | refine CallC.r ?_); conv => whnf))
      refine Side.mk (by simp only [List.length_map, List.length_range, List.length_cons, List.length_nil]; omega) ?_
      ((conv => whnf); repeat ((first | refine B0 ?_ | refine B1 ?_ | refine D1 ?_ | refine D2 ?_ | refine CallC.r ?_); conv => whnf))
      refine Pick.at64 (z := (i + 1 : Nat)) (by simp) (by omega) ?_
      ((conv => whnf); repeat ((first | refine B0 ?_ | refine B1 ?_ | refine D1 ?_ | refine D2 ?_ | refine CallC.r ?_); conv => whnf))
      have hn := ih (i + 1) (by omega) (by omega)
      have e : (sumN (dotT (rowL m i) v) k).tmod m.prime = dotM m.prime (rowL m i) v := by
        rw [Int.tmod_eq_emod_of_nonneg (by omega)]; unfold dotM; rw [hrl]
      rw [List.range_succ, List.map_append, List.map_append] at hn
      rw [e]
      exact hn
  · simp [hrow] at h
    obtain rfl : i = r := by omega
    exact ResOK.frz (by rw [applyM, hrn]; rfl) rfl

theorem s_filled (p rows cols : Int) (g : Nat) (caps : List CV) (f : Nat → Nat → Int) (h0 : 0 ≤ rows ∧ rows ≤ 4096) (h1 : 0 ≤ cols ∧ cols ≤ 4096)
    (hf : ∀ i j : Nat, i < rows.toNat → j < cols.toNat → Sat Tryz.prog g ((false, [.int .i64 i]) :: (false, [.int .i64 j]) :: caps.map fun y => (false, [y])) (.one (.c (.int .i64 (f i j))), [])) :
    Sat Tryz.prog 211 [(false, [.int .i64 p]), (false, [.int .i64 rows]), (false, [.int .i64 cols]), (false, [.fn g caps])] (.agg [.c (.int .i64 p), .c (.int .i64 rows), .c (.int .i64 cols), .c (.slice 1 ((grid rows.toNat cols.toNat f).map Enc.enc))], []) := by
  obtain ⟨r, rfl⟩ : ∃ r : Nat, rows = r := ⟨rows.toNat, by omega⟩
  obtain ⟨c, rfl⟩ : ∃ c : Nat, cols = c := ⟨cols.toNat, by omega⟩
  simp only [Int.toNat_natCast] at hf ⊢
  have hrc : r * c ≤ 4096 * 4096 := Nat.mul_le_mul (by omega) (by omega)
  refine Sat.intro tok mixed Tryz.func211 rfl rfl ?_
  ((conv => whnf); repeat ((first | refine B0 ?_ | refine B1 ?_ | refine D1 ?_ | refine D2 ?_ | refine CallC.r ?_); conv => whnf))
  refine Pick.mk [2, 3, 8, 9, 16, 17, 3000611] trivial ?_
  ((conv => whnf); repeat ((first | refine B0 ?_ | refine B1 ?_ | refine D1 ?_ | refine D2 ?_ | refine CallC.r ?_); conv => whnf))
  refine LoopL.over (fun (i : Nat) => [(17, .one (.c (.int .i64 ((i : Int)))))]) (fun (i : Nat) => [(611, .arr 1 (List.map Enc.enc (grid i c f)))]) (fun (i : Nat) => r - i) (fun (i : Nat) => i ≤ r) ?_ 0 (Nat.zero_le _)
  intro i hi ih
  ((conv => whnf); repeat ((first | refine B0 ?_ | refine B1 ?_ | refine D1 ?_ | refine D2 ?_ | refine CallC.r ?_); conv => whnf))
  refine Br.mk (fun h => ?_) (fun h => ?_) <;> ((conv => whnf); repeat ((first | refine B0 ?_ | refine B1 ?_ | refine D1 ?_ | refine D2 ?_ | refine CallC.r ?_); conv => whnf))
  · simp at h
    refine Pick.mk [2, 3, 8, 9, 10, 16, 17, 20, 21] trivial ?_
    ((conv => whnf); repeat ((first | refine B0 ?_ | refine B1 ?_ | refine D1 ?_ | refine D2 ?_ | refine CallC.r ?_); conv => whnf))
    refine LoopL.over (fun (j : Nat) => [(21, .one (.c (.int .i64 ((j : Int)))))]) (fun (j : Nat) => [(611, .arr 1 (List.map Enc.enc (gridUp c f i j)))]) (fun (j : Nat) => c - j) (fun (j : Nat) => j ≤ c) ?_ 0 (Nat.zero_le _) (by rw [gridUp_zero]; rfl)
    intro j hj ih2
    ((conv => whnf); repeat ((first | refine B0 ?_ | refine B1 ?_ | refine D1 ?_ | refine D2 ?_ | refine CallC.r ?_); conv => whnf))
    refine Br.mk (fun h2 => ?_) (fun h2 => ?_) <;> ((conv => whnf); repeat ((first | refine B0 ?_ | refine B1 ?_ | refine D1 ?_ | refine D2 ?_ | refine CallC.r ?_); conv => whnf))
    · simp at h2
      have hlt := ij_lt h h2
      refine Pick.mk _ (hf i j h h2) ?_
      ((conv => whnf); repeat ((first | refine B0 ?_ | refine B1 ?_ | refine D1 ?_ | refine D2 ?_ | refine CallC.r ?_); conv => whnf))
      refine Side.mk (by simp only [List.length_map, gridUp_len, List.length_cons, List.length_nil]; omega) ?_
      ((conv => whnf); repeat ((first | refine B0 ?_ | refine B1 ?_ | refine D1 ?_ | refine D2 ?_ | refine CallC.r ?_); conv => whnf))
      refine Pick.at64 (z := (j + 1 : Nat)) (by simp) (by omega) ?_
      ((conv => whnf); repeat ((first | refine B0 ?_ | refine B1 ?_ | refine D1 ?_ | refine D2 ?_ | refine CallC.r ?_); conv => whnf))
      have hn := ih2 (j + 1) (by omega) (by omega)
      rw [gridUp_succ, List.map_append] at hn
      exact hn
    · simp at h2
      obtain rfl : j = c := by omega
      refine Pick.at64 (z := (i + 1 : Nat)) (by simp) (by omega) ?_
      ((conv => whnf); repeat ((first | refine B0 ?_ | refine B1 ?_ | refine D1 ?_ | refine D2 ?_ | refine CallC.r ?_); conv => whnf))
      have hn := ih (i + 1) (by omega) (by omega)
      rw [grid_succ] at hn
      exact hn
  · simp at h
    obtain rfl : i = r := by omega
    exact ResOK.frz rfl rfl

end Go.Proofs.YtnmoeeneofopcaaGreat.Pi
