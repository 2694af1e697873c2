/- The product of matrices, the reference. No statement of the seat is proved here. -/
import Derived.Test.YtlnjgoeicanehaaGreatPiFMat2
import Derived.Test.YtlnjgoeicanehaaGreatPiElim
namespace Go.Proofs.YtlnjgoeicanehaaGreat.Pi
open Go
set_option maxRecDepth 10000
set_option maxHeartbeats 12800000
set_option linter.unusedVariables false

def cellM (a b : Matrix) (i j : Nat) : Int := dotM a.prime (rowL a i) (colL b j)
def mulUp (a b : Matrix) (i k : Nat) : Nat → Nat → Int := fun x y => if x < i ∨ (x = i ∧ y < k) then cellM a b x y else 0
theorem mulUp_set (a b : Matrix) (i k : Nat) : upd2 (mulUp a b i k) i k (cellM a b i k) = mulUp a b i (k + 1) := by
  funext x y
  unfold upd2 mulUp
  by_cases h : x = i ∧ y = k
  · rw [if_pos h, if_pos (by omega), h.1, h.2]
  · rw [if_neg h]
    by_cases h2 : x < i ∨ (x = i ∧ y < k)
    · rw [if_pos h2, if_pos (by omega)]
    · rw [if_neg h2, if_neg (by omega)]
theorem mulUp_row {a b : Matrix} {r c i : Nat} : grid r c (mulUp a b i c) = grid r c (mulUp a b (i + 1) 0) := grid_congr fun x y hx hy => by
  unfold mulUp
  by_cases h2 : x < i ∨ (x = i ∧ y < c)
  · rw [if_pos h2, if_pos (by omega)]
  · rw [if_neg h2, if_neg (by omega)]
theorem mulUp_zero {a b : Matrix} {r c : Nat} : grid r c (mulUp a b 0 0) = grid r c (fun _ _ => 0) := grid_congr fun x y hx hy => by
  unfold mulUp; rw [if_neg (by omega)]
theorem mulUp_all {a b : Matrix} {r c : Nat} : grid r c (mulUp a b r 0) = grid r c (cellM a b) := grid_congr fun x y hx hy => by
  unfold mulUp; rw [if_pos (by omega)]
theorem grid_zero (r c : Nat) : List.replicate (r * c) [CV.int .i64 0] = (grid r c fun _ _ => (0 : Int)).map Enc.enc := by
  symm
  rw [List.eq_replicate_iff]
  refine ⟨by rw [List.length_map, grid_len], fun x hx => ?_⟩
  obtain ⟨y, hy, rfl⟩ := List.mem_map.1 hx
  obtain ⟨i, j, _, _, e⟩ := grid_mem hy
  rw [e]; rfl
theorem gsetX {r w : Nat} {F : Nat → Nat → Int} {i j : Nat} (x : Int) (n : Nat) (y : List CV) (hi : i < r) (hj : j < w) (hn : n = i * w + j) (hy : y = Enc.enc x) : ((grid r w F).map (Enc.enc (α := Int))).set n y = (grid r w (upd2 F i j x)).map Enc.enc := by
  rw [hn, hy, ← List.map_set, grid_set hi hj]

theorem s_l03Zero (p : Int) (r c : Nat) (hr : r ≤ 4096) (hc : c ≤ 4096) : Sat Tryz.prog 172 [(false, [.int .i64 p]), (false, [.int .i64 r]), (false, [.int .i64 c])]
    (.agg [.c (.int .i64 p), .c (.int .i64 r), .c (.int .i64 c), .rs 0], [(0, .arr 1 ((grid r c fun _ _ => (0 : Int)).map Enc.enc))]) := by
  have hrc : r * c ≤ 4096 * 4096 := Nat.mul_le_mul hr hc
  refine Sat.intro tok mixed Tryz.func172 rfl rfl ?_
  ((conv => whnf); repeat ((first | refine B0 ?_ | refine B1 ?_ | refine D1 ?_ | refine D2 ?_ | refine CallC.r ?_); conv => whnf))
  refine Pick.at64 (z := ((r * c : Nat) : Int)) (by simp) (by omega) ?_
  ((conv => whnf); repeat ((first | refine B0 ?_ | refine B1 ?_ | refine D1 ?_ | refine D2 ?_ | refine CallC.r ?_); conv => whnf))
  refine Side.mk (by refine ⟨by omega, by omega, ?_⟩; omega) ?_
  ((conv => whnf); repeat ((first | refine B0 ?_ | refine B1 ?_ | refine D1 ?_ | refine D2 ?_ | refine CallC.r ?_); conv => whnf))
  exact ResOK.same (by rw [Int.toNat_natCast]; exact congrArg (fun z => (_, [(0, Ob.arr 1 z)])) (grid_zero r c))

theorem s_l03Times (a b : Matrix) {r m c : Nat} (oa : MatOK a r m) (ob : MatOK b m c) (hp : a.prime = b.prime) : Sat Tryz.prog 221 [(false, [.ptr 4 (Enc.enc a)]), (false, [.ptr 4 (Enc.enc b)])] (.agg ((Enc.enc (mulM a b)).map .c), []) := by
  have hb1 := oa.rb
  have hb2 := oa.cb
  have hb3 := ob.cb
  have hz := s_l03Zero a.prime r c hb1 hb3
  rw [← oa.rows, ← ob.columns] at hz
  refine Sat.intro tok mixed Tryz.func221 rfl rfl ?_
  ((conv => whnf); repeat ((first | refine B0 ?_ | refine B1 ?_ | refine CallC.r ?_); conv => whnf))
  refine Pick.drawC 12 (by kernel_rfl) ?_
  ((conv => whnf); repeat ((first | refine B0 ?_ | refine B1 ?_ | refine D1 ?_ | refine D2 ?_ | refine CallC.r ?_); conv => whnf))
  refine Pick.mk _ hz ?_
  ((conv => whnf); repeat ((first | refine B0 ?_ | refine B1 ?_ | refine D1 ?_ | refine D2 ?_ | refine CallC.r ?_); conv => whnf))
  rw [← mulUp_zero (a := a) (b := b)]
  refine Pick.mk [0, 1, 4, 5, 6] trivial ?_
  ((conv => whnf); repeat ((first | refine B0 ?_ | refine B1 ?_ | refine D1 ?_ | refine D2 ?_ | refine CallC.r ?_); conv => whnf))
  refine LoopL.over (fun (i : Nat) => [(6, .one (.c (.int .i64 ((i : Int)))))]) (fun (i : Nat) => [(1408, Ob.arr 1 ((grid r c (mulUp a b i 0)).map Enc.enc))]) (fun (i : Nat) => r - i) (fun (i : Nat) => i ≤ r) ?_ 0 (Nat.zero_le _)
  intro i hi ihi
  ((conv => whnf); repeat ((first | refine B0 ?_ | refine B1 ?_ | refine D1 ?_ | refine D2 ?_ | refine CallC.r ?_); conv => whnf))
  refine Br.mk (fun q1 => ?_) (fun q1 => ?_) <;> ((conv => whnf); repeat ((first | refine B0 ?_ | refine B1 ?_ | refine D1 ?_ | refine D2 ?_ | refine CallC.r ?_); conv => whnf))
  · have q1 : i < r := by rw [oa.rows] at q1; simp only [decide_eq_true_eq] at q1; omega
    refine Pick.mk [0, 1, 4, 5, 6, 7] trivial ?_
    ((conv => whnf); repeat ((first | refine B0 ?_ | refine B1 ?_ | refine D1 ?_ | refine D2 ?_ | refine CallC.r ?_); conv => whnf))
    refine LoopL.over (fun (k : Nat) => [(7, .one (.c (.int .i64 ((k : Int)))))]) (fun (k : Nat) => [(1408, Ob.arr 1 ((grid r c (mulUp a b i k)).map Enc.enc))]) (fun (k : Nat) => c - k) (fun (k : Nat) => k ≤ c) ?_ 0 (Nat.zero_le _)
    intro k hk ihk
    ((conv => whnf); repeat ((first | refine B0 ?_ | refine B1 ?_ | refine D1 ?_ | refine D2 ?_ | refine CallC.r ?_); conv => whnf))
    refine Br.mk (fun q2 => ?_) (fun q2 => ?_) <;> ((conv => whnf); repeat ((first | refine B0 ?_ | refine B1 ?_ | refine D1 ?_ | refine D2 ?_ | refine CallC.r ?_); conv => whnf))
    · have q2 : k < c := by rw [ob.columns] at q2; simp only [decide_eq_true_eq] at q2; omega
      have hrl := oa.rowLen q1
      refine Pick.mk [0, 1, 4, 5, 6, 7, 8, 9] trivial ?_
      ((conv => whnf); repeat ((first | refine B0 ?_ | refine B1 ?_ | refine D1 ?_ | refine D2 ?_ | refine CallC.r ?_); conv => whnf))
      refine LoopL.over (fun (j : Nat) => [(8, .one (.c (.int .i64 (sumN (dotT (rowL a i) (colL b k)) j)))), (9, .one (.c (.int .i64 ((j : Int)))))]) (fun (j : Nat) => []) (fun (j : Nat) => m - j) (fun (j : Nat) => j ≤ m) ?_ 0 (Nat.zero_le _)
      intro j hj ihj
      have hsb := sumN_bound (f := dotT (rowL a i) (colL b k)) (n := j) fun x _ => dotT_bound (oa.rowEl i) (by rw [hp]; exact ob.colEl k) oa.p x
      ((conv => whnf); repeat ((first | refine B0 ?_ | refine B1 ?_ | refine D1 ?_ | refine D2 ?_ | refine CallC.r ?_); conv => whnf))
      refine Br.mk (fun q3 => ?_) (fun q3 => ?_) <;> ((conv => whnf); repeat ((first | refine B0 ?_ | refine B1 ?_ | refine D1 ?_ | refine D2 ?_ | refine CallC.r ?_); conv => whnf))
      · have q3 : j < m := by rw [oa.columns] at q3; simp only [decide_eq_true_eq] at q3; omega
        have h1 := oa.big q1 q3
        have h2 := ob.big q3 q2
        have h3 : i * m ≤ i * m + j := Nat.le_add_right _ _
        have h4 : j * c ≤ j * c + k := Nat.le_add_right _ _
        refine Pick.at64 (z := ((i * m : Nat) : Int)) (by rw [oa.columns]; simp) (by omega) ?_
        ((conv => whnf); repeat ((first | refine B0 ?_ | refine B1 ?_ | refine D1 ?_ | refine D2 ?_ | refine CallC.r ?_); conv => whnf))
        refine Pick.at64 (z := ((i * m + j : Nat) : Int)) (by simp) (by omega) ?_
        ((conv => whnf); repeat ((first | refine B0 ?_ | refine B1 ?_ | refine D1 ?_ | refine D2 ?_ | refine CallC.r ?_); conv => whnf))
        refine Pick.ix ((oa.lt q1 q3)) ?_
        ((conv => whnf); repeat ((first | refine B0 ?_ | refine B1 ?_ | refine D1 ?_ | refine D2 ?_ | refine CallC.r ?_); conv => whnf))
        refine Pick.at64 (z := ((j * c : Nat) : Int)) (by rw [ob.columns]; simp) (by omega) ?_
        ((conv => whnf); repeat ((first | refine B0 ?_ | refine B1 ?_ | refine D1 ?_ | refine D2 ?_ | refine CallC.r ?_); conv => whnf))
        refine Pick.at64 (z := ((j * c + k : Nat) : Int)) (by simp) (by omega) ?_
        ((conv => whnf); repeat ((first | refine B0 ?_ | refine B1 ?_ | refine D1 ?_ | refine D2 ?_ | refine CallC.r ?_); conv => whnf))
        refine Pick.ix ((ob.lt q3 q2)) ?_
        ((conv => whnf); repeat ((first | refine B0 ?_ | refine B1 ?_ | refine D1 ?_ | refine D2 ?_ | refine CallC.r ?_); conv => whnf))
        have e1 := oa.cell q1 q3
        have e2 := ob.cell q3 q2
        have hd : a.cells[i * m + j]'(oa.lt q1 q3) * b.cells[j * c + k]'(ob.lt q3 q2) = dotT (rowL a i) (colL b k) j := by
          rw [dotT, oa.rowGet q1 q3, ob.colGet k q3, e1, e2]
        have hdb := dotT_bound (oa.rowEl i) (show El a.prime (colL b k) by rw [hp]; exact ob.colEl k) oa.p j
        refine Pick.at64 (z := dotT (rowL a i) (colL b k) j) hd (by omega) ?_
        ((conv => whnf); repeat ((first | refine B0 ?_ | refine B1 ?_ | refine D1 ?_ | refine D2 ?_ | refine CallC.r ?_); conv => whnf))
        refine Pick.at64 (z := sumN (dotT (rowL a i) (colL b k)) (j + 1)) rfl (by simp only [sumN]; omega) ?_
        ((conv => whnf); repeat ((first | refine B0 ?_ | refine B1 ?_ | refine D1 ?_ | refine D2 ?_ | refine CallC.r ?_); conv => whnf))
        refine Pick.at64 (z := (j + 1 : Nat)) (by simp) (by omega) ?_
        ((conv => whnf); repeat ((first | refine B0 ?_ | refine B1 ?_ | refine D1 ?_ | refine D2 ?_ | refine CallC.r ?_); conv => whnf))
        exact ihj (j + 1) (by omega) (by omega)
      · have q3 : j = m := by rw [oa.columns] at q3; simp only [decide_eq_false_iff_not] at q3; omega
        subst q3
        have h2 : i * c + k < r * c := ij_lt q1 q2
        have h5 : r * c ≤ 4096 * 4096 := Nat.mul_le_mul hb1 hb3
        refine Pick.at64 (z := ((i * c : Nat) : Int)) (by rw [ob.columns]; simp) (by omega) ?_
        ((conv => whnf); repeat ((first | refine B0 ?_ | refine B1 ?_ | refine D1 ?_ | refine D2 ?_ | refine CallC.r ?_); conv => whnf))
        refine Pick.at64 (z := ((i * c + k : Nat) : Int)) (by simp) (by omega) ?_
        ((conv => whnf); repeat ((first | refine B0 ?_ | refine B1 ?_ | refine D1 ?_ | refine D2 ?_ | refine CallC.r ?_); conv => whnf))
        refine Side.mk (by have := oa.p; omega) ?_
        ((conv => whnf); repeat ((first | refine B0 ?_ | refine B1 ?_ | refine D1 ?_ | refine D2 ?_ | refine CallC.r ?_); conv => whnf))
        refine Side.mk (by rw [List.length_map, grid_len]; omega) ?_
        ((conv => whnf); repeat ((first | refine B0 ?_ | refine B1 ?_ | refine D1 ?_ | refine D2 ?_ | refine CallC.r ?_); conv => whnf))
        have hv : (sumN (dotT (rowL a i) (colL b k)) j).tmod a.prime = cellM a b i k := by
          rw [Int.tmod_eq_emod_of_nonneg hsb.1, cellM, dotM, hrl]
        rw [hv]
        have hset : ((grid r c (mulUp a b i k)).map (Enc.enc (α := Int))).set ((i * c + k : Nat) : Int).toNat [CV.int .i64 (cellM a b i k)] = (grid r c (mulUp a b i (k + 1))).map Enc.enc :=
          (gsetX (cellM a b i k) ((i * c + k : Nat) : Int).toNat [CV.int .i64 (cellM a b i k)] q1 q2 (Int.toNat_natCast _) rfl).trans (by rw [mulUp_set])
        rw [hset]
        refine Pick.at64 (z := (k + 1 : Nat)) (by simp) (by omega) ?_
        ((conv => whnf); repeat ((first | refine B0 ?_ | refine B1 ?_ | refine D1 ?_ | refine D2 ?_ | refine CallC.r ?_); conv => whnf))
        exact ihk (k + 1) (by omega) (by omega)
    · have q2 : k = c := by rw [ob.columns] at q2; simp only [decide_eq_false_iff_not] at q2; omega
      subst q2
      refine Pick.at64 (z := (i + 1 : Nat)) (by simp) (by omega) ?_
      ((conv => whnf); repeat ((first | refine B0 ?_ | refine B1 ?_ | refine D1 ?_ | refine D2 ?_ | refine CallC.r ?_); conv => whnf))
      have hn := ihi (i + 1) (by omega) (by omega)
      rw [mulUp_row]
      exact hn
  · have q1 : i = r := by rw [oa.rows] at q1; simp only [decide_eq_false_iff_not] at q1; omega
    subst q1
    exact ResOK.frz (by rw [mulUp_all]; simp only [mulM, oa.rn, ob.cn]; rfl) rfl
end Go.Proofs.YtlnjgoeicanehaaGreat.Pi
