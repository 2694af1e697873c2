/- Transposes, products, lists of rows: the reference and the program. No statement of the seat is proved here. -/
import Derived.Test.YtnmoeeneofopcaaGreatPiFMat
import Derived.Test.YtnmoeeneofopcaaGreatPiMat2
namespace Go.Proofs.YtnmoeeneofopcaaGreat.Pi
open Go
set_option maxRecDepth 10000
set_option maxHeartbeats 1600000
set_option linter.unusedVariables false

theorem s_transpose1 (m : Matrix) {r c : Nat} (ok : MatOK m r c) (i j : Nat) (hi : i < c) (hj : j < r) : Sat Tryz.prog 352 ((false, [.int .i64 i]) :: (false, [.int .i64 j]) :: [CV.ptr 4 (Enc.enc m)].map fun y => (false, [y])) (.one (.c (.int .i64 (cellAt m j i))), []) := by
  refine Sat.intro tok mixed Tryz.func352 rfl rfl ?_
  ((conv => whnf); repeat ((first | refine B0 ?_ | refine B1 ?_ | refine D1 ?_ | refine D2 ?_ | refine CallC.r ?_); conv => whnf))
  refine Pick.mk _ (s_at m ok j i hj hi) ?_
  ((conv => whnf); repeat ((first | refine B0 ?_ | refine B1 ?_ | refine D1 ?_ | refine D2 ?_ | refine CallC.r ?_); conv => whnf))
  exact ResOK.same rfl

theorem s_transpose (m : Matrix) {r c : Nat} (ok : MatOK m r c) : Sat Tryz.prog 345 [(true, Enc.enc m)] (.agg ((Enc.enc (transM m)).map .c), []) := by
  have hrb := ok.rb
  have hcb := ok.cb
  refine Sat.intro tok mixed Tryz.func345 rfl rfl ?_
  ((conv => whnf); repeat ((first | refine B0 ?_ | refine B1 ?_ | refine D1 ?_ | refine D2 ?_ | refine CallC.r ?_); conv => whnf))
  refine Pick.mk _ (s_filled m.prime m.columns m.rows 352 [CV.ptr 4 (Enc.enc m)] (fun i j => cellAt m j i) (by rw [ok.columns]; omega) (by rw [ok.rows]; omega) fun i j hi hj => s_transpose1 m ok i j (by rw [ok.cn] at hi; exact hi) (by rw [ok.rn] at hj; exact hj)) ?_
  ((conv => whnf); repeat ((first | refine B0 ?_ | refine B1 ?_ | refine D1 ?_ | refine D2 ?_ | refine CallC.r ?_); conv => whnf))
  exact ResOK.same rfl

theorem s_CloneInt (xs : List Int) (hb : xs.length ≤ 1048576) : Sat Tryz.prog 171 [(false, Enc.enc xs)] (.one (.rs 0), [(0, .arr 1 (xs.map Enc.enc))]) := by
  refine Sat.intro tok mixed Tryz.func171 rfl rfl ?_
  ((conv => whnf); repeat ((first | refine B0 ?_ | refine B1 ?_ | refine D1 ?_ | refine D2 ?_ | refine CallC.r ?_); conv => whnf))
  intro b hb0
  ((conv => whnf); repeat ((first | refine B0 ?_ | refine B1 ?_ | refine D1 ?_ | refine D2 ?_ | refine CallC.r ?_); conv => whnf))
  refine Br.mk (fun h => ?_) (fun h => ?_) <;> ((conv => whnf); repeat ((first | refine B0 ?_ | refine B1 ?_ | refine D1 ?_ | refine D2 ?_ | refine CallC.r ?_); conv => whnf))
  · have e : xs = [] := by simpa using hb0 h
    subst e
    exact ResOK.same rfl
  · refine Side.mk (by simp only [List.length_map, List.length_nil]; omega) ?_
    ((conv => whnf); repeat ((first | refine B0 ?_ | refine B1 ?_ | refine D1 ?_ | refine D2 ?_ | refine CallC.r ?_); conv => whnf))
    exact ResOK.same (by simp)

theorem s_rowsOf (m : Matrix) {r c : Nat} (ok : MatOK m r c) : Sat Tryz.prog 279 [(true, Enc.enc m)] (.one (.rs 0), [(0, .arr 1 ((rowsL m).map Enc.enc))]) := by
  have hrn := ok.rn
  have hrow := ok.rows
  have hrb := ok.rb
  have hcb := ok.cb
  refine Sat.intro tok mixed Tryz.func279 rfl rfl ?_
  ((conv => whnf); repeat ((first | refine B0 ?_ | refine B1 ?_ | refine D1 ?_ | refine D2 ?_ | refine CallC.r ?_); conv => whnf))
  refine Pick.mk [1, 3, 6, 7] trivial ?_
  ((conv => whnf); repeat ((first | refine B0 ?_ | refine B1 ?_ | refine D1 ?_ | refine D2 ?_ | refine CallC.r ?_); conv => whnf))
  refine LoopL.over (fun (i : Nat) => [(7, .one (.c (.int .i64 ((i : Int)))))]) (fun (i : Nat) => [(192, .arr 1 (List.map Enc.enc ((List.range i).map (rowL m))))]) (fun (i : Nat) => r - i) (fun (i : Nat) => i ≤ r) ?_ 0 (Nat.zero_le _)
  intro i hi ih
  ((conv => whnf); repeat ((first | refine B0 ?_ | refine B1 ?_ | refine D1 ?_ | refine D2 ?_ | refine CallC.r ?_); conv => whnf))
  refine Br.mk (fun h => ?_) (fun h => ?_) <;> ((conv => whnf); repeat ((first | refine B0 ?_ | refine B1 ?_ | refine D1 ?_ | refine D2 ?_ | refine CallC.r ?_); conv => whnf))
  · simp [hrow] at h
    have hlen := ok.rowLen h
    refine Pick.mk _ (s_row m ok i h) ?_
    ((conv => whnf); repeat ((first | refine B0 ?_ | refine B1 ?_ | refine D1 ?_ | refine D2 ?_ | refine CallC.r ?_); conv => whnf))
    refine Pick.mk _ (s_CloneInt (rowL m i) (by omega)) ?_
    ((conv => whnf); repeat ((first | refine B0 ?_ | refine B1 ?_ | refine D1 ?_ | refine D2 ?_ | refine CallC.r ?_); conv => whnf))
    refine Pick.mk false trivial ?_
    ((conv => whnf); repeat ((first | refine B0 ?_ | refine B1 ?_ | refine D1 ?_ | refine D2 ?_ | refine CallC.r ?_); conv => whnf))
    refine Side.mk (by simp only [List.length_map, List.length_range, List.length_cons, List.length_nil]; omega) ?_
    ((conv => whnf); repeat ((first | refine B0 ?_ | refine B1 ?_ | refine D1 ?_ | refine D2 ?_ | refine CallC.r ?_); conv => whnf))
    refine Pick.at64 (z := (i + 1 : Nat)) (by simp) (by omega) ?_
    ((conv => whnf); repeat ((first | refine B0 ?_ | refine B1 ?_ | refine D1 ?_ | refine D2 ?_ | refine CallC.r ?_); conv => whnf))
    have hn := ih (i + 1) (by omega) (by omega)
    rw [List.range_succ, List.map_append, List.map_append] at hn
    exact hn
  · simp [hrow] at h
    obtain rfl : i = r := by omega
    exact ResOK.same (by rw [rowsL, hrn])

theorem s_columnsOf (m : Matrix) {r c : Nat} (ok : MatOK m r c) : Sat Tryz.prog 326 [(true, Enc.enc m)] (.one (.rs 0), [(0, .arr 1 ((colsL m).map Enc.enc))]) := by
  refine Sat.intro tok mixed Tryz.func326 rfl rfl ?_
  ((conv => whnf); repeat ((first | refine B0 ?_ | refine B1 ?_ | refine D1 ?_ | refine D2 ?_ | refine CallC.r ?_); conv => whnf))
  refine Pick.mk _ (s_transpose m ok) ?_
  ((conv => whnf); repeat ((first | refine B0 ?_ | refine B1 ?_ | refine D1 ?_ | refine D2 ?_ | refine CallC.r ?_); conv => whnf))
  refine Pick.mk _ (s_rowsOf (transM m) ok.trans) ?_
  ((conv => whnf); repeat ((first | refine B0 ?_ | refine B1 ?_ | refine D1 ?_ | refine D2 ?_ | refine CallC.r ?_); conv => whnf))
  exact ResOK.same (by rw [ok.colsTrans])

theorem colsL_get (m : Matrix) {r c : Nat} (ok : MatOK m r c) {j : Nat} (hj : j < c) : ∃ h : j < (colsL m).length, (colsL m)[j] = colL m j := by
  refine ⟨by simp [colsL, ok.cn, hj], by simp [colsL]⟩

theorem s_product1 (a b : Matrix) {r k c : Nat} (oa : MatOK a r k) (ob : MatOK b k c) (hpp : a.prime = b.prime) (i j : Nat) (hi : i < r) (hj : j < c) : Sat Tryz.prog 327 ((false, [.int .i64 i]) :: (false, [.int .i64 j]) :: [CV.ptr 4 (Enc.enc a), CV.ptr 1 (Enc.enc (colsL b))].map fun y => (false, [y])) (.one (.c (.int .i64 (dotM a.prime (rowL a i) (colL b j)))), []) := by
  obtain ⟨hlt, hget⟩ := colsL_get b ob hj
  have hl := oa.rowLen hi
  have hl2 := ob.colLen j
  have := oa.cb
  refine Sat.intro tok mixed Tryz.func327 rfl rfl ?_
  ((conv => whnf); repeat ((first | refine B0 ?_ | refine B1 ?_ | refine D1 ?_ | refine D2 ?_ | refine CallC.r ?_); conv => whnf))
  refine Pick.mk _ (s_row a oa i hi) ?_
  ((conv => whnf); repeat ((first | refine B0 ?_ | refine B1 ?_ | refine D1 ?_ | refine D2 ?_ | refine CallC.r ?_); conv => whnf))
  refine Pick.ix (hlt) ?_
  ((conv => whnf); repeat ((first | refine B0 ?_ | refine B1 ?_ | refine D1 ?_ | refine D2 ?_ | refine CallC.r ?_); conv => whnf))
  rw [hget]
  refine Pick.mk _ (s_dot (rowL a i) (colL b j) a.prime (oa.rowEl i) (hpp ▸ ob.colEl j) oa.p (by omega) (by omega)) ?_
  ((conv => whnf); repeat ((first | refine B0 ?_ | refine B1 ?_ | refine D1 ?_ | refine D2 ?_ | refine CallC.r ?_); conv => whnf))
  exact ResOK.same rfl

theorem s_product (a b : Matrix) {r k c : Nat} (oa : MatOK a r k) (ob : MatOK b k c) (hpp : a.prime = b.prime) : Sat Tryz.prog 298 [(true, Enc.enc a), (true, Enc.enc b)] (.agg ((Enc.enc (mulM a b)).map .c), []) := by
  have h1 := oa.rb
  have h2 := ob.cb
  refine Sat.intro tok mixed Tryz.func298 rfl rfl ?_
  ((conv => whnf); repeat ((first | refine B0 ?_ | refine B1 ?_ | refine D1 ?_ | refine D2 ?_ | refine CallC.r ?_); conv => whnf))
  refine Pick.mk _ (s_columnsOf b ob) ?_
  ((conv => whnf); repeat ((first | refine B0 ?_ | refine B1 ?_ | refine D1 ?_ | refine D2 ?_ | refine CallC.r ?_); conv => whnf))
  refine Pick.mk _ (s_filled a.prime a.rows b.columns 327 [CV.ptr 4 (Enc.enc a), CV.ptr 1 (Enc.enc (colsL b))] (fun i j => dotM a.prime (rowL a i) (colL b j)) (by rw [oa.rows]; omega) (by rw [ob.columns]; omega) fun i j hi hj => s_product1 a b oa ob hpp i j (by rw [oa.rn] at hi; exact hi) (by rw [ob.cn] at hj; exact hj)) ?_
  ((conv => whnf); repeat ((first | refine B0 ?_ | refine B1 ?_ | refine D1 ?_ | refine D2 ?_ | refine CallC.r ?_); conv => whnf))
  exact ResOK.same rfl

theorem s_GrowInt (n : Nat) (hb : n ≤ 16777216) : SatM Tryz.prog 322 [.one (.nil 1), .one (.c (.int .i64 n))] [] (.one (.rs 0), [(0, .arr 1 [])]) := by
  refine SatM.intro tok mixed Tryz.func322 rfl rfl ?_
  ((conv => whnf); repeat ((first | refine B0 ?_ | refine B1 ?_ | refine D1 ?_ | refine D2 ?_ | refine CallC.r ?_); conv => whnf))
  refine Pick.w64 (by omega) ?_
  ((conv => whnf); repeat ((first | refine B0 ?_ | refine B1 ?_ | refine D1 ?_ | refine D2 ?_ | refine CallC.r ?_); conv => whnf))
  refine Pick.at64 (z := (n : Int)) (by simp) (by omega) ?_
  ((conv => whnf); repeat ((first | refine B0 ?_ | refine B1 ?_ | refine D1 ?_ | refine D2 ?_ | refine CallC.r ?_); conv => whnf))
  refine Br.mk (fun h3 => ?_) (fun h3 => ?_) <;> ((conv => whnf); repeat ((first | refine B0 ?_ | refine B1 ?_ | refine D1 ?_ | refine D2 ?_ | refine CallC.r ?_); conv => whnf))
  refine Side.mk (by omega) ?_
  ((conv => whnf); repeat ((first | refine B0 ?_ | refine B1 ?_ | refine D1 ?_ | refine D2 ?_ | refine CallC.r ?_); conv => whnf))
  refine Side.mk (by omega) ?_
  ((conv => whnf); repeat ((first | refine B0 ?_ | refine B1 ?_ | refine D1 ?_ | refine D2 ?_ | refine CallC.r ?_); conv => whnf))
  refine Side.mk (by omega) ?_
  ((conv => whnf); repeat ((first | refine B0 ?_ | refine B1 ?_ | refine D1 ?_ | refine D2 ?_); conv => whnf))
  refine CallC.x ?_
  ((conv => whnf); repeat ((first | refine B0 ?_ | refine B1 ?_ | refine D1 ?_ | refine D2 ?_ | refine CallC.r ?_); conv => whnf))
  exact rfl

/-- The lengths of lists together. -/
def lens (xs : List (List Int)) (i : Nat) : Nat := ((xs.take i).map List.length).sum
theorem lens_succ (xs : List (List Int)) (i : Nat) (h : i < xs.length) : lens xs (i + 1) = lens xs i + xs[i].length := by
  simp only [lens, List.take_add_one, List.getElem?_eq_getElem h, Option.toList_some, List.map_append, List.map_cons, List.map_nil, List.sum_append, List.sum_cons, List.sum_nil, Nat.add_zero]
theorem lens_all (xs : List (List Int)) : lens xs xs.length = xs.flatten.length := by simp [lens, List.length_flatten]
theorem lens_le (xs : List (List Int)) (i : Nat) : lens xs i ≤ xs.flatten.length := by
  rw [List.length_flatten]
  have h : (xs.map List.length).sum = ((xs.take i).map List.length).sum + ((xs.drop i).map List.length).sum := by
    rw [← List.sum_append, ← List.map_append, List.take_append_drop]
  unfold lens; omega
theorem flat_take (xs : List (List Int)) (i : Nat) (h : i < xs.length) : (xs.take (i + 1)).flatten = (xs.take i).flatten ++ xs[i] := by
  simp only [List.take_add_one, List.getElem?_eq_getElem h, Option.toList_some, List.flatten_append, List.flatten_cons, List.flatten_nil, List.append_nil]
theorem flat_take_len (xs : List (List Int)) (i : Nat) : (xs.take i).flatten.length = lens xs i := by simp [lens, List.length_flatten]

theorem s_ConcatInt (xs : List (List Int)) (hb : xs.length ≤ 1048576) (hl : xs.flatten.length ≤ 16777216) : Sat Tryz.prog 292 [(false, Enc.enc xs)] (.one (.rs 0), [(0, .arr 1 (xs.flatten.map Enc.enc))]) := by
  have hlx : (xs.map (Enc.enc (α := List Int))).length = xs.length := by simp
  refine Sat.intro tok mixed Tryz.func292 rfl rfl ?_
  ((conv => whnf); repeat ((first | refine B0 ?_ | refine B1 ?_ | refine D1 ?_ | refine D2 ?_ | refine CallC.r ?_); conv => whnf))
  refine Pick.mk [0, 3, 9, 10, 11] trivial ?_
  ((conv => whnf); repeat ((first | refine B0 ?_ | refine B1 ?_ | refine D1 ?_ | refine D2 ?_ | refine CallC.r ?_); conv => whnf))
  refine LoopL.over (fun (i : Nat) => [(3, .one (.c (.int .i64 ((lens xs i : Int))))), (11, .one (.c (.int .i64 ((i : Int)))))]) (fun (i : Nat) => []) (fun (i : Nat) => xs.length - i) (fun (i : Nat) => i ≤ xs.length) ?_ 0 (Nat.zero_le _) (by simp [lens]; rfl)
  intro i hi ih
  have hli := lens_le xs i
  ((conv => whnf); repeat ((first | refine B0 ?_ | refine B1 ?_ | refine D1 ?_ | refine D2 ?_ | refine CallC.r ?_); conv => whnf))
  refine Br.mk (fun h => ?_) (fun h => ?_)
  · ((conv => whnf); repeat ((first | refine B0 ?_ | refine B1 ?_ | refine D1 ?_ | refine D2 ?_ | refine CallC.r ?_); conv => whnf))
    simp at h
    have hs := lens_succ xs i h
    have hli2 := lens_le xs (i + 1)
    refine Pick.ix (h) ?_
    ((conv => whnf); repeat ((first | refine B0 ?_ | refine B1 ?_ | refine D1 ?_ | refine D2 ?_ | refine CallC.r ?_); conv => whnf))
    refine Pick.at64 (z := ((lens xs (i + 1) : Nat) : Int)) (by rw [hs]; simp) (by omega) ?_
    ((conv => whnf); repeat ((first | refine B0 ?_ | refine B1 ?_ | refine D1 ?_ | refine D2 ?_ | refine CallC.r ?_); conv => whnf))
    refine Pick.at64 (z := (i + 1 : Nat)) (by simp) (by omega) ?_
    ((conv => whnf); repeat ((first | refine B0 ?_ | refine B1 ?_ | refine D1 ?_ | refine D2 ?_ | refine CallC.r ?_); conv => whnf))
    exact ih (i + 1) (by omega) (by omega)
  · ((conv => whnf); repeat ((first | refine B0 ?_ | refine B1 ?_ | refine D1 ?_ | refine D2 ?_); conv => whnf))
    simp at h
    obtain rfl : i = xs.length := by omega
    refine CallC.x ?_
    ((conv => whnf); repeat ((first | refine B0 ?_ | refine B1 ?_ | refine D1 ?_ | refine D2 ?_ | refine CallC.r ?_); conv => whnf))
    refine Pick.mk _ (s_GrowInt (lens xs xs.length) (by omega)) ?_
    ((conv => whnf); repeat ((first | refine B0 ?_ | refine B1 ?_ | refine D1 ?_ | refine D2 ?_ | refine CallC.r ?_); conv => whnf))
    refine Pick.mk [6, 25, 26, 27] trivial ?_
    ((conv => whnf); repeat ((first | refine B0 ?_ | refine B1 ?_ | refine D1 ?_ | refine D2 ?_ | refine CallC.r ?_); conv => whnf))
    refine LoopL.over (fun (i : Nat) => [(27, .one (.c (.int .i64 ((i : Int)))))]) (fun (i : Nat) => [(384, .arr 1 (List.map Enc.enc ((xs.take i).flatten)))]) (fun (i : Nat) => xs.length - i) (fun (i : Nat) => i ≤ xs.length) ?_ 0 (Nat.zero_le _)
    intro i hi ih
    ((conv => whnf); repeat ((first | refine B0 ?_ | refine B1 ?_ | refine D1 ?_ | refine D2 ?_ | refine CallC.r ?_); conv => whnf))
    refine Br.mk (fun h => ?_) (fun h => ?_) <;> ((conv => whnf); repeat ((first | refine B0 ?_ | refine B1 ?_ | refine D1 ?_ | refine D2 ?_ | refine CallC.r ?_); conv => whnf))
    · simp at h
      have hf := flat_take xs i h
      have hl1 := flat_take_len xs i
      have hl2 := flat_take_len xs (i + 1)
      have hs := lens_succ xs i h
      have hli2 := lens_le xs (i + 1)
      refine Pick.ix (h) ?_
      ((conv => whnf); repeat ((first | refine B0 ?_ | refine B1 ?_ | refine D1 ?_ | refine D2 ?_ | refine CallC.r ?_); conv => whnf))
      refine Side.mk (by simp only [List.length_map]; omega) ?_
      ((conv => whnf); repeat ((first | refine B0 ?_ | refine B1 ?_ | refine D1 ?_ | refine D2 ?_ | refine CallC.r ?_); conv => whnf))
      refine Pick.at64 (z := (i + 1 : Nat)) (by simp) (by omega) ?_
      ((conv => whnf); repeat ((first | refine B0 ?_ | refine B1 ?_ | refine D1 ?_ | refine D2 ?_ | refine CallC.r ?_); conv => whnf))
      have hn := ih (i + 1) (by omega) (by omega)
      rw [hf, List.map_append] at hn
      exact hn
    · simp at h
      obtain rfl : i = xs.length := by omega
      exact ResOK.same (by rw [List.take_length])

theorem s_isZero1 (x : Int) : Sat Tryz.prog 223 ((false, Enc.enc x) :: ([] : List CV).map fun y => (false, [y])) (.one (.c (.bool (x != 0))), []) := by
  refine Sat.intro tok mixed Tryz.func223 rfl rfl ?_
  ((conv => whnf); repeat ((first | refine B0 ?_ | refine B1 ?_ | refine D1 ?_ | refine D2 ?_ | refine CallC.r ?_); conv => whnf))
  exact ResOK.same rfl
theorem s_isZero (xs : List Int) (hb : xs.length ≤ maxLen) : Sat Tryz.prog 122 [(false, Enc.enc xs)] (.one (.c (.bool (!(xs.any fun x => x != 0)))), []) := by
  refine Sat.intro tok mixed Tryz.func122 rfl rfl ?_
  ((conv => whnf); repeat ((first | refine B0 ?_ | refine B1 ?_ | refine D1 ?_ | refine D2 ?_ | refine CallC.r ?_); conv => whnf))
  refine Pick.mk _ (s_ContainsFuncInt64 xs 223 [] (fun x => x != 0) hb fun x _ => s_isZero1 x) ?_
  ((conv => whnf); repeat ((first | refine B0 ?_ | refine B1 ?_ | refine D1 ?_ | refine D2 ?_ | refine CallC.r ?_); conv => whnf))
  exact ResOK.same rfl

end Go.Proofs.YtnmoeeneofopcaaGreat.Pi
