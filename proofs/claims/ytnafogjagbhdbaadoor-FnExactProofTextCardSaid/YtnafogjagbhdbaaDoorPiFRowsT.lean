/- The rows of a matrix. No statement of the seat is proved here. -/
import Derived.Test.YtnafogjagbhdbaaDoorPiMat2
namespace Go.Proofs.YtnafogjagbhdbaaDoor.Pi
open Go
set_option maxRecDepth 10000
set_option maxHeartbeats 1600000
set_option linter.unusedVariables false

theorem s_row (m : Matrix) {r c : Nat} (ok : MatOK m r c) (i : Nat) (hi : i < r) : Sat Tryd.prog 59 [(true, Enc.enc m), (false, [.int .i64 i])] (.one (.c (.slice 1 ((rowL m i).map Enc.enc))), []) := by
  obtain ⟨p, rows, columns, cells⟩ := m
  have ok0 := ok
  obtain ⟨hp, hr, hc, hlen, hel, hrb, hcb⟩ := ok
  simp only at hr hc hp hlen hel
  subst hr; subst hc
  have hle : (i + 1) * c ≤ r * c := Nat.mul_le_mul_right _ hi
  have h2 := ok0.rc
  have hs : (i + 1) * c = i * c + c := Nat.succ_mul i c
  have hlc : (cells.map (Enc.enc (α := Int))).length = cells.length := by simp
  refine Sat.intro tok mixed Tryd.func59 rfl rfl ?_
  ((conv => whnf); repeat ((first | refine B0 ?_ | refine B1 ?_ | refine D1 ?_ | refine D2 ?_ | refine CallC.r ?_); conv => whnf))
  ((conv => whnf); repeat ((first | refine B0 ?_ | refine B1 ?_ | refine D1 ?_ | refine D2 ?_ | refine CallC.r ?_); conv => whnf))
  refine Pick.at64 (z := ((i * c : Nat) : Int)) (by push_cast; rfl) (by omega) ?_
  ((conv => whnf); repeat ((first | refine B0 ?_ | refine B1 ?_ | refine D1 ?_ | refine D2 ?_ | refine CallC.r ?_); conv => whnf))
  refine Pick.at64 (z := (i + 1 : Nat)) (by simp) (by omega) ?_
  ((conv => whnf); repeat ((first | refine B0 ?_ | refine B1 ?_ | refine D1 ?_ | refine D2 ?_ | refine CallC.r ?_); conv => whnf))
  refine Pick.at64 (z := (((i + 1) * c : Nat) : Int)) (by push_cast; rfl) (by omega) ?_
  ((conv => whnf); repeat ((first | refine B0 ?_ | refine B1 ?_ | refine D1 ?_ | refine D2 ?_ | refine CallC.r ?_); conv => whnf))
  refine Side.mk (by rw [hlc, hlen]; omega) ?_
  ((conv => whnf); repeat ((first | refine B0 ?_ | refine B1 ?_ | refine D1 ?_ | refine D2 ?_ | refine CallC.r ?_); conv => whnf))
  refine ResOK.same ?_
  simp only [rowL, Int.toNat_natCast, List.map_drop, List.map_take]

theorem s_CloneInt (xs : List Int) (hb : xs.length ≤ 1048576) : Sat Tryd.prog 58 [(false, Enc.enc xs)] (.one (.rs 0), [(0, .arr 1 (xs.map Enc.enc))]) := by
  refine Sat.intro tok mixed Tryd.func58 rfl rfl ?_
  ((conv => whnf); repeat ((first | refine B0 ?_ | refine B1 ?_ | refine D1 ?_ | refine D2 ?_ | refine CallC.r ?_); conv => whnf))
  intro b hb0
  ((conv => whnf); repeat ((first | refine B0 ?_ | refine B1 ?_ | refine D1 ?_ | refine D2 ?_ | refine CallC.r ?_); conv => whnf))
  refine Br.mk (fun h => ?_) (fun h => ?_) <;> ((conv => whnf); repeat ((first | refine B0 ?_ | refine B1 ?_ | refine D1 ?_ | refine D2 ?_ | refine CallC.r ?_); conv => whnf))
  · have e : xs = [] := by simpa using hb0 h
    subst e
    exact ResOK.same rfl
  · refine Side.mk (by simp only [List.length_map, List.length_nil]; omega) ?_
    ((conv => whnf); repeat ((first | refine B0 ?_ | refine B1 ?_ | refine D1 ?_ | refine D2 ?_ | refine CallC.r ?_); conv => whnf))
    exact ResOK.same (by simp)

theorem s_rowsOf (m : Matrix) {r c : Nat} (ok : MatOK m r c) : Sat Tryd.prog 35 [(true, Enc.enc m)] (.one (.rs 0), [(0, .arr 1 ((rowsL m).map Enc.enc))]) := by
  have hrn := ok.rn
  have hrow := ok.rows
  have hrb := ok.rb
  have hcb := ok.cb
  refine Sat.intro tok mixed Tryd.func35 rfl rfl ?_
  ((conv => whnf); repeat ((first | refine B0 ?_ | refine B1 ?_ | refine D1 ?_ | refine D2 ?_ | refine CallC.r ?_); conv => whnf))
  refine Pick.mk [1, 3, 6, 7] trivial ?_
  ((conv => whnf); repeat ((first | refine B0 ?_ | refine B1 ?_ | refine D1 ?_ | refine D2 ?_ | refine CallC.r ?_); conv => whnf))
  refine LoopL.over (fun (i : Nat) => [(7, .one (.c (.int .i64 ((i : Int)))))]) (fun (i : Nat) => [(192, .arr 1 (List.map Enc.enc ((List.range i).map (rowL m))))]) (fun (i : Nat) => r - i) (fun (i : Nat) => i ≤ r) ?_ 0 (Nat.zero_le _)
  intro i hi ih
  ((conv => whnf); repeat ((first | refine B0 ?_ | refine B1 ?_ | refine D1 ?_ | refine D2 ?_ | refine CallC.r ?_); conv => whnf))
  refine Br.mk (fun h => ?_) (fun h => ?_) <;> ((conv => whnf); repeat ((first | refine B0 ?_ | refine B1 ?_ | refine D1 ?_ | refine D2 ?_ | refine CallC.r ?_); conv => whnf))
  · simp [hrow] at h
    have hlen := ok.rowLen h
    refine Pick.mk _ (s_row m ok i h) ?_
    ((conv => whnf); repeat ((first | refine B0 ?_ | refine B1 ?_ | refine D1 ?_ | refine D2 ?_ | refine CallC.r ?_); conv => whnf))
    refine Pick.mk _ (s_CloneInt (rowL m i) (by omega)) ?_
    ((conv => whnf); repeat ((first | refine B0 ?_ | refine B1 ?_ | refine D1 ?_ | refine D2 ?_ | refine CallC.r ?_); conv => whnf))
    refine Pick.mk false trivial ?_
    ((conv => whnf); repeat ((first | refine B0 ?_ | refine B1 ?_ | refine D1 ?_ | refine D2 ?_ | refine CallC.r ?_); conv => whnf))
    refine Side.mk (by simp only [List.length_map, List.length_range, List.length_cons, List.length_nil]; omega) ?_
    ((conv => whnf); repeat ((first | refine B0 ?_ | refine B1 ?_ | refine D1 ?_ | refine D2 ?_ | refine CallC.r ?_); conv => whnf))
    refine Pick.at64 (z := (i + 1 : Nat)) (by simp) (by omega) ?_
    ((conv => whnf); repeat ((first | refine B0 ?_ | refine B1 ?_ | refine D1 ?_ | refine D2 ?_ | refine CallC.r ?_); conv => whnf))
    have hn := ih (i + 1) (by omega) (by omega)
    rw [List.range_succ, List.map_append, List.map_append] at hn
    exact hn
  · simp [hrow] at h
    obtain rfl : i = r := by omega
    exact ResOK.same (by rw [rowsL, hrn])
end Go.Proofs.YtnafogjagbhdbaaDoor.Pi
