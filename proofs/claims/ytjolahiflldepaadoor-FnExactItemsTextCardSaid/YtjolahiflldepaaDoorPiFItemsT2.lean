/- The text of items, the program. No statement of the seat is proved here. -/
import Derived.Test.YtjolahiflldepaaDoorPiFItemsT
namespace Go.Proofs.YtjolahiflldepaaDoor.Pi
open Go
set_option maxRecDepth 10000
set_option maxHeartbeats 3200000
set_option linter.unusedVariables false

def txtI (xs : List Item) : ByteArray := if okItems xs = true then pT xs xs.length else ⟨#[]⟩
theorem s_impl_ItemsText (xs : List Item) (o : Enc.ok xs) (hw : Enc.wt xs ≤ 1048576) : Sat Tryd.prog 14 [(false, Enc.enc xs)] (.one (.c (.str (txtI xs))), []) := by
  have hlw : xs.length ≤ Enc.wt xs := Nat.le_add_right _ _
  refine Sat.intro tok mixed Tryd.func14 rfl rfl ?_
  ((conv => whnf); repeat ((first | refine B0 ?_ | refine B1 ?_ | refine D1 ?_ | refine D2 ?_ | refine CallC.r ?_); conv => whnf))
  refine Pick.mk _ (s_impl_ValidItems xs o (by omega)) ?_
  ((conv => whnf); repeat ((first | refine B0 ?_ | refine B1 ?_ | refine D1 ?_ | refine D2 ?_ | refine CallC.r ?_); conv => whnf))
  refine Br.mk (fun hk => ?_) (fun hk => ?_) <;> ((conv => whnf); repeat ((first | refine B0 ?_ | refine B1 ?_ | refine D1 ?_ | refine D2 ?_ | refine CallC.r ?_); conv => whnf))
  · have hk : okItems xs = false := by simpa using hk
    exact ResOK.same (by rw [txtI, if_neg (by rw [hk]; simp)])
  have hk : okItems xs = true := by simpa using hk
  have hb := items_b hk hw
  have h16 := items_16 hk
  refine Pick.mk [3, 10, 11, 12] trivial ?_
  ((conv => whnf); repeat ((first | refine B0 ?_ | refine B1 ?_ | refine D1 ?_ | refine D2 ?_ | refine CallC.r ?_); conv => whnf))
  refine LoopL.over (fun (i : Nat) => [(12, .one (.c (.int .i64 ((i : Int)))))]) (fun (i : Nat) => [(192, .arr 1 (List.map Enc.enc ((xs.take i).map itT)))]) (fun (i : Nat) => xs.length - i) (fun (i : Nat) => i ≤ xs.length) ?_ 0 (Nat.zero_le _)
  intro i g1 ih
  ((conv => whnf); repeat ((first | refine B0 ?_ | refine B1 ?_ | refine D1 ?_ | refine D2 ?_ | refine CallC.r ?_); conv => whnf))
  refine Br.mk (fun h => ?_) (fun h => ?_) <;> ((conv => whnf); repeat ((first | refine B0 ?_ | refine B1 ?_ | refine D1 ?_ | refine D2 ?_ | refine CallC.r ?_); conv => whnf))
  · have h : i < xs.length := by simp only [List.length_map, decide_eq_true_eq] at h; omega
    have hx := hb _ (List.getElem_mem h)
    have hn := ih (i + 1) (by omega) (by omega)
    refine Pick.ix h ?_
    ((conv => whnf); repeat ((first | refine B0 ?_ | refine B1 ?_ | refine CallC.r ?_); conv => whnf))
    refine Pick.drawC 11 (by decide +kernel) ?_
    ((conv => whnf); repeat ((first | refine B0 ?_ | refine B1 ?_ | refine D1 ?_ | refine D2 ?_ | refine CallC.r ?_); conv => whnf))
    have hnl : xs[i].needs.length ≤ 1048576 := by have := item_wt xs[i]; have := hx.w; omega
    refine Pick.mk _ (s_Decimal xs[i].made ⟨by have := hx.m0; omega, by have := hx.m1; omega⟩) ?_
    ((conv => whnf); repeat ((first | refine B0 ?_ | refine B1 ?_ | refine D1 ?_ | refine D2 ?_ | refine CallC.r ?_); conv => whnf))
    refine Pick.mk _ (s_Decimal xs[i].cost ⟨by have := hx.c0; omega, by have := hx.c1; omega⟩) ?_
    ((conv => whnf); repeat ((first | refine B0 ?_ | refine B1 ?_ | refine D1 ?_ | refine D2 ?_ | refine CallC.r ?_); conv => whnf))
    refine Side.mk (by simp only [List.length_map, List.length_cons, List.length_nil]; omega) ?_
    ((conv => whnf); repeat ((first | refine B0 ?_ | refine B1 ?_ | refine D1 ?_ | refine D2 ?_ | refine CallC.r ?_); conv => whnf))
    have hjl : (Lib.join (([xs[i].name, itoaB xs[i].made, itoaB xs[i].cost] ++ xs[i].needs).map (·.data.toList)) sp.data.toList).length ≤ 140737488355328 := by
      have h1 := it_size hx xs[i].needs.length
      have h2 : (itT xs[i]).size = (headT xs[i]).size + (tailT xs[i] xs[i].needs.length).size := by rw [itT_eq, ByteArray.size_append]
      rw [bl_size, itT, bl_join] at h2
      show (Lib.join (([xs[i].name, itoaB xs[i].made, itoaB xs[i].cost] ++ xs[i].needs).map bl) (bl sp)).length ≤ 140737488355328
      omega
    have hj := s_JoinS ([xs[i].name, itoaB xs[i].made, itoaB xs[i].cost] ++ xs[i].needs) sp (by simp only [List.length_append, List.length_cons, List.length_nil]; omega) hjl
    rw [List.map_append] at hj
    refine Pick.mk _ hj ?_
    ((conv => whnf); repeat ((first | refine B0 ?_ | refine B1 ?_ | refine D1 ?_ | refine D2 ?_ | refine CallC.r ?_); conv => whnf))
    refine Side.mk (by simp only [List.length_map, List.length_cons, List.length_nil, List.length_take]; omega) ?_
    ((conv => whnf); repeat ((first | refine B0 ?_ | refine B1 ?_ | refine D1 ?_ | refine D2 ?_ | refine CallC.r ?_); conv => whnf))
    refine Pick.at64 (z := (i + 1 : Nat)) (by simp) (by omega) ?_
    ((conv => whnf); repeat ((first | refine B0 ?_ | refine B1 ?_ | refine D1 ?_ | refine D2 ?_ | refine CallC.r ?_); conv => whnf))
    rw [List.take_add_one, List.getElem?_eq_getElem h, Option.toList_some, List.map_append, List.map_append] at hn
    exact hn
  · have h : i = xs.length := by simp only [List.length_map, decide_eq_false_iff_not] at h; omega
    subst h
    rw [List.take_length]
    have hjl : (Lib.join ((xs.map itT).map (·.data.toList)) sl.data.toList).length ≤ 140737488355328 := by
      have h1 := pT_size hb xs.length
      rw [pT_eq xs (Nat.le_refl _), preT, List.take_length, bl_size, bl_join] at h1
      show (Lib.join ((xs.map itT).map bl) (bl sl)).length ≤ 140737488355328
      have h2 : xs.length * 1048701 ≤ 16 * 1048701 := Nat.mul_le_mul_right _ h16
      omega
    refine Pick.mk _ (s_JoinS (xs.map itT) sl (by rw [List.length_map]; omega) hjl) ?_
    ((conv => whnf); repeat ((first | refine B0 ?_ | refine B1 ?_ | refine D1 ?_ | refine D2 ?_ | refine CallC.r ?_); conv => whnf))
    exact ResOK.same (by rw [txtI, if_pos hk, pT_eq xs (Nat.le_refl _), preT, List.take_length])
theorem s_spec_ItemsText (xs : List Item) (o : Enc.ok xs) (hw : Enc.wt xs ≤ 1048576) : Sat Tryd.prog 12 [(false, Enc.enc xs)] (.one (.c (.str (txtI xs))), []) := by
  refine Sat.intro tok mixed Tryd.func12 rfl rfl ?_
  ((conv => whnf); repeat ((first | refine B0 ?_ | refine B1 ?_ | refine D1 ?_ | refine D2 ?_ | refine CallC.r ?_); conv => whnf))
  refine Pick.mk _ (s_l28Ok xs o) ?_
  ((conv => whnf); repeat ((first | refine B0 ?_ | refine B1 ?_ | refine D1 ?_ | refine D2 ?_ | refine CallC.r ?_); conv => whnf))
  refine Br.mk (fun hk => ?_) (fun hk => ?_) <;> ((conv => whnf); repeat ((first | refine B0 ?_ | refine B1 ?_ | refine D1 ?_ | refine D2 ?_ | refine CallC.r ?_); conv => whnf))
  · have hk : okItems xs = false := by simpa using hk
    exact ResOK.same (by rw [txtI, if_neg (by rw [hk]; simp)])
  have hk : okItems xs = true := by simpa using hk
  refine Pick.mk _ (s_l28Text xs hk hw) ?_
  ((conv => whnf); repeat ((first | refine B0 ?_ | refine B1 ?_ | refine D1 ?_ | refine D2 ?_ | refine CallC.r ?_); conv => whnf))
  exact ResOK.same (by rw [txtI, if_pos hk])
end Go.Proofs.YtjolahiflldepaaDoor.Pi
