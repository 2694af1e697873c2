/- Proofs that are valid, the reference and the program. No statement of the seat is proved here. -/
import Derived.Test.YtnafogjagbhdbaaDoorPiFMatrix
namespace Go.Proofs.YtnafogjagbhdbaaDoor.Pi
open Go
set_option maxRecDepth 10000
set_option maxHeartbeats 4000000
set_option linter.unusedVariables false

theorem Pick.orders {P : Program} {tt : TT} {ops : Array Oper} {n : Nat} {l : Array Bool} {s : St} {Q : St → Prop} {F G : Nat → Prop} (h : ∀ K : St → Prop, (∀ s', Q s' → K s') → anyM P tt ops K n l s) : Pick (drawR2 ops) fun m => match Nat.beq m 1000, Nat.ble 2000 m with | true, _ => anyM P tt ops Q n l s | false, false => F m | false, true => G m :=
  ⟨1000, Or.inl (Or.inr rfl), h Q fun _ h => h⟩

def stated (q : Proof) : Bool :=
  if q.kind == 1 then ((q.vectors.length : Int) == 2) && (okVecs q.claim.prime q.claim.rows (q.vectors.take 1) && okVecs q.claim.prime q.claim.columns (q.vectors.drop 1))
  else if q.kind == 2 then ((q.vectors.length : Int) == 2) && okVecs q.claim.prime q.claim.rows q.vectors
  else if q.kind == 3 then ((q.vectors.length : Int) == 1) && okVecs q.claim.prime q.claim.columns q.vectors
  else if q.kind == 4 then ((q.vectors.length : Int) == q.claim.columns) && okVecs q.claim.prime q.claim.rows q.vectors
  else if q.kind == 5 then ((q.vectors.length : Int).tmod 2 == 0) && (okVecs q.claim.prime q.claim.columns (q.vectors.take (q.vectors.length / 2)) && okVecs q.claim.prime q.claim.rows (q.vectors.drop (q.vectors.length / 2)))
  else if q.kind == 6 then ((q.vectors.length : Int).tmod 2 == 0) && (okVecs q.claim.prime q.claim.rows (q.vectors.take (q.vectors.length / 2)) && okVecs q.claim.prime q.claim.columns (q.vectors.drop (q.vectors.length / 2)))
  else false
def okProof (q : Proof) : Bool := okMatrix q.claim && (decide ((q.vectors.length : Int) ≤ 64) && stated q)

theorem half (n : Nat) : ((n : Nat) : Int).tdiv 2 = ((n / 2 : Nat) : Int) := by
  rw [Int.tdiv_eq_ediv_of_nonneg (by omega)]; omega

theorem ok_take {xs : List (List Int)} (o : Enc.ok xs) (h : Nat) : Enc.ok (xs.take h) := ⟨by have := o.1; simp; omega, fun x hx => o.2 x (List.mem_of_mem_take hx)⟩
theorem ok_drop {xs : List (List Int)} (o : Enc.ok xs) (h : Nat) : Enc.ok (xs.drop h) := ⟨by have := o.1; simp; omega, fun x hx => o.2 x (List.mem_of_mem_drop hx)⟩

theorem s_of1 (xs : List (List Int)) (o : Enc.ok xs) (m : Matrix) (hp : 0 ≤ m.prime ∧ m.prime ≤ 9223372036854775807) : Sat Tryd.prog 53 ((false, Enc.enc xs) :: [CV.ptr 4 (Enc.enc m)].map fun y => (false, [y])) (.one (.c (.bool (okVecs m.prime m.rows xs))), []) := by
  refine Sat.intro tok mixed Tryd.func53 rfl rfl ?_
  ((conv => whnf); repeat ((first | refine B0 ?_ | refine B1 ?_ | refine D1 ?_ | refine D2 ?_ | refine CallC.r ?_); conv => whnf))
  refine Pick.mk _ (s_areVectors xs o m.rows m.prime hp) ?_
  ((conv => whnf); repeat ((first | refine B0 ?_ | refine B1 ?_ | refine D1 ?_ | refine D2 ?_ | refine CallC.r ?_); conv => whnf))
  exact ResOK.same rfl
theorem s_take1 (xs : List (List Int)) (o : Enc.ok xs) (m : Matrix) (hp : 0 ≤ m.prime ∧ m.prime ≤ 9223372036854775807) (h : Nat) : Sat Tryd.prog 53 ((false, [.slice 1 (((xs.map Enc.enc).take h).drop 0)]) :: [CV.ptr 4 (Enc.enc m)].map fun y => (false, [y])) (.one (.c (.bool (okVecs m.prime m.rows (xs.take h)))), []) := by
  have := s_of1 (xs.take h) (ok_take o h) m hp
  rw [show Enc.enc (xs.take h) = [CV.slice 1 (((xs.map Enc.enc).take h).drop 0)] by rw [List.drop_zero, ← List.map_take]; rfl] at this
  exact this
theorem s_drop1 (xs : List (List Int)) (o : Enc.ok xs) (m : Matrix) (hp : 0 ≤ m.prime ∧ m.prime ≤ 9223372036854775807) (h : Nat) : Sat Tryd.prog 53 ((false, [.slice 1 (((xs.map Enc.enc).take (xs.map (Enc.enc (α := List Int))).length).drop h)]) :: [CV.ptr 4 (Enc.enc m)].map fun y => (false, [y])) (.one (.c (.bool (okVecs m.prime m.rows (xs.drop h)))), []) := by
  have := s_of1 (xs.drop h) (ok_drop o h) m hp
  rw [show Enc.enc (xs.drop h) = [CV.slice 1 (((xs.map Enc.enc).take (xs.map (Enc.enc (α := List Int))).length).drop h)] by rw [List.take_length, ← List.map_drop]; rfl] at this
  exact this

theorem s_of2 (xs : List (List Int)) (o : Enc.ok xs) (m : Matrix) (hp : 0 ≤ m.prime ∧ m.prime ≤ 9223372036854775807) : Sat Tryd.prog 55 ((false, Enc.enc xs) :: [CV.ptr 4 (Enc.enc m)].map fun y => (false, [y])) (.one (.c (.bool (okVecs m.prime m.columns xs))), []) := by
  refine Sat.intro tok mixed Tryd.func55 rfl rfl ?_
  ((conv => whnf); repeat ((first | refine B0 ?_ | refine B1 ?_ | refine D1 ?_ | refine D2 ?_ | refine CallC.r ?_); conv => whnf))
  refine Pick.mk _ (s_areVectors xs o m.columns m.prime hp) ?_
  ((conv => whnf); repeat ((first | refine B0 ?_ | refine B1 ?_ | refine D1 ?_ | refine D2 ?_ | refine CallC.r ?_); conv => whnf))
  exact ResOK.same rfl
theorem s_take2 (xs : List (List Int)) (o : Enc.ok xs) (m : Matrix) (hp : 0 ≤ m.prime ∧ m.prime ≤ 9223372036854775807) (h : Nat) : Sat Tryd.prog 55 ((false, [.slice 1 (((xs.map Enc.enc).take h).drop 0)]) :: [CV.ptr 4 (Enc.enc m)].map fun y => (false, [y])) (.one (.c (.bool (okVecs m.prime m.columns (xs.take h)))), []) := by
  have := s_of2 (xs.take h) (ok_take o h) m hp
  rw [show Enc.enc (xs.take h) = [CV.slice 1 (((xs.map Enc.enc).take h).drop 0)] by rw [List.drop_zero, ← List.map_take]; rfl] at this
  exact this
theorem s_drop2 (xs : List (List Int)) (o : Enc.ok xs) (m : Matrix) (hp : 0 ≤ m.prime ∧ m.prime ≤ 9223372036854775807) (h : Nat) : Sat Tryd.prog 55 ((false, [.slice 1 (((xs.map Enc.enc).take (xs.map (Enc.enc (α := List Int))).length).drop h)]) :: [CV.ptr 4 (Enc.enc m)].map fun y => (false, [y])) (.one (.c (.bool (okVecs m.prime m.columns (xs.drop h)))), []) := by
  have := s_of2 (xs.drop h) (ok_drop o h) m hp
  rw [show Enc.enc (xs.drop h) = [CV.slice 1 (((xs.map Enc.enc).take (xs.map (Enc.enc (α := List Int))).length).drop h)] by rw [List.take_length, ← List.map_drop]; rfl] at this
  exact this

theorem s_areStated (q : Proof) (o : Enc.ok q) (hp : 0 ≤ q.claim.prime ∧ q.claim.prime ≤ 9223372036854775807) : Sat Tryd.prog 30 [(true, Enc.enc q)] (.one (.c (.bool (stated q))), []) := by
  have ov := o.2.2
  have o1 := ov.1
  simp only [maxLen] at o1
  have hl : (q.vectors.map (Enc.enc (α := List Int))).length = q.vectors.length := by simp
  refine Sat.intro tok mixed Tryd.func30 rfl rfl ?_
  ((conv => whnf); repeat ((first | refine B0 ?_ | refine B1 ?_ | refine CallC.r ?_); conv => whnf))
  refine Pick.orders fun K hK => ?_
  have rest : K ⟨[.agg ((Enc.enc q).map .c), .one (.pb 64 0 6), .one (.c (.bool false)), .one (.pb 192 0 4), .one (.c (.slice 1 (q.vectors.map Enc.enc))), .one .undef, .one .undef, .one .undef, .one (.pb 64 1 4), .agg ((Enc.enc q.claim).map .c), .one (.pb 64 5 1), .one (.c (.slice 1 (q.vectors.map Enc.enc))), .one .undef, .one .undef, .one .undef, .one .undef, .one .undef, .one .undef, .one .undef, .one .undef, .one .undef, .one .undef, .one .undef, .one .undef, .one .undef, .one .undef, .one .undef, .one .undef, .one .undef, .one .undef, .one .undef, .one .undef, .one .undef, .one .undef, .one .undef, .one .undef, .one .undef, .one .undef, .one .undef, .one .undef, .one .undef, .one .undef, .one .undef, .one .undef, .one .undef, .one .undef, .one .undef, .one .undef, .one .undef, .one .undef, .one .undef, .one .undef, .one .undef, .one .undef, .one .undef, .one .undef, .one .undef, .one .undef, .one .undef, .one .undef, .one .undef, .one .undef, .one .undef, .one .undef, .one .undef, .one .undef, .one .undef, .one .undef, .one .undef, .one .undef, .one .undef, .one .undef, .one .undef, .one .undef, .one .undef, .one .undef, .one .undef, .one .undef, .one .undef, .one .undef, .one .undef, .one .undef, .one .undef, .one .undef, .one .undef, .one .undef, .one .undef, .one .undef, .one .undef, .one .undef, .one .undef, .one .undef, .one .undef, .one .undef, .one .undef, .one .undef, .one .undef, .one .undef, .one .undef, .one .undef, .one .undef, .one .undef, .one .undef, .one .undef, .one .undef, .one .undef, .one .undef, .one .undef], [(64, .box ((Enc.enc q).map .c)), (192, .box ((Enc.enc q.claim).map .c))]⟩ := hK _ (by
    ((conv => whnf); repeat ((first | refine B0 ?_ | refine B1 ?_ | refine D1 ?_ | refine D2 ?_ | refine CallC.r ?_); conv => whnf))
    refine Side.mk (by omega) ?_
    ((conv => whnf); repeat ((first | refine B0 ?_ | refine B1 ?_ | refine D1 ?_ | refine D2 ?_ | refine CallC.r ?_); conv => whnf))
    refine Pick.at64 (z := ((q.vectors.length / 2 : Nat) : Int)) (by rw [hl, half]) (by omega) ?_
    ((conv => whnf); repeat ((first | refine B0 ?_ | refine B1 ?_ | refine D1 ?_ | refine D2 ?_ | refine CallC.r ?_); conv => whnf))
    refine Br.mk (fun k1 => ?_) (fun k1 => ?_) <;> ((conv => whnf); repeat ((first | refine B0 ?_ | refine B1 ?_ | refine D1 ?_ | refine D2 ?_ | refine CallC.r ?_); conv => whnf))
    · refine Br.mk (fun e1 => ?_) (fun e1 => ?_) <;> ((conv => whnf); repeat ((first | refine B0 ?_ | refine B1 ?_ | refine D1 ?_ | refine D2 ?_ | refine CallC.r ?_); conv => whnf))
      · have e0 := e1
        rw [hl] at e1
        simp only [beq_iff_eq] at e1
        refine Side.mk (by rw [hl]; omega) ?_
        ((conv => whnf); repeat ((first | refine B0 ?_ | refine B1 ?_ | refine D1 ?_ | refine D2 ?_ | refine CallC.r ?_); conv => whnf))
        refine Pick.mk _ (s_take1 q.vectors ov q.claim hp 1) ?_
        ((conv => whnf); repeat ((first | refine B0 ?_ | refine B1 ?_ | refine D1 ?_ | refine D2 ?_ | refine CallC.r ?_); conv => whnf))
        refine Br.mk (fun e2 => ?_) (fun e2 => ?_) <;> ((conv => whnf); repeat ((first | refine B0 ?_ | refine B1 ?_ | refine D1 ?_ | refine D2 ?_ | refine CallC.r ?_); conv => whnf))
        · refine Side.mk (by rw [hl]; omega) ?_
          ((conv => whnf); repeat ((first | refine B0 ?_ | refine B1 ?_ | refine D1 ?_ | refine D2 ?_ | refine CallC.r ?_); conv => whnf))
          refine Pick.mk _ (s_drop2 q.vectors ov q.claim hp 1) ?_
          ((conv => whnf); repeat ((first | refine B0 ?_ | refine B1 ?_ | refine D1 ?_ | refine D2 ?_ | refine CallC.r ?_); conv => whnf))
          rw [hl] at e0
          exact ResOK.same (by simp only [stated, k1, Bool.false_eq_true, if_false, if_true, e0, e2, Bool.true_and])
        · rw [hl] at e0
          exact ResOK.same (by simp only [stated, k1, Bool.false_eq_true, if_false, if_true, e0, e2, Bool.true_and, Bool.false_and])
      · rw [hl] at e1
        exact ResOK.same (by simp only [stated, k1, Bool.false_eq_true, if_false, if_true, e1, Bool.false_and])
    · skip
      refine Br.mk (fun k2 => ?_) (fun k2 => ?_) <;> ((conv => whnf); repeat ((first | refine B0 ?_ | refine B1 ?_ | refine D1 ?_ | refine D2 ?_ | refine CallC.r ?_); conv => whnf))
      · refine Br.mk (fun e1 => ?_) (fun e1 => ?_) <;> ((conv => whnf); repeat ((first | refine B0 ?_ | refine B1 ?_ | refine D1 ?_ | refine D2 ?_ | refine CallC.r ?_); conv => whnf))
        · refine Pick.mk _ (s_of1 q.vectors ov q.claim hp) ?_
          ((conv => whnf); repeat ((first | refine B0 ?_ | refine B1 ?_ | refine D1 ?_ | refine D2 ?_ | refine CallC.r ?_); conv => whnf))
          rw [hl] at e1; exact ResOK.same (by simp only [stated, k1, k2, Bool.false_eq_true, if_false, if_true, e1, Bool.true_and])
        · rw [hl] at e1; exact ResOK.same (by simp only [stated, k1, k2, Bool.false_eq_true, if_false, if_true, e1, Bool.false_and])
      · skip
        refine Br.mk (fun k3 => ?_) (fun k3 => ?_) <;> ((conv => whnf); repeat ((first | refine B0 ?_ | refine B1 ?_ | refine D1 ?_ | refine D2 ?_ | refine CallC.r ?_); conv => whnf))
        · refine Br.mk (fun e1 => ?_) (fun e1 => ?_) <;> ((conv => whnf); repeat ((first | refine B0 ?_ | refine B1 ?_ | refine D1 ?_ | refine D2 ?_ | refine CallC.r ?_); conv => whnf))
          · refine Pick.mk _ (s_of2 q.vectors ov q.claim hp) ?_
            ((conv => whnf); repeat ((first | refine B0 ?_ | refine B1 ?_ | refine D1 ?_ | refine D2 ?_ | refine CallC.r ?_); conv => whnf))
            rw [hl] at e1; exact ResOK.same (by simp only [stated, k1, k2, k3, Bool.false_eq_true, if_false, if_true, e1, Bool.true_and])
          · rw [hl] at e1; exact ResOK.same (by simp only [stated, k1, k2, k3, Bool.false_eq_true, if_false, if_true, e1, Bool.false_and])
        · skip
          refine Br.mk (fun k4 => ?_) (fun k4 => ?_) <;> ((conv => whnf); repeat ((first | refine B0 ?_ | refine B1 ?_ | refine D1 ?_ | refine D2 ?_ | refine CallC.r ?_); conv => whnf))
          · refine Pick.mk _ (s_sizeInts q.vectors) ?_
            ((conv => whnf); repeat ((first | refine B0 ?_ | refine B1 ?_ | refine D1 ?_ | refine D2 ?_ | refine CallC.r ?_); conv => whnf))
            refine Br.mk (fun e1 => ?_) (fun e1 => ?_) <;> ((conv => whnf); repeat ((first | refine B0 ?_ | refine B1 ?_ | refine D1 ?_ | refine D2 ?_ | refine CallC.r ?_); conv => whnf))
            · refine Pick.mk _ (s_of1 q.vectors ov q.claim hp) ?_
              ((conv => whnf); repeat ((first | refine B0 ?_ | refine B1 ?_ | refine D1 ?_ | refine D2 ?_ | refine CallC.r ?_); conv => whnf))
              exact ResOK.same (by simp only [stated, k1, k2, k3, k4, Bool.false_eq_true, if_false, if_true, e1, Bool.true_and])
            · exact ResOK.same (by simp only [stated, k1, k2, k3, k4, Bool.false_eq_true, if_false, if_true, e1, Bool.false_and])
          · skip
            refine Br.mk (fun k5 => ?_) (fun k5 => ?_) <;> ((conv => whnf); repeat ((first | refine B0 ?_ | refine B1 ?_ | refine D1 ?_ | refine D2 ?_ | refine CallC.r ?_); conv => whnf))
            · refine Side.mk (by omega) ?_
              ((conv => whnf); repeat ((first | refine B0 ?_ | refine B1 ?_ | refine D1 ?_ | refine D2 ?_ | refine CallC.r ?_); conv => whnf))
              refine Br.mk (fun e1 => ?_) (fun e1 => ?_) <;> ((conv => whnf); repeat ((first | refine B0 ?_ | refine B1 ?_ | refine D1 ?_ | refine D2 ?_ | refine CallC.r ?_); conv => whnf))
              · have e0 := e1
                rw [hl] at e1
                simp only [beq_iff_eq] at e1
                refine Side.mk (by rw [hl]; omega) ?_
                ((conv => whnf); repeat ((first | refine B0 ?_ | refine B1 ?_ | refine D1 ?_ | refine D2 ?_ | refine CallC.r ?_); conv => whnf))
                refine Pick.mk _ (s_take2 q.vectors ov q.claim hp (q.vectors.length / 2)) ?_
                ((conv => whnf); repeat ((first | refine B0 ?_ | refine B1 ?_ | refine D1 ?_ | refine D2 ?_ | refine CallC.r ?_); conv => whnf))
                refine Br.mk (fun e2 => ?_) (fun e2 => ?_) <;> ((conv => whnf); repeat ((first | refine B0 ?_ | refine B1 ?_ | refine D1 ?_ | refine D2 ?_ | refine CallC.r ?_); conv => whnf))
                · refine Side.mk (by rw [hl]; omega) ?_
                  ((conv => whnf); repeat ((first | refine B0 ?_ | refine B1 ?_ | refine D1 ?_ | refine D2 ?_ | refine CallC.r ?_); conv => whnf))
                  refine Pick.mk _ (s_drop1 q.vectors ov q.claim hp (q.vectors.length / 2)) ?_
                  ((conv => whnf); repeat ((first | refine B0 ?_ | refine B1 ?_ | refine D1 ?_ | refine D2 ?_ | refine CallC.r ?_); conv => whnf))
                  rw [hl] at e0
                  exact ResOK.same (by simp only [stated, k1, k2, k3, k4, k5, Bool.false_eq_true, if_false, if_true, e0, e2, Bool.true_and])
                · rw [hl] at e0
                  exact ResOK.same (by simp only [stated, k1, k2, k3, k4, k5, Bool.false_eq_true, if_false, if_true, e0, e2, Bool.true_and, Bool.false_and])
              · rw [hl] at e1
                exact ResOK.same (by simp only [stated, k1, k2, k3, k4, k5, Bool.false_eq_true, if_false, if_true, e1, Bool.false_and])
            · skip
              refine Br.mk (fun k6 => ?_) (fun k6 => ?_) <;> ((conv => whnf); repeat ((first | refine B0 ?_ | refine B1 ?_ | refine D1 ?_ | refine D2 ?_ | refine CallC.r ?_); conv => whnf))
              · refine Side.mk (by omega) ?_
                ((conv => whnf); repeat ((first | refine B0 ?_ | refine B1 ?_ | refine D1 ?_ | refine D2 ?_ | refine CallC.r ?_); conv => whnf))
                refine Br.mk (fun e1 => ?_) (fun e1 => ?_) <;> ((conv => whnf); repeat ((first | refine B0 ?_ | refine B1 ?_ | refine D1 ?_ | refine D2 ?_ | refine CallC.r ?_); conv => whnf))
                · have e0 := e1
                  rw [hl] at e1
                  simp only [beq_iff_eq] at e1
                  refine Side.mk (by rw [hl]; omega) ?_
                  ((conv => whnf); repeat ((first | refine B0 ?_ | refine B1 ?_ | refine D1 ?_ | refine D2 ?_ | refine CallC.r ?_); conv => whnf))
                  refine Pick.mk _ (s_take1 q.vectors ov q.claim hp (q.vectors.length / 2)) ?_
                  ((conv => whnf); repeat ((first | refine B0 ?_ | refine B1 ?_ | refine D1 ?_ | refine D2 ?_ | refine CallC.r ?_); conv => whnf))
                  refine Br.mk (fun e2 => ?_) (fun e2 => ?_) <;> ((conv => whnf); repeat ((first | refine B0 ?_ | refine B1 ?_ | refine D1 ?_ | refine D2 ?_ | refine CallC.r ?_); conv => whnf))
                  · refine Side.mk (by rw [hl]; omega) ?_
                    ((conv => whnf); repeat ((first | refine B0 ?_ | refine B1 ?_ | refine D1 ?_ | refine D2 ?_ | refine CallC.r ?_); conv => whnf))
                    refine Pick.mk _ (s_drop2 q.vectors ov q.claim hp (q.vectors.length / 2)) ?_
                    ((conv => whnf); repeat ((first | refine B0 ?_ | refine B1 ?_ | refine D1 ?_ | refine D2 ?_ | refine CallC.r ?_); conv => whnf))
                    rw [hl] at e0
                    exact ResOK.same (by simp only [stated, k1, k2, k3, k4, k5, k6, Bool.false_eq_true, if_false, if_true, e0, e2, Bool.true_and])
                  · rw [hl] at e0
                    exact ResOK.same (by simp only [stated, k1, k2, k3, k4, k5, k6, Bool.false_eq_true, if_false, if_true, e0, e2, Bool.true_and, Bool.false_and])
                · rw [hl] at e1
                  exact ResOK.same (by simp only [stated, k1, k2, k3, k4, k5, k6, Bool.false_eq_true, if_false, if_true, e1, Bool.false_and])
              · exact ResOK.same (by simp only [stated, k1, k2, k3, k4, k5, k6, Bool.false_eq_true, if_false, if_true]))
  refine Pick.mk [0, 2, 4] (by kernel_rfl) ?_
  ((conv => whnf); repeat ((first | refine B0 ?_ | refine B1 ?_ | refine CallC.r ?_); conv => whnf))
  refine And.intro ?_ ?_
  · ((conv => whnf); repeat ((first | refine B0 ?_ | refine B1 ?_ | refine CallC.r ?_); conv => whnf))
    refine Pick.mk [1, 2, 4] (by kernel_rfl) ?_
    ((conv => whnf); repeat ((first | refine B0 ?_ | refine B1 ?_ | refine CallC.r ?_); conv => whnf))
    refine And.intro ?_ ?_
    · ((conv => whnf); repeat ((first | refine B0 ?_ | refine B1 ?_ | refine CallC.r ?_); conv => whnf))
      refine Pick.mk [2, 4] (by kernel_rfl) ?_
      ((conv => whnf); repeat ((first | refine B0 ?_ | refine B1 ?_ | refine CallC.r ?_); conv => whnf))
      refine And.intro ?_ ?_
      · ((conv => whnf); repeat ((first | refine B0 ?_ | refine B1 ?_ | refine CallC.r ?_); conv => whnf))
        refine Pick.mk [3, 4] (by kernel_rfl) ?_
        ((conv => whnf); repeat ((first | refine B0 ?_ | refine B1 ?_ | refine CallC.r ?_); conv => whnf))
        refine And.intro ?_ ?_
        · ((conv => whnf); repeat ((first | refine B0 ?_ | refine B1 ?_ | refine CallC.r ?_); conv => whnf))
          refine Pick.mk [4] (by kernel_rfl) ?_
          ((conv => whnf); repeat ((first | refine B0 ?_ | refine B1 ?_ | refine CallC.r ?_); conv => whnf))
          refine And.intro ?_ trivial
          ((conv => whnf); repeat ((first | refine B0 ?_ | refine B1 ?_ | refine CallC.r ?_); conv => whnf))
          refine Pick.mk [5] (by kernel_rfl) ?_
          ((conv => whnf); repeat ((first | refine B0 ?_ | refine B1 ?_ | refine CallC.r ?_); conv => whnf))
          refine And.intro ?_ trivial
          ((conv => whnf); repeat ((first | refine B0 ?_ | refine B1 ?_ | refine CallC.r ?_); conv => whnf))
          refine Pick.mk [6] (by kernel_rfl) ?_
          ((conv => whnf); repeat ((first | refine B0 ?_ | refine B1 ?_ | refine CallC.r ?_); conv => whnf))
          refine And.intro ?_ trivial
          ((conv => whnf); repeat ((first | refine B0 ?_ | refine B1 ?_ | refine CallC.r ?_); conv => whnf))
          refine And.intro (by kernel_rfl) ?_
          ((conv => whnf); repeat ((first | refine B0 ?_ | refine B1 ?_ | refine CallC.r ?_); conv => whnf))
          exact rest
        ((conv => whnf); repeat ((first | refine B0 ?_ | refine B1 ?_ | refine CallC.r ?_); conv => whnf))
        refine And.intro ?_ trivial
        ((conv => whnf); repeat ((first | refine B0 ?_ | refine B1 ?_ | refine CallC.r ?_); conv => whnf))
        refine Pick.mk [3, 5] (by kernel_rfl) ?_
        ((conv => whnf); repeat ((first | refine B0 ?_ | refine B1 ?_ | refine CallC.r ?_); conv => whnf))
        refine And.intro ?_ ?_
        · ((conv => whnf); repeat ((first | refine B0 ?_ | refine B1 ?_ | refine CallC.r ?_); conv => whnf))
          refine Pick.mk [5] (by kernel_rfl) ?_
          ((conv => whnf); repeat ((first | refine B0 ?_ | refine B1 ?_ | refine CallC.r ?_); conv => whnf))
          refine And.intro ?_ trivial
          ((conv => whnf); repeat ((first | refine B0 ?_ | refine B1 ?_ | refine CallC.r ?_); conv => whnf))
          refine Pick.mk [6] (by kernel_rfl) ?_
          ((conv => whnf); repeat ((first | refine B0 ?_ | refine B1 ?_ | refine CallC.r ?_); conv => whnf))
          refine And.intro ?_ trivial
          ((conv => whnf); repeat ((first | refine B0 ?_ | refine B1 ?_ | refine CallC.r ?_); conv => whnf))
          refine And.intro (by kernel_rfl) ?_
          ((conv => whnf); repeat ((first | refine B0 ?_ | refine B1 ?_ | refine CallC.r ?_); conv => whnf))
          exact rest
        ((conv => whnf); repeat ((first | refine B0 ?_ | refine B1 ?_ | refine CallC.r ?_); conv => whnf))
        refine And.intro ?_ trivial
        ((conv => whnf); repeat ((first | refine B0 ?_ | refine B1 ?_ | refine CallC.r ?_); conv => whnf))
        refine Pick.mk [3] (by kernel_rfl) ?_
        ((conv => whnf); repeat ((first | refine B0 ?_ | refine B1 ?_ | refine CallC.r ?_); conv => whnf))
        refine And.intro ?_ trivial
        ((conv => whnf); repeat ((first | refine B0 ?_ | refine B1 ?_ | refine CallC.r ?_); conv => whnf))
        refine Pick.mk [6] (by kernel_rfl) ?_
        ((conv => whnf); repeat ((first | refine B0 ?_ | refine B1 ?_ | refine CallC.r ?_); conv => whnf))
        refine And.intro ?_ trivial
        ((conv => whnf); repeat ((first | refine B0 ?_ | refine B1 ?_ | refine CallC.r ?_); conv => whnf))
        refine And.intro (by kernel_rfl) ?_
        ((conv => whnf); repeat ((first | refine B0 ?_ | refine B1 ?_ | refine CallC.r ?_); conv => whnf))
        exact rest
      ((conv => whnf); repeat ((first | refine B0 ?_ | refine B1 ?_ | refine CallC.r ?_); conv => whnf))
      refine And.intro ?_ trivial
      ((conv => whnf); repeat ((first | refine B0 ?_ | refine B1 ?_ | refine CallC.r ?_); conv => whnf))
      refine Pick.mk [2, 5] (by kernel_rfl) ?_
      ((conv => whnf); repeat ((first | refine B0 ?_ | refine B1 ?_ | refine CallC.r ?_); conv => whnf))
      refine And.intro ?_ ?_
      · ((conv => whnf); repeat ((first | refine B0 ?_ | refine B1 ?_ | refine CallC.r ?_); conv => whnf))
        refine Pick.mk [3, 5] (by kernel_rfl) ?_
        ((conv => whnf); repeat ((first | refine B0 ?_ | refine B1 ?_ | refine CallC.r ?_); conv => whnf))
        refine And.intro ?_ ?_
        · ((conv => whnf); repeat ((first | refine B0 ?_ | refine B1 ?_ | refine CallC.r ?_); conv => whnf))
          refine Pick.mk [5] (by kernel_rfl) ?_
          ((conv => whnf); repeat ((first | refine B0 ?_ | refine B1 ?_ | refine CallC.r ?_); conv => whnf))
          refine And.intro ?_ trivial
          ((conv => whnf); repeat ((first | refine B0 ?_ | refine B1 ?_ | refine CallC.r ?_); conv => whnf))
          refine Pick.mk [6] (by kernel_rfl) ?_
          ((conv => whnf); repeat ((first | refine B0 ?_ | refine B1 ?_ | refine CallC.r ?_); conv => whnf))
          refine And.intro ?_ trivial
          ((conv => whnf); repeat ((first | refine B0 ?_ | refine B1 ?_ | refine CallC.r ?_); conv => whnf))
          refine And.intro (by kernel_rfl) ?_
          ((conv => whnf); repeat ((first | refine B0 ?_ | refine B1 ?_ | refine CallC.r ?_); conv => whnf))
          exact rest
        ((conv => whnf); repeat ((first | refine B0 ?_ | refine B1 ?_ | refine CallC.r ?_); conv => whnf))
        refine And.intro ?_ trivial
        ((conv => whnf); repeat ((first | refine B0 ?_ | refine B1 ?_ | refine CallC.r ?_); conv => whnf))
        refine Pick.mk [3] (by kernel_rfl) ?_
        ((conv => whnf); repeat ((first | refine B0 ?_ | refine B1 ?_ | refine CallC.r ?_); conv => whnf))
        refine And.intro ?_ trivial
        ((conv => whnf); repeat ((first | refine B0 ?_ | refine B1 ?_ | refine CallC.r ?_); conv => whnf))
        refine Pick.mk [6] (by kernel_rfl) ?_
        ((conv => whnf); repeat ((first | refine B0 ?_ | refine B1 ?_ | refine CallC.r ?_); conv => whnf))
        refine And.intro ?_ trivial
        ((conv => whnf); repeat ((first | refine B0 ?_ | refine B1 ?_ | refine CallC.r ?_); conv => whnf))
        refine And.intro (by kernel_rfl) ?_
        ((conv => whnf); repeat ((first | refine B0 ?_ | refine B1 ?_ | refine CallC.r ?_); conv => whnf))
        exact rest
      ((conv => whnf); repeat ((first | refine B0 ?_ | refine B1 ?_ | refine CallC.r ?_); conv => whnf))
      refine And.intro ?_ trivial
      ((conv => whnf); repeat ((first | refine B0 ?_ | refine B1 ?_ | refine CallC.r ?_); conv => whnf))
      refine Pick.mk [2] (by kernel_rfl) ?_
      ((conv => whnf); repeat ((first | refine B0 ?_ | refine B1 ?_ | refine CallC.r ?_); conv => whnf))
      refine And.intro ?_ trivial
      ((conv => whnf); repeat ((first | refine B0 ?_ | refine B1 ?_ | refine CallC.r ?_); conv => whnf))
      refine Pick.mk [3] (by kernel_rfl) ?_
      ((conv => whnf); repeat ((first | refine B0 ?_ | refine B1 ?_ | refine CallC.r ?_); conv => whnf))
      refine And.intro ?_ trivial
      ((conv => whnf); repeat ((first | refine B0 ?_ | refine B1 ?_ | refine CallC.r ?_); conv => whnf))
      refine Pick.mk [6] (by kernel_rfl) ?_
      ((conv => whnf); repeat ((first | refine B0 ?_ | refine B1 ?_ | refine CallC.r ?_); conv => whnf))
      refine And.intro ?_ trivial
      ((conv => whnf); repeat ((first | refine B0 ?_ | refine B1 ?_ | refine CallC.r ?_); conv => whnf))
      refine And.intro (by kernel_rfl) ?_
      ((conv => whnf); repeat ((first | refine B0 ?_ | refine B1 ?_ | refine CallC.r ?_); conv => whnf))
      exact rest
    ((conv => whnf); repeat ((first | refine B0 ?_ | refine B1 ?_ | refine CallC.r ?_); conv => whnf))
    refine And.intro ?_ ?_
    · ((conv => whnf); repeat ((first | refine B0 ?_ | refine B1 ?_ | refine CallC.r ?_); conv => whnf))
      refine Pick.mk [1, 3, 4] (by kernel_rfl) ?_
      ((conv => whnf); repeat ((first | refine B0 ?_ | refine B1 ?_ | refine CallC.r ?_); conv => whnf))
      refine And.intro ?_ ?_
      · ((conv => whnf); repeat ((first | refine B0 ?_ | refine B1 ?_ | refine CallC.r ?_); conv => whnf))
        refine Pick.mk [3, 4] (by kernel_rfl) ?_
        ((conv => whnf); repeat ((first | refine B0 ?_ | refine B1 ?_ | refine CallC.r ?_); conv => whnf))
        refine And.intro ?_ ?_
        · ((conv => whnf); repeat ((first | refine B0 ?_ | refine B1 ?_ | refine CallC.r ?_); conv => whnf))
          refine Pick.mk [4] (by kernel_rfl) ?_
          ((conv => whnf); repeat ((first | refine B0 ?_ | refine B1 ?_ | refine CallC.r ?_); conv => whnf))
          refine And.intro ?_ trivial
          ((conv => whnf); repeat ((first | refine B0 ?_ | refine B1 ?_ | refine CallC.r ?_); conv => whnf))
          refine Pick.mk [5] (by kernel_rfl) ?_
          ((conv => whnf); repeat ((first | refine B0 ?_ | refine B1 ?_ | refine CallC.r ?_); conv => whnf))
          refine And.intro ?_ trivial
          ((conv => whnf); repeat ((first | refine B0 ?_ | refine B1 ?_ | refine CallC.r ?_); conv => whnf))
          refine Pick.mk [6] (by kernel_rfl) ?_
          ((conv => whnf); repeat ((first | refine B0 ?_ | refine B1 ?_ | refine CallC.r ?_); conv => whnf))
          refine And.intro ?_ trivial
          ((conv => whnf); repeat ((first | refine B0 ?_ | refine B1 ?_ | refine CallC.r ?_); conv => whnf))
          refine And.intro (by kernel_rfl) ?_
          ((conv => whnf); repeat ((first | refine B0 ?_ | refine B1 ?_ | refine CallC.r ?_); conv => whnf))
          exact rest
        ((conv => whnf); repeat ((first | refine B0 ?_ | refine B1 ?_ | refine CallC.r ?_); conv => whnf))
        refine And.intro ?_ trivial
        ((conv => whnf); repeat ((first | refine B0 ?_ | refine B1 ?_ | refine CallC.r ?_); conv => whnf))
        refine Pick.mk [3, 5] (by kernel_rfl) ?_
        ((conv => whnf); repeat ((first | refine B0 ?_ | refine B1 ?_ | refine CallC.r ?_); conv => whnf))
        refine And.intro ?_ ?_
        · ((conv => whnf); repeat ((first | refine B0 ?_ | refine B1 ?_ | refine CallC.r ?_); conv => whnf))
          refine Pick.mk [5] (by kernel_rfl) ?_
          ((conv => whnf); repeat ((first | refine B0 ?_ | refine B1 ?_ | refine CallC.r ?_); conv => whnf))
          refine And.intro ?_ trivial
          ((conv => whnf); repeat ((first | refine B0 ?_ | refine B1 ?_ | refine CallC.r ?_); conv => whnf))
          refine Pick.mk [6] (by kernel_rfl) ?_
          ((conv => whnf); repeat ((first | refine B0 ?_ | refine B1 ?_ | refine CallC.r ?_); conv => whnf))
          refine And.intro ?_ trivial
          ((conv => whnf); repeat ((first | refine B0 ?_ | refine B1 ?_ | refine CallC.r ?_); conv => whnf))
          refine And.intro (by kernel_rfl) ?_
          ((conv => whnf); repeat ((first | refine B0 ?_ | refine B1 ?_ | refine CallC.r ?_); conv => whnf))
          exact rest
        ((conv => whnf); repeat ((first | refine B0 ?_ | refine B1 ?_ | refine CallC.r ?_); conv => whnf))
        refine And.intro ?_ trivial
        ((conv => whnf); repeat ((first | refine B0 ?_ | refine B1 ?_ | refine CallC.r ?_); conv => whnf))
        refine Pick.mk [3] (by kernel_rfl) ?_
        ((conv => whnf); repeat ((first | refine B0 ?_ | refine B1 ?_ | refine CallC.r ?_); conv => whnf))
        refine And.intro ?_ trivial
        ((conv => whnf); repeat ((first | refine B0 ?_ | refine B1 ?_ | refine CallC.r ?_); conv => whnf))
        refine Pick.mk [6] (by kernel_rfl) ?_
        ((conv => whnf); repeat ((first | refine B0 ?_ | refine B1 ?_ | refine CallC.r ?_); conv => whnf))
        refine And.intro ?_ trivial
        ((conv => whnf); repeat ((first | refine B0 ?_ | refine B1 ?_ | refine CallC.r ?_); conv => whnf))
        refine And.intro (by kernel_rfl) ?_
        ((conv => whnf); repeat ((first | refine B0 ?_ | refine B1 ?_ | refine CallC.r ?_); conv => whnf))
        exact rest
      ((conv => whnf); repeat ((first | refine B0 ?_ | refine B1 ?_ | refine CallC.r ?_); conv => whnf))
      refine And.intro ?_ ?_
      · ((conv => whnf); repeat ((first | refine B0 ?_ | refine B1 ?_ | refine CallC.r ?_); conv => whnf))
        refine Pick.mk [1, 4] (by kernel_rfl) ?_
        ((conv => whnf); repeat ((first | refine B0 ?_ | refine B1 ?_ | refine CallC.r ?_); conv => whnf))
        refine And.intro ?_ ?_
        · ((conv => whnf); repeat ((first | refine B0 ?_ | refine B1 ?_ | refine CallC.r ?_); conv => whnf))
          refine Pick.mk [4] (by kernel_rfl) ?_
          ((conv => whnf); repeat ((first | refine B0 ?_ | refine B1 ?_ | refine CallC.r ?_); conv => whnf))
          refine And.intro ?_ trivial
          ((conv => whnf); repeat ((first | refine B0 ?_ | refine B1 ?_ | refine CallC.r ?_); conv => whnf))
          refine Pick.mk [5] (by kernel_rfl) ?_
          ((conv => whnf); repeat ((first | refine B0 ?_ | refine B1 ?_ | refine CallC.r ?_); conv => whnf))
          refine And.intro ?_ trivial
          ((conv => whnf); repeat ((first | refine B0 ?_ | refine B1 ?_ | refine CallC.r ?_); conv => whnf))
          refine Pick.mk [6] (by kernel_rfl) ?_
          ((conv => whnf); repeat ((first | refine B0 ?_ | refine B1 ?_ | refine CallC.r ?_); conv => whnf))
          refine And.intro ?_ trivial
          ((conv => whnf); repeat ((first | refine B0 ?_ | refine B1 ?_ | refine CallC.r ?_); conv => whnf))
          refine And.intro (by kernel_rfl) ?_
          ((conv => whnf); repeat ((first | refine B0 ?_ | refine B1 ?_ | refine CallC.r ?_); conv => whnf))
          exact rest
        ((conv => whnf); repeat ((first | refine B0 ?_ | refine B1 ?_ | refine CallC.r ?_); conv => whnf))
        refine And.intro ?_ trivial
        ((conv => whnf); repeat ((first | refine B0 ?_ | refine B1 ?_ | refine CallC.r ?_); conv => whnf))
        refine Pick.mk [1] (by kernel_rfl) ?_
        ((conv => whnf); repeat ((first | refine B0 ?_ | refine B1 ?_ | refine CallC.r ?_); conv => whnf))
        refine And.intro ?_ trivial
        ((conv => whnf); repeat ((first | refine B0 ?_ | refine B1 ?_ | refine CallC.r ?_); conv => whnf))
        refine Pick.mk [5] (by kernel_rfl) ?_
        ((conv => whnf); repeat ((first | refine B0 ?_ | refine B1 ?_ | refine CallC.r ?_); conv => whnf))
        refine And.intro ?_ trivial
        ((conv => whnf); repeat ((first | refine B0 ?_ | refine B1 ?_ | refine CallC.r ?_); conv => whnf))
        refine Pick.mk [6] (by kernel_rfl) ?_
        ((conv => whnf); repeat ((first | refine B0 ?_ | refine B1 ?_ | refine CallC.r ?_); conv => whnf))
        refine And.intro ?_ trivial
        ((conv => whnf); repeat ((first | refine B0 ?_ | refine B1 ?_ | refine CallC.r ?_); conv => whnf))
        refine And.intro (by kernel_rfl) ?_
        ((conv => whnf); repeat ((first | refine B0 ?_ | refine B1 ?_ | refine CallC.r ?_); conv => whnf))
        exact rest
      ((conv => whnf); repeat ((first | refine B0 ?_ | refine B1 ?_ | refine CallC.r ?_); conv => whnf))
      refine And.intro ?_ trivial
      ((conv => whnf); repeat ((first | refine B0 ?_ | refine B1 ?_ | refine CallC.r ?_); conv => whnf))
      refine Pick.mk [1, 3] (by kernel_rfl) ?_
      ((conv => whnf); repeat ((first | refine B0 ?_ | refine B1 ?_ | refine CallC.r ?_); conv => whnf))
      refine And.intro ?_ ?_
      · ((conv => whnf); repeat ((first | refine B0 ?_ | refine B1 ?_ | refine CallC.r ?_); conv => whnf))
        refine Pick.mk [3, 5] (by kernel_rfl) ?_
        ((conv => whnf); repeat ((first | refine B0 ?_ | refine B1 ?_ | refine CallC.r ?_); conv => whnf))
        refine And.intro ?_ ?_
        · ((conv => whnf); repeat ((first | refine B0 ?_ | refine B1 ?_ | refine CallC.r ?_); conv => whnf))
          refine Pick.mk [5] (by kernel_rfl) ?_
          ((conv => whnf); repeat ((first | refine B0 ?_ | refine B1 ?_ | refine CallC.r ?_); conv => whnf))
          refine And.intro ?_ trivial
          ((conv => whnf); repeat ((first | refine B0 ?_ | refine B1 ?_ | refine CallC.r ?_); conv => whnf))
          refine Pick.mk [6] (by kernel_rfl) ?_
          ((conv => whnf); repeat ((first | refine B0 ?_ | refine B1 ?_ | refine CallC.r ?_); conv => whnf))
          refine And.intro ?_ trivial
          ((conv => whnf); repeat ((first | refine B0 ?_ | refine B1 ?_ | refine CallC.r ?_); conv => whnf))
          refine And.intro (by kernel_rfl) ?_
          ((conv => whnf); repeat ((first | refine B0 ?_ | refine B1 ?_ | refine CallC.r ?_); conv => whnf))
          exact rest
        ((conv => whnf); repeat ((first | refine B0 ?_ | refine B1 ?_ | refine CallC.r ?_); conv => whnf))
        refine And.intro ?_ trivial
        ((conv => whnf); repeat ((first | refine B0 ?_ | refine B1 ?_ | refine CallC.r ?_); conv => whnf))
        refine Pick.mk [3] (by kernel_rfl) ?_
        ((conv => whnf); repeat ((first | refine B0 ?_ | refine B1 ?_ | refine CallC.r ?_); conv => whnf))
        refine And.intro ?_ trivial
        ((conv => whnf); repeat ((first | refine B0 ?_ | refine B1 ?_ | refine CallC.r ?_); conv => whnf))
        refine Pick.mk [6] (by kernel_rfl) ?_
        ((conv => whnf); repeat ((first | refine B0 ?_ | refine B1 ?_ | refine CallC.r ?_); conv => whnf))
        refine And.intro ?_ trivial
        ((conv => whnf); repeat ((first | refine B0 ?_ | refine B1 ?_ | refine CallC.r ?_); conv => whnf))
        refine And.intro (by kernel_rfl) ?_
        ((conv => whnf); repeat ((first | refine B0 ?_ | refine B1 ?_ | refine CallC.r ?_); conv => whnf))
        exact rest
      ((conv => whnf); repeat ((first | refine B0 ?_ | refine B1 ?_ | refine CallC.r ?_); conv => whnf))
      refine And.intro ?_ trivial
      ((conv => whnf); repeat ((first | refine B0 ?_ | refine B1 ?_ | refine CallC.r ?_); conv => whnf))
      refine Pick.mk [1] (by kernel_rfl) ?_
      ((conv => whnf); repeat ((first | refine B0 ?_ | refine B1 ?_ | refine CallC.r ?_); conv => whnf))
      refine And.intro ?_ trivial
      ((conv => whnf); repeat ((first | refine B0 ?_ | refine B1 ?_ | refine CallC.r ?_); conv => whnf))
      refine Pick.mk [5] (by kernel_rfl) ?_
      ((conv => whnf); repeat ((first | refine B0 ?_ | refine B1 ?_ | refine CallC.r ?_); conv => whnf))
      refine And.intro ?_ trivial
      ((conv => whnf); repeat ((first | refine B0 ?_ | refine B1 ?_ | refine CallC.r ?_); conv => whnf))
      refine Pick.mk [6] (by kernel_rfl) ?_
      ((conv => whnf); repeat ((first | refine B0 ?_ | refine B1 ?_ | refine CallC.r ?_); conv => whnf))
      refine And.intro ?_ trivial
      ((conv => whnf); repeat ((first | refine B0 ?_ | refine B1 ?_ | refine CallC.r ?_); conv => whnf))
      refine And.intro (by kernel_rfl) ?_
      ((conv => whnf); repeat ((first | refine B0 ?_ | refine B1 ?_ | refine CallC.r ?_); conv => whnf))
      exact rest
    ((conv => whnf); repeat ((first | refine B0 ?_ | refine B1 ?_ | refine CallC.r ?_); conv => whnf))
    refine And.intro ?_ trivial
    ((conv => whnf); repeat ((first | refine B0 ?_ | refine B1 ?_ | refine CallC.r ?_); conv => whnf))
    refine Pick.mk [1, 2] (by kernel_rfl) ?_
    ((conv => whnf); repeat ((first | refine B0 ?_ | refine B1 ?_ | refine CallC.r ?_); conv => whnf))
    refine And.intro ?_ ?_
    · ((conv => whnf); repeat ((first | refine B0 ?_ | refine B1 ?_ | refine CallC.r ?_); conv => whnf))
      refine Pick.mk [2, 5] (by kernel_rfl) ?_
      ((conv => whnf); repeat ((first | refine B0 ?_ | refine B1 ?_ | refine CallC.r ?_); conv => whnf))
      refine And.intro ?_ ?_
      · ((conv => whnf); repeat ((first | refine B0 ?_ | refine B1 ?_ | refine CallC.r ?_); conv => whnf))
        refine Pick.mk [3, 5] (by kernel_rfl) ?_
        ((conv => whnf); repeat ((first | refine B0 ?_ | refine B1 ?_ | refine CallC.r ?_); conv => whnf))
        refine And.intro ?_ ?_
        · ((conv => whnf); repeat ((first | refine B0 ?_ | refine B1 ?_ | refine CallC.r ?_); conv => whnf))
          refine Pick.mk [5] (by kernel_rfl) ?_
          ((conv => whnf); repeat ((first | refine B0 ?_ | refine B1 ?_ | refine CallC.r ?_); conv => whnf))
          refine And.intro ?_ trivial
          ((conv => whnf); repeat ((first | refine B0 ?_ | refine B1 ?_ | refine CallC.r ?_); conv => whnf))
          refine Pick.mk [6] (by kernel_rfl) ?_
          ((conv => whnf); repeat ((first | refine B0 ?_ | refine B1 ?_ | refine CallC.r ?_); conv => whnf))
          refine And.intro ?_ trivial
          ((conv => whnf); repeat ((first | refine B0 ?_ | refine B1 ?_ | refine CallC.r ?_); conv => whnf))
          refine And.intro (by kernel_rfl) ?_
          ((conv => whnf); repeat ((first | refine B0 ?_ | refine B1 ?_ | refine CallC.r ?_); conv => whnf))
          exact rest
        ((conv => whnf); repeat ((first | refine B0 ?_ | refine B1 ?_ | refine CallC.r ?_); conv => whnf))
        refine And.intro ?_ trivial
        ((conv => whnf); repeat ((first | refine B0 ?_ | refine B1 ?_ | refine CallC.r ?_); conv => whnf))
        refine Pick.mk [3] (by kernel_rfl) ?_
        ((conv => whnf); repeat ((first | refine B0 ?_ | refine B1 ?_ | refine CallC.r ?_); conv => whnf))
        refine And.intro ?_ trivial
        ((conv => whnf); repeat ((first | refine B0 ?_ | refine B1 ?_ | refine CallC.r ?_); conv => whnf))
        refine Pick.mk [6] (by kernel_rfl) ?_
        ((conv => whnf); repeat ((first | refine B0 ?_ | refine B1 ?_ | refine CallC.r ?_); conv => whnf))
        refine And.intro ?_ trivial
        ((conv => whnf); repeat ((first | refine B0 ?_ | refine B1 ?_ | refine CallC.r ?_); conv => whnf))
        refine And.intro (by kernel_rfl) ?_
        ((conv => whnf); repeat ((first | refine B0 ?_ | refine B1 ?_ | refine CallC.r ?_); conv => whnf))
        exact rest
      ((conv => whnf); repeat ((first | refine B0 ?_ | refine B1 ?_ | refine CallC.r ?_); conv => whnf))
      refine And.intro ?_ trivial
      ((conv => whnf); repeat ((first | refine B0 ?_ | refine B1 ?_ | refine CallC.r ?_); conv => whnf))
      refine Pick.mk [2] (by kernel_rfl) ?_
      ((conv => whnf); repeat ((first | refine B0 ?_ | refine B1 ?_ | refine CallC.r ?_); conv => whnf))
      refine And.intro ?_ trivial
      ((conv => whnf); repeat ((first | refine B0 ?_ | refine B1 ?_ | refine CallC.r ?_); conv => whnf))
      refine Pick.mk [3] (by kernel_rfl) ?_
      ((conv => whnf); repeat ((first | refine B0 ?_ | refine B1 ?_ | refine CallC.r ?_); conv => whnf))
      refine And.intro ?_ trivial
      ((conv => whnf); repeat ((first | refine B0 ?_ | refine B1 ?_ | refine CallC.r ?_); conv => whnf))
      refine Pick.mk [6] (by kernel_rfl) ?_
      ((conv => whnf); repeat ((first | refine B0 ?_ | refine B1 ?_ | refine CallC.r ?_); conv => whnf))
      refine And.intro ?_ trivial
      ((conv => whnf); repeat ((first | refine B0 ?_ | refine B1 ?_ | refine CallC.r ?_); conv => whnf))
      refine And.intro (by kernel_rfl) ?_
      ((conv => whnf); repeat ((first | refine B0 ?_ | refine B1 ?_ | refine CallC.r ?_); conv => whnf))
      exact rest
    ((conv => whnf); repeat ((first | refine B0 ?_ | refine B1 ?_ | refine CallC.r ?_); conv => whnf))
    refine And.intro ?_ trivial
    ((conv => whnf); repeat ((first | refine B0 ?_ | refine B1 ?_ | refine CallC.r ?_); conv => whnf))
    refine Pick.mk [1, 3] (by kernel_rfl) ?_
    ((conv => whnf); repeat ((first | refine B0 ?_ | refine B1 ?_ | refine CallC.r ?_); conv => whnf))
    refine And.intro ?_ ?_
    · ((conv => whnf); repeat ((first | refine B0 ?_ | refine B1 ?_ | refine CallC.r ?_); conv => whnf))
      refine Pick.mk [3, 5] (by kernel_rfl) ?_
      ((conv => whnf); repeat ((first | refine B0 ?_ | refine B1 ?_ | refine CallC.r ?_); conv => whnf))
      refine And.intro ?_ ?_
      · ((conv => whnf); repeat ((first | refine B0 ?_ | refine B1 ?_ | refine CallC.r ?_); conv => whnf))
        refine Pick.mk [5] (by kernel_rfl) ?_
        ((conv => whnf); repeat ((first | refine B0 ?_ | refine B1 ?_ | refine CallC.r ?_); conv => whnf))
        refine And.intro ?_ trivial
        ((conv => whnf); repeat ((first | refine B0 ?_ | refine B1 ?_ | refine CallC.r ?_); conv => whnf))
        refine Pick.mk [6] (by kernel_rfl) ?_
        ((conv => whnf); repeat ((first | refine B0 ?_ | refine B1 ?_ | refine CallC.r ?_); conv => whnf))
        refine And.intro ?_ trivial
        ((conv => whnf); repeat ((first | refine B0 ?_ | refine B1 ?_ | refine CallC.r ?_); conv => whnf))
        refine And.intro (by kernel_rfl) ?_
        ((conv => whnf); repeat ((first | refine B0 ?_ | refine B1 ?_ | refine CallC.r ?_); conv => whnf))
        exact rest
      ((conv => whnf); repeat ((first | refine B0 ?_ | refine B1 ?_ | refine CallC.r ?_); conv => whnf))
      refine And.intro ?_ trivial
      ((conv => whnf); repeat ((first | refine B0 ?_ | refine B1 ?_ | refine CallC.r ?_); conv => whnf))
      refine Pick.mk [3] (by kernel_rfl) ?_
      ((conv => whnf); repeat ((first | refine B0 ?_ | refine B1 ?_ | refine CallC.r ?_); conv => whnf))
      refine And.intro ?_ trivial
      ((conv => whnf); repeat ((first | refine B0 ?_ | refine B1 ?_ | refine CallC.r ?_); conv => whnf))
      refine Pick.mk [6] (by kernel_rfl) ?_
      ((conv => whnf); repeat ((first | refine B0 ?_ | refine B1 ?_ | refine CallC.r ?_); conv => whnf))
      refine And.intro ?_ trivial
      ((conv => whnf); repeat ((first | refine B0 ?_ | refine B1 ?_ | refine CallC.r ?_); conv => whnf))
      refine And.intro (by kernel_rfl) ?_
      ((conv => whnf); repeat ((first | refine B0 ?_ | refine B1 ?_ | refine CallC.r ?_); conv => whnf))
      exact rest
    ((conv => whnf); repeat ((first | refine B0 ?_ | refine B1 ?_ | refine CallC.r ?_); conv => whnf))
    refine And.intro ?_ trivial
    ((conv => whnf); repeat ((first | refine B0 ?_ | refine B1 ?_ | refine CallC.r ?_); conv => whnf))
    refine Pick.mk [1] (by kernel_rfl) ?_
    ((conv => whnf); repeat ((first | refine B0 ?_ | refine B1 ?_ | refine CallC.r ?_); conv => whnf))
    refine And.intro ?_ trivial
    ((conv => whnf); repeat ((first | refine B0 ?_ | refine B1 ?_ | refine CallC.r ?_); conv => whnf))
    refine Pick.mk [5] (by kernel_rfl) ?_
    ((conv => whnf); repeat ((first | refine B0 ?_ | refine B1 ?_ | refine CallC.r ?_); conv => whnf))
    refine And.intro ?_ trivial
    ((conv => whnf); repeat ((first | refine B0 ?_ | refine B1 ?_ | refine CallC.r ?_); conv => whnf))
    refine Pick.mk [6] (by kernel_rfl) ?_
    ((conv => whnf); repeat ((first | refine B0 ?_ | refine B1 ?_ | refine CallC.r ?_); conv => whnf))
    refine And.intro ?_ trivial
    ((conv => whnf); repeat ((first | refine B0 ?_ | refine B1 ?_ | refine CallC.r ?_); conv => whnf))
    refine And.intro (by kernel_rfl) ?_
    ((conv => whnf); repeat ((first | refine B0 ?_ | refine B1 ?_ | refine CallC.r ?_); conv => whnf))
    exact rest
  ((conv => whnf); repeat ((first | refine B0 ?_ | refine B1 ?_ | refine CallC.r ?_); conv => whnf))
  refine And.intro ?_ ?_
  · ((conv => whnf); repeat ((first | refine B0 ?_ | refine B1 ?_ | refine CallC.r ?_); conv => whnf))
    refine Pick.mk [0, 3, 4] (by kernel_rfl) ?_
    ((conv => whnf); repeat ((first | refine B0 ?_ | refine B1 ?_ | refine CallC.r ?_); conv => whnf))
    refine And.intro ?_ ?_
    · ((conv => whnf); repeat ((first | refine B0 ?_ | refine B1 ?_ | refine CallC.r ?_); conv => whnf))
      refine Pick.mk [1, 3, 4] (by kernel_rfl) ?_
      ((conv => whnf); repeat ((first | refine B0 ?_ | refine B1 ?_ | refine CallC.r ?_); conv => whnf))
      refine And.intro ?_ ?_
      · ((conv => whnf); repeat ((first | refine B0 ?_ | refine B1 ?_ | refine CallC.r ?_); conv => whnf))
        refine Pick.mk [3, 4] (by kernel_rfl) ?_
        ((conv => whnf); repeat ((first | refine B0 ?_ | refine B1 ?_ | refine CallC.r ?_); conv => whnf))
        refine And.intro ?_ ?_
        · ((conv => whnf); repeat ((first | refine B0 ?_ | refine B1 ?_ | refine CallC.r ?_); conv => whnf))
          refine Pick.mk [4] (by kernel_rfl) ?_
          ((conv => whnf); repeat ((first | refine B0 ?_ | refine B1 ?_ | refine CallC.r ?_); conv => whnf))
          refine And.intro ?_ trivial
          ((conv => whnf); repeat ((first | refine B0 ?_ | refine B1 ?_ | refine CallC.r ?_); conv => whnf))
          refine Pick.mk [5] (by kernel_rfl) ?_
          ((conv => whnf); repeat ((first | refine B0 ?_ | refine B1 ?_ | refine CallC.r ?_); conv => whnf))
          refine And.intro ?_ trivial
          ((conv => whnf); repeat ((first | refine B0 ?_ | refine B1 ?_ | refine CallC.r ?_); conv => whnf))
          refine Pick.mk [6] (by kernel_rfl) ?_
          ((conv => whnf); repeat ((first | refine B0 ?_ | refine B1 ?_ | refine CallC.r ?_); conv => whnf))
          refine And.intro ?_ trivial
          ((conv => whnf); repeat ((first | refine B0 ?_ | refine B1 ?_ | refine CallC.r ?_); conv => whnf))
          refine And.intro (by kernel_rfl) ?_
          ((conv => whnf); repeat ((first | refine B0 ?_ | refine B1 ?_ | refine CallC.r ?_); conv => whnf))
          exact rest
        ((conv => whnf); repeat ((first | refine B0 ?_ | refine B1 ?_ | refine CallC.r ?_); conv => whnf))
        refine And.intro ?_ trivial
        ((conv => whnf); repeat ((first | refine B0 ?_ | refine B1 ?_ | refine CallC.r ?_); conv => whnf))
        refine Pick.mk [3, 5] (by kernel_rfl) ?_
        ((conv => whnf); repeat ((first | refine B0 ?_ | refine B1 ?_ | refine CallC.r ?_); conv => whnf))
        refine And.intro ?_ ?_
        · ((conv => whnf); repeat ((first | refine B0 ?_ | refine B1 ?_ | refine CallC.r ?_); conv => whnf))
          refine Pick.mk [5] (by kernel_rfl) ?_
          ((conv => whnf); repeat ((first | refine B0 ?_ | refine B1 ?_ | refine CallC.r ?_); conv => whnf))
          refine And.intro ?_ trivial
          ((conv => whnf); repeat ((first | refine B0 ?_ | refine B1 ?_ | refine CallC.r ?_); conv => whnf))
          refine Pick.mk [6] (by kernel_rfl) ?_
          ((conv => whnf); repeat ((first | refine B0 ?_ | refine B1 ?_ | refine CallC.r ?_); conv => whnf))
          refine And.intro ?_ trivial
          ((conv => whnf); repeat ((first | refine B0 ?_ | refine B1 ?_ | refine CallC.r ?_); conv => whnf))
          refine And.intro (by kernel_rfl) ?_
          ((conv => whnf); repeat ((first | refine B0 ?_ | refine B1 ?_ | refine CallC.r ?_); conv => whnf))
          exact rest
        ((conv => whnf); repeat ((first | refine B0 ?_ | refine B1 ?_ | refine CallC.r ?_); conv => whnf))
        refine And.intro ?_ trivial
        ((conv => whnf); repeat ((first | refine B0 ?_ | refine B1 ?_ | refine CallC.r ?_); conv => whnf))
        refine Pick.mk [3] (by kernel_rfl) ?_
        ((conv => whnf); repeat ((first | refine B0 ?_ | refine B1 ?_ | refine CallC.r ?_); conv => whnf))
        refine And.intro ?_ trivial
        ((conv => whnf); repeat ((first | refine B0 ?_ | refine B1 ?_ | refine CallC.r ?_); conv => whnf))
        refine Pick.mk [6] (by kernel_rfl) ?_
        ((conv => whnf); repeat ((first | refine B0 ?_ | refine B1 ?_ | refine CallC.r ?_); conv => whnf))
        refine And.intro ?_ trivial
        ((conv => whnf); repeat ((first | refine B0 ?_ | refine B1 ?_ | refine CallC.r ?_); conv => whnf))
        refine And.intro (by kernel_rfl) ?_
        ((conv => whnf); repeat ((first | refine B0 ?_ | refine B1 ?_ | refine CallC.r ?_); conv => whnf))
        exact rest
      ((conv => whnf); repeat ((first | refine B0 ?_ | refine B1 ?_ | refine CallC.r ?_); conv => whnf))
      refine And.intro ?_ ?_
      · ((conv => whnf); repeat ((first | refine B0 ?_ | refine B1 ?_ | refine CallC.r ?_); conv => whnf))
        refine Pick.mk [1, 4] (by kernel_rfl) ?_
        ((conv => whnf); repeat ((first | refine B0 ?_ | refine B1 ?_ | refine CallC.r ?_); conv => whnf))
        refine And.intro ?_ ?_
        · ((conv => whnf); repeat ((first | refine B0 ?_ | refine B1 ?_ | refine CallC.r ?_); conv => whnf))
          refine Pick.mk [4] (by kernel_rfl) ?_
          ((conv => whnf); repeat ((first | refine B0 ?_ | refine B1 ?_ | refine CallC.r ?_); conv => whnf))
          refine And.intro ?_ trivial
          ((conv => whnf); repeat ((first | refine B0 ?_ | refine B1 ?_ | refine CallC.r ?_); conv => whnf))
          refine Pick.mk [5] (by kernel_rfl) ?_
          ((conv => whnf); repeat ((first | refine B0 ?_ | refine B1 ?_ | refine CallC.r ?_); conv => whnf))
          refine And.intro ?_ trivial
          ((conv => whnf); repeat ((first | refine B0 ?_ | refine B1 ?_ | refine CallC.r ?_); conv => whnf))
          refine Pick.mk [6] (by kernel_rfl) ?_
          ((conv => whnf); repeat ((first | refine B0 ?_ | refine B1 ?_ | refine CallC.r ?_); conv => whnf))
          refine And.intro ?_ trivial
          ((conv => whnf); repeat ((first | refine B0 ?_ | refine B1 ?_ | refine CallC.r ?_); conv => whnf))
          refine And.intro (by kernel_rfl) ?_
          ((conv => whnf); repeat ((first | refine B0 ?_ | refine B1 ?_ | refine CallC.r ?_); conv => whnf))
          exact rest
        ((conv => whnf); repeat ((first | refine B0 ?_ | refine B1 ?_ | refine CallC.r ?_); conv => whnf))
        refine And.intro ?_ trivial
        ((conv => whnf); repeat ((first | refine B0 ?_ | refine B1 ?_ | refine CallC.r ?_); conv => whnf))
        refine Pick.mk [1] (by kernel_rfl) ?_
        ((conv => whnf); repeat ((first | refine B0 ?_ | refine B1 ?_ | refine CallC.r ?_); conv => whnf))
        refine And.intro ?_ trivial
        ((conv => whnf); repeat ((first | refine B0 ?_ | refine B1 ?_ | refine CallC.r ?_); conv => whnf))
        refine Pick.mk [5] (by kernel_rfl) ?_
        ((conv => whnf); repeat ((first | refine B0 ?_ | refine B1 ?_ | refine CallC.r ?_); conv => whnf))
        refine And.intro ?_ trivial
        ((conv => whnf); repeat ((first | refine B0 ?_ | refine B1 ?_ | refine CallC.r ?_); conv => whnf))
        refine Pick.mk [6] (by kernel_rfl) ?_
        ((conv => whnf); repeat ((first | refine B0 ?_ | refine B1 ?_ | refine CallC.r ?_); conv => whnf))
        refine And.intro ?_ trivial
        ((conv => whnf); repeat ((first | refine B0 ?_ | refine B1 ?_ | refine CallC.r ?_); conv => whnf))
        refine And.intro (by kernel_rfl) ?_
        ((conv => whnf); repeat ((first | refine B0 ?_ | refine B1 ?_ | refine CallC.r ?_); conv => whnf))
        exact rest
      ((conv => whnf); repeat ((first | refine B0 ?_ | refine B1 ?_ | refine CallC.r ?_); conv => whnf))
      refine And.intro ?_ trivial
      ((conv => whnf); repeat ((first | refine B0 ?_ | refine B1 ?_ | refine CallC.r ?_); conv => whnf))
      refine Pick.mk [1, 3] (by kernel_rfl) ?_
      ((conv => whnf); repeat ((first | refine B0 ?_ | refine B1 ?_ | refine CallC.r ?_); conv => whnf))
      refine And.intro ?_ ?_
      · ((conv => whnf); repeat ((first | refine B0 ?_ | refine B1 ?_ | refine CallC.r ?_); conv => whnf))
        refine Pick.mk [3, 5] (by kernel_rfl) ?_
        ((conv => whnf); repeat ((first | refine B0 ?_ | refine B1 ?_ | refine CallC.r ?_); conv => whnf))
        refine And.intro ?_ ?_
        · ((conv => whnf); repeat ((first | refine B0 ?_ | refine B1 ?_ | refine CallC.r ?_); conv => whnf))
          refine Pick.mk [5] (by kernel_rfl) ?_
          ((conv => whnf); repeat ((first | refine B0 ?_ | refine B1 ?_ | refine CallC.r ?_); conv => whnf))
          refine And.intro ?_ trivial
          ((conv => whnf); repeat ((first | refine B0 ?_ | refine B1 ?_ | refine CallC.r ?_); conv => whnf))
          refine Pick.mk [6] (by kernel_rfl) ?_
          ((conv => whnf); repeat ((first | refine B0 ?_ | refine B1 ?_ | refine CallC.r ?_); conv => whnf))
          refine And.intro ?_ trivial
          ((conv => whnf); repeat ((first | refine B0 ?_ | refine B1 ?_ | refine CallC.r ?_); conv => whnf))
          refine And.intro (by kernel_rfl) ?_
          ((conv => whnf); repeat ((first | refine B0 ?_ | refine B1 ?_ | refine CallC.r ?_); conv => whnf))
          exact rest
        ((conv => whnf); repeat ((first | refine B0 ?_ | refine B1 ?_ | refine CallC.r ?_); conv => whnf))
        refine And.intro ?_ trivial
        ((conv => whnf); repeat ((first | refine B0 ?_ | refine B1 ?_ | refine CallC.r ?_); conv => whnf))
        refine Pick.mk [3] (by kernel_rfl) ?_
        ((conv => whnf); repeat ((first | refine B0 ?_ | refine B1 ?_ | refine CallC.r ?_); conv => whnf))
        refine And.intro ?_ trivial
        ((conv => whnf); repeat ((first | refine B0 ?_ | refine B1 ?_ | refine CallC.r ?_); conv => whnf))
        refine Pick.mk [6] (by kernel_rfl) ?_
        ((conv => whnf); repeat ((first | refine B0 ?_ | refine B1 ?_ | refine CallC.r ?_); conv => whnf))
        refine And.intro ?_ trivial
        ((conv => whnf); repeat ((first | refine B0 ?_ | refine B1 ?_ | refine CallC.r ?_); conv => whnf))
        refine And.intro (by kernel_rfl) ?_
        ((conv => whnf); repeat ((first | refine B0 ?_ | refine B1 ?_ | refine CallC.r ?_); conv => whnf))
        exact rest
      ((conv => whnf); repeat ((first | refine B0 ?_ | refine B1 ?_ | refine CallC.r ?_); conv => whnf))
      refine And.intro ?_ trivial
      ((conv => whnf); repeat ((first | refine B0 ?_ | refine B1 ?_ | refine CallC.r ?_); conv => whnf))
      refine Pick.mk [1] (by kernel_rfl) ?_
      ((conv => whnf); repeat ((first | refine B0 ?_ | refine B1 ?_ | refine CallC.r ?_); conv => whnf))
      refine And.intro ?_ trivial
      ((conv => whnf); repeat ((first | refine B0 ?_ | refine B1 ?_ | refine CallC.r ?_); conv => whnf))
      refine Pick.mk [5] (by kernel_rfl) ?_
      ((conv => whnf); repeat ((first | refine B0 ?_ | refine B1 ?_ | refine CallC.r ?_); conv => whnf))
      refine And.intro ?_ trivial
      ((conv => whnf); repeat ((first | refine B0 ?_ | refine B1 ?_ | refine CallC.r ?_); conv => whnf))
      refine Pick.mk [6] (by kernel_rfl) ?_
      ((conv => whnf); repeat ((first | refine B0 ?_ | refine B1 ?_ | refine CallC.r ?_); conv => whnf))
      refine And.intro ?_ trivial
      ((conv => whnf); repeat ((first | refine B0 ?_ | refine B1 ?_ | refine CallC.r ?_); conv => whnf))
      refine And.intro (by kernel_rfl) ?_
      ((conv => whnf); repeat ((first | refine B0 ?_ | refine B1 ?_ | refine CallC.r ?_); conv => whnf))
      exact rest
    ((conv => whnf); repeat ((first | refine B0 ?_ | refine B1 ?_ | refine CallC.r ?_); conv => whnf))
    refine And.intro ?_ ?_
    · ((conv => whnf); repeat ((first | refine B0 ?_ | refine B1 ?_ | refine CallC.r ?_); conv => whnf))
      refine Pick.mk [0, 4] (by kernel_rfl) ?_
      ((conv => whnf); repeat ((first | refine B0 ?_ | refine B1 ?_ | refine CallC.r ?_); conv => whnf))
      refine And.intro ?_ ?_
      · ((conv => whnf); repeat ((first | refine B0 ?_ | refine B1 ?_ | refine CallC.r ?_); conv => whnf))
        refine Pick.mk [1, 4] (by kernel_rfl) ?_
        ((conv => whnf); repeat ((first | refine B0 ?_ | refine B1 ?_ | refine CallC.r ?_); conv => whnf))
        refine And.intro ?_ ?_
        · ((conv => whnf); repeat ((first | refine B0 ?_ | refine B1 ?_ | refine CallC.r ?_); conv => whnf))
          refine Pick.mk [4] (by kernel_rfl) ?_
          ((conv => whnf); repeat ((first | refine B0 ?_ | refine B1 ?_ | refine CallC.r ?_); conv => whnf))
          refine And.intro ?_ trivial
          ((conv => whnf); repeat ((first | refine B0 ?_ | refine B1 ?_ | refine CallC.r ?_); conv => whnf))
          refine Pick.mk [5] (by kernel_rfl) ?_
          ((conv => whnf); repeat ((first | refine B0 ?_ | refine B1 ?_ | refine CallC.r ?_); conv => whnf))
          refine And.intro ?_ trivial
          ((conv => whnf); repeat ((first | refine B0 ?_ | refine B1 ?_ | refine CallC.r ?_); conv => whnf))
          refine Pick.mk [6] (by kernel_rfl) ?_
          ((conv => whnf); repeat ((first | refine B0 ?_ | refine B1 ?_ | refine CallC.r ?_); conv => whnf))
          refine And.intro ?_ trivial
          ((conv => whnf); repeat ((first | refine B0 ?_ | refine B1 ?_ | refine CallC.r ?_); conv => whnf))
          refine And.intro (by kernel_rfl) ?_
          ((conv => whnf); repeat ((first | refine B0 ?_ | refine B1 ?_ | refine CallC.r ?_); conv => whnf))
          exact rest
        ((conv => whnf); repeat ((first | refine B0 ?_ | refine B1 ?_ | refine CallC.r ?_); conv => whnf))
        refine And.intro ?_ trivial
        ((conv => whnf); repeat ((first | refine B0 ?_ | refine B1 ?_ | refine CallC.r ?_); conv => whnf))
        refine Pick.mk [1] (by kernel_rfl) ?_
        ((conv => whnf); repeat ((first | refine B0 ?_ | refine B1 ?_ | refine CallC.r ?_); conv => whnf))
        refine And.intro ?_ trivial
        ((conv => whnf); repeat ((first | refine B0 ?_ | refine B1 ?_ | refine CallC.r ?_); conv => whnf))
        refine Pick.mk [5] (by kernel_rfl) ?_
        ((conv => whnf); repeat ((first | refine B0 ?_ | refine B1 ?_ | refine CallC.r ?_); conv => whnf))
        refine And.intro ?_ trivial
        ((conv => whnf); repeat ((first | refine B0 ?_ | refine B1 ?_ | refine CallC.r ?_); conv => whnf))
        refine Pick.mk [6] (by kernel_rfl) ?_
        ((conv => whnf); repeat ((first | refine B0 ?_ | refine B1 ?_ | refine CallC.r ?_); conv => whnf))
        refine And.intro ?_ trivial
        ((conv => whnf); repeat ((first | refine B0 ?_ | refine B1 ?_ | refine CallC.r ?_); conv => whnf))
        refine And.intro (by kernel_rfl) ?_
        ((conv => whnf); repeat ((first | refine B0 ?_ | refine B1 ?_ | refine CallC.r ?_); conv => whnf))
        exact rest
      ((conv => whnf); repeat ((first | refine B0 ?_ | refine B1 ?_ | refine CallC.r ?_); conv => whnf))
      refine And.intro ?_ trivial
      ((conv => whnf); repeat ((first | refine B0 ?_ | refine B1 ?_ | refine CallC.r ?_); conv => whnf))
      refine Pick.mk [0] (by kernel_rfl) ?_
      ((conv => whnf); repeat ((first | refine B0 ?_ | refine B1 ?_ | refine CallC.r ?_); conv => whnf))
      refine And.intro ?_ trivial
      ((conv => whnf); repeat ((first | refine B0 ?_ | refine B1 ?_ | refine CallC.r ?_); conv => whnf))
      refine Pick.mk [1] (by kernel_rfl) ?_
      ((conv => whnf); repeat ((first | refine B0 ?_ | refine B1 ?_ | refine CallC.r ?_); conv => whnf))
      refine And.intro ?_ trivial
      ((conv => whnf); repeat ((first | refine B0 ?_ | refine B1 ?_ | refine CallC.r ?_); conv => whnf))
      refine Pick.mk [5] (by kernel_rfl) ?_
      ((conv => whnf); repeat ((first | refine B0 ?_ | refine B1 ?_ | refine CallC.r ?_); conv => whnf))
      refine And.intro ?_ trivial
      ((conv => whnf); repeat ((first | refine B0 ?_ | refine B1 ?_ | refine CallC.r ?_); conv => whnf))
      refine Pick.mk [6] (by kernel_rfl) ?_
      ((conv => whnf); repeat ((first | refine B0 ?_ | refine B1 ?_ | refine CallC.r ?_); conv => whnf))
      refine And.intro ?_ trivial
      ((conv => whnf); repeat ((first | refine B0 ?_ | refine B1 ?_ | refine CallC.r ?_); conv => whnf))
      refine And.intro (by kernel_rfl) ?_
      ((conv => whnf); repeat ((first | refine B0 ?_ | refine B1 ?_ | refine CallC.r ?_); conv => whnf))
      exact rest
    ((conv => whnf); repeat ((first | refine B0 ?_ | refine B1 ?_ | refine CallC.r ?_); conv => whnf))
    refine And.intro ?_ trivial
    ((conv => whnf); repeat ((first | refine B0 ?_ | refine B1 ?_ | refine CallC.r ?_); conv => whnf))
    refine Pick.mk [0, 3] (by kernel_rfl) ?_
    ((conv => whnf); repeat ((first | refine B0 ?_ | refine B1 ?_ | refine CallC.r ?_); conv => whnf))
    refine And.intro ?_ ?_
    · ((conv => whnf); repeat ((first | refine B0 ?_ | refine B1 ?_ | refine CallC.r ?_); conv => whnf))
      refine Pick.mk [1, 3] (by kernel_rfl) ?_
      ((conv => whnf); repeat ((first | refine B0 ?_ | refine B1 ?_ | refine CallC.r ?_); conv => whnf))
      refine And.intro ?_ ?_
      · ((conv => whnf); repeat ((first | refine B0 ?_ | refine B1 ?_ | refine CallC.r ?_); conv => whnf))
        refine Pick.mk [3, 5] (by kernel_rfl) ?_
        ((conv => whnf); repeat ((first | refine B0 ?_ | refine B1 ?_ | refine CallC.r ?_); conv => whnf))
        refine And.intro ?_ ?_
        · ((conv => whnf); repeat ((first | refine B0 ?_ | refine B1 ?_ | refine CallC.r ?_); conv => whnf))
          refine Pick.mk [5] (by kernel_rfl) ?_
          ((conv => whnf); repeat ((first | refine B0 ?_ | refine B1 ?_ | refine CallC.r ?_); conv => whnf))
          refine And.intro ?_ trivial
          ((conv => whnf); repeat ((first | refine B0 ?_ | refine B1 ?_ | refine CallC.r ?_); conv => whnf))
          refine Pick.mk [6] (by kernel_rfl) ?_
          ((conv => whnf); repeat ((first | refine B0 ?_ | refine B1 ?_ | refine CallC.r ?_); conv => whnf))
          refine And.intro ?_ trivial
          ((conv => whnf); repeat ((first | refine B0 ?_ | refine B1 ?_ | refine CallC.r ?_); conv => whnf))
          refine And.intro (by kernel_rfl) ?_
          ((conv => whnf); repeat ((first | refine B0 ?_ | refine B1 ?_ | refine CallC.r ?_); conv => whnf))
          exact rest
        ((conv => whnf); repeat ((first | refine B0 ?_ | refine B1 ?_ | refine CallC.r ?_); conv => whnf))
        refine And.intro ?_ trivial
        ((conv => whnf); repeat ((first | refine B0 ?_ | refine B1 ?_ | refine CallC.r ?_); conv => whnf))
        refine Pick.mk [3] (by kernel_rfl) ?_
        ((conv => whnf); repeat ((first | refine B0 ?_ | refine B1 ?_ | refine CallC.r ?_); conv => whnf))
        refine And.intro ?_ trivial
        ((conv => whnf); repeat ((first | refine B0 ?_ | refine B1 ?_ | refine CallC.r ?_); conv => whnf))
        refine Pick.mk [6] (by kernel_rfl) ?_
        ((conv => whnf); repeat ((first | refine B0 ?_ | refine B1 ?_ | refine CallC.r ?_); conv => whnf))
        refine And.intro ?_ trivial
        ((conv => whnf); repeat ((first | refine B0 ?_ | refine B1 ?_ | refine CallC.r ?_); conv => whnf))
        refine And.intro (by kernel_rfl) ?_
        ((conv => whnf); repeat ((first | refine B0 ?_ | refine B1 ?_ | refine CallC.r ?_); conv => whnf))
        exact rest
      ((conv => whnf); repeat ((first | refine B0 ?_ | refine B1 ?_ | refine CallC.r ?_); conv => whnf))
      refine And.intro ?_ trivial
      ((conv => whnf); repeat ((first | refine B0 ?_ | refine B1 ?_ | refine CallC.r ?_); conv => whnf))
      refine Pick.mk [1] (by kernel_rfl) ?_
      ((conv => whnf); repeat ((first | refine B0 ?_ | refine B1 ?_ | refine CallC.r ?_); conv => whnf))
      refine And.intro ?_ trivial
      ((conv => whnf); repeat ((first | refine B0 ?_ | refine B1 ?_ | refine CallC.r ?_); conv => whnf))
      refine Pick.mk [5] (by kernel_rfl) ?_
      ((conv => whnf); repeat ((first | refine B0 ?_ | refine B1 ?_ | refine CallC.r ?_); conv => whnf))
      refine And.intro ?_ trivial
      ((conv => whnf); repeat ((first | refine B0 ?_ | refine B1 ?_ | refine CallC.r ?_); conv => whnf))
      refine Pick.mk [6] (by kernel_rfl) ?_
      ((conv => whnf); repeat ((first | refine B0 ?_ | refine B1 ?_ | refine CallC.r ?_); conv => whnf))
      refine And.intro ?_ trivial
      ((conv => whnf); repeat ((first | refine B0 ?_ | refine B1 ?_ | refine CallC.r ?_); conv => whnf))
      refine And.intro (by kernel_rfl) ?_
      ((conv => whnf); repeat ((first | refine B0 ?_ | refine B1 ?_ | refine CallC.r ?_); conv => whnf))
      exact rest
    ((conv => whnf); repeat ((first | refine B0 ?_ | refine B1 ?_ | refine CallC.r ?_); conv => whnf))
    refine And.intro ?_ trivial
    ((conv => whnf); repeat ((first | refine B0 ?_ | refine B1 ?_ | refine CallC.r ?_); conv => whnf))
    refine Pick.mk [0] (by kernel_rfl) ?_
    ((conv => whnf); repeat ((first | refine B0 ?_ | refine B1 ?_ | refine CallC.r ?_); conv => whnf))
    refine And.intro ?_ trivial
    ((conv => whnf); repeat ((first | refine B0 ?_ | refine B1 ?_ | refine CallC.r ?_); conv => whnf))
    refine Pick.mk [1] (by kernel_rfl) ?_
    ((conv => whnf); repeat ((first | refine B0 ?_ | refine B1 ?_ | refine CallC.r ?_); conv => whnf))
    refine And.intro ?_ trivial
    ((conv => whnf); repeat ((first | refine B0 ?_ | refine B1 ?_ | refine CallC.r ?_); conv => whnf))
    refine Pick.mk [5] (by kernel_rfl) ?_
    ((conv => whnf); repeat ((first | refine B0 ?_ | refine B1 ?_ | refine CallC.r ?_); conv => whnf))
    refine And.intro ?_ trivial
    ((conv => whnf); repeat ((first | refine B0 ?_ | refine B1 ?_ | refine CallC.r ?_); conv => whnf))
    refine Pick.mk [6] (by kernel_rfl) ?_
    ((conv => whnf); repeat ((first | refine B0 ?_ | refine B1 ?_ | refine CallC.r ?_); conv => whnf))
    refine And.intro ?_ trivial
    ((conv => whnf); repeat ((first | refine B0 ?_ | refine B1 ?_ | refine CallC.r ?_); conv => whnf))
    refine And.intro (by kernel_rfl) ?_
    ((conv => whnf); repeat ((first | refine B0 ?_ | refine B1 ?_ | refine CallC.r ?_); conv => whnf))
    exact rest
  ((conv => whnf); repeat ((first | refine B0 ?_ | refine B1 ?_ | refine CallC.r ?_); conv => whnf))
  refine And.intro ?_ trivial
  ((conv => whnf); repeat ((first | refine B0 ?_ | refine B1 ?_ | refine CallC.r ?_); conv => whnf))
  refine Pick.mk [0, 2] (by kernel_rfl) ?_
  ((conv => whnf); repeat ((first | refine B0 ?_ | refine B1 ?_ | refine CallC.r ?_); conv => whnf))
  refine And.intro ?_ ?_
  · ((conv => whnf); repeat ((first | refine B0 ?_ | refine B1 ?_ | refine CallC.r ?_); conv => whnf))
    refine Pick.mk [1, 2] (by kernel_rfl) ?_
    ((conv => whnf); repeat ((first | refine B0 ?_ | refine B1 ?_ | refine CallC.r ?_); conv => whnf))
    refine And.intro ?_ ?_
    · ((conv => whnf); repeat ((first | refine B0 ?_ | refine B1 ?_ | refine CallC.r ?_); conv => whnf))
      refine Pick.mk [2, 5] (by kernel_rfl) ?_
      ((conv => whnf); repeat ((first | refine B0 ?_ | refine B1 ?_ | refine CallC.r ?_); conv => whnf))
      refine And.intro ?_ ?_
      · ((conv => whnf); repeat ((first | refine B0 ?_ | refine B1 ?_ | refine CallC.r ?_); conv => whnf))
        refine Pick.mk [3, 5] (by kernel_rfl) ?_
        ((conv => whnf); repeat ((first | refine B0 ?_ | refine B1 ?_ | refine CallC.r ?_); conv => whnf))
        refine And.intro ?_ ?_
        · ((conv => whnf); repeat ((first | refine B0 ?_ | refine B1 ?_ | refine CallC.r ?_); conv => whnf))
          refine Pick.mk [5] (by kernel_rfl) ?_
          ((conv => whnf); repeat ((first | refine B0 ?_ | refine B1 ?_ | refine CallC.r ?_); conv => whnf))
          refine And.intro ?_ trivial
          ((conv => whnf); repeat ((first | refine B0 ?_ | refine B1 ?_ | refine CallC.r ?_); conv => whnf))
          refine Pick.mk [6] (by kernel_rfl) ?_
          ((conv => whnf); repeat ((first | refine B0 ?_ | refine B1 ?_ | refine CallC.r ?_); conv => whnf))
          refine And.intro ?_ trivial
          ((conv => whnf); repeat ((first | refine B0 ?_ | refine B1 ?_ | refine CallC.r ?_); conv => whnf))
          refine And.intro (by kernel_rfl) ?_
          ((conv => whnf); repeat ((first | refine B0 ?_ | refine B1 ?_ | refine CallC.r ?_); conv => whnf))
          exact rest
        ((conv => whnf); repeat ((first | refine B0 ?_ | refine B1 ?_ | refine CallC.r ?_); conv => whnf))
        refine And.intro ?_ trivial
        ((conv => whnf); repeat ((first | refine B0 ?_ | refine B1 ?_ | refine CallC.r ?_); conv => whnf))
        refine Pick.mk [3] (by kernel_rfl) ?_
        ((conv => whnf); repeat ((first | refine B0 ?_ | refine B1 ?_ | refine CallC.r ?_); conv => whnf))
        refine And.intro ?_ trivial
        ((conv => whnf); repeat ((first | refine B0 ?_ | refine B1 ?_ | refine CallC.r ?_); conv => whnf))
        refine Pick.mk [6] (by kernel_rfl) ?_
        ((conv => whnf); repeat ((first | refine B0 ?_ | refine B1 ?_ | refine CallC.r ?_); conv => whnf))
        refine And.intro ?_ trivial
        ((conv => whnf); repeat ((first | refine B0 ?_ | refine B1 ?_ | refine CallC.r ?_); conv => whnf))
        refine And.intro (by kernel_rfl) ?_
        ((conv => whnf); repeat ((first | refine B0 ?_ | refine B1 ?_ | refine CallC.r ?_); conv => whnf))
        exact rest
      ((conv => whnf); repeat ((first | refine B0 ?_ | refine B1 ?_ | refine CallC.r ?_); conv => whnf))
      refine And.intro ?_ trivial
      ((conv => whnf); repeat ((first | refine B0 ?_ | refine B1 ?_ | refine CallC.r ?_); conv => whnf))
      refine Pick.mk [2] (by kernel_rfl) ?_
      ((conv => whnf); repeat ((first | refine B0 ?_ | refine B1 ?_ | refine CallC.r ?_); conv => whnf))
      refine And.intro ?_ trivial
      ((conv => whnf); repeat ((first | refine B0 ?_ | refine B1 ?_ | refine CallC.r ?_); conv => whnf))
      refine Pick.mk [3] (by kernel_rfl) ?_
      ((conv => whnf); repeat ((first | refine B0 ?_ | refine B1 ?_ | refine CallC.r ?_); conv => whnf))
      refine And.intro ?_ trivial
      ((conv => whnf); repeat ((first | refine B0 ?_ | refine B1 ?_ | refine CallC.r ?_); conv => whnf))
      refine Pick.mk [6] (by kernel_rfl) ?_
      ((conv => whnf); repeat ((first | refine B0 ?_ | refine B1 ?_ | refine CallC.r ?_); conv => whnf))
      refine And.intro ?_ trivial
      ((conv => whnf); repeat ((first | refine B0 ?_ | refine B1 ?_ | refine CallC.r ?_); conv => whnf))
      refine And.intro (by kernel_rfl) ?_
      ((conv => whnf); repeat ((first | refine B0 ?_ | refine B1 ?_ | refine CallC.r ?_); conv => whnf))
      exact rest
    ((conv => whnf); repeat ((first | refine B0 ?_ | refine B1 ?_ | refine CallC.r ?_); conv => whnf))
    refine And.intro ?_ trivial
    ((conv => whnf); repeat ((first | refine B0 ?_ | refine B1 ?_ | refine CallC.r ?_); conv => whnf))
    refine Pick.mk [1, 3] (by kernel_rfl) ?_
    ((conv => whnf); repeat ((first | refine B0 ?_ | refine B1 ?_ | refine CallC.r ?_); conv => whnf))
    refine And.intro ?_ ?_
    · ((conv => whnf); repeat ((first | refine B0 ?_ | refine B1 ?_ | refine CallC.r ?_); conv => whnf))
      refine Pick.mk [3, 5] (by kernel_rfl) ?_
      ((conv => whnf); repeat ((first | refine B0 ?_ | refine B1 ?_ | refine CallC.r ?_); conv => whnf))
      refine And.intro ?_ ?_
      · ((conv => whnf); repeat ((first | refine B0 ?_ | refine B1 ?_ | refine CallC.r ?_); conv => whnf))
        refine Pick.mk [5] (by kernel_rfl) ?_
        ((conv => whnf); repeat ((first | refine B0 ?_ | refine B1 ?_ | refine CallC.r ?_); conv => whnf))
        refine And.intro ?_ trivial
        ((conv => whnf); repeat ((first | refine B0 ?_ | refine B1 ?_ | refine CallC.r ?_); conv => whnf))
        refine Pick.mk [6] (by kernel_rfl) ?_
        ((conv => whnf); repeat ((first | refine B0 ?_ | refine B1 ?_ | refine CallC.r ?_); conv => whnf))
        refine And.intro ?_ trivial
        ((conv => whnf); repeat ((first | refine B0 ?_ | refine B1 ?_ | refine CallC.r ?_); conv => whnf))
        refine And.intro (by kernel_rfl) ?_
        ((conv => whnf); repeat ((first | refine B0 ?_ | refine B1 ?_ | refine CallC.r ?_); conv => whnf))
        exact rest
      ((conv => whnf); repeat ((first | refine B0 ?_ | refine B1 ?_ | refine CallC.r ?_); conv => whnf))
      refine And.intro ?_ trivial
      ((conv => whnf); repeat ((first | refine B0 ?_ | refine B1 ?_ | refine CallC.r ?_); conv => whnf))
      refine Pick.mk [3] (by kernel_rfl) ?_
      ((conv => whnf); repeat ((first | refine B0 ?_ | refine B1 ?_ | refine CallC.r ?_); conv => whnf))
      refine And.intro ?_ trivial
      ((conv => whnf); repeat ((first | refine B0 ?_ | refine B1 ?_ | refine CallC.r ?_); conv => whnf))
      refine Pick.mk [6] (by kernel_rfl) ?_
      ((conv => whnf); repeat ((first | refine B0 ?_ | refine B1 ?_ | refine CallC.r ?_); conv => whnf))
      refine And.intro ?_ trivial
      ((conv => whnf); repeat ((first | refine B0 ?_ | refine B1 ?_ | refine CallC.r ?_); conv => whnf))
      refine And.intro (by kernel_rfl) ?_
      ((conv => whnf); repeat ((first | refine B0 ?_ | refine B1 ?_ | refine CallC.r ?_); conv => whnf))
      exact rest
    ((conv => whnf); repeat ((first | refine B0 ?_ | refine B1 ?_ | refine CallC.r ?_); conv => whnf))
    refine And.intro ?_ trivial
    ((conv => whnf); repeat ((first | refine B0 ?_ | refine B1 ?_ | refine CallC.r ?_); conv => whnf))
    refine Pick.mk [1] (by kernel_rfl) ?_
    ((conv => whnf); repeat ((first | refine B0 ?_ | refine B1 ?_ | refine CallC.r ?_); conv => whnf))
    refine And.intro ?_ trivial
    ((conv => whnf); repeat ((first | refine B0 ?_ | refine B1 ?_ | refine CallC.r ?_); conv => whnf))
    refine Pick.mk [5] (by kernel_rfl) ?_
    ((conv => whnf); repeat ((first | refine B0 ?_ | refine B1 ?_ | refine CallC.r ?_); conv => whnf))
    refine And.intro ?_ trivial
    ((conv => whnf); repeat ((first | refine B0 ?_ | refine B1 ?_ | refine CallC.r ?_); conv => whnf))
    refine Pick.mk [6] (by kernel_rfl) ?_
    ((conv => whnf); repeat ((first | refine B0 ?_ | refine B1 ?_ | refine CallC.r ?_); conv => whnf))
    refine And.intro ?_ trivial
    ((conv => whnf); repeat ((first | refine B0 ?_ | refine B1 ?_ | refine CallC.r ?_); conv => whnf))
    refine And.intro (by kernel_rfl) ?_
    ((conv => whnf); repeat ((first | refine B0 ?_ | refine B1 ?_ | refine CallC.r ?_); conv => whnf))
    exact rest
  ((conv => whnf); repeat ((first | refine B0 ?_ | refine B1 ?_ | refine CallC.r ?_); conv => whnf))
  refine And.intro ?_ trivial
  ((conv => whnf); repeat ((first | refine B0 ?_ | refine B1 ?_ | refine CallC.r ?_); conv => whnf))
  refine Pick.mk [0, 3] (by kernel_rfl) ?_
  ((conv => whnf); repeat ((first | refine B0 ?_ | refine B1 ?_ | refine CallC.r ?_); conv => whnf))
  refine And.intro ?_ ?_
  · ((conv => whnf); repeat ((first | refine B0 ?_ | refine B1 ?_ | refine CallC.r ?_); conv => whnf))
    refine Pick.mk [1, 3] (by kernel_rfl) ?_
    ((conv => whnf); repeat ((first | refine B0 ?_ | refine B1 ?_ | refine CallC.r ?_); conv => whnf))
    refine And.intro ?_ ?_
    · ((conv => whnf); repeat ((first | refine B0 ?_ | refine B1 ?_ | refine CallC.r ?_); conv => whnf))
      refine Pick.mk [3, 5] (by kernel_rfl) ?_
      ((conv => whnf); repeat ((first | refine B0 ?_ | refine B1 ?_ | refine CallC.r ?_); conv => whnf))
      refine And.intro ?_ ?_
      · ((conv => whnf); repeat ((first | refine B0 ?_ | refine B1 ?_ | refine CallC.r ?_); conv => whnf))
        refine Pick.mk [5] (by kernel_rfl) ?_
        ((conv => whnf); repeat ((first | refine B0 ?_ | refine B1 ?_ | refine CallC.r ?_); conv => whnf))
        refine And.intro ?_ trivial
        ((conv => whnf); repeat ((first | refine B0 ?_ | refine B1 ?_ | refine CallC.r ?_); conv => whnf))
        refine Pick.mk [6] (by kernel_rfl) ?_
        ((conv => whnf); repeat ((first | refine B0 ?_ | refine B1 ?_ | refine CallC.r ?_); conv => whnf))
        refine And.intro ?_ trivial
        ((conv => whnf); repeat ((first | refine B0 ?_ | refine B1 ?_ | refine CallC.r ?_); conv => whnf))
        refine And.intro (by kernel_rfl) ?_
        ((conv => whnf); repeat ((first | refine B0 ?_ | refine B1 ?_ | refine CallC.r ?_); conv => whnf))
        exact rest
      ((conv => whnf); repeat ((first | refine B0 ?_ | refine B1 ?_ | refine CallC.r ?_); conv => whnf))
      refine And.intro ?_ trivial
      ((conv => whnf); repeat ((first | refine B0 ?_ | refine B1 ?_ | refine CallC.r ?_); conv => whnf))
      refine Pick.mk [3] (by kernel_rfl) ?_
      ((conv => whnf); repeat ((first | refine B0 ?_ | refine B1 ?_ | refine CallC.r ?_); conv => whnf))
      refine And.intro ?_ trivial
      ((conv => whnf); repeat ((first | refine B0 ?_ | refine B1 ?_ | refine CallC.r ?_); conv => whnf))
      refine Pick.mk [6] (by kernel_rfl) ?_
      ((conv => whnf); repeat ((first | refine B0 ?_ | refine B1 ?_ | refine CallC.r ?_); conv => whnf))
      refine And.intro ?_ trivial
      ((conv => whnf); repeat ((first | refine B0 ?_ | refine B1 ?_ | refine CallC.r ?_); conv => whnf))
      refine And.intro (by kernel_rfl) ?_
      ((conv => whnf); repeat ((first | refine B0 ?_ | refine B1 ?_ | refine CallC.r ?_); conv => whnf))
      exact rest
    ((conv => whnf); repeat ((first | refine B0 ?_ | refine B1 ?_ | refine CallC.r ?_); conv => whnf))
    refine And.intro ?_ trivial
    ((conv => whnf); repeat ((first | refine B0 ?_ | refine B1 ?_ | refine CallC.r ?_); conv => whnf))
    refine Pick.mk [1] (by kernel_rfl) ?_
    ((conv => whnf); repeat ((first | refine B0 ?_ | refine B1 ?_ | refine CallC.r ?_); conv => whnf))
    refine And.intro ?_ trivial
    ((conv => whnf); repeat ((first | refine B0 ?_ | refine B1 ?_ | refine CallC.r ?_); conv => whnf))
    refine Pick.mk [5] (by kernel_rfl) ?_
    ((conv => whnf); repeat ((first | refine B0 ?_ | refine B1 ?_ | refine CallC.r ?_); conv => whnf))
    refine And.intro ?_ trivial
    ((conv => whnf); repeat ((first | refine B0 ?_ | refine B1 ?_ | refine CallC.r ?_); conv => whnf))
    refine Pick.mk [6] (by kernel_rfl) ?_
    ((conv => whnf); repeat ((first | refine B0 ?_ | refine B1 ?_ | refine CallC.r ?_); conv => whnf))
    refine And.intro ?_ trivial
    ((conv => whnf); repeat ((first | refine B0 ?_ | refine B1 ?_ | refine CallC.r ?_); conv => whnf))
    refine And.intro (by kernel_rfl) ?_
    ((conv => whnf); repeat ((first | refine B0 ?_ | refine B1 ?_ | refine CallC.r ?_); conv => whnf))
    exact rest
  ((conv => whnf); repeat ((first | refine B0 ?_ | refine B1 ?_ | refine CallC.r ?_); conv => whnf))
  refine And.intro ?_ trivial
  ((conv => whnf); repeat ((first | refine B0 ?_ | refine B1 ?_ | refine CallC.r ?_); conv => whnf))
  refine Pick.mk [0] (by kernel_rfl) ?_
  ((conv => whnf); repeat ((first | refine B0 ?_ | refine B1 ?_ | refine CallC.r ?_); conv => whnf))
  refine And.intro ?_ trivial
  ((conv => whnf); repeat ((first | refine B0 ?_ | refine B1 ?_ | refine CallC.r ?_); conv => whnf))
  refine Pick.mk [1] (by kernel_rfl) ?_
  ((conv => whnf); repeat ((first | refine B0 ?_ | refine B1 ?_ | refine CallC.r ?_); conv => whnf))
  refine And.intro ?_ trivial
  ((conv => whnf); repeat ((first | refine B0 ?_ | refine B1 ?_ | refine CallC.r ?_); conv => whnf))
  refine Pick.mk [5] (by kernel_rfl) ?_
  ((conv => whnf); repeat ((first | refine B0 ?_ | refine B1 ?_ | refine CallC.r ?_); conv => whnf))
  refine And.intro ?_ trivial
  ((conv => whnf); repeat ((first | refine B0 ?_ | refine B1 ?_ | refine CallC.r ?_); conv => whnf))
  refine Pick.mk [6] (by kernel_rfl) ?_
  ((conv => whnf); repeat ((first | refine B0 ?_ | refine B1 ?_ | refine CallC.r ?_); conv => whnf))
  refine And.intro ?_ trivial
  ((conv => whnf); repeat ((first | refine B0 ?_ | refine B1 ?_ | refine CallC.r ?_); conv => whnf))
  refine And.intro (by kernel_rfl) ?_
  ((conv => whnf); repeat ((first | refine B0 ?_ | refine B1 ?_ | refine CallC.r ?_); conv => whnf))
  exact rest

theorem s_impl_ValidProof (q : Proof) (o : Enc.ok q) : Sat Tryd.prog 15 [(true, Enc.enc q)] (.one (.c (.bool (okProof q))), []) := by
  have hl : (q.vectors.map (Enc.enc (α := List Int))).length = q.vectors.length := by simp
  refine Sat.intro tok mixed Tryd.func15 rfl rfl ?_
  ((conv => whnf); repeat ((first | refine B0 ?_ | refine B1 ?_ | refine D1 ?_ | refine D2 ?_ | refine CallC.r ?_); conv => whnf))
  refine Pick.mk _ (s_impl_ValidMatrix q.claim o.2.1) ?_
  ((conv => whnf); repeat ((first | refine B0 ?_ | refine B1 ?_ | refine D1 ?_ | refine D2 ?_ | refine CallC.r ?_); conv => whnf))
  refine Br.mk (fun h => ?_) (fun h => ?_) <;> ((conv => whnf); repeat ((first | refine B0 ?_ | refine B1 ?_ | refine D1 ?_ | refine D2 ?_ | refine CallC.r ?_); conv => whnf))
  · refine Br.mk (fun h2 => ?_) (fun h2 => ?_) <;> ((conv => whnf); repeat ((first | refine B0 ?_ | refine B1 ?_ | refine D1 ?_ | refine D2 ?_ | refine CallC.r ?_); conv => whnf))
    · refine Pick.mk _ (s_areStated q o (by have := okMatrix_of h; omega)) ?_
      ((conv => whnf); repeat ((first | refine B0 ?_ | refine B1 ?_ | refine D1 ?_ | refine D2 ?_ | refine CallC.r ?_); conv => whnf))
      rw [hl] at h2
      exact ResOK.same (by simp only [okProof, h, h2, Bool.true_and])
    · rw [hl] at h2
      exact ResOK.same (by simp only [okProof, h, h2, Bool.true_and, Bool.false_and])
  · exact ResOK.same (by simp only [okProof, h, Bool.false_and])

/-! ### the reference -/
def okSplit (q : Proof) (f : Nat) (a b : Int) : Bool := okVecs q.claim.prime a (q.vectors.take f) && okVecs q.claim.prime b (q.vectors.drop f)
theorem split_iff (q : Proof) (f : Nat) (a b : Int) : okSplit q f a b = true ↔ ∀ (k : Nat) (h : k < q.vectors.length), okVec q.claim.prime (if k < f then a else b) q.vectors[k] = true := by
  simp only [okSplit, okVecs, Bool.and_eq_true, List.all_eq_true]
  constructor
  · intro ⟨h1, h2⟩ k hk
    by_cases e : k < f
    · rw [if_pos e]
      exact h1 _ (List.mem_take_iff_getElem.2 ⟨k, by omega, rfl⟩)
    · rw [if_neg e]
      exact h2 _ (List.mem_drop_iff_getElem.2 ⟨k - f, by omega, by simp only [show f + (k - f) = k by omega]⟩)
  · intro h
    refine ⟨fun x hx => ?_, fun x hx => ?_⟩
    · obtain ⟨k, hk, rfl⟩ := List.mem_take_iff_getElem.1 hx
      have := h k (by omega)
      rwa [if_pos (by omega)] at this
    · obtain ⟨k, hk, rfl⟩ := List.mem_drop_iff_getElem.1 hx
      have := h (f + k) (by omega)
      rwa [if_neg (by omega)] at this
theorem split_no {q : Proof} {f : Nat} {a b : Int} {k : Nat} (h : k < q.vectors.length) (e : okVec q.claim.prime (if k < f then a else b) q.vectors[k] = false) : okSplit q f a b = false := by
  cases hb : okSplit q f a b with
  | false => rfl
  | true => rw [(split_iff q f a b).1 hb k h] at e; cases e
theorem split_all (q : Proof) (a b : Int) : okSplit q q.vectors.length a b = okVecs q.claim.prime a q.vectors := by
  simp [okSplit, okVecs]

theorem s_l26Ok (q : Proof) (o : Enc.ok q) : Sat Tryd.prog 11 [(false, [.ptr 6 (Enc.enc q)])] (.one (.c (.bool (okProof q))), []) := by
  have ov := o.2.2
  have o1 := ov.1
  simp only [maxLen] at o1
  have hl : (q.vectors.map (Enc.enc (α := List Int))).length = q.vectors.length := by simp
  refine Sat.intro tok mixed Tryd.func11 rfl rfl ?_
  ((conv => whnf); repeat ((first | refine B0 ?_ | refine B1 ?_ | refine D1 ?_ | refine D2 ?_ | refine CallC.r ?_); conv => whnf))
  refine Pick.mk _ (s_l03Ok q.claim o.2.1) ?_
  ((conv => whnf); repeat ((first | refine B0 ?_ | refine B1 ?_ | refine D1 ?_ | refine D2 ?_ | refine CallC.r ?_); conv => whnf))
  refine Br.mk (fun h => ?_) (fun h => ?_) <;> ((conv => whnf); repeat ((first | refine B0 ?_ | refine B1 ?_ | refine D1 ?_ | refine D2 ?_ | refine CallC.r ?_); conv => whnf))
  · rw [Bool.not_eq_true'] at h
    exact ResOK.same (by simp only [okProof, h, Bool.false_and])
  rw [Bool.not_eq_false'] at h
  obtain ⟨hp, hr, hc⟩ := okMatrix_of h
  refine Br.mk (fun h2 => ?_) (fun h2 => ?_) <;> ((conv => whnf); repeat ((first | refine B0 ?_ | refine B1 ?_ | refine D1 ?_ | refine D2 ?_ | refine CallC.r ?_); conv => whnf))
  · rw [hl] at h2
    simp only [decide_eq_true_eq] at h2
    have : decide ((q.vectors.length : Int) ≤ 64) = false := by rw [decide_eq_false_iff_not]; omega
    exact ResOK.same (by simp only [okProof, this, Bool.and_false, Bool.false_and])
  rw [hl] at h2
  simp only [decide_eq_false_iff_not] at h2
  have h64 : decide ((q.vectors.length : Int) ≤ 64) = true := by rw [decide_eq_true_iff]; omega
  have hok : okProof q = stated q := by simp only [okProof, h, h64, Bool.true_and]
  rw [hok]
  refine Br.mk (fun k1 => ?_) (fun k1 => ?_) <;> ((conv => whnf); repeat ((first | refine B0 ?_ | refine B1 ?_ | refine D1 ?_ | refine D2 ?_ | refine CallC.r ?_); conv => whnf))
  · refine Br.mk (fun e1 => ?_) (fun e1 => ?_) <;> ((conv => whnf); repeat ((first | refine B0 ?_ | refine B1 ?_ | refine D1 ?_ | refine D2 ?_ | refine CallC.r ?_); conv => whnf))
    · rw [hl] at e1
      have e1 : ((q.vectors.length : Int) == 2) = false := by simpa using e1
      exact ResOK.same (by simp only [stated, k1, Bool.false_eq_true, if_false, if_true, e1, Bool.false_and])
    · rw [hl] at e1
      have e1 : ((q.vectors.length : Int) == 2) = true := by simpa using e1
      have hst : stated q = okSplit q 1 q.claim.rows q.claim.columns := by
        simp only [stated, k1, Bool.false_eq_true, if_false, if_true, e1, Bool.true_and]; rfl
      rw [hst]
      refine Pick.mk [0, 3, 4, 5, 6, 7] trivial ?_
      ((conv => whnf); repeat ((first | refine B0 ?_ | refine B1 ?_ | refine D1 ?_ | refine D2 ?_ | refine CallC.r ?_); conv => whnf))
      refine LoopL.run (fun i : Nat => St.mk [.one (.c (.ptr 6 (Enc.enc q))), .one .dead, .one .dead, .one (.c (.ptr 4 (Enc.enc q.claim))), .one (.c (.int .i64 (q.vectors.map (Enc.enc (α := List Int))).length)), .one (.c (.int .i64 1)), .one (.c (.bool true)), .one (.c (.int .i64 i)), .one .dead, .one .dead, .one .dead, .one .dead, .one .dead, .one .dead, .one .dead, .one .dead, .one .dead, .one .dead, .one .dead, .one .dead, .one .dead, .one .dead, .one .dead, .one .dead, .one .dead, .one .dead, .one .dead, .one .dead, .one .dead, .one .dead, .one .dead, .one .dead, .one .dead, .one .dead, .one .dead, .one .dead, .one .dead, .one .dead, .one .dead, .one .dead, .one .dead, .one .dead, .one .dead, .one .dead, .one .dead, .one .dead, .one .dead, .one .dead, .one .dead, .one .dead, .one .dead, .one .dead, .one .dead, .one .dead, .one .dead, .one .dead, .one .dead, .one .dead, .one .dead, .one .dead, .one .dead, .one .dead, .one .dead, .one .dead, .one .dead, .one .dead, .one .dead, .one .dead, .one .dead, .one .dead, .one .dead, .one .dead, .one .dead, .one .dead, .one .dead, .one .dead, .one .dead, .one .dead, .one .dead, .one .dead, .one .dead, .one .dead, .one .dead, .one .dead, .one .dead, .one .dead, .one .dead, .one .dead, .one .dead, .one .dead, .one .dead, .one .dead, .one .dead, .one .dead, .one .dead] []) (fun i => q.vectors.length - i) (fun i => i ≤ q.vectors.length ∧ ∀ (k : Nat) (h : k < q.vectors.length), k < i → okVec q.claim.prime (if k < 1 then q.claim.rows else q.claim.columns) q.vectors[k] = true) ?_ 0 ⟨Nat.zero_le _, by intros; omega⟩
      intro i ⟨g2, g3⟩ ih
      ((conv => whnf); repeat ((first | refine B0 ?_ | refine B1 ?_ | refine D1 ?_ | refine D2 ?_ | refine CallC.r ?_); conv => whnf))
      refine Br.mk (fun g => ?_) (fun g => ?_) <;> ((conv => whnf); repeat ((first | refine B0 ?_ | refine B1 ?_ | refine D1 ?_ | refine D2 ?_ | refine CallC.r ?_); conv => whnf))
      · simp at g
        refine Br.mk (fun g4 => ?_) (fun g4 => ?_) <;> ((conv => whnf); repeat ((first | refine B0 ?_ | refine B1 ?_ | refine D1 ?_ | refine D2 ?_ | refine CallC.r ?_); conv => whnf))
        · have hcol : (if i < 1 then q.claim.rows else q.claim.columns) = q.claim.columns := by
            simp at g4
            rw [if_neg (by omega)]
          refine Pick.ix g ?_
          ((conv => whnf); repeat ((first | refine B0 ?_ | refine B1 ?_ | refine D1 ?_ | refine D2 ?_ | refine CallC.r ?_); conv => whnf))
          refine Pick.mk _ (s_l04Vector q.vectors[i] (ov.2 _ (List.getElem_mem g)).1 q.claim.columns q.claim.prime (by omega) (by omega)) ?_
          ((conv => whnf); repeat ((first | refine B0 ?_ | refine B1 ?_ | refine D1 ?_ | refine D2 ?_ | refine CallC.r ?_); conv => whnf))
          refine Br.mk (fun g5 => ?_) (fun g5 => ?_) <;> ((conv => whnf); repeat ((first | refine B0 ?_ | refine B1 ?_ | refine D1 ?_ | refine D2 ?_ | refine CallC.r ?_); conv => whnf))
          · rw [Bool.not_eq_true'] at g5
            exact ResOK.same (by rw [split_no g (by rw [hcol]; exact g5)])
          · rw [Bool.not_eq_false'] at g5
            refine Pick.at64 (z := (i + 1 : Nat)) (by simp) (by omega) ?_
            ((conv => whnf); repeat ((first | refine B0 ?_ | refine B1 ?_ | refine D1 ?_ | refine D2 ?_ | refine CallC.r ?_); conv => whnf))
            refine ih (i + 1) ⟨by omega, fun k hk hlt => ?_⟩ (by omega)
            by_cases e : k = i
            · subst e; rw [hcol]; exact g5
            · exact g3 k hk (by omega)
        · have hrow : (if i < 1 then q.claim.rows else q.claim.columns) = q.claim.rows := by
            simp at g4
            rw [if_pos (by omega)]
          refine Pick.ix g ?_
          ((conv => whnf); repeat ((first | refine B0 ?_ | refine B1 ?_ | refine D1 ?_ | refine D2 ?_ | refine CallC.r ?_); conv => whnf))
          refine Pick.mk _ (s_l04Vector q.vectors[i] (ov.2 _ (List.getElem_mem g)).1 q.claim.rows q.claim.prime (by omega) (by omega)) ?_
          ((conv => whnf); repeat ((first | refine B0 ?_ | refine B1 ?_ | refine D1 ?_ | refine D2 ?_ | refine CallC.r ?_); conv => whnf))
          refine Br.mk (fun g5 => ?_) (fun g5 => ?_) <;> ((conv => whnf); repeat ((first | refine B0 ?_ | refine B1 ?_ | refine D1 ?_ | refine D2 ?_ | refine CallC.r ?_); conv => whnf))
          · rw [Bool.not_eq_true'] at g5
            exact ResOK.same (by rw [split_no g (by rw [hrow]; exact g5)])
          · rw [Bool.not_eq_false'] at g5
            refine Pick.at64 (z := (i + 1 : Nat)) (by simp) (by omega) ?_
            ((conv => whnf); repeat ((first | refine B0 ?_ | refine B1 ?_ | refine D1 ?_ | refine D2 ?_ | refine CallC.r ?_); conv => whnf))
            refine ih (i + 1) ⟨by omega, fun k hk hlt => ?_⟩ (by omega)
            by_cases e : k = i
            · subst e; rw [hrow]; exact g5
            · exact g3 k hk (by omega)
      · simp at g
        exact ResOK.same (by rw [(split_iff q 1 q.claim.rows q.claim.columns).2 fun k hk => g3 k hk (by omega)])
  · skip
    refine Br.mk (fun k2 => ?_) (fun k2 => ?_) <;> ((conv => whnf); repeat ((first | refine B0 ?_ | refine B1 ?_ | refine D1 ?_ | refine D2 ?_ | refine CallC.r ?_); conv => whnf))
    · refine Br.mk (fun e1 => ?_) (fun e1 => ?_) <;> ((conv => whnf); repeat ((first | refine B0 ?_ | refine B1 ?_ | refine D1 ?_ | refine D2 ?_ | refine CallC.r ?_); conv => whnf))
      · rw [hl] at e1
        have e1 : ((q.vectors.length : Int) == 2) = false := by simpa using e1
        exact ResOK.same (by simp only [stated, k1, k2, Bool.false_eq_true, if_false, if_true, e1, Bool.false_and])
      · rw [hl] at e1
        have e1 : ((q.vectors.length : Int) == 2) = true := by simpa using e1
        have hst : stated q = okSplit q q.vectors.length q.claim.rows q.claim.columns := by
          simp only [stated, k1, k2, Bool.false_eq_true, if_false, if_true, e1, Bool.true_and]; rw [split_all]
        rw [hst]
        refine Pick.mk [0, 3, 4, 5, 6, 7] trivial ?_
        ((conv => whnf); repeat ((first | refine B0 ?_ | refine B1 ?_ | refine D1 ?_ | refine D2 ?_ | refine CallC.r ?_); conv => whnf))
        refine LoopL.run (fun i : Nat => St.mk [.one (.c (.ptr 6 (Enc.enc q))), .one .dead, .one .dead, .one (.c (.ptr 4 (Enc.enc q.claim))), .one (.c (.int .i64 (q.vectors.map (Enc.enc (α := List Int))).length)), .one (.c (.int .i64 (q.vectors.map (Enc.enc (α := List Int))).length)), .one (.c (.bool true)), .one (.c (.int .i64 i)), .one .dead, .one .dead, .one .dead, .one .dead, .one .dead, .one .dead, .one .dead, .one .dead, .one .dead, .one .dead, .one .dead, .one .dead, .one .dead, .one .dead, .one .dead, .one .dead, .one .dead, .one .dead, .one .dead, .one .dead, .one .dead, .one .dead, .one .dead, .one .dead, .one .dead, .one .dead, .one .dead, .one .dead, .one .dead, .one .dead, .one .dead, .one .dead, .one .dead, .one .dead, .one .dead, .one .dead, .one .dead, .one .dead, .one .dead, .one .dead, .one .dead, .one .dead, .one .dead, .one .dead, .one .dead, .one .dead, .one .dead, .one .dead, .one .dead, .one .dead, .one .dead, .one .dead, .one .dead, .one .dead, .one .dead, .one .dead, .one .dead, .one .dead, .one .dead, .one .dead, .one .dead, .one .dead, .one .dead, .one .dead, .one .dead, .one .dead, .one .dead, .one .dead, .one .dead, .one .dead, .one .dead, .one .dead, .one .dead, .one .dead, .one .dead, .one .dead, .one .dead, .one .dead, .one .dead, .one .dead, .one .dead, .one .dead, .one .dead, .one .dead, .one .dead, .one .dead, .one .dead] []) (fun i => q.vectors.length - i) (fun i => i ≤ q.vectors.length ∧ ∀ (k : Nat) (h : k < q.vectors.length), k < i → okVec q.claim.prime (if k < q.vectors.length then q.claim.rows else q.claim.columns) q.vectors[k] = true) ?_ 0 ⟨Nat.zero_le _, by intros; omega⟩
        intro i ⟨g2, g3⟩ ih
        ((conv => whnf); repeat ((first | refine B0 ?_ | refine B1 ?_ | refine D1 ?_ | refine D2 ?_ | refine CallC.r ?_); conv => whnf))
        refine Br.mk (fun g => ?_) (fun g => ?_) <;> ((conv => whnf); repeat ((first | refine B0 ?_ | refine B1 ?_ | refine D1 ?_ | refine D2 ?_ | refine CallC.r ?_); conv => whnf))
        · simp at g
          refine Br.mk (fun g4 => ?_) (fun g4 => ?_) <;> ((conv => whnf); repeat ((first | refine B0 ?_ | refine B1 ?_ | refine D1 ?_ | refine D2 ?_ | refine CallC.r ?_); conv => whnf))
          · have hcol : (if i < q.vectors.length then q.claim.rows else q.claim.columns) = q.claim.columns := by
              simp at g4
              rw [if_neg (by omega)]
            refine Pick.ix g ?_
            ((conv => whnf); repeat ((first | refine B0 ?_ | refine B1 ?_ | refine D1 ?_ | refine D2 ?_ | refine CallC.r ?_); conv => whnf))
            refine Pick.mk _ (s_l04Vector q.vectors[i] (ov.2 _ (List.getElem_mem g)).1 q.claim.columns q.claim.prime (by omega) (by omega)) ?_
            ((conv => whnf); repeat ((first | refine B0 ?_ | refine B1 ?_ | refine D1 ?_ | refine D2 ?_ | refine CallC.r ?_); conv => whnf))
            refine Br.mk (fun g5 => ?_) (fun g5 => ?_) <;> ((conv => whnf); repeat ((first | refine B0 ?_ | refine B1 ?_ | refine D1 ?_ | refine D2 ?_ | refine CallC.r ?_); conv => whnf))
            · rw [Bool.not_eq_true'] at g5
              exact ResOK.same (by rw [split_no g (by rw [hcol]; exact g5)])
            · rw [Bool.not_eq_false'] at g5
              refine Pick.at64 (z := (i + 1 : Nat)) (by simp) (by omega) ?_
              ((conv => whnf); repeat ((first | refine B0 ?_ | refine B1 ?_ | refine D1 ?_ | refine D2 ?_ | refine CallC.r ?_); conv => whnf))
              refine ih (i + 1) ⟨by omega, fun k hk hlt => ?_⟩ (by omega)
              by_cases e : k = i
              · subst e; rw [hcol]; exact g5
              · exact g3 k hk (by omega)
          · have hrow : (if i < q.vectors.length then q.claim.rows else q.claim.columns) = q.claim.rows := by
              simp at g4
              rw [if_pos (by omega)]
            refine Pick.ix g ?_
            ((conv => whnf); repeat ((first | refine B0 ?_ | refine B1 ?_ | refine D1 ?_ | refine D2 ?_ | refine CallC.r ?_); conv => whnf))
            refine Pick.mk _ (s_l04Vector q.vectors[i] (ov.2 _ (List.getElem_mem g)).1 q.claim.rows q.claim.prime (by omega) (by omega)) ?_
            ((conv => whnf); repeat ((first | refine B0 ?_ | refine B1 ?_ | refine D1 ?_ | refine D2 ?_ | refine CallC.r ?_); conv => whnf))
            refine Br.mk (fun g5 => ?_) (fun g5 => ?_) <;> ((conv => whnf); repeat ((first | refine B0 ?_ | refine B1 ?_ | refine D1 ?_ | refine D2 ?_ | refine CallC.r ?_); conv => whnf))
            · rw [Bool.not_eq_true'] at g5
              exact ResOK.same (by rw [split_no g (by rw [hrow]; exact g5)])
            · rw [Bool.not_eq_false'] at g5
              refine Pick.at64 (z := (i + 1 : Nat)) (by simp) (by omega) ?_
              ((conv => whnf); repeat ((first | refine B0 ?_ | refine B1 ?_ | refine D1 ?_ | refine D2 ?_ | refine CallC.r ?_); conv => whnf))
              refine ih (i + 1) ⟨by omega, fun k hk hlt => ?_⟩ (by omega)
              by_cases e : k = i
              · subst e; rw [hrow]; exact g5
              · exact g3 k hk (by omega)
        · simp at g
          exact ResOK.same (by rw [(split_iff q q.vectors.length q.claim.rows q.claim.columns).2 fun k hk => g3 k hk (by omega)])
    · skip
      refine Br.mk (fun k3 => ?_) (fun k3 => ?_) <;> ((conv => whnf); repeat ((first | refine B0 ?_ | refine B1 ?_ | refine D1 ?_ | refine D2 ?_ | refine CallC.r ?_); conv => whnf))
      · refine Br.mk (fun e1 => ?_) (fun e1 => ?_) <;> ((conv => whnf); repeat ((first | refine B0 ?_ | refine B1 ?_ | refine D1 ?_ | refine D2 ?_ | refine CallC.r ?_); conv => whnf))
        · rw [hl] at e1
          have e1 : ((q.vectors.length : Int) == 1) = false := by simpa using e1
          exact ResOK.same (by simp only [stated, k1, k2, k3, Bool.false_eq_true, if_false, if_true, e1, Bool.false_and])
        · rw [hl] at e1
          have e1 : ((q.vectors.length : Int) == 1) = true := by simpa using e1
          have hst : stated q = okSplit q q.vectors.length q.claim.columns q.claim.rows := by
            simp only [stated, k1, k2, k3, Bool.false_eq_true, if_false, if_true, e1, Bool.true_and]; rw [split_all]
          rw [hst]
          refine Pick.mk [0, 3, 4, 5, 6, 7] trivial ?_
          ((conv => whnf); repeat ((first | refine B0 ?_ | refine B1 ?_ | refine D1 ?_ | refine D2 ?_ | refine CallC.r ?_); conv => whnf))
          refine LoopL.run (fun i : Nat => St.mk [.one (.c (.ptr 6 (Enc.enc q))), .one .dead, .one .dead, .one (.c (.ptr 4 (Enc.enc q.claim))), .one (.c (.int .i64 (q.vectors.map (Enc.enc (α := List Int))).length)), .one (.c (.int .i64 (q.vectors.map (Enc.enc (α := List Int))).length)), .one (.c (.bool false)), .one (.c (.int .i64 i)), .one .dead, .one .dead, .one .dead, .one .dead, .one .dead, .one .dead, .one .dead, .one .dead, .one .dead, .one .dead, .one .dead, .one .dead, .one .dead, .one .dead, .one .dead, .one .dead, .one .dead, .one .dead, .one .dead, .one .dead, .one .dead, .one .dead, .one .dead, .one .dead, .one .dead, .one .dead, .one .dead, .one .dead, .one .dead, .one .dead, .one .dead, .one .dead, .one .dead, .one .dead, .one .dead, .one .dead, .one .dead, .one .dead, .one .dead, .one .dead, .one .dead, .one .dead, .one .dead, .one .dead, .one .dead, .one .dead, .one .dead, .one .dead, .one .dead, .one .dead, .one .dead, .one .dead, .one .dead, .one .dead, .one .dead, .one .dead, .one .dead, .one .dead, .one .dead, .one .dead, .one .dead, .one .dead, .one .dead, .one .dead, .one .dead, .one .dead, .one .dead, .one .dead, .one .dead, .one .dead, .one .dead, .one .dead, .one .dead, .one .dead, .one .dead, .one .dead, .one .dead, .one .dead, .one .dead, .one .dead, .one .dead, .one .dead, .one .dead, .one .dead, .one .dead, .one .dead, .one .dead] []) (fun i => q.vectors.length - i) (fun i => i ≤ q.vectors.length ∧ ∀ (k : Nat) (h : k < q.vectors.length), k < i → okVec q.claim.prime (if k < q.vectors.length then q.claim.columns else q.claim.rows) q.vectors[k] = true) ?_ 0 ⟨Nat.zero_le _, by intros; omega⟩
          intro i ⟨g2, g3⟩ ih
          ((conv => whnf); repeat ((first | refine B0 ?_ | refine B1 ?_ | refine D1 ?_ | refine D2 ?_ | refine CallC.r ?_); conv => whnf))
          refine Br.mk (fun g => ?_) (fun g => ?_) <;> ((conv => whnf); repeat ((first | refine B0 ?_ | refine B1 ?_ | refine D1 ?_ | refine D2 ?_ | refine CallC.r ?_); conv => whnf))
          · simp at g
            refine Br.mk (fun g4 => ?_) (fun g4 => ?_) <;> ((conv => whnf); repeat ((first | refine B0 ?_ | refine B1 ?_ | refine D1 ?_ | refine D2 ?_ | refine CallC.r ?_); conv => whnf))
            · have hcol : (if i < q.vectors.length then q.claim.columns else q.claim.rows) = q.claim.columns := by
                simp at g4
                rw [if_pos (by omega)]
              refine Pick.ix g ?_
              ((conv => whnf); repeat ((first | refine B0 ?_ | refine B1 ?_ | refine D1 ?_ | refine D2 ?_ | refine CallC.r ?_); conv => whnf))
              refine Pick.mk _ (s_l04Vector q.vectors[i] (ov.2 _ (List.getElem_mem g)).1 q.claim.columns q.claim.prime (by omega) (by omega)) ?_
              ((conv => whnf); repeat ((first | refine B0 ?_ | refine B1 ?_ | refine D1 ?_ | refine D2 ?_ | refine CallC.r ?_); conv => whnf))
              refine Br.mk (fun g5 => ?_) (fun g5 => ?_) <;> ((conv => whnf); repeat ((first | refine B0 ?_ | refine B1 ?_ | refine D1 ?_ | refine D2 ?_ | refine CallC.r ?_); conv => whnf))
              · rw [Bool.not_eq_true'] at g5
                exact ResOK.same (by rw [split_no g (by rw [hcol]; exact g5)])
              · rw [Bool.not_eq_false'] at g5
                refine Pick.at64 (z := (i + 1 : Nat)) (by simp) (by omega) ?_
                ((conv => whnf); repeat ((first | refine B0 ?_ | refine B1 ?_ | refine D1 ?_ | refine D2 ?_ | refine CallC.r ?_); conv => whnf))
                refine ih (i + 1) ⟨by omega, fun k hk hlt => ?_⟩ (by omega)
                by_cases e : k = i
                · subst e; rw [hcol]; exact g5
                · exact g3 k hk (by omega)
            · have hrow : (if i < q.vectors.length then q.claim.columns else q.claim.rows) = q.claim.rows := by
                simp at g4
                rw [if_neg (by omega)]
              refine Pick.ix g ?_
              ((conv => whnf); repeat ((first | refine B0 ?_ | refine B1 ?_ | refine D1 ?_ | refine D2 ?_ | refine CallC.r ?_); conv => whnf))
              refine Pick.mk _ (s_l04Vector q.vectors[i] (ov.2 _ (List.getElem_mem g)).1 q.claim.rows q.claim.prime (by omega) (by omega)) ?_
              ((conv => whnf); repeat ((first | refine B0 ?_ | refine B1 ?_ | refine D1 ?_ | refine D2 ?_ | refine CallC.r ?_); conv => whnf))
              refine Br.mk (fun g5 => ?_) (fun g5 => ?_) <;> ((conv => whnf); repeat ((first | refine B0 ?_ | refine B1 ?_ | refine D1 ?_ | refine D2 ?_ | refine CallC.r ?_); conv => whnf))
              · rw [Bool.not_eq_true'] at g5
                exact ResOK.same (by rw [split_no g (by rw [hrow]; exact g5)])
              · rw [Bool.not_eq_false'] at g5
                refine Pick.at64 (z := (i + 1 : Nat)) (by simp) (by omega) ?_
                ((conv => whnf); repeat ((first | refine B0 ?_ | refine B1 ?_ | refine D1 ?_ | refine D2 ?_ | refine CallC.r ?_); conv => whnf))
                refine ih (i + 1) ⟨by omega, fun k hk hlt => ?_⟩ (by omega)
                by_cases e : k = i
                · subst e; rw [hrow]; exact g5
                · exact g3 k hk (by omega)
          · simp at g
            exact ResOK.same (by rw [(split_iff q q.vectors.length q.claim.columns q.claim.rows).2 fun k hk => g3 k hk (by omega)])
      · skip
        refine Br.mk (fun k4 => ?_) (fun k4 => ?_) <;> ((conv => whnf); repeat ((first | refine B0 ?_ | refine B1 ?_ | refine D1 ?_ | refine D2 ?_ | refine CallC.r ?_); conv => whnf))
        · refine Br.mk (fun e1 => ?_) (fun e1 => ?_) <;> ((conv => whnf); repeat ((first | refine B0 ?_ | refine B1 ?_ | refine D1 ?_ | refine D2 ?_ | refine CallC.r ?_); conv => whnf))
          · rw [hl] at e1
            have e1 : ((q.vectors.length : Int) == q.claim.columns) = false := by simpa using e1
            exact ResOK.same (by simp only [stated, k1, k2, k3, k4, Bool.false_eq_true, if_false, if_true, e1, Bool.false_and])
          · rw [hl] at e1
            have e1 : ((q.vectors.length : Int) == q.claim.columns) = true := by simpa using e1
            have hst : stated q = okSplit q q.vectors.length q.claim.rows q.claim.columns := by
              simp only [stated, k1, k2, k3, k4, Bool.false_eq_true, if_false, if_true, e1, Bool.true_and]; rw [split_all]
            rw [hst]
            refine Pick.mk [0, 3, 4, 5, 6, 7] trivial ?_
            ((conv => whnf); repeat ((first | refine B0 ?_ | refine B1 ?_ | refine D1 ?_ | refine D2 ?_ | refine CallC.r ?_); conv => whnf))
            refine LoopL.run (fun i : Nat => St.mk [.one (.c (.ptr 6 (Enc.enc q))), .one .dead, .one .dead, .one (.c (.ptr 4 (Enc.enc q.claim))), .one (.c (.int .i64 (q.vectors.map (Enc.enc (α := List Int))).length)), .one (.c (.int .i64 (q.vectors.map (Enc.enc (α := List Int))).length)), .one (.c (.bool true)), .one (.c (.int .i64 i)), .one .dead, .one .dead, .one .dead, .one .dead, .one .dead, .one .dead, .one .dead, .one .dead, .one .dead, .one .dead, .one .dead, .one .dead, .one .dead, .one .dead, .one .dead, .one .dead, .one .dead, .one .dead, .one .dead, .one .dead, .one .dead, .one .dead, .one .dead, .one .dead, .one .dead, .one .dead, .one .dead, .one .dead, .one .dead, .one .dead, .one .dead, .one .dead, .one .dead, .one .dead, .one .dead, .one .dead, .one .dead, .one .dead, .one .dead, .one .dead, .one .dead, .one .dead, .one .dead, .one .dead, .one .dead, .one .dead, .one .dead, .one .dead, .one .dead, .one .dead, .one .dead, .one .dead, .one .dead, .one .dead, .one .dead, .one .dead, .one .dead, .one .dead, .one .dead, .one .dead, .one .dead, .one .dead, .one .dead, .one .dead, .one .dead, .one .dead, .one .dead, .one .dead, .one .dead, .one .dead, .one .dead, .one .dead, .one .dead, .one .dead, .one .dead, .one .dead, .one .dead, .one .dead, .one .dead, .one .dead, .one .dead, .one .dead, .one .dead, .one .dead, .one .dead, .one .dead, .one .dead] []) (fun i => q.vectors.length - i) (fun i => i ≤ q.vectors.length ∧ ∀ (k : Nat) (h : k < q.vectors.length), k < i → okVec q.claim.prime (if k < q.vectors.length then q.claim.rows else q.claim.columns) q.vectors[k] = true) ?_ 0 ⟨Nat.zero_le _, by intros; omega⟩
            intro i ⟨g2, g3⟩ ih
            ((conv => whnf); repeat ((first | refine B0 ?_ | refine B1 ?_ | refine D1 ?_ | refine D2 ?_ | refine CallC.r ?_); conv => whnf))
            refine Br.mk (fun g => ?_) (fun g => ?_) <;> ((conv => whnf); repeat ((first | refine B0 ?_ | refine B1 ?_ | refine D1 ?_ | refine D2 ?_ | refine CallC.r ?_); conv => whnf))
            · simp at g
              refine Br.mk (fun g4 => ?_) (fun g4 => ?_) <;> ((conv => whnf); repeat ((first | refine B0 ?_ | refine B1 ?_ | refine D1 ?_ | refine D2 ?_ | refine CallC.r ?_); conv => whnf))
              · have hcol : (if i < q.vectors.length then q.claim.rows else q.claim.columns) = q.claim.columns := by
                  simp at g4
                  rw [if_neg (by omega)]
                refine Pick.ix g ?_
                ((conv => whnf); repeat ((first | refine B0 ?_ | refine B1 ?_ | refine D1 ?_ | refine D2 ?_ | refine CallC.r ?_); conv => whnf))
                refine Pick.mk _ (s_l04Vector q.vectors[i] (ov.2 _ (List.getElem_mem g)).1 q.claim.columns q.claim.prime (by omega) (by omega)) ?_
                ((conv => whnf); repeat ((first | refine B0 ?_ | refine B1 ?_ | refine D1 ?_ | refine D2 ?_ | refine CallC.r ?_); conv => whnf))
                refine Br.mk (fun g5 => ?_) (fun g5 => ?_) <;> ((conv => whnf); repeat ((first | refine B0 ?_ | refine B1 ?_ | refine D1 ?_ | refine D2 ?_ | refine CallC.r ?_); conv => whnf))
                · rw [Bool.not_eq_true'] at g5
                  exact ResOK.same (by rw [split_no g (by rw [hcol]; exact g5)])
                · rw [Bool.not_eq_false'] at g5
                  refine Pick.at64 (z := (i + 1 : Nat)) (by simp) (by omega) ?_
                  ((conv => whnf); repeat ((first | refine B0 ?_ | refine B1 ?_ | refine D1 ?_ | refine D2 ?_ | refine CallC.r ?_); conv => whnf))
                  refine ih (i + 1) ⟨by omega, fun k hk hlt => ?_⟩ (by omega)
                  by_cases e : k = i
                  · subst e; rw [hcol]; exact g5
                  · exact g3 k hk (by omega)
              · have hrow : (if i < q.vectors.length then q.claim.rows else q.claim.columns) = q.claim.rows := by
                  simp at g4
                  rw [if_pos (by omega)]
                refine Pick.ix g ?_
                ((conv => whnf); repeat ((first | refine B0 ?_ | refine B1 ?_ | refine D1 ?_ | refine D2 ?_ | refine CallC.r ?_); conv => whnf))
                refine Pick.mk _ (s_l04Vector q.vectors[i] (ov.2 _ (List.getElem_mem g)).1 q.claim.rows q.claim.prime (by omega) (by omega)) ?_
                ((conv => whnf); repeat ((first | refine B0 ?_ | refine B1 ?_ | refine D1 ?_ | refine D2 ?_ | refine CallC.r ?_); conv => whnf))
                refine Br.mk (fun g5 => ?_) (fun g5 => ?_) <;> ((conv => whnf); repeat ((first | refine B0 ?_ | refine B1 ?_ | refine D1 ?_ | refine D2 ?_ | refine CallC.r ?_); conv => whnf))
                · rw [Bool.not_eq_true'] at g5
                  exact ResOK.same (by rw [split_no g (by rw [hrow]; exact g5)])
                · rw [Bool.not_eq_false'] at g5
                  refine Pick.at64 (z := (i + 1 : Nat)) (by simp) (by omega) ?_
                  ((conv => whnf); repeat ((first | refine B0 ?_ | refine B1 ?_ | refine D1 ?_ | refine D2 ?_ | refine CallC.r ?_); conv => whnf))
                  refine ih (i + 1) ⟨by omega, fun k hk hlt => ?_⟩ (by omega)
                  by_cases e : k = i
                  · subst e; rw [hrow]; exact g5
                  · exact g3 k hk (by omega)
            · simp at g
              exact ResOK.same (by rw [(split_iff q q.vectors.length q.claim.rows q.claim.columns).2 fun k hk => g3 k hk (by omega)])
        · skip
          refine Br.mk (fun k5 => ?_) (fun k5 => ?_) <;> ((conv => whnf); repeat ((first | refine B0 ?_ | refine B1 ?_ | refine D1 ?_ | refine D2 ?_ | refine CallC.r ?_); conv => whnf))
          · refine Side.mk (by omega) ?_
            ((conv => whnf); repeat ((first | refine B0 ?_ | refine B1 ?_ | refine D1 ?_ | refine D2 ?_ | refine CallC.r ?_); conv => whnf))
            refine Br.mk (fun e1 => ?_) (fun e1 => ?_) <;> ((conv => whnf); repeat ((first | refine B0 ?_ | refine B1 ?_ | refine D1 ?_ | refine D2 ?_ | refine CallC.r ?_); conv => whnf))
            · rw [hl] at e1
              have e1 : ((q.vectors.length : Int).tmod 2 == 0) = false := by simpa using e1
              exact ResOK.same (by simp only [stated, k1, k2, k3, k4, k5, Bool.false_eq_true, if_false, if_true, e1, Bool.false_and])
            · rw [hl] at e1
              have e1 : ((q.vectors.length : Int).tmod 2 == 0) = true := by simpa using e1
              refine Side.mk (by omega) ?_
              ((conv => whnf); repeat ((first | refine B0 ?_ | refine B1 ?_ | refine D1 ?_ | refine D2 ?_ | refine CallC.r ?_); conv => whnf))
              refine Pick.at64 (z := ((q.vectors.length / 2 : Nat) : Int)) (by rw [hl, half]) (by omega) ?_
              ((conv => whnf); repeat ((first | refine B0 ?_ | refine B1 ?_ | refine D1 ?_ | refine D2 ?_ | refine CallC.r ?_); conv => whnf))
              have hst : stated q = okSplit q (q.vectors.length / 2) q.claim.columns q.claim.rows := by
                simp only [stated, k1, k2, k3, k4, k5, Bool.false_eq_true, if_false, if_true, e1, Bool.true_and]; rfl
              rw [hst]
              refine Pick.mk [0, 3, 4, 5, 6, 7] trivial ?_
              ((conv => whnf); repeat ((first | refine B0 ?_ | refine B1 ?_ | refine D1 ?_ | refine D2 ?_ | refine CallC.r ?_); conv => whnf))
              refine LoopL.run (fun i : Nat => St.mk [.one (.c (.ptr 6 (Enc.enc q))), .one .dead, .one .dead, .one (.c (.ptr 4 (Enc.enc q.claim))), .one (.c (.int .i64 (q.vectors.map (Enc.enc (α := List Int))).length)), .one (.c (.int .i64 ((q.vectors.length / 2 : Nat) : Int))), .one (.c (.bool false)), .one (.c (.int .i64 i)), .one .dead, .one .dead, .one .dead, .one .dead, .one .dead, .one .dead, .one .dead, .one .dead, .one .dead, .one .dead, .one .dead, .one .dead, .one .dead, .one .dead, .one .dead, .one .dead, .one .dead, .one .dead, .one .dead, .one .dead, .one .dead, .one .dead, .one .dead, .one .dead, .one .dead, .one .dead, .one .dead, .one .dead, .one .dead, .one .dead, .one .dead, .one .dead, .one .dead, .one .dead, .one .dead, .one .dead, .one .dead, .one .dead, .one .dead, .one .dead, .one .dead, .one .dead, .one .dead, .one .dead, .one .dead, .one .dead, .one .dead, .one .dead, .one .dead, .one .dead, .one .dead, .one .dead, .one .dead, .one .dead, .one .dead, .one .dead, .one .dead, .one .dead, .one .dead, .one .dead, .one .dead, .one .dead, .one .dead, .one .dead, .one .dead, .one .dead, .one .dead, .one .dead, .one .dead, .one .dead, .one .dead, .one .dead, .one .dead, .one .dead, .one .dead, .one .dead, .one .dead, .one .dead, .one .dead, .one .dead, .one .dead, .one .dead, .one .dead, .one .dead, .one .dead, .one .dead, .one .dead] []) (fun i => q.vectors.length - i) (fun i => i ≤ q.vectors.length ∧ ∀ (k : Nat) (h : k < q.vectors.length), k < i → okVec q.claim.prime (if k < (q.vectors.length / 2) then q.claim.columns else q.claim.rows) q.vectors[k] = true) ?_ 0 ⟨Nat.zero_le _, by intros; omega⟩
              intro i ⟨g2, g3⟩ ih
              ((conv => whnf); repeat ((first | refine B0 ?_ | refine B1 ?_ | refine D1 ?_ | refine D2 ?_ | refine CallC.r ?_); conv => whnf))
              refine Br.mk (fun g => ?_) (fun g => ?_) <;> ((conv => whnf); repeat ((first | refine B0 ?_ | refine B1 ?_ | refine D1 ?_ | refine D2 ?_ | refine CallC.r ?_); conv => whnf))
              · simp at g
                refine Br.mk (fun g4 => ?_) (fun g4 => ?_) <;> ((conv => whnf); repeat ((first | refine B0 ?_ | refine B1 ?_ | refine D1 ?_ | refine D2 ?_ | refine CallC.r ?_); conv => whnf))
                · have hcol : (if i < (q.vectors.length / 2) then q.claim.columns else q.claim.rows) = q.claim.columns := by
                    simp at g4
                    rw [if_pos (by omega)]
                  refine Pick.ix g ?_
                  ((conv => whnf); repeat ((first | refine B0 ?_ | refine B1 ?_ | refine D1 ?_ | refine D2 ?_ | refine CallC.r ?_); conv => whnf))
                  refine Pick.mk _ (s_l04Vector q.vectors[i] (ov.2 _ (List.getElem_mem g)).1 q.claim.columns q.claim.prime (by omega) (by omega)) ?_
                  ((conv => whnf); repeat ((first | refine B0 ?_ | refine B1 ?_ | refine D1 ?_ | refine D2 ?_ | refine CallC.r ?_); conv => whnf))
                  refine Br.mk (fun g5 => ?_) (fun g5 => ?_) <;> ((conv => whnf); repeat ((first | refine B0 ?_ | refine B1 ?_ | refine D1 ?_ | refine D2 ?_ | refine CallC.r ?_); conv => whnf))
                  · rw [Bool.not_eq_true'] at g5
                    exact ResOK.same (by rw [split_no g (by rw [hcol]; exact g5)])
                  · rw [Bool.not_eq_false'] at g5
                    refine Pick.at64 (z := (i + 1 : Nat)) (by simp) (by omega) ?_
                    ((conv => whnf); repeat ((first | refine B0 ?_ | refine B1 ?_ | refine D1 ?_ | refine D2 ?_ | refine CallC.r ?_); conv => whnf))
                    refine ih (i + 1) ⟨by omega, fun k hk hlt => ?_⟩ (by omega)
                    by_cases e : k = i
                    · subst e; rw [hcol]; exact g5
                    · exact g3 k hk (by omega)
                · have hrow : (if i < (q.vectors.length / 2) then q.claim.columns else q.claim.rows) = q.claim.rows := by
                    simp at g4
                    rw [if_neg (by omega)]
                  refine Pick.ix g ?_
                  ((conv => whnf); repeat ((first | refine B0 ?_ | refine B1 ?_ | refine D1 ?_ | refine D2 ?_ | refine CallC.r ?_); conv => whnf))
                  refine Pick.mk _ (s_l04Vector q.vectors[i] (ov.2 _ (List.getElem_mem g)).1 q.claim.rows q.claim.prime (by omega) (by omega)) ?_
                  ((conv => whnf); repeat ((first | refine B0 ?_ | refine B1 ?_ | refine D1 ?_ | refine D2 ?_ | refine CallC.r ?_); conv => whnf))
                  refine Br.mk (fun g5 => ?_) (fun g5 => ?_) <;> ((conv => whnf); repeat ((first | refine B0 ?_ | refine B1 ?_ | refine D1 ?_ | refine D2 ?_ | refine CallC.r ?_); conv => whnf))
                  · rw [Bool.not_eq_true'] at g5
                    exact ResOK.same (by rw [split_no g (by rw [hrow]; exact g5)])
                  · rw [Bool.not_eq_false'] at g5
                    refine Pick.at64 (z := (i + 1 : Nat)) (by simp) (by omega) ?_
                    ((conv => whnf); repeat ((first | refine B0 ?_ | refine B1 ?_ | refine D1 ?_ | refine D2 ?_ | refine CallC.r ?_); conv => whnf))
                    refine ih (i + 1) ⟨by omega, fun k hk hlt => ?_⟩ (by omega)
                    by_cases e : k = i
                    · subst e; rw [hrow]; exact g5
                    · exact g3 k hk (by omega)
              · simp at g
                exact ResOK.same (by rw [(split_iff q (q.vectors.length / 2) q.claim.columns q.claim.rows).2 fun k hk => g3 k hk (by omega)])
          · skip
            refine Br.mk (fun k6 => ?_) (fun k6 => ?_) <;> ((conv => whnf); repeat ((first | refine B0 ?_ | refine B1 ?_ | refine D1 ?_ | refine D2 ?_ | refine CallC.r ?_); conv => whnf))
            · refine Side.mk (by omega) ?_
              ((conv => whnf); repeat ((first | refine B0 ?_ | refine B1 ?_ | refine D1 ?_ | refine D2 ?_ | refine CallC.r ?_); conv => whnf))
              refine Br.mk (fun e1 => ?_) (fun e1 => ?_) <;> ((conv => whnf); repeat ((first | refine B0 ?_ | refine B1 ?_ | refine D1 ?_ | refine D2 ?_ | refine CallC.r ?_); conv => whnf))
              · rw [hl] at e1
                have e1 : ((q.vectors.length : Int).tmod 2 == 0) = false := by simpa using e1
                exact ResOK.same (by simp only [stated, k1, k2, k3, k4, k5, k6, Bool.false_eq_true, if_false, if_true, e1, Bool.false_and])
              · rw [hl] at e1
                have e1 : ((q.vectors.length : Int).tmod 2 == 0) = true := by simpa using e1
                refine Side.mk (by omega) ?_
                ((conv => whnf); repeat ((first | refine B0 ?_ | refine B1 ?_ | refine D1 ?_ | refine D2 ?_ | refine CallC.r ?_); conv => whnf))
                refine Pick.at64 (z := ((q.vectors.length / 2 : Nat) : Int)) (by rw [hl, half]) (by omega) ?_
                ((conv => whnf); repeat ((first | refine B0 ?_ | refine B1 ?_ | refine D1 ?_ | refine D2 ?_ | refine CallC.r ?_); conv => whnf))
                have hst : stated q = okSplit q (q.vectors.length / 2) q.claim.rows q.claim.columns := by
                  simp only [stated, k1, k2, k3, k4, k5, k6, Bool.false_eq_true, if_false, if_true, e1, Bool.true_and]; rfl
                rw [hst]
                refine Pick.mk [0, 3, 4, 5, 6, 7] trivial ?_
                ((conv => whnf); repeat ((first | refine B0 ?_ | refine B1 ?_ | refine D1 ?_ | refine D2 ?_ | refine CallC.r ?_); conv => whnf))
                refine LoopL.run (fun i : Nat => St.mk [.one (.c (.ptr 6 (Enc.enc q))), .one .dead, .one .dead, .one (.c (.ptr 4 (Enc.enc q.claim))), .one (.c (.int .i64 (q.vectors.map (Enc.enc (α := List Int))).length)), .one (.c (.int .i64 ((q.vectors.length / 2 : Nat) : Int))), .one (.c (.bool true)), .one (.c (.int .i64 i)), .one .dead, .one .dead, .one .dead, .one .dead, .one .dead, .one .dead, .one .dead, .one .dead, .one .dead, .one .dead, .one .dead, .one .dead, .one .dead, .one .dead, .one .dead, .one .dead, .one .dead, .one .dead, .one .dead, .one .dead, .one .dead, .one .dead, .one .dead, .one .dead, .one .dead, .one .dead, .one .dead, .one .dead, .one .dead, .one .dead, .one .dead, .one .dead, .one .dead, .one .dead, .one .dead, .one .dead, .one .dead, .one .dead, .one .dead, .one .dead, .one .dead, .one .dead, .one .dead, .one .dead, .one .dead, .one .dead, .one .dead, .one .dead, .one .dead, .one .dead, .one .dead, .one .dead, .one .dead, .one .dead, .one .dead, .one .dead, .one .dead, .one .dead, .one .dead, .one .dead, .one .dead, .one .dead, .one .dead, .one .dead, .one .dead, .one .dead, .one .dead, .one .dead, .one .dead, .one .dead, .one .dead, .one .dead, .one .dead, .one .dead, .one .dead, .one .dead, .one .dead, .one .dead, .one .dead, .one .dead, .one .dead, .one .dead, .one .dead, .one .dead, .one .dead, .one .dead, .one .dead] []) (fun i => q.vectors.length - i) (fun i => i ≤ q.vectors.length ∧ ∀ (k : Nat) (h : k < q.vectors.length), k < i → okVec q.claim.prime (if k < (q.vectors.length / 2) then q.claim.rows else q.claim.columns) q.vectors[k] = true) ?_ 0 ⟨Nat.zero_le _, by intros; omega⟩
                intro i ⟨g2, g3⟩ ih
                ((conv => whnf); repeat ((first | refine B0 ?_ | refine B1 ?_ | refine D1 ?_ | refine D2 ?_ | refine CallC.r ?_); conv => whnf))
                refine Br.mk (fun g => ?_) (fun g => ?_) <;> ((conv => whnf); repeat ((first | refine B0 ?_ | refine B1 ?_ | refine D1 ?_ | refine D2 ?_ | refine CallC.r ?_); conv => whnf))
                · simp at g
                  refine Br.mk (fun g4 => ?_) (fun g4 => ?_) <;> ((conv => whnf); repeat ((first | refine B0 ?_ | refine B1 ?_ | refine D1 ?_ | refine D2 ?_ | refine CallC.r ?_); conv => whnf))
                  · have hcol : (if i < (q.vectors.length / 2) then q.claim.rows else q.claim.columns) = q.claim.columns := by
                      simp at g4
                      rw [if_neg (by omega)]
                    refine Pick.ix g ?_
                    ((conv => whnf); repeat ((first | refine B0 ?_ | refine B1 ?_ | refine D1 ?_ | refine D2 ?_ | refine CallC.r ?_); conv => whnf))
                    refine Pick.mk _ (s_l04Vector q.vectors[i] (ov.2 _ (List.getElem_mem g)).1 q.claim.columns q.claim.prime (by omega) (by omega)) ?_
                    ((conv => whnf); repeat ((first | refine B0 ?_ | refine B1 ?_ | refine D1 ?_ | refine D2 ?_ | refine CallC.r ?_); conv => whnf))
                    refine Br.mk (fun g5 => ?_) (fun g5 => ?_) <;> ((conv => whnf); repeat ((first | refine B0 ?_ | refine B1 ?_ | refine D1 ?_ | refine D2 ?_ | refine CallC.r ?_); conv => whnf))
                    · rw [Bool.not_eq_true'] at g5
                      exact ResOK.same (by rw [split_no g (by rw [hcol]; exact g5)])
                    · rw [Bool.not_eq_false'] at g5
                      refine Pick.at64 (z := (i + 1 : Nat)) (by simp) (by omega) ?_
                      ((conv => whnf); repeat ((first | refine B0 ?_ | refine B1 ?_ | refine D1 ?_ | refine D2 ?_ | refine CallC.r ?_); conv => whnf))
                      refine ih (i + 1) ⟨by omega, fun k hk hlt => ?_⟩ (by omega)
                      by_cases e : k = i
                      · subst e; rw [hcol]; exact g5
                      · exact g3 k hk (by omega)
                  · have hrow : (if i < (q.vectors.length / 2) then q.claim.rows else q.claim.columns) = q.claim.rows := by
                      simp at g4
                      rw [if_pos (by omega)]
                    refine Pick.ix g ?_
                    ((conv => whnf); repeat ((first | refine B0 ?_ | refine B1 ?_ | refine D1 ?_ | refine D2 ?_ | refine CallC.r ?_); conv => whnf))
                    refine Pick.mk _ (s_l04Vector q.vectors[i] (ov.2 _ (List.getElem_mem g)).1 q.claim.rows q.claim.prime (by omega) (by omega)) ?_
                    ((conv => whnf); repeat ((first | refine B0 ?_ | refine B1 ?_ | refine D1 ?_ | refine D2 ?_ | refine CallC.r ?_); conv => whnf))
                    refine Br.mk (fun g5 => ?_) (fun g5 => ?_) <;> ((conv => whnf); repeat ((first | refine B0 ?_ | refine B1 ?_ | refine D1 ?_ | refine D2 ?_ | refine CallC.r ?_); conv => whnf))
                    · rw [Bool.not_eq_true'] at g5
                      exact ResOK.same (by rw [split_no g (by rw [hrow]; exact g5)])
                    · rw [Bool.not_eq_false'] at g5
                      refine Pick.at64 (z := (i + 1 : Nat)) (by simp) (by omega) ?_
                      ((conv => whnf); repeat ((first | refine B0 ?_ | refine B1 ?_ | refine D1 ?_ | refine D2 ?_ | refine CallC.r ?_); conv => whnf))
                      refine ih (i + 1) ⟨by omega, fun k hk hlt => ?_⟩ (by omega)
                      by_cases e : k = i
                      · subst e; rw [hrow]; exact g5
                      · exact g3 k hk (by omega)
                · simp at g
                  exact ResOK.same (by rw [(split_iff q (q.vectors.length / 2) q.claim.rows q.claim.columns).2 fun k hk => g3 k hk (by omega)])
            · exact ResOK.same (by simp only [stated, k1, k2, k3, k4, k5, k6, Bool.false_eq_true, if_false, if_true])

end Go.Proofs.YtnafogjagbhdbaaDoor.Pi
