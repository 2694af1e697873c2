/- Deep copies, marks and what is held, of matrices, lists of lists and proofs. No statement of the seat is proved here. -/
import Derived.Test.YtnmoeeneofopcaaPiM1
import Derived.Test.YtnmoeeneofopcaaPiU1
namespace Go.Proofs.Ytnmoeeneofopcaa.Pi
open Go
set_option maxRecDepth 10000
set_option linter.unusedVariables false
set_option linter.unusedSimpArgs false

instance : Big (List Int) := ⟨fun x => x.length ≤ 1099511627776⟩

theorem m_Int64SS (a : Bool) (xs : List (List Int)) (k : Int) (hk : k + Mk.cnt xs ≤ 1099511627776) (h0 : 0 ≤ k) (hb : xs.length ≤ 1099511627776) (hl : ∀ x ∈ xs, bigL x) :
    SatM Try.prog 13 [.one (.ds 1000000), .one (.c (.int .i64 k))] [(1000000, .deep a 1 (xs.map Enc.enc))] (.one (.c (.int .i64 (k + Mk.cnt xs))), [(1000000, .deep a 1 ((mkL xs k).map Enc.enc))]) := by
  have hc := cnt_list xs
  refine SatM.intro tok mixed Try.func13 rfl rfl ?_
  ((conv => whnf); repeat ((first | refine B0 ?_ | refine B1 ?_ | refine D1 ?_ | refine D2 ?_ | refine CallC.r ?_); conv => whnf))
  refine Pick.mk [0, 1, 5] trivial ?_
  ((conv => whnf); repeat ((first | refine B0 ?_ | refine B1 ?_ | refine D1 ?_ | refine D2 ?_ | refine CallC.r ?_); conv => whnf))
  refine LoopL.run (fun i : Nat => St.mk [.one (.ds 1000000), .one (.c (.int .i64 (k + cnts xs i))), .one .dead, .one .dead, .one .dead, .one (.c (.int .i64 i)), .one .dead, .one .dead, .one .dead, .one .dead, .one .dead, .one .dead, .one .dead, .one .dead, .one .dead, .one .dead, .one .dead, .one .dead, .one .dead] [(1000000, .deep a 1 (part xs k i))]) (fun i => xs.length - i) (fun i => i ≤ xs.length) ?_ 0 (Nat.zero_le _) (by rw [part_zero, cnts_zero]; simp only [Int.natCast_zero, Int.add_zero] <;> rfl)
  intro i h2 ih
  have hpl := part_length xs k i
  refine pwp_cut fun K hK => ?_
  ((conv => whnf); repeat ((first | refine B0 ?_ | refine B1 ?_ | refine D1 ?_ | refine D2 ?_ | refine CallC.r ?_); conv => whnf))
  refine Br.mk (fun h => ?_) (fun h => ?_) <;> ((conv => whnf); repeat ((first | refine B0 ?_ | refine B1 ?_ | refine D1 ?_ | refine D2 ?_ | refine CallC.r ?_); conv => whnf))
  · simp [hpl] at h
    have e1 := cnts_succ xs i h
    have e2 := cnts_le xs (i + 1)
    have e3 : Mk.cnt xs[i] = Mk.cnt xs[i] := rfl
    refine hK _ ?_
    refine pwp_cut fun K1 hK1 => pwp_into ?_
    ((conv => whnf); repeat ((first | refine B0 ?_ | refine B1 ?_ | refine D1 ?_ | refine D2 ?_ | refine CallC.r ?_); conv => whnf))
    refine Side.mk (by simp [hpl] <;> omega) ?_
    ((conv => whnf); repeat ((first | refine B0 ?_ | refine B1 ?_ | refine D1 ?_ | refine D2 ?_ | refine CallC.r ?_); conv => whnf))
    refine Pick.mk ([.slice 1 (xs[i].map Enc.enc)] : List CV) (by rw [show ((i : Int).toNat) = i by omega, part_get xs k i h]; rfl) ?_
    ((conv => whnf); repeat ((first | refine B0 ?_ | refine B1 ?_ | refine D1 ?_ | refine D2 ?_ | refine CallC.r ?_); conv => whnf))
    refine Pick.mk true trivial ?_
    ((conv => whnf); repeat ((first | refine B0 ?_ | refine B1 ?_ | refine D1 ?_ | refine D2 ?_ | refine CallC.r ?_); conv => whnf))
    refine Side.mk rfl ?_
    ((conv => whnf); repeat ((first | refine B0 ?_ | refine B1 ?_ | refine D1 ?_ | refine D2 ?_ | refine CallC.r ?_); conv => whnf))
    refine Pick.mk ((([.slice 1 (xs[i].map Enc.enc)] : List CV), 1, xs[i].map Enc.enc) : List CV × Nat × List (List CV)) ⟨by rw [show ((i : Int).toNat) = i by omega, part_get xs k i h]; rfl, rfl⟩ ?_
    ((conv => whnf); repeat ((first | refine B0 ?_ | refine B1 ?_ | refine D1 ?_ | refine D2 ?_ | refine CallC.r ?_); conv => whnf))
    have hw0 := hl xs[i] (List.getElem_mem h)
    have hm0 := m_Int64S false xs[i] (k + cnts xs i) (by omega) (by omega) (by simp only [bigL, Big.big] at hw0; omega)
    rw [show ((k + cnts xs i) + (Mk.cnt xs[i] : Int)) = k + cnts xs (i + 1) by omega] at hm0
    refine Pick.mk _ hm0 ?_
    ((conv => whnf); repeat ((first | refine B0 ?_ | refine B1 ?_ | refine D1 ?_ | refine D2 ?_ | refine CallC.r ?_); conv => whnf))
    refine Side.mk (by rw [List.length_map, List.length_map, mkL_length]) ?_
    ((conv => whnf); repeat ((first | refine B0 ?_ | refine B1 ?_ | refine D1 ?_ | refine D2 ?_ | refine CallC.r ?_); conv => whnf))
    refine hK1 _ ?_
    ((conv => whnf); repeat ((first | refine B0 ?_ | refine B1 ?_ | refine D1 ?_ | refine D2 ?_ | refine CallC.r ?_); conv => whnf))
    refine Pick.at64 (z := (i + 1 : Nat)) (by simp) (by omega) ?_
    ((conv => whnf); repeat ((first | refine B0 ?_ | refine B1 ?_ | refine D1 ?_ | refine D2 ?_ | refine CallC.r ?_); conv => whnf))
    have e : (part xs k i).set (i : Int).toNat (([.slice 1 (xs[i].map Enc.enc)] : List CV).set 0 (.slice 1 ((mkL xs[i] (k + cnts xs i)).map Enc.enc))) = part xs k (i + 1) := by
      rw [← part_set xs k i h, show ((i : Int).toNat) = i by omega]
      try simp only [List.set_set]
      rfl
    refine cast (congrArg (fun r => LoopL _ _ _ ⟨_, [(_, .deep a 1 r)]⟩) e.symm) (ih (i + 1) (by omega) (by omega))
  · simp [hpl] at h
    have e1 := part_all xs k i (by omega)
    have e2 := cnts_all xs i (by omega)
    rw [e1, e2, ← hc]

theorem h_Int64SS (xs : List (List Int)) (k : Int) (hk : k + Mk.cnt xs ≤ 1099511627776) (h0 : 0 ≤ k) (hb : xs.length ≤ 1099511627776) (hl : ∀ x ∈ xs, bigL x) :
    Sat Try.prog 14 [(false, Enc.enc (mkL xs k)), (false, [.int .i64 k])] (.one (.c (.int .i64 (k + Mk.cnt xs))), []) := by
  have hc := cnt_list xs
  have hpl := mkL_length xs k
  refine Sat.intro tok mixed Try.func14 rfl rfl ?_
  ((conv => whnf); repeat ((first | refine B0 ?_ | refine B1 ?_ | refine D1 ?_ | refine D2 ?_ | refine CallC.r ?_); conv => whnf))
  refine Pick.mk [0, 1, 5] trivial ?_
  ((conv => whnf); repeat ((first | refine B0 ?_ | refine B1 ?_ | refine D1 ?_ | refine D2 ?_ | refine CallC.r ?_); conv => whnf))
  refine LoopL.run (fun i : Nat => St.mk [.one (.c (.slice 1 ((mkL xs k).map Enc.enc))), .one (.c (.int .i64 (k + cnts xs i))), .one .dead, .one .dead, .one .dead, .one (.c (.int .i64 i)), .one .dead, .one .dead, .one .dead, .one .dead, .one .dead, .one .dead, .one .dead, .one .dead, .one .dead, .one .dead, .one .dead, .one .dead, .one .dead, .one .dead, .one .dead] []) (fun i => xs.length - i) (fun i => i ≤ xs.length) ?_ 0 (Nat.zero_le _) (by rw [cnts_zero]; simp only [Int.natCast_zero, Int.add_zero] <;> rfl)
  intro i h2 ih
  ((conv => whnf); repeat ((first | refine B0 ?_ | refine B1 ?_ | refine D1 ?_ | refine D2 ?_ | refine CallC.r ?_); conv => whnf))
  refine Br.mk (fun h => ?_) (fun h => ?_) <;> ((conv => whnf); repeat ((first | refine B0 ?_ | refine B1 ?_ | refine D1 ?_ | refine D2 ?_ | refine CallC.r ?_); conv => whnf))
  · simp [hpl] at h
    have hr : ((mkL xs k).map Enc.enc)[(i : Int).toNat]? = some ([.slice 1 ((mkL xs[i] (k + cnts xs i)).map Enc.enc)] : List CV) := by
      rw [show ((i : Int).toNat) = i by omega, List.getElem?_map, mkL_get xs k i h]; rfl
    have e1 := cnts_succ xs i h
    have e2 := cnts_le xs (i + 1)
    have e3 : Mk.cnt xs[i] = Mk.cnt xs[i] := rfl
    refine Pick.mk _ ⟨by omega, hr⟩ ?_
    ((conv => whnf); repeat ((first | refine B0 ?_ | refine B1 ?_ | refine D1 ?_ | refine D2 ?_ | refine CallC.r ?_); conv => whnf))
    have hw0 := hl xs[i] (List.getElem_mem h)
    have hm0 := h_Int64S xs[i] (k + cnts xs i) (by omega) (by omega) (by simp only [bigL, Big.big] at hw0; omega)
    rw [show ((k + cnts xs i) + (Mk.cnt xs[i] : Int)) = k + cnts xs (i + 1) by omega] at hm0
    refine Pick.mk _ hm0 ?_
    ((conv => whnf); repeat ((first | refine B0 ?_ | refine B1 ?_ | refine D1 ?_ | refine D2 ?_ | refine CallC.r ?_); conv => whnf))
    refine Br.mk (fun h5 => ?_) (fun h5 => ?_) <;> ((conv => whnf); repeat ((first | refine B0 ?_ | refine B1 ?_ | refine D1 ?_ | refine D2 ?_ | refine CallC.r ?_); conv => whnf))
    · simp at h5
      omega
    clear h5
    refine Pick.at64 (z := (i + 1 : Nat)) (by simp) (by omega) ?_
    ((conv => whnf); repeat ((first | refine B0 ?_ | refine B1 ?_ | refine D1 ?_ | refine D2 ?_ | refine CallC.r ?_); conv => whnf))
    exact ih (i + 1) (by omega) (by omega)
  · simp [hpl] at h
    have e2 := cnts_all xs i (by omega)
    exact ResOK.same (by rw [e2, ← hc])


/-- A proof, marked. -/
def markP (x : Proof) (k : Int) : Proof := ⟨x.kind, ⟨x.claim.prime, x.claim.rows, x.claim.columns, mkL x.claim.cells k⟩, mkL x.vectors (k + Mk.cnt x.claim.cells)⟩
end Go.Proofs.Ytnmoeeneofopcaa.Pi
