/- Deep copies, marks and what is held, of tables. No statement of the seat is proved here. -/
import Derived.Test.YtnmoeeneofopcaaPiM5
import Derived.Test.YtnmoeeneofopcaaPiU4
namespace Go.Proofs.Ytnmoeeneofopcaa.Pi
open Go
set_option maxRecDepth 10000
set_option maxHeartbeats 1600000
set_option linter.unusedVariables false
set_option linter.unusedSimpArgs false

instance : Mk Table := ⟨fun x k => ⟨mkL x.columns (k), mkL x.rows (k + Mk.cnt x.columns)⟩, fun x => 0 + Mk.cnt x.columns + Mk.cnt x.rows⟩

instance : Big Table := ⟨fun x => x.columns.length ≤ 1099511627776 ∧ x.rows.length ≤ 1099511627776 ∧ (∀ y ∈ x.rows, bigL y)⟩

theorem d_Int64SS (xs : List (List Int)) (hb : Enc.wt xs ≤ 1048576) : Sat Try.prog 37 [(false, Enc.enc xs)] (.one (.ds 0), [(0, .deep true 1 (xs.map Enc.enc))]) := by
  have hl : (xs.map (Enc.enc (α := List Int))).length = xs.length := by simp
  have hw := wt_list xs
  refine Sat.intro tok mixed Try.func37 rfl rfl ?_
  ((conv => whnf); repeat ((first | refine B0 ?_ | refine B1 ?_ | refine D1 ?_ | refine D2 ?_ | refine CallC.r ?_); conv => whnf))
  refine Side.mk (by omega) ?_
  ((conv => whnf); repeat ((first | refine B0 ?_ | refine B1 ?_ | refine D1 ?_ | refine D2 ?_ | refine CallC.r ?_); conv => whnf))
  refine Pick.mk [0, 3, 4, 2000192] trivial ?_
  ((conv => whnf); repeat ((first | refine B0 ?_ | refine B1 ?_ | refine D1 ?_ | refine D2 ?_ | refine CallC.r ?_); conv => whnf))
  refine Side.mk (flat_rep rfl) ?_
  ((conv => whnf); repeat ((first | refine B0 ?_ | refine B1 ?_ | refine D1 ?_ | refine D2 ?_ | refine CallC.r ?_); conv => whnf))
  refine LoopL.run (fun i : Nat => St.mk [.one (.c (.slice 1 (xs.map Enc.enc))), .one .dead, .one .dead, .one (.ds 192), .one (.c (.int .i64 i)), .one .dead, .one .dead, .one .dead, .one .dead, .one .dead, .one .dead, .one .dead, .one .dead, .one .dead, .one .dead, .one .dead, .one .dead, .one .dead, .one .dead, .one .dead, .one .dead, .one .dead, .one .dead] [(192, .deep true 1 (upTo [.slice 1 []] xs i))])
      (fun i => xs.length - i) (fun i => i ≤ xs.length) ?_ 0 (Nat.zero_le _) (by rw [upTo_zero, hl]; rfl)
  intro i h2 ih
  refine pwp_cut fun K hK => ?_
  ((conv => whnf); repeat ((first | refine B0 ?_ | refine B1 ?_ | refine D1 ?_ | refine D2 ?_ | refine CallC.r ?_); conv => whnf))
  refine Br.mk (fun h => ?_) (fun h => ?_) <;> ((conv => whnf); repeat ((first | refine B0 ?_ | refine B1 ?_ | refine D1 ?_ | refine D2 ?_ | refine CallC.r ?_); conv => whnf))
  · simp at h
    refine hK _ (pwp_cut fun K1 hK1 => pwp_into ?_)
    ((conv => whnf); repeat ((first | refine B0 ?_ | refine B1 ?_ | refine D1 ?_ | refine D2 ?_ | refine CallC.r ?_); conv => whnf))
    refine Pick.ix h ?_
    ((conv => whnf); repeat ((first | refine B0 ?_ | refine B1 ?_ | refine D1 ?_ | refine D2 ?_ | refine CallC.r ?_); conv => whnf))
    refine Pick.mk _ (d_Int64S xs[i] (by have := wt_get xs i h; omega)) ?_
    ((conv => whnf); repeat ((first | refine B0 ?_ | refine B1 ?_ | refine D1 ?_ | refine D2 ?_ | refine CallC.r ?_); conv => whnf))
    refine Side.mk (by rw [upTo_length _ _ _ h2]; omega) ?_
    ((conv => whnf); repeat ((first | refine B0 ?_ | refine B1 ?_ | refine D1 ?_ | refine D2 ?_ | refine CallC.r ?_); conv => whnf))
    refine hK1 _ ?_
    ((conv => whnf); repeat ((first | refine B0 ?_ | refine B1 ?_ | refine D1 ?_ | refine D2 ?_ | refine CallC.r ?_); conv => whnf))
    refine Pick.at64 (z := (i + 1 : Nat)) (by simp) (by omega) ?_
    ((conv => whnf); repeat ((first | refine B0 ?_ | refine B1 ?_ | refine D1 ?_ | refine D2 ?_ | refine CallC.r ?_); conv => whnf))
    refine cast (congrArg (fun r => LoopL _ _ _ ⟨_, [(_, .deep true 1 r)]⟩) (upTo_set [.slice 1 []] xs i h).symm) (ih (i + 1) (by omega) (by omega))
  · simp at h
    have e := upTo_all [.slice 1 []] xs i (by omega)
    rw [e]
    exact ResOK.same rfl

theorem d_Table (x : Table) (hb : Enc.wt x ≤ 1048576) : Sat Try.prog 49 [(true, Enc.enc x)] (.agg [.ds 0, .ds 1], [(0, .deep true 1 (x.columns.map Enc.enc)), (1, .deep true 1 (x.rows.map Enc.enc))]) := by
  have hw : Enc.wt x = Enc.wt x.columns + Enc.wt x.rows := rfl
  refine Sat.intro tok mixed Try.func49 rfl rfl ?_
  ((conv => whnf); repeat ((first | refine B0 ?_ | refine B1 ?_ | refine D1 ?_ | refine D2 ?_ | refine CallC.r ?_); conv => whnf))
  refine Pick.mk _ (d_Int64S x.columns (by omega)) ?_
  ((conv => whnf); repeat ((first | refine B0 ?_ | refine B1 ?_ | refine D1 ?_ | refine D2 ?_ | refine CallC.r ?_); conv => whnf))
  refine Pick.mk _ (d_Int64SS x.rows (by omega)) ?_
  ((conv => whnf); repeat ((first | refine B0 ?_ | refine B1 ?_ | refine D1 ?_ | refine D2 ?_ | refine CallC.r ?_); conv => whnf))
  exact ResOK.same rfl

theorem d_TableS (xs : List Table) (hb : Enc.wt xs ≤ 1048576) : Sat Try.prog 17 [(false, Enc.enc xs)] (.one (.ds 0), [(0, .deep true 2 (xs.map Enc.enc))]) := by
  have hl : (xs.map (Enc.enc (α := Table))).length = xs.length := by simp
  have hw := wt_list xs
  refine Sat.intro tok mixed Try.func17 rfl rfl ?_
  ((conv => whnf); repeat ((first | refine B0 ?_ | refine B1 ?_ | refine D1 ?_ | refine D2 ?_ | refine CallC.r ?_); conv => whnf))
  refine Side.mk (by omega) ?_
  ((conv => whnf); repeat ((first | refine B0 ?_ | refine B1 ?_ | refine D1 ?_ | refine D2 ?_ | refine CallC.r ?_); conv => whnf))
  refine Pick.mk [0, 3, 4, 2000192] trivial ?_
  ((conv => whnf); repeat ((first | refine B0 ?_ | refine B1 ?_ | refine D1 ?_ | refine D2 ?_ | refine CallC.r ?_); conv => whnf))
  refine Side.mk (flat_rep rfl) ?_
  ((conv => whnf); repeat ((first | refine B0 ?_ | refine B1 ?_ | refine D1 ?_ | refine D2 ?_ | refine CallC.r ?_); conv => whnf))
  refine LoopL.run (fun i : Nat => St.mk [.one (.c (.slice 2 (xs.map Enc.enc))), .one .dead, .one .dead, .one (.ds 192), .one (.c (.int .i64 i)), .one .dead, .one .dead, .one .dead, .one .dead, .one .dead, .one .dead, .one .dead, .one .dead, .one .dead, .one .dead, .one .dead, .one .dead, .one .dead, .one .dead, .one .dead, .one .dead, .one .dead, .one .dead] [(192, .deep true 2 (upTo [.slice 1 [], .slice 1 []] xs i))])
      (fun i => xs.length - i) (fun i => i ≤ xs.length) ?_ 0 (Nat.zero_le _) (by rw [upTo_zero, hl]; rfl)
  intro i h2 ih
  refine pwp_cut fun K hK => ?_
  ((conv => whnf); repeat ((first | refine B0 ?_ | refine B1 ?_ | refine D1 ?_ | refine D2 ?_ | refine CallC.r ?_); conv => whnf))
  refine Br.mk (fun h => ?_) (fun h => ?_) <;> ((conv => whnf); repeat ((first | refine B0 ?_ | refine B1 ?_ | refine D1 ?_ | refine D2 ?_ | refine CallC.r ?_); conv => whnf))
  · simp at h
    refine hK _ (pwp_cut fun K1 hK1 => pwp_into ?_)
    ((conv => whnf); repeat ((first | refine B0 ?_ | refine B1 ?_ | refine D1 ?_ | refine D2 ?_ | refine CallC.r ?_); conv => whnf))
    refine Pick.ix h ?_
    ((conv => whnf); repeat ((first | refine B0 ?_ | refine B1 ?_ | refine D1 ?_ | refine D2 ?_ | refine CallC.r ?_); conv => whnf))
    refine Pick.mk _ (d_Table xs[i] (by have := wt_get xs i h; omega)) ?_
    ((conv => whnf); repeat ((first | refine B0 ?_ | refine B1 ?_ | refine D1 ?_ | refine D2 ?_ | refine CallC.r ?_); conv => whnf))
    refine Side.mk (by rw [upTo_length _ _ _ h2]; omega) ?_
    ((conv => whnf); repeat ((first | refine B0 ?_ | refine B1 ?_ | refine D1 ?_ | refine D2 ?_ | refine CallC.r ?_); conv => whnf))
    refine hK1 _ ?_
    ((conv => whnf); repeat ((first | refine B0 ?_ | refine B1 ?_ | refine D1 ?_ | refine D2 ?_ | refine CallC.r ?_); conv => whnf))
    refine Pick.at64 (z := (i + 1 : Nat)) (by simp) (by omega) ?_
    ((conv => whnf); repeat ((first | refine B0 ?_ | refine B1 ?_ | refine D1 ?_ | refine D2 ?_ | refine CallC.r ?_); conv => whnf))
    refine cast (congrArg (fun r => LoopL _ _ _ ⟨_, [(_, .deep true 2 r)]⟩) (upTo_set [.slice 1 [], .slice 1 []] xs i h).symm) (ih (i + 1) (by omega) (by omega))
  · simp at h
    have e := upTo_all [.slice 1 [], .slice 1 []] xs i (by omega)
    rw [e]
    exact ResOK.same rfl

theorem m_TableS (a : Bool) (xs : List Table) (k : Int) (hk : k + Mk.cnt xs ≤ 1099511627776) (h0 : 0 ≤ k) (hb : xs.length ≤ 1099511627776) (hl : ∀ x ∈ xs, bigL x) :
    SatM Try.prog 20 [.one (.ds 1000000), .one (.c (.int .i64 k))] [(1000000, .deep a 2 (xs.map Enc.enc))] (.one (.c (.int .i64 (k + Mk.cnt xs))), [(1000000, .deep a 2 ((mkL xs k).map Enc.enc))]) := by
  have hc := cnt_list xs
  refine SatM.intro tok mixed Try.func20 rfl rfl ?_
  ((conv => whnf); repeat ((first | refine B0 ?_ | refine B1 ?_ | refine D1 ?_ | refine D2 ?_ | refine CallC.r ?_); conv => whnf))
  refine Pick.mk [0, 1, 5] trivial ?_
  ((conv => whnf); repeat ((first | refine B0 ?_ | refine B1 ?_ | refine D1 ?_ | refine D2 ?_ | refine CallC.r ?_); conv => whnf))
  refine LoopL.run (fun i : Nat => St.mk [.one (.ds 1000000), .one (.c (.int .i64 (k + cnts xs i))), .one .dead, .one .dead, .one .dead, .one (.c (.int .i64 i)), .one .dead, .one .dead, .one .dead, .one .dead, .one .dead, .one .dead, .one .dead, .one .dead, .one .dead, .one .dead, .one .dead, .one .dead, .one .dead, .one .dead, .one .dead, .one .dead, .one .dead, .one .dead, .one .dead, .one .dead, .one .dead] [(1000000, .deep a 2 (part xs k i))]) (fun i => xs.length - i) (fun i => i ≤ xs.length) ?_ 0 (Nat.zero_le _) (by rw [part_zero, cnts_zero]; simp only [Int.natCast_zero, Int.add_zero] <;> rfl)
  intro i h2 ih
  have hpl := part_length xs k i
  refine pwp_cut fun K hK => ?_
  ((conv => whnf); repeat ((first | refine B0 ?_ | refine B1 ?_ | refine D1 ?_ | refine D2 ?_ | refine CallC.r ?_); conv => whnf))
  refine Br.mk (fun h => ?_) (fun h => ?_) <;> ((conv => whnf); repeat ((first | refine B0 ?_ | refine B1 ?_ | refine D1 ?_ | refine D2 ?_ | refine CallC.r ?_); conv => whnf))
  · simp [hpl] at h
    have e1 := cnts_succ xs i h
    have e2 := cnts_le xs (i + 1)
    have e3 : Mk.cnt xs[i] = 0 + Mk.cnt xs[i].columns + Mk.cnt xs[i].rows := rfl
    refine hK _ ?_
    refine pwp_cut fun K1 hK1 => pwp_into (pwp_cut fun K2 hK2 => ?_)
    ((conv => whnf); repeat ((first | refine B0 ?_ | refine B1 ?_ | refine D1 ?_ | refine D2 ?_ | refine CallC.r ?_); conv => whnf))
    refine Side.mk (by simp [hpl] <;> omega) ?_
    ((conv => whnf); repeat ((first | refine B0 ?_ | refine B1 ?_ | refine D1 ?_ | refine D2 ?_ | refine CallC.r ?_); conv => whnf))
    refine Pick.mk ([.slice 1 (xs[i].columns.map Enc.enc), .slice 1 (xs[i].rows.map Enc.enc)] : List CV) (by rw [show ((i : Int).toNat) = i by omega, part_get xs k i h]; rfl) ?_
    ((conv => whnf); repeat ((first | refine B0 ?_ | refine B1 ?_ | refine D1 ?_ | refine D2 ?_ | refine CallC.r ?_); conv => whnf))
    refine Pick.mk true trivial ?_
    ((conv => whnf); repeat ((first | refine B0 ?_ | refine B1 ?_ | refine D1 ?_ | refine D2 ?_ | refine CallC.r ?_); conv => whnf))
    refine Side.mk rfl ?_
    ((conv => whnf); repeat ((first | refine B0 ?_ | refine B1 ?_ | refine D1 ?_ | refine D2 ?_ | refine CallC.r ?_); conv => whnf))
    refine Pick.mk ((([.slice 1 (xs[i].columns.map Enc.enc), .slice 1 (xs[i].rows.map Enc.enc)] : List CV), 1, xs[i].columns.map Enc.enc) : List CV × Nat × List (List CV)) ⟨by rw [show ((i : Int).toNat) = i by omega, part_get xs k i h]; rfl, rfl⟩ ?_
    ((conv => whnf); repeat ((first | refine B0 ?_ | refine B1 ?_ | refine D1 ?_ | refine D2 ?_ | refine CallC.r ?_); conv => whnf))
    have hbig : xs[i].columns.length ≤ 1099511627776 ∧ xs[i].rows.length ≤ 1099511627776 ∧ (∀ y ∈ xs[i].rows, bigL y) := hl xs[i] (List.getElem_mem h)
    obtain ⟨b0, b1, n1⟩ := hbig
    have hm0 := m_Int64S false xs[i].columns (k + cnts xs i) (by omega) (by omega) (by omega)
    rw [show ((k + cnts xs i) + (Mk.cnt xs[i].columns : Int)) = k + cnts xs i + Mk.cnt xs[i].columns by omega] at hm0
    refine Pick.mk _ hm0 ?_
    ((conv => whnf); repeat ((first | refine B0 ?_ | refine B1 ?_ | refine D1 ?_ | refine D2 ?_ | refine CallC.r ?_); conv => whnf))
    refine Side.mk (by rw [List.length_map, List.length_map, mkL_length]) ?_
    ((conv => whnf); repeat ((first | refine B0 ?_ | refine B1 ?_ | refine D1 ?_ | refine D2 ?_ | refine CallC.r ?_); conv => whnf))
    refine hK2 _ ?_
    ((conv => whnf); repeat ((first | refine B0 ?_ | refine B1 ?_ | refine D1 ?_ | refine D2 ?_ | refine CallC.r ?_); conv => whnf))
    refine Side.mk (by simp [hpl] <;> omega) ?_
    ((conv => whnf); repeat ((first | refine B0 ?_ | refine B1 ?_ | refine D1 ?_ | refine D2 ?_ | refine CallC.r ?_); conv => whnf))
    refine Pick.row ([.slice 1 ((mkL xs[i].columns (k + cnts xs i)).map Enc.enc), .slice 1 (xs[i].rows.map Enc.enc)] : List CV) (by simp [hpl] <;> omega) rfl ?_
    ((conv => whnf); repeat ((first | refine B0 ?_ | refine B1 ?_ | refine D1 ?_ | refine D2 ?_ | refine CallC.r ?_); conv => whnf))
    refine Pick.mk true trivial ?_
    ((conv => whnf); repeat ((first | refine B0 ?_ | refine B1 ?_ | refine D1 ?_ | refine D2 ?_ | refine CallC.r ?_); conv => whnf))
    refine Side.mk rfl ?_
    ((conv => whnf); repeat ((first | refine B0 ?_ | refine B1 ?_ | refine D1 ?_ | refine D2 ?_ | refine CallC.r ?_); conv => whnf))
    refine Pick.mk ((([.slice 1 ((mkL xs[i].columns (k + cnts xs i)).map Enc.enc), .slice 1 (xs[i].rows.map Enc.enc)] : List CV), 1, xs[i].rows.map Enc.enc) : List CV × Nat × List (List CV)) ⟨by simp [hpl, h]; first | done | rfl | omega, rfl⟩ ?_
    ((conv => whnf); repeat ((first | refine B0 ?_ | refine B1 ?_ | refine D1 ?_ | refine D2 ?_ | refine CallC.r ?_); conv => whnf))
    have hm1 := m_Int64SS false xs[i].rows (k + cnts xs i + Mk.cnt xs[i].columns) (by omega) (by omega) (by omega) n1
    rw [show ((k + cnts xs i + Mk.cnt xs[i].columns) + (Mk.cnt xs[i].rows : Int)) = k + cnts xs (i + 1) by omega] at hm1
    refine Pick.mk _ hm1 ?_
    ((conv => whnf); repeat ((first | refine B0 ?_ | refine B1 ?_ | refine D1 ?_ | refine D2 ?_ | refine CallC.r ?_); conv => whnf))
    refine Side.mk (by rw [List.length_map, List.length_map, mkL_length]) ?_
    ((conv => whnf); repeat ((first | refine B0 ?_ | refine B1 ?_ | refine D1 ?_ | refine D2 ?_ | refine CallC.r ?_); conv => whnf))
    refine hK1 _ ?_
    ((conv => whnf); repeat ((first | refine B0 ?_ | refine B1 ?_ | refine D1 ?_ | refine D2 ?_ | refine CallC.r ?_); conv => whnf))
    refine Pick.at64 (z := (i + 1 : Nat)) (by simp) (by omega) ?_
    ((conv => whnf); repeat ((first | refine B0 ?_ | refine B1 ?_ | refine D1 ?_ | refine D2 ?_ | refine CallC.r ?_); conv => whnf))
    have e : ((part xs k i).set (i : Int).toNat (([.slice 1 (xs[i].columns.map Enc.enc), .slice 1 (xs[i].rows.map Enc.enc)] : List CV).set 0 (.slice 1 ((mkL xs[i].columns (k + cnts xs i)).map Enc.enc)))).set (i : Int).toNat (([.slice 1 ((mkL xs[i].columns (k + cnts xs i)).map Enc.enc), .slice 1 (xs[i].rows.map Enc.enc)] : List CV).set 1 (.slice 1 ((mkL xs[i].rows (k + cnts xs i + Mk.cnt xs[i].columns)).map Enc.enc))) = part xs k (i + 1) := by
      rw [← part_set xs k i h, show ((i : Int).toNat) = i by omega]
      try simp only [List.set_set]
      rfl
    refine cast (congrArg (fun r => LoopL _ _ _ ⟨_, [(_, .deep a 2 r)]⟩) e.symm) (ih (i + 1) (by omega) (by omega))
  · simp [hpl] at h
    have e1 := part_all xs k i (by omega)
    have e2 := cnts_all xs i (by omega)
    rw [e1, e2, ← hc]

end Go.Proofs.Ytnmoeeneofopcaa.Pi