/- Deep copies, marks and what is held, of complexes, sheaves and worlds. No statement of the seat is proved here. -/
import Derived.Test.YtlnjgoeicanehaaGreatPiM5
import Derived.Test.YtlnjgoeicanehaaGreatPiU2
namespace Go.Proofs.YtlnjgoeicanehaaGreat.Pi
open Go
set_option maxRecDepth 10000
set_option maxHeartbeats 1600000
set_option linter.unusedVariables false
set_option linter.unusedSimpArgs false

instance : Mk Matrix := ⟨fun x k => ⟨k, k + 1, k + 2, mkL x.cells (k + 3)⟩, fun x => 3 + Mk.cnt x.cells⟩

instance : Big Matrix := ⟨fun x => x.cells.length ≤ 1099511627776⟩

instance : Mk NamedComplex := ⟨fun x k => ⟨tx (k), ⟨mkL x.value.simplices (k + 1)⟩⟩, fun x => 1 + Mk.cnt x.value.simplices⟩

instance : Big NamedComplex := ⟨fun x => x.value.simplices.length ≤ 1099511627776 ∧ (∀ y ∈ x.value.simplices, bigL y)⟩

instance : Mk NamedSheaf := ⟨fun x k => ⟨tx (k), ⟨⟨mkL x.value.base.simplices (k + 1)⟩, k + 1 + Mk.cnt x.value.base.simplices, mkL x.value.stalks (k + 2 + Mk.cnt x.value.base.simplices), mkL x.value.maps (k + 2 + Mk.cnt x.value.base.simplices + Mk.cnt x.value.stalks)⟩⟩, fun x => 2 + Mk.cnt x.value.base.simplices + Mk.cnt x.value.stalks + Mk.cnt x.value.maps⟩

instance : Big NamedSheaf := ⟨fun x => x.value.base.simplices.length ≤ 1099511627776 ∧ (∀ y ∈ x.value.base.simplices, bigL y) ∧ x.value.stalks.length ≤ 1099511627776 ∧ x.value.maps.length ≤ 1099511627776 ∧ (∀ y ∈ x.value.maps, bigL y)⟩

theorem d_Int64SS (xs : List (List Int)) (hb : Enc.wt xs ≤ 1048576) : Sat Tryz.prog 132 [(false, Enc.enc xs)] (.one (.ds 0), [(0, .deep true 1 (xs.map Enc.enc))]) := by
  have hl : (xs.map (Enc.enc (α := List Int))).length = xs.length := by simp
  have hw := wt_list xs
  refine Sat.intro tok mixed Tryz.func132 rfl rfl ?_
  ((conv => whnf); repeat ((first | refine B0 ?_ | refine B1 ?_ | refine D1 ?_ | refine D2 ?_ | refine CallC.r ?_); conv => whnf))
  refine Side.mk (by omega) ?_
  ((conv => whnf); repeat ((first | refine B0 ?_ | refine B1 ?_ | refine D1 ?_ | refine D2 ?_ | refine CallC.r ?_); conv => whnf))
  refine Pick.mk [0, 3, 4, 2000192] trivial ?_
  ((conv => whnf); repeat ((first | refine B0 ?_ | refine B1 ?_ | refine D1 ?_ | refine D2 ?_ | refine CallC.r ?_); conv => whnf))
  refine Side.mk (flat_rep rfl) ?_
  ((conv => whnf); repeat ((first | refine B0 ?_ | refine B1 ?_ | refine D1 ?_ | refine D2 ?_ | refine CallC.r ?_); conv => whnf))
  refine LoopL.run (fun i : Nat => St.mk [.one (.c (.slice 1 (xs.map Enc.enc))), .one .dead, .one .dead, .one (.ds 192), .one (.c (.int .i64 i)), .one .dead, .one .dead, .one .dead, .one .dead, .one .dead, .one .dead, .one .dead, .one .dead, .one .dead, .one .dead, .one .dead, .one .dead, .one .dead, .one .dead, .one .dead, .one .dead, .one .dead, .one .dead] [(192, .deep true 1 (upTo [.slice 1 []] xs i))])
      (fun i => xs.length - i) (fun i => i ≤ xs.length) ?_ 0 (Nat.zero_le _) (by rw [upTo_zero, hl]; rfl)
  intro i h2 ih
  refine pwp_cut fun K hK => ?_
  ((conv => whnf); repeat ((first | refine B0 ?_ | refine B1 ?_ | refine D1 ?_ | refine D2 ?_ | refine CallC.r ?_); conv => whnf))
  refine Br.mk (fun h => ?_) (fun h => ?_) <;> ((conv => whnf); repeat ((first | refine B0 ?_ | refine B1 ?_ | refine D1 ?_ | refine D2 ?_ | refine CallC.r ?_); conv => whnf))
  · simp at h
    refine hK _ (pwp_cut fun K1 hK1 => pwp_into ?_)
    ((conv => whnf); repeat ((first | refine B0 ?_ | refine B1 ?_ | refine D1 ?_ | refine D2 ?_ | refine CallC.r ?_); conv => whnf))
    refine Pick.ix h ?_
    ((conv => whnf); repeat ((first | refine B0 ?_ | refine B1 ?_ | refine D1 ?_ | refine D2 ?_ | refine CallC.r ?_); conv => whnf))
    refine Pick.mk _ (d_Int64S xs[i] (by have := wt_get xs i h; omega)) ?_
    ((conv => whnf); repeat ((first | refine B0 ?_ | refine B1 ?_ | refine D1 ?_ | refine D2 ?_ | refine CallC.r ?_); conv => whnf))
    refine Side.mk (by rw [upTo_length _ _ _ h2]; omega) ?_
    ((conv => whnf); repeat ((first | refine B0 ?_ | refine B1 ?_ | refine D1 ?_ | refine D2 ?_ | refine CallC.r ?_); conv => whnf))
    refine hK1 _ ?_
    ((conv => whnf); repeat ((first | refine B0 ?_ | refine B1 ?_ | refine D1 ?_ | refine D2 ?_ | refine CallC.r ?_); conv => whnf))
    refine Pick.at64 (z := (i + 1 : Nat)) (by simp) (by omega) ?_
    ((conv => whnf); repeat ((first | refine B0 ?_ | refine B1 ?_ | refine D1 ?_ | refine D2 ?_ | refine CallC.r ?_); conv => whnf))
    refine cast (congrArg (fun r => LoopL _ _ _ ⟨_, [(_, .deep true 1 r)]⟩) (upTo_set [.slice 1 []] xs i h).symm) (ih (i + 1) (by omega) (by omega))
  · simp at h
    have e := upTo_all [.slice 1 []] xs i (by omega)
    rw [e]
    exact ResOK.same rfl

theorem d_Complex (x : Complex) (hb : Enc.wt x ≤ 1048576) : Sat Tryz.prog 83 [(true, Enc.enc x)] (.agg [.ds 0], [(0, .deep true 1 (x.simplices.map Enc.enc))]) := by
  have hw : Enc.wt x = Enc.wt x.simplices := rfl
  refine Sat.intro tok mixed Tryz.func83 rfl rfl ?_
  ((conv => whnf); repeat ((first | refine B0 ?_ | refine B1 ?_ | refine D1 ?_ | refine D2 ?_ | refine CallC.r ?_); conv => whnf))
  refine Pick.mk _ (d_Int64SS x.simplices (by omega)) ?_
  ((conv => whnf); repeat ((first | refine B0 ?_ | refine B1 ?_ | refine D1 ?_ | refine D2 ?_ | refine CallC.r ?_); conv => whnf))
  exact ResOK.same rfl

theorem d_NamedComplex (x : NamedComplex) (hb : Enc.wt x ≤ 1048576) : Sat Tryz.prog 95 [(true, Enc.enc x)] (.agg [.c (.str x.name), .ds 0], [(0, .deep true 1 (x.value.simplices.map Enc.enc))]) := by
  have hw : Enc.wt x = Enc.wt x.name + Enc.wt x.value := rfl
  refine Sat.intro tok mixed Tryz.func95 rfl rfl ?_
  ((conv => whnf); repeat ((first | refine B0 ?_ | refine B1 ?_ | refine D1 ?_ | refine D2 ?_ | refine CallC.r ?_); conv => whnf))
  refine Pick.mk _ (d_Complex x.value (by omega)) ?_
  ((conv => whnf); repeat ((first | refine B0 ?_ | refine B1 ?_ | refine D1 ?_ | refine D2 ?_ | refine CallC.r ?_); conv => whnf))
  exact ResOK.same rfl

theorem d_NamedComplexS (xs : List NamedComplex) (hb : Enc.wt xs ≤ 1048576) : Sat Tryz.prog 38 [(false, Enc.enc xs)] (.one (.ds 0), [(0, .deep true 2 (xs.map Enc.enc))]) := by
  have hl : (xs.map (Enc.enc (α := NamedComplex))).length = xs.length := by simp
  have hw := wt_list xs
  refine Sat.intro tok mixed Tryz.func38 rfl rfl ?_
  ((conv => whnf); repeat ((first | refine B0 ?_ | refine B1 ?_ | refine D1 ?_ | refine D2 ?_ | refine CallC.r ?_); conv => whnf))
  refine Side.mk (by omega) ?_
  ((conv => whnf); repeat ((first | refine B0 ?_ | refine B1 ?_ | refine D1 ?_ | refine D2 ?_ | refine CallC.r ?_); conv => whnf))
  refine Pick.mk [0, 3, 4, 2000192] trivial ?_
  ((conv => whnf); repeat ((first | refine B0 ?_ | refine B1 ?_ | refine D1 ?_ | refine D2 ?_ | refine CallC.r ?_); conv => whnf))
  refine Side.mk (flat_rep rfl) ?_
  ((conv => whnf); repeat ((first | refine B0 ?_ | refine B1 ?_ | refine D1 ?_ | refine D2 ?_ | refine CallC.r ?_); conv => whnf))
  refine LoopL.run (fun i : Nat => St.mk [.one (.c (.slice 2 (xs.map Enc.enc))), .one .dead, .one .dead, .one (.ds 192), .one (.c (.int .i64 i)), .one .dead, .one .dead, .one .dead, .one .dead, .one .dead, .one .dead, .one .dead, .one .dead, .one .dead, .one .dead, .one .dead, .one .dead, .one .dead, .one .dead, .one .dead, .one .dead, .one .dead, .one .dead] [(192, .deep true 2 (upTo [.str ⟨#[]⟩, .slice 1 []] xs i))])
      (fun i => xs.length - i) (fun i => i ≤ xs.length) ?_ 0 (Nat.zero_le _) (by rw [upTo_zero, hl]; rfl)
  intro i h2 ih
  refine pwp_cut fun K hK => ?_
  ((conv => whnf); repeat ((first | refine B0 ?_ | refine B1 ?_ | refine D1 ?_ | refine D2 ?_ | refine CallC.r ?_); conv => whnf))
  refine Br.mk (fun h => ?_) (fun h => ?_) <;> ((conv => whnf); repeat ((first | refine B0 ?_ | refine B1 ?_ | refine D1 ?_ | refine D2 ?_ | refine CallC.r ?_); conv => whnf))
  · simp at h
    refine hK _ (pwp_cut fun K1 hK1 => pwp_into ?_)
    ((conv => whnf); repeat ((first | refine B0 ?_ | refine B1 ?_ | refine D1 ?_ | refine D2 ?_ | refine CallC.r ?_); conv => whnf))
    refine Pick.ix h ?_
    ((conv => whnf); repeat ((first | refine B0 ?_ | refine B1 ?_ | refine D1 ?_ | refine D2 ?_ | refine CallC.r ?_); conv => whnf))
    refine Pick.mk _ (d_NamedComplex xs[i] (by have := wt_get xs i h; omega)) ?_
    ((conv => whnf); repeat ((first | refine B0 ?_ | refine B1 ?_ | refine D1 ?_ | refine D2 ?_ | refine CallC.r ?_); conv => whnf))
    refine Side.mk (by rw [upTo_length _ _ _ h2]; omega) ?_
    ((conv => whnf); repeat ((first | refine B0 ?_ | refine B1 ?_ | refine D1 ?_ | refine D2 ?_ | refine CallC.r ?_); conv => whnf))
    refine hK1 _ ?_
    ((conv => whnf); repeat ((first | refine B0 ?_ | refine B1 ?_ | refine D1 ?_ | refine D2 ?_ | refine CallC.r ?_); conv => whnf))
    refine Pick.at64 (z := (i + 1 : Nat)) (by simp) (by omega) ?_
    ((conv => whnf); repeat ((first | refine B0 ?_ | refine B1 ?_ | refine D1 ?_ | refine D2 ?_ | refine CallC.r ?_); conv => whnf))
    refine cast (congrArg (fun r => LoopL _ _ _ ⟨_, [(_, .deep true 2 r)]⟩) (upTo_set [.str ⟨#[]⟩, .slice 1 []] xs i h).symm) (ih (i + 1) (by omega) (by omega))
  · simp at h
    have e := upTo_all [.str ⟨#[]⟩, .slice 1 []] xs i (by omega)
    rw [e]
    exact ResOK.same rfl

theorem d_MatrixS (xs : List Matrix) (hb : Enc.wt xs ≤ 1048576) : Sat Tryz.prog 84 [(false, Enc.enc xs)] (.one (.ds 0), [(0, .deep true 4 (xs.map Enc.enc))]) := by
  have hl : (xs.map (Enc.enc (α := Matrix))).length = xs.length := by simp
  have hw := wt_list xs
  refine Sat.intro tok mixed Tryz.func84 rfl rfl ?_
  ((conv => whnf); repeat ((first | refine B0 ?_ | refine B1 ?_ | refine D1 ?_ | refine D2 ?_ | refine CallC.r ?_); conv => whnf))
  refine Side.mk (by omega) ?_
  ((conv => whnf); repeat ((first | refine B0 ?_ | refine B1 ?_ | refine D1 ?_ | refine D2 ?_ | refine CallC.r ?_); conv => whnf))
  refine Pick.mk [0, 3, 4, 2000192] trivial ?_
  ((conv => whnf); repeat ((first | refine B0 ?_ | refine B1 ?_ | refine D1 ?_ | refine D2 ?_ | refine CallC.r ?_); conv => whnf))
  refine Side.mk (flat_rep rfl) ?_
  ((conv => whnf); repeat ((first | refine B0 ?_ | refine B1 ?_ | refine D1 ?_ | refine D2 ?_ | refine CallC.r ?_); conv => whnf))
  refine LoopL.run (fun i : Nat => St.mk [.one (.c (.slice 4 (xs.map Enc.enc))), .one .dead, .one .dead, .one (.ds 192), .one (.c (.int .i64 i)), .one .dead, .one .dead, .one .dead, .one .dead, .one .dead, .one .dead, .one .dead, .one .dead, .one .dead, .one .dead, .one .dead, .one .dead, .one .dead, .one .dead, .one .dead, .one .dead, .one .dead, .one .dead] [(192, .deep true 4 (upTo [.int .i64 0, .int .i64 0, .int .i64 0, .slice 1 []] xs i))])
      (fun i => xs.length - i) (fun i => i ≤ xs.length) ?_ 0 (Nat.zero_le _) (by rw [upTo_zero, hl]; rfl)
  intro i h2 ih
  refine pwp_cut fun K hK => ?_
  ((conv => whnf); repeat ((first | refine B0 ?_ | refine B1 ?_ | refine D1 ?_ | refine D2 ?_ | refine CallC.r ?_); conv => whnf))
  refine Br.mk (fun h => ?_) (fun h => ?_) <;> ((conv => whnf); repeat ((first | refine B0 ?_ | refine B1 ?_ | refine D1 ?_ | refine D2 ?_ | refine CallC.r ?_); conv => whnf))
  · simp at h
    refine hK _ (pwp_cut fun K1 hK1 => pwp_into ?_)
    ((conv => whnf); repeat ((first | refine B0 ?_ | refine B1 ?_ | refine D1 ?_ | refine D2 ?_ | refine CallC.r ?_); conv => whnf))
    refine Pick.ix h ?_
    ((conv => whnf); repeat ((first | refine B0 ?_ | refine B1 ?_ | refine D1 ?_ | refine D2 ?_ | refine CallC.r ?_); conv => whnf))
    refine Pick.mk _ (d_Matrix xs[i] (by have := wt_get xs i h; omega)) ?_
    ((conv => whnf); repeat ((first | refine B0 ?_ | refine B1 ?_ | refine D1 ?_ | refine D2 ?_ | refine CallC.r ?_); conv => whnf))
    refine Side.mk (by rw [upTo_length _ _ _ h2]; omega) ?_
    ((conv => whnf); repeat ((first | refine B0 ?_ | refine B1 ?_ | refine D1 ?_ | refine D2 ?_ | refine CallC.r ?_); conv => whnf))
    refine hK1 _ ?_
    ((conv => whnf); repeat ((first | refine B0 ?_ | refine B1 ?_ | refine D1 ?_ | refine D2 ?_ | refine CallC.r ?_); conv => whnf))
    refine Pick.at64 (z := (i + 1 : Nat)) (by simp) (by omega) ?_
    ((conv => whnf); repeat ((first | refine B0 ?_ | refine B1 ?_ | refine D1 ?_ | refine D2 ?_ | refine CallC.r ?_); conv => whnf))
    refine cast (congrArg (fun r => LoopL _ _ _ ⟨_, [(_, .deep true 4 r)]⟩) (upTo_set [.int .i64 0, .int .i64 0, .int .i64 0, .slice 1 []] xs i h).symm) (ih (i + 1) (by omega) (by omega))
  · simp at h
    have e := upTo_all [.int .i64 0, .int .i64 0, .int .i64 0, .slice 1 []] xs i (by omega)
    rw [e]
    exact ResOK.same rfl

theorem d_Sheaf (x : Sheaf) (hb : Enc.wt x ≤ 1048576) : Sat Tryz.prog 29 [(true, Enc.enc x)] (.agg [.ds 0, .c (.int .i64 x.prime), .ds 1, .ds 2], [(0, .deep true 1 (x.base.simplices.map Enc.enc)), (1, .deep true 1 (x.stalks.map Enc.enc)), (2, .deep true 4 (x.maps.map Enc.enc))]) := by
  have hw : Enc.wt x = Enc.wt x.base + Enc.wt x.prime + Enc.wt x.stalks + Enc.wt x.maps := rfl
  refine Sat.intro tok mixed Tryz.func29 rfl rfl ?_
  ((conv => whnf); repeat ((first | refine B0 ?_ | refine B1 ?_ | refine D1 ?_ | refine D2 ?_ | refine CallC.r ?_); conv => whnf))
  refine Pick.mk _ (d_Complex x.base (by omega)) ?_
  ((conv => whnf); repeat ((first | refine B0 ?_ | refine B1 ?_ | refine D1 ?_ | refine D2 ?_ | refine CallC.r ?_); conv => whnf))
  refine Pick.mk _ (d_Int64S x.stalks (by omega)) ?_
  ((conv => whnf); repeat ((first | refine B0 ?_ | refine B1 ?_ | refine D1 ?_ | refine D2 ?_ | refine CallC.r ?_); conv => whnf))
  refine Pick.mk _ (d_MatrixS x.maps (by omega)) ?_
  ((conv => whnf); repeat ((first | refine B0 ?_ | refine B1 ?_ | refine D1 ?_ | refine D2 ?_ | refine CallC.r ?_); conv => whnf))
  exact ResOK.same rfl

theorem d_NamedSheaf (x : NamedSheaf) (hb : Enc.wt x ≤ 1048576) : Sat Tryz.prog 96 [(true, Enc.enc x)] (.agg [.c (.str x.name), .ds 0, .c (.int .i64 x.value.prime), .ds 1, .ds 2], [(0, .deep true 1 (x.value.base.simplices.map Enc.enc)), (1, .deep true 1 (x.value.stalks.map Enc.enc)), (2, .deep true 4 (x.value.maps.map Enc.enc))]) := by
  have hw : Enc.wt x = Enc.wt x.name + Enc.wt x.value := rfl
  refine Sat.intro tok mixed Tryz.func96 rfl rfl ?_
  ((conv => whnf); repeat ((first | refine B0 ?_ | refine B1 ?_ | refine D1 ?_ | refine D2 ?_ | refine CallC.r ?_); conv => whnf))
  refine Pick.mk _ (d_Sheaf x.value (by omega)) ?_
  ((conv => whnf); repeat ((first | refine B0 ?_ | refine B1 ?_ | refine D1 ?_ | refine D2 ?_ | refine CallC.r ?_); conv => whnf))
  exact ResOK.same rfl

theorem d_NamedSheafS (xs : List NamedSheaf) (hb : Enc.wt xs ≤ 1048576) : Sat Tryz.prog 39 [(false, Enc.enc xs)] (.one (.ds 0), [(0, .deep true 5 (xs.map Enc.enc))]) := by
  have hl : (xs.map (Enc.enc (α := NamedSheaf))).length = xs.length := by simp
  have hw := wt_list xs
  refine Sat.intro tok mixed Tryz.func39 rfl rfl ?_
  ((conv => whnf); repeat ((first | refine B0 ?_ | refine B1 ?_ | refine D1 ?_ | refine D2 ?_ | refine CallC.r ?_); conv => whnf))
  refine Side.mk (by omega) ?_
  ((conv => whnf); repeat ((first | refine B0 ?_ | refine B1 ?_ | refine D1 ?_ | refine D2 ?_ | refine CallC.r ?_); conv => whnf))
  refine Pick.mk [0, 3, 4, 2000192] trivial ?_
  ((conv => whnf); repeat ((first | refine B0 ?_ | refine B1 ?_ | refine D1 ?_ | refine D2 ?_ | refine CallC.r ?_); conv => whnf))
  refine Side.mk (flat_rep rfl) ?_
  ((conv => whnf); repeat ((first | refine B0 ?_ | refine B1 ?_ | refine D1 ?_ | refine D2 ?_ | refine CallC.r ?_); conv => whnf))
  refine LoopL.run (fun i : Nat => St.mk [.one (.c (.slice 5 (xs.map Enc.enc))), .one .dead, .one .dead, .one (.ds 192), .one (.c (.int .i64 i)), .one .dead, .one .dead, .one .dead, .one .dead, .one .dead, .one .dead, .one .dead, .one .dead, .one .dead, .one .dead, .one .dead, .one .dead, .one .dead, .one .dead, .one .dead, .one .dead, .one .dead, .one .dead] [(192, .deep true 5 (upTo [.str ⟨#[]⟩, .slice 1 [], .int .i64 0, .slice 1 [], .slice 4 []] xs i))])
      (fun i => xs.length - i) (fun i => i ≤ xs.length) ?_ 0 (Nat.zero_le _) (by rw [upTo_zero, hl]; rfl)
  intro i h2 ih
  refine pwp_cut fun K hK => ?_
  ((conv => whnf); repeat ((first | refine B0 ?_ | refine B1 ?_ | refine D1 ?_ | refine D2 ?_ | refine CallC.r ?_); conv => whnf))
  refine Br.mk (fun h => ?_) (fun h => ?_) <;> ((conv => whnf); repeat ((first | refine B0 ?_ | refine B1 ?_ | refine D1 ?_ | refine D2 ?_ | refine CallC.r ?_); conv => whnf))
  · simp at h
    refine hK _ (pwp_cut fun K1 hK1 => pwp_into ?_)
    ((conv => whnf); repeat ((first | refine B0 ?_ | refine B1 ?_ | refine D1 ?_ | refine D2 ?_ | refine CallC.r ?_); conv => whnf))
    refine Pick.ix h ?_
    ((conv => whnf); repeat ((first | refine B0 ?_ | refine B1 ?_ | refine D1 ?_ | refine D2 ?_ | refine CallC.r ?_); conv => whnf))
    refine Pick.mk _ (d_NamedSheaf xs[i] (by have := wt_get xs i h; omega)) ?_
    ((conv => whnf); repeat ((first | refine B0 ?_ | refine B1 ?_ | refine D1 ?_ | refine D2 ?_ | refine CallC.r ?_); conv => whnf))
    refine Side.mk (by rw [upTo_length _ _ _ h2]; omega) ?_
    ((conv => whnf); repeat ((first | refine B0 ?_ | refine B1 ?_ | refine D1 ?_ | refine D2 ?_ | refine CallC.r ?_); conv => whnf))
    refine hK1 _ ?_
    ((conv => whnf); repeat ((first | refine B0 ?_ | refine B1 ?_ | refine D1 ?_ | refine D2 ?_ | refine CallC.r ?_); conv => whnf))
    refine Pick.at64 (z := (i + 1 : Nat)) (by simp) (by omega) ?_
    ((conv => whnf); repeat ((first | refine B0 ?_ | refine B1 ?_ | refine D1 ?_ | refine D2 ?_ | refine CallC.r ?_); conv => whnf))
    refine cast (congrArg (fun r => LoopL _ _ _ ⟨_, [(_, .deep true 5 r)]⟩) (upTo_set [.str ⟨#[]⟩, .slice 1 [], .int .i64 0, .slice 1 [], .slice 4 []] xs i h).symm) (ih (i + 1) (by omega) (by omega))
  · simp at h
    have e := upTo_all [.str ⟨#[]⟩, .slice 1 [], .int .i64 0, .slice 1 [], .slice 4 []] xs i (by omega)
    rw [e]
    exact ResOK.same rfl

theorem d_World (x : World) (hb : Enc.wt x ≤ 1048576) : Sat Tryz.prog 10 [(true, Enc.enc x)] (.agg [.ds 0, .ds 1], [(0, .deep true 2 (x.complexes.map Enc.enc)), (1, .deep true 5 (x.sheaves.map Enc.enc))]) := by
  have hw : Enc.wt x = Enc.wt x.complexes + Enc.wt x.sheaves := rfl
  refine Sat.intro tok mixed Tryz.func10 rfl rfl ?_
  ((conv => whnf); repeat ((first | refine B0 ?_ | refine B1 ?_ | refine D1 ?_ | refine D2 ?_ | refine CallC.r ?_); conv => whnf))
  refine Pick.mk _ (d_NamedComplexS x.complexes (by omega)) ?_
  ((conv => whnf); repeat ((first | refine B0 ?_ | refine B1 ?_ | refine D1 ?_ | refine D2 ?_ | refine CallC.r ?_); conv => whnf))
  refine Pick.mk _ (d_NamedSheafS x.sheaves (by omega)) ?_
  ((conv => whnf); repeat ((first | refine B0 ?_ | refine B1 ?_ | refine D1 ?_ | refine D2 ?_ | refine CallC.r ?_); conv => whnf))
  exact ResOK.same rfl

theorem m_MatrixS (a : Bool) (xs : List Matrix) (k : Int) (hk : k + Mk.cnt xs ≤ 1099511627776) (h0 : 0 ≤ k) (hb : xs.length ≤ 1099511627776) (hl : ∀ x ∈ xs, bigL x) :
    SatM Tryz.prog 67 [.one (.ds 1000000), .one (.c (.int .i64 k))] [(1000000, .deep a 4 (xs.map Enc.enc))] (.one (.c (.int .i64 (k + Mk.cnt xs))), [(1000000, .deep a 4 ((mkL xs k).map Enc.enc))]) := by
  have hc := cnt_list xs
  refine SatM.intro tok mixed Tryz.func67 rfl rfl ?_
  ((conv => whnf); repeat ((first | refine B0 ?_ | refine B1 ?_ | refine D1 ?_ | refine D2 ?_ | refine CallC.r ?_); conv => whnf))
  refine Pick.mk [0, 1, 5] trivial ?_
  ((conv => whnf); repeat ((first | refine B0 ?_ | refine B1 ?_ | refine D1 ?_ | refine D2 ?_ | refine CallC.r ?_); conv => whnf))
  refine LoopL.run (fun i : Nat => St.mk [.one (.ds 1000000), .one (.c (.int .i64 (k + cnts xs i))), .one .dead, .one .dead, .one .dead, .one (.c (.int .i64 i)), .one .dead, .one .dead, .one .dead, .one .dead, .one .dead, .one .dead, .one .dead, .one .dead, .one .dead, .one .dead, .one .dead, .one .dead, .one .dead, .one .dead, .one .dead, .one .dead, .one .dead, .one .dead, .one .dead, .one .dead, .one .dead, .one .dead, .one .dead, .one .dead, .one .dead, .one .dead, .one .dead, .one .dead, .one .dead, .one .dead, .one .dead, .one .dead, .one .dead, .one .dead, .one .dead] [(1000000, .deep a 4 (part xs k i))]) (fun i => xs.length - i) (fun i => i ≤ xs.length) ?_ 0 (Nat.zero_le _) (by rw [part_zero, cnts_zero]; simp only [Int.natCast_zero, Int.add_zero] <;> rfl)
  intro i h2 ih
  have hpl := part_length xs k i
  refine pwp_cut fun K hK => ?_
  ((conv => whnf); repeat ((first | refine B0 ?_ | refine B1 ?_ | refine D1 ?_ | refine D2 ?_ | refine CallC.r ?_); conv => whnf))
  refine Br.mk (fun h => ?_) (fun h => ?_) <;> ((conv => whnf); repeat ((first | refine B0 ?_ | refine B1 ?_ | refine D1 ?_ | refine D2 ?_ | refine CallC.r ?_); conv => whnf))
  · simp [hpl] at h
    have e1 := cnts_succ xs i h
    have e2 := cnts_le xs (i + 1)
    have e3 : Mk.cnt xs[i] = 3 + Mk.cnt xs[i].cells := rfl
    refine hK _ ?_
    refine pwp_cut fun K1 hK1 => pwp_into (pwp_cut fun K2 hK2 => ?_)
    ((conv => whnf); repeat ((first | refine B0 ?_ | refine B1 ?_ | refine D1 ?_ | refine D2 ?_ | refine CallC.r ?_); conv => whnf))
    refine Side.mk (by simp [hpl] <;> omega) ?_
    ((conv => whnf); repeat ((first | refine B0 ?_ | refine B1 ?_ | refine D1 ?_ | refine D2 ?_ | refine CallC.r ?_); conv => whnf))
    refine Pick.mk ([.int .i64 xs[i].prime, .int .i64 xs[i].rows, .int .i64 xs[i].columns, .slice 1 (xs[i].cells.map Enc.enc)] : List CV) (by rw [show ((i : Int).toNat) = i by omega, part_get xs k i h]; rfl) ?_
    ((conv => whnf); repeat ((first | refine B0 ?_ | refine B1 ?_ | refine D1 ?_ | refine D2 ?_ | refine CallC.r ?_); conv => whnf))
    refine hK2 _ (pwp_cut fun K3 hK3 => ?_)
    ((conv => whnf); repeat ((first | refine B0 ?_ | refine B1 ?_ | refine D1 ?_ | refine D2 ?_ | refine CallC.r ?_); conv => whnf))
    refine Pick.at64 (z := k + cnts xs i + 1) (by omega) (by omega) ?_
    ((conv => whnf); repeat ((first | refine B0 ?_ | refine B1 ?_ | refine D1 ?_ | refine D2 ?_ | refine CallC.r ?_); conv => whnf))
    refine hK3 _ (pwp_cut fun K4 hK4 => ?_)
    ((conv => whnf); repeat ((first | refine B0 ?_ | refine B1 ?_ | refine D1 ?_ | refine D2 ?_ | refine CallC.r ?_); conv => whnf))
    refine Side.mk (by simp [hpl] <;> omega) ?_
    ((conv => whnf); repeat ((first | refine B0 ?_ | refine B1 ?_ | refine D1 ?_ | refine D2 ?_ | refine CallC.r ?_); conv => whnf))
    refine Pick.row ([.int .i64 (k + cnts xs i), .int .i64 xs[i].rows, .int .i64 xs[i].columns, .slice 1 (xs[i].cells.map Enc.enc)] : List CV) (by simp [hpl] <;> omega) rfl ?_
    ((conv => whnf); repeat ((first | refine B0 ?_ | refine B1 ?_ | refine D1 ?_ | refine D2 ?_ | refine CallC.r ?_); conv => whnf))
    refine hK4 _ (pwp_cut fun K5 hK5 => ?_)
    ((conv => whnf); repeat ((first | refine B0 ?_ | refine B1 ?_ | refine D1 ?_ | refine D2 ?_ | refine CallC.r ?_); conv => whnf))
    refine Pick.at64 (z := k + cnts xs i + 2) (by omega) (by omega) ?_
    ((conv => whnf); repeat ((first | refine B0 ?_ | refine B1 ?_ | refine D1 ?_ | refine D2 ?_ | refine CallC.r ?_); conv => whnf))
    refine hK5 _ (pwp_cut fun K6 hK6 => ?_)
    ((conv => whnf); repeat ((first | refine B0 ?_ | refine B1 ?_ | refine D1 ?_ | refine D2 ?_ | refine CallC.r ?_); conv => whnf))
    refine Side.mk (by simp [hpl] <;> omega) ?_
    ((conv => whnf); repeat ((first | refine B0 ?_ | refine B1 ?_ | refine D1 ?_ | refine D2 ?_ | refine CallC.r ?_); conv => whnf))
    refine Pick.row ([.int .i64 (k + cnts xs i), .int .i64 (k + cnts xs i + 1), .int .i64 xs[i].columns, .slice 1 (xs[i].cells.map Enc.enc)] : List CV) (by simp [hpl] <;> omega) rfl ?_
    ((conv => whnf); repeat ((first | refine B0 ?_ | refine B1 ?_ | refine D1 ?_ | refine D2 ?_ | refine CallC.r ?_); conv => whnf))
    refine hK6 _ (pwp_cut fun K7 hK7 => ?_)
    ((conv => whnf); repeat ((first | refine B0 ?_ | refine B1 ?_ | refine D1 ?_ | refine D2 ?_ | refine CallC.r ?_); conv => whnf))
    refine Pick.at64 (z := k + cnts xs i + 3) (by omega) (by omega) ?_
    ((conv => whnf); repeat ((first | refine B0 ?_ | refine B1 ?_ | refine D1 ?_ | refine D2 ?_ | refine CallC.r ?_); conv => whnf))
    refine hK7 _ ?_
    ((conv => whnf); repeat ((first | refine B0 ?_ | refine B1 ?_ | refine D1 ?_ | refine D2 ?_ | refine CallC.r ?_); conv => whnf))
    refine Side.mk (by simp [hpl] <;> omega) ?_
    ((conv => whnf); repeat ((first | refine B0 ?_ | refine B1 ?_ | refine D1 ?_ | refine D2 ?_ | refine CallC.r ?_); conv => whnf))
    refine Pick.row ([.int .i64 (k + cnts xs i), .int .i64 (k + cnts xs i + 1), .int .i64 (k + cnts xs i + 2), .slice 1 (xs[i].cells.map Enc.enc)] : List CV) (by simp [hpl] <;> omega) rfl ?_
    ((conv => whnf); repeat ((first | refine B0 ?_ | refine B1 ?_ | refine D1 ?_ | refine D2 ?_ | refine CallC.r ?_); conv => whnf))
    refine Pick.mk true trivial ?_
    ((conv => whnf); repeat ((first | refine B0 ?_ | refine B1 ?_ | refine D1 ?_ | refine D2 ?_ | refine CallC.r ?_); conv => whnf))
    refine Side.mk rfl ?_
    ((conv => whnf); repeat ((first | refine B0 ?_ | refine B1 ?_ | refine D1 ?_ | refine D2 ?_ | refine CallC.r ?_); conv => whnf))
    refine Pick.mk ((([.int .i64 (k + cnts xs i), .int .i64 (k + cnts xs i + 1), .int .i64 (k + cnts xs i + 2), .slice 1 (xs[i].cells.map Enc.enc)] : List CV), 1, xs[i].cells.map Enc.enc) : List CV × Nat × List (List CV)) ⟨by simp [hpl, h]; first | done | rfl | omega, rfl⟩ ?_
    ((conv => whnf); repeat ((first | refine B0 ?_ | refine B1 ?_ | refine D1 ?_ | refine D2 ?_ | refine CallC.r ?_); conv => whnf))
    have hbig : xs[i].cells.length ≤ 1099511627776 := hl xs[i] (List.getElem_mem h)
    have b3 := hbig
    have hm3 := m_Int64S false xs[i].cells (k + cnts xs i + 3) (by omega) (by omega) (by omega)
    rw [show ((k + cnts xs i + 3) + (Mk.cnt xs[i].cells : Int)) = k + cnts xs (i + 1) by omega] at hm3
    refine Pick.mk _ hm3 ?_
    ((conv => whnf); repeat ((first | refine B0 ?_ | refine B1 ?_ | refine D1 ?_ | refine D2 ?_ | refine CallC.r ?_); conv => whnf))
    refine Side.mk (by rw [List.length_map, List.length_map, mkL_length]) ?_
    ((conv => whnf); repeat ((first | refine B0 ?_ | refine B1 ?_ | refine D1 ?_ | refine D2 ?_ | refine CallC.r ?_); conv => whnf))
    refine hK1 _ ?_
    ((conv => whnf); repeat ((first | refine B0 ?_ | refine B1 ?_ | refine D1 ?_ | refine D2 ?_ | refine CallC.r ?_); conv => whnf))
    refine Pick.at64 (z := (i + 1 : Nat)) (by simp) (by omega) ?_
    ((conv => whnf); repeat ((first | refine B0 ?_ | refine B1 ?_ | refine D1 ?_ | refine D2 ?_ | refine CallC.r ?_); conv => whnf))
    have e : ((((part xs k i).set (i : Int).toNat (spliceC ([.int .i64 xs[i].prime, .int .i64 xs[i].rows, .int .i64 xs[i].columns, .slice 1 (xs[i].cells.map Enc.enc)] : List CV) (0 + 0) [.int .i64 (k + cnts xs i)])).set (i : Int).toNat (spliceC ([.int .i64 (k + cnts xs i), .int .i64 xs[i].rows, .int .i64 xs[i].columns, .slice 1 (xs[i].cells.map Enc.enc)] : List CV) (0 + 1) [.int .i64 (k + cnts xs i + 1)])).set (i : Int).toNat (spliceC ([.int .i64 (k + cnts xs i), .int .i64 (k + cnts xs i + 1), .int .i64 xs[i].columns, .slice 1 (xs[i].cells.map Enc.enc)] : List CV) (0 + 2) [.int .i64 (k + cnts xs i + 2)])).set (i : Int).toNat (([.int .i64 (k + cnts xs i), .int .i64 (k + cnts xs i + 1), .int .i64 (k + cnts xs i + 2), .slice 1 (xs[i].cells.map Enc.enc)] : List CV).set 3 (.slice 1 ((mkL xs[i].cells (k + cnts xs i + 3)).map Enc.enc))) = part xs k (i + 1) := by
      rw [← part_set xs k i h, show ((i : Int).toNat) = i by omega]
      try simp only [List.set_set]
      rfl
    refine cast (congrArg (fun r => LoopL _ _ _ ⟨_, [(_, .deep a 4 r)]⟩) e.symm) (ih (i + 1) (by omega) (by omega))
  · simp [hpl] at h
    have e1 := part_all xs k i (by omega)
    have e2 := cnts_all xs i (by omega)
    rw [e1, e2, ← hc]

theorem h_MatrixS (xs : List Matrix) (k : Int) (hk : k + Mk.cnt xs ≤ 1099511627776) (h0 : 0 ≤ k) (hb : xs.length ≤ 1099511627776) (hl : ∀ x ∈ xs, bigL x) :
    Sat Tryz.prog 68 [(false, Enc.enc (mkL xs k)), (false, [.int .i64 k])] (.one (.c (.int .i64 (k + Mk.cnt xs))), []) := by
  have hc := cnt_list xs
  have hpl := mkL_length xs k
  refine Sat.intro tok mixed Tryz.func68 rfl rfl ?_
  ((conv => whnf); repeat ((first | refine B0 ?_ | refine B1 ?_ | refine D1 ?_ | refine D2 ?_ | refine CallC.r ?_); conv => whnf))
  refine Pick.mk [0, 1, 5] trivial ?_
  ((conv => whnf); repeat ((first | refine B0 ?_ | refine B1 ?_ | refine D1 ?_ | refine D2 ?_ | refine CallC.r ?_); conv => whnf))
  refine LoopL.run (fun i : Nat => St.mk [.one (.c (.slice 4 ((mkL xs k).map Enc.enc))), .one (.c (.int .i64 (k + cnts xs i))), .one .dead, .one .dead, .one .dead, .one (.c (.int .i64 i)), .one .dead, .one .dead, .one .dead, .one .dead, .one .dead, .one .dead, .one .dead, .one .dead, .one .dead, .one .dead, .one .dead, .one .dead, .one .dead, .one .dead, .one .dead, .one .dead, .one .dead, .one .dead, .one .dead, .one .dead, .one .dead, .one .dead, .one .dead, .one .dead, .one .dead, .one .dead, .one .dead, .one .dead, .one .dead, .one .dead, .one .dead, .one .dead, .one .dead, .one .dead, .one .dead, .one .dead, .one .dead, .one .dead, .one .dead, .one .dead, .one .dead, .one .dead, .one .dead] []) (fun i => xs.length - i) (fun i => i ≤ xs.length) ?_ 0 (Nat.zero_le _) (by rw [cnts_zero]; simp only [Int.natCast_zero, Int.add_zero] <;> rfl)
  intro i h2 ih
  ((conv => whnf); repeat ((first | refine B0 ?_ | refine B1 ?_ | refine D1 ?_ | refine D2 ?_ | refine CallC.r ?_); conv => whnf))
  refine Br.mk (fun h => ?_) (fun h => ?_) <;> ((conv => whnf); repeat ((first | refine B0 ?_ | refine B1 ?_ | refine D1 ?_ | refine D2 ?_ | refine CallC.r ?_); conv => whnf))
  · simp [hpl] at h
    have hr : ((mkL xs k).map Enc.enc)[(i : Int).toNat]? = some ([.int .i64 (k + cnts xs i), .int .i64 (k + cnts xs i + 1), .int .i64 (k + cnts xs i + 2), .slice 1 ((mkL xs[i].cells (k + cnts xs i + 3)).map Enc.enc)] : List CV) := by
      rw [show ((i : Int).toNat) = i by omega, List.getElem?_map, mkL_get xs k i h]; rfl
    have e1 := cnts_succ xs i h
    have e2 := cnts_le xs (i + 1)
    have e3 : Mk.cnt xs[i] = 3 + Mk.cnt xs[i].cells := rfl
    refine Pick.mk _ ⟨by omega, hr⟩ ?_
    ((conv => whnf); repeat ((first | refine B0 ?_ | refine B1 ?_ | refine D1 ?_ | refine D2 ?_ | refine CallC.r ?_); conv => whnf))
    refine Br.mk (fun h5 => ?_) (fun h5 => ?_) <;> ((conv => whnf); repeat ((first | refine B0 ?_ | refine B1 ?_ | refine D1 ?_ | refine D2 ?_ | refine CallC.r ?_); conv => whnf))
    · simp at h5
    clear h5
    refine Pick.at64 (z := k + cnts xs i + 1) (by omega) (by omega) ?_
    ((conv => whnf); repeat ((first | refine B0 ?_ | refine B1 ?_ | refine D1 ?_ | refine D2 ?_ | refine CallC.r ?_); conv => whnf))
    refine Pick.mk _ ⟨by omega, hr⟩ ?_
    ((conv => whnf); repeat ((first | refine B0 ?_ | refine B1 ?_ | refine D1 ?_ | refine D2 ?_ | refine CallC.r ?_); conv => whnf))
    refine Br.mk (fun h5 => ?_) (fun h5 => ?_) <;> ((conv => whnf); repeat ((first | refine B0 ?_ | refine B1 ?_ | refine D1 ?_ | refine D2 ?_ | refine CallC.r ?_); conv => whnf))
    · simp at h5
    clear h5
    refine Pick.at64 (z := k + cnts xs i + 2) (by omega) (by omega) ?_
    ((conv => whnf); repeat ((first | refine B0 ?_ | refine B1 ?_ | refine D1 ?_ | refine D2 ?_ | refine CallC.r ?_); conv => whnf))
    refine Pick.mk _ ⟨by omega, hr⟩ ?_
    ((conv => whnf); repeat ((first | refine B0 ?_ | refine B1 ?_ | refine D1 ?_ | refine D2 ?_ | refine CallC.r ?_); conv => whnf))
    refine Br.mk (fun h5 => ?_) (fun h5 => ?_) <;> ((conv => whnf); repeat ((first | refine B0 ?_ | refine B1 ?_ | refine D1 ?_ | refine D2 ?_ | refine CallC.r ?_); conv => whnf))
    · simp at h5
    clear h5
    refine Pick.at64 (z := k + cnts xs i + 3) (by omega) (by omega) ?_
    ((conv => whnf); repeat ((first | refine B0 ?_ | refine B1 ?_ | refine D1 ?_ | refine D2 ?_ | refine CallC.r ?_); conv => whnf))
    refine Pick.mk _ ⟨by omega, hr⟩ ?_
    ((conv => whnf); repeat ((first | refine B0 ?_ | refine B1 ?_ | refine D1 ?_ | refine D2 ?_ | refine CallC.r ?_); conv => whnf))
    have hbig : xs[i].cells.length ≤ 1099511627776 := hl xs[i] (List.getElem_mem h)
    have b3 := hbig
    have hm3 := h_Int64S xs[i].cells (k + cnts xs i + 3) (by omega) (by omega) (by omega)
    rw [show ((k + cnts xs i + 3) + (Mk.cnt xs[i].cells : Int)) = k + cnts xs (i + 1) by omega] at hm3
    refine Pick.mk _ hm3 ?_
    ((conv => whnf); repeat ((first | refine B0 ?_ | refine B1 ?_ | refine D1 ?_ | refine D2 ?_ | refine CallC.r ?_); conv => whnf))
    refine Br.mk (fun h5 => ?_) (fun h5 => ?_) <;> ((conv => whnf); repeat ((first | refine B0 ?_ | refine B1 ?_ | refine D1 ?_ | refine D2 ?_ | refine CallC.r ?_); conv => whnf))
    · simp at h5
      omega
    clear h5
    refine Pick.at64 (z := (i + 1 : Nat)) (by simp) (by omega) ?_
    ((conv => whnf); repeat ((first | refine B0 ?_ | refine B1 ?_ | refine D1 ?_ | refine D2 ?_ | refine CallC.r ?_); conv => whnf))
    exact ih (i + 1) (by omega) (by omega)
  · simp [hpl] at h
    have e2 := cnts_all xs i (by omega)
    exact ResOK.same (by rw [e2, ← hc])

theorem m_NamedComplexS (a : Bool) (xs : List NamedComplex) (k : Int) (hk : k + Mk.cnt xs ≤ 1099511627776) (h0 : 0 ≤ k) (hb : xs.length ≤ 1099511627776) (hl : ∀ x ∈ xs, bigL x) :
    SatM Tryz.prog 58 [.one (.ds 1000000), .one (.c (.int .i64 k))] [(1000000, .deep a 2 (xs.map Enc.enc))] (.one (.c (.int .i64 (k + Mk.cnt xs))), [(1000000, .deep a 2 ((mkL xs k).map Enc.enc))]) := by
  have hc := cnt_list xs
  refine SatM.intro tok mixed Tryz.func58 rfl rfl ?_
  ((conv => whnf); repeat ((first | refine B0 ?_ | refine B1 ?_ | refine D1 ?_ | refine D2 ?_ | refine CallC.r ?_); conv => whnf))
  refine Pick.mk [0, 1, 5] trivial ?_
  ((conv => whnf); repeat ((first | refine B0 ?_ | refine B1 ?_ | refine D1 ?_ | refine D2 ?_ | refine CallC.r ?_); conv => whnf))
  refine LoopL.run (fun i : Nat => St.mk [.one (.ds 1000000), .one (.c (.int .i64 (k + cnts xs i))), .one .dead, .one .dead, .one .dead, .one (.c (.int .i64 i)), .one .dead, .one .dead, .one .dead, .one .dead, .one .dead, .one .dead, .one .dead, .one .dead, .one .dead, .one .dead, .one .dead, .one .dead, .one .dead, .one .dead, .one .dead, .one .dead, .one .dead, .one .dead, .one .dead, .one .dead, .one .dead, .one .dead, .one .dead] [(1000000, .deep a 2 (part xs k i))]) (fun i => xs.length - i) (fun i => i ≤ xs.length) ?_ 0 (Nat.zero_le _) (by rw [part_zero, cnts_zero]; simp only [Int.natCast_zero, Int.add_zero] <;> rfl)
  intro i h2 ih
  have hpl := part_length xs k i
  refine pwp_cut fun K hK => ?_
  ((conv => whnf); repeat ((first | refine B0 ?_ | refine B1 ?_ | refine D1 ?_ | refine D2 ?_ | refine CallC.r ?_); conv => whnf))
  refine Br.mk (fun h => ?_) (fun h => ?_) <;> ((conv => whnf); repeat ((first | refine B0 ?_ | refine B1 ?_ | refine D1 ?_ | refine D2 ?_ | refine CallC.r ?_); conv => whnf))
  · simp [hpl] at h
    have e1 := cnts_succ xs i h
    have e2 := cnts_le xs (i + 1)
    have e3 : Mk.cnt xs[i] = 1 + Mk.cnt xs[i].value.simplices := rfl
    refine hK _ ?_
    refine pwp_cut fun K1 hK1 => pwp_into (pwp_cut fun K2 hK2 => ?_)
    ((conv => whnf); repeat ((first | refine B0 ?_ | refine B1 ?_ | refine D1 ?_ | refine D2 ?_ | refine CallC.r ?_); conv => whnf))
    refine Pick.mk _ (s_markText (k + cnts xs i) (by omega)) ?_
    ((conv => whnf); repeat ((first | refine B0 ?_ | refine B1 ?_ | refine D1 ?_ | refine D2 ?_ | refine CallC.r ?_); conv => whnf))
    refine Side.mk (by simp [hpl] <;> omega) ?_
    ((conv => whnf); repeat ((first | refine B0 ?_ | refine B1 ?_ | refine D1 ?_ | refine D2 ?_ | refine CallC.r ?_); conv => whnf))
    refine Pick.mk ([.str xs[i].name, .slice 1 (xs[i].value.simplices.map Enc.enc)] : List CV) (by rw [show ((i : Int).toNat) = i by omega, part_get xs k i h]; rfl) ?_
    ((conv => whnf); repeat ((first | refine B0 ?_ | refine B1 ?_ | refine D1 ?_ | refine D2 ?_ | refine CallC.r ?_); conv => whnf))
    refine hK2 _ (pwp_cut fun K3 hK3 => ?_)
    ((conv => whnf); repeat ((first | refine B0 ?_ | refine B1 ?_ | refine D1 ?_ | refine D2 ?_ | refine CallC.r ?_); conv => whnf))
    refine Pick.at64 (z := k + cnts xs i + 1) (by omega) (by omega) ?_
    ((conv => whnf); repeat ((first | refine B0 ?_ | refine B1 ?_ | refine D1 ?_ | refine D2 ?_ | refine CallC.r ?_); conv => whnf))
    refine hK3 _ ?_
    ((conv => whnf); repeat ((first | refine B0 ?_ | refine B1 ?_ | refine D1 ?_ | refine D2 ?_ | refine CallC.r ?_); conv => whnf))
    refine Side.mk (by simp [hpl] <;> omega) ?_
    ((conv => whnf); repeat ((first | refine B0 ?_ | refine B1 ?_ | refine D1 ?_ | refine D2 ?_ | refine CallC.r ?_); conv => whnf))
    refine Pick.row ([.str (tx (k + cnts xs i)), .slice 1 (xs[i].value.simplices.map Enc.enc)] : List CV) (by simp [hpl] <;> omega) rfl ?_
    ((conv => whnf); repeat ((first | refine B0 ?_ | refine B1 ?_ | refine D1 ?_ | refine D2 ?_ | refine CallC.r ?_); conv => whnf))
    refine Pick.mk true trivial ?_
    ((conv => whnf); repeat ((first | refine B0 ?_ | refine B1 ?_ | refine D1 ?_ | refine D2 ?_ | refine CallC.r ?_); conv => whnf))
    refine Side.mk rfl ?_
    ((conv => whnf); repeat ((first | refine B0 ?_ | refine B1 ?_ | refine D1 ?_ | refine D2 ?_ | refine CallC.r ?_); conv => whnf))
    refine Pick.mk ((([.str (tx (k + cnts xs i)), .slice 1 (xs[i].value.simplices.map Enc.enc)] : List CV), 1, xs[i].value.simplices.map Enc.enc) : List CV × Nat × List (List CV)) ⟨by simp [hpl, h]; first | done | rfl | omega, rfl⟩ ?_
    ((conv => whnf); repeat ((first | refine B0 ?_ | refine B1 ?_ | refine D1 ?_ | refine D2 ?_ | refine CallC.r ?_); conv => whnf))
    have hbig : xs[i].value.simplices.length ≤ 1099511627776 ∧ (∀ y ∈ xs[i].value.simplices, bigL y) := hl xs[i] (List.getElem_mem h)
    obtain ⟨b1, n1⟩ := hbig
    have hm1 := m_Int64SS false xs[i].value.simplices (k + cnts xs i + 1) (by omega) (by omega) (by omega) n1
    rw [show ((k + cnts xs i + 1) + (Mk.cnt xs[i].value.simplices : Int)) = k + cnts xs (i + 1) by omega] at hm1
    refine Pick.mk _ hm1 ?_
    ((conv => whnf); repeat ((first | refine B0 ?_ | refine B1 ?_ | refine D1 ?_ | refine D2 ?_ | refine CallC.r ?_); conv => whnf))
    refine Side.mk (by rw [List.length_map, List.length_map, mkL_length]) ?_
    ((conv => whnf); repeat ((first | refine B0 ?_ | refine B1 ?_ | refine D1 ?_ | refine D2 ?_ | refine CallC.r ?_); conv => whnf))
    refine hK1 _ ?_
    ((conv => whnf); repeat ((first | refine B0 ?_ | refine B1 ?_ | refine D1 ?_ | refine D2 ?_ | refine CallC.r ?_); conv => whnf))
    refine Pick.at64 (z := (i + 1 : Nat)) (by simp) (by omega) ?_
    ((conv => whnf); repeat ((first | refine B0 ?_ | refine B1 ?_ | refine D1 ?_ | refine D2 ?_ | refine CallC.r ?_); conv => whnf))
    have e : ((part xs k i).set (i : Int).toNat (spliceC ([.str xs[i].name, .slice 1 (xs[i].value.simplices.map Enc.enc)] : List CV) (0 + 0) [.str (tx (k + cnts xs i))])).set (i : Int).toNat (([.str (tx (k + cnts xs i)), .slice 1 (xs[i].value.simplices.map Enc.enc)] : List CV).set 1 (.slice 1 ((mkL xs[i].value.simplices (k + cnts xs i + 1)).map Enc.enc))) = part xs k (i + 1) := by
      rw [← part_set xs k i h, show ((i : Int).toNat) = i by omega]
      try simp only [List.set_set]
      rfl
    refine cast (congrArg (fun r => LoopL _ _ _ ⟨_, [(_, .deep a 2 r)]⟩) e.symm) (ih (i + 1) (by omega) (by omega))
  · simp [hpl] at h
    have e1 := part_all xs k i (by omega)
    have e2 := cnts_all xs i (by omega)
    rw [e1, e2, ← hc]

theorem h_NamedComplexS (xs : List NamedComplex) (k : Int) (hk : k + Mk.cnt xs ≤ 1099511627776) (h0 : 0 ≤ k) (hb : xs.length ≤ 1099511627776) (hl : ∀ x ∈ xs, bigL x) :
    Sat Tryz.prog 73 [(false, Enc.enc (mkL xs k)), (false, [.int .i64 k])] (.one (.c (.int .i64 (k + Mk.cnt xs))), []) := by
  have hc := cnt_list xs
  have hpl := mkL_length xs k
  refine Sat.intro tok mixed Tryz.func73 rfl rfl ?_
  ((conv => whnf); repeat ((first | refine B0 ?_ | refine B1 ?_ | refine D1 ?_ | refine D2 ?_ | refine CallC.r ?_); conv => whnf))
  refine Pick.mk [0, 1, 5] trivial ?_
  ((conv => whnf); repeat ((first | refine B0 ?_ | refine B1 ?_ | refine D1 ?_ | refine D2 ?_ | refine CallC.r ?_); conv => whnf))
  refine LoopL.run (fun i : Nat => St.mk [.one (.c (.slice 2 ((mkL xs k).map Enc.enc))), .one (.c (.int .i64 (k + cnts xs i))), .one .dead, .one .dead, .one .dead, .one (.c (.int .i64 i)), .one .dead, .one .dead, .one .dead, .one .dead, .one .dead, .one .dead, .one .dead, .one .dead, .one .dead, .one .dead, .one .dead, .one .dead, .one .dead, .one .dead, .one .dead, .one .dead, .one .dead, .one .dead, .one .dead, .one .dead, .one .dead, .one .dead, .one .dead, .one .dead, .one .dead, .one .dead, .one .dead] []) (fun i => xs.length - i) (fun i => i ≤ xs.length) ?_ 0 (Nat.zero_le _) (by rw [cnts_zero]; simp only [Int.natCast_zero, Int.add_zero] <;> rfl)
  intro i h2 ih
  ((conv => whnf); repeat ((first | refine B0 ?_ | refine B1 ?_ | refine D1 ?_ | refine D2 ?_ | refine CallC.r ?_); conv => whnf))
  refine Br.mk (fun h => ?_) (fun h => ?_) <;> ((conv => whnf); repeat ((first | refine B0 ?_ | refine B1 ?_ | refine D1 ?_ | refine D2 ?_ | refine CallC.r ?_); conv => whnf))
  · simp [hpl] at h
    have hr : ((mkL xs k).map Enc.enc)[(i : Int).toNat]? = some ([.str (tx (k + cnts xs i)), .slice 1 ((mkL xs[i].value.simplices (k + cnts xs i + 1)).map Enc.enc)] : List CV) := by
      rw [show ((i : Int).toNat) = i by omega, List.getElem?_map, mkL_get xs k i h]; rfl
    have e1 := cnts_succ xs i h
    have e2 := cnts_le xs (i + 1)
    have e3 : Mk.cnt xs[i] = 1 + Mk.cnt xs[i].value.simplices := rfl
    refine Pick.mk _ ⟨by omega, hr⟩ ?_
    ((conv => whnf); repeat ((first | refine B0 ?_ | refine B1 ?_ | refine D1 ?_ | refine D2 ?_ | refine CallC.r ?_); conv => whnf))
    refine Pick.mk _ (s_markText (k + cnts xs i) (by omega)) ?_
    ((conv => whnf); repeat ((first | refine B0 ?_ | refine B1 ?_ | refine D1 ?_ | refine D2 ?_ | refine CallC.r ?_); conv => whnf))
    refine Br.mk (fun h5 => ?_) (fun h5 => ?_) <;> ((conv => whnf); repeat ((first | refine B0 ?_ | refine B1 ?_ | refine D1 ?_ | refine D2 ?_ | refine CallC.r ?_); conv => whnf))
    · simp at h5
    clear h5
    refine Pick.at64 (z := k + cnts xs i + 1) (by omega) (by omega) ?_
    ((conv => whnf); repeat ((first | refine B0 ?_ | refine B1 ?_ | refine D1 ?_ | refine D2 ?_ | refine CallC.r ?_); conv => whnf))
    refine Pick.mk _ ⟨by omega, hr⟩ ?_
    ((conv => whnf); repeat ((first | refine B0 ?_ | refine B1 ?_ | refine D1 ?_ | refine D2 ?_ | refine CallC.r ?_); conv => whnf))
    have hbig : xs[i].value.simplices.length ≤ 1099511627776 ∧ (∀ y ∈ xs[i].value.simplices, bigL y) := hl xs[i] (List.getElem_mem h)
    obtain ⟨b1, n1⟩ := hbig
    have hm1 := h_Int64SS xs[i].value.simplices (k + cnts xs i + 1) (by omega) (by omega) (by omega) n1
    rw [show ((k + cnts xs i + 1) + (Mk.cnt xs[i].value.simplices : Int)) = k + cnts xs (i + 1) by omega] at hm1
    refine Pick.mk _ hm1 ?_
    ((conv => whnf); repeat ((first | refine B0 ?_ | refine B1 ?_ | refine D1 ?_ | refine D2 ?_ | refine CallC.r ?_); conv => whnf))
    refine Br.mk (fun h5 => ?_) (fun h5 => ?_) <;> ((conv => whnf); repeat ((first | refine B0 ?_ | refine B1 ?_ | refine D1 ?_ | refine D2 ?_ | refine CallC.r ?_); conv => whnf))
    · simp at h5
      omega
    clear h5
    refine Pick.at64 (z := (i + 1 : Nat)) (by simp) (by omega) ?_
    ((conv => whnf); repeat ((first | refine B0 ?_ | refine B1 ?_ | refine D1 ?_ | refine D2 ?_ | refine CallC.r ?_); conv => whnf))
    exact ih (i + 1) (by omega) (by omega)
  · simp [hpl] at h
    have e2 := cnts_all xs i (by omega)
    exact ResOK.same (by rw [e2, ← hc])

theorem m_NamedSheafS (a : Bool) (xs : List NamedSheaf) (k : Int) (hk : k + Mk.cnt xs ≤ 1099511627776) (h0 : 0 ≤ k) (hb : xs.length ≤ 1099511627776) (hl : ∀ x ∈ xs, bigL x) :
    SatM Tryz.prog 59 [.one (.ds 1000000), .one (.c (.int .i64 k))] [(1000000, .deep a 5 (xs.map Enc.enc))] (.one (.c (.int .i64 (k + Mk.cnt xs))), [(1000000, .deep a 5 ((mkL xs k).map Enc.enc))]) := by
  have hc := cnt_list xs
  refine SatM.intro tok mixed Tryz.func59 rfl rfl ?_
  ((conv => whnf); repeat ((first | refine B0 ?_ | refine B1 ?_ | refine D1 ?_ | refine D2 ?_ | refine CallC.r ?_); conv => whnf))
  refine Pick.mk [0, 1, 5] trivial ?_
  ((conv => whnf); repeat ((first | refine B0 ?_ | refine B1 ?_ | refine D1 ?_ | refine D2 ?_ | refine CallC.r ?_); conv => whnf))
  refine LoopL.run (fun i : Nat => St.mk [.one (.ds 1000000), .one (.c (.int .i64 (k + cnts xs i))), .one .dead, .one .dead, .one .dead, .one (.c (.int .i64 i)), .one .dead, .one .dead, .one .dead, .one .dead, .one .dead, .one .dead, .one .dead, .one .dead, .one .dead, .one .dead, .one .dead, .one .dead, .one .dead, .one .dead, .one .dead, .one .dead, .one .dead, .one .dead, .one .dead, .one .dead, .one .dead, .one .dead, .one .dead, .one .dead, .one .dead, .one .dead, .one .dead, .one .dead, .one .dead, .one .dead, .one .dead, .one .dead, .one .dead, .one .dead, .one .dead, .one .dead, .one .dead, .one .dead, .one .dead, .one .dead, .one .dead, .one .dead, .one .dead, .one .dead, .one .dead, .one .dead, .one .dead, .one .dead] [(1000000, .deep a 5 (part xs k i))]) (fun i => xs.length - i) (fun i => i ≤ xs.length) ?_ 0 (Nat.zero_le _) (by rw [part_zero, cnts_zero]; simp only [Int.natCast_zero, Int.add_zero] <;> rfl)
  intro i h2 ih
  have hpl := part_length xs k i
  refine pwp_cut fun K hK => ?_
  ((conv => whnf); repeat ((first | refine B0 ?_ | refine B1 ?_ | refine D1 ?_ | refine D2 ?_ | refine CallC.r ?_); conv => whnf))
  refine Br.mk (fun h => ?_) (fun h => ?_) <;> ((conv => whnf); repeat ((first | refine B0 ?_ | refine B1 ?_ | refine D1 ?_ | refine D2 ?_ | refine CallC.r ?_); conv => whnf))
  · simp [hpl] at h
    have e1 := cnts_succ xs i h
    have e2 := cnts_le xs (i + 1)
    have e3 : Mk.cnt xs[i] = 2 + Mk.cnt xs[i].value.base.simplices + Mk.cnt xs[i].value.stalks + Mk.cnt xs[i].value.maps := rfl
    refine hK _ ?_
    refine pwp_cut fun K1 hK1 => pwp_into (pwp_cut fun K2 hK2 => ?_)
    ((conv => whnf); repeat ((first | refine B0 ?_ | refine B1 ?_ | refine D1 ?_ | refine D2 ?_ | refine CallC.r ?_); conv => whnf))
    refine Pick.mk _ (s_markText (k + cnts xs i) (by omega)) ?_
    ((conv => whnf); repeat ((first | refine B0 ?_ | refine B1 ?_ | refine D1 ?_ | refine D2 ?_ | refine CallC.r ?_); conv => whnf))
    refine Side.mk (by simp [hpl] <;> omega) ?_
    ((conv => whnf); repeat ((first | refine B0 ?_ | refine B1 ?_ | refine D1 ?_ | refine D2 ?_ | refine CallC.r ?_); conv => whnf))
    refine Pick.mk ([.str xs[i].name, .slice 1 (xs[i].value.base.simplices.map Enc.enc), .int .i64 xs[i].value.prime, .slice 1 (xs[i].value.stalks.map Enc.enc), .slice 4 (xs[i].value.maps.map Enc.enc)] : List CV) (by rw [show ((i : Int).toNat) = i by omega, part_get xs k i h]; rfl) ?_
    ((conv => whnf); repeat ((first | refine B0 ?_ | refine B1 ?_ | refine D1 ?_ | refine D2 ?_ | refine CallC.r ?_); conv => whnf))
    refine hK2 _ (pwp_cut fun K3 hK3 => ?_)
    ((conv => whnf); repeat ((first | refine B0 ?_ | refine B1 ?_ | refine D1 ?_ | refine D2 ?_ | refine CallC.r ?_); conv => whnf))
    refine Pick.at64 (z := k + cnts xs i + 1) (by omega) (by omega) ?_
    ((conv => whnf); repeat ((first | refine B0 ?_ | refine B1 ?_ | refine D1 ?_ | refine D2 ?_ | refine CallC.r ?_); conv => whnf))
    refine hK3 _ (pwp_cut fun K4 hK4 => ?_)
    ((conv => whnf); repeat ((first | refine B0 ?_ | refine B1 ?_ | refine D1 ?_ | refine D2 ?_ | refine CallC.r ?_); conv => whnf))
    refine Side.mk (by simp [hpl] <;> omega) ?_
    ((conv => whnf); repeat ((first | refine B0 ?_ | refine B1 ?_ | refine D1 ?_ | refine D2 ?_ | refine CallC.r ?_); conv => whnf))
    refine Pick.row ([.str (tx (k + cnts xs i)), .slice 1 (xs[i].value.base.simplices.map Enc.enc), .int .i64 xs[i].value.prime, .slice 1 (xs[i].value.stalks.map Enc.enc), .slice 4 (xs[i].value.maps.map Enc.enc)] : List CV) (by simp [hpl] <;> omega) rfl ?_
    ((conv => whnf); repeat ((first | refine B0 ?_ | refine B1 ?_ | refine D1 ?_ | refine D2 ?_ | refine CallC.r ?_); conv => whnf))
    refine Pick.mk true trivial ?_
    ((conv => whnf); repeat ((first | refine B0 ?_ | refine B1 ?_ | refine D1 ?_ | refine D2 ?_ | refine CallC.r ?_); conv => whnf))
    refine Side.mk rfl ?_
    ((conv => whnf); repeat ((first | refine B0 ?_ | refine B1 ?_ | refine D1 ?_ | refine D2 ?_ | refine CallC.r ?_); conv => whnf))
    refine Pick.mk ((([.str (tx (k + cnts xs i)), .slice 1 (xs[i].value.base.simplices.map Enc.enc), .int .i64 xs[i].value.prime, .slice 1 (xs[i].value.stalks.map Enc.enc), .slice 4 (xs[i].value.maps.map Enc.enc)] : List CV), 1, xs[i].value.base.simplices.map Enc.enc) : List CV × Nat × List (List CV)) ⟨by simp [hpl, h]; first | done | rfl | omega, rfl⟩ ?_
    ((conv => whnf); repeat ((first | refine B0 ?_ | refine B1 ?_ | refine D1 ?_ | refine D2 ?_ | refine CallC.r ?_); conv => whnf))
    have hbig : xs[i].value.base.simplices.length ≤ 1099511627776 ∧ (∀ y ∈ xs[i].value.base.simplices, bigL y) ∧ xs[i].value.stalks.length ≤ 1099511627776 ∧ xs[i].value.maps.length ≤ 1099511627776 ∧ (∀ y ∈ xs[i].value.maps, bigL y) := hl xs[i] (List.getElem_mem h)
    obtain ⟨b1, n1, b3, b4, n4⟩ := hbig
    have hm1 := m_Int64SS false xs[i].value.base.simplices (k + cnts xs i + 1) (by omega) (by omega) (by omega) n1
    rw [show ((k + cnts xs i + 1) + (Mk.cnt xs[i].value.base.simplices : Int)) = k + cnts xs i + 1 + Mk.cnt xs[i].value.base.simplices by omega] at hm1
    refine Pick.mk _ hm1 ?_
    ((conv => whnf); repeat ((first | refine B0 ?_ | refine B1 ?_ | refine D1 ?_ | refine D2 ?_ | refine CallC.r ?_); conv => whnf))
    refine Side.mk (by rw [List.length_map, List.length_map, mkL_length]) ?_
    ((conv => whnf); repeat ((first | refine B0 ?_ | refine B1 ?_ | refine D1 ?_ | refine D2 ?_ | refine CallC.r ?_); conv => whnf))
    refine hK4 _ (pwp_cut fun K5 hK5 => ?_)
    ((conv => whnf); repeat ((first | refine B0 ?_ | refine B1 ?_ | refine D1 ?_ | refine D2 ?_ | refine CallC.r ?_); conv => whnf))
    refine Side.mk (by simp [hpl] <;> omega) ?_
    ((conv => whnf); repeat ((first | refine B0 ?_ | refine B1 ?_ | refine D1 ?_ | refine D2 ?_ | refine CallC.r ?_); conv => whnf))
    refine Pick.row ([.str (tx (k + cnts xs i)), .slice 1 ((mkL xs[i].value.base.simplices (k + cnts xs i + 1)).map Enc.enc), .int .i64 xs[i].value.prime, .slice 1 (xs[i].value.stalks.map Enc.enc), .slice 4 (xs[i].value.maps.map Enc.enc)] : List CV) (by simp [hpl] <;> omega) rfl ?_
    ((conv => whnf); repeat ((first | refine B0 ?_ | refine B1 ?_ | refine D1 ?_ | refine D2 ?_ | refine CallC.r ?_); conv => whnf))
    refine hK5 _ (pwp_cut fun K6 hK6 => ?_)
    ((conv => whnf); repeat ((first | refine B0 ?_ | refine B1 ?_ | refine D1 ?_ | refine D2 ?_ | refine CallC.r ?_); conv => whnf))
    refine Pick.at64 (z := k + cnts xs i + 2 + Mk.cnt xs[i].value.base.simplices) (by omega) (by omega) ?_
    ((conv => whnf); repeat ((first | refine B0 ?_ | refine B1 ?_ | refine D1 ?_ | refine D2 ?_ | refine CallC.r ?_); conv => whnf))
    refine hK6 _ (pwp_cut fun K7 hK7 => ?_)
    ((conv => whnf); repeat ((first | refine B0 ?_ | refine B1 ?_ | refine D1 ?_ | refine D2 ?_ | refine CallC.r ?_); conv => whnf))
    refine Side.mk (by simp [hpl] <;> omega) ?_
    ((conv => whnf); repeat ((first | refine B0 ?_ | refine B1 ?_ | refine D1 ?_ | refine D2 ?_ | refine CallC.r ?_); conv => whnf))
    refine Pick.row ([.str (tx (k + cnts xs i)), .slice 1 ((mkL xs[i].value.base.simplices (k + cnts xs i + 1)).map Enc.enc), .int .i64 (k + cnts xs i + 1 + Mk.cnt xs[i].value.base.simplices), .slice 1 (xs[i].value.stalks.map Enc.enc), .slice 4 (xs[i].value.maps.map Enc.enc)] : List CV) (by simp [hpl] <;> omega) rfl ?_
    ((conv => whnf); repeat ((first | refine B0 ?_ | refine B1 ?_ | refine D1 ?_ | refine D2 ?_ | refine CallC.r ?_); conv => whnf))
    refine Pick.mk true trivial ?_
    ((conv => whnf); repeat ((first | refine B0 ?_ | refine B1 ?_ | refine D1 ?_ | refine D2 ?_ | refine CallC.r ?_); conv => whnf))
    refine Side.mk rfl ?_
    ((conv => whnf); repeat ((first | refine B0 ?_ | refine B1 ?_ | refine D1 ?_ | refine D2 ?_ | refine CallC.r ?_); conv => whnf))
    refine Pick.mk ((([.str (tx (k + cnts xs i)), .slice 1 ((mkL xs[i].value.base.simplices (k + cnts xs i + 1)).map Enc.enc), .int .i64 (k + cnts xs i + 1 + Mk.cnt xs[i].value.base.simplices), .slice 1 (xs[i].value.stalks.map Enc.enc), .slice 4 (xs[i].value.maps.map Enc.enc)] : List CV), 1, xs[i].value.stalks.map Enc.enc) : List CV × Nat × List (List CV)) ⟨by simp [hpl, h]; first | done | rfl | omega, rfl⟩ ?_
    ((conv => whnf); repeat ((first | refine B0 ?_ | refine B1 ?_ | refine D1 ?_ | refine D2 ?_ | refine CallC.r ?_); conv => whnf))
    have hm3 := m_Int64S false xs[i].value.stalks (k + cnts xs i + 2 + Mk.cnt xs[i].value.base.simplices) (by omega) (by omega) (by omega)
    rw [show ((k + cnts xs i + 2 + Mk.cnt xs[i].value.base.simplices) + (Mk.cnt xs[i].value.stalks : Int)) = k + cnts xs i + 2 + Mk.cnt xs[i].value.base.simplices + Mk.cnt xs[i].value.stalks by omega] at hm3
    refine Pick.mk _ hm3 ?_
    ((conv => whnf); repeat ((first | refine B0 ?_ | refine B1 ?_ | refine D1 ?_ | refine D2 ?_ | refine CallC.r ?_); conv => whnf))
    refine Side.mk (by rw [List.length_map, List.length_map, mkL_length]) ?_
    ((conv => whnf); repeat ((first | refine B0 ?_ | refine B1 ?_ | refine D1 ?_ | refine D2 ?_ | refine CallC.r ?_); conv => whnf))
    refine hK7 _ ?_
    ((conv => whnf); repeat ((first | refine B0 ?_ | refine B1 ?_ | refine D1 ?_ | refine D2 ?_ | refine CallC.r ?_); conv => whnf))
    refine Side.mk (by simp [hpl] <;> omega) ?_
    ((conv => whnf); repeat ((first | refine B0 ?_ | refine B1 ?_ | refine D1 ?_ | refine D2 ?_ | refine CallC.r ?_); conv => whnf))
    refine Pick.row ([.str (tx (k + cnts xs i)), .slice 1 ((mkL xs[i].value.base.simplices (k + cnts xs i + 1)).map Enc.enc), .int .i64 (k + cnts xs i + 1 + Mk.cnt xs[i].value.base.simplices), .slice 1 ((mkL xs[i].value.stalks (k + cnts xs i + 2 + Mk.cnt xs[i].value.base.simplices)).map Enc.enc), .slice 4 (xs[i].value.maps.map Enc.enc)] : List CV) (by simp [hpl] <;> omega) rfl ?_
    ((conv => whnf); repeat ((first | refine B0 ?_ | refine B1 ?_ | refine D1 ?_ | refine D2 ?_ | refine CallC.r ?_); conv => whnf))
    refine Pick.mk true trivial ?_
    ((conv => whnf); repeat ((first | refine B0 ?_ | refine B1 ?_ | refine D1 ?_ | refine D2 ?_ | refine CallC.r ?_); conv => whnf))
    refine Side.mk rfl ?_
    ((conv => whnf); repeat ((first | refine B0 ?_ | refine B1 ?_ | refine D1 ?_ | refine D2 ?_ | refine CallC.r ?_); conv => whnf))
    refine Pick.mk ((([.str (tx (k + cnts xs i)), .slice 1 ((mkL xs[i].value.base.simplices (k + cnts xs i + 1)).map Enc.enc), .int .i64 (k + cnts xs i + 1 + Mk.cnt xs[i].value.base.simplices), .slice 1 ((mkL xs[i].value.stalks (k + cnts xs i + 2 + Mk.cnt xs[i].value.base.simplices)).map Enc.enc), .slice 4 (xs[i].value.maps.map Enc.enc)] : List CV), 4, xs[i].value.maps.map Enc.enc) : List CV × Nat × List (List CV)) ⟨by simp [hpl, h]; first | done | rfl | omega, rfl⟩ ?_
    ((conv => whnf); repeat ((first | refine B0 ?_ | refine B1 ?_ | refine D1 ?_ | refine D2 ?_ | refine CallC.r ?_); conv => whnf))
    have hm4 := m_MatrixS false xs[i].value.maps (k + cnts xs i + 2 + Mk.cnt xs[i].value.base.simplices + Mk.cnt xs[i].value.stalks) (by omega) (by omega) (by omega) n4
    rw [show ((k + cnts xs i + 2 + Mk.cnt xs[i].value.base.simplices + Mk.cnt xs[i].value.stalks) + (Mk.cnt xs[i].value.maps : Int)) = k + cnts xs (i + 1) by omega] at hm4
    refine Pick.mk _ hm4 ?_
    ((conv => whnf); repeat ((first | refine B0 ?_ | refine B1 ?_ | refine D1 ?_ | refine D2 ?_ | refine CallC.r ?_); conv => whnf))
    refine Side.mk (by rw [List.length_map, List.length_map, mkL_length]) ?_
    ((conv => whnf); repeat ((first | refine B0 ?_ | refine B1 ?_ | refine D1 ?_ | refine D2 ?_ | refine CallC.r ?_); conv => whnf))
    refine hK1 _ ?_
    ((conv => whnf); repeat ((first | refine B0 ?_ | refine B1 ?_ | refine D1 ?_ | refine D2 ?_ | refine CallC.r ?_); conv => whnf))
    refine Pick.at64 (z := (i + 1 : Nat)) (by simp) (by omega) ?_
    ((conv => whnf); repeat ((first | refine B0 ?_ | refine B1 ?_ | refine D1 ?_ | refine D2 ?_ | refine CallC.r ?_); conv => whnf))
    have e : (((((part xs k i).set (i : Int).toNat (spliceC ([.str xs[i].name, .slice 1 (xs[i].value.base.simplices.map Enc.enc), .int .i64 xs[i].value.prime, .slice 1 (xs[i].value.stalks.map Enc.enc), .slice 4 (xs[i].value.maps.map Enc.enc)] : List CV) (0 + 0) [.str (tx (k + cnts xs i))])).set (i : Int).toNat (([.str (tx (k + cnts xs i)), .slice 1 (xs[i].value.base.simplices.map Enc.enc), .int .i64 xs[i].value.prime, .slice 1 (xs[i].value.stalks.map Enc.enc), .slice 4 (xs[i].value.maps.map Enc.enc)] : List CV).set 1 (.slice 1 ((mkL xs[i].value.base.simplices (k + cnts xs i + 1)).map Enc.enc)))).set (i : Int).toNat (spliceC ([.str (tx (k + cnts xs i)), .slice 1 ((mkL xs[i].value.base.simplices (k + cnts xs i + 1)).map Enc.enc), .int .i64 xs[i].value.prime, .slice 1 (xs[i].value.stalks.map Enc.enc), .slice 4 (xs[i].value.maps.map Enc.enc)] : List CV) (0 + 2) [.int .i64 (k + cnts xs i + 1 + Mk.cnt xs[i].value.base.simplices)])).set (i : Int).toNat (([.str (tx (k + cnts xs i)), .slice 1 ((mkL xs[i].value.base.simplices (k + cnts xs i + 1)).map Enc.enc), .int .i64 (k + cnts xs i + 1 + Mk.cnt xs[i].value.base.simplices), .slice 1 (xs[i].value.stalks.map Enc.enc), .slice 4 (xs[i].value.maps.map Enc.enc)] : List CV).set 3 (.slice 1 ((mkL xs[i].value.stalks (k + cnts xs i + 2 + Mk.cnt xs[i].value.base.simplices)).map Enc.enc)))).set (i : Int).toNat (([.str (tx (k + cnts xs i)), .slice 1 ((mkL xs[i].value.base.simplices (k + cnts xs i + 1)).map Enc.enc), .int .i64 (k + cnts xs i + 1 + Mk.cnt xs[i].value.base.simplices), .slice 1 ((mkL xs[i].value.stalks (k + cnts xs i + 2 + Mk.cnt xs[i].value.base.simplices)).map Enc.enc), .slice 4 (xs[i].value.maps.map Enc.enc)] : List CV).set 4 (.slice 4 ((mkL xs[i].value.maps (k + cnts xs i + 2 + Mk.cnt xs[i].value.base.simplices + Mk.cnt xs[i].value.stalks)).map Enc.enc))) = part xs k (i + 1) := by
      rw [← part_set xs k i h, show ((i : Int).toNat) = i by omega]
      try simp only [List.set_set]
      rfl
    refine cast (congrArg (fun r => LoopL _ _ _ ⟨_, [(_, .deep a 5 r)]⟩) e.symm) (ih (i + 1) (by omega) (by omega))
  · simp [hpl] at h
    have e1 := part_all xs k i (by omega)
    have e2 := cnts_all xs i (by omega)
    rw [e1, e2, ← hc]

theorem h_NamedSheafS (xs : List NamedSheaf) (k : Int) (hk : k + Mk.cnt xs ≤ 1099511627776) (h0 : 0 ≤ k) (hb : xs.length ≤ 1099511627776) (hl : ∀ x ∈ xs, bigL x) :
    Sat Tryz.prog 74 [(false, Enc.enc (mkL xs k)), (false, [.int .i64 k])] (.one (.c (.int .i64 (k + Mk.cnt xs))), []) := by
  have hc := cnt_list xs
  have hpl := mkL_length xs k
  refine Sat.intro tok mixed Tryz.func74 rfl rfl ?_
  ((conv => whnf); repeat ((first | refine B0 ?_ | refine B1 ?_ | refine D1 ?_ | refine D2 ?_ | refine CallC.r ?_); conv => whnf))
  refine Pick.mk [0, 1, 5] trivial ?_
  ((conv => whnf); repeat ((first | refine B0 ?_ | refine B1 ?_ | refine D1 ?_ | refine D2 ?_ | refine CallC.r ?_); conv => whnf))
  refine LoopL.run (fun i : Nat => St.mk [.one (.c (.slice 5 ((mkL xs k).map Enc.enc))), .one (.c (.int .i64 (k + cnts xs i))), .one .dead, .one .dead, .one .dead, .one (.c (.int .i64 i)), .one .dead, .one .dead, .one .dead, .one .dead, .one .dead, .one .dead, .one .dead, .one .dead, .one .dead, .one .dead, .one .dead, .one .dead, .one .dead, .one .dead, .one .dead, .one .dead, .one .dead, .one .dead, .one .dead, .one .dead, .one .dead, .one .dead, .one .dead, .one .dead, .one .dead, .one .dead, .one .dead, .one .dead, .one .dead, .one .dead, .one .dead, .one .dead, .one .dead, .one .dead, .one .dead, .one .dead, .one .dead, .one .dead, .one .dead, .one .dead, .one .dead, .one .dead, .one .dead, .one .dead, .one .dead, .one .dead, .one .dead, .one .dead, .one .dead, .one .dead, .one .dead, .one .dead, .one .dead, .one .dead, .one .dead, .one .dead, .one .dead, .one .dead] []) (fun i => xs.length - i) (fun i => i ≤ xs.length) ?_ 0 (Nat.zero_le _) (by rw [cnts_zero]; simp only [Int.natCast_zero, Int.add_zero] <;> rfl)
  intro i h2 ih
  ((conv => whnf); repeat ((first | refine B0 ?_ | refine B1 ?_ | refine D1 ?_ | refine D2 ?_ | refine CallC.r ?_); conv => whnf))
  refine Br.mk (fun h => ?_) (fun h => ?_) <;> ((conv => whnf); repeat ((first | refine B0 ?_ | refine B1 ?_ | refine D1 ?_ | refine D2 ?_ | refine CallC.r ?_); conv => whnf))
  · simp [hpl] at h
    have hr : ((mkL xs k).map Enc.enc)[(i : Int).toNat]? = some ([.str (tx (k + cnts xs i)), .slice 1 ((mkL xs[i].value.base.simplices (k + cnts xs i + 1)).map Enc.enc), .int .i64 (k + cnts xs i + 1 + Mk.cnt xs[i].value.base.simplices), .slice 1 ((mkL xs[i].value.stalks (k + cnts xs i + 2 + Mk.cnt xs[i].value.base.simplices)).map Enc.enc), .slice 4 ((mkL xs[i].value.maps (k + cnts xs i + 2 + Mk.cnt xs[i].value.base.simplices + Mk.cnt xs[i].value.stalks)).map Enc.enc)] : List CV) := by
      rw [show ((i : Int).toNat) = i by omega, List.getElem?_map, mkL_get xs k i h]; rfl
    have e1 := cnts_succ xs i h
    have e2 := cnts_le xs (i + 1)
    have e3 : Mk.cnt xs[i] = 2 + Mk.cnt xs[i].value.base.simplices + Mk.cnt xs[i].value.stalks + Mk.cnt xs[i].value.maps := rfl
    refine Pick.mk _ ⟨by omega, hr⟩ ?_
    ((conv => whnf); repeat ((first | refine B0 ?_ | refine B1 ?_ | refine D1 ?_ | refine D2 ?_ | refine CallC.r ?_); conv => whnf))
    refine Pick.mk _ (s_markText (k + cnts xs i) (by omega)) ?_
    ((conv => whnf); repeat ((first | refine B0 ?_ | refine B1 ?_ | refine D1 ?_ | refine D2 ?_ | refine CallC.r ?_); conv => whnf))
    refine Br.mk (fun h5 => ?_) (fun h5 => ?_) <;> ((conv => whnf); repeat ((first | refine B0 ?_ | refine B1 ?_ | refine D1 ?_ | refine D2 ?_ | refine CallC.r ?_); conv => whnf))
    · simp at h5
    clear h5
    refine Pick.at64 (z := k + cnts xs i + 1) (by omega) (by omega) ?_
    ((conv => whnf); repeat ((first | refine B0 ?_ | refine B1 ?_ | refine D1 ?_ | refine D2 ?_ | refine CallC.r ?_); conv => whnf))
    refine Pick.mk _ ⟨by omega, hr⟩ ?_
    ((conv => whnf); repeat ((first | refine B0 ?_ | refine B1 ?_ | refine D1 ?_ | refine D2 ?_ | refine CallC.r ?_); conv => whnf))
    have hbig : xs[i].value.base.simplices.length ≤ 1099511627776 ∧ (∀ y ∈ xs[i].value.base.simplices, bigL y) ∧ xs[i].value.stalks.length ≤ 1099511627776 ∧ xs[i].value.maps.length ≤ 1099511627776 ∧ (∀ y ∈ xs[i].value.maps, bigL y) := hl xs[i] (List.getElem_mem h)
    obtain ⟨b1, n1, b3, b4, n4⟩ := hbig
    have hm1 := h_Int64SS xs[i].value.base.simplices (k + cnts xs i + 1) (by omega) (by omega) (by omega) n1
    rw [show ((k + cnts xs i + 1) + (Mk.cnt xs[i].value.base.simplices : Int)) = k + cnts xs i + 1 + Mk.cnt xs[i].value.base.simplices by omega] at hm1
    refine Pick.mk _ hm1 ?_
    ((conv => whnf); repeat ((first | refine B0 ?_ | refine B1 ?_ | refine D1 ?_ | refine D2 ?_ | refine CallC.r ?_); conv => whnf))
    refine Br.mk (fun h5 => ?_) (fun h5 => ?_) <;> ((conv => whnf); repeat ((first | refine B0 ?_ | refine B1 ?_ | refine D1 ?_ | refine D2 ?_ | refine CallC.r ?_); conv => whnf))
    · simp at h5
      omega
    clear h5
    refine Pick.mk _ ⟨by omega, hr⟩ ?_
    ((conv => whnf); repeat ((first | refine B0 ?_ | refine B1 ?_ | refine D1 ?_ | refine D2 ?_ | refine CallC.r ?_); conv => whnf))
    refine Br.mk (fun h5 => ?_) (fun h5 => ?_) <;> ((conv => whnf); repeat ((first | refine B0 ?_ | refine B1 ?_ | refine D1 ?_ | refine D2 ?_ | refine CallC.r ?_); conv => whnf))
    · simp at h5
    clear h5
    refine Pick.at64 (z := k + cnts xs i + 2 + Mk.cnt xs[i].value.base.simplices) (by omega) (by omega) ?_
    ((conv => whnf); repeat ((first | refine B0 ?_ | refine B1 ?_ | refine D1 ?_ | refine D2 ?_ | refine CallC.r ?_); conv => whnf))
    refine Pick.mk _ ⟨by omega, hr⟩ ?_
    ((conv => whnf); repeat ((first | refine B0 ?_ | refine B1 ?_ | refine D1 ?_ | refine D2 ?_ | refine CallC.r ?_); conv => whnf))
    have hm3 := h_Int64S xs[i].value.stalks (k + cnts xs i + 2 + Mk.cnt xs[i].value.base.simplices) (by omega) (by omega) (by omega)
    rw [show ((k + cnts xs i + 2 + Mk.cnt xs[i].value.base.simplices) + (Mk.cnt xs[i].value.stalks : Int)) = k + cnts xs i + 2 + Mk.cnt xs[i].value.base.simplices + Mk.cnt xs[i].value.stalks by omega] at hm3
    refine Pick.mk _ hm3 ?_
    ((conv => whnf); repeat ((first | refine B0 ?_ | refine B1 ?_ | refine D1 ?_ | refine D2 ?_ | refine CallC.r ?_); conv => whnf))
    refine Br.mk (fun h5 => ?_) (fun h5 => ?_) <;> ((conv => whnf); repeat ((first | refine B0 ?_ | refine B1 ?_ | refine D1 ?_ | refine D2 ?_ | refine CallC.r ?_); conv => whnf))
    · simp at h5
      omega
    clear h5
    refine Pick.mk _ ⟨by omega, hr⟩ ?_
    ((conv => whnf); repeat ((first | refine B0 ?_ | refine B1 ?_ | refine D1 ?_ | refine D2 ?_ | refine CallC.r ?_); conv => whnf))
    have hm4 := h_MatrixS xs[i].value.maps (k + cnts xs i + 2 + Mk.cnt xs[i].value.base.simplices + Mk.cnt xs[i].value.stalks) (by omega) (by omega) (by omega) n4
    rw [show ((k + cnts xs i + 2 + Mk.cnt xs[i].value.base.simplices + Mk.cnt xs[i].value.stalks) + (Mk.cnt xs[i].value.maps : Int)) = k + cnts xs (i + 1) by omega] at hm4
    refine Pick.mk _ hm4 ?_
    ((conv => whnf); repeat ((first | refine B0 ?_ | refine B1 ?_ | refine D1 ?_ | refine D2 ?_ | refine CallC.r ?_); conv => whnf))
    refine Br.mk (fun h5 => ?_) (fun h5 => ?_) <;> ((conv => whnf); repeat ((first | refine B0 ?_ | refine B1 ?_ | refine D1 ?_ | refine D2 ?_ | refine CallC.r ?_); conv => whnf))
    · simp at h5
      omega
    clear h5
    refine Pick.at64 (z := (i + 1 : Nat)) (by simp) (by omega) ?_
    ((conv => whnf); repeat ((first | refine B0 ?_ | refine B1 ?_ | refine D1 ?_ | refine D2 ?_ | refine CallC.r ?_); conv => whnf))
    exact ih (i + 1) (by omega) (by omega)
  · simp [hpl] at h
    have e2 := cnts_all xs i (by omega)
    exact ResOK.same (by rw [e2, ← hc])

theorem m_Complex (a : Bool) (x : List (List Int)) (k : Int) (hk : k + Mk.cnt x ≤ 1099511627776) (h0 : 0 ≤ k) (hb : x.length ≤ 1099511627776) (hl : ∀ y ∈ x, bigL y) :
    SatM Tryz.prog 17 [.agg [.ds 1000000], .one (.c (.int .i64 k))] [(1000000, .deep a 1 (x.map Enc.enc))] (.one (.c (.int .i64 (k + Mk.cnt x))), [(1000000, .deep a 1 ((mkL x k).map Enc.enc))]) := by
  refine SatM.intro tok mixed Tryz.func17 rfl rfl ?_
  ((conv => whnf); repeat ((first | refine B0 ?_ | refine B1 ?_ | refine D1 ?_ | refine D2 ?_ | refine CallC.r ?_); conv => whnf))
  refine Pick.mk true trivial ?_
  ((conv => whnf); repeat ((first | refine B0 ?_ | refine B1 ?_ | refine D1 ?_ | refine D2 ?_ | refine CallC.r ?_); conv => whnf))
  refine Pick.mk _ (m_Int64SS a x k hk h0 hb hl) ?_
  ((conv => whnf); repeat ((first | refine B0 ?_ | refine B1 ?_ | refine D1 ?_ | refine D2 ?_ | refine CallC.r ?_); conv => whnf))
  refine Side.mk (by rw [List.length_map, List.length_map, mkL_length]) ?_
  ((conv => whnf); repeat ((first | refine B0 ?_ | refine B1 ?_ | refine D1 ?_ | refine D2 ?_ | refine CallC.r ?_); conv => whnf))

theorem h_Complex (x : List (List Int)) (k : Int) (hk : k + Mk.cnt x ≤ 1099511627776) (h0 : 0 ≤ k) (hb : x.length ≤ 1099511627776) (hl : ∀ y ∈ x, bigL y) :
    Sat Tryz.prog 18 [(true, [.slice 1 ((mkL x k).map Enc.enc)]), (false, [.int .i64 k])] (.one (.c (.int .i64 (k + Mk.cnt x))), []) := by
  refine Sat.intro tok mixed Tryz.func18 rfl rfl ?_
  ((conv => whnf); repeat ((first | refine B0 ?_ | refine B1 ?_ | refine D1 ?_ | refine D2 ?_ | refine CallC.r ?_); conv => whnf))
  refine Pick.mk _ (h_Int64SS x k hk h0 hb hl) ?_
  ((conv => whnf); repeat ((first | refine B0 ?_ | refine B1 ?_ | refine D1 ?_ | refine D2 ?_ | refine CallC.r ?_); conv => whnf))
  refine Br.mk (fun h => absurd h (by simp <;> omega)) (fun _ => ?_)
  ((conv => whnf); repeat ((first | refine B0 ?_ | refine B1 ?_ | refine D1 ?_ | refine D2 ?_ | refine CallC.r ?_); conv => whnf))
  exact ResOK.same rfl

theorem m_World (a b : Bool) (x : World) (k : Int) (hk : k + Mk.cnt x.complexes + Mk.cnt x.sheaves ≤ 1099511627776) (h0 : 0 ≤ k) (hb : x.complexes.length ≤ 1099511627776) (hb2 : x.sheaves.length ≤ 1099511627776) (hl : ∀ y ∈ x.complexes, bigL y) (hl2 : ∀ y ∈ x.sheaves, bigL y) :
    SatM Tryz.prog 16 [.agg [.ds 1000000, .ds 1000001], .one (.c (.int .i64 k))] [(1000000, .deep a 2 (x.complexes.map Enc.enc)), (1000001, .deep b 5 (x.sheaves.map Enc.enc))]
      (.one (.c (.int .i64 (k + Mk.cnt x.complexes + Mk.cnt x.sheaves))), [(1000000, .deep a 2 ((mkL x.complexes k).map Enc.enc)), (1000001, .deep b 5 ((mkL x.sheaves (k + Mk.cnt x.complexes)).map Enc.enc))]) := by
  refine SatM.intro tok mixed Tryz.func16 rfl rfl ?_
  ((conv => whnf); repeat ((first | refine B0 ?_ | refine B1 ?_ | refine D1 ?_ | refine D2 ?_ | refine CallC.r ?_); conv => whnf))
  refine Pick.mk true trivial ?_
  ((conv => whnf); repeat ((first | refine B0 ?_ | refine B1 ?_ | refine D1 ?_ | refine D2 ?_ | refine CallC.r ?_); conv => whnf))
  refine Pick.mk _ (m_NamedComplexS a x.complexes k (by omega) h0 hb hl) ?_
  ((conv => whnf); repeat ((first | refine B0 ?_ | refine B1 ?_ | refine D1 ?_ | refine D2 ?_ | refine CallC.r ?_); conv => whnf))
  refine Side.mk (by rw [List.length_map, List.length_map, mkL_length]) ?_
  ((conv => whnf); repeat ((first | refine B0 ?_ | refine B1 ?_ | refine D1 ?_ | refine D2 ?_ | refine CallC.r ?_); conv => whnf))
  refine Pick.mk true trivial ?_
  ((conv => whnf); repeat ((first | refine B0 ?_ | refine B1 ?_ | refine D1 ?_ | refine D2 ?_ | refine CallC.r ?_); conv => whnf))
  refine Pick.mk _ (m_NamedSheafS b x.sheaves (k + Mk.cnt x.complexes) hk (by omega) hb2 hl2) ?_
  ((conv => whnf); repeat ((first | refine B0 ?_ | refine B1 ?_ | refine D1 ?_ | refine D2 ?_ | refine CallC.r ?_); conv => whnf))
  refine Side.mk (by rw [List.length_map, List.length_map, mkL_length]) ?_
  ((conv => whnf); repeat ((first | refine B0 ?_ | refine B1 ?_ | refine D1 ?_ | refine D2 ?_ | refine CallC.r ?_); conv => whnf))

/-- A world, marked. -/
def markW (x : World) (k : Int) : World := ⟨mkL x.complexes k, mkL x.sheaves (k + Mk.cnt x.complexes)⟩
theorem h_World (x : World) (k : Int) (hk : k + Mk.cnt x.complexes + Mk.cnt x.sheaves ≤ 1099511627776) (h0 : 0 ≤ k) (hb : x.complexes.length ≤ 1099511627776) (hb2 : x.sheaves.length ≤ 1099511627776) (hl : ∀ y ∈ x.complexes, bigL y) (hl2 : ∀ y ∈ x.sheaves, bigL y) :
    Sat Tryz.prog 26 [(true, Enc.enc (markW x k)), (false, [.int .i64 k])] (.one (.c (.int .i64 (k + Mk.cnt x.complexes + Mk.cnt x.sheaves))), []) := by
  refine Sat.intro tok mixed Tryz.func26 rfl rfl ?_
  ((conv => whnf); repeat ((first | refine B0 ?_ | refine B1 ?_ | refine D1 ?_ | refine D2 ?_ | refine CallC.r ?_); conv => whnf))
  refine Pick.mk _ (h_NamedComplexS x.complexes k (by omega) h0 hb hl) ?_
  ((conv => whnf); repeat ((first | refine B0 ?_ | refine B1 ?_ | refine D1 ?_ | refine D2 ?_ | refine CallC.r ?_); conv => whnf))
  refine Br.mk (fun h => absurd h (by simp <;> omega)) (fun _ => ?_)
  ((conv => whnf); repeat ((first | refine B0 ?_ | refine B1 ?_ | refine D1 ?_ | refine D2 ?_ | refine CallC.r ?_); conv => whnf))
  refine Pick.mk _ (h_NamedSheafS x.sheaves (k + Mk.cnt x.complexes) hk (by omega) hb2 hl2) ?_
  ((conv => whnf); repeat ((first | refine B0 ?_ | refine B1 ?_ | refine D1 ?_ | refine D2 ?_ | refine CallC.r ?_); conv => whnf))
  refine Br.mk (fun h => absurd h (by simp <;> omega)) (fun _ => ?_)
  ((conv => whnf); repeat ((first | refine B0 ?_ | refine B1 ?_ | refine D1 ?_ | refine D2 ?_ | refine CallC.r ?_); conv => whnf))
  exact ResOK.same rfl

theorem m_Sheaf (a b c : Bool) (x : Sheaf) (k : Int) (hk : k + Mk.cnt x.base.simplices + Mk.cnt x.stalks + Mk.cnt x.maps ≤ 1099511627776) (h0 : 0 ≤ k) (hb : x.base.simplices.length ≤ 1099511627776) (hl : ∀ y ∈ x.base.simplices, bigL y) (hb2 : x.stalks.length ≤ 1099511627776) (hb3 : x.maps.length ≤ 1099511627776) (hl3 : ∀ y ∈ x.maps, bigL y) :
    SatM Tryz.prog 22 [.agg [.ds 1000000, .c (.int .i64 x.prime), .ds 1000001, .ds 1000002], .one (.c (.int .i64 k))] [(1000000, .deep a 1 (x.base.simplices.map Enc.enc)), (1000001, .deep b 1 (x.stalks.map Enc.enc)), (1000002, .deep c 4 (x.maps.map Enc.enc))]
      (.one (.c (.int .i64 (k + Mk.cnt x.base.simplices + Mk.cnt x.stalks + Mk.cnt x.maps))), [(1000000, .deep a 1 ((mkL x.base.simplices k).map Enc.enc)), (1000001, .deep b 1 ((mkL x.stalks (k + Mk.cnt x.base.simplices)).map Enc.enc)), (1000002, .deep c 4 ((mkL x.maps (k + Mk.cnt x.base.simplices + Mk.cnt x.stalks)).map Enc.enc))]) := by
  refine SatM.intro tok mixed Tryz.func22 rfl rfl ?_
  ((conv => whnf); repeat ((first | refine B0 ?_ | refine B1 ?_ | refine D1 ?_ | refine D2 ?_ | refine CallC.r ?_); conv => whnf))
  refine Pick.mk true trivial ?_
  ((conv => whnf); repeat ((first | refine B0 ?_ | refine B1 ?_ | refine D1 ?_ | refine D2 ?_ | refine CallC.r ?_); conv => whnf))
  refine Pick.mk _ (m_Complex a x.base.simplices k (by omega) h0 hb hl) ?_
  ((conv => whnf); repeat ((first | refine B0 ?_ | refine B1 ?_ | refine D1 ?_ | refine D2 ?_ | refine CallC.r ?_); conv => whnf))
  refine Side.mk (by rw [List.length_map, List.length_map, mkL_length]) ?_
  ((conv => whnf); repeat ((first | refine B0 ?_ | refine B1 ?_ | refine D1 ?_ | refine D2 ?_ | refine CallC.r ?_); conv => whnf))
  refine Pick.mk true trivial ?_
  ((conv => whnf); repeat ((first | refine B0 ?_ | refine B1 ?_ | refine D1 ?_ | refine D2 ?_ | refine CallC.r ?_); conv => whnf))
  refine Pick.mk _ (m_Int64S b x.stalks (k + Mk.cnt x.base.simplices) (by omega) (by omega) hb2) ?_
  ((conv => whnf); repeat ((first | refine B0 ?_ | refine B1 ?_ | refine D1 ?_ | refine D2 ?_ | refine CallC.r ?_); conv => whnf))
  refine Side.mk (by rw [List.length_map, List.length_map, mkL_length]) ?_
  ((conv => whnf); repeat ((first | refine B0 ?_ | refine B1 ?_ | refine D1 ?_ | refine D2 ?_ | refine CallC.r ?_); conv => whnf))
  refine Pick.mk true trivial ?_
  ((conv => whnf); repeat ((first | refine B0 ?_ | refine B1 ?_ | refine D1 ?_ | refine D2 ?_ | refine CallC.r ?_); conv => whnf))
  refine Pick.mk _ (m_MatrixS c x.maps (k + Mk.cnt x.base.simplices + Mk.cnt x.stalks) hk (by omega) hb3 hl3) ?_
  ((conv => whnf); repeat ((first | refine B0 ?_ | refine B1 ?_ | refine D1 ?_ | refine D2 ?_ | refine CallC.r ?_); conv => whnf))
  refine Side.mk (by rw [List.length_map, List.length_map, mkL_length]) ?_
  ((conv => whnf); repeat ((first | refine B0 ?_ | refine B1 ?_ | refine D1 ?_ | refine D2 ?_ | refine CallC.r ?_); conv => whnf))

/-- A sheaf, marked. -/
def markShf (x : Sheaf) (k : Int) : Sheaf := ⟨⟨mkL x.base.simplices k⟩, x.prime, mkL x.stalks (k + Mk.cnt x.base.simplices), mkL x.maps (k + Mk.cnt x.base.simplices + Mk.cnt x.stalks)⟩
theorem h_Sheaf (x : Sheaf) (k : Int) (hk : k + Mk.cnt x.base.simplices + Mk.cnt x.stalks + Mk.cnt x.maps ≤ 1099511627776) (h0 : 0 ≤ k) (hb : x.base.simplices.length ≤ 1099511627776) (hl : ∀ y ∈ x.base.simplices, bigL y) (hb2 : x.stalks.length ≤ 1099511627776) (hb3 : x.maps.length ≤ 1099511627776) (hl3 : ∀ y ∈ x.maps, bigL y) :
    Sat Tryz.prog 23 [(true, Enc.enc (markShf x k)), (false, [.int .i64 k])] (.one (.c (.int .i64 (k + Mk.cnt x.base.simplices + Mk.cnt x.stalks + Mk.cnt x.maps))), []) := by
  refine Sat.intro tok mixed Tryz.func23 rfl rfl ?_
  ((conv => whnf); repeat ((first | refine B0 ?_ | refine B1 ?_ | refine D1 ?_ | refine D2 ?_ | refine CallC.r ?_); conv => whnf))
  refine Pick.mk _ (h_Complex x.base.simplices k (by omega) h0 hb hl) ?_
  ((conv => whnf); repeat ((first | refine B0 ?_ | refine B1 ?_ | refine D1 ?_ | refine D2 ?_ | refine CallC.r ?_); conv => whnf))
  refine Br.mk (fun h => absurd h (by simp <;> omega)) (fun _ => ?_)
  ((conv => whnf); repeat ((first | refine B0 ?_ | refine B1 ?_ | refine D1 ?_ | refine D2 ?_ | refine CallC.r ?_); conv => whnf))
  refine Pick.mk _ (h_Int64S x.stalks (k + Mk.cnt x.base.simplices) (by omega) (by omega) hb2) ?_
  ((conv => whnf); repeat ((first | refine B0 ?_ | refine B1 ?_ | refine D1 ?_ | refine D2 ?_ | refine CallC.r ?_); conv => whnf))
  refine Br.mk (fun h => absurd h (by simp <;> omega)) (fun _ => ?_)
  ((conv => whnf); repeat ((first | refine B0 ?_ | refine B1 ?_ | refine D1 ?_ | refine D2 ?_ | refine CallC.r ?_); conv => whnf))
  refine Pick.mk _ (h_MatrixS x.maps (k + Mk.cnt x.base.simplices + Mk.cnt x.stalks) hk (by omega) hb3 hl3) ?_
  ((conv => whnf); repeat ((first | refine B0 ?_ | refine B1 ?_ | refine D1 ?_ | refine D2 ?_ | refine CallC.r ?_); conv => whnf))
  refine Br.mk (fun h => absurd h (by simp <;> omega)) (fun _ => ?_)
  ((conv => whnf); repeat ((first | refine B0 ?_ | refine B1 ?_ | refine D1 ?_ | refine D2 ?_ | refine CallC.r ?_); conv => whnf))
  exact ResOK.same rfl

end Go.Proofs.YtlnjgoeicanehaaGreat.Pi
