/- Deep copies, marks and what is held, of complexes, sheaves and worlds. No statement of the seat is proved here. -/
import Derived.Test.YtnmoeeneofopcaaPiM5
import Derived.Test.YtnmoeeneofopcaaPiU2
namespace Go.Proofs.Ytnmoeeneofopcaa.Pi
open Go
set_option maxRecDepth 10000
set_option maxHeartbeats 1600000
set_option linter.unusedVariables false
set_option linter.unusedSimpArgs false

instance : Mk Matrix := ⟨fun x k => ⟨k, k + 1, k + 2, mkL x.cells (k + 3)⟩, fun x => 3 + Mk.cnt x.cells⟩

instance : Big Matrix := ⟨fun x => x.cells.length ≤ 1099511627776⟩

instance : Mk NamedComplex := ⟨fun x k => ⟨tx (k), ⟨mkL x.value.simplices (k + 1)⟩⟩, fun x => 1 + Mk.cnt x.value.simplices⟩

instance : Big NamedComplex := ⟨fun x => x.value.simplices.length ≤ 1099511627776 ∧ (∀ y ∈ x.value.simplices, bigL y)⟩

instance : Mk NamedSheaf := ⟨fun x k => ⟨tx (k), ⟨⟨mkL x.value.base.simplices (k + 1)⟩, k + 1 + Mk.cnt x.value.base.simplices, mkL x.value.stalks (k + 2 + Mk.cnt x.value.base.simplices), mkL x.value.maps (k + 2 + Mk.cnt x.value.base.simplices + Mk.cnt x.value.stalks)⟩⟩, fun x => 2 + Mk.cnt x.value.base.simplices + Mk.cnt x.value.stalks + Mk.cnt x.value.maps⟩

instance : Big NamedSheaf := ⟨fun x => x.value.base.simplices.length ≤ 1099511627776 ∧ (∀ y ∈ x.value.base.simplices, bigL y) ∧ x.value.stalks.length ≤ 1099511627776 ∧ x.value.maps.length ≤ 1099511627776 ∧ (∀ y ∈ x.value.maps, bigL y)⟩

theorem d_Int64SS (xs : List (List Int)) (hb : Enc.wt xs ≤ 1048576) : Sat Try.prog 37 [(false, Enc.enc xs)] (.one (.ds 0), [(0, .deep true 1 (xs.map Enc.enc))]) := by
  have hl : (xs.map (Enc.enc (α := List Int))).length = xs.length := by simp
  have hw := wt_list xs
  refine Sat.intro tok mixed Try.func37 rfl rfl ?_
  ((conv => whnf); repeat ((first | refine B0 ?_ | refine B1 ?_ | refine D1 ?_ | refine D2 ?_ | refine CallC.r ?_); conv => whnf))
  refine Side.mk (by omega) ?_
  ((conv => whnf); repeat ((first | refine B0 ?_ | refine B1 ?_ | refine D1 ?_ | refine D2 ?_ | refine CallC.r ?_); conv => whnf))
  refine Pick.mk [0, 3, 4, 2000192] trivial ?_
  ((conv => whnf); repeat ((first | refine B0 ?_ | refine B1 ?_ | refine D1 ?_ | refine D2 ?_ | refine CallC.r ?_); conv => whnf))
  refine Side.mk (flat_rep rfl) ?_
  ((conv => whnf); repeat ((first | refine B0 ?_ | refine B1 ?_ | refine D1 ?_ | refine D2 ?_ | refine CallC.r ?_); conv => whnf))
  refine LoopL.run (fun i : Nat => St.mk [.one (.c (.slice 1 (xs.map Enc.enc))), .one .dead, .one .dead, .one (.ds 192), .one (.c (.int .i64 i)), .one .dead, .one .dead, .one .dead, .one .dead, .one .dead, .one .dead, .one .dead, .one .dead, .one .dead, .one .dead, .one .dead, .one .dead, .one .dead, .one .dead, .one .dead, .one .dead, .one .dead, .one .dead] [(192, .deep true 1 (upTo [.slice 1 []] xs i))])
      (fun i => xs.length - i) (fun i => i ≤ xs.length) ?_ 0 (Nat.zero_le _) (by rw [upTo_zero, hl]; rfl)
  intro i h2 ih
  refine pwp_cut fun K hK => ?_
  ((conv => whnf); repeat ((first | refine B0 ?_ | refine B1 ?_ | refine D1 ?_ | refine D2 ?_ | refine CallC.r ?_); conv => whnf))
  refine Br.mk (fun h => ?_) (fun h => ?_) <;> ((conv => whnf); repeat ((first | refine B0 ?_ | refine B1 ?_ | refine D1 ?_ | refine D2 ?_ | refine CallC.r ?_); conv => whnf))
  · simp at h
    refine hK _ (pwp_cut fun K1 hK1 => pwp_into ?_)
    ((conv => whnf); repeat ((first | refine B0 ?_ | refine B1 ?_ | refine D1 ?_ | refine D2 ?_ | refine CallC.r ?_); conv => whnf))
    refine Pick.ix h ?_
    ((conv => whnf); repeat ((first | refine B0 ?_ | refine B1 ?_ | refine D1 ?_ | refine D2 ?_ | refine CallC.r ?_); conv => whnf))
    refine Pick.mk _ (d_Int64S xs[i] (by have := wt_get xs i h; omega)) ?_
    ((conv => whnf); repeat ((first | refine B0 ?_ | refine B1 ?_ | refine D1 ?_ | refine D2 ?_ | refine CallC.r ?_); conv => whnf))
    refine Side.mk (by rw [upTo_length _ _ _ h2]; omega) ?_
    ((conv => whnf); repeat ((first | refine B0 ?_ | refine B1 ?_ | refine D1 ?_ | refine D2 ?_ | refine CallC.r ?_); conv => whnf))
    refine hK1 _ ?_
    ((conv => whnf); repeat ((first | refine B0 ?_ | refine B1 ?_ | refine D1 ?_ | refine D2 ?_ | refine CallC.r ?_); conv => whnf))
    refine Pick.at64 (z := (i + 1 : Nat)) (by simp) (by omega) ?_
    ((conv => whnf); repeat ((first | refine B0 ?_ | refine B1 ?_ | refine D1 ?_ | refine D2 ?_ | refine CallC.r ?_); conv => whnf))
    refine cast (congrArg (fun r => LoopL _ _ _ ⟨_, [(_, .deep true 1 r)]⟩) (upTo_set [.slice 1 []] xs i h).symm) (ih (i + 1) (by omega) (by omega))
  · simp at h
    have e := upTo_all [.slice 1 []] xs i (by omega)
    rw [e]
    exact ResOK.same rfl

theorem d_Complex (x : Complex) (hb : Enc.wt x ≤ 1048576) : Sat Try.prog 8 [(true, Enc.enc x)] (.agg [.ds 0], [(0, .deep true 1 (x.simplices.map Enc.enc))]) := by
  have hw : Enc.wt x = Enc.wt x.simplices := rfl
  refine Sat.intro tok mixed Try.func8 rfl rfl ?_
  ((conv => whnf); repeat ((first | refine B0 ?_ | refine B1 ?_ | refine D1 ?_ | refine D2 ?_ | refine CallC.r ?_); conv => whnf))
  refine Pick.mk _ (d_Int64SS x.simplices (by omega)) ?_
  ((conv => whnf); repeat ((first | refine B0 ?_ | refine B1 ?_ | refine D1 ?_ | refine D2 ?_ | refine CallC.r ?_); conv => whnf))
  exact ResOK.same rfl

theorem m_Complex (a : Bool) (x : List (List Int)) (k : Int) (hk : k + Mk.cnt x ≤ 1099511627776) (h0 : 0 ≤ k) (hb : x.length ≤ 1099511627776) (hl : ∀ y ∈ x, bigL y) :
    SatM Try.prog 12 [.agg [.ds 1000000], .one (.c (.int .i64 k))] [(1000000, .deep a 1 (x.map Enc.enc))] (.one (.c (.int .i64 (k + Mk.cnt x))), [(1000000, .deep a 1 ((mkL x k).map Enc.enc))]) := by
  refine SatM.intro tok mixed Try.func12 rfl rfl ?_
  ((conv => whnf); repeat ((first | refine B0 ?_ | refine B1 ?_ | refine D1 ?_ | refine D2 ?_ | refine CallC.r ?_); conv => whnf))
  refine Pick.mk true trivial ?_
  ((conv => whnf); repeat ((first | refine B0 ?_ | refine B1 ?_ | refine D1 ?_ | refine D2 ?_ | refine CallC.r ?_); conv => whnf))
  refine Pick.mk _ (m_Int64SS a x k hk h0 hb hl) ?_
  ((conv => whnf); repeat ((first | refine B0 ?_ | refine B1 ?_ | refine D1 ?_ | refine D2 ?_ | refine CallC.r ?_); conv => whnf))
  refine Side.mk (by rw [List.length_map, List.length_map, mkL_length]) ?_
  ((conv => whnf); repeat ((first | refine B0 ?_ | refine B1 ?_ | refine D1 ?_ | refine D2 ?_ | refine CallC.r ?_); conv => whnf))

/-- A world, marked. -/
def markW (x : World) (k : Int) : World := ⟨mkL x.complexes k, mkL x.sheaves (k + Mk.cnt x.complexes)⟩
/-- A sheaf, marked. -/
def markShf (x : Sheaf) (k : Int) : Sheaf := ⟨⟨mkL x.base.simplices k⟩, x.prime, mkL x.stalks (k + Mk.cnt x.base.simplices), mkL x.maps (k + Mk.cnt x.base.simplices + Mk.cnt x.stalks)⟩
end Go.Proofs.Ytnmoeeneofopcaa.Pi
