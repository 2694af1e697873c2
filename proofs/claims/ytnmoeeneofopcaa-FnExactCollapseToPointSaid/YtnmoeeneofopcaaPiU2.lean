/- Sizes, copies and comparisons of worlds, as the laws make them. No statement of the seat is proved here. -/
import Derived.Test.YtnmoeeneofopcaaPiU1
import Derived.Test.YtnmoeeneofopcaaPiEncW
namespace Go.Proofs.Ytnmoeeneofopcaa.Pi
open Go
set_option maxRecDepth 10000
set_option linter.unusedVariables false

theorem z_Complex (x : Complex) (n : Int) (hx : Enc.ok x) (h0 : 0 ≤ n) (h1 : n ≤ 1048576) : Sat Try.prog 6 [(true, Enc.enc x), (false, [.int .i64 n])] (.one (.c (.int .i64 (szR n (Enc.wt x)))), []) := by
  have hz := z_Int64SS x.simplices n hx h0 h1
  have hq := szR_or n (Enc.wt x.simplices)
  refine Sat.intro tok mixed Try.func6 rfl rfl ?_
  conv => whnf
  refine Pick.mk _ hz ?_
  conv => whnf
  refine Br.mk (fun h => ?_) (fun h => ?_) <;> conv => whnf
  · simp at h
    exact ResOK.same (by show _ = (PV.one (XV.c (CV.int .i64 (szR n (Enc.wt x.simplices)))), []); rw [szR_lt (by omega)])
  · exact ResOK.same rfl

theorem c_Complex (x : Complex) (hb : Enc.wt x ≤ 1048576) : Sat Try.prog 8 [(true, Enc.enc x)] (.agg ((Enc.enc x).map .c), []) := by
  have hw : Enc.wt x = Enc.wt x.simplices := rfl
  refine Sat.intro tok mixed Try.func8 rfl rfl ?_
  conv => whnf
  refine Pick.mk _ (c_Int64SS x.simplices (by omega)) ?_
  conv => whnf
  exact ResOK.same rfl

theorem e_Complex (x : Complex) (hb : Enc.wt x ≤ 1099511627776) : Sat Try.prog 11 [(true, Enc.enc x), (true, Enc.enc x)] (.one (.c (.bool true)), []) := by
  have hw : Enc.wt x = Enc.wt x.simplices := rfl
  refine Sat.intro tok mixed Try.func11 rfl rfl ?_
  conv => whnf
  refine Pick.mk _ (e_Int64SS x.simplices (by omega)) ?_
  conv => whnf
  refine Br.no ?_
  conv => whnf
  exact ResOK.same rfl

end Go.Proofs.Ytnmoeeneofopcaa.Pi
