/- Sizes, copies and comparisons of worlds, as the laws make them. No statement of the seat is proved here. -/
import Derived.Test.YtlnjgoeicanehaaGreatPiU1
import Derived.Test.YtlnjgoeicanehaaGreatPiEncW
namespace Go.Proofs.YtlnjgoeicanehaaGreat.Pi
open Go
set_option maxRecDepth 10000
set_option linter.unusedVariables false

theorem z_Complex (x : Complex) (n : Int) (hx : Enc.ok x) (h0 : 0 ≤ n) (h1 : n ≤ 1048576) : Sat Tryz.prog 75 [(true, Enc.enc x), (false, [.int .i64 n])] (.one (.c (.int .i64 (szR n (Enc.wt x)))), []) := by
  have hz := z_Int64SS x.simplices n hx h0 h1
  have hq := szR_or n (Enc.wt x.simplices)
  refine Sat.intro tok mixed Tryz.func75 rfl rfl ?_
  conv => whnf
  refine Pick.mk _ hz ?_
  conv => whnf
  refine Br.mk (fun h => ?_) (fun h => ?_) <;> conv => whnf
  · simp at h
    exact ResOK.same (by show _ = (PV.one (XV.c (CV.int .i64 (szR n (Enc.wt x.simplices)))), []); rw [szR_lt (by omega)])
  · exact ResOK.same rfl

theorem c_Complex (x : Complex) (hb : Enc.wt x ≤ 1048576) : Sat Tryz.prog 83 [(true, Enc.enc x)] (.agg ((Enc.enc x).map .c), []) := by
  have hw : Enc.wt x = Enc.wt x.simplices := rfl
  refine Sat.intro tok mixed Tryz.func83 rfl rfl ?_
  conv => whnf
  refine Pick.mk _ (c_Int64SS x.simplices (by omega)) ?_
  conv => whnf
  exact ResOK.same rfl

theorem e_Complex (x : Complex) (hb : Enc.wt x ≤ 1099511627776) : Sat Tryz.prog 15 [(true, Enc.enc x), (true, Enc.enc x)] (.one (.c (.bool true)), []) := by
  have hw : Enc.wt x = Enc.wt x.simplices := rfl
  refine Sat.intro tok mixed Tryz.func15 rfl rfl ?_
  conv => whnf
  refine Pick.mk _ (e_Int64SS x.simplices (by omega)) ?_
  conv => whnf
  refine Br.no ?_
  conv => whnf
  exact ResOK.same rfl

theorem z_NamedComplex (x : NamedComplex) (n : Int) (hx : Enc.ok x) (h0 : 0 ≤ n) (h1 : n ≤ 1048576) : Sat Tryz.prog 90 [(true, Enc.enc x), (false, [.int .i64 n])] (.one (.c (.int .i64 (szR n (Enc.wt x)))), []) := by
  obtain ⟨o0, o1⟩ := hx
  have hw : Enc.wt x = Enc.wt x.name + Enc.wt x.value := rfl
  have w_name : Enc.wt x.name = x.name.size := rfl
  have m_name : x.name.size ≤ maxLen := o0
  simp only [maxLen] at m_name
  refine Sat.intro tok mixed Tryz.func90 rfl rfl ?_
  conv => whnf
  obtain ⟨q1, hq1⟩ : ∃ q1 : Int, q1 = n - x.name.size := ⟨_, rfl⟩
  refine Pick.at64 (z := q1) hq1.symm (by omega) ?_
  conv => whnf
  refine Br.mk (fun h => ?_) (fun h => ?_) <;> conv => whnf
  · simp at h
    exact ResOK.same (by rw [szR_lt (by omega)])
  simp at h
  have hz2 := z_Complex x.value q1 o1 (by omega) (by omega)
  have hq2 := szR_or q1 (Enc.wt x.value)
  generalize szR q1 (Enc.wt x.value) = q2 at hz2 hq2
  refine Pick.mk _ hz2 ?_
  conv => whnf
  refine Br.mk (fun h => ?_) (fun h => ?_) <;> conv => whnf
  · simp at h
    exact ResOK.same (by rw [szR_lt (by omega)])
  simp at h
  exact ResOK.same (by rw [szR_ge (by omega)]; congr <;> omega)

theorem c_NamedComplex (x : NamedComplex) (hb : Enc.wt x ≤ 1048576) : Sat Tryz.prog 95 [(true, Enc.enc x)] (.agg ((Enc.enc x).map .c), []) := by
  have hw : Enc.wt x = Enc.wt x.name + Enc.wt x.value := rfl
  refine Sat.intro tok mixed Tryz.func95 rfl rfl ?_
  conv => whnf
  refine Pick.mk _ (c_Complex x.value (by omega)) ?_
  conv => whnf
  exact ResOK.same rfl

theorem e_NamedComplex (x : NamedComplex) (hb : Enc.wt x ≤ 1099511627776) : Sat Tryz.prog 110 [(true, Enc.enc x), (true, Enc.enc x)] (.one (.c (.bool true)), []) := by
  have hw : Enc.wt x = Enc.wt x.name + Enc.wt x.value := rfl
  refine Sat.intro tok mixed Tryz.func110 rfl rfl ?_
  conv => whnf
  refine Br.mk (fun h => ?_) (fun h => ?_) <;> conv => whnf
  · simp at h
  refine Pick.mk _ (e_Complex x.value (by omega)) ?_
  conv => whnf
  refine Br.no ?_
  conv => whnf
  exact ResOK.same rfl

theorem z_NamedComplexS (xs : List NamedComplex) (n : Int) (hx : Enc.ok xs) (h0 : 0 ≤ n) (h1 : n ≤ 1048576) : Sat Tryz.prog 35 [(false, Enc.enc xs), (false, [.int .i64 n])] (.one (.c (.int .i64 (szR n (Enc.wt xs)))), []) := by
  obtain ⟨o1, o2⟩ := hx
  simp only [maxLen] at o1
  have hl : (xs.map (Enc.enc (α := NamedComplex))).length = xs.length := by simp
  have hw := wt_list xs
  refine Sat.intro tok mixed Tryz.func35 rfl rfl ?_
  conv => whnf
  refine Pick.w64 (by omega) ?_
  conv => whnf
  refine Br.mk (fun h => ?_) (fun h => ?_) <;> conv => whnf
  · simp at h
    exact ResOK.same (by rw [szR_lt (by omega)])
  · simp at h
    refine Pick.mk [0, 1, 5] trivial ?_
    conv => whnf
    refine LoopL.run (fun a : Nat × Int => St.mk [.one (.c (.slice 2 (xs.map Enc.enc))), .one (.c (.int .i64 a.2)), .one .dead, .one .dead, .one .dead, .one (.c (.int .i64 a.1)), .one .dead, .one .dead, .one .dead, .one .dead, .one .dead, .one .dead, .one .dead, .one .dead, .one .dead, .one .dead, .one .dead, .one .dead, .one .dead, .one .dead, .one .dead, .one .dead, .one .dead, .one .dead, .one .dead, .one .dead, .one .dead] [])
      (fun a => xs.length - a.1) (fun a => a.1 ≤ xs.length ∧ 0 ≤ a.2 ∧ a.2 = n - xs.length - wts xs a.1) ?_ (0, n - (xs.map (Enc.enc (α := NamedComplex))).length) ⟨by simp, by simp only []; omega, by rw [wts_zero]; simp⟩
    intro ⟨i, m⟩ ⟨h2, h3, h4⟩ ih
    simp only at h2 h3 h4
    conv => whnf
    refine Br.mk (fun h => ?_) (fun h => ?_) <;> conv => whnf
    · simp at h
      refine Pick.ix h ?_
      conv => whnf
      have hz := z_NamedComplex xs[i] m (o2 _ (List.getElem_mem h)) h3 (by omega)
      have hq := szR_or m (Enc.wt xs[i])
      generalize szR m (Enc.wt xs[i]) = q at hz hq
      refine Pick.mk _ hz ?_
      conv => whnf
      have e1 := wts_succ xs i h
      have e2 := wts_le xs (i + 1)
      refine Br.mk (fun h5 => ?_) (fun h5 => ?_) <;> conv => whnf
      · simp at h5
        exact ResOK.same (by rw [szR_lt (by omega)])
      · simp at h5
        refine Pick.at64 (z := (i + 1 : Nat)) (by simp) (by omega) ?_
        conv => whnf
        exact ih (i + 1, q) ⟨by simp; omega, by simp; omega, by simp; omega⟩ (by simp; omega)
    · simp at h
      have e1 := wts_all xs i (by omega)
      exact ResOK.same (by rw [szR_ge (by omega)]; congr <;> omega)

theorem c_NamedComplexS (xs : List NamedComplex) (hb : Enc.wt xs ≤ 1048576) : Sat Tryz.prog 38 [(false, Enc.enc xs)] (.one (.c (.slice 2 (xs.map Enc.enc))), []) := by
  have hl : (xs.map (Enc.enc (α := NamedComplex))).length = xs.length := by simp
  have hw := wt_list xs
  refine Sat.intro tok mixed Tryz.func38 rfl rfl ?_
  conv => whnf
  refine Side.mk (by omega) ?_
  conv => whnf
  refine Pick.mk [0, 3, 4] trivial ?_
  conv => whnf
  refine LoopL.run (fun i : Nat => St.mk [.one (.c (.slice 2 (xs.map Enc.enc))), .one .dead, .one .dead, .one (.rs 192), .one (.c (.int .i64 i)), .one .dead, .one .dead, .one .dead, .one .dead, .one .dead, .one .dead, .one .dead, .one .dead, .one .dead, .one .dead, .one .dead, .one .dead, .one .dead, .one .dead, .one .dead, .one .dead, .one .dead, .one .dead] [(192, .arr 2 (upTo [.str ⟨#[]⟩, .slice 1 []] xs i))])
      (fun i => xs.length - i) (fun i => i ≤ xs.length) ?_ 0 (Nat.zero_le _) (by rw [upTo_zero, hl]; rfl)
  intro i h2 ih
  conv => whnf
  refine Br.mk (fun h => ?_) (fun h => ?_) <;> conv => whnf
  · simp at h
    refine Pick.ix h ?_
    conv => whnf
    refine Pick.mk _ (c_NamedComplex xs[i] (by have := wt_get xs i h; omega)) ?_
    conv => whnf
    refine Side.mk (by rw [upTo_length _ _ _ h2]; omega) ?_
    conv => whnf
    refine Pick.at64 (z := (i + 1 : Nat)) (by simp) (by omega) ?_
    conv => whnf
    refine cast (congrArg (fun r => LoopL _ _ _ ⟨_, [(_, .arr 2 r)]⟩) (upTo_set [.str ⟨#[]⟩, .slice 1 []] xs i h).symm) (ih (i + 1) (by omega) (by omega))
  · simp at h
    have e := upTo_all [.str ⟨#[]⟩, .slice 1 []] xs i (by omega)
    refine ResOK.frz ?_ rfl
    rw [e]
    rfl

theorem e_NamedComplexS (xs : List NamedComplex) (hb : Enc.wt xs ≤ 1099511627776) : Sat Tryz.prog 51 [(false, Enc.enc xs), (false, Enc.enc xs)] (.one (.c (.bool true)), []) := by
  have hl : (xs.map (Enc.enc (α := NamedComplex))).length = xs.length := by simp
  have hw := wt_list xs
  refine Sat.intro tok mixed Tryz.func51 rfl rfl ?_
  conv => whnf
  refine Br.mk (fun h => ?_) (fun h => ?_) <;> conv => whnf
  · simp at h
  refine Pick.mk [0, 1, 5] trivial ?_
  conv => whnf
  refine LoopL.run (fun i : Nat => St.mk [.one (.c (.slice 2 (xs.map Enc.enc))), .one (.c (.slice 2 (xs.map Enc.enc))), .one .dead, .one .dead, .one .dead, .one (.c (.int .i64 i)), .one .dead, .one .dead, .one .dead, .one .dead, .one .dead, .one .dead, .one .dead, .one .dead, .one .dead, .one .dead, .one .dead, .one .dead, .one .dead, .one .dead, .one .dead, .one .dead, .one .dead, .one .dead, .one .dead, .one .dead, .one .dead] []) (fun i => xs.length - i) (fun i => i ≤ xs.length) ?_ 0 (Nat.zero_le _)
  intro i h2 ih
  conv => whnf
  refine Br.mk (fun h => ?_) (fun h => ?_) <;> conv => whnf
  · simp at h
    refine Pick.draw rfl (by kernel_rfl) ?_
    conv => whnf
    refine Pick.ix h ?_
    conv => whnf
    refine Pick.ix h ?_
    conv => whnf
    refine Pick.mk _ (e_NamedComplex xs[i] (by have := wt_get xs i h; omega)) ?_
    conv => whnf
    refine Br.mk (fun h5 => ?_) (fun h5 => ?_) <;> conv => whnf
    · simp at h5
    · refine Pick.at64 (z := (i + 1 : Nat)) (by simp) (by omega) ?_
      conv => whnf
      exact ih (i + 1) (by omega) (by omega)
  · exact ResOK.same rfl

theorem z_MatrixS (xs : List Matrix) (n : Int) (hx : Enc.ok xs) (h0 : 0 ≤ n) (h1 : n ≤ 1048576) : Sat Tryz.prog 77 [(false, Enc.enc xs), (false, [.int .i64 n])] (.one (.c (.int .i64 (szR n (Enc.wt xs)))), []) := by
  obtain ⟨o1, o2⟩ := hx
  simp only [maxLen] at o1
  have hl : (xs.map (Enc.enc (α := Matrix))).length = xs.length := by simp
  have hw := wt_list xs
  refine Sat.intro tok mixed Tryz.func77 rfl rfl ?_
  conv => whnf
  refine Pick.w64 (by omega) ?_
  conv => whnf
  refine Br.mk (fun h => ?_) (fun h => ?_) <;> conv => whnf
  · simp at h
    exact ResOK.same (by rw [szR_lt (by omega)])
  · simp at h
    refine Pick.mk [0, 1, 5] trivial ?_
    conv => whnf
    refine LoopL.run (fun a : Nat × Int => St.mk [.one (.c (.slice 4 (xs.map Enc.enc))), .one (.c (.int .i64 a.2)), .one .dead, .one .dead, .one .dead, .one (.c (.int .i64 a.1)), .one .dead, .one .dead, .one .dead, .one .dead, .one .dead, .one .dead, .one .dead, .one .dead, .one .dead, .one .dead, .one .dead, .one .dead, .one .dead, .one .dead, .one .dead, .one .dead, .one .dead, .one .dead, .one .dead, .one .dead, .one .dead] [])
      (fun a => xs.length - a.1) (fun a => a.1 ≤ xs.length ∧ 0 ≤ a.2 ∧ a.2 = n - xs.length - wts xs a.1) ?_ (0, n - (xs.map (Enc.enc (α := Matrix))).length) ⟨by simp, by simp only []; omega, by rw [wts_zero]; simp⟩
    intro ⟨i, m⟩ ⟨h2, h3, h4⟩ ih
    simp only at h2 h3 h4
    conv => whnf
    refine Br.mk (fun h => ?_) (fun h => ?_) <;> conv => whnf
    · simp at h
      refine Pick.ix h ?_
      conv => whnf
      have hz := z_Matrix xs[i] m (o2 _ (List.getElem_mem h)) h3 (by omega)
      have hq := szR_or m (Enc.wt xs[i])
      generalize szR m (Enc.wt xs[i]) = q at hz hq
      refine Pick.mk _ hz ?_
      conv => whnf
      have e1 := wts_succ xs i h
      have e2 := wts_le xs (i + 1)
      refine Br.mk (fun h5 => ?_) (fun h5 => ?_) <;> conv => whnf
      · simp at h5
        exact ResOK.same (by rw [szR_lt (by omega)])
      · simp at h5
        refine Pick.at64 (z := (i + 1 : Nat)) (by simp) (by omega) ?_
        conv => whnf
        exact ih (i + 1, q) ⟨by simp; omega, by simp; omega, by simp; omega⟩ (by simp; omega)
    · simp at h
      have e1 := wts_all xs i (by omega)
      exact ResOK.same (by rw [szR_ge (by omega)]; congr <;> omega)

theorem c_MatrixS (xs : List Matrix) (hb : Enc.wt xs ≤ 1048576) : Sat Tryz.prog 84 [(false, Enc.enc xs)] (.one (.c (.slice 4 (xs.map Enc.enc))), []) := by
  have hl : (xs.map (Enc.enc (α := Matrix))).length = xs.length := by simp
  have hw := wt_list xs
  refine Sat.intro tok mixed Tryz.func84 rfl rfl ?_
  conv => whnf
  refine Side.mk (by omega) ?_
  conv => whnf
  refine Pick.mk [0, 3, 4] trivial ?_
  conv => whnf
  refine LoopL.run (fun i : Nat => St.mk [.one (.c (.slice 4 (xs.map Enc.enc))), .one .dead, .one .dead, .one (.rs 192), .one (.c (.int .i64 i)), .one .dead, .one .dead, .one .dead, .one .dead, .one .dead, .one .dead, .one .dead, .one .dead, .one .dead, .one .dead, .one .dead, .one .dead, .one .dead, .one .dead, .one .dead, .one .dead, .one .dead, .one .dead] [(192, .arr 4 (upTo [.int .i64 0, .int .i64 0, .int .i64 0, .slice 1 []] xs i))])
      (fun i => xs.length - i) (fun i => i ≤ xs.length) ?_ 0 (Nat.zero_le _) (by rw [upTo_zero, hl]; rfl)
  intro i h2 ih
  conv => whnf
  refine Br.mk (fun h => ?_) (fun h => ?_) <;> conv => whnf
  · simp at h
    refine Pick.ix h ?_
    conv => whnf
    refine Pick.mk _ (c_Matrix xs[i] (by have := wt_get xs i h; omega)) ?_
    conv => whnf
    refine Side.mk (by rw [upTo_length _ _ _ h2]; omega) ?_
    conv => whnf
    refine Pick.at64 (z := (i + 1 : Nat)) (by simp) (by omega) ?_
    conv => whnf
    refine cast (congrArg (fun r => LoopL _ _ _ ⟨_, [(_, .arr 4 r)]⟩) (upTo_set [.int .i64 0, .int .i64 0, .int .i64 0, .slice 1 []] xs i h).symm) (ih (i + 1) (by omega) (by omega))
  · simp at h
    have e := upTo_all [.int .i64 0, .int .i64 0, .int .i64 0, .slice 1 []] xs i (by omega)
    refine ResOK.frz ?_ rfl
    rw [e]
    rfl

theorem e_MatrixS (xs : List Matrix) (hb : Enc.wt xs ≤ 1099511627776) : Sat Tryz.prog 66 [(false, Enc.enc xs), (false, Enc.enc xs)] (.one (.c (.bool true)), []) := by
  have hl : (xs.map (Enc.enc (α := Matrix))).length = xs.length := by simp
  have hw := wt_list xs
  refine Sat.intro tok mixed Tryz.func66 rfl rfl ?_
  conv => whnf
  refine Br.mk (fun h => ?_) (fun h => ?_) <;> conv => whnf
  · simp at h
  refine Pick.mk [0, 1, 5] trivial ?_
  conv => whnf
  refine LoopL.run (fun i : Nat => St.mk [.one (.c (.slice 4 (xs.map Enc.enc))), .one (.c (.slice 4 (xs.map Enc.enc))), .one .dead, .one .dead, .one .dead, .one (.c (.int .i64 i)), .one .dead, .one .dead, .one .dead, .one .dead, .one .dead, .one .dead, .one .dead, .one .dead, .one .dead, .one .dead, .one .dead, .one .dead, .one .dead, .one .dead, .one .dead, .one .dead, .one .dead, .one .dead, .one .dead, .one .dead, .one .dead] []) (fun i => xs.length - i) (fun i => i ≤ xs.length) ?_ 0 (Nat.zero_le _)
  intro i h2 ih
  conv => whnf
  refine Br.mk (fun h => ?_) (fun h => ?_) <;> conv => whnf
  · simp at h
    refine Pick.draw rfl (by kernel_rfl) ?_
    conv => whnf
    refine Pick.ix h ?_
    conv => whnf
    refine Pick.ix h ?_
    conv => whnf
    refine Pick.mk _ (e_Matrix xs[i] (by have := wt_get xs i h; omega)) ?_
    conv => whnf
    refine Br.mk (fun h5 => ?_) (fun h5 => ?_) <;> conv => whnf
    · simp at h5
    · refine Pick.at64 (z := (i + 1 : Nat)) (by simp) (by omega) ?_
      conv => whnf
      exact ih (i + 1) (by omega) (by omega)
  · exact ResOK.same rfl

theorem z_Sheaf (x : Sheaf) (n : Int) (hx : Enc.ok x) (h0 : 0 ≤ n) (h1 : n ≤ 1048576) : Sat Tryz.prog 27 [(true, Enc.enc x), (false, [.int .i64 n])] (.one (.c (.int .i64 (szR n (Enc.wt x)))), []) := by
  obtain ⟨o0, o1, o2, o3⟩ := hx
  have hw : Enc.wt x = Enc.wt x.base + Enc.wt x.prime + Enc.wt x.stalks + Enc.wt x.maps := rfl
  have w_prime : Enc.wt x.prime = 0 := rfl
  refine Sat.intro tok mixed Tryz.func27 rfl rfl ?_
  conv => whnf
  have hz1 := z_Complex x.base n o0 (by omega) (by omega)
  have hq1 := szR_or n (Enc.wt x.base)
  generalize szR n (Enc.wt x.base) = q1 at hz1 hq1
  refine Pick.mk _ hz1 ?_
  conv => whnf
  refine Br.mk (fun h => ?_) (fun h => ?_) <;> conv => whnf
  · simp at h
    exact ResOK.same (by rw [szR_lt (by omega)])
  simp at h
  have hz2 := z_Int64S x.stalks q1 o2 (by omega) (by omega)
  have hq2 := szR_or q1 (Enc.wt x.stalks)
  generalize szR q1 (Enc.wt x.stalks) = q2 at hz2 hq2
  refine Pick.mk _ hz2 ?_
  conv => whnf
  refine Br.mk (fun h => ?_) (fun h => ?_) <;> conv => whnf
  · simp at h
    exact ResOK.same (by rw [szR_lt (by omega)])
  simp at h
  have hz3 := z_MatrixS x.maps q2 o3 (by omega) (by omega)
  have hq3 := szR_or q2 (Enc.wt x.maps)
  generalize szR q2 (Enc.wt x.maps) = q3 at hz3 hq3
  refine Pick.mk _ hz3 ?_
  conv => whnf
  refine Br.mk (fun h => ?_) (fun h => ?_) <;> conv => whnf
  · simp at h
    exact ResOK.same (by rw [szR_lt (by omega)])
  simp at h
  exact ResOK.same (by rw [szR_ge (by omega)]; congr <;> omega)

theorem c_Sheaf (x : Sheaf) (hb : Enc.wt x ≤ 1048576) : Sat Tryz.prog 29 [(true, Enc.enc x)] (.agg ((Enc.enc x).map .c), []) := by
  have hw : Enc.wt x = Enc.wt x.base + Enc.wt x.prime + Enc.wt x.stalks + Enc.wt x.maps := rfl
  refine Sat.intro tok mixed Tryz.func29 rfl rfl ?_
  conv => whnf
  refine Pick.mk _ (c_Complex x.base (by omega)) ?_
  conv => whnf
  refine Pick.mk _ (c_Int64S x.stalks (by omega)) ?_
  conv => whnf
  refine Pick.mk _ (c_MatrixS x.maps (by omega)) ?_
  conv => whnf
  exact ResOK.same rfl

theorem e_Sheaf (x : Sheaf) (hb : Enc.wt x ≤ 1099511627776) : Sat Tryz.prog 21 [(true, Enc.enc x), (true, Enc.enc x)] (.one (.c (.bool true)), []) := by
  have hw : Enc.wt x = Enc.wt x.base + Enc.wt x.prime + Enc.wt x.stalks + Enc.wt x.maps := rfl
  refine Sat.intro tok mixed Tryz.func21 rfl rfl ?_
  conv => whnf
  refine Pick.mk _ (e_Complex x.base (by omega)) ?_
  conv => whnf
  refine Br.no ?_
  conv => whnf
  refine Br.mk (fun h => ?_) (fun h => ?_) <;> conv => whnf
  · simp at h
  refine Pick.mk _ (e_Int64S x.stalks (by omega)) ?_
  conv => whnf
  refine Br.no ?_
  conv => whnf
  refine Pick.mk _ (e_MatrixS x.maps (by omega)) ?_
  conv => whnf
  refine Br.no ?_
  conv => whnf
  exact ResOK.same rfl

theorem z_NamedSheaf (x : NamedSheaf) (n : Int) (hx : Enc.ok x) (h0 : 0 ≤ n) (h1 : n ≤ 1048576) : Sat Tryz.prog 91 [(true, Enc.enc x), (false, [.int .i64 n])] (.one (.c (.int .i64 (szR n (Enc.wt x)))), []) := by
  obtain ⟨o0, o1⟩ := hx
  have hw : Enc.wt x = Enc.wt x.name + Enc.wt x.value := rfl
  have w_name : Enc.wt x.name = x.name.size := rfl
  have m_name : x.name.size ≤ maxLen := o0
  simp only [maxLen] at m_name
  refine Sat.intro tok mixed Tryz.func91 rfl rfl ?_
  conv => whnf
  obtain ⟨q1, hq1⟩ : ∃ q1 : Int, q1 = n - x.name.size := ⟨_, rfl⟩
  refine Pick.at64 (z := q1) hq1.symm (by omega) ?_
  conv => whnf
  refine Br.mk (fun h => ?_) (fun h => ?_) <;> conv => whnf
  · simp at h
    exact ResOK.same (by rw [szR_lt (by omega)])
  simp at h
  have hz2 := z_Sheaf x.value q1 o1 (by omega) (by omega)
  have hq2 := szR_or q1 (Enc.wt x.value)
  generalize szR q1 (Enc.wt x.value) = q2 at hz2 hq2
  refine Pick.mk _ hz2 ?_
  conv => whnf
  refine Br.mk (fun h => ?_) (fun h => ?_) <;> conv => whnf
  · simp at h
    exact ResOK.same (by rw [szR_lt (by omega)])
  simp at h
  exact ResOK.same (by rw [szR_ge (by omega)]; congr <;> omega)

theorem c_NamedSheaf (x : NamedSheaf) (hb : Enc.wt x ≤ 1048576) : Sat Tryz.prog 96 [(true, Enc.enc x)] (.agg ((Enc.enc x).map .c), []) := by
  have hw : Enc.wt x = Enc.wt x.name + Enc.wt x.value := rfl
  refine Sat.intro tok mixed Tryz.func96 rfl rfl ?_
  conv => whnf
  refine Pick.mk _ (c_Sheaf x.value (by omega)) ?_
  conv => whnf
  exact ResOK.same rfl

theorem e_NamedSheaf (x : NamedSheaf) (hb : Enc.wt x ≤ 1099511627776) : Sat Tryz.prog 111 [(true, Enc.enc x), (true, Enc.enc x)] (.one (.c (.bool true)), []) := by
  have hw : Enc.wt x = Enc.wt x.name + Enc.wt x.value := rfl
  refine Sat.intro tok mixed Tryz.func111 rfl rfl ?_
  conv => whnf
  refine Br.mk (fun h => ?_) (fun h => ?_) <;> conv => whnf
  · simp at h
  refine Pick.mk _ (e_Sheaf x.value (by omega)) ?_
  conv => whnf
  refine Br.no ?_
  conv => whnf
  exact ResOK.same rfl

theorem z_NamedSheafS (xs : List NamedSheaf) (n : Int) (hx : Enc.ok xs) (h0 : 0 ≤ n) (h1 : n ≤ 1048576) : Sat Tryz.prog 36 [(false, Enc.enc xs), (false, [.int .i64 n])] (.one (.c (.int .i64 (szR n (Enc.wt xs)))), []) := by
  obtain ⟨o1, o2⟩ := hx
  simp only [maxLen] at o1
  have hl : (xs.map (Enc.enc (α := NamedSheaf))).length = xs.length := by simp
  have hw := wt_list xs
  refine Sat.intro tok mixed Tryz.func36 rfl rfl ?_
  conv => whnf
  refine Pick.w64 (by omega) ?_
  conv => whnf
  refine Br.mk (fun h => ?_) (fun h => ?_) <;> conv => whnf
  · simp at h
    exact ResOK.same (by rw [szR_lt (by omega)])
  · simp at h
    refine Pick.mk [0, 1, 5] trivial ?_
    conv => whnf
    refine LoopL.run (fun a : Nat × Int => St.mk [.one (.c (.slice 5 (xs.map Enc.enc))), .one (.c (.int .i64 a.2)), .one .dead, .one .dead, .one .dead, .one (.c (.int .i64 a.1)), .one .dead, .one .dead, .one .dead, .one .dead, .one .dead, .one .dead, .one .dead, .one .dead, .one .dead, .one .dead, .one .dead, .one .dead, .one .dead, .one .dead, .one .dead, .one .dead, .one .dead, .one .dead, .one .dead, .one .dead, .one .dead] [])
      (fun a => xs.length - a.1) (fun a => a.1 ≤ xs.length ∧ 0 ≤ a.2 ∧ a.2 = n - xs.length - wts xs a.1) ?_ (0, n - (xs.map (Enc.enc (α := NamedSheaf))).length) ⟨by simp, by simp only []; omega, by rw [wts_zero]; simp⟩
    intro ⟨i, m⟩ ⟨h2, h3, h4⟩ ih
    simp only at h2 h3 h4
    conv => whnf
    refine Br.mk (fun h => ?_) (fun h => ?_) <;> conv => whnf
    · simp at h
      refine Pick.ix h ?_
      conv => whnf
      have hz := z_NamedSheaf xs[i] m (o2 _ (List.getElem_mem h)) h3 (by omega)
      have hq := szR_or m (Enc.wt xs[i])
      generalize szR m (Enc.wt xs[i]) = q at hz hq
      refine Pick.mk _ hz ?_
      conv => whnf
      have e1 := wts_succ xs i h
      have e2 := wts_le xs (i + 1)
      refine Br.mk (fun h5 => ?_) (fun h5 => ?_) <;> conv => whnf
      · simp at h5
        exact ResOK.same (by rw [szR_lt (by omega)])
      · simp at h5
        refine Pick.at64 (z := (i + 1 : Nat)) (by simp) (by omega) ?_
        conv => whnf
        exact ih (i + 1, q) ⟨by simp; omega, by simp; omega, by simp; omega⟩ (by simp; omega)
    · simp at h
      have e1 := wts_all xs i (by omega)
      exact ResOK.same (by rw [szR_ge (by omega)]; congr <;> omega)

theorem c_NamedSheafS (xs : List NamedSheaf) (hb : Enc.wt xs ≤ 1048576) : Sat Tryz.prog 39 [(false, Enc.enc xs)] (.one (.c (.slice 5 (xs.map Enc.enc))), []) := by
  have hl : (xs.map (Enc.enc (α := NamedSheaf))).length = xs.length := by simp
  have hw := wt_list xs
  refine Sat.intro tok mixed Tryz.func39 rfl rfl ?_
  conv => whnf
  refine Side.mk (by omega) ?_
  conv => whnf
  refine Pick.mk [0, 3, 4] trivial ?_
  conv => whnf
  refine LoopL.run (fun i : Nat => St.mk [.one (.c (.slice 5 (xs.map Enc.enc))), .one .dead, .one .dead, .one (.rs 192), .one (.c (.int .i64 i)), .one .dead, .one .dead, .one .dead, .one .dead, .one .dead, .one .dead, .one .dead, .one .dead, .one .dead, .one .dead, .one .dead, .one .dead, .one .dead, .one .dead, .one .dead, .one .dead, .one .dead, .one .dead] [(192, .arr 5 (upTo [.str ⟨#[]⟩, .slice 1 [], .int .i64 0, .slice 1 [], .slice 4 []] xs i))])
      (fun i => xs.length - i) (fun i => i ≤ xs.length) ?_ 0 (Nat.zero_le _) (by rw [upTo_zero, hl]; rfl)
  intro i h2 ih
  conv => whnf
  refine Br.mk (fun h => ?_) (fun h => ?_) <;> conv => whnf
  · simp at h
    refine Pick.ix h ?_
    conv => whnf
    refine Pick.mk _ (c_NamedSheaf xs[i] (by have := wt_get xs i h; omega)) ?_
    conv => whnf
    refine Side.mk (by rw [upTo_length _ _ _ h2]; omega) ?_
    conv => whnf
    refine Pick.at64 (z := (i + 1 : Nat)) (by simp) (by omega) ?_
    conv => whnf
    refine cast (congrArg (fun r => LoopL _ _ _ ⟨_, [(_, .arr 5 r)]⟩) (upTo_set [.str ⟨#[]⟩, .slice 1 [], .int .i64 0, .slice 1 [], .slice 4 []] xs i h).symm) (ih (i + 1) (by omega) (by omega))
  · simp at h
    have e := upTo_all [.str ⟨#[]⟩, .slice 1 [], .int .i64 0, .slice 1 [], .slice 4 []] xs i (by omega)
    refine ResOK.frz ?_ rfl
    rw [e]
    rfl

theorem e_NamedSheafS (xs : List NamedSheaf) (hb : Enc.wt xs ≤ 1099511627776) : Sat Tryz.prog 52 [(false, Enc.enc xs), (false, Enc.enc xs)] (.one (.c (.bool true)), []) := by
  have hl : (xs.map (Enc.enc (α := NamedSheaf))).length = xs.length := by simp
  have hw := wt_list xs
  refine Sat.intro tok mixed Tryz.func52 rfl rfl ?_
  conv => whnf
  refine Br.mk (fun h => ?_) (fun h => ?_) <;> conv => whnf
  · simp at h
  refine Pick.mk [0, 1, 5] trivial ?_
  conv => whnf
  refine LoopL.run (fun i : Nat => St.mk [.one (.c (.slice 5 (xs.map Enc.enc))), .one (.c (.slice 5 (xs.map Enc.enc))), .one .dead, .one .dead, .one .dead, .one (.c (.int .i64 i)), .one .dead, .one .dead, .one .dead, .one .dead, .one .dead, .one .dead, .one .dead, .one .dead, .one .dead, .one .dead, .one .dead, .one .dead, .one .dead, .one .dead, .one .dead, .one .dead, .one .dead, .one .dead, .one .dead, .one .dead, .one .dead] []) (fun i => xs.length - i) (fun i => i ≤ xs.length) ?_ 0 (Nat.zero_le _)
  intro i h2 ih
  conv => whnf
  refine Br.mk (fun h => ?_) (fun h => ?_) <;> conv => whnf
  · simp at h
    refine Pick.draw rfl (by kernel_rfl) ?_
    conv => whnf
    refine Pick.ix h ?_
    conv => whnf
    refine Pick.ix h ?_
    conv => whnf
    refine Pick.mk _ (e_NamedSheaf xs[i] (by have := wt_get xs i h; omega)) ?_
    conv => whnf
    refine Br.mk (fun h5 => ?_) (fun h5 => ?_) <;> conv => whnf
    · simp at h5
    · refine Pick.at64 (z := (i + 1 : Nat)) (by simp) (by omega) ?_
      conv => whnf
      exact ih (i + 1) (by omega) (by omega)
  · exact ResOK.same rfl

theorem z_World (x : World) (n : Int) (hx : Enc.ok x) (h0 : 0 ≤ n) (h1 : n ≤ 1048576) : Sat Tryz.prog 8 [(true, Enc.enc x), (false, [.int .i64 n])] (.one (.c (.int .i64 (szR n (Enc.wt x)))), []) := by
  obtain ⟨o0, o1⟩ := hx
  have hw : Enc.wt x = Enc.wt x.complexes + Enc.wt x.sheaves := rfl
  refine Sat.intro tok mixed Tryz.func8 rfl rfl ?_
  conv => whnf
  have hz1 := z_NamedComplexS x.complexes n o0 (by omega) (by omega)
  have hq1 := szR_or n (Enc.wt x.complexes)
  generalize szR n (Enc.wt x.complexes) = q1 at hz1 hq1
  refine Pick.mk _ hz1 ?_
  conv => whnf
  refine Br.mk (fun h => ?_) (fun h => ?_) <;> conv => whnf
  · simp at h
    exact ResOK.same (by rw [szR_lt (by omega)])
  simp at h
  have hz2 := z_NamedSheafS x.sheaves q1 o1 (by omega) (by omega)
  have hq2 := szR_or q1 (Enc.wt x.sheaves)
  generalize szR q1 (Enc.wt x.sheaves) = q2 at hz2 hq2
  refine Pick.mk _ hz2 ?_
  conv => whnf
  refine Br.mk (fun h => ?_) (fun h => ?_) <;> conv => whnf
  · simp at h
    exact ResOK.same (by rw [szR_lt (by omega)])
  simp at h
  exact ResOK.same (by rw [szR_ge (by omega)]; congr <;> omega)

theorem c_World (x : World) (hb : Enc.wt x ≤ 1048576) : Sat Tryz.prog 10 [(true, Enc.enc x)] (.agg ((Enc.enc x).map .c), []) := by
  have hw : Enc.wt x = Enc.wt x.complexes + Enc.wt x.sheaves := rfl
  refine Sat.intro tok mixed Tryz.func10 rfl rfl ?_
  conv => whnf
  refine Pick.mk _ (c_NamedComplexS x.complexes (by omega)) ?_
  conv => whnf
  refine Pick.mk _ (c_NamedSheafS x.sheaves (by omega)) ?_
  conv => whnf
  exact ResOK.same rfl

theorem e_World (x : World) (hb : Enc.wt x ≤ 1099511627776) : Sat Tryz.prog 12 [(true, Enc.enc x), (true, Enc.enc x)] (.one (.c (.bool true)), []) := by
  have hw : Enc.wt x = Enc.wt x.complexes + Enc.wt x.sheaves := rfl
  refine Sat.intro tok mixed Tryz.func12 rfl rfl ?_
  conv => whnf
  refine Pick.mk _ (e_NamedComplexS x.complexes (by omega)) ?_
  conv => whnf
  refine Br.no ?_
  conv => whnf
  refine Pick.mk _ (e_NamedSheafS x.sheaves (by omega)) ?_
  conv => whnf
  refine Br.no ?_
  conv => whnf
  exact ResOK.same rfl


end Go.Proofs.YtlnjgoeicanehaaGreat.Pi
