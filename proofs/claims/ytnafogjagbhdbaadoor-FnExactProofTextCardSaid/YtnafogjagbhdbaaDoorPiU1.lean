/- Sizes, copies and comparisons, as the laws make them, of SettingS, ItemS, VersionS, Proof. No statement of the seat is proved here. -/
import Derived.Test.YtnafogjagbhdbaaDoorPiEnc
namespace Go.Proofs.YtnafogjagbhdbaaDoor.Pi
open Go
set_option maxRecDepth 10000
set_option linter.unusedVariables false

theorem z_Int64S (xs : List Int) (n : Int) (hx : Enc.ok xs) (h0 : 0 ≤ n) (h1 : n ≤ 1048576) : Sat Tryd.prog 22 [(false, Enc.enc xs), (false, [.int .i64 n])] (.one (.c (.int .i64 (szR n (Enc.wt xs)))), []) := by
  obtain ⟨o1, o2⟩ := hx
  simp only [maxLen] at o1
  have hl : (xs.map (Enc.enc (α := Int))).length = xs.length := by simp
  have hw := wt_list xs
  refine Sat.intro tok mixed Tryd.func22 rfl rfl ?_
  conv => whnf
  refine Pick.w64 (by omega) ?_
  conv => whnf
  refine Br.mk (fun h => ?_) (fun h => ?_) <;> conv => whnf
  · simp at h
    exact ResOK.same (by rw [szR_lt (by omega)])
  · simp at h
    have hs : (xs.map Enc.wt).sum = 0 := wt_ints xs
    exact ResOK.same (by rw [szR_ge (by omega)]; congr 3; simp; omega)

theorem c_Int64S (xs : List Int) (hb : Enc.wt xs ≤ 1048576) : Sat Tryd.prog 28 [(false, Enc.enc xs)] (.one (.c (.slice 1 (xs.map Enc.enc))), []) := by
  have hl : (xs.map (Enc.enc (α := Int))).length = xs.length := by simp
  have hw := wt_list xs
  refine Sat.intro tok mixed Tryd.func28 rfl rfl ?_
  conv => whnf
  refine Side.mk (by omega) ?_
  conv => whnf
  refine Pick.mk [0, 3, 4] trivial ?_
  conv => whnf
  refine LoopL.run (fun i : Nat => St.mk [.one (.c (.slice 1 (xs.map Enc.enc))), .one .dead, .one .dead, .one (.rs 192), .one (.c (.int .i64 i)), .one .dead, .one .dead, .one .dead, .one .dead, .one .dead, .one .dead, .one .dead, .one .dead, .one .dead, .one .dead, .one .dead, .one .dead, .one .dead, .one .dead, .one .dead, .one .dead, .one .dead] [(192, .arr 1 (upTo [.int .i64 0] xs i))])
      (fun i => xs.length - i) (fun i => i ≤ xs.length) ?_ 0 (Nat.zero_le _) (by rw [upTo_zero, hl]; rfl)
  intro i h2 ih
  conv => whnf
  refine Br.mk (fun h => ?_) (fun h => ?_) <;> conv => whnf
  · simp at h
    refine Pick.ix h ?_
    conv => whnf
    refine Side.mk (by rw [upTo_length _ _ _ h2]; omega) ?_
    conv => whnf
    refine Pick.at64 (z := (i + 1 : Nat)) (by simp) (by omega) ?_
    conv => whnf
    refine cast (congrArg (fun r => LoopL _ _ _ ⟨_, [(_, .arr 1 r)]⟩) (upTo_set [.int .i64 0] xs i h).symm) (ih (i + 1) (by omega) (by omega))
  · simp at h
    have e := upTo_all [.int .i64 0] xs i (by omega)
    refine ResOK.frz ?_ rfl
    rw [e]
    rfl

theorem e_Int64S (xs : List Int) (hb : Enc.wt xs ≤ 1099511627776) : Sat Tryd.prog 42 [(false, Enc.enc xs), (false, Enc.enc xs)] (.one (.c (.bool true)), []) := by
  have hl : (xs.map (Enc.enc (α := Int))).length = xs.length := by simp
  have hw := wt_list xs
  refine Sat.intro tok mixed Tryd.func42 rfl rfl ?_
  conv => whnf
  refine Br.mk (fun h => ?_) (fun h => ?_) <;> conv => whnf
  · simp at h
  refine Pick.mk [0, 1, 5] trivial ?_
  conv => whnf
  refine LoopL.run (fun i : Nat => St.mk [.one (.c (.slice 1 (xs.map Enc.enc))), .one (.c (.slice 1 (xs.map Enc.enc))), .one .dead, .one .dead, .one .dead, .one (.c (.int .i64 i)), .one .dead, .one .dead, .one .dead, .one .dead, .one .dead, .one .dead, .one .dead, .one .dead, .one .dead, .one .dead, .one .dead, .one .dead, .one .dead, .one .dead, .one .dead, .one .dead, .one .dead, .one .dead, .one .dead, .one .dead] []) (fun i => xs.length - i) (fun i => i ≤ xs.length) ?_ 0 (Nat.zero_le _)
  intro i h2 ih
  conv => whnf
  refine Br.mk (fun h => ?_) (fun h => ?_) <;> conv => whnf
  · simp at h
    refine Pick.draw rfl (by kernel_rfl) ?_
    conv => whnf
    refine Pick.ix h ?_
    conv => whnf
    refine Pick.ix h ?_
    conv => whnf
    refine Br.mk (fun h5 => ?_) (fun h5 => ?_) <;> conv => whnf
    · simp at h5
    · refine Pick.at64 (z := (i + 1 : Nat)) (by simp) (by omega) ?_
      conv => whnf
      exact ih (i + 1) (by omega) (by omega)
  · exact ResOK.same rfl

theorem z_Matrix (x : Matrix) (n : Int) (hx : Enc.ok x) (h0 : 0 ≤ n) (h1 : n ≤ 1048576) : Sat Tryd.prog 9 [(true, Enc.enc x), (false, [.int .i64 n])] (.one (.c (.int .i64 (szR n (Enc.wt x)))), []) := by
  obtain ⟨o0, o1, o2, o3⟩ := hx
  have hw : Enc.wt x = Enc.wt x.prime + Enc.wt x.rows + Enc.wt x.columns + Enc.wt x.cells := rfl
  have w_prime : Enc.wt x.prime = 0 := rfl
  have w_rows : Enc.wt x.rows = 0 := rfl
  have w_columns : Enc.wt x.columns = 0 := rfl
  refine Sat.intro tok mixed Tryd.func9 rfl rfl ?_
  conv => whnf
  have hz1 := z_Int64S x.cells n o3 (by omega) (by omega)
  have hq1 := szR_or n (Enc.wt x.cells)
  generalize szR n (Enc.wt x.cells) = q1 at hz1 hq1
  refine Pick.mk _ hz1 ?_
  conv => whnf
  refine Br.mk (fun h => ?_) (fun h => ?_) <;> conv => whnf
  · simp at h
    exact ResOK.same (by rw [szR_lt (by omega)])
  simp at h
  exact ResOK.same (by rw [szR_ge (by omega)]; congr <;> omega)

theorem c_Matrix (x : Matrix) (hb : Enc.wt x ≤ 1048576) : Sat Tryd.prog 13 [(true, Enc.enc x)] (.agg ((Enc.enc x).map .c), []) := by
  have hw : Enc.wt x = Enc.wt x.prime + Enc.wt x.rows + Enc.wt x.columns + Enc.wt x.cells := rfl
  refine Sat.intro tok mixed Tryd.func13 rfl rfl ?_
  conv => whnf
  refine Pick.mk _ (c_Int64S x.cells (by omega)) ?_
  conv => whnf
  exact ResOK.same rfl

theorem e_Matrix (x : Matrix) (hb : Enc.wt x ≤ 1099511627776) : Sat Tryd.prog 20 [(true, Enc.enc x), (true, Enc.enc x)] (.one (.c (.bool true)), []) := by
  have hw : Enc.wt x = Enc.wt x.prime + Enc.wt x.rows + Enc.wt x.columns + Enc.wt x.cells := rfl
  refine Sat.intro tok mixed Tryd.func20 rfl rfl ?_
  conv => whnf
  refine Br.mk (fun h => ?_) (fun h => ?_) <;> conv => whnf
  · simp at h
  refine Br.mk (fun h => ?_) (fun h => ?_) <;> conv => whnf
  · simp at h
  refine Br.mk (fun h => ?_) (fun h => ?_) <;> conv => whnf
  · simp at h
  refine Pick.mk _ (e_Int64S x.cells (by omega)) ?_
  conv => whnf
  refine Br.no ?_
  conv => whnf
  exact ResOK.same rfl

theorem z_Int64SS (xs : List (List Int)) (n : Int) (hx : Enc.ok xs) (h0 : 0 ≤ n) (h1 : n ≤ 1048576) : Sat Tryd.prog 10 [(false, Enc.enc xs), (false, [.int .i64 n])] (.one (.c (.int .i64 (szR n (Enc.wt xs)))), []) := by
  obtain ⟨o1, o2⟩ := hx
  simp only [maxLen] at o1
  have hl : (xs.map (Enc.enc (α := List Int))).length = xs.length := by simp
  have hw := wt_list xs
  refine Sat.intro tok mixed Tryd.func10 rfl rfl ?_
  conv => whnf
  refine Pick.w64 (by omega) ?_
  conv => whnf
  refine Br.mk (fun h => ?_) (fun h => ?_) <;> conv => whnf
  · simp at h
    exact ResOK.same (by rw [szR_lt (by omega)])
  · simp at h
    refine Pick.mk [0, 1, 5] trivial ?_
    conv => whnf
    refine LoopL.run (fun a : Nat × Int => St.mk [.one (.c (.slice 1 (xs.map Enc.enc))), .one (.c (.int .i64 a.2)), .one .dead, .one .dead, .one .dead, .one (.c (.int .i64 a.1)), .one .dead, .one .dead, .one .dead, .one .dead, .one .dead, .one .dead, .one .dead, .one .dead, .one .dead, .one .dead, .one .dead, .one .dead, .one .dead, .one .dead, .one .dead, .one .dead, .one .dead, .one .dead, .one .dead, .one .dead, .one .dead] [])
      (fun a => xs.length - a.1) (fun a => a.1 ≤ xs.length ∧ 0 ≤ a.2 ∧ a.2 = n - xs.length - wts xs a.1) ?_ (0, n - (xs.map (Enc.enc (α := List Int))).length) ⟨by simp, by simp only []; omega, by rw [wts_zero]; simp⟩
    intro ⟨i, m⟩ ⟨h2, h3, h4⟩ ih
    simp only at h2 h3 h4
    conv => whnf
    refine Br.mk (fun h => ?_) (fun h => ?_) <;> conv => whnf
    · simp at h
      refine Pick.ix h ?_
      conv => whnf
      have hz := z_Int64S xs[i] m (o2 _ (List.getElem_mem h)) h3 (by omega)
      have hq := szR_or m (Enc.wt xs[i])
      generalize szR m (Enc.wt xs[i]) = q at hz hq
      refine Pick.mk _ hz ?_
      conv => whnf
      have e1 := wts_succ xs i h
      have e2 := wts_le xs (i + 1)
      refine Br.mk (fun h5 => ?_) (fun h5 => ?_) <;> conv => whnf
      · simp at h5
        exact ResOK.same (by rw [szR_lt (by omega)])
      · simp at h5
        refine Pick.at64 (z := (i + 1 : Nat)) (by simp) (by omega) ?_
        conv => whnf
        exact ih (i + 1, q) ⟨by simp; omega, by simp; omega, by simp; omega⟩ (by simp; omega)
    · simp at h
      have e1 := wts_all xs i (by omega)
      exact ResOK.same (by rw [szR_ge (by omega)]; congr <;> omega)

theorem c_Int64SS (xs : List (List Int)) (hb : Enc.wt xs ≤ 1048576) : Sat Tryd.prog 14 [(false, Enc.enc xs)] (.one (.c (.slice 1 (xs.map Enc.enc))), []) := by
  have hl : (xs.map (Enc.enc (α := List Int))).length = xs.length := by simp
  have hw := wt_list xs
  refine Sat.intro tok mixed Tryd.func14 rfl rfl ?_
  conv => whnf
  refine Side.mk (by omega) ?_
  conv => whnf
  refine Pick.mk [0, 3, 4] trivial ?_
  conv => whnf
  refine LoopL.run (fun i : Nat => St.mk [.one (.c (.slice 1 (xs.map Enc.enc))), .one .dead, .one .dead, .one (.rs 192), .one (.c (.int .i64 i)), .one .dead, .one .dead, .one .dead, .one .dead, .one .dead, .one .dead, .one .dead, .one .dead, .one .dead, .one .dead, .one .dead, .one .dead, .one .dead, .one .dead, .one .dead, .one .dead, .one .dead, .one .dead] [(192, .arr 1 (upTo [.slice 1 []] xs i))])
      (fun i => xs.length - i) (fun i => i ≤ xs.length) ?_ 0 (Nat.zero_le _) (by rw [upTo_zero, hl]; rfl)
  intro i h2 ih
  conv => whnf
  refine Br.mk (fun h => ?_) (fun h => ?_) <;> conv => whnf
  · simp at h
    refine Pick.ix h ?_
    conv => whnf
    refine Pick.mk _ (c_Int64S xs[i] (by have := wt_get xs i h; omega)) ?_
    conv => whnf
    refine Side.mk (by rw [upTo_length _ _ _ h2]; omega) ?_
    conv => whnf
    refine Pick.at64 (z := (i + 1 : Nat)) (by simp) (by omega) ?_
    conv => whnf
    refine cast (congrArg (fun r => LoopL _ _ _ ⟨_, [(_, .arr 1 r)]⟩) (upTo_set [.slice 1 []] xs i h).symm) (ih (i + 1) (by omega) (by omega))
  · simp at h
    have e := upTo_all [.slice 1 []] xs i (by omega)
    refine ResOK.frz ?_ rfl
    rw [e]
    rfl

theorem e_Int64SS (xs : List (List Int)) (hb : Enc.wt xs ≤ 1099511627776) : Sat Tryd.prog 21 [(false, Enc.enc xs), (false, Enc.enc xs)] (.one (.c (.bool true)), []) := by
  have hl : (xs.map (Enc.enc (α := List Int))).length = xs.length := by simp
  have hw := wt_list xs
  refine Sat.intro tok mixed Tryd.func21 rfl rfl ?_
  conv => whnf
  refine Br.mk (fun h => ?_) (fun h => ?_) <;> conv => whnf
  · simp at h
  refine Pick.mk [0, 1, 5] trivial ?_
  conv => whnf
  refine LoopL.run (fun i : Nat => St.mk [.one (.c (.slice 1 (xs.map Enc.enc))), .one (.c (.slice 1 (xs.map Enc.enc))), .one .dead, .one .dead, .one .dead, .one (.c (.int .i64 i)), .one .dead, .one .dead, .one .dead, .one .dead, .one .dead, .one .dead, .one .dead, .one .dead, .one .dead, .one .dead, .one .dead, .one .dead, .one .dead, .one .dead, .one .dead, .one .dead, .one .dead, .one .dead, .one .dead, .one .dead, .one .dead] []) (fun i => xs.length - i) (fun i => i ≤ xs.length) ?_ 0 (Nat.zero_le _)
  intro i h2 ih
  conv => whnf
  refine Br.mk (fun h => ?_) (fun h => ?_) <;> conv => whnf
  · simp at h
    refine Pick.draw rfl (by kernel_rfl) ?_
    conv => whnf
    refine Pick.ix h ?_
    conv => whnf
    refine Pick.ix h ?_
    conv => whnf
    refine Pick.mk _ (e_Int64S xs[i] (by have := wt_get xs i h; omega)) ?_
    conv => whnf
    refine Br.mk (fun h5 => ?_) (fun h5 => ?_) <;> conv => whnf
    · simp at h5
    · refine Pick.at64 (z := (i + 1 : Nat)) (by simp) (by omega) ?_
      conv => whnf
      exact ih (i + 1) (by omega) (by omega)
  · exact ResOK.same rfl

theorem z_Proof (x : Proof) (n : Int) (hx : Enc.ok x) (h0 : 0 ≤ n) (h1 : n ≤ 1048576) : Sat Tryd.prog 4 [(true, Enc.enc x), (false, [.int .i64 n])] (.one (.c (.int .i64 (szR n (Enc.wt x)))), []) := by
  obtain ⟨o0, o1, o2⟩ := hx
  have hw : Enc.wt x = Enc.wt x.kind + Enc.wt x.claim + Enc.wt x.vectors := rfl
  have w_kind : Enc.wt x.kind = 0 := rfl
  refine Sat.intro tok mixed Tryd.func4 rfl rfl ?_
  conv => whnf
  have hz1 := z_Matrix x.claim n o1 (by omega) (by omega)
  have hq1 := szR_or n (Enc.wt x.claim)
  generalize szR n (Enc.wt x.claim) = q1 at hz1 hq1
  refine Pick.mk _ hz1 ?_
  conv => whnf
  refine Br.mk (fun h => ?_) (fun h => ?_) <;> conv => whnf
  · simp at h
    exact ResOK.same (by rw [szR_lt (by omega)])
  simp at h
  have hz2 := z_Int64SS x.vectors q1 o2 (by omega) (by omega)
  have hq2 := szR_or q1 (Enc.wt x.vectors)
  generalize szR q1 (Enc.wt x.vectors) = q2 at hz2 hq2
  refine Pick.mk _ hz2 ?_
  conv => whnf
  refine Br.mk (fun h => ?_) (fun h => ?_) <;> conv => whnf
  · simp at h
    exact ResOK.same (by rw [szR_lt (by omega)])
  simp at h
  exact ResOK.same (by rw [szR_ge (by omega)]; congr <;> omega)

theorem c_Proof (x : Proof) (hb : Enc.wt x ≤ 1048576) : Sat Tryd.prog 6 [(true, Enc.enc x)] (.agg ((Enc.enc x).map .c), []) := by
  have hw : Enc.wt x = Enc.wt x.kind + Enc.wt x.claim + Enc.wt x.vectors := rfl
  refine Sat.intro tok mixed Tryd.func6 rfl rfl ?_
  conv => whnf
  refine Pick.mk _ (c_Matrix x.claim (by omega)) ?_
  conv => whnf
  refine Pick.mk _ (c_Int64SS x.vectors (by omega)) ?_
  conv => whnf
  exact ResOK.same rfl

theorem e_Proof (x : Proof) (hb : Enc.wt x ≤ 1099511627776) : Sat Tryd.prog 8 [(true, Enc.enc x), (true, Enc.enc x)] (.one (.c (.bool true)), []) := by
  have hw : Enc.wt x = Enc.wt x.kind + Enc.wt x.claim + Enc.wt x.vectors := rfl
  refine Sat.intro tok mixed Tryd.func8 rfl rfl ?_
  conv => whnf
  refine Br.mk (fun h => ?_) (fun h => ?_) <;> conv => whnf
  · simp at h
  refine Pick.mk _ (e_Matrix x.claim (by omega)) ?_
  conv => whnf
  refine Br.no ?_
  conv => whnf
  refine Pick.mk _ (e_Int64SS x.vectors (by omega)) ?_
  conv => whnf
  refine Br.no ?_
  conv => whnf
  exact ResOK.same rfl

end Go.Proofs.YtnafogjagbhdbaaDoor.Pi
