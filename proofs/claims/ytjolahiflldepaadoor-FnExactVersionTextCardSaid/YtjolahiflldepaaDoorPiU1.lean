/- Sizes, copies and comparisons, as the laws make them, of SettingS, ItemS, VersionS, Proof. No statement of the seat is proved here. -/
import Derived.Test.YtjolahiflldepaaDoorPiEnc
namespace Go.Proofs.YtjolahiflldepaaDoor.Pi
open Go
set_option maxRecDepth 10000
set_option linter.unusedVariables false

theorem z_Setting (x : Setting) (n : Int) (hx : Enc.ok x) (h0 : 0 ≤ n) (h1 : n ≤ 1048576) : Sat Tryd.prog 53 [(true, Enc.enc x), (false, [.int .i64 n])] (.one (.c (.int .i64 (szR n (Enc.wt x)))), []) := by
  obtain ⟨o0, o1⟩ := hx
  have hw : Enc.wt x = Enc.wt x.name + Enc.wt x.value := rfl
  have w_name : Enc.wt x.name = x.name.size := rfl
  have w_value : Enc.wt x.value = 0 := rfl
  have m_name : x.name.size ≤ maxLen := o0
  simp only [maxLen] at m_name
  refine Sat.intro tok mixed Tryd.func53 rfl rfl ?_
  conv => whnf
  obtain ⟨q1, hq1⟩ : ∃ q1 : Int, q1 = n - x.name.size := ⟨_, rfl⟩
  refine Pick.at64 (z := q1) hq1.symm (by omega) ?_
  conv => whnf
  refine Br.mk (fun h => ?_) (fun h => ?_) <;> conv => whnf
  · simp at h
    exact ResOK.same (by rw [szR_lt (by omega)])
  simp at h
  exact ResOK.same (by rw [szR_ge (by omega)]; congr <;> omega)

theorem c_Setting (x : Setting) (hb : Enc.wt x ≤ 1048576) : Sat Tryd.prog 55 [(true, Enc.enc x)] (.agg ((Enc.enc x).map .c), []) := by
  have hw : Enc.wt x = Enc.wt x.name + Enc.wt x.value := rfl
  refine Sat.intro tok mixed Tryd.func55 rfl rfl ?_
  conv => whnf
  exact ResOK.same rfl

theorem e_Setting (x : Setting) (hb : Enc.wt x ≤ 1099511627776) : Sat Tryd.prog 61 [(true, Enc.enc x), (true, Enc.enc x)] (.one (.c (.bool true)), []) := by
  have hw : Enc.wt x = Enc.wt x.name + Enc.wt x.value := rfl
  refine Sat.intro tok mixed Tryd.func61 rfl rfl ?_
  conv => whnf
  refine Br.mk (fun h => ?_) (fun h => ?_) <;> conv => whnf
  · simp at h
  refine Br.mk (fun h => ?_) (fun h => ?_) <;> conv => whnf
  · simp at h
  exact ResOK.same rfl

theorem z_SettingS (xs : List Setting) (n : Int) (hx : Enc.ok xs) (h0 : 0 ≤ n) (h1 : n ≤ 1048576) : Sat Tryd.prog 23 [(false, Enc.enc xs), (false, [.int .i64 n])] (.one (.c (.int .i64 (szR n (Enc.wt xs)))), []) := by
  obtain ⟨o1, o2⟩ := hx
  simp only [maxLen] at o1
  have hl : (xs.map (Enc.enc (α := Setting))).length = xs.length := by simp
  have hw := wt_list xs
  refine Sat.intro tok mixed Tryd.func23 rfl rfl ?_
  conv => whnf
  refine Pick.w64 (by omega) ?_
  conv => whnf
  refine Br.mk (fun h => ?_) (fun h => ?_) <;> conv => whnf
  · simp at h
    exact ResOK.same (by rw [szR_lt (by omega)])
  · simp at h
    refine Pick.mk [0, 1, 5] trivial ?_
    conv => whnf
    refine LoopL.run (fun a : Nat × Int => St.mk [.one (.c (.slice 2 (xs.map Enc.enc))), .one (.c (.int .i64 a.2)), .one .dead, .one .dead, .one .dead, .one (.c (.int .i64 a.1)), .one .dead, .one .dead, .one .dead, .one .dead, .one .dead, .one .dead, .one .dead, .one .dead, .one .dead, .one .dead, .one .dead, .one .dead, .one .dead, .one .dead, .one .dead, .one .dead, .one .dead, .one .dead, .one .dead, .one .dead, .one .dead] [])
      (fun a => xs.length - a.1) (fun a => a.1 ≤ xs.length ∧ 0 ≤ a.2 ∧ a.2 = n - xs.length - wts xs a.1) ?_ (0, n - (xs.map (Enc.enc (α := Setting))).length) ⟨by simp, by simp only []; omega, by rw [wts_zero]; simp⟩
    intro ⟨i, m⟩ ⟨h2, h3, h4⟩ ih
    simp only at h2 h3 h4
    conv => whnf
    refine Br.mk (fun h => ?_) (fun h => ?_) <;> conv => whnf
    · simp at h
      refine Pick.ix h ?_
      conv => whnf
      have hz := z_Setting xs[i] m (o2 _ (List.getElem_mem h)) h3 (by omega)
      have hq := szR_or m (Enc.wt xs[i])
      generalize szR m (Enc.wt xs[i]) = q at hz hq
      refine Pick.mk _ hz ?_
      conv => whnf
      have e1 := wts_succ xs i h
      have e2 := wts_le xs (i + 1)
      refine Br.mk (fun h5 => ?_) (fun h5 => ?_) <;> conv => whnf
      · simp at h5
        exact ResOK.same (by rw [szR_lt (by omega)])
      · simp at h5
        refine Pick.at64 (z := (i + 1 : Nat)) (by simp) (by omega) ?_
        conv => whnf
        exact ih (i + 1, q) ⟨by simp; omega, by simp; omega, by simp; omega⟩ (by simp; omega)
    · simp at h
      have e1 := wts_all xs i (by omega)
      exact ResOK.same (by rw [szR_ge (by omega)]; congr <;> omega)

theorem c_SettingS (xs : List Setting) (hb : Enc.wt xs ≤ 1048576) : Sat Tryd.prog 28 [(false, Enc.enc xs)] (.one (.c (.slice 2 (xs.map Enc.enc))), []) := by
  have hl : (xs.map (Enc.enc (α := Setting))).length = xs.length := by simp
  have hw := wt_list xs
  refine Sat.intro tok mixed Tryd.func28 rfl rfl ?_
  conv => whnf
  refine Side.mk (by omega) ?_
  conv => whnf
  refine Pick.mk [0, 3, 4] trivial ?_
  conv => whnf
  refine LoopL.run (fun i : Nat => St.mk [.one (.c (.slice 2 (xs.map Enc.enc))), .one .dead, .one .dead, .one (.rs 192), .one (.c (.int .i64 i)), .one .dead, .one .dead, .one .dead, .one .dead, .one .dead, .one .dead, .one .dead, .one .dead, .one .dead, .one .dead, .one .dead, .one .dead, .one .dead, .one .dead, .one .dead, .one .dead, .one .dead, .one .dead] [(192, .arr 2 (upTo [.str ⟨#[]⟩, .int .i64 0] xs i))])
      (fun i => xs.length - i) (fun i => i ≤ xs.length) ?_ 0 (Nat.zero_le _) (by rw [upTo_zero, hl]; rfl)
  intro i h2 ih
  conv => whnf
  refine Br.mk (fun h => ?_) (fun h => ?_) <;> conv => whnf
  · simp at h
    refine Pick.ix h ?_
    conv => whnf
    refine Pick.mk _ (c_Setting xs[i] (by have := wt_get xs i h; omega)) ?_
    conv => whnf
    refine Side.mk (by rw [upTo_length _ _ _ h2]; omega) ?_
    conv => whnf
    refine Pick.at64 (z := (i + 1 : Nat)) (by simp) (by omega) ?_
    conv => whnf
    refine cast (congrArg (fun r => LoopL _ _ _ ⟨_, [(_, .arr 2 r)]⟩) (upTo_set [.str ⟨#[]⟩, .int .i64 0] xs i h).symm) (ih (i + 1) (by omega) (by omega))
  · simp at h
    have e := upTo_all [.str ⟨#[]⟩, .int .i64 0] xs i (by omega)
    refine ResOK.frz ?_ rfl
    rw [e]
    rfl

theorem e_SettingS (xs : List Setting) (hb : Enc.wt xs ≤ 1099511627776) : Sat Tryd.prog 35 [(false, Enc.enc xs), (false, Enc.enc xs)] (.one (.c (.bool true)), []) := by
  have hl : (xs.map (Enc.enc (α := Setting))).length = xs.length := by simp
  have hw := wt_list xs
  refine Sat.intro tok mixed Tryd.func35 rfl rfl ?_
  conv => whnf
  refine Br.mk (fun h => ?_) (fun h => ?_) <;> conv => whnf
  · simp at h
  refine Pick.mk [0, 1, 5] trivial ?_
  conv => whnf
  refine LoopL.run (fun i : Nat => St.mk [.one (.c (.slice 2 (xs.map Enc.enc))), .one (.c (.slice 2 (xs.map Enc.enc))), .one .dead, .one .dead, .one .dead, .one (.c (.int .i64 i)), .one .dead, .one .dead, .one .dead, .one .dead, .one .dead, .one .dead, .one .dead, .one .dead, .one .dead, .one .dead, .one .dead, .one .dead, .one .dead, .one .dead, .one .dead, .one .dead, .one .dead, .one .dead, .one .dead, .one .dead, .one .dead] []) (fun i => xs.length - i) (fun i => i ≤ xs.length) ?_ 0 (Nat.zero_le _)
  intro i h2 ih
  conv => whnf
  refine Br.mk (fun h => ?_) (fun h => ?_) <;> conv => whnf
  · simp at h
    refine Pick.draw rfl (by kernel_rfl) ?_
    conv => whnf
    refine Pick.ix h ?_
    conv => whnf
    refine Pick.ix h ?_
    conv => whnf
    refine Pick.mk _ (e_Setting xs[i] (by have := wt_get xs i h; omega)) ?_
    conv => whnf
    refine Br.mk (fun h5 => ?_) (fun h5 => ?_) <;> conv => whnf
    · simp at h5
    · refine Pick.at64 (z := (i + 1 : Nat)) (by simp) (by omega) ?_
      conv => whnf
      exact ih (i + 1) (by omega) (by omega)
  · exact ResOK.same rfl

theorem z_StringS (xs : List ByteArray) (n : Int) (hx : Enc.ok xs) (h0 : 0 ≤ n) (h1 : n ≤ 1048576) : Sat Tryd.prog 62 [(false, Enc.enc xs), (false, [.int .i64 n])] (.one (.c (.int .i64 (szR n (Enc.wt xs)))), []) := by
  obtain ⟨o1, o2⟩ := hx
  simp only [maxLen] at o1
  have hl : (xs.map (Enc.enc (α := ByteArray))).length = xs.length := by simp
  have hw := wt_list xs
  refine Sat.intro tok mixed Tryd.func62 rfl rfl ?_
  conv => whnf
  refine Pick.w64 (by omega) ?_
  conv => whnf
  refine Br.mk (fun h => ?_) (fun h => ?_) <;> conv => whnf
  · simp at h
    exact ResOK.same (by rw [szR_lt (by omega)])
  · simp at h
    refine Pick.mk [0, 1, 5] trivial ?_
    conv => whnf
    refine LoopL.run (fun a : Nat × Int => St.mk [.one (.c (.slice 1 (xs.map Enc.enc))), .one (.c (.int .i64 a.2)), .one .dead, .one .dead, .one .dead, .one (.c (.int .i64 a.1)), .one .dead, .one .dead, .one .dead, .one .dead, .one .dead, .one .dead, .one .dead, .one .dead, .one .dead, .one .dead, .one .dead, .one .dead, .one .dead, .one .dead, .one .dead, .one .dead, .one .dead, .one .dead, .one .dead, .one .dead, .one .dead, .one .dead] [])
      (fun a => xs.length - a.1) (fun a => a.1 ≤ xs.length ∧ 0 ≤ a.2 ∧ a.2 = n - xs.length - wts xs a.1) ?_ (0, n - (xs.map (Enc.enc (α := ByteArray))).length) ⟨by simp, by simp only []; omega, by rw [wts_zero]; simp⟩
    intro ⟨i, m⟩ ⟨h2, h3, h4⟩ ih
    simp only at h2 h3 h4
    conv => whnf
    refine Br.mk (fun h => ?_) (fun h => ?_) <;> conv => whnf
    · simp at h
      refine Pick.ix h ?_
      conv => whnf
      have hm : xs[i].size ≤ maxLen := o2 _ (List.getElem_mem h)
      simp only [maxLen] at hm
      have hwi : Enc.wt xs[i] = xs[i].size := rfl
      obtain ⟨q, hq⟩ : ∃ q : Int, q = m - xs[i].size := ⟨_, rfl⟩
      refine Pick.at64 (z := q) hq.symm (by omega) ?_
      conv => whnf
      have e1 := wts_succ xs i h
      have e2 := wts_le xs (i + 1)
      refine Br.mk (fun h5 => ?_) (fun h5 => ?_) <;> conv => whnf
      · simp at h5
        exact ResOK.same (by rw [szR_lt (by omega)])
      · simp at h5
        refine Pick.at64 (z := (i + 1 : Nat)) (by simp) (by omega) ?_
        conv => whnf
        exact ih (i + 1, q) ⟨by simp; omega, by simp; omega, by simp; omega⟩ (by simp; omega)
    · simp at h
      have e1 := wts_all xs i (by omega)
      exact ResOK.same (by rw [szR_ge (by omega)]; congr <;> omega)

theorem c_StringS (xs : List ByteArray) (hb : Enc.wt xs ≤ 1048576) : Sat Tryd.prog 65 [(false, Enc.enc xs)] (.one (.c (.slice 1 (xs.map Enc.enc))), []) := by
  have hl : (xs.map (Enc.enc (α := ByteArray))).length = xs.length := by simp
  have hw := wt_list xs
  refine Sat.intro tok mixed Tryd.func65 rfl rfl ?_
  conv => whnf
  refine Side.mk (by omega) ?_
  conv => whnf
  refine Pick.mk [0, 3, 4] trivial ?_
  conv => whnf
  refine LoopL.run (fun i : Nat => St.mk [.one (.c (.slice 1 (xs.map Enc.enc))), .one .dead, .one .dead, .one (.rs 192), .one (.c (.int .i64 i)), .one .dead, .one .dead, .one .dead, .one .dead, .one .dead, .one .dead, .one .dead, .one .dead, .one .dead, .one .dead, .one .dead, .one .dead, .one .dead, .one .dead, .one .dead, .one .dead, .one .dead] [(192, .arr 1 (upTo [.str ⟨#[]⟩] xs i))])
      (fun i => xs.length - i) (fun i => i ≤ xs.length) ?_ 0 (Nat.zero_le _) (by rw [upTo_zero, hl]; rfl)
  intro i h2 ih
  conv => whnf
  refine Br.mk (fun h => ?_) (fun h => ?_) <;> conv => whnf
  · simp at h
    refine Pick.ix h ?_
    conv => whnf
    refine Side.mk (by rw [upTo_length _ _ _ h2]; omega) ?_
    conv => whnf
    refine Pick.at64 (z := (i + 1 : Nat)) (by simp) (by omega) ?_
    conv => whnf
    refine cast (congrArg (fun r => LoopL _ _ _ ⟨_, [(_, .arr 1 r)]⟩) (upTo_set [.str ⟨#[]⟩] xs i h).symm) (ih (i + 1) (by omega) (by omega))
  · simp at h
    have e := upTo_all [.str ⟨#[]⟩] xs i (by omega)
    refine ResOK.frz ?_ rfl
    rw [e]
    rfl

theorem e_StringS (xs : List ByteArray) (hb : Enc.wt xs ≤ 1099511627776) : Sat Tryd.prog 72 [(false, Enc.enc xs), (false, Enc.enc xs)] (.one (.c (.bool true)), []) := by
  have hl : (xs.map (Enc.enc (α := ByteArray))).length = xs.length := by simp
  have hw := wt_list xs
  refine Sat.intro tok mixed Tryd.func72 rfl rfl ?_
  conv => whnf
  refine Br.mk (fun h => ?_) (fun h => ?_) <;> conv => whnf
  · simp at h
  refine Pick.mk [0, 1, 5] trivial ?_
  conv => whnf
  refine LoopL.run (fun i : Nat => St.mk [.one (.c (.slice 1 (xs.map Enc.enc))), .one (.c (.slice 1 (xs.map Enc.enc))), .one .dead, .one .dead, .one .dead, .one (.c (.int .i64 i)), .one .dead, .one .dead, .one .dead, .one .dead, .one .dead, .one .dead, .one .dead, .one .dead, .one .dead, .one .dead, .one .dead, .one .dead, .one .dead, .one .dead, .one .dead, .one .dead, .one .dead, .one .dead, .one .dead, .one .dead] []) (fun i => xs.length - i) (fun i => i ≤ xs.length) ?_ 0 (Nat.zero_le _)
  intro i h2 ih
  conv => whnf
  refine Br.mk (fun h => ?_) (fun h => ?_) <;> conv => whnf
  · simp at h
    refine Pick.draw rfl (by kernel_rfl) ?_
    conv => whnf
    refine Pick.ix h ?_
    conv => whnf
    refine Pick.ix h ?_
    conv => whnf
    refine Br.mk (fun h5 => ?_) (fun h5 => ?_) <;> conv => whnf
    · simp at h5
    · refine Pick.at64 (z := (i + 1 : Nat)) (by simp) (by omega) ?_
      conv => whnf
      exact ih (i + 1) (by omega) (by omega)
  · exact ResOK.same rfl

theorem z_Item (x : Item) (n : Int) (hx : Enc.ok x) (h0 : 0 ≤ n) (h1 : n ≤ 1048576) : Sat Tryd.prog 36 [(true, Enc.enc x), (false, [.int .i64 n])] (.one (.c (.int .i64 (szR n (Enc.wt x)))), []) := by
  obtain ⟨o0, o1, o2, o3⟩ := hx
  have hw : Enc.wt x = Enc.wt x.name + Enc.wt x.needs + Enc.wt x.made + Enc.wt x.cost := rfl
  have w_name : Enc.wt x.name = x.name.size := rfl
  have w_made : Enc.wt x.made = 0 := rfl
  have w_cost : Enc.wt x.cost = 0 := rfl
  have m_name : x.name.size ≤ maxLen := o0
  simp only [maxLen] at m_name
  refine Sat.intro tok mixed Tryd.func36 rfl rfl ?_
  conv => whnf
  obtain ⟨q1, hq1⟩ : ∃ q1 : Int, q1 = n - x.name.size := ⟨_, rfl⟩
  refine Pick.at64 (z := q1) hq1.symm (by omega) ?_
  conv => whnf
  refine Br.mk (fun h => ?_) (fun h => ?_) <;> conv => whnf
  · simp at h
    exact ResOK.same (by rw [szR_lt (by omega)])
  simp at h
  have hz2 := z_StringS x.needs q1 o1 (by omega) (by omega)
  have hq2 := szR_or q1 (Enc.wt x.needs)
  generalize szR q1 (Enc.wt x.needs) = q2 at hz2 hq2
  refine Pick.mk _ hz2 ?_
  conv => whnf
  refine Br.mk (fun h => ?_) (fun h => ?_) <;> conv => whnf
  · simp at h
    exact ResOK.same (by rw [szR_lt (by omega)])
  simp at h
  exact ResOK.same (by rw [szR_ge (by omega)]; congr <;> omega)

theorem c_Item (x : Item) (hb : Enc.wt x ≤ 1048576) : Sat Tryd.prog 39 [(true, Enc.enc x)] (.agg ((Enc.enc x).map .c), []) := by
  have hw : Enc.wt x = Enc.wt x.name + Enc.wt x.needs + Enc.wt x.made + Enc.wt x.cost := rfl
  refine Sat.intro tok mixed Tryd.func39 rfl rfl ?_
  conv => whnf
  refine Pick.mk _ (c_StringS x.needs (by omega)) ?_
  conv => whnf
  exact ResOK.same rfl

theorem e_Item (x : Item) (hb : Enc.wt x ≤ 1099511627776) : Sat Tryd.prog 42 [(true, Enc.enc x), (true, Enc.enc x)] (.one (.c (.bool true)), []) := by
  have hw : Enc.wt x = Enc.wt x.name + Enc.wt x.needs + Enc.wt x.made + Enc.wt x.cost := rfl
  refine Sat.intro tok mixed Tryd.func42 rfl rfl ?_
  conv => whnf
  refine Br.mk (fun h => ?_) (fun h => ?_) <;> conv => whnf
  · simp at h
  refine Pick.mk _ (e_StringS x.needs (by omega)) ?_
  conv => whnf
  refine Br.no ?_
  conv => whnf
  refine Br.mk (fun h => ?_) (fun h => ?_) <;> conv => whnf
  · simp at h
  refine Br.mk (fun h => ?_) (fun h => ?_) <;> conv => whnf
  · simp at h
  exact ResOK.same rfl

theorem z_ItemS (xs : List Item) (n : Int) (hx : Enc.ok xs) (h0 : 0 ≤ n) (h1 : n ≤ 1048576) : Sat Tryd.prog 11 [(false, Enc.enc xs), (false, [.int .i64 n])] (.one (.c (.int .i64 (szR n (Enc.wt xs)))), []) := by
  obtain ⟨o1, o2⟩ := hx
  simp only [maxLen] at o1
  have hl : (xs.map (Enc.enc (α := Item))).length = xs.length := by simp
  have hw := wt_list xs
  refine Sat.intro tok mixed Tryd.func11 rfl rfl ?_
  conv => whnf
  refine Pick.w64 (by omega) ?_
  conv => whnf
  refine Br.mk (fun h => ?_) (fun h => ?_) <;> conv => whnf
  · simp at h
    exact ResOK.same (by rw [szR_lt (by omega)])
  · simp at h
    refine Pick.mk [0, 1, 5] trivial ?_
    conv => whnf
    refine LoopL.run (fun a : Nat × Int => St.mk [.one (.c (.slice 4 (xs.map Enc.enc))), .one (.c (.int .i64 a.2)), .one .dead, .one .dead, .one .dead, .one (.c (.int .i64 a.1)), .one .dead, .one .dead, .one .dead, .one .dead, .one .dead, .one .dead, .one .dead, .one .dead, .one .dead, .one .dead, .one .dead, .one .dead, .one .dead, .one .dead, .one .dead, .one .dead, .one .dead, .one .dead, .one .dead, .one .dead, .one .dead] [])
      (fun a => xs.length - a.1) (fun a => a.1 ≤ xs.length ∧ 0 ≤ a.2 ∧ a.2 = n - xs.length - wts xs a.1) ?_ (0, n - (xs.map (Enc.enc (α := Item))).length) ⟨by simp, by simp only []; omega, by rw [wts_zero]; simp⟩
    intro ⟨i, m⟩ ⟨h2, h3, h4⟩ ih
    simp only at h2 h3 h4
    conv => whnf
    refine Br.mk (fun h => ?_) (fun h => ?_) <;> conv => whnf
    · simp at h
      refine Pick.ix h ?_
      conv => whnf
      have hz := z_Item xs[i] m (o2 _ (List.getElem_mem h)) h3 (by omega)
      have hq := szR_or m (Enc.wt xs[i])
      generalize szR m (Enc.wt xs[i]) = q at hz hq
      refine Pick.mk _ hz ?_
      conv => whnf
      have e1 := wts_succ xs i h
      have e2 := wts_le xs (i + 1)
      refine Br.mk (fun h5 => ?_) (fun h5 => ?_) <;> conv => whnf
      · simp at h5
        exact ResOK.same (by rw [szR_lt (by omega)])
      · simp at h5
        refine Pick.at64 (z := (i + 1 : Nat)) (by simp) (by omega) ?_
        conv => whnf
        exact ih (i + 1, q) ⟨by simp; omega, by simp; omega, by simp; omega⟩ (by simp; omega)
    · simp at h
      have e1 := wts_all xs i (by omega)
      exact ResOK.same (by rw [szR_ge (by omega)]; congr <;> omega)

theorem c_ItemS (xs : List Item) (hb : Enc.wt xs ≤ 1048576) : Sat Tryd.prog 13 [(false, Enc.enc xs)] (.one (.c (.slice 4 (xs.map Enc.enc))), []) := by
  have hl : (xs.map (Enc.enc (α := Item))).length = xs.length := by simp
  have hw := wt_list xs
  refine Sat.intro tok mixed Tryd.func13 rfl rfl ?_
  conv => whnf
  refine Side.mk (by omega) ?_
  conv => whnf
  refine Pick.mk [0, 3, 4] trivial ?_
  conv => whnf
  refine LoopL.run (fun i : Nat => St.mk [.one (.c (.slice 4 (xs.map Enc.enc))), .one .dead, .one .dead, .one (.rs 192), .one (.c (.int .i64 i)), .one .dead, .one .dead, .one .dead, .one .dead, .one .dead, .one .dead, .one .dead, .one .dead, .one .dead, .one .dead, .one .dead, .one .dead, .one .dead, .one .dead, .one .dead, .one .dead, .one .dead, .one .dead] [(192, .arr 4 (upTo [.str ⟨#[]⟩, .slice 1 [], .int .i64 0, .int .i64 0] xs i))])
      (fun i => xs.length - i) (fun i => i ≤ xs.length) ?_ 0 (Nat.zero_le _) (by rw [upTo_zero, hl]; rfl)
  intro i h2 ih
  conv => whnf
  refine Br.mk (fun h => ?_) (fun h => ?_) <;> conv => whnf
  · simp at h
    refine Pick.ix h ?_
    conv => whnf
    refine Pick.mk _ (c_Item xs[i] (by have := wt_get xs i h; omega)) ?_
    conv => whnf
    refine Side.mk (by rw [upTo_length _ _ _ h2]; omega) ?_
    conv => whnf
    refine Pick.at64 (z := (i + 1 : Nat)) (by simp) (by omega) ?_
    conv => whnf
    refine cast (congrArg (fun r => LoopL _ _ _ ⟨_, [(_, .arr 4 r)]⟩) (upTo_set [.str ⟨#[]⟩, .slice 1 [], .int .i64 0, .int .i64 0] xs i h).symm) (ih (i + 1) (by omega) (by omega))
  · simp at h
    have e := upTo_all [.str ⟨#[]⟩, .slice 1 [], .int .i64 0, .int .i64 0] xs i (by omega)
    refine ResOK.frz ?_ rfl
    rw [e]
    rfl

theorem e_ItemS (xs : List Item) (hb : Enc.wt xs ≤ 1099511627776) : Sat Tryd.prog 15 [(false, Enc.enc xs), (false, Enc.enc xs)] (.one (.c (.bool true)), []) := by
  have hl : (xs.map (Enc.enc (α := Item))).length = xs.length := by simp
  have hw := wt_list xs
  refine Sat.intro tok mixed Tryd.func15 rfl rfl ?_
  conv => whnf
  refine Br.mk (fun h => ?_) (fun h => ?_) <;> conv => whnf
  · simp at h
  refine Pick.mk [0, 1, 5] trivial ?_
  conv => whnf
  refine LoopL.run (fun i : Nat => St.mk [.one (.c (.slice 4 (xs.map Enc.enc))), .one (.c (.slice 4 (xs.map Enc.enc))), .one .dead, .one .dead, .one .dead, .one (.c (.int .i64 i)), .one .dead, .one .dead, .one .dead, .one .dead, .one .dead, .one .dead, .one .dead, .one .dead, .one .dead, .one .dead, .one .dead, .one .dead, .one .dead, .one .dead, .one .dead, .one .dead, .one .dead, .one .dead, .one .dead, .one .dead, .one .dead] []) (fun i => xs.length - i) (fun i => i ≤ xs.length) ?_ 0 (Nat.zero_le _)
  intro i h2 ih
  conv => whnf
  refine Br.mk (fun h => ?_) (fun h => ?_) <;> conv => whnf
  · simp at h
    refine Pick.draw rfl (by kernel_rfl) ?_
    conv => whnf
    refine Pick.ix h ?_
    conv => whnf
    refine Pick.ix h ?_
    conv => whnf
    refine Pick.mk _ (e_Item xs[i] (by have := wt_get xs i h; omega)) ?_
    conv => whnf
    refine Br.mk (fun h5 => ?_) (fun h5 => ?_) <;> conv => whnf
    · simp at h5
    · refine Pick.at64 (z := (i + 1 : Nat)) (by simp) (by omega) ?_
      conv => whnf
      exact ih (i + 1) (by omega) (by omega)
  · exact ResOK.same rfl

theorem z_Version (x : Version) (n : Int) (hx : Enc.ok x) (h0 : 0 ≤ n) (h1 : n ≤ 1048576) : Sat Tryd.prog 6 [(true, Enc.enc x), (false, [.int .i64 n])] (.one (.c (.int .i64 (szR n (Enc.wt x)))), []) := by
  obtain ⟨o0, o1, o2, o3⟩ := hx
  have hw : Enc.wt x = Enc.wt x.number + Enc.wt x.parent + Enc.wt x.memo + Enc.wt x.state := rfl
  have w_number : Enc.wt x.number = 0 := rfl
  have w_parent : Enc.wt x.parent = 0 := rfl
  have w_memo : Enc.wt x.memo = x.memo.size := rfl
  have m_memo : x.memo.size ≤ maxLen := o2
  simp only [maxLen] at m_memo
  refine Sat.intro tok mixed Tryd.func6 rfl rfl ?_
  conv => whnf
  obtain ⟨q1, hq1⟩ : ∃ q1 : Int, q1 = n - x.memo.size := ⟨_, rfl⟩
  refine Pick.at64 (z := q1) hq1.symm (by omega) ?_
  conv => whnf
  refine Br.mk (fun h => ?_) (fun h => ?_) <;> conv => whnf
  · simp at h
    exact ResOK.same (by rw [szR_lt (by omega)])
  simp at h
  have hz2 := z_SettingS x.state q1 o3 (by omega) (by omega)
  have hq2 := szR_or q1 (Enc.wt x.state)
  generalize szR q1 (Enc.wt x.state) = q2 at hz2 hq2
  refine Pick.mk _ hz2 ?_
  conv => whnf
  refine Br.mk (fun h => ?_) (fun h => ?_) <;> conv => whnf
  · simp at h
    exact ResOK.same (by rw [szR_lt (by omega)])
  simp at h
  exact ResOK.same (by rw [szR_ge (by omega)]; congr <;> omega)

theorem c_Version (x : Version) (hb : Enc.wt x ≤ 1048576) : Sat Tryd.prog 8 [(true, Enc.enc x)] (.agg ((Enc.enc x).map .c), []) := by
  have hw : Enc.wt x = Enc.wt x.number + Enc.wt x.parent + Enc.wt x.memo + Enc.wt x.state := rfl
  refine Sat.intro tok mixed Tryd.func8 rfl rfl ?_
  conv => whnf
  refine Pick.mk _ (c_SettingS x.state (by omega)) ?_
  conv => whnf
  exact ResOK.same rfl

theorem e_Version (x : Version) (hb : Enc.wt x ≤ 1099511627776) : Sat Tryd.prog 10 [(true, Enc.enc x), (true, Enc.enc x)] (.one (.c (.bool true)), []) := by
  have hw : Enc.wt x = Enc.wt x.number + Enc.wt x.parent + Enc.wt x.memo + Enc.wt x.state := rfl
  refine Sat.intro tok mixed Tryd.func10 rfl rfl ?_
  conv => whnf
  refine Br.mk (fun h => ?_) (fun h => ?_) <;> conv => whnf
  · simp at h
  refine Br.mk (fun h => ?_) (fun h => ?_) <;> conv => whnf
  · simp at h
  refine Br.mk (fun h => ?_) (fun h => ?_) <;> conv => whnf
  · simp at h
  refine Pick.mk _ (e_SettingS x.state (by omega)) ?_
  conv => whnf
  refine Br.no ?_
  conv => whnf
  exact ResOK.same rfl

theorem z_VersionS (xs : List Version) (n : Int) (hx : Enc.ok xs) (h0 : 0 ≤ n) (h1 : n ≤ 1048576) : Sat Tryd.prog 16 [(false, Enc.enc xs), (false, [.int .i64 n])] (.one (.c (.int .i64 (szR n (Enc.wt xs)))), []) := by
  obtain ⟨o1, o2⟩ := hx
  simp only [maxLen] at o1
  have hl : (xs.map (Enc.enc (α := Version))).length = xs.length := by simp
  have hw := wt_list xs
  refine Sat.intro tok mixed Tryd.func16 rfl rfl ?_
  conv => whnf
  refine Pick.w64 (by omega) ?_
  conv => whnf
  refine Br.mk (fun h => ?_) (fun h => ?_) <;> conv => whnf
  · simp at h
    exact ResOK.same (by rw [szR_lt (by omega)])
  · simp at h
    refine Pick.mk [0, 1, 5] trivial ?_
    conv => whnf
    refine LoopL.run (fun a : Nat × Int => St.mk [.one (.c (.slice 4 (xs.map Enc.enc))), .one (.c (.int .i64 a.2)), .one .dead, .one .dead, .one .dead, .one (.c (.int .i64 a.1)), .one .dead, .one .dead, .one .dead, .one .dead, .one .dead, .one .dead, .one .dead, .one .dead, .one .dead, .one .dead, .one .dead, .one .dead, .one .dead, .one .dead, .one .dead, .one .dead, .one .dead, .one .dead, .one .dead, .one .dead, .one .dead] [])
      (fun a => xs.length - a.1) (fun a => a.1 ≤ xs.length ∧ 0 ≤ a.2 ∧ a.2 = n - xs.length - wts xs a.1) ?_ (0, n - (xs.map (Enc.enc (α := Version))).length) ⟨by simp, by simp only []; omega, by rw [wts_zero]; simp⟩
    intro ⟨i, m⟩ ⟨h2, h3, h4⟩ ih
    simp only at h2 h3 h4
    conv => whnf
    refine Br.mk (fun h => ?_) (fun h => ?_) <;> conv => whnf
    · simp at h
      refine Pick.ix h ?_
      conv => whnf
      have hz := z_Version xs[i] m (o2 _ (List.getElem_mem h)) h3 (by omega)
      have hq := szR_or m (Enc.wt xs[i])
      generalize szR m (Enc.wt xs[i]) = q at hz hq
      refine Pick.mk _ hz ?_
      conv => whnf
      have e1 := wts_succ xs i h
      have e2 := wts_le xs (i + 1)
      refine Br.mk (fun h5 => ?_) (fun h5 => ?_) <;> conv => whnf
      · simp at h5
        exact ResOK.same (by rw [szR_lt (by omega)])
      · simp at h5
        refine Pick.at64 (z := (i + 1 : Nat)) (by simp) (by omega) ?_
        conv => whnf
        exact ih (i + 1, q) ⟨by simp; omega, by simp; omega, by simp; omega⟩ (by simp; omega)
    · simp at h
      have e1 := wts_all xs i (by omega)
      exact ResOK.same (by rw [szR_ge (by omega)]; congr <;> omega)

theorem c_VersionS (xs : List Version) (hb : Enc.wt xs ≤ 1048576) : Sat Tryd.prog 18 [(false, Enc.enc xs)] (.one (.c (.slice 4 (xs.map Enc.enc))), []) := by
  have hl : (xs.map (Enc.enc (α := Version))).length = xs.length := by simp
  have hw := wt_list xs
  refine Sat.intro tok mixed Tryd.func18 rfl rfl ?_
  conv => whnf
  refine Side.mk (by omega) ?_
  conv => whnf
  refine Pick.mk [0, 3, 4] trivial ?_
  conv => whnf
  refine LoopL.run (fun i : Nat => St.mk [.one (.c (.slice 4 (xs.map Enc.enc))), .one .dead, .one .dead, .one (.rs 192), .one (.c (.int .i64 i)), .one .dead, .one .dead, .one .dead, .one .dead, .one .dead, .one .dead, .one .dead, .one .dead, .one .dead, .one .dead, .one .dead, .one .dead, .one .dead, .one .dead, .one .dead, .one .dead, .one .dead, .one .dead] [(192, .arr 4 (upTo [.int .i64 0, .int .i64 0, .str ⟨#[]⟩, .slice 2 []] xs i))])
      (fun i => xs.length - i) (fun i => i ≤ xs.length) ?_ 0 (Nat.zero_le _) (by rw [upTo_zero, hl]; rfl)
  intro i h2 ih
  conv => whnf
  refine Br.mk (fun h => ?_) (fun h => ?_) <;> conv => whnf
  · simp at h
    refine Pick.ix h ?_
    conv => whnf
    refine Pick.mk _ (c_Version xs[i] (by have := wt_get xs i h; omega)) ?_
    conv => whnf
    refine Side.mk (by rw [upTo_length _ _ _ h2]; omega) ?_
    conv => whnf
    refine Pick.at64 (z := (i + 1 : Nat)) (by simp) (by omega) ?_
    conv => whnf
    refine cast (congrArg (fun r => LoopL _ _ _ ⟨_, [(_, .arr 4 r)]⟩) (upTo_set [.int .i64 0, .int .i64 0, .str ⟨#[]⟩, .slice 2 []] xs i h).symm) (ih (i + 1) (by omega) (by omega))
  · simp at h
    have e := upTo_all [.int .i64 0, .int .i64 0, .str ⟨#[]⟩, .slice 2 []] xs i (by omega)
    refine ResOK.frz ?_ rfl
    rw [e]
    rfl

theorem e_VersionS (xs : List Version) (hb : Enc.wt xs ≤ 1099511627776) : Sat Tryd.prog 20 [(false, Enc.enc xs), (false, Enc.enc xs)] (.one (.c (.bool true)), []) := by
  have hl : (xs.map (Enc.enc (α := Version))).length = xs.length := by simp
  have hw := wt_list xs
  refine Sat.intro tok mixed Tryd.func20 rfl rfl ?_
  conv => whnf
  refine Br.mk (fun h => ?_) (fun h => ?_) <;> conv => whnf
  · simp at h
  refine Pick.mk [0, 1, 5] trivial ?_
  conv => whnf
  refine LoopL.run (fun i : Nat => St.mk [.one (.c (.slice 4 (xs.map Enc.enc))), .one (.c (.slice 4 (xs.map Enc.enc))), .one .dead, .one .dead, .one .dead, .one (.c (.int .i64 i)), .one .dead, .one .dead, .one .dead, .one .dead, .one .dead, .one .dead, .one .dead, .one .dead, .one .dead, .one .dead, .one .dead, .one .dead, .one .dead, .one .dead, .one .dead, .one .dead, .one .dead, .one .dead, .one .dead, .one .dead, .one .dead] []) (fun i => xs.length - i) (fun i => i ≤ xs.length) ?_ 0 (Nat.zero_le _)
  intro i h2 ih
  conv => whnf
  refine Br.mk (fun h => ?_) (fun h => ?_) <;> conv => whnf
  · simp at h
    refine Pick.draw rfl (by kernel_rfl) ?_
    conv => whnf
    refine Pick.ix h ?_
    conv => whnf
    refine Pick.ix h ?_
    conv => whnf
    refine Pick.mk _ (e_Version xs[i] (by have := wt_get xs i h; omega)) ?_
    conv => whnf
    refine Br.mk (fun h5 => ?_) (fun h5 => ?_) <;> conv => whnf
    · simp at h5
    · refine Pick.at64 (z := (i + 1 : Nat)) (by simp) (by omega) ?_
      conv => whnf
      exact ih (i + 1) (by omega) (by omega)
  · exact ResOK.same rfl

end Go.Proofs.YtjolahiflldepaaDoor.Pi
