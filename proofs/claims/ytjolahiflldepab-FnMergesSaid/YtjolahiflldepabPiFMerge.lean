/- Names of states, conflicts; the reference and the program. No statement of the seat is proved here. -/
import Derived.Test.YtjolahiflldepabPiCompact
import Derived.Test.YtjolahiflldepabPiLay190
namespace Go.Proofs.Ytjolahiflldepab.Pi
open Go
set_option maxRecDepth 10000
set_option maxHeartbeats 1600000
set_option linter.unusedVariables false

theorem s_GrowSetting (n : Nat) (hb : n ≤ 16777216) : SatM Try.prog 128 [.one (.nil 2), .one (.c (.int .i64 n))] [] (.one (.rs 0), [(0, .arr 2 [])]) := by
  refine SatM.intro tok mixed Try.func128 rfl rfl ?_
  ((conv => whnf); repeat ((first | refine B0 ?_ | refine B1 ?_ | refine D1 ?_ | refine D2 ?_ | refine CallC.r ?_); conv => whnf))
  refine Pick.w64 (by omega) ?_
  ((conv => whnf); repeat ((first | refine B0 ?_ | refine B1 ?_ | refine D1 ?_ | refine D2 ?_ | refine CallC.r ?_); conv => whnf))
  refine Pick.at64 (z := (n : Int)) (by simp) (by omega) ?_
  ((conv => whnf); repeat ((first | refine B0 ?_ | refine B1 ?_ | refine D1 ?_ | refine D2 ?_ | refine CallC.r ?_); conv => whnf))
  refine Br.mk (fun h3 => ?_) (fun h3 => ?_) <;> ((conv => whnf); repeat ((first | refine B0 ?_ | refine B1 ?_ | refine D1 ?_ | refine D2 ?_ | refine CallC.r ?_); conv => whnf))
  refine Side.mk (by omega) ?_
  ((conv => whnf); repeat ((first | refine B0 ?_ | refine B1 ?_ | refine D1 ?_ | refine D2 ?_ | refine CallC.r ?_); conv => whnf))
  refine Side.mk (by omega) ?_
  ((conv => whnf); repeat ((first | refine B0 ?_ | refine B1 ?_ | refine D1 ?_ | refine D2 ?_ | refine CallC.r ?_); conv => whnf))
  refine Side.mk (by omega) ?_
  ((conv => whnf); repeat ((first | refine B0 ?_ | refine B1 ?_ | refine D1 ?_ | refine D2 ?_); conv => whnf))
  refine CallC.x ?_
  ((conv => whnf); repeat ((first | refine B0 ?_ | refine B1 ?_ | refine D1 ?_ | refine D2 ?_ | refine CallC.r ?_); conv => whnf))
  exact rfl

/-- The lengths of lists together. -/
def lensS (xs : List (List Setting)) (i : Nat) : Nat := ((xs.take i).map List.length).sum
theorem lensS_succ (xs : List (List Setting)) (i : Nat) (h : i < xs.length) : lensS xs (i + 1) = lensS xs i + xs[i].length := by
  simp only [lensS, List.take_add_one, List.getElem?_eq_getElem h, Option.toList_some, List.map_append, List.map_cons, List.map_nil, List.sum_append, List.sum_cons, List.sum_nil, Nat.add_zero]
theorem lensS_le (xs : List (List Setting)) (i : Nat) : lensS xs i ≤ xs.flatten.length := by
  rw [List.length_flatten]
  have h : (xs.map List.length).sum = ((xs.take i).map List.length).sum + ((xs.drop i).map List.length).sum := by
    rw [← List.sum_append, ← List.map_append, List.take_append_drop]
  unfold lensS; omega
theorem flatS_take (xs : List (List Setting)) (i : Nat) (h : i < xs.length) : (xs.take (i + 1)).flatten = (xs.take i).flatten ++ xs[i] := by
  simp only [List.take_add_one, List.getElem?_eq_getElem h, Option.toList_some, List.flatten_append, List.flatten_cons, List.flatten_nil, List.append_nil]
theorem flatS_take_len (xs : List (List Setting)) (i : Nat) : (xs.take i).flatten.length = lensS xs i := by simp [lensS, List.length_flatten]

theorem s_ConcatSetting (xs : List (List Setting)) (hb : xs.length ≤ 1048576) (hl : xs.flatten.length ≤ 16777216) : Sat Try.prog 91 [(false, Enc.enc xs)] (.one (.rs 0), [(0, .arr 2 (xs.flatten.map Enc.enc))]) := by
  have hlx : (xs.map (Enc.enc (α := List Setting))).length = xs.length := by simp
  refine Sat.intro tok mixed Try.func91 rfl rfl ?_
  ((conv => whnf); repeat ((first | refine B0 ?_ | refine B1 ?_ | refine D1 ?_ | refine D2 ?_ | refine CallC.r ?_); conv => whnf))
  refine Pick.mk [0, 3, 9, 10, 11] trivial ?_
  ((conv => whnf); repeat ((first | refine B0 ?_ | refine B1 ?_ | refine D1 ?_ | refine D2 ?_ | refine CallC.r ?_); conv => whnf))
  refine LoopL.over (fun (i : Nat) => [(3, .one (.c (.int .i64 ((lensS xs i : Int))))), (11, .one (.c (.int .i64 ((i : Int)))))]) (fun (i : Nat) => []) (fun (i : Nat) => xs.length - i) (fun (i : Nat) => i ≤ xs.length) ?_ 0 (Nat.zero_le _) (by simp [lensS]; rfl)
  intro i hi ih
  have hli := lensS_le xs i
  ((conv => whnf); repeat ((first | refine B0 ?_ | refine B1 ?_ | refine D1 ?_ | refine D2 ?_ | refine CallC.r ?_); conv => whnf))
  refine Br.mk (fun h => ?_) (fun h => ?_)
  · ((conv => whnf); repeat ((first | refine B0 ?_ | refine B1 ?_ | refine D1 ?_ | refine D2 ?_ | refine CallC.r ?_); conv => whnf))
    simp at h
    have hs := lensS_succ xs i h
    have hli2 := lensS_le xs (i + 1)
    refine Pick.ix (h) ?_
    ((conv => whnf); repeat ((first | refine B0 ?_ | refine B1 ?_ | refine D1 ?_ | refine D2 ?_ | refine CallC.r ?_); conv => whnf))
    refine Pick.at64 (z := ((lensS xs (i + 1) : Nat) : Int)) (by rw [hs]; simp) (by omega) ?_
    ((conv => whnf); repeat ((first | refine B0 ?_ | refine B1 ?_ | refine D1 ?_ | refine D2 ?_ | refine CallC.r ?_); conv => whnf))
    refine Pick.at64 (z := (i + 1 : Nat)) (by simp) (by omega) ?_
    ((conv => whnf); repeat ((first | refine B0 ?_ | refine B1 ?_ | refine D1 ?_ | refine D2 ?_ | refine CallC.r ?_); conv => whnf))
    exact ih (i + 1) (by omega) (by omega)
  · ((conv => whnf); repeat ((first | refine B0 ?_ | refine B1 ?_ | refine D1 ?_ | refine D2 ?_); conv => whnf))
    simp at h
    obtain rfl : i = xs.length := by omega
    refine CallC.x ?_
    ((conv => whnf); repeat ((first | refine B0 ?_ | refine B1 ?_ | refine D1 ?_ | refine D2 ?_ | refine CallC.r ?_); conv => whnf))
    refine Pick.mk _ (s_GrowSetting (lensS xs xs.length) (by omega)) ?_
    ((conv => whnf); repeat ((first | refine B0 ?_ | refine B1 ?_ | refine D1 ?_ | refine D2 ?_ | refine CallC.r ?_); conv => whnf))
    refine Pick.mk [6, 25, 26, 27] trivial ?_
    ((conv => whnf); repeat ((first | refine B0 ?_ | refine B1 ?_ | refine D1 ?_ | refine D2 ?_ | refine CallC.r ?_); conv => whnf))
    refine LoopL.over (fun (i : Nat) => [(27, .one (.c (.int .i64 ((i : Int)))))]) (fun (i : Nat) => [(384, .arr 2 (List.map Enc.enc ((xs.take i).flatten)))]) (fun (i : Nat) => xs.length - i) (fun (i : Nat) => i ≤ xs.length) ?_ 0 (Nat.zero_le _)
    intro i hi ih
    ((conv => whnf); repeat ((first | refine B0 ?_ | refine B1 ?_ | refine D1 ?_ | refine D2 ?_ | refine CallC.r ?_); conv => whnf))
    refine Br.mk (fun h => ?_) (fun h => ?_) <;> ((conv => whnf); repeat ((first | refine B0 ?_ | refine B1 ?_ | refine D1 ?_ | refine D2 ?_ | refine CallC.r ?_); conv => whnf))
    · simp at h
      have hf := flatS_take xs i h
      have hl1 := flatS_take_len xs i
      have hl2 := flatS_take_len xs (i + 1)
      have hs := lensS_succ xs i h
      have hli2 := lensS_le xs (i + 1)
      refine Pick.ix (h) ?_
      ((conv => whnf); repeat ((first | refine B0 ?_ | refine B1 ?_ | refine D1 ?_ | refine D2 ?_ | refine CallC.r ?_); conv => whnf))
      refine Side.mk (by simp only [List.length_map]; omega) ?_
      ((conv => whnf); repeat ((first | refine B0 ?_ | refine B1 ?_ | refine D1 ?_ | refine D2 ?_ | refine CallC.r ?_); conv => whnf))
      refine Pick.at64 (z := (i + 1 : Nat)) (by simp) (by omega) ?_
      ((conv => whnf); repeat ((first | refine B0 ?_ | refine B1 ?_ | refine D1 ?_ | refine D2 ?_ | refine CallC.r ?_); conv => whnf))
      have hn := ih (i + 1) (by omega) (by omega)
      rw [hf, List.map_append] at hn
      exact hn
    · simp at h
      obtain rfl : i = xs.length := by omega
      exact ResOK.same (by rw [List.take_length])


theorem s_allNames (xs : List (List Setting)) (hb : xs.length ≤ 1048576) (hl : xs.flatten.length ≤ 1048576) : Sat Try.prog 50 [(false, Enc.enc xs)] (.one (.rs 0), [(0, .arr 1 ((nameSet xs.flatten).map Enc.enc))]) := by
  refine Sat.intro tok mixed Try.func50 rfl rfl ?_
  ((conv => whnf); repeat ((first | refine B0 ?_ | refine B1 ?_ | refine D1 ?_ | refine D2 ?_ | refine CallC.r ?_); conv => whnf))
  refine Pick.mk _ (s_ConcatSetting xs hb (by omega)) ?_
  ((conv => whnf); repeat ((first | refine B0 ?_ | refine B1 ?_ | refine D1 ?_ | refine D2 ?_ | refine CallC.r ?_); conv => whnf))
  refine Pick.mk [3, 7, 8, 9, 1000448] trivial ?_
  ((conv => whnf); repeat ((first | refine B0 ?_ | refine B1 ?_ | refine D1 ?_ | refine D2 ?_ | refine CallC.r ?_); conv => whnf))
  refine LoopL.over (fun (i : Nat) => [(9, .one (.c (.int .i64 ((i : Int)))))]) (fun (i : Nat) => [(192, .arr 1 (List.map Enc.enc ((xs.flatten.take i).map (·.name))))]) (fun (i : Nat) => xs.flatten.length - i) (fun (i : Nat) => i ≤ xs.flatten.length) ?_ 0 (Nat.zero_le _)
  intro i hi ih
  ((conv => whnf); repeat ((first | refine B0 ?_ | refine B1 ?_ | refine D1 ?_ | refine D2 ?_ | refine CallC.r ?_); conv => whnf))
  refine Br.mk (fun h => ?_) (fun h => ?_)
  · ((conv => whnf); repeat ((first | refine B0 ?_ | refine B1 ?_ | refine D1 ?_ | refine D2 ?_ | refine CallC.r ?_); conv => whnf))
    have h : i < xs.flatten.length := by simp only [List.length_map, decide_eq_true_eq] at h; omega
    refine Pick.ix (h) ?_
    ((conv => whnf); repeat ((first | refine B0 ?_ | refine B1 ?_ | refine D1 ?_ | refine D2 ?_ | refine CallC.r ?_); conv => whnf))
    refine Side.mk (by simp; omega) ?_
    ((conv => whnf); repeat ((first | refine B0 ?_ | refine B1 ?_ | refine D1 ?_ | refine D2 ?_ | refine CallC.r ?_); conv => whnf))
    refine Pick.at64 (z := (i + 1 : Nat)) (by simp) (by omega) ?_
    ((conv => whnf); repeat ((first | refine B0 ?_ | refine B1 ?_ | refine D1 ?_ | refine D2 ?_ | refine CallC.r ?_); conv => whnf))
    have hn := ih (i + 1) (by omega) (by omega)
    rw [List.take_add_one, List.getElem?_eq_getElem h] at hn
    simp only [Option.toList_some, List.map_append, List.map_cons, List.map_nil] at hn
    exact hn
  · ((conv => whnf); repeat ((first | refine B0 ?_ | refine B1 ?_ | refine D1 ?_ | refine D2 ?_); conv => whnf))
    have h : xs.flatten.length ≤ i := by simp only [List.length_map, decide_eq_false_iff_not] at h; omega
    refine CallC.x ?_
    ((conv => whnf); repeat ((first | refine B0 ?_ | refine B1 ?_ | refine D1 ?_ | refine D2 ?_ | refine CallC.r ?_); conv => whnf))
    refine Pick.mk _ (s_SortStr ((xs.flatten.take i).map (·.name)) (by simp only [List.length_map, List.length_take]; omega)) ?_
    ((conv => whnf); repeat ((first | refine B0 ?_ | refine B1 ?_ | refine D1 ?_ | refine D2 ?_); conv => whnf))
    refine Side.mk (by simp only [List.length_map, srtF_len]) ?_
    ((conv => whnf); repeat ((first | refine B0 ?_ | refine B1 ?_ | refine D1 ?_ | refine D2 ?_); conv => whnf))
    refine CallC.x ?_
    ((conv => whnf); repeat ((first | refine B0 ?_ | refine B1 ?_ | refine D1 ?_ | refine D2 ?_ | refine CallC.r ?_); conv => whnf))
    refine Pick.mk _ (s_CompactStr (srtF ((xs.flatten.take i).map (·.name))) (by rw [srtF_len]; simp only [List.length_map, List.length_take]; omega)) ?_
    ((conv => whnf); repeat ((first | refine B0 ?_ | refine B1 ?_ | refine D1 ?_ | refine D2 ?_ | refine CallC.r ?_); conv => whnf))
    exact ResOK.same (by rw [List.take_of_length_le h, names_eqF])

theorem nameSet_len (l : List Setting) : (nameSet l).length ≤ l.length := by
  rw [← names_eqF]
  have h := Lib.compact_length_le ((srtF (l.map (·.name))).map fun (s : ByteArray) => s.data.toList)
  rw [List.length_map, srtF_len, List.length_map] at h
  simpa [cptF] using h
def allN (base a b : List Setting) : List ByteArray := nameSet [base, a, b].flatten
def confs (base a b : List Setting) : List ByteArray := (allN base a b).filter (confT base a b)

theorem s_conflictsOf (base a b : List Setting) (h0 : Ord Setting.name base) (h1 : Ord Setting.name a) (h2 : Ord Setting.name b) (l0 : base.length ≤ 24) (l1 : a.length ≤ 24) (l2 : b.length ≤ 24) :
    Sat Try.prog 46 [(false, Enc.enc base), (false, Enc.enc a), (false, Enc.enc b)] (.one (.rs 0), [(0, .arr 1 ((confs base a b).map Enc.enc))]) := by
  have hal : (allN base a b).length ≤ 72 := Nat.le_trans (nameSet_len _) (by simp; omega)
  refine Sat.intro tok mixed Try.func46 rfl rfl ?_
  ((conv => whnf); repeat ((first | refine B0 ?_ | refine B1 ?_ | refine D1 ?_ | refine D2 ?_ | refine CallC.r ?_); conv => whnf))
  refine Pick.mk _ (s_allNames [base, a, b] (by simp) (by simp; omega)) ?_
  ((conv => whnf); repeat ((first | refine B0 ?_ | refine B1 ?_ | refine D1 ?_ | refine D2 ?_ | refine CallC.r ?_); conv => whnf))
  refine Pick.mk [0, 1, 2, 7, 17, 18, 19, 1001088] trivial ?_
  ((conv => whnf); repeat ((first | refine B0 ?_ | refine B1 ?_ | refine D1 ?_ | refine D2 ?_ | refine CallC.r ?_); conv => whnf))
  refine LoopL.over (fun (i : Nat) => [(19, .one (.c (.int .i64 ((i : Int)))))]) (fun (i : Nat) => [(448, .arr 1 (List.map Enc.enc (((allN base a b).take i).filter (confT base a b))))]) (fun (i : Nat) => (allN base a b).length - i) (fun (i : Nat) => i ≤ (allN base a b).length) ?_ 0 (Nat.zero_le _)
  intro i hi ih
  ((conv => whnf); repeat ((first | refine B0 ?_ | refine B1 ?_ | refine D1 ?_ | refine D2 ?_ | refine CallC.r ?_); conv => whnf))
  refine Br.mk (fun h => ?_) (fun h => ?_) <;> ((conv => whnf); repeat ((first | refine B0 ?_ | refine B1 ?_ | refine D1 ?_ | refine D2 ?_ | refine CallC.r ?_); conv => whnf))
  · have h : i < (allN base a b).length := by simp only [List.length_map, decide_eq_true_eq] at h; exact Int.ofNat_lt.1 h
    have ht : (allN base a b).take (i + 1) = (allN base a b).take i ++ [(allN base a b)[i]] := by rw [List.take_add_one, List.getElem?_eq_getElem h]; rfl
    refine Pick.ix (xs := allN base a b) h ?_
    ((conv => whnf); repeat ((first | refine B0 ?_ | refine B1 ?_ | refine D1 ?_ | refine D2 ?_ | refine CallC.r ?_); conv => whnf))
    generalize (allN base a b)[i] = t at ht ⊢
    refine Pick.mk _ (s_valueOf base t h0 (by omega)) ?_
    ((conv => whnf); repeat ((first | refine B0 ?_ | refine B1 ?_ | refine D1 ?_ | refine D2 ?_ | refine CallC.r ?_); conv => whnf))
    refine Pick.mk _ (s_valueOf a t h1 (by omega)) ?_
    ((conv => whnf); repeat ((first | refine B0 ?_ | refine B1 ?_ | refine D1 ?_ | refine D2 ?_ | refine CallC.r ?_); conv => whnf))
    refine Pick.mk _ (s_valueOf b t h2 (by omega)) ?_
    ((conv => whnf); repeat ((first | refine B0 ?_ | refine B1 ?_ | refine D1 ?_ | refine D2 ?_ | refine CallC.r ?_); conv => whnf))
    have hn := ih (i + 1) (by omega) (by omega)
    rw [ht, List.filter_append] at hn
    have no : confT base a b t = false → [t].filter (confT base a b) = [] := fun e => by simp [e]
    have skip : confT base a b t = false → _ := fun e => by
      rw [no e, List.append_nil] at hn
      exact hn
    refine Br.mk (fun e1 => ?_) (fun e1 => ?_) <;> ((conv => whnf); repeat ((first | refine B0 ?_ | refine B1 ?_ | refine D1 ?_ | refine D2 ?_ | refine CallC.r ?_); conv => whnf))
    · refine Br.mk (fun e2 => ?_) (fun e2 => ?_) <;> ((conv => whnf); repeat ((first | refine B0 ?_ | refine B1 ?_ | refine D1 ?_ | refine D2 ?_ | refine CallC.r ?_); conv => whnf))
      · refine Br.mk (fun e3 => ?_) (fun e3 => ?_) <;> ((conv => whnf); repeat ((first | refine B0 ?_ | refine B1 ?_ | refine D1 ?_ | refine D2 ?_ | refine CallC.r ?_); conv => whnf))
        · refine Side.mk (by have h9 := List.length_filter_le (confT base a b) ((allN base a b).take i); rw [List.length_take] at h9; simp only [List.length_map, List.length_cons, List.length_nil]; omega) ?_
          ((conv => whnf); repeat ((first | refine B0 ?_ | refine B1 ?_ | refine D1 ?_ | refine D2 ?_ | refine CallC.r ?_); conv => whnf))
          refine Pick.at64 (z := (i + 1 : Nat)) (by simp) (by omega) ?_
          ((conv => whnf); repeat ((first | refine B0 ?_ | refine B1 ?_ | refine D1 ?_ | refine D2 ?_ | refine CallC.r ?_); conv => whnf))
          rw [show [t].filter (confT base a b) = [t] by simp [confT, e1, e2, e3], List.map_append] at hn
          exact hn
        · refine Pick.at64 (z := (i + 1 : Nat)) (by simp) (by omega) ?_
          ((conv => whnf); repeat ((first | refine B0 ?_ | refine B1 ?_ | refine D1 ?_ | refine D2 ?_ | refine CallC.r ?_); conv => whnf))
          exact skip (by simp [confT, e1, e2, e3])
      · refine Pick.at64 (z := (i + 1 : Nat)) (by simp) (by omega) ?_
        ((conv => whnf); repeat ((first | refine B0 ?_ | refine B1 ?_ | refine D1 ?_ | refine D2 ?_ | refine CallC.r ?_); conv => whnf))
        exact skip (by simp [confT, e1, e2])
    · refine Pick.at64 (z := (i + 1 : Nat)) (by simp) (by omega) ?_
      ((conv => whnf); repeat ((first | refine B0 ?_ | refine B1 ?_ | refine D1 ?_ | refine D2 ?_ | refine CallC.r ?_); conv => whnf))
      exact skip (by simp [confT, e1])
  · have h : (allN base a b).length ≤ i := by
      simp only [List.length_map, decide_eq_false_iff_not] at h
      have hq : (nameSet [base, a, b].flatten).length = (allN base a b).length := rfl
      omega
    exact ResOK.same (by rw [List.take_of_length_le h]; rfl)

theorem flat_str (xs : List ByteArray) : flatRows (xs.map Enc.enc) := fun r hr c hc => by
  obtain ⟨x, _, rfl⟩ := List.mem_map.1 hr
  simp only [Enc.enc, List.mem_singleton] at hc
  subst hc; rfl
theorem okS_len {st : List Setting} (h : okState st = true) : st.length ≤ 24 := by
  simp only [okState, Bool.and_eq_true, decide_eq_true_eq] at h; omega
def okS3 (base a b : List Setting) : Bool := okState base && (okState a && okState b)
def conflOf (base a b : List Setting) : List ByteArray × Int := if okS3 base a b then (confs base a b, 0) else ([], 1)

theorem s_impl_ConflictsOf (base a b : List Setting) (o0 : Enc.ok base) (o1 : Enc.ok a) (o2 : Enc.ok b) : Sat Try.prog 11 [(false, Enc.enc base), (false, Enc.enc a), (false, Enc.enc b)]
    (.tup [(false, [.ds 0]), (false, [.c (.int .i64 (conflOf base a b).2)])], [(0, .deep true 1 ((conflOf base a b).1.map Enc.enc))]) := by
  refine Sat.intro tok mixed Try.func11 rfl rfl ?_
  ((conv => whnf); repeat ((first | refine B0 ?_ | refine B1 ?_ | refine D1 ?_ | refine D2 ?_ | refine CallC.r ?_); conv => whnf))
  refine Pick.mk _ (s_areStates [base, a, b] ⟨by simp [maxLen], by simp; exact ⟨o0, o1, o2⟩⟩) ?_
  ((conv => whnf); repeat ((first | refine B0 ?_ | refine B1 ?_ | refine D1 ?_ | refine D2 ?_ | refine CallC.r ?_); conv => whnf))
  refine Br.mk (fun h => ?_) (fun h => ?_) <;> ((conv => whnf); repeat ((first | refine B0 ?_ | refine B1 ?_ | refine D1 ?_ | refine D2 ?_ | refine CallC.r ?_); conv => whnf))
  · have hk : okS3 base a b = false := by
      simp only [okS3]
      simp only [List.any_cons, List.any_nil] at h
      revert h
      cases okState base <;> cases okState a <;> cases okState b <;> simp
    rw [show conflOf base a b = ([], 1) by simp [conflOf, hk]]
    exact ResOK.own rfl ⟨(fun r hr => nomatch hr), trivial⟩
  · have hk : okS3 base a b = true := by
      simp only [okS3]
      simp only [List.any_cons, List.any_nil] at h
      revert h
      cases okState base <;> cases okState a <;> cases okState b <;> simp
    have hk2 := hk
    simp only [okS3, Bool.and_eq_true] at hk2
    obtain ⟨k0, k1, k2⟩ := hk2
    refine Pick.mk _ (s_conflictsOf base a b (okState_ord k0).1 (okState_ord k1).1 (okState_ord k2).1 (okS_len k0) (okS_len k1) (okS_len k2)) ?_
    ((conv => whnf); repeat ((first | refine B0 ?_ | refine B1 ?_ | refine D1 ?_ | refine D2 ?_ | refine CallC.r ?_); conv => whnf))
    rw [show conflOf base a b = (confs base a b, 0) by simp [conflOf, hk]]
    exact ResOK.own rfl ⟨flat_str _, trivial⟩

/-! ### the reference -/
theorem geS (x e : Setting) : (!(less x.name e.name)) = (!(less x.name e.name)) := rfl
theorem s_l27Set (xs : List Setting) (e : Setting) (hb : xs.length ≤ 100) : Sat Try.prog 110 [(false, Enc.enc xs), (true, Enc.enc e)] (.one (.rs 0), [(0, .arr 2 ((insS e xs false).map Enc.enc))]) := by
  refine Sat.intro tok mixed Try.func110 rfl rfl ?_
  ((conv => whnf); repeat ((first | refine B0 ?_ | refine B1 ?_ | refine D1 ?_ | refine D2 ?_ | refine CallC.r ?_); conv => whnf))
  refine Pick.mk [0, 3, 5, 6, 7] trivial ?_
  ((conv => whnf); repeat ((first | refine B0 ?_ | refine B1 ?_ | refine D1 ?_ | refine D2 ?_ | refine CallC.r ?_); conv => whnf))
  refine LoopL.over (fun (p : Nat × Bool × List Setting) => [(6, .one (.c (.bool (p.2.1)))), (7, .one (.c (.int .i64 ((p.1 : Int)))))]) (fun (p : Nat × Bool × List Setting) => [(320, Ob.arr 2 (p.2.2.map Enc.enc))]) (fun (p : Nat × Bool × List Setting) => xs.length - p.1) (fun (p : Nat × Bool × List Setting) => p.1 ≤ xs.length ∧ p.2.2.length ≤ 2 * p.1 + 1 ∧ p.2.2 ++ insS e (xs.drop p.1) p.2.1 = insS e xs false) ?_ (0, false, []) ⟨Nat.zero_le _, by simp, by simp⟩
  intro ⟨i, dn, acc⟩ ⟨hi, hal, he⟩ ih
  simp only at hi hal he ih ⊢
  ((conv => whnf); repeat ((first | refine B0 ?_ | refine B1 ?_ | refine D1 ?_ | refine D2 ?_ | refine CallC.r ?_); conv => whnf))
  refine Br.mk (fun h => ?_) (fun h => ?_) <;> ((conv => whnf); repeat ((first | refine B0 ?_ | refine B1 ?_ | refine D1 ?_ | refine D2 ?_ | refine CallC.r ?_); conv => whnf))
  · have h : i < xs.length := by simp only [List.length_map, decide_eq_true_eq] at h; omega
    have hd : xs.drop i = xs[i] :: xs.drop (i + 1) := List.drop_eq_getElem_cons h
    rw [hd] at he
    have step := fun (dn' : Bool) (acc' : List Setting) (h1 : acc'.length ≤ 2 * (i + 1) + 1) (h2 : acc' ++ insS e (xs.drop (i + 1)) dn' = insS e xs false) => ih (i + 1, dn', acc') ⟨by simp only; omega, h1, h2⟩ (by simp only; omega)
    cases dn with
    | true =>
      ((conv => whnf); repeat ((first | refine B0 ?_ | refine B1 ?_ | refine D1 ?_ | refine D2 ?_ | refine CallC.r ?_); conv => whnf))
      refine Pick.ix (h) ?_
      ((conv => whnf); repeat ((first | refine B0 ?_ | refine B1 ?_ | refine D1 ?_ | refine D2 ?_ | refine CallC.r ?_); conv => whnf))
      refine Br.mk (fun e1 => ?_) (fun e1 => ?_) <;> ((conv => whnf); repeat ((first | refine B0 ?_ | refine B1 ?_ | refine D1 ?_ | refine D2 ?_ | refine CallC.r ?_); conv => whnf))
      · refine Pick.ix (h) ?_
        ((conv => whnf); repeat ((first | refine B0 ?_ | refine B1 ?_ | refine D1 ?_ | refine D2 ?_ | refine CallC.r ?_); conv => whnf))
        refine Side.mk (by simp; omega) ?_
        ((conv => whnf); repeat ((first | refine B0 ?_ | refine B1 ?_ | refine D1 ?_ | refine D2 ?_ | refine CallC.r ?_); conv => whnf))
        refine Pick.at64 (z := (i + 1 : Nat)) (by simp) (by omega) ?_
        ((conv => whnf); repeat ((first | refine B0 ?_ | refine B1 ?_ | refine D1 ?_ | refine D2 ?_ | refine CallC.r ?_); conv => whnf))
        have hn := step true (acc ++ [xs[i]]) (by simp; omega) (by rw [← he]; simp at e1; simp [insS, e1])
        rw [List.map_append] at hn
        exact hn
      · refine Pick.at64 (z := (i + 1 : Nat)) (by simp) (by omega) ?_
        ((conv => whnf); repeat ((first | refine B0 ?_ | refine B1 ?_ | refine D1 ?_ | refine D2 ?_ | refine CallC.r ?_); conv => whnf))
        exact step true acc (by omega) (by rw [← he]; simp at e1; simp [insS, e1])
    | false =>
      ((conv => whnf); repeat ((first | refine B0 ?_ | refine B1 ?_ | refine D1 ?_ | refine D2 ?_ | refine CallC.r ?_); conv => whnf))
      refine Pick.ix (h) ?_
      ((conv => whnf); repeat ((first | refine B0 ?_ | refine B1 ?_ | refine D1 ?_ | refine D2 ?_ | refine CallC.r ?_); conv => whnf))
      refine Br.mk (fun e0 => ?_) (fun e0 => ?_) <;> ((conv => whnf); repeat ((first | refine B0 ?_ | refine B1 ?_ | refine D1 ?_ | refine D2 ?_ | refine CallC.r ?_); conv => whnf))
      · refine Side.mk (by simp; omega) ?_
        ((conv => whnf); repeat ((first | refine B0 ?_ | refine B1 ?_ | refine D1 ?_ | refine D2 ?_ | refine CallC.r ?_); conv => whnf))
        have e0 : less xs[i].name e.name = false := by simpa [less] using e0
        refine Pick.ix (h) ?_
        ((conv => whnf); repeat ((first | refine B0 ?_ | refine B1 ?_ | refine D1 ?_ | refine D2 ?_ | refine CallC.r ?_); conv => whnf))
        refine Br.mk (fun e1 => ?_) (fun e1 => ?_) <;> ((conv => whnf); repeat ((first | refine B0 ?_ | refine B1 ?_ | refine D1 ?_ | refine D2 ?_ | refine CallC.r ?_); conv => whnf))
        · refine Pick.ix (h) ?_
          ((conv => whnf); repeat ((first | refine B0 ?_ | refine B1 ?_ | refine D1 ?_ | refine D2 ?_ | refine CallC.r ?_); conv => whnf))
          refine Side.mk (by simp; omega) ?_
          ((conv => whnf); repeat ((first | refine B0 ?_ | refine B1 ?_ | refine D1 ?_ | refine D2 ?_ | refine CallC.r ?_); conv => whnf))
          refine Pick.at64 (z := (i + 1 : Nat)) (by simp) (by omega) ?_
          ((conv => whnf); repeat ((first | refine B0 ?_ | refine B1 ?_ | refine D1 ?_ | refine D2 ?_ | refine CallC.r ?_); conv => whnf))
          have hn := step true (acc ++ [e] ++ [xs[i]]) (by simp; omega) (by rw [← he]; simp at e1; simp [insS, e1, e0])
          rw [List.map_append, List.map_append] at hn
          exact hn
        · refine Pick.at64 (z := (i + 1 : Nat)) (by simp) (by omega) ?_
          ((conv => whnf); repeat ((first | refine B0 ?_ | refine B1 ?_ | refine D1 ?_ | refine D2 ?_ | refine CallC.r ?_); conv => whnf))
          have hn := step true (acc ++ [e]) (by simp; omega) (by rw [← he]; simp at e1; simp [insS, e1, e0])
          rw [List.map_append] at hn
          exact hn
      · have e0 : less xs[i].name e.name = true := by simpa [less] using e0
        refine Pick.ix (h) ?_
        ((conv => whnf); repeat ((first | refine B0 ?_ | refine B1 ?_ | refine D1 ?_ | refine D2 ?_ | refine CallC.r ?_); conv => whnf))
        refine Br.mk (fun e1 => ?_) (fun e1 => ?_) <;> ((conv => whnf); repeat ((first | refine B0 ?_ | refine B1 ?_ | refine D1 ?_ | refine D2 ?_ | refine CallC.r ?_); conv => whnf))
        · refine Pick.ix (h) ?_
          ((conv => whnf); repeat ((first | refine B0 ?_ | refine B1 ?_ | refine D1 ?_ | refine D2 ?_ | refine CallC.r ?_); conv => whnf))
          refine Side.mk (by simp; omega) ?_
          ((conv => whnf); repeat ((first | refine B0 ?_ | refine B1 ?_ | refine D1 ?_ | refine D2 ?_ | refine CallC.r ?_); conv => whnf))
          refine Pick.at64 (z := (i + 1 : Nat)) (by simp) (by omega) ?_
          ((conv => whnf); repeat ((first | refine B0 ?_ | refine B1 ?_ | refine D1 ?_ | refine D2 ?_ | refine CallC.r ?_); conv => whnf))
          have hn := step false (acc ++ [xs[i]]) (by simp; omega) (by rw [← he]; simp at e1; simp [insS, e1, e0])
          rw [List.map_append] at hn
          exact hn
        · refine Pick.at64 (z := (i + 1 : Nat)) (by simp) (by omega) ?_
          ((conv => whnf); repeat ((first | refine B0 ?_ | refine B1 ?_ | refine D1 ?_ | refine D2 ?_ | refine CallC.r ?_); conv => whnf))
          exact step false acc (by omega) (by rw [← he]; simp at e1; simp [insS, e1, e0])
  · have h : i = xs.length := by simp only [List.length_map, decide_eq_false_iff_not] at h; omega
    subst h
    simp only [List.drop_length, insS] at he
    cases dn with
    | true =>
      ((conv => whnf); repeat ((first | refine B0 ?_ | refine B1 ?_ | refine D1 ?_ | refine D2 ?_ | refine CallC.r ?_); conv => whnf))
      exact ResOK.same (by simp at he; rw [he])
    | false =>
      ((conv => whnf); repeat ((first | refine B0 ?_ | refine B1 ?_ | refine D1 ?_ | refine D2 ?_ | refine CallC.r ?_); conv => whnf))
      refine Side.mk (by simp; omega) ?_
      ((conv => whnf); repeat ((first | refine B0 ?_ | refine B1 ?_ | refine D1 ?_ | refine D2 ?_ | refine CallC.r ?_); conv => whnf))
      exact ResOK.same (by simp at he; rw [← he]; simp; rfl)
end Go.Proofs.Ytjolahiflldepab.Pi
