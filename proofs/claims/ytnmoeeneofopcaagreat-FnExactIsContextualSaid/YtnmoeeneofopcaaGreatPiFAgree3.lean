/- The first tables that do not agree, in the reference. No statement of the seat is proved here. -/
import Derived.Test.YtnmoeeneofopcaaGreatPiFAgree2
namespace Go.Proofs.YtnmoeeneofopcaaGreat.Pi
open Go
set_option maxRecDepth 10000
set_option maxHeartbeats 6400000
set_option linter.unusedVariables false

def putTo (rows : List (List Int)) (r : List Int) (n : Nat) : List (List Int) × Bool := (rows.take n).foldl (stepPut r) ([], false)
theorem putTo_succ (rows : List (List Int)) (r : List Int) {n : Nat} (h : n < rows.length) : putTo rows r (n + 1) = stepPut r (putTo rows r n) rows[n] := by
  simp only [putTo, List.take_add_one, List.getElem?_eq_getElem h, Option.toList_some, List.foldl_append, List.foldl_cons, List.foldl_nil]
theorem putTo_len (rows : List (List Int)) (r : List Int) (n : Nat) : (putTo rows r n).1.length ≤ 2 * n := by
  have := foldPut_len r (rows.take n) ([], false)
  simp only [List.length_nil, List.length_take] at this
  simp only [putTo]; omega
theorem s_l20Put (rows : List (List Int)) (r : List Int) (hb : rows.length ≤ 65536) (hc : ∀ x ∈ rows, x.length ≤ 65536) (hr : r.length ≤ 65536) :
    Sat Tryz.prog 265 [(false, Enc.enc rows), (false, Enc.enc r)] (.one (.c (.slice 1 ((putR rows r).map Enc.enc))), []) := by
  refine Sat.intro tok mixed Tryz.func265 rfl rfl ?_
  ((conv => whnf); repeat ((first | refine B0 ?_ | refine B1 ?_ | refine D1 ?_ | refine D2 ?_ | refine CallC.r ?_); conv => whnf))
  refine Pick.mk [0, 1, 5, 6, 7] trivial ?_
  ((conv => whnf); repeat ((first | refine B0 ?_ | refine B1 ?_ | refine D1 ?_ | refine D2 ?_ | refine CallC.r ?_); conv => whnf))
  refine LoopL.over (fun (i : Nat) => [(6, .one (.c (.bool ((putTo rows r i).2)))), (7, .one (.c (.int .i64 ((i : Int)))))]) (fun (i : Nat) => [(320, .arr 1 (List.map Enc.enc ((putTo rows r i).1)))]) (fun (i : Nat) => rows.length - i) (fun (i : Nat) => i ≤ rows.length) ?_ 0 (Nat.zero_le _)
  intro i g1 ih
  have hpl := putTo_len rows r i
  ((conv => whnf); repeat ((first | refine B0 ?_ | refine B1 ?_ | refine D1 ?_ | refine D2 ?_ | refine CallC.r ?_); conv => whnf))
  refine Br.mk (fun h => ?_) (fun h => ?_) <;> ((conv => whnf); repeat ((first | refine B0 ?_ | refine B1 ?_ | refine D1 ?_ | refine D2 ?_ | refine CallC.r ?_); conv => whnf))
  · have h : i < rows.length := by simp only [List.length_map, decide_eq_true_eq] at h; omega
    have es := putTo_succ rows r h
    generalize putTo rows r i = S at es hpl ⊢
    obtain ⟨out, d⟩ := S
    simp only at hpl
    refine Pick.ix (h) ?_
    ((conv => whnf); repeat ((first | refine B0 ?_ | refine B1 ?_ | refine D1 ?_ | refine D2 ?_ | refine CallC.r ?_); conv => whnf))
    refine Pick.mk _ (s_l00Same rows[i] r (by have := hc _ (List.getElem_mem h); simp only [maxLen]; omega)) ?_
    ((conv => whnf); repeat ((first | refine B0 ?_ | refine B1 ?_ | refine D1 ?_ | refine D2 ?_ | refine CallC.r ?_); conv => whnf))
    rw [sameI]
    refine Br.mk (fun he => ?_) (fun he => ?_) <;> ((conv => whnf); repeat ((first | refine B0 ?_ | refine B1 ?_ | refine D1 ?_ | refine D2 ?_ | refine CallC.r ?_); conv => whnf))
    · have he : rows[i] = r := by simpa using he
      rw [stepPut, if_pos (.inr he)] at es
      refine Pick.ix (h) ?_
      ((conv => whnf); repeat ((first | refine B0 ?_ | refine B1 ?_ | refine D1 ?_ | refine D2 ?_ | refine CallC.r ?_); conv => whnf))
      refine Side.mk (by simp only [List.length_map, List.length_cons, List.length_nil]; omega) ?_
      ((conv => whnf); repeat ((first | refine B0 ?_ | refine B1 ?_ | refine D1 ?_ | refine D2 ?_ | refine CallC.r ?_); conv => whnf))
      refine Pick.at64 (z := (i + 1 : Nat)) (by simp) (by omega) ?_
      ((conv => whnf); repeat ((first | refine B0 ?_ | refine B1 ?_ | refine D1 ?_ | refine D2 ?_ | refine CallC.r ?_); conv => whnf))
      have hn := ih (i + 1) (by omega) (by omega)
      rw [es] at hn
      simp only [List.map_append] at hn
      exact hn
    · have he : rows[i] ≠ r := by simpa using he
      refine Br.mk (fun hd => ?_) (fun hd => ?_) <;> ((conv => whnf); repeat ((first | refine B0 ?_ | refine B1 ?_ | refine D1 ?_ | refine D2 ?_ | refine CallC.r ?_); conv => whnf))
      · have hd : d = false := by simpa using hd
        subst hd
        rw [stepPut, if_neg (fun h => h.elim (fun h => by cases h) he)] at es
        refine Pick.ix (h) ?_
        ((conv => whnf); repeat ((first | refine B0 ?_ | refine B1 ?_ | refine D1 ?_ | refine D2 ?_ | refine CallC.r ?_); conv => whnf))
        refine Pick.mk _ (s_l16Before r rows[i] (by omega) (by have := hc _ (List.getElem_mem h); omega)) ?_
        ((conv => whnf); repeat ((first | refine B0 ?_ | refine B1 ?_ | refine D1 ?_ | refine D2 ?_ | refine CallC.r ?_); conv => whnf))
        refine Br.mk (fun hlt => ?_) (fun hlt => ?_) <;> ((conv => whnf); repeat ((first | refine B0 ?_ | refine B1 ?_ | refine D1 ?_ | refine D2 ?_ | refine CallC.r ?_); conv => whnf))
        · have hlt : cmpL r rows[i] < 0 := by simpa using hlt
          rw [if_pos hlt] at es
          refine Pick.mk _ (s_l00Own r (by omega)) ?_
          ((conv => whnf); repeat ((first | refine B0 ?_ | refine B1 ?_ | refine D1 ?_ | refine D2 ?_ | refine CallC.r ?_); conv => whnf))
          refine Pick.mk (some false) trivial ?_
          ((conv => whnf); repeat ((first | refine B0 ?_ | refine B1 ?_ | refine D1 ?_ | refine D2 ?_ | refine CallC.r ?_); conv => whnf))
          refine Side.mk (by simp only [List.length_map, List.length_cons, List.length_nil]; omega) ?_
          ((conv => whnf); repeat ((first | refine B0 ?_ | refine B1 ?_ | refine D1 ?_ | refine D2 ?_ | refine CallC.r ?_); conv => whnf))
          refine Pick.ix (h) ?_
          ((conv => whnf); repeat ((first | refine B0 ?_ | refine B1 ?_ | refine D1 ?_ | refine D2 ?_ | refine CallC.r ?_); conv => whnf))
          refine Side.mk (by simp only [List.length_map, List.length_append, List.length_cons, List.length_nil]; omega) ?_
          ((conv => whnf); repeat ((first | refine B0 ?_ | refine B1 ?_ | refine D1 ?_ | refine D2 ?_ | refine CallC.r ?_); conv => whnf))
          refine Pick.at64 (z := (i + 1 : Nat)) (by simp) (by omega) ?_
          ((conv => whnf); repeat ((first | refine B0 ?_ | refine B1 ?_ | refine D1 ?_ | refine D2 ?_ | refine CallC.r ?_); conv => whnf))
          have hn := ih (i + 1) (by omega) (by omega)
          rw [es] at hn
          simp only [List.map_append] at hn
          exact hn
        · have hlt : ¬ cmpL r rows[i] < 0 := by simpa using hlt
          rw [if_neg hlt] at es
          refine Pick.ix (h) ?_
          ((conv => whnf); repeat ((first | refine B0 ?_ | refine B1 ?_ | refine D1 ?_ | refine D2 ?_ | refine CallC.r ?_); conv => whnf))
          refine Side.mk (by simp only [List.length_map, List.length_cons, List.length_nil]; omega) ?_
          ((conv => whnf); repeat ((first | refine B0 ?_ | refine B1 ?_ | refine D1 ?_ | refine D2 ?_ | refine CallC.r ?_); conv => whnf))
          refine Pick.at64 (z := (i + 1 : Nat)) (by simp) (by omega) ?_
          ((conv => whnf); repeat ((first | refine B0 ?_ | refine B1 ?_ | refine D1 ?_ | refine D2 ?_ | refine CallC.r ?_); conv => whnf))
          have hn := ih (i + 1) (by omega) (by omega)
          rw [es] at hn
          simp only [List.map_append] at hn
          exact hn
      · have hd : d = true := by simpa using hd
        subst hd
        rw [stepPut, if_pos (.inl rfl)] at es
        refine Pick.ix (h) ?_
        ((conv => whnf); repeat ((first | refine B0 ?_ | refine B1 ?_ | refine D1 ?_ | refine D2 ?_ | refine CallC.r ?_); conv => whnf))
        refine Side.mk (by simp only [List.length_map, List.length_cons, List.length_nil]; omega) ?_
        ((conv => whnf); repeat ((first | refine B0 ?_ | refine B1 ?_ | refine D1 ?_ | refine D2 ?_ | refine CallC.r ?_); conv => whnf))
        refine Pick.at64 (z := (i + 1 : Nat)) (by simp) (by omega) ?_
        ((conv => whnf); repeat ((first | refine B0 ?_ | refine B1 ?_ | refine D1 ?_ | refine D2 ?_ | refine CallC.r ?_); conv => whnf))
        have hn := ih (i + 1) (by omega) (by omega)
        rw [es] at hn
        simp only [List.map_append] at hn
        exact hn
  · have h : i = rows.length := by simp only [List.length_map, decide_eq_false_iff_not] at h; omega
    subst h
    have ef : putR rows r = finPut r (putTo rows r rows.length) := by rw [putR, putTo, List.take_length]
    rw [ef]
    generalize putTo rows r rows.length = S at hpl ⊢
    obtain ⟨out, d⟩ := S
    simp only at hpl
    refine Br.mk (fun hd => ?_) (fun hd => ?_) <;> ((conv => whnf); repeat ((first | refine B0 ?_ | refine B1 ?_ | refine D1 ?_ | refine D2 ?_ | refine CallC.r ?_); conv => whnf))
    · have hd : d = false := by simpa using hd
      subst hd
      refine Pick.mk _ (s_l00Own r (by omega)) ?_
      ((conv => whnf); repeat ((first | refine B0 ?_ | refine B1 ?_ | refine D1 ?_ | refine D2 ?_ | refine CallC.r ?_); conv => whnf))
      refine Pick.mk (some false) trivial ?_
      ((conv => whnf); repeat ((first | refine B0 ?_ | refine B1 ?_ | refine D1 ?_ | refine D2 ?_ | refine CallC.r ?_); conv => whnf))
      refine Side.mk (by simp only [List.length_map, List.length_cons, List.length_nil]; omega) ?_
      ((conv => whnf); repeat ((first | refine B0 ?_ | refine B1 ?_ | refine D1 ?_ | refine D2 ?_ | refine CallC.r ?_); conv => whnf))
      rw [show finPut r (out, false) = out ++ [r] from rfl, List.map_append]
      exact ResOK.frz rfl rfl
    · have hd : d = true := by simpa using hd
      subst hd
      exact ResOK.frz rfl rfl
def putAll (t : Table) (cs : List Int) (n : Nat) : List (List Int) := ((projRows t cs).take n).foldl putR []
theorem putAll_succ (t : Table) (cs : List Int) {n : Nat} (h : n < t.rows.length) : putAll t cs (n + 1) = putR (putAll t cs n) (cs.map (cellOf t.columns t.rows[n])) := by
  have h2 : n < (projRows t cs).length := by simpa [projRows] using h
  have e : (projRows t cs)[n] = cs.map (cellOf t.columns t.rows[n]) := by simp [projRows]
  simp only [putAll, List.take_add_one, List.getElem?_eq_getElem h2, Option.toList_some, List.foldl_append, List.foldl_cons, List.foldl_nil, e]
theorem putAll_small (t : Table) (cs : List Int) : ∀ {n : Nat}, n ≤ t.rows.length → n ≤ 1024 → (putAll t cs n).length ≤ n ∧ ∀ x ∈ putAll t cs n, x.length = cs.length := fun {n} h h2 => by
  have e : putAll t cs n = onceL ((projRows t cs).take n) := put_once _
  rw [e]
  refine ⟨?_, fun x hx => ?_⟩
  · have h1 : (cptL (srtL ((projRows t cs).take n))).length ≤ (srtL ((projRows t cs).take n)).length := cptN_len _ _
    rw [srtL_len, List.length_take] at h1
    show (cptL (srtL ((projRows t cs).take n))).length ≤ n
    omega
  · rw [once_mem] at hx
    obtain ⟨r, _, rfl⟩ := List.mem_map.1 (List.mem_of_mem_take hx)
    simp
theorem s_l20Project (t : Table) (cs : List Int) (ht : SmallT t) (hc : cs.length ≤ 64) :
    Sat Tryz.prog 183 [(false, [.ptr 2 (Enc.enc t)]), (false, Enc.enc cs)] (.agg [.c (.slice 1 (cs.map Enc.enc)), .c (.slice 1 ((onceL (projRows t cs)).map Enc.enc))], []) := by
  have hrl := ht.rows
  have hcl := ht.cols
  have hpl : (projRows t cs).length = t.rows.length := by simp [projRows]
  refine Sat.intro tok mixed Tryz.func183 rfl rfl ?_
  ((conv => whnf); repeat ((first | refine B0 ?_ | refine B1 ?_ | refine D1 ?_ | refine D2 ?_ | refine CallC.r ?_); conv => whnf))
  refine Pick.mk _ (s_l00Own cs (by omega)) ?_
  ((conv => whnf); repeat ((first | refine B0 ?_ | refine B1 ?_ | refine D1 ?_ | refine D2 ?_ | refine CallC.r ?_); conv => whnf))
  refine Pick.mk [0, 1, 4, 5, 6, 1000640, 1000704] trivial ?_
  ((conv => whnf); repeat ((first | refine B0 ?_ | refine B1 ?_ | refine D1 ?_ | refine D2 ?_ | refine CallC.r ?_); conv => whnf))
  refine LoopL.over (fun (i : Nat) => [(6, .one (.c (.int .i64 ((i : Int)))))]) (fun (i : Nat) => [(320, .box [.c (.slice 1 (cs.map Enc.enc)), .c (.slice 1 ((putAll t cs i).map Enc.enc))])]) (fun (i : Nat) => t.rows.length - i) (fun (i : Nat) => i ≤ t.rows.length) ?_ 0 (Nat.zero_le _)
  intro i g1 ih
  ((conv => whnf); repeat ((first | refine B0 ?_ | refine B1 ?_ | refine D1 ?_ | refine D2 ?_ | refine CallC.r ?_); conv => whnf))
  refine Br.mk (fun h => ?_) (fun h => ?_) <;> ((conv => whnf); repeat ((first | refine B0 ?_ | refine B1 ?_ | refine D1 ?_ | refine D2 ?_ | refine CallC.r ?_); conv => whnf))
  · have h : i < t.rows.length := by simp only [List.length_map, decide_eq_true_eq] at h; omega
    have hps := putAll_small t cs g1 (by omega)
    refine Pick.mk [0, 1, 4, 5, 6, 7, 8] trivial ?_
    ((conv => whnf); repeat ((first | refine B0 ?_ | refine B1 ?_ | refine D1 ?_ | refine D2 ?_ | refine CallC.r ?_); conv => whnf))
    refine LoopL.over (fun (k : Nat) => [(8, .one (.c (.int .i64 ((k : Int)))))]) (fun (k : Nat) => [(448, .arr 1 (List.map Enc.enc ((cs.take k).map (cellOf t.columns t.rows[i]))))]) (fun (k : Nat) => cs.length - k) (fun (k : Nat) => k ≤ cs.length) ?_ 0 (Nat.zero_le _)
    intro k f1 ih2
    ((conv => whnf); repeat ((first | refine B0 ?_ | refine B1 ?_ | refine D1 ?_ | refine D2 ?_ | refine CallC.r ?_); conv => whnf))
    refine Br.mk (fun hk => ?_) (fun hk => ?_) <;> ((conv => whnf); repeat ((first | refine B0 ?_ | refine B1 ?_ | refine D1 ?_ | refine D2 ?_ | refine CallC.r ?_); conv => whnf))
    · have hk : k < cs.length := by simp only [List.length_map, decide_eq_true_eq] at hk; omega
      refine Pick.ix (h) ?_
      ((conv => whnf); repeat ((first | refine B0 ?_ | refine B1 ?_ | refine D1 ?_ | refine D2 ?_ | refine CallC.r ?_); conv => whnf))
      refine Pick.ix (hk) ?_
      ((conv => whnf); repeat ((first | refine B0 ?_ | refine B1 ?_ | refine D1 ?_ | refine D2 ?_ | refine CallC.r ?_); conv => whnf))
      refine Pick.mk _ (s_l20Cell t.columns t.rows[i] cs[k] (by simp only [maxLen]; omega) (by rw [ht.len _ (List.getElem_mem h)]; exact Nat.le_refl _)) ?_
      ((conv => whnf); repeat ((first | refine B0 ?_ | refine B1 ?_ | refine D1 ?_ | refine D2 ?_ | refine CallC.r ?_); conv => whnf))
      refine Side.mk (by simp only [List.length_map, List.length_take, List.length_cons, List.length_nil]; omega) ?_
      ((conv => whnf); repeat ((first | refine B0 ?_ | refine B1 ?_ | refine D1 ?_ | refine D2 ?_ | refine CallC.r ?_); conv => whnf))
      refine Pick.at64 (z := (k + 1 : Nat)) (by simp) (by omega) ?_
      ((conv => whnf); repeat ((first | refine B0 ?_ | refine B1 ?_ | refine D1 ?_ | refine D2 ?_ | refine CallC.r ?_); conv => whnf))
      have hn := ih2 (k + 1) (by omega) (by omega)
      rw [List.take_add_one, List.getElem?_eq_getElem hk, Option.toList_some, List.map_append, List.map_append] at hn
      exact hn
    · have hk : k = cs.length := by simp only [List.length_map, decide_eq_false_iff_not] at hk; omega
      subst hk
      rw [List.take_length]
      refine Pick.mk _ (s_l20Put (putAll t cs i) (cs.map (cellOf t.columns t.rows[i])) (by omega) (fun x hx => by rw [hps.2 x hx]; omega) (by rw [List.length_map]; omega)) ?_
      ((conv => whnf); repeat ((first | refine B0 ?_ | refine B1 ?_ | refine D1 ?_ | refine D2 ?_ | refine CallC.r ?_); conv => whnf))
      refine Pick.at64 (z := (i + 1 : Nat)) (by simp) (by omega) ?_
      ((conv => whnf); repeat ((first | refine B0 ?_ | refine B1 ?_ | refine D1 ?_ | refine D2 ?_ | refine CallC.r ?_); conv => whnf))
      have hn := ih (i + 1) (by omega) (by omega)
      rw [putAll_succ t cs h] at hn
      exact hn
  · have h : i = t.rows.length := by simp only [List.length_map, decide_eq_false_iff_not] at h; omega
    subst h
    have e : putAll t cs t.rows.length = onceL (projRows t cs) := by
      rw [putAll, List.take_of_length_le (by omega)]; exact put_once _
    rw [e]
    exact ResOK.same rfl
theorem s_l20Same (cs : List Int) (xs ys : List (List Int)) (hc : cs.length ≤ 64) (hb : xs.length ≤ 1024) (o : Enc.ok xs) :
    Sat Tryz.prog 254 [(false, [.ptr 2 [.slice 1 (cs.map Enc.enc), .slice 1 (xs.map Enc.enc)]]), (false, [.ptr 2 [.slice 1 (cs.map Enc.enc), .slice 1 (ys.map Enc.enc)]])] (.one (.c (.bool (decide (xs = ys)))), []) := by
  refine Sat.intro tok mixed Tryz.func254 rfl rfl ?_
  ((conv => whnf); repeat ((first | refine B0 ?_ | refine B1 ?_ | refine D1 ?_ | refine D2 ?_ | refine CallC.r ?_); conv => whnf))
  refine Pick.mk _ (s_l00Same cs cs (by simp only [maxLen]; omega)) ?_
  ((conv => whnf); repeat ((first | refine B0 ?_ | refine B1 ?_ | refine D1 ?_ | refine D2 ?_ | refine CallC.r ?_); conv => whnf))
  rw [sameI, decide_eq_true rfl]
  refine Br.mk (fun _ => ?_) (fun h => by cases h)
  ((conv => whnf); repeat ((first | refine B0 ?_ | refine B1 ?_ | refine D1 ?_ | refine D2 ?_ | refine CallC.r ?_); conv => whnf))
  refine Pick.mk _ (s_l04SameRows xs ys (by simp only [maxLen]; omega) o) ?_
  ((conv => whnf); repeat ((first | refine B0 ?_ | refine B1 ?_ | refine D1 ?_ | refine D2 ?_ | refine CallC.r ?_); conv => whnf))
  rw [sameII]
  exact ResOK.same rfl
theorem common_take (a b : List Int) {n : Nat} (h : n < a.length) : common (a.take (n + 1)) b = if b.contains a[n] = true then common (a.take n) b ++ [a[n]] else common (a.take n) b := by
  simp only [common, List.take_add_one, List.getElem?_eq_getElem h, Option.toList_some, List.filter_append, List.filter_cons, List.filter_nil]
  split <;> simp
theorem s_l20Agree (a b : Table) (ha : SmallT a) (hb : SmallT b) :
    Sat Tryz.prog 177 [(false, [.ptr 2 (Enc.enc a)]), (false, [.ptr 2 (Enc.enc b)])] (.one (.c (.bool (agreeB a b))), []) := by
  obtain ⟨h1, h2, h3⟩ := common_sub a.columns b.columns
  have ac := ha.cols
  have bc := hb.cols
  have hoa := once_small ha (common a.columns b.columns)
  refine Sat.intro tok mixed Tryz.func177 rfl rfl ?_
  ((conv => whnf); repeat ((first | refine B0 ?_ | refine B1 ?_ | refine D1 ?_ | refine D2 ?_ | refine CallC.r ?_); conv => whnf))
  refine Pick.mk [0, 1, 5, 6] trivial ?_
  ((conv => whnf); repeat ((first | refine B0 ?_ | refine B1 ?_ | refine D1 ?_ | refine D2 ?_ | refine CallC.r ?_); conv => whnf))
  refine LoopL.over (fun (i : Nat) => [(6, .one (.c (.int .i64 ((i : Int)))))]) (fun (i : Nat) => [(320, .arr 1 (List.map Enc.enc (common (a.columns.take i) b.columns)))]) (fun (i : Nat) => a.columns.length - i) (fun (i : Nat) => i ≤ a.columns.length) ?_ 0 (Nat.zero_le _)
  intro i g1 ih
  have hcl := (common_sub (a.columns.take i) b.columns).2.2
  rw [List.length_take] at hcl
  ((conv => whnf); repeat ((first | refine B0 ?_ | refine B1 ?_ | refine D1 ?_ | refine D2 ?_ | refine CallC.r ?_); conv => whnf))
  refine Br.mk (fun h => ?_) (fun h => ?_) <;> ((conv => whnf); repeat ((first | refine B0 ?_ | refine B1 ?_ | refine D1 ?_ | refine D2 ?_ | refine CallC.r ?_); conv => whnf))
  · have h : i < a.columns.length := by simp only [List.length_map, decide_eq_true_eq] at h; omega
    have es := common_take a.columns b.columns h
    refine Pick.ix (h) ?_
    ((conv => whnf); repeat ((first | refine B0 ?_ | refine B1 ?_ | refine D1 ?_ | refine D2 ?_ | refine CallC.r ?_); conv => whnf))
    refine Pick.mk _ (s_l00Has b.columns a.columns[i] (by simp only [maxLen]; omega)) ?_
    ((conv => whnf); repeat ((first | refine B0 ?_ | refine B1 ?_ | refine D1 ?_ | refine D2 ?_ | refine CallC.r ?_); conv => whnf))
    rw [any_contains]
    refine Br.mk (fun hh => ?_) (fun hh => ?_) <;> ((conv => whnf); repeat ((first | refine B0 ?_ | refine B1 ?_ | refine D1 ?_ | refine D2 ?_ | refine CallC.r ?_); conv => whnf))
    · rw [if_pos hh] at es
      refine Pick.ix (h) ?_
      ((conv => whnf); repeat ((first | refine B0 ?_ | refine B1 ?_ | refine D1 ?_ | refine D2 ?_ | refine CallC.r ?_); conv => whnf))
      refine Side.mk (by simp only [List.length_map, List.length_cons, List.length_nil]; omega) ?_
      ((conv => whnf); repeat ((first | refine B0 ?_ | refine B1 ?_ | refine D1 ?_ | refine D2 ?_ | refine CallC.r ?_); conv => whnf))
      refine Pick.at64 (z := (i + 1 : Nat)) (by simp) (by omega) ?_
      ((conv => whnf); repeat ((first | refine B0 ?_ | refine B1 ?_ | refine D1 ?_ | refine D2 ?_ | refine CallC.r ?_); conv => whnf))
      have hn := ih (i + 1) (by omega) (by omega)
      rw [es, List.map_append] at hn
      exact hn
    · rw [if_neg (by rw [hh]; simp)] at es
      refine Pick.at64 (z := (i + 1 : Nat)) (by simp) (by omega) ?_
      ((conv => whnf); repeat ((first | refine B0 ?_ | refine B1 ?_ | refine D1 ?_ | refine D2 ?_ | refine CallC.r ?_); conv => whnf))
      have hn := ih (i + 1) (by omega) (by omega)
      rw [es] at hn
      exact hn
  · have h : i = a.columns.length := by simp only [List.length_map, decide_eq_false_iff_not] at h; omega
    subst h
    rw [List.take_length]
    refine Pick.mk _ (s_l20Project a (common a.columns b.columns) ha (by omega)) ?_
    ((conv => whnf); repeat ((first | refine B0 ?_ | refine B1 ?_ | refine D1 ?_ | refine D2 ?_ | refine CallC.r ?_); conv => whnf))
    refine Pick.mk _ (s_l20Project b (common a.columns b.columns) hb (by omega)) ?_
    ((conv => whnf); repeat ((first | refine B0 ?_ | refine B1 ?_ | refine D1 ?_ | refine D2 ?_ | refine CallC.r ?_); conv => whnf))
    refine Pick.mk _ (s_l20Same (common a.columns b.columns) (onceL (projRows a (common a.columns b.columns))) (onceL (projRows b (common a.columns b.columns))) (by omega) (by omega) (ok_small hoa.1 (fun x hx => by rw [hoa.2 x hx]; omega) (once_ok ha (common a.columns b.columns)))) ?_
    ((conv => whnf); repeat ((first | refine B0 ?_ | refine B1 ?_ | refine D1 ?_ | refine D2 ?_ | refine CallC.r ?_); conv => whnf))
    exact ResOK.same rfl
end Go.Proofs.YtnmoeeneofopcaaGreat.Pi
