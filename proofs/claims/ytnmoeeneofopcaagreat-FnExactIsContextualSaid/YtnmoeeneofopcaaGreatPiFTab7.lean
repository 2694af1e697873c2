/- All columns; all global rows; the reference and the program. No statement of the seat is proved here. -/
import Derived.Test.YtnmoeeneofopcaaGreatPiFTab6
import Derived.Test.YtnmoeeneofopcaaGreatPiTabC
import Derived.Test.YtnmoeeneofopcaaGreatPiLayI
namespace Go.Proofs.YtnmoeeneofopcaaGreat.Pi
open Go
set_option maxRecDepth 10000
set_option maxHeartbeats 6400000
set_option linter.unusedVariables false

theorem flat_len {l : List Table} {n : Nat} (h : ∀ t ∈ l, t.columns.length ≤ n) : (l.flatMap (·.columns)).length ≤ l.length * n := by
  induction l with
  | nil => simp
  | cons t l ih =>
    have h1 := ih fun x hx => h x (List.mem_cons_of_mem _ hx)
    have h2 := h t (by simp)
    simp only [List.flatMap_cons, List.length_append, List.length_cons, Nat.add_mul]
    omega
theorem s_allColumns (l : List Table) (hl : l.length ≤ 6) (hc : ∀ t ∈ l, t.columns.length ≤ 8) : Sat Tryz.prog 179 [(false, Enc.enc l)] (.one (.rs 0), [(0, .arr 1 ((colsI l).map Enc.enc))]) := by
  have hlen : ∀ i, ((l.take i).flatMap (·.columns)).length ≤ 48 := fun i => by
    have h1 := flat_len (l := l.take i) (n := 8) fun t ht => hc t (List.mem_of_mem_take ht)
    have h2 : (l.take i).length ≤ 6 := by rw [List.length_take]; omega
    omega
  refine Sat.intro tok mixed Tryz.func179 rfl rfl ?_
  ((conv => whnf); repeat ((first | refine B0 ?_ | refine B1 ?_ | refine D1 ?_ | refine D2 ?_ | refine CallC.r ?_); conv => whnf))
  refine Pick.mk [3, 6, 7, 8] trivial ?_
  ((conv => whnf); repeat ((first | refine B0 ?_ | refine B1 ?_ | refine D1 ?_ | refine D2 ?_ | refine CallC.r ?_); conv => whnf))
  refine LoopL.over (fun (i : Nat) => [(8, .one (.c (.int .i64 ((i : Int)))))]) (fun (i : Nat) => [(192, .arr 1 (List.map Enc.enc ((l.take i).flatMap (·.columns))))]) (fun (i : Nat) => l.length - i) (fun (i : Nat) => i ≤ l.length) ?_ 0 (Nat.zero_le _)
  intro i g1 ih
  ((conv => whnf); repeat ((first | refine B0 ?_ | refine B1 ?_ | refine D1 ?_ | refine D2 ?_ | refine CallC.r ?_); conv => whnf))
  refine Br.mk (fun h => ?_) (fun h => ?_)
  · ((conv => whnf); repeat ((first | refine B0 ?_ | refine B1 ?_ | refine D1 ?_ | refine D2 ?_ | refine CallC.r ?_); conv => whnf))
    have h : i < l.length := by simp only [List.length_map, decide_eq_true_eq] at h; omega
    have h2 := hc _ (List.getElem_mem h)
    have h3 := hlen i
    refine Pick.ix (h) ?_
    ((conv => whnf); repeat ((first | refine B0 ?_ | refine B1 ?_ | refine D1 ?_ | refine D2 ?_ | refine CallC.r ?_); conv => whnf))
    refine Side.mk (by simp only [List.length_map]; omega) ?_
    ((conv => whnf); repeat ((first | refine B0 ?_ | refine B1 ?_ | refine D1 ?_ | refine D2 ?_ | refine CallC.r ?_); conv => whnf))
    refine Pick.at64 (z := (i + 1 : Nat)) (by simp) (by omega) ?_
    ((conv => whnf); repeat ((first | refine B0 ?_ | refine B1 ?_ | refine D1 ?_ | refine D2 ?_ | refine CallC.r ?_); conv => whnf))
    have hn := ih (i + 1) (by omega) (by omega)
    rw [List.take_add_one, List.getElem?_eq_getElem h, Option.toList_some, List.flatMap_append, List.map_append] at hn
    simp only [List.flatMap_cons, List.flatMap_nil, List.append_nil] at hn
    exact hn
  · have h : i = l.length := by simp only [List.length_map, decide_eq_false_iff_not] at h; omega
    subst h
    have h3 := hlen l.length
    rw [List.take_length] at h3
    ((conv => whnf); repeat ((first | refine B0 ?_ | refine B1 ?_ | refine D1 ?_ | refine D2 ?_); conv => whnf))
    refine CallC.x ?_
    ((conv => whnf); repeat ((first | refine B0 ?_ | refine B1 ?_ | refine D1 ?_ | refine D2 ?_); conv => whnf))
    have hso := s_SortI (l.flatMap (·.columns)) (by omega)
    have hsl : (srtI (l.flatMap (·.columns))).length = (l.flatMap (·.columns)).length := List.length_mergeSort _
    refine Pick.mk _ (by rw [List.take_length]; exact hso) ?_
    ((conv => whnf); repeat ((first | refine B0 ?_ | refine B1 ?_ | refine D1 ?_ | refine D2 ?_); conv => whnf))
    refine Side.mk (by rw [List.take_length]; simp [hsl]) ?_
    ((conv => whnf); repeat ((first | refine B0 ?_ | refine B1 ?_ | refine D1 ?_ | refine D2 ?_); conv => whnf))
    refine CallC.x ?_
    ((conv => whnf); repeat ((first | refine B0 ?_ | refine B1 ?_ | refine D1 ?_ | refine D2 ?_); conv => whnf))
    refine Pick.mk _ (s_CompactI (srtI (l.flatMap (·.columns))) (by omega)) ?_
    ((conv => whnf); repeat ((first | refine B0 ?_ | refine B1 ?_ | refine D1 ?_ | refine D2 ?_ | refine CallC.r ?_); conv => whnf))
    exact ResOK.same rfl

/-- The program's search and its code. -/
def gEnd (l : List Table) (bud : Int) : Srch := srchI (supI l (colsR l)) (colsR l).length ⟨bud, false, [], []⟩
def gCode (l : List Table) (bud : Int) : Int := if okTables l = true then (if okBudget bud = true then (if (gEnd l bud).spent = true then 5 else 0) else 2) else 1
theorem tabs_ok {l : List Table} (h : okTables l = true) : TabsOK l (colsR l) ∧ l.all okTable = true := by
  simp only [okTables, Bool.and_eq_true, decide_eq_true_eq] at h
  have h2 := List.all_eq_true.1 h.2
  exact ⟨⟨h.1, by have := colsR_len h.2; omega, fun t ht => (okTable_cols (h2 t ht)).2.2.2, fun t ht => (okTable_cols (h2 t ht)).2.2.1, fun t ht r hr => (okTable_row (h2 t ht) hr).1⟩, h.2⟩
theorem s_globalRows_no (l : List Table) (o : Enc.ok l) (hr : ∀ t ∈ l, ∀ r ∈ t.rows, r.length ≤ 1048576) (bud : Int) (h : gCode l bud ≠ 0) : Sat Tryz.prog 93 [(false, Enc.enc l), (false, [.int .i64 bud])] (.tup [(false, [.c (.ptr 0 [])]), (false, [.c (.int .i64 (gCode l bud))])], []) := by
  refine Sat.intro tok mixed Tryz.func93 rfl rfl ?_
  ((conv => whnf); repeat ((first | refine B0 ?_ | refine B1 ?_ | refine D1 ?_ | refine D2 ?_ | refine CallC.r ?_); conv => whnf))
  refine Pick.mk _ (s_ValidTables l o hr) ?_
  ((conv => whnf); repeat ((first | refine B0 ?_ | refine B1 ?_ | refine D1 ?_ | refine D2 ?_ | refine CallC.r ?_); conv => whnf))
  refine Br.mk (fun h1 => ?_) (fun h1 => ?_) <;> ((conv => whnf); repeat ((first | refine B0 ?_ | refine B1 ?_ | refine D1 ?_ | refine D2 ?_ | refine CallC.r ?_); conv => whnf))
  · exact ResOK.same (by simp only [Bool.not_eq_true'] at h1; simp [gCode, h1])
  simp only [Bool.not_eq_false'] at h1
  refine Pick.mk _ (s_isBudget bud) ?_
  ((conv => whnf); repeat ((first | refine B0 ?_ | refine B1 ?_ | refine D1 ?_ | refine D2 ?_ | refine CallC.r ?_); conv => whnf))
  refine Br.mk (fun h2 => ?_) (fun h2 => ?_) <;> ((conv => whnf); repeat ((first | refine B0 ?_ | refine B1 ?_ | refine D1 ?_ | refine D2 ?_ | refine CallC.r ?_); conv => whnf))
  · exact ResOK.same (by simp only [Bool.not_eq_true'] at h2; simp [gCode, h1, h2])
  simp only [Bool.not_eq_false'] at h2
  have h3 : (gEnd l bud).spent = true := by
    cases hs : (gEnd l bud).spent with
    | true => rfl
    | false => exact absurd (by simp [gCode, h1, h2, hs]) h
  have e5 : gCode l bud = 5 := by simp [gCode, h1, h2, h3]
  obtain ⟨hT, hall⟩ := tabs_ok h1
  have hb : 1 ≤ bud ∧ bud ≤ 20000 := by simpa [okBudget] using h2
  have hac := (s_allColumns l hT.len hT.cols).frz rfl
  rw [cols_same] at hac
  refine Pick.mk _ hac ?_
  ((conv => whnf); repeat ((first | refine B0 ?_ | refine B1 ?_ | refine D1 ?_ | refine D2 ?_); conv => whnf))
  refine CallC.r (CallC.x ?_)
  refine Pick.mk [1252, 1253] trivial ?_
  ((conv => whnf); repeat ((first | refine B0 ?_ | refine B1 ?_ | refine D1 ?_ | refine D2 ?_); conv => whnf))
  have hs := s_search l (colsR l) hT (colsR l).length ⟨bud, false, [], []⟩ rfl (by simp) (by show 0 ≤ bud; omega) (by show bud ≤ 1048576; omega) (by show (([] : List (List Int)).length : Int) + bud + 1 ≤ 65536; simp; omega)
  have eG : srchI (supI l (colsR l)) (colsR l).length ⟨bud, false, [], []⟩ = gEnd l bud := rfl
  rw [eG] at hs
  rw [e5]
  generalize gEnd l bud = G at hs h3
  simp only [gHeap, List.map_nil] at hs
  refine Pick.mk _ hs ?_
  ((conv => whnf); repeat ((first | refine B0 ?_ | refine B1 ?_ | refine D1 ?_ | refine D2 ?_ | refine CallC.r ?_); conv => whnf))
  rw [h3]
  refine Br.mk (fun _ => ?_) (fun h => absurd h (by simp))
  ((conv => whnf); repeat ((first | refine B0 ?_ | refine B1 ?_ | refine D1 ?_ | refine D2 ?_ | refine CallC.r ?_); conv => whnf))
  exact ResOK.same rfl
theorem s_globalRows (l : List Table) (o : Enc.ok l) (hr : ∀ t ∈ l, ∀ r ∈ t.rows, r.length ≤ 1048576) (bud : Int) (h : gCode l bud = 0) : Sat Tryz.prog 93 [(false, Enc.enc l), (false, [.int .i64 bud])] (.tup [(false, [.c (.ptr 6 (gCells l (colsR l) (gEnd l bud)))]), (false, [.c (.int .i64 0)])], []) := by
  have h1 : okTables l = true := by
    simp only [gCode] at h
    split at h
    · assumption
    · cases h
  have h2 : okBudget bud = true := by
    simp only [gCode, h1, if_true] at h
    split at h
    · assumption
    · cases h
  have h3 : (gEnd l bud).spent = false := by
    simp only [gCode, h1, h2, if_true] at h
    cases hs : (gEnd l bud).spent with
    | false => rfl
    | true => rw [hs] at h; cases h
  obtain ⟨hT, hall⟩ := tabs_ok h1
  have hb : 1 ≤ bud ∧ bud ≤ 20000 := by simpa [okBudget] using h2
  refine Sat.intro tok mixed Tryz.func93 rfl rfl ?_
  ((conv => whnf); repeat ((first | refine B0 ?_ | refine B1 ?_ | refine D1 ?_ | refine D2 ?_ | refine CallC.r ?_); conv => whnf))
  refine Pick.mk _ (s_ValidTables l o hr) ?_
  ((conv => whnf); repeat ((first | refine B0 ?_ | refine B1 ?_ | refine D1 ?_ | refine D2 ?_ | refine CallC.r ?_); conv => whnf))
  refine Br.mk (fun h => absurd h (by simp [h1])) (fun _ => ?_)
  ((conv => whnf); repeat ((first | refine B0 ?_ | refine B1 ?_ | refine D1 ?_ | refine D2 ?_ | refine CallC.r ?_); conv => whnf))
  refine Pick.mk _ (s_isBudget bud) ?_
  ((conv => whnf); repeat ((first | refine B0 ?_ | refine B1 ?_ | refine D1 ?_ | refine D2 ?_ | refine CallC.r ?_); conv => whnf))
  refine Br.mk (fun h => absurd h (by simp [h2])) (fun _ => ?_)
  ((conv => whnf); repeat ((first | refine B0 ?_ | refine B1 ?_ | refine D1 ?_ | refine D2 ?_ | refine CallC.r ?_); conv => whnf))
  have hac := (s_allColumns l hT.len hT.cols).frz rfl
  rw [cols_same] at hac
  refine Pick.mk _ hac ?_
  ((conv => whnf); repeat ((first | refine B0 ?_ | refine B1 ?_ | refine D1 ?_ | refine D2 ?_); conv => whnf))
  refine CallC.r (CallC.x ?_)
  refine Pick.mk [1252, 1253] trivial ?_
  ((conv => whnf); repeat ((first | refine B0 ?_ | refine B1 ?_ | refine D1 ?_ | refine D2 ?_); conv => whnf))
  have hs := s_search l (colsR l) hT (colsR l).length ⟨bud, false, [], []⟩ rfl (by simp) (by show 0 ≤ bud; omega) (by show bud ≤ 1048576; omega) (by show (([] : List (List Int)).length : Int) + bud + 1 ≤ 65536; simp; omega)
  have eG : srchI (supI l (colsR l)) (colsR l).length ⟨bud, false, [], []⟩ = gEnd l bud := rfl
  rw [eG] at hs
  generalize gEnd l bud = G at hs h3 ⊢
  simp only [gHeap, List.map_nil] at hs
  refine Pick.mk _ hs ?_
  ((conv => whnf); repeat ((first | refine B0 ?_ | refine B1 ?_ | refine D1 ?_ | refine D2 ?_ | refine CallC.r ?_); conv => whnf))
  refine Br.mk (fun h => absurd (show G.spent = true from h) (by rw [h3]; simp)) (fun _ => ?_)
  ((conv => whnf); repeat ((first | refine B0 ?_ | refine B1 ?_ | refine D1 ?_ | refine D2 ?_ | refine CallC.r ?_); conv => whnf))
  exact ⟨rfl, rfl⟩

/-- The reference's search. -/
def rEnd (l : List Table) (bud : Int) : Srch := srchR (supR l (colsR l)) (colsR l).length ⟨bud, false, [], []⟩
theorem end_same {l : List Table} (h : okTables l = true) (bud : Int) : (gEnd l bud).spent = (rEnd l bud).spent ∧ ((gEnd l bud).spent = false → gEnd l bud = rEnd l bud) := by
  obtain ⟨hT, hall⟩ := tabs_ok h
  have hn : (colsR l).Nodup := (colsR_ord l).imp fun h => by omega
  exact (srch_same (supa := supI l (colsR l)) (supb := supR l (colsR l)) (colsR l).length (fun r hr => sup_same hall hn hr) (colsR l).length ⟨bud, false, [], []⟩ rfl (by simp)).1
theorem s_l20ColumnsQ (a b : List Int) (ha : a.length ≤ 65536) (hb : b.length ≤ 65536) : Sat Tryz.prog 175 [(false, Enc.enc a), (false, Enc.enc b)] (.one (.c (.slice 1 ((colsTo a b).map Enc.enc))), []) := (s_l20Columns a b ha hb).frz rfl
theorem s_l20Global (l : List Table) (o : Enc.ok l) (hr : ∀ t ∈ l, ∀ r ∈ t.rows, r.length ≤ 1048576) (bud : Int) :
    Sat Tryz.prog 90 [(false, Enc.enc l), (false, [.int .i64 bud])] (.tup [(false, [.c (.slice 1 ((if gCode l bud = 0 then colsR l else []).map Enc.enc))]), (false, [.c (.slice 1 ((if gCode l bud = 0 then (gEnd l bud).found else []).map Enc.enc))]), (false, [.c (.int .i64 (gCode l bud))])], []) := by
  refine Sat.intro tok mixed Tryz.func90 rfl rfl ?_
  ((conv => whnf); repeat ((first | refine B0 ?_ | refine B1 ?_ | refine D1 ?_ | refine D2 ?_ | refine CallC.r ?_); conv => whnf))
  refine Pick.mk _ (s_l20List l o hr) ?_
  ((conv => whnf); repeat ((first | refine B0 ?_ | refine B1 ?_ | refine D1 ?_ | refine D2 ?_ | refine CallC.r ?_); conv => whnf))
  refine Br.mk (fun h1 => ?_) (fun h1 => ?_) <;> ((conv => whnf); repeat ((first | refine B0 ?_ | refine B1 ?_ | refine D1 ?_ | refine D2 ?_ | refine CallC.r ?_); conv => whnf))
  · have e : gCode l bud = 1 := by simp only [Bool.not_eq_true'] at h1; simp [gCode, h1]
    rw [e]
    exact ResOK.frz rfl rfl
  simp only [Bool.not_eq_false'] at h1
  refine Pick.mk _ (s_l00In bud 1 20000) ?_
  ((conv => whnf); repeat ((first | refine B0 ?_ | refine B1 ?_ | refine D1 ?_ | refine D2 ?_ | refine CallC.r ?_); conv => whnf))
  have eb : (decide (1 ≤ bud) && decide (bud ≤ 20000)) = okBudget bud := rfl
  rw [eb]
  refine Br.mk (fun h2 => ?_) (fun h2 => ?_) <;> ((conv => whnf); repeat ((first | refine B0 ?_ | refine B1 ?_ | refine D1 ?_ | refine D2 ?_ | refine CallC.r ?_); conv => whnf))
  · have e : gCode l bud = 2 := by simp only [Bool.not_eq_true'] at h2; simp [gCode, h1, h2]
    rw [e]
    exact ResOK.frz rfl rfl
  simp only [Bool.not_eq_false'] at h2
  obtain ⟨hT, hall⟩ := tabs_ok h1
  have hb : 1 ≤ bud ∧ bud ≤ 20000 := by simpa [okBudget] using h2
  have hl6 := hT.len
  refine Pick.mk ([0, 1, 7, 8] ++ [1001024]) trivial ?_
  ((conv => whnf); repeat ((first | refine B0 ?_ | refine B1 ?_ | refine D1 ?_ | refine D2 ?_ | refine CallC.r ?_); conv => whnf))
  refine LoopL.over (fun i : Nat => [(8, .one (.c (.int .i64 (i : Int))))]) (fun i => [(1280, .box [.c (.slice 2 (l.map Enc.enc)), .c (.slice 1 (((l.take i).foldl (fun acc t => colsTo acc t.columns) []).map Enc.enc)), .nil 1, .rs 1088, .c (.int .i64 0), .c (.int .i64 bud), .c (.bool false)])]) (fun i => l.length - i) (fun i => i ≤ l.length) ?_ 0 (Nat.zero_le _)
  intro i g1 ih
  ((conv => whnf); repeat ((first | refine B0 ?_ | refine B1 ?_ | refine D1 ?_ | refine D2 ?_ | refine CallC.r ?_); conv => whnf))
  refine Br.mk (fun h => ?_) (fun h => ?_)
  · ((conv => whnf); repeat ((first | refine B0 ?_ | refine B1 ?_ | refine D1 ?_ | refine D2 ?_ | refine CallC.r ?_); conv => whnf))
    have h : i < l.length := by simp only [List.length_map, decide_eq_true_eq] at h; omega
    have hall2 : (l.take i).all okTable = true := by
      rw [List.all_eq_true] at hall ⊢
      exact fun x hx => hall x (List.mem_of_mem_take hx)
    have hcl : ((l.take i).foldl (fun acc t => colsTo acc t.columns) []).length ≤ 8 := colsR_len hall2
    have h8 := hT.cols _ (List.getElem_mem h)
    refine Pick.ix (h) ?_
    ((conv => whnf); repeat ((first | refine B0 ?_ | refine B1 ?_ | refine D1 ?_ | refine D2 ?_ | refine CallC.r ?_); conv => whnf))
    refine Pick.mk _ (s_l20ColumnsQ ((l.take i).foldl (fun acc (t : Table) => colsTo acc t.columns) []) l[i].columns (by omega) (by omega)) ?_
    ((conv => whnf); repeat ((first | refine B0 ?_ | refine B1 ?_ | refine D1 ?_ | refine D2 ?_ | refine CallC.r ?_); conv => whnf))
    refine Pick.at64 (z := (i + 1 : Nat)) (by simp) (by omega) ?_
    ((conv => whnf); repeat ((first | refine B0 ?_ | refine B1 ?_ | refine D1 ?_ | refine D2 ?_ | refine CallC.r ?_); conv => whnf))
    have hn := ih (i + 1) (by omega) (by omega)
    rw [List.take_add_one, List.getElem?_eq_getElem h, Option.toList_some, List.foldl_append] at hn
    exact hn
  · have h : i = l.length := by simp only [List.length_map, decide_eq_false_iff_not] at h; omega
    subst h
    ((conv => whnf); repeat ((first | refine B0 ?_ | refine B1 ?_ | refine D1 ?_ | refine D2 ?_); conv => whnf))
    refine CallC.r (CallC.x ?_)
    refine Pick.mk [1314] trivial ?_
    ((conv => whnf); repeat ((first | refine B0 ?_ | refine B1 ?_ | refine D1 ?_ | refine D2 ?_); conv => whnf))
    have hs := s_run l (colsR l) bud (by omega) hT (colsR l).length ⟨bud, false, [], []⟩ rfl (by simp) (by show 0 ≤ bud; omega) (by show bud ≤ 1048576; omega) (by show (([] : List (List Int)).length : Int) + bud + 1 ≤ 65536; simp; omega)
    have eR : srchR (supR l (colsR l)) (colsR l).length ⟨bud, false, [], []⟩ = rEnd l bud := rfl
    rw [eR] at hs
    obtain ⟨e1, e2⟩ := end_same h1 bud
    have ec : gCode l bud = if (rEnd l bud).spent = true then 5 else 0 := by simp only [gCode, h1, h2, if_true, e1]
    have ef : (rEnd l bud).spent = false → (gEnd l bud).found = (rEnd l bud).found := fun h => by rw [e2 (by rw [e1]; exact h)]
    rw [ec]
    generalize rEnd l bud = G at hs ef ⊢
    simp only [rHeap, List.map_nil, Int.sub_self] at hs
    rw [List.take_length]
    refine Pick.mk _ hs ?_
    ((conv => whnf); repeat ((first | refine B0 ?_ | refine B1 ?_ | refine D1 ?_ | refine D2 ?_ | refine CallC.r ?_); conv => whnf))
    refine Br.mk (fun hsp => ?_) (fun hsp => ?_) <;> ((conv => whnf); repeat ((first | refine B0 ?_ | refine B1 ?_ | refine D1 ?_ | refine D2 ?_ | refine CallC.r ?_); conv => whnf))
    · have hsp : G.spent = true := hsp
      have ei : (if G.spent = true then (5 : Int) else 0) = 5 := by rw [hsp]; rfl
      rw [ei]
      exact ResOK.frz rfl rfl
    · have hsp : G.spent = false := hsp
      refine Pick.mk _ (s_l00Own (colsR l) (by have := hT.all; omega)) ?_
      ((conv => whnf); repeat ((first | refine B0 ?_ | refine B1 ?_ | refine D1 ?_ | refine D2 ?_ | refine CallC.r ?_); conv => whnf))
      have ei : (if G.spent = true then (5 : Int) else 0) = 0 := by rw [hsp]; rfl
      rw [ei, if_pos rfl, if_pos rfl, ef hsp]
      exact ResOK.frz rfl rfl
end Go.Proofs.YtnmoeeneofopcaaGreat.Pi
