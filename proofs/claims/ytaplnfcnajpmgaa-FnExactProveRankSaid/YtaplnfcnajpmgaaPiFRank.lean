/- Proofs of ranks, the program and the reference. No statement of the seat is proved here. -/
import Derived.Test.YtaplnfcnajpmgaaPiFProve3
namespace Go.Proofs.Ytaplnfcnajpmgaa.Pi
open Go
set_option maxRecDepth 10000
set_option maxHeartbeats 3200000
set_option linter.unusedVariables false

/-- A drawn region, order by order; what follows, under a name. -/
theorem Pick.orders {P : Program} {tt : TT} {ops : Array Oper} {n : Nat} {l : Array Bool} {s : St} {Q : St → Prop} {F G : Nat → Prop} (h : ∀ K : St → Prop, (∀ s', Q s' → K s') → anyM P tt ops K n l s) : Pick (drawR2 ops) fun m => match Nat.beq m 1000, Nat.ble 2000 m with | true, _ => anyM P tt ops Q n l s | false, false => F m | false, true => G m :=
  ⟨1000, Or.inl (Or.inr rfl), h Q fun _ h => h⟩

theorem s_GrowRows (n : Nat) (hb : n ≤ 16777216) : SatM Try.prog 105 [.one (.nil 1), .one (.c (.int .i64 n))] [] (.one (.rs 0), [(0, .arr 1 [])]) := by
  refine SatM.intro tok mixed Try.func105 rfl rfl ?_
  ((conv => whnf); repeat first | (refine Br.no ?_; conv => whnf) | (refine Br.yes ?_; conv => whnf) | (refine Pick.draw rfl (by kernel_rfl) ?_; conv => whnf) | (refine Pick.drawM (by kernel_rfl) ?_; conv => whnf) | (refine CallC.r ?_; conv => whnf))
  refine Pick.w64 (by omega) ?_
  ((conv => whnf); repeat first | (refine Br.no ?_; conv => whnf) | (refine Br.yes ?_; conv => whnf) | (refine Pick.draw rfl (by kernel_rfl) ?_; conv => whnf) | (refine Pick.drawM (by kernel_rfl) ?_; conv => whnf) | (refine CallC.r ?_; conv => whnf))
  refine Pick.at64 (z := (n : Int)) (by simp) (by omega) ?_
  ((conv => whnf); repeat first | (refine Br.no ?_; conv => whnf) | (refine Br.yes ?_; conv => whnf) | (refine Pick.draw rfl (by kernel_rfl) ?_; conv => whnf) | (refine Pick.drawM (by kernel_rfl) ?_; conv => whnf) | (refine CallC.r ?_; conv => whnf))
  refine Br.mk (fun h3 => ?_) (fun h3 => ?_) <;> ((conv => whnf); repeat first | (refine Br.no ?_; conv => whnf) | (refine Br.yes ?_; conv => whnf) | (refine Pick.draw rfl (by kernel_rfl) ?_; conv => whnf) | (refine Pick.drawM (by kernel_rfl) ?_; conv => whnf) | (refine CallC.r ?_; conv => whnf))
  refine Side.mk (by omega) ?_
  ((conv => whnf); repeat first | (refine Br.no ?_; conv => whnf) | (refine Br.yes ?_; conv => whnf) | (refine Pick.draw rfl (by kernel_rfl) ?_; conv => whnf) | (refine Pick.drawM (by kernel_rfl) ?_; conv => whnf) | (refine CallC.r ?_; conv => whnf))
  refine Side.mk (by omega) ?_
  ((conv => whnf); repeat first | (refine Br.no ?_; conv => whnf) | (refine Br.yes ?_; conv => whnf) | (refine Pick.draw rfl (by kernel_rfl) ?_; conv => whnf) | (refine Pick.drawM (by kernel_rfl) ?_; conv => whnf) | (refine CallC.r ?_; conv => whnf))
  refine Side.mk (by omega) ?_
  ((conv => whnf); repeat first | (refine Br.no ?_; conv => whnf) | (refine Br.yes ?_; conv => whnf) | (refine Pick.draw rfl (by kernel_rfl) ?_; conv => whnf) | (refine Pick.drawM (by kernel_rfl) ?_; conv => whnf))
  refine CallC.x ?_
  ((conv => whnf); repeat first | (refine Br.no ?_; conv => whnf) | (refine Br.yes ?_; conv => whnf) | (refine Pick.draw rfl (by kernel_rfl) ?_; conv => whnf) | (refine Pick.drawM (by kernel_rfl) ?_; conv => whnf) | (refine CallC.r ?_; conv => whnf))
  exact rfl

/-- The lengths of lists together. -/
def lensR (xs : List (List (List Int))) (i : Nat) : Nat := ((xs.take i).map List.length).sum
theorem lensR_succ (xs : List (List (List Int))) (i : Nat) (h : i < xs.length) : lensR xs (i + 1) = lensR xs i + xs[i].length := by
  simp only [lensR, List.take_add_one, List.getElem?_eq_getElem h, Option.toList_some, List.map_append, List.map_cons, List.map_nil, List.sum_append, List.sum_cons, List.sum_nil, Nat.add_zero]
theorem lensR_le (xs : List (List (List Int))) (i : Nat) : lensR xs i ≤ xs.flatten.length := by
  rw [List.length_flatten]
  have h : (xs.map List.length).sum = ((xs.take i).map List.length).sum + ((xs.drop i).map List.length).sum := by
    rw [← List.sum_append, ← List.map_append, List.take_append_drop]
  unfold lensR; omega
theorem flatR_take (xs : List (List (List Int))) (i : Nat) (h : i < xs.length) : (xs.take (i + 1)).flatten = (xs.take i).flatten ++ xs[i] := by
  simp only [List.take_add_one, List.getElem?_eq_getElem h, Option.toList_some, List.flatten_append, List.flatten_cons, List.flatten_nil, List.append_nil]
theorem flatR_take_len (xs : List (List (List Int))) (i : Nat) : (xs.take i).flatten.length = lensR xs i := by simp [lensR, List.length_flatten]

theorem s_ConcatRows (xs : List (List (List Int))) (hb : xs.length ≤ 1048576) (hl : xs.flatten.length ≤ 16777216) : Sat Try.prog 66 [(false, Enc.enc xs)] (.one (.rs 0), [(0, .arr 1 (xs.flatten.map Enc.enc))]) := by
  have hlx : (xs.map (Enc.enc (α := List (List Int)))).length = xs.length := by simp
  refine Sat.intro tok mixed Try.func66 rfl rfl ?_
  ((conv => whnf); repeat first | (refine Br.no ?_; conv => whnf) | (refine Br.yes ?_; conv => whnf) | (refine Pick.draw rfl (by kernel_rfl) ?_; conv => whnf) | (refine Pick.drawM (by kernel_rfl) ?_; conv => whnf) | (refine CallC.r ?_; conv => whnf))
  refine Pick.mk [0, 3, 9, 10, 11] trivial ?_
  ((conv => whnf); repeat first | (refine Br.no ?_; conv => whnf) | (refine Br.yes ?_; conv => whnf) | (refine Pick.draw rfl (by kernel_rfl) ?_; conv => whnf) | (refine Pick.drawM (by kernel_rfl) ?_; conv => whnf) | (refine CallC.r ?_; conv => whnf))
  refine LoopL.over (fun (i : Nat) => [(3, .one (.c (.int .i64 ((lensR xs i : Int))))), (11, .one (.c (.int .i64 ((i : Int)))))]) (fun (i : Nat) => []) (fun (i : Nat) => xs.length - i) (fun (i : Nat) => i ≤ xs.length) ?_ 0 (Nat.zero_le _) (by simp [lensR]; rfl)
  intro i hi ih
  have hli := lensR_le xs i
  ((conv => whnf); repeat first | (refine Br.no ?_; conv => whnf) | (refine Br.yes ?_; conv => whnf) | (refine Pick.draw rfl (by kernel_rfl) ?_; conv => whnf) | (refine Pick.drawM (by kernel_rfl) ?_; conv => whnf) | (refine CallC.r ?_; conv => whnf))
  refine Br.mk (fun h => ?_) (fun h => ?_)
  · ((conv => whnf); repeat first | (refine Br.no ?_; conv => whnf) | (refine Br.yes ?_; conv => whnf) | (refine Pick.draw rfl (by kernel_rfl) ?_; conv => whnf) | (refine Pick.drawM (by kernel_rfl) ?_; conv => whnf) | (refine CallC.r ?_; conv => whnf))
    simp at h
    have hs := lensR_succ xs i h
    have hli2 := lensR_le xs (i + 1)
    refine Pick.ix (h) ?_
    ((conv => whnf); repeat first | (refine Br.no ?_; conv => whnf) | (refine Br.yes ?_; conv => whnf) | (refine Pick.draw rfl (by kernel_rfl) ?_; conv => whnf) | (refine Pick.drawM (by kernel_rfl) ?_; conv => whnf) | (refine CallC.r ?_; conv => whnf))
    refine Pick.at64 (z := ((lensR xs (i + 1) : Nat) : Int)) (by rw [hs]; simp) (by omega) ?_
    ((conv => whnf); repeat first | (refine Br.no ?_; conv => whnf) | (refine Br.yes ?_; conv => whnf) | (refine Pick.draw rfl (by kernel_rfl) ?_; conv => whnf) | (refine Pick.drawM (by kernel_rfl) ?_; conv => whnf) | (refine CallC.r ?_; conv => whnf))
    refine Pick.at64 (z := (i + 1 : Nat)) (by simp) (by omega) ?_
    ((conv => whnf); repeat first | (refine Br.no ?_; conv => whnf) | (refine Br.yes ?_; conv => whnf) | (refine Pick.draw rfl (by kernel_rfl) ?_; conv => whnf) | (refine Pick.drawM (by kernel_rfl) ?_; conv => whnf) | (refine CallC.r ?_; conv => whnf))
    exact ih (i + 1) (by omega) (by omega)
  · ((conv => whnf); repeat first | (refine Br.no ?_; conv => whnf) | (refine Br.yes ?_; conv => whnf) | (refine Pick.draw rfl (by kernel_rfl) ?_; conv => whnf) | (refine Pick.drawM (by kernel_rfl) ?_; conv => whnf))
    simp at h
    obtain rfl : i = xs.length := by omega
    refine CallC.x ?_
    ((conv => whnf); repeat first | (refine Br.no ?_; conv => whnf) | (refine Br.yes ?_; conv => whnf) | (refine Pick.draw rfl (by kernel_rfl) ?_; conv => whnf) | (refine Pick.drawM (by kernel_rfl) ?_; conv => whnf) | (refine CallC.r ?_; conv => whnf))
    refine Pick.mk _ (s_GrowRows (lensR xs xs.length) (by omega)) ?_
    ((conv => whnf); repeat first | (refine Br.no ?_; conv => whnf) | (refine Br.yes ?_; conv => whnf) | (refine Pick.draw rfl (by kernel_rfl) ?_; conv => whnf) | (refine Pick.drawM (by kernel_rfl) ?_; conv => whnf) | (refine CallC.r ?_; conv => whnf))
    refine Pick.mk [6, 25, 26, 27] trivial ?_
    ((conv => whnf); repeat first | (refine Br.no ?_; conv => whnf) | (refine Br.yes ?_; conv => whnf) | (refine Pick.draw rfl (by kernel_rfl) ?_; conv => whnf) | (refine Pick.drawM (by kernel_rfl) ?_; conv => whnf) | (refine CallC.r ?_; conv => whnf))
    refine LoopL.over (fun (i : Nat) => [(27, .one (.c (.int .i64 ((i : Int)))))]) (fun (i : Nat) => [(384, .arr 1 (List.map Enc.enc ((xs.take i).flatten)))]) (fun (i : Nat) => xs.length - i) (fun (i : Nat) => i ≤ xs.length) ?_ 0 (Nat.zero_le _)
    intro i hi ih
    ((conv => whnf); repeat first | (refine Br.no ?_; conv => whnf) | (refine Br.yes ?_; conv => whnf) | (refine Pick.draw rfl (by kernel_rfl) ?_; conv => whnf) | (refine Pick.drawM (by kernel_rfl) ?_; conv => whnf) | (refine CallC.r ?_; conv => whnf))
    refine Br.mk (fun h => ?_) (fun h => ?_) <;> ((conv => whnf); repeat first | (refine Br.no ?_; conv => whnf) | (refine Br.yes ?_; conv => whnf) | (refine Pick.draw rfl (by kernel_rfl) ?_; conv => whnf) | (refine Pick.drawM (by kernel_rfl) ?_; conv => whnf) | (refine CallC.r ?_; conv => whnf))
    · simp at h
      have hf := flatR_take xs i h
      have hl1 := flatR_take_len xs i
      have hl2 := flatR_take_len xs (i + 1)
      have hs := lensR_succ xs i h
      have hli2 := lensR_le xs (i + 1)
      refine Pick.ix (h) ?_
      ((conv => whnf); repeat first | (refine Br.no ?_; conv => whnf) | (refine Br.yes ?_; conv => whnf) | (refine Pick.draw rfl (by kernel_rfl) ?_; conv => whnf) | (refine Pick.drawM (by kernel_rfl) ?_; conv => whnf) | (refine CallC.r ?_; conv => whnf))
      refine Side.mk (by simp only [List.length_map]; omega) ?_
      ((conv => whnf); repeat first | (refine Br.no ?_; conv => whnf) | (refine Br.yes ?_; conv => whnf) | (refine Pick.draw rfl (by kernel_rfl) ?_; conv => whnf) | (refine Pick.drawM (by kernel_rfl) ?_; conv => whnf) | (refine CallC.r ?_; conv => whnf))
      refine Pick.at64 (z := (i + 1 : Nat)) (by simp) (by omega) ?_
      ((conv => whnf); repeat first | (refine Br.no ?_; conv => whnf) | (refine Br.yes ?_; conv => whnf) | (refine Pick.draw rfl (by kernel_rfl) ?_; conv => whnf) | (refine Pick.drawM (by kernel_rfl) ?_; conv => whnf) | (refine CallC.r ?_; conv => whnf))
      have hn := ih (i + 1) (by omega) (by omega)
      rw [hf, List.map_append] at hn
      exact hn
    · simp at h
      obtain rfl : i = xs.length := by omega
      exact ResOK.same (by rw [List.take_length])

/-! ### what the proofs hold -/
def rankS (m : Matrix) : ES := elimF m.prime m.rows.toNat (cellAt m) m.columns.toNat
def unitsU (w : Nat) (s : ES) (n : Nat) : List (List Int) := (s.pv.take n).map (unitV w)
def colsU (m : Matrix) (s : ES) (n : Nat) : List (List Int) := (s.pv.take n).map (colL m)
def rowsU (w : Nat) (s : ES) (n : Nat) : List (List Int) := (List.range n).map fun i => (List.range w).map (s.f i)
def lowR (m : Matrix) (s : ES) : Proof := ⟨5, m, unitsU m.columns.toNat s s.pv.length ++ (dualOf m.prime m.rows.toNat (colsU m s s.pv.length)).1⟩
def highR (m : Matrix) (s : ES) : Proof := ⟨6, m, colsU m s s.pv.length ++ rowsU m.columns.toNat s s.pv.length⟩
def proveR (m : Matrix) : Proof × Proof × Int := if okMatrix m then (lowR m (rankS m), highR m (rankS m), 0) else (zeroP, zeroP, 1)
theorem unitsU_succ {w : Nat} {s : ES} {i : Nat} (h : i < s.pv.length) : unitsU w s (i + 1) = unitsU w s i ++ [unitV w s.pv[i]] := by
  simp only [unitsU, List.take_add_one, List.getElem?_eq_getElem h, Option.toList_some, List.map_append, List.map_cons, List.map_nil]
theorem colsU_succ {m : Matrix} {s : ES} {i : Nat} (h : i < s.pv.length) : colsU m s (i + 1) = colsU m s i ++ [colL m s.pv[i]] := by
  simp only [colsU, List.take_add_one, List.getElem?_eq_getElem h, Option.toList_some, List.map_append, List.map_cons, List.map_nil]
theorem rowsU_succ {w : Nat} {s : ES} {i : Nat} : rowsU w s (i + 1) = rowsU w s i ++ [(List.range w).map (s.f i)] := by
  simp only [rowsU, List.range_succ, List.map_append, List.map_cons, List.map_nil]
theorem unitsU_len {w : Nat} {s : ES} {n : Nat} (h : n ≤ s.pv.length) : (unitsU w s n).length = n := by simp [unitsU]; omega
theorem colsU_len {m : Matrix} {s : ES} {n : Nat} (h : n ≤ s.pv.length) : (colsU m s n).length = n := by simp [colsU]; omega
theorem rowsU_len {w : Nat} {s : ES} {n : Nat} : (rowsU w s n).length = n := by simp [rowsU]
theorem rowsU_take {r w : Nat} {s : ES} {n : Nat} (h : n ≤ r) : (tab r w s.f).take n = rowsU w s n := by
  simp only [tab, rowsU, ← List.map_take, List.take_range, Nat.min_eq_left h]
theorem unitsU_mem {w : Nat} {s : ES} {n : Nat} {x : List Int} (h : x ∈ unitsU w s n) : x.length = w := by
  obtain ⟨j, _, rfl⟩ := List.mem_map.1 h
  exact unitV_len _ _
theorem colsU_mem {m : Matrix} {r w : Nat} (ok : MatOK m r w) {s : ES} {n : Nat} {x : List Int} (h : x ∈ colsU m s n) : x.length = r ∧ El m.prime x := by
  obtain ⟨j, _, rfl⟩ := List.mem_map.1 h
  exact ⟨ok.colLen j, ok.colEl j⟩
theorem rowsU_mem {w : Nat} {s : ES} {n : Nat} {x : List Int} (h : x ∈ rowsU w s n) : x.length = w := by
  obtain ⟨j, _, rfl⟩ := List.mem_map.1 h
  simp
theorem dual_le {p : Int} {c : Nat} {vs : List (List Int)} : (dualOf p c vs).1.length ≤ vs.length ∧ ∀ x ∈ (dualOf p c vs).1, x.length = c := by
  cases h : (dualOf p c vs).2 with
  | true => have := dual_len h; exact ⟨by omega, this.2⟩
  | false =>
    have e : (dualOf p c vs).1 = [] := by
      unfold dualOf at h ⊢
      split at h
      · cases h
      · rfl
    rw [e]; simp

theorem proveR_bad {m : Matrix} (h : okMatrix m = false) : proveR m = (zeroP, zeroP, 1) := by simp [proveR, h]
/-- Two proofs in memory of their own, and a code. -/
def prRes2 (q : Proof × Proof × Int) : Res := (.tup [(true, [.c (.int .i64 q.1.kind), .c (.int .i64 q.1.claim.prime), .c (.int .i64 q.1.claim.rows), .c (.int .i64 q.1.claim.columns), .ds 0, .ds 1]), (true, [.c (.int .i64 q.2.1.kind), .c (.int .i64 q.2.1.claim.prime), .c (.int .i64 q.2.1.claim.rows), .c (.int .i64 q.2.1.claim.columns), .ds 2, .ds 3]), (false, [.c (.int .i64 q.2.2)])],
  [(0, .deep true 1 (q.1.claim.cells.map Enc.enc)), (1, .deep true 1 (q.1.vectors.map Enc.enc)), (2, .deep true 1 (q.2.1.claim.cells.map Enc.enc)), (3, .deep true 1 (q.2.1.vectors.map Enc.enc))])
/-- Two proofs that are not written to, and a code. -/
def prPure2 (q : Proof × Proof × Int) : Res := (.tup [(true, (Enc.enc q.1).map .c), (true, (Enc.enc q.2.1).map .c), (false, [.c (.int .i64 q.2.2)])], [])
abbrev zcs : List XV := [.c (.int .i64 0), .c (.int .i64 0), .c (.int .i64 0), .c (.int .i64 0), .nil 1, .nil 1]
theorem pr2_zero {q : Proof × Proof × Int} {c : Int} (h : q = (zeroP, zeroP, c)) : ResOK (.tup [(true, zcs), (true, zcs), (false, [.c (.int .i64 c)])], []) (prRes2 q) := by
  subst h; exact ResOK.own rfl trivial
theorem pr2_zeroS {q : Proof × Proof × Int} {c : Int} (h : q = (zeroP, zeroP, c)) : ResOK (.tup [(true, zcs), (true, zcs), (false, [.c (.int .i64 c)])], []) (prPure2 q) := by
  subst h; exact ResOK.frz rfl rfl

theorem s_impl_ProveRank (m : Matrix) (o : Enc.ok m) : Sat Try.prog 27 [(true, Enc.enc m)] (prRes2 (proveR m)) := by
  refine Sat.intro tok mixed Try.func27 rfl rfl ?_
  ((conv => whnf); repeat first | (refine Br.no ?_; conv => whnf) | (refine Br.yes ?_; conv => whnf) | (refine Pick.draw rfl (by kernel_rfl) ?_; conv => whnf) | (refine Pick.drawM (by kernel_rfl) ?_; conv => whnf) | (refine CallC.r ?_; conv => whnf))
  refine Pick.mk _ (s_impl_ValidMatrix m o) ?_
  ((conv => whnf); repeat first | (refine Br.no ?_; conv => whnf) | (refine Br.yes ?_; conv => whnf) | (refine Pick.draw rfl (by kernel_rfl) ?_; conv => whnf) | (refine Pick.drawM (by kernel_rfl) ?_; conv => whnf) | (refine CallC.r ?_; conv => whnf))
  refine Br.mk (fun h => ?_) (fun h => ?_) <;> ((conv => whnf); repeat first | (refine Br.no ?_; conv => whnf) | (refine Br.yes ?_; conv => whnf) | (refine Pick.draw rfl (by kernel_rfl) ?_; conv => whnf) | (refine Pick.drawM (by kernel_rfl) ?_; conv => whnf) | (refine CallC.r ?_; conv => whnf))
  · simp at h
    exact pr2_zero (proveR_bad h)
  · simp at h
    have ok := mat_of h
    have hc := cells_small h
    obtain ⟨h1, h2, h3⟩ := okMatrix_of h
    have hp : proveR m = (lowR m (rankS m), highR m (rankS m), 0) := by simp [proveR, h]
    have hro := s_rowsOf m ok
    rw [rows_tab ok] at hro
    refine Pick.mk _ hro ?_
    ((conv => whnf); repeat first | (refine Br.no ?_; conv => whnf) | (refine Br.yes ?_; conv => whnf) | (refine Pick.draw rfl (by kernel_rfl) ?_; conv => whnf) | (refine Pick.drawM (by kernel_rfl) ?_; conv => whnf))
    refine CallC.x ?_
    ((conv => whnf); repeat first | (refine Br.no ?_; conv => whnf) | (refine Br.yes ?_; conv => whnf) | (refine Pick.draw rfl (by kernel_rfl) ?_; conv => whnf) | (refine Pick.drawM (by kernel_rfl) ?_; conv => whnf) | (refine CallC.r ?_; conv => whnf))
    have hel := s_eliminate m.columns.toNat m.rows.toNat m.prime (cellAt m) ok.p (fun i j _ _ => ok.cellEl i j) ok.rb ok.cb
    rw [show ((m.columns.toNat : Nat) : Int) = m.columns by omega] at hel
    refine Pick.mk _ hel ?_
    have oks := elimF_ok ok.p.1 (r := m.rows.toNat) (w := m.columns.toNat) (f := cellAt m) (fun i j _ _ => ok.cellEl i j) m.columns.toNat
    change proveR m = (lowR m (elimF m.prime m.rows.toNat (cellAt m) m.columns.toNat), highR m (elimF m.prime m.rows.toNat (cellAt m) m.columns.toNat), 0) at hp
    generalize elimF m.prime m.rows.toNat (cellAt m) m.columns.toNat = s at oks hp ⊢
    ((conv => whnf); repeat first | (refine Br.no ?_; conv => whnf) | (refine Br.yes ?_; conv => whnf) | (refine Pick.draw rfl (by kernel_rfl) ?_; conv => whnf) | (refine Pick.drawM (by kernel_rfl) ?_; conv => whnf) | (refine CallC.r ?_; conv => whnf))
    refine Side.mk (by rw [List.length_map, List.length_map, tab_len, tab_len]) ?_
    ((conv => whnf); repeat first | (refine Br.no ?_; conv => whnf) | (refine Br.yes ?_; conv => whnf) | (refine Pick.draw rfl (by kernel_rfl) ?_; conv => whnf) | (refine Pick.drawM (by kernel_rfl) ?_; conv => whnf) | (refine CallC.r ?_; conv => whnf))
    have hpb := oks.pb
    have hpr := oks.pr
    refine Pick.mk _ (s_columnsOf m ok) ?_
    ((conv => whnf); repeat first | (refine Br.no ?_; conv => whnf) | (refine Br.yes ?_; conv => whnf) | (refine Pick.draw rfl (by kernel_rfl) ?_; conv => whnf) | (refine Pick.drawM (by kernel_rfl) ?_; conv => whnf) | (refine CallC.r ?_; conv => whnf))
    refine Pick.mk [1, 2, 3, 5, 6, 8, 9, 10, 35, 36, 37, 4000576, 4000640, 1000320, 1000384, 1000512] trivial ?_
    ((conv => whnf); repeat first | (refine Br.no ?_; conv => whnf) | (refine Br.yes ?_; conv => whnf) | (refine Pick.draw rfl (by kernel_rfl) ?_; conv => whnf) | (refine Pick.drawM (by kernel_rfl) ?_; conv => whnf) | (refine CallC.r ?_; conv => whnf))
    refine LoopL.over (fun (i : Nat) => [(37, .one (.c (.int .i64 ((i : Int)))))]) (fun (i : Nat) => [(576, .arr 1 (List.map Enc.enc (unitsU m.columns.toNat s i))), (640, .arr 1 (List.map Enc.enc (colsU m s i)))]) (fun (i : Nat) => s.pv.length - i) (fun (i : Nat) => i ≤ s.pv.length) ?_ 0 (Nat.zero_le _)
    intro i hi ih
    ((conv => whnf); repeat first | (refine Br.no ?_; conv => whnf) | (refine Br.yes ?_; conv => whnf) | (refine Pick.draw rfl (by kernel_rfl) ?_; conv => whnf) | (refine Pick.drawM (by kernel_rfl) ?_; conv => whnf) | (refine CallC.r ?_; conv => whnf))
    refine Br.mk (fun h4 => ?_) (fun h4 => ?_) <;> ((conv => whnf); repeat first | (refine Br.no ?_; conv => whnf) | (refine Br.yes ?_; conv => whnf) | (refine Pick.draw rfl (by kernel_rfl) ?_; conv => whnf) | (refine Pick.drawM (by kernel_rfl) ?_; conv => whnf) | (refine CallC.r ?_; conv => whnf))
    · simp [pvI_len] at h4
      have h5 : i < (pvI s).length := by rw [pvI_len]; exact h4
      have hpi : (pvI s)[i] = ((s.pv[i] : Nat) : Int) := by simp [pvI]
      have hpw := hpb _ (List.getElem_mem h4)
      refine Pick.ix (xs := pvI s) h5 ?_
      rw [hpi]
      ((conv => whnf); repeat first | (refine Br.no ?_; conv => whnf) | (refine Br.yes ?_; conv => whnf) | (refine Pick.draw rfl (by kernel_rfl) ?_; conv => whnf) | (refine Pick.drawM (by kernel_rfl) ?_; conv => whnf) | (refine CallC.r ?_; conv => whnf))
      have hu := s_unit m.prime m.columns.toNat ⟨by omega, by omega⟩
      rw [show ((m.columns.toNat : Nat) : Int) = m.columns by omega] at hu
      refine Pick.mk _ hu ?_
      ((conv => whnf); repeat first | (refine Br.no ?_; conv => whnf) | (refine Br.yes ?_; conv => whnf) | (refine Pick.draw rfl (by kernel_rfl) ?_; conv => whnf) | (refine Pick.drawM (by kernel_rfl) ?_; conv => whnf) | (refine CallC.r ?_; conv => whnf))
      have hr := s_row (unitM m.prime m.columns.toNat) (unit_ok ok.p ok.cb) s.pv[i] hpw
      rw [unit_row ok.p ok.cb hpw, show ((m.columns.toNat : Nat) : Int) = m.columns by omega] at hr
      refine Pick.mk _ hr ?_
      ((conv => whnf); repeat first | (refine Br.no ?_; conv => whnf) | (refine Br.yes ?_; conv => whnf) | (refine Pick.draw rfl (by kernel_rfl) ?_; conv => whnf) | (refine Pick.drawM (by kernel_rfl) ?_; conv => whnf) | (refine CallC.r ?_; conv => whnf))
      refine Side.mk (by rw [List.length_map, unitsU_len hi]; simp; omega) ?_
      ((conv => whnf); repeat first | (refine Br.no ?_; conv => whnf) | (refine Br.yes ?_; conv => whnf) | (refine Pick.draw rfl (by kernel_rfl) ?_; conv => whnf) | (refine Pick.drawM (by kernel_rfl) ?_; conv => whnf) | (refine CallC.r ?_; conv => whnf))
      obtain ⟨hci, hce⟩ := colsL_get m ok hpw
      refine Pick.ix (xs := colsL m) hci ?_
      rw [hce]
      ((conv => whnf); repeat first | (refine Br.no ?_; conv => whnf) | (refine Br.yes ?_; conv => whnf) | (refine Pick.draw rfl (by kernel_rfl) ?_; conv => whnf) | (refine Pick.drawM (by kernel_rfl) ?_; conv => whnf) | (refine CallC.r ?_; conv => whnf))
      refine Side.mk (by rw [List.length_map, colsU_len hi]; simp; omega) ?_
      ((conv => whnf); repeat first | (refine Br.no ?_; conv => whnf) | (refine Br.yes ?_; conv => whnf) | (refine Pick.draw rfl (by kernel_rfl) ?_; conv => whnf) | (refine Pick.drawM (by kernel_rfl) ?_; conv => whnf) | (refine CallC.r ?_; conv => whnf))
      refine Pick.at64 (z := (i + 1 : Nat)) (by simp) (by omega) ?_
      ((conv => whnf); repeat first | (refine Br.no ?_; conv => whnf) | (refine Br.yes ?_; conv => whnf) | (refine Pick.draw rfl (by kernel_rfl) ?_; conv => whnf) | (refine Pick.drawM (by kernel_rfl) ?_; conv => whnf) | (refine CallC.r ?_; conv => whnf))
      have hn := ih (i + 1) (by omega) (by omega)
      rw [unitsU_succ h4, colsU_succ h4, List.map_append, List.map_append] at hn
      exact hn
    · simp [pvI_len] at h4
      obtain rfl : i = s.pv.length := by omega
      have hcm : VecsOK m.prime m.rows.toNat (colsU m s s.pv.length) := fun x hx => colsU_mem ok hx
      have hcl := colsU_len (m := m) (s := s) (Nat.le_refl s.pv.length)
      have hul := unitsU_len (w := m.columns.toNat) (s := s) (Nat.le_refl s.pv.length)
      have hd := s_duals m.prime m.rows.toNat (colsU m s s.pv.length) h1 hcm (by omega) (by omega)
      rw [show ((m.rows.toNat : Nat) : Int) = m.rows by omega] at hd
      have hdl := dual_le (p := m.prime) (c := m.rows.toNat) (vs := colsU m s s.pv.length)
      refine Pick.mk _ hd ?_
      ((conv => whnf); repeat first | (refine Br.no ?_; conv => whnf) | (refine Br.yes ?_; conv => whnf) | (refine CallC.r ?_; conv => whnf))
      refine Pick.drawC 3005 (by kernel_rfl) ?_
      ((conv => whnf); repeat first | (refine Br.no ?_; conv => whnf) | (refine Br.yes ?_; conv => whnf) | (refine Pick.draw rfl (by kernel_rfl) ?_; conv => whnf) | (refine Pick.drawM (by kernel_rfl) ?_; conv => whnf) | (refine CallC.r ?_; conv => whnf))
      have hqlowR := s_ConcatRows [unitsU m.columns.toNat s s.pv.length, (dualOf m.prime m.rows.toNat (colsU m s s.pv.length)).1] (by simp) (by simp; omega)
      rw [show [unitsU m.columns.toNat s s.pv.length, (dualOf m.prime m.rows.toNat (colsU m s s.pv.length)).1].flatten = (lowR m s).vectors by simp [lowR]] at hqlowR
      refine Pick.mk _ (hqlowR) ?_
      ((conv => whnf); repeat first | (refine Br.no ?_; conv => whnf) | (refine Br.yes ?_; conv => whnf) | (refine Pick.draw rfl (by kernel_rfl) ?_; conv => whnf) | (refine Pick.drawM (by kernel_rfl) ?_; conv => whnf) | (refine CallC.r ?_; conv => whnf))
      have hb5 : ∀ y ∈ (lowR m s).vectors, y.length ≤ 1048576 := fun y hy => by
        rcases List.mem_append.1 hy with hy | hy
        · have := unitsU_mem hy; omega
        · have := hdl.2 y hy; omega
      refine Pick.mk _ (s_proofOf 5 m (lowR m s).vectors (by omega) (by simp [lowR]; omega) hb5) ?_
      ((conv => whnf); repeat first | (refine Br.no ?_; conv => whnf) | (refine Br.yes ?_; conv => whnf) | (refine CallC.r ?_; conv => whnf))
      refine Pick.drawC 3008 (by kernel_rfl) ?_
      ((conv => whnf); repeat first | (refine Br.no ?_; conv => whnf) | (refine Br.yes ?_; conv => whnf) | (refine Pick.draw rfl (by kernel_rfl) ?_; conv => whnf) | (refine Pick.drawM (by kernel_rfl) ?_; conv => whnf) | (refine CallC.r ?_; conv => whnf))
      refine Side.mk (by simp [pvI_len, tab_len]; omega) ?_
      ((conv => whnf); repeat first | (refine Br.no ?_; conv => whnf) | (refine Br.yes ?_; conv => whnf) | (refine Pick.draw rfl (by kernel_rfl) ?_; conv => whnf) | (refine Pick.drawM (by kernel_rfl) ?_; conv => whnf) | (refine CallC.r ?_; conv => whnf))
      have hqhighR := s_ConcatRows [colsU m s s.pv.length, rowsU m.columns.toNat s s.pv.length] (by simp) (by simp [rowsU_len]; omega)
      rw [show [colsU m s s.pv.length, rowsU m.columns.toNat s s.pv.length].flatten = (highR m s).vectors by simp [highR]] at hqhighR
      have e6 : List.drop 0 (List.take ((((pvI s).map (Enc.enc (α := Int))).length : Nat) : Int).toNat ((tab m.rows.toNat m.columns.toNat s.f).map (Enc.enc (α := List Int)))) = (rowsU m.columns.toNat s s.pv.length).map Enc.enc := by
        rw [List.drop_zero, ← List.map_take, ← rowsU_take hpr]
        congr 2
        simp [pvI_len]
      have hq6 : Sat Try.prog 66 [(false, [.slice 1 [[.slice 1 ((colsU m s s.pv.length).map Enc.enc)], [.slice 1 (List.drop 0 (List.take ((((pvI s).map (Enc.enc (α := Int))).length : Nat) : Int).toNat ((tab m.rows.toNat m.columns.toNat s.f).map (Enc.enc (α := List Int)))))]]])] (.one (.rs 0), [(0, .arr 1 ((highR m s).vectors.map Enc.enc))]) := by
        rw [e6]; exact hqhighR
      refine Pick.mk _ (hq6) ?_
      ((conv => whnf); repeat first | (refine Br.no ?_; conv => whnf) | (refine Br.yes ?_; conv => whnf) | (refine Pick.draw rfl (by kernel_rfl) ?_; conv => whnf) | (refine Pick.drawM (by kernel_rfl) ?_; conv => whnf) | (refine CallC.r ?_; conv => whnf))
      have hb6 : ∀ y ∈ (highR m s).vectors, y.length ≤ 1048576 := fun y hy => by
        rcases List.mem_append.1 hy with hy | hy
        · have := (colsU_mem ok hy).1; omega
        · have := rowsU_mem hy; omega
      refine Pick.mk _ (s_proofOf 6 m (highR m s).vectors (by omega) (by simp [highR, rowsU_len]; omega) hb6) ?_
      ((conv => whnf); repeat first | (refine Br.no ?_; conv => whnf) | (refine Br.yes ?_; conv => whnf) | (refine CallC.r ?_; conv => whnf))
      refine Pick.orders fun K hK => ?_
      ((conv => whnf); repeat first | (refine Br.no ?_; conv => whnf) | (refine Br.yes ?_; conv => whnf) | (refine CallC.r ?_; conv => whnf))
      refine Pick.mk [0, 1] (by kernel_rfl) ?_
      ((conv => whnf); repeat first | (refine Br.no ?_; conv => whnf) | (refine Br.yes ?_; conv => whnf) | (refine CallC.r ?_; conv => whnf))
      refine And.intro ?_ ?_
      · ((conv => whnf); repeat first | (refine Br.no ?_; conv => whnf) | (refine Br.yes ?_; conv => whnf) | (refine CallC.r ?_; conv => whnf))
        refine Pick.mk [1, 2] (by kernel_rfl) ?_
        ((conv => whnf); repeat first | (refine Br.no ?_; conv => whnf) | (refine Br.yes ?_; conv => whnf) | (refine CallC.r ?_; conv => whnf))
        refine And.intro ?_ ?_
        · ((conv => whnf); repeat first | (refine Br.no ?_; conv => whnf) | (refine Br.yes ?_; conv => whnf) | (refine CallC.r ?_; conv => whnf))
          refine Pick.mk [2] (by kernel_rfl) ?_
          ((conv => whnf); repeat first | (refine Br.no ?_; conv => whnf) | (refine Br.yes ?_; conv => whnf) | (refine CallC.r ?_; conv => whnf))
          refine And.intro ?_ trivial
          ((conv => whnf); repeat first | (refine Br.no ?_; conv => whnf) | (refine Br.yes ?_; conv => whnf) | (refine CallC.r ?_; conv => whnf))
          refine Pick.mk [3] (by kernel_rfl) ?_
          ((conv => whnf); repeat first | (refine Br.no ?_; conv => whnf) | (refine Br.yes ?_; conv => whnf) | (refine CallC.r ?_; conv => whnf))
          refine And.intro ?_ trivial
          ((conv => whnf); repeat first | (refine Br.no ?_; conv => whnf) | (refine Br.yes ?_; conv => whnf) | (refine CallC.r ?_; conv => whnf))
          refine Pick.mk [4] (by kernel_rfl) ?_
          ((conv => whnf); repeat first | (refine Br.no ?_; conv => whnf) | (refine Br.yes ?_; conv => whnf) | (refine CallC.r ?_; conv => whnf))
          refine And.intro ?_ trivial
          ((conv => whnf); repeat first | (refine Br.no ?_; conv => whnf) | (refine Br.yes ?_; conv => whnf) | (refine CallC.r ?_; conv => whnf))
          refine And.intro (by kernel_rfl) ?_
          ((conv => whnf); repeat first | (refine Br.no ?_; conv => whnf) | (refine Br.yes ?_; conv => whnf) | (refine CallC.r ?_; conv => whnf))
          refine hK _ ?_
          ((conv => whnf); repeat first | (refine Br.no ?_; conv => whnf) | (refine Br.yes ?_; conv => whnf) | (refine Pick.draw rfl (by kernel_rfl) ?_; conv => whnf) | (refine Pick.drawM (by kernel_rfl) ?_; conv => whnf) | (refine CallC.r ?_; conv => whnf))
          refine ResOK.own ?_ ⟨flat_int _, flat_int _, trivial⟩
          rw [hp]
          rfl
        ((conv => whnf); repeat first | (refine Br.no ?_; conv => whnf) | (refine Br.yes ?_; conv => whnf) | (refine CallC.r ?_; conv => whnf))
        refine And.intro ?_ trivial
        ((conv => whnf); repeat first | (refine Br.no ?_; conv => whnf) | (refine Br.yes ?_; conv => whnf) | (refine CallC.r ?_; conv => whnf))
        refine Pick.mk [1] (by kernel_rfl) ?_
        ((conv => whnf); repeat first | (refine Br.no ?_; conv => whnf) | (refine Br.yes ?_; conv => whnf) | (refine CallC.r ?_; conv => whnf))
        refine And.intro ?_ trivial
        ((conv => whnf); repeat first | (refine Br.no ?_; conv => whnf) | (refine Br.yes ?_; conv => whnf) | (refine CallC.r ?_; conv => whnf))
        refine Pick.mk [3] (by kernel_rfl) ?_
        ((conv => whnf); repeat first | (refine Br.no ?_; conv => whnf) | (refine Br.yes ?_; conv => whnf) | (refine CallC.r ?_; conv => whnf))
        refine And.intro ?_ trivial
        ((conv => whnf); repeat first | (refine Br.no ?_; conv => whnf) | (refine Br.yes ?_; conv => whnf) | (refine CallC.r ?_; conv => whnf))
        refine Pick.mk [4] (by kernel_rfl) ?_
        ((conv => whnf); repeat first | (refine Br.no ?_; conv => whnf) | (refine Br.yes ?_; conv => whnf) | (refine CallC.r ?_; conv => whnf))
        refine And.intro ?_ trivial
        ((conv => whnf); repeat first | (refine Br.no ?_; conv => whnf) | (refine Br.yes ?_; conv => whnf) | (refine CallC.r ?_; conv => whnf))
        refine And.intro (by kernel_rfl) ?_
        ((conv => whnf); repeat first | (refine Br.no ?_; conv => whnf) | (refine Br.yes ?_; conv => whnf) | (refine CallC.r ?_; conv => whnf))
        refine hK _ ?_
        ((conv => whnf); repeat first | (refine Br.no ?_; conv => whnf) | (refine Br.yes ?_; conv => whnf) | (refine Pick.draw rfl (by kernel_rfl) ?_; conv => whnf) | (refine Pick.drawM (by kernel_rfl) ?_; conv => whnf) | (refine CallC.r ?_; conv => whnf))
        refine ResOK.own ?_ ⟨flat_int _, flat_int _, trivial⟩
        rw [hp]
        rfl
      ((conv => whnf); repeat first | (refine Br.no ?_; conv => whnf) | (refine Br.yes ?_; conv => whnf) | (refine CallC.r ?_; conv => whnf))
      refine And.intro ?_ trivial
      ((conv => whnf); repeat first | (refine Br.no ?_; conv => whnf) | (refine Br.yes ?_; conv => whnf) | (refine CallC.r ?_; conv => whnf))
      refine Pick.mk [0] (by kernel_rfl) ?_
      ((conv => whnf); repeat first | (refine Br.no ?_; conv => whnf) | (refine Br.yes ?_; conv => whnf) | (refine CallC.r ?_; conv => whnf))
      refine And.intro ?_ trivial
      ((conv => whnf); repeat first | (refine Br.no ?_; conv => whnf) | (refine Br.yes ?_; conv => whnf) | (refine CallC.r ?_; conv => whnf))
      refine Pick.mk [2] (by kernel_rfl) ?_
      ((conv => whnf); repeat first | (refine Br.no ?_; conv => whnf) | (refine Br.yes ?_; conv => whnf) | (refine CallC.r ?_; conv => whnf))
      refine And.intro ?_ trivial
      ((conv => whnf); repeat first | (refine Br.no ?_; conv => whnf) | (refine Br.yes ?_; conv => whnf) | (refine CallC.r ?_; conv => whnf))
      refine Pick.mk [3] (by kernel_rfl) ?_
      ((conv => whnf); repeat first | (refine Br.no ?_; conv => whnf) | (refine Br.yes ?_; conv => whnf) | (refine CallC.r ?_; conv => whnf))
      refine And.intro ?_ trivial
      ((conv => whnf); repeat first | (refine Br.no ?_; conv => whnf) | (refine Br.yes ?_; conv => whnf) | (refine CallC.r ?_; conv => whnf))
      refine Pick.mk [4] (by kernel_rfl) ?_
      ((conv => whnf); repeat first | (refine Br.no ?_; conv => whnf) | (refine Br.yes ?_; conv => whnf) | (refine CallC.r ?_; conv => whnf))
      refine And.intro ?_ trivial
      ((conv => whnf); repeat first | (refine Br.no ?_; conv => whnf) | (refine Br.yes ?_; conv => whnf) | (refine CallC.r ?_; conv => whnf))
      refine And.intro (by kernel_rfl) ?_
      ((conv => whnf); repeat first | (refine Br.no ?_; conv => whnf) | (refine Br.yes ?_; conv => whnf) | (refine CallC.r ?_; conv => whnf))
      refine hK _ ?_
      ((conv => whnf); repeat first | (refine Br.no ?_; conv => whnf) | (refine Br.yes ?_; conv => whnf) | (refine Pick.draw rfl (by kernel_rfl) ?_; conv => whnf) | (refine Pick.drawM (by kernel_rfl) ?_; conv => whnf) | (refine CallC.r ?_; conv => whnf))
      refine ResOK.own ?_ ⟨flat_int _, flat_int _, trivial⟩
      rw [hp]
      rfl

theorem unitV_set {w n k i : Nat} {z y : List CV} (e0 : z = [.int .i64 0]) (e1 : n = w) (e2 : k = i) (e3 : y = [.int .i64 1]) : (List.replicate n z).set k y = (unitV w i).map Enc.enc := by
  subst e0; subst e1; subst e2; subst e3
  simp only [unitV, List.map_set, List.map_replicate]; rfl

theorem grid_sl {r w : Nat} {f : Nat → Nat → Int} {i a b : Nat} (hi : i < r) (ha : a = i * w) (hb : b = i * w + w) : List.drop a (List.take b ((grid r w f).map (Enc.enc (α := Int)))) = ((List.range w).map (f i)).map Enc.enc := by
  subst ha; subst hb
  rw [← List.map_take, ← List.map_drop]
  congr 1
  refine List.ext_getElem? fun k => ?_
  rw [List.getElem?_drop, List.getElem?_take]
  by_cases hk : k < w
  · rw [if_pos (by omega), grid_get hi hk]; simp [hk]
  · rw [if_neg (by omega)]; simp [hk]

theorem s_spec_ProveRank (m : Matrix) (o : Enc.ok m) : Sat Try.prog 26 [(true, Enc.enc m)] (prPure2 (proveR m)) := by
  refine Sat.intro tok mixed Try.func26 rfl rfl ?_
  ((conv => whnf); repeat first | (refine Br.no ?_; conv => whnf) | (refine Br.yes ?_; conv => whnf) | (refine Pick.draw rfl (by kernel_rfl) ?_; conv => whnf) | (refine Pick.drawM (by kernel_rfl) ?_; conv => whnf) | (refine CallC.r ?_; conv => whnf))
  refine Pick.mk _ (s_l03Ok m o) ?_
  ((conv => whnf); repeat first | (refine Br.no ?_; conv => whnf) | (refine Br.yes ?_; conv => whnf) | (refine Pick.draw rfl (by kernel_rfl) ?_; conv => whnf) | (refine Pick.drawM (by kernel_rfl) ?_; conv => whnf) | (refine CallC.r ?_; conv => whnf))
  refine Br.mk (fun h => ?_) (fun h => ?_) <;> ((conv => whnf); repeat first | (refine Br.no ?_; conv => whnf) | (refine Br.yes ?_; conv => whnf) | (refine Pick.draw rfl (by kernel_rfl) ?_; conv => whnf) | (refine Pick.drawM (by kernel_rfl) ?_; conv => whnf) | (refine CallC.r ?_; conv => whnf))
  · simp at h
    exact pr2_zeroS (proveR_bad h)
  · simp at h
    have ok := mat_of h
    have hc := cells_small h
    obtain ⟨h1, h2, h3⟩ := okMatrix_of h
    have hcw : m.columns = ((m.columns.toNat : Nat) : Int) := by omega
    have hp : proveR m = (lowR m (rankS m), highR m (rankS m), 0) := by simp [proveR, h]
    have hre := s_l03Reduced m ok
    have oks := elimF_ok ok.p.1 (r := m.rows.toNat) (w := m.columns.toNat) (f := cellAt m) (fun i j _ _ => ok.cellEl i j) m.columns.toNat
    change proveR m = (lowR m (elimF m.prime m.rows.toNat (cellAt m) m.columns.toNat), highR m (elimF m.prime m.rows.toNat (cellAt m) m.columns.toNat), 0) at hp
    generalize elimF m.prime m.rows.toNat (cellAt m) m.columns.toNat = s at oks hp hre ⊢
    have hpb := oks.pb
    have hpr := oks.pr
    refine Pick.mk _ (hre) ?_
    ((conv => whnf); repeat first | (refine Br.no ?_; conv => whnf) | (refine Br.yes ?_; conv => whnf) | (refine Pick.draw rfl (by kernel_rfl) ?_; conv => whnf) | (refine Pick.drawM (by kernel_rfl) ?_; conv => whnf) | (refine CallC.r ?_; conv => whnf))
    refine Pick.mk _ (s_l04Columns m ok) ?_
    ((conv => whnf); repeat first | (refine Br.no ?_; conv => whnf) | (refine Br.yes ?_; conv => whnf) | (refine Pick.draw rfl (by kernel_rfl) ?_; conv => whnf) | (refine Pick.drawM (by kernel_rfl) ?_; conv => whnf) | (refine CallC.r ?_; conv => whnf))
    refine Pick.mk _ (s_l26OwnD m (by omega)) ?_
    ((conv => whnf); repeat first | (refine Br.no ?_; conv => whnf) | (refine Br.yes ?_; conv => whnf) | (refine Pick.draw rfl (by kernel_rfl) ?_; conv => whnf) | (refine Pick.drawM (by kernel_rfl) ?_; conv => whnf) | (refine CallC.r ?_; conv => whnf))
    refine Pick.mk _ (s_l26OwnD m (by omega)) ?_
    ((conv => whnf); repeat first | (refine Br.no ?_; conv => whnf) | (refine Br.yes ?_; conv => whnf) | (refine Pick.draw rfl (by kernel_rfl) ?_; conv => whnf) | (refine Pick.drawM (by kernel_rfl) ?_; conv => whnf) | (refine CallC.r ?_; conv => whnf))
    refine Pick.mk [1, 2, 3, 5, 6, 8, 9, 10, 11, 12, 1000384, 1000512, 1001408, 3000613, 3000677] trivial ?_
    ((conv => whnf); repeat first | (refine Br.no ?_; conv => whnf) | (refine Br.yes ?_; conv => whnf) | (refine Pick.draw rfl (by kernel_rfl) ?_; conv => whnf) | (refine Pick.drawM (by kernel_rfl) ?_; conv => whnf) | (refine CallC.r ?_; conv => whnf))
    refine LoopL.over (fun (i : Nat) => [(12, .one (.c (.int .i64 ((i : Int)))))]) (fun (i : Nat) => [(613, Ob.arr 1 ((unitsU m.columns.toNat s i).map Enc.enc)), (677, Ob.arr 1 ((colsU m s i).map Enc.enc)), (704, Ob.arr 1 ((colsU m s i).map Enc.enc))]) (fun (i : Nat) => s.pv.length - i) (fun (i : Nat) => i ≤ s.pv.length) ?_ 0 (Nat.zero_le _)
    intro i hi ih
    ((conv => whnf); repeat first | (refine Br.no ?_; conv => whnf) | (refine Br.yes ?_; conv => whnf) | (refine Pick.draw rfl (by kernel_rfl) ?_; conv => whnf) | (refine Pick.drawM (by kernel_rfl) ?_; conv => whnf) | (refine CallC.r ?_; conv => whnf))
    refine Br.mk (fun h4 => ?_) (fun h4 => ?_) <;> ((conv => whnf); repeat first | (refine Br.no ?_; conv => whnf) | (refine Br.yes ?_; conv => whnf) | (refine Pick.draw rfl (by kernel_rfl) ?_; conv => whnf) | (refine Pick.drawM (by kernel_rfl) ?_; conv => whnf) | (refine CallC.r ?_; conv => whnf))
    · simp [pvI_len] at h4
      have h5 : i < (pvI s).length := by rw [pvI_len]; exact h4
      have hpi : (pvI s)[i] = ((s.pv[i] : Nat) : Int) := by simp [pvI]
      have hpw := hpb _ (List.getElem_mem h4)
      obtain ⟨hci, hce⟩ := colsL_get m ok hpw
      refine Side.mk (by omega) ?_
      ((conv => whnf); repeat first | (refine Br.no ?_; conv => whnf) | (refine Br.yes ?_; conv => whnf) | (refine Pick.draw rfl (by kernel_rfl) ?_; conv => whnf) | (refine Pick.drawM (by kernel_rfl) ?_; conv => whnf) | (refine CallC.r ?_; conv => whnf))
      refine Pick.ix (xs := pvI s) h5 ?_
      rw [hpi]
      ((conv => whnf); repeat first | (refine Br.no ?_; conv => whnf) | (refine Br.yes ?_; conv => whnf) | (refine Pick.draw rfl (by kernel_rfl) ?_; conv => whnf) | (refine Pick.drawM (by kernel_rfl) ?_; conv => whnf) | (refine CallC.r ?_; conv => whnf))
      refine Side.mk (by simp; omega) ?_
      ((conv => whnf); repeat first | (refine Br.no ?_; conv => whnf) | (refine Br.yes ?_; conv => whnf) | (refine Pick.draw rfl (by kernel_rfl) ?_; conv => whnf) | (refine Pick.drawM (by kernel_rfl) ?_; conv => whnf) | (refine CallC.r ?_; conv => whnf))
      have hset : ∀ (n k : Nat) (z y : List CV), z = [.int .i64 0] → n = m.columns.toNat → k = s.pv[i] → y = [.int .i64 1] → (List.replicate n z).set k y = (unitV m.columns.toNat s.pv[i]).map Enc.enc := fun n k z y e0 e1 e2 e3 => unitV_set e0 e1 e2 e3
      rw [hset]
      rotate_left
      · rfl
      · rfl
      · rfl
      · rfl
      refine Pick.mk false trivial ?_
      ((conv => whnf); repeat first | (refine Br.no ?_; conv => whnf) | (refine Br.yes ?_; conv => whnf) | (refine Pick.draw rfl (by kernel_rfl) ?_; conv => whnf) | (refine Pick.drawM (by kernel_rfl) ?_; conv => whnf) | (refine CallC.r ?_; conv => whnf))
      refine Side.mk (by rw [List.length_map, unitsU_len hi]; simp; omega) ?_
      ((conv => whnf); repeat first | (refine Br.no ?_; conv => whnf) | (refine Br.yes ?_; conv => whnf) | (refine Pick.draw rfl (by kernel_rfl) ?_; conv => whnf) | (refine Pick.drawM (by kernel_rfl) ?_; conv => whnf) | (refine CallC.r ?_; conv => whnf))
      refine Pick.ix (xs := pvI s) h5 ?_
      rw [hpi]
      ((conv => whnf); repeat first | (refine Br.no ?_; conv => whnf) | (refine Br.yes ?_; conv => whnf) | (refine Pick.draw rfl (by kernel_rfl) ?_; conv => whnf) | (refine Pick.drawM (by kernel_rfl) ?_; conv => whnf) | (refine CallC.r ?_; conv => whnf))
      refine Pick.ix (xs := colsL m) hci ?_
      rw [hce]
      ((conv => whnf); repeat first | (refine Br.no ?_; conv => whnf) | (refine Br.yes ?_; conv => whnf) | (refine Pick.draw rfl (by kernel_rfl) ?_; conv => whnf) | (refine Pick.drawM (by kernel_rfl) ?_; conv => whnf) | (refine CallC.r ?_; conv => whnf))
      refine Side.mk (by rw [List.length_map, colsU_len hi]; simp; omega) ?_
      ((conv => whnf); repeat first | (refine Br.no ?_; conv => whnf) | (refine Br.yes ?_; conv => whnf) | (refine Pick.draw rfl (by kernel_rfl) ?_; conv => whnf) | (refine Pick.drawM (by kernel_rfl) ?_; conv => whnf) | (refine CallC.r ?_; conv => whnf))
      refine Pick.ix (xs := pvI s) h5 ?_
      rw [hpi]
      ((conv => whnf); repeat first | (refine Br.no ?_; conv => whnf) | (refine Br.yes ?_; conv => whnf) | (refine Pick.draw rfl (by kernel_rfl) ?_; conv => whnf) | (refine Pick.drawM (by kernel_rfl) ?_; conv => whnf) | (refine CallC.r ?_; conv => whnf))
      refine Pick.ix (xs := colsL m) hci ?_
      rw [hce]
      ((conv => whnf); repeat first | (refine Br.no ?_; conv => whnf) | (refine Br.yes ?_; conv => whnf) | (refine Pick.draw rfl (by kernel_rfl) ?_; conv => whnf) | (refine Pick.drawM (by kernel_rfl) ?_; conv => whnf) | (refine CallC.r ?_; conv => whnf))
      refine Pick.mk _ (s_l00Own (colL m s.pv[i]) (by rw [ok.colLen]; omega)) ?_
      ((conv => whnf); repeat first | (refine Br.no ?_; conv => whnf) | (refine Br.yes ?_; conv => whnf) | (refine Pick.draw rfl (by kernel_rfl) ?_; conv => whnf) | (refine Pick.drawM (by kernel_rfl) ?_; conv => whnf) | (refine CallC.r ?_; conv => whnf))
      refine Side.mk (by rw [List.length_map, colsU_len hi]; simp; omega) ?_
      ((conv => whnf); repeat first | (refine Br.no ?_; conv => whnf) | (refine Br.yes ?_; conv => whnf) | (refine Pick.draw rfl (by kernel_rfl) ?_; conv => whnf) | (refine Pick.drawM (by kernel_rfl) ?_; conv => whnf) | (refine CallC.r ?_; conv => whnf))
      refine Pick.at64 (z := (i + 1 : Nat)) (by simp) (by omega) ?_
      ((conv => whnf); repeat first | (refine Br.no ?_; conv => whnf) | (refine Br.yes ?_; conv => whnf) | (refine Pick.draw rfl (by kernel_rfl) ?_; conv => whnf) | (refine Pick.drawM (by kernel_rfl) ?_; conv => whnf) | (refine CallC.r ?_; conv => whnf))
      have hn := ih (i + 1) (by omega) (by omega)
      rw [unitsU_succ h4, colsU_succ h4, List.map_append, List.map_append] at hn
      exact hn
    · simp [pvI_len] at h4
      obtain rfl : i = s.pv.length := by omega
      have hcm : VecsOK m.prime m.rows.toNat (colsU m s s.pv.length) := fun x hx => colsU_mem ok hx
      have hcl := colsU_len (m := m) (s := s) (Nat.le_refl s.pv.length)
      have hul := unitsU_len (w := m.columns.toNat) (s := s) (Nat.le_refl s.pv.length)
      have hd := s_l26Units m.prime m.rows.toNat (colsU m s s.pv.length) h1 hcm (by omega) (by omega)
      rw [show ((m.rows.toNat : Nat) : Int) = m.rows by omega] at hd
      have hdl := dual_le (p := m.prime) (c := m.rows.toNat) (vs := colsU m s s.pv.length)
      refine Pick.mk _ hd ?_
      ((conv => whnf); repeat first | (refine Br.no ?_; conv => whnf) | (refine Br.yes ?_; conv => whnf) | (refine Pick.draw rfl (by kernel_rfl) ?_; conv => whnf) | (refine Pick.drawM (by kernel_rfl) ?_; conv => whnf) | (refine CallC.r ?_; conv => whnf))
      refine Side.mk (by simp only [List.length_map, hul]; omega) ?_
      ((conv => whnf); repeat first | (refine Br.no ?_; conv => whnf) | (refine Br.yes ?_; conv => whnf) | (refine Pick.draw rfl (by kernel_rfl) ?_; conv => whnf) | (refine Pick.drawM (by kernel_rfl) ?_; conv => whnf) | (refine CallC.r ?_; conv => whnf))
      refine Pick.mk [1, 2, 3, 5, 6, 9, 10, 16] trivial ?_
      ((conv => whnf); repeat first | (refine Br.no ?_; conv => whnf) | (refine Br.yes ?_; conv => whnf) | (refine Pick.draw rfl (by kernel_rfl) ?_; conv => whnf) | (refine Pick.drawM (by kernel_rfl) ?_; conv => whnf) | (refine CallC.r ?_; conv => whnf))
      refine LoopL.over (fun (j : Nat) => [(16, .one (.c (.int .i64 ((j : Int)))))]) (fun (j : Nat) => [(677, Ob.arr 1 ((colsU m s s.pv.length ++ rowsU m.columns.toNat s j).map Enc.enc))]) (fun (j : Nat) => s.pv.length - j) (fun (j : Nat) => j ≤ s.pv.length) ?_ 0 (Nat.zero_le _) (by simp only [rowsU, List.range_zero, List.map_nil, List.append_nil]; rfl)
      intro j hj ih2
      ((conv => whnf); repeat first | (refine Br.no ?_; conv => whnf) | (refine Br.yes ?_; conv => whnf) | (refine Pick.draw rfl (by kernel_rfl) ?_; conv => whnf) | (refine Pick.drawM (by kernel_rfl) ?_; conv => whnf) | (refine CallC.r ?_; conv => whnf))
      refine Br.mk (fun h6 => ?_) (fun h6 => ?_)
      · ((conv => whnf); repeat first | (refine Br.no ?_; conv => whnf) | (refine Br.yes ?_; conv => whnf) | (refine Pick.draw rfl (by kernel_rfl) ?_; conv => whnf) | (refine Pick.drawM (by kernel_rfl) ?_; conv => whnf) | (refine CallC.r ?_; conv => whnf))
        simp [pvI_len] at h6
        have hjr : j < m.rows.toNat := by omega
        have hrc := ok.rc
        have hjw : j * m.columns.toNat + m.columns.toNat ≤ m.rows.toNat * m.columns.toNat := by rw [← Nat.succ_mul]; exact Nat.mul_le_mul_right _ hjr
        refine Pick.at64 (z := ((j * m.columns.toNat : Nat) : Int)) (by push_cast; rw [← hcw]) (by omega) ?_
        ((conv => whnf); repeat first | (refine Br.no ?_; conv => whnf) | (refine Br.yes ?_; conv => whnf) | (refine Pick.draw rfl (by kernel_rfl) ?_; conv => whnf) | (refine Pick.drawM (by kernel_rfl) ?_; conv => whnf) | (refine CallC.r ?_; conv => whnf))
        refine Pick.at64 (z := ((j + 1 : Nat) : Int)) (by simp) (by omega) ?_
        ((conv => whnf); repeat first | (refine Br.no ?_; conv => whnf) | (refine Br.yes ?_; conv => whnf) | (refine Pick.draw rfl (by kernel_rfl) ?_; conv => whnf) | (refine Pick.drawM (by kernel_rfl) ?_; conv => whnf) | (refine CallC.r ?_; conv => whnf))
        refine Pick.at64 (z := ((j * m.columns.toNat + m.columns.toNat : Nat) : Int)) (by rw [← Nat.succ_mul]; push_cast; rw [← hcw]) (by omega) ?_
        ((conv => whnf); repeat first | (refine Br.no ?_; conv => whnf) | (refine Br.yes ?_; conv => whnf) | (refine Pick.draw rfl (by kernel_rfl) ?_; conv => whnf) | (refine Pick.drawM (by kernel_rfl) ?_; conv => whnf) | (refine CallC.r ?_; conv => whnf))
        refine Side.mk (by simp only [List.length_map, grid_len]; omega) ?_
        ((conv => whnf); repeat first | (refine Br.no ?_; conv => whnf) | (refine Br.yes ?_; conv => whnf) | (refine Pick.draw rfl (by kernel_rfl) ?_; conv => whnf) | (refine Pick.drawM (by kernel_rfl) ?_; conv => whnf) | (refine CallC.r ?_; conv => whnf))
        have hq : Sat Try.prog 43 [(false, [.slice 1 (List.drop ((j * m.columns.toNat : Nat) : Int).toNat (List.take ((j * m.columns.toNat + m.columns.toNat : Nat) : Int).toNat ((grid m.rows.toNat m.columns.toNat s.f).map (Enc.enc (α := Int)))))])] (.one (.rs 0), [(0, .arr 1 (((List.range m.columns.toNat).map (s.f j)).map (Enc.enc (α := Int))))]) := by
          rw [grid_sl hjr (by omega) (by omega)]
          exact s_l00Own _ (by simp; omega)
        refine Pick.mk _ (hq) ?_
        ((conv => whnf); repeat first | (refine Br.no ?_; conv => whnf) | (refine Br.yes ?_; conv => whnf) | (refine Pick.draw rfl (by kernel_rfl) ?_; conv => whnf) | (refine Pick.drawM (by kernel_rfl) ?_; conv => whnf) | (refine CallC.r ?_; conv => whnf))
        refine Side.mk (by simp only [List.length_map, List.length_append, hcl, rowsU_len, List.length_cons, List.length_nil]; omega) ?_
        ((conv => whnf); repeat first | (refine Br.no ?_; conv => whnf) | (refine Br.yes ?_; conv => whnf) | (refine Pick.draw rfl (by kernel_rfl) ?_; conv => whnf) | (refine Pick.drawM (by kernel_rfl) ?_; conv => whnf) | (refine CallC.r ?_; conv => whnf))
        refine Pick.at64 (z := (j + 1 : Nat)) (by simp) (by omega) ?_
        ((conv => whnf); repeat first | (refine Br.no ?_; conv => whnf) | (refine Br.yes ?_; conv => whnf) | (refine Pick.draw rfl (by kernel_rfl) ?_; conv => whnf) | (refine Pick.drawM (by kernel_rfl) ?_; conv => whnf) | (refine CallC.r ?_; conv => whnf))
        have hn := ih2 (j + 1) (by omega) (by omega)
        rw [rowsU_succ, ← List.append_assoc, List.map_append] at hn
        exact hn
      · simp [pvI_len] at h6
        obtain rfl : j = s.pv.length := by omega
        ((conv => whnf); repeat first | (refine Br.no ?_; conv => whnf) | (refine Br.yes ?_; conv => whnf) | (refine CallC.r ?_; conv => whnf))
        refine Pick.orders fun K hK => ?_
        ((conv => whnf); repeat first | (refine Br.no ?_; conv => whnf) | (refine Br.yes ?_; conv => whnf) | (refine CallC.r ?_; conv => whnf))
        refine Pick.mk [0, 1] (by kernel_rfl) ?_
        ((conv => whnf); repeat first | (refine Br.no ?_; conv => whnf) | (refine Br.yes ?_; conv => whnf) | (refine CallC.r ?_; conv => whnf))
        refine And.intro ?_ ?_
        · ((conv => whnf); repeat first | (refine Br.no ?_; conv => whnf) | (refine Br.yes ?_; conv => whnf) | (refine CallC.r ?_; conv => whnf))
          refine Pick.mk [1, 2] (by kernel_rfl) ?_
          ((conv => whnf); repeat first | (refine Br.no ?_; conv => whnf) | (refine Br.yes ?_; conv => whnf) | (refine CallC.r ?_; conv => whnf))
          refine And.intro ?_ ?_
          · ((conv => whnf); repeat first | (refine Br.no ?_; conv => whnf) | (refine Br.yes ?_; conv => whnf) | (refine CallC.r ?_; conv => whnf))
            refine Pick.mk [2] (by kernel_rfl) ?_
            ((conv => whnf); repeat first | (refine Br.no ?_; conv => whnf) | (refine Br.yes ?_; conv => whnf) | (refine CallC.r ?_; conv => whnf))
            refine And.intro ?_ trivial
            ((conv => whnf); repeat first | (refine Br.no ?_; conv => whnf) | (refine Br.yes ?_; conv => whnf) | (refine CallC.r ?_; conv => whnf))
            refine Pick.mk [3] (by kernel_rfl) ?_
            ((conv => whnf); repeat first | (refine Br.no ?_; conv => whnf) | (refine Br.yes ?_; conv => whnf) | (refine CallC.r ?_; conv => whnf))
            refine And.intro ?_ trivial
            ((conv => whnf); repeat first | (refine Br.no ?_; conv => whnf) | (refine Br.yes ?_; conv => whnf) | (refine CallC.r ?_; conv => whnf))
            refine Pick.mk [4] (by kernel_rfl) ?_
            ((conv => whnf); repeat first | (refine Br.no ?_; conv => whnf) | (refine Br.yes ?_; conv => whnf) | (refine CallC.r ?_; conv => whnf))
            refine And.intro ?_ trivial
            ((conv => whnf); repeat first | (refine Br.no ?_; conv => whnf) | (refine Br.yes ?_; conv => whnf) | (refine CallC.r ?_; conv => whnf))
            refine And.intro (by kernel_rfl) ?_
            ((conv => whnf); repeat first | (refine Br.no ?_; conv => whnf) | (refine Br.yes ?_; conv => whnf) | (refine CallC.r ?_; conv => whnf))
            refine hK _ ?_
            ((conv => whnf); repeat first | (refine Br.no ?_; conv => whnf) | (refine Br.yes ?_; conv => whnf) | (refine Pick.draw rfl (by kernel_rfl) ?_; conv => whnf) | (refine Pick.drawM (by kernel_rfl) ?_; conv => whnf) | (refine CallC.r ?_; conv => whnf))
            refine ResOK.frz ?_ rfl
            rw [hp, ← List.map_append]
            rfl
          ((conv => whnf); repeat first | (refine Br.no ?_; conv => whnf) | (refine Br.yes ?_; conv => whnf) | (refine CallC.r ?_; conv => whnf))
          refine And.intro ?_ trivial
          ((conv => whnf); repeat first | (refine Br.no ?_; conv => whnf) | (refine Br.yes ?_; conv => whnf) | (refine CallC.r ?_; conv => whnf))
          refine Pick.mk [1] (by kernel_rfl) ?_
          ((conv => whnf); repeat first | (refine Br.no ?_; conv => whnf) | (refine Br.yes ?_; conv => whnf) | (refine CallC.r ?_; conv => whnf))
          refine And.intro ?_ trivial
          ((conv => whnf); repeat first | (refine Br.no ?_; conv => whnf) | (refine Br.yes ?_; conv => whnf) | (refine CallC.r ?_; conv => whnf))
          refine Pick.mk [3] (by kernel_rfl) ?_
          ((conv => whnf); repeat first | (refine Br.no ?_; conv => whnf) | (refine Br.yes ?_; conv => whnf) | (refine CallC.r ?_; conv => whnf))
          refine And.intro ?_ trivial
          ((conv => whnf); repeat first | (refine Br.no ?_; conv => whnf) | (refine Br.yes ?_; conv => whnf) | (refine CallC.r ?_; conv => whnf))
          refine Pick.mk [4] (by kernel_rfl) ?_
          ((conv => whnf); repeat first | (refine Br.no ?_; conv => whnf) | (refine Br.yes ?_; conv => whnf) | (refine CallC.r ?_; conv => whnf))
          refine And.intro ?_ trivial
          ((conv => whnf); repeat first | (refine Br.no ?_; conv => whnf) | (refine Br.yes ?_; conv => whnf) | (refine CallC.r ?_; conv => whnf))
          refine And.intro (by kernel_rfl) ?_
          ((conv => whnf); repeat first | (refine Br.no ?_; conv => whnf) | (refine Br.yes ?_; conv => whnf) | (refine CallC.r ?_; conv => whnf))
          refine hK _ ?_
          ((conv => whnf); repeat first | (refine Br.no ?_; conv => whnf) | (refine Br.yes ?_; conv => whnf) | (refine Pick.draw rfl (by kernel_rfl) ?_; conv => whnf) | (refine Pick.drawM (by kernel_rfl) ?_; conv => whnf) | (refine CallC.r ?_; conv => whnf))
          refine ResOK.frz ?_ rfl
          rw [hp, ← List.map_append]
          rfl
        ((conv => whnf); repeat first | (refine Br.no ?_; conv => whnf) | (refine Br.yes ?_; conv => whnf) | (refine CallC.r ?_; conv => whnf))
        refine And.intro ?_ trivial
        ((conv => whnf); repeat first | (refine Br.no ?_; conv => whnf) | (refine Br.yes ?_; conv => whnf) | (refine CallC.r ?_; conv => whnf))
        refine Pick.mk [0] (by kernel_rfl) ?_
        ((conv => whnf); repeat first | (refine Br.no ?_; conv => whnf) | (refine Br.yes ?_; conv => whnf) | (refine CallC.r ?_; conv => whnf))
        refine And.intro ?_ trivial
        ((conv => whnf); repeat first | (refine Br.no ?_; conv => whnf) | (refine Br.yes ?_; conv => whnf) | (refine CallC.r ?_; conv => whnf))
        refine Pick.mk [2] (by kernel_rfl) ?_
        ((conv => whnf); repeat first | (refine Br.no ?_; conv => whnf) | (refine Br.yes ?_; conv => whnf) | (refine CallC.r ?_; conv => whnf))
        refine And.intro ?_ trivial
        ((conv => whnf); repeat first | (refine Br.no ?_; conv => whnf) | (refine Br.yes ?_; conv => whnf) | (refine CallC.r ?_; conv => whnf))
        refine Pick.mk [3] (by kernel_rfl) ?_
        ((conv => whnf); repeat first | (refine Br.no ?_; conv => whnf) | (refine Br.yes ?_; conv => whnf) | (refine CallC.r ?_; conv => whnf))
        refine And.intro ?_ trivial
        ((conv => whnf); repeat first | (refine Br.no ?_; conv => whnf) | (refine Br.yes ?_; conv => whnf) | (refine CallC.r ?_; conv => whnf))
        refine Pick.mk [4] (by kernel_rfl) ?_
        ((conv => whnf); repeat first | (refine Br.no ?_; conv => whnf) | (refine Br.yes ?_; conv => whnf) | (refine CallC.r ?_; conv => whnf))
        refine And.intro ?_ trivial
        ((conv => whnf); repeat first | (refine Br.no ?_; conv => whnf) | (refine Br.yes ?_; conv => whnf) | (refine CallC.r ?_; conv => whnf))
        refine And.intro (by kernel_rfl) ?_
        ((conv => whnf); repeat first | (refine Br.no ?_; conv => whnf) | (refine Br.yes ?_; conv => whnf) | (refine CallC.r ?_; conv => whnf))
        refine hK _ ?_
        ((conv => whnf); repeat first | (refine Br.no ?_; conv => whnf) | (refine Br.yes ?_; conv => whnf) | (refine Pick.draw rfl (by kernel_rfl) ?_; conv => whnf) | (refine Pick.drawM (by kernel_rfl) ?_; conv => whnf) | (refine CallC.r ?_; conv => whnf))
        refine ResOK.frz ?_ rfl
        rw [hp, ← List.map_append]
        rfl

theorem proveR_small (m : Matrix) : PrSmall (proveR m).1 ∧ PrSmall (proveR m).2.1 := by
  by_cases h : okMatrix m = true
  · have ok := mat_of h
    have hc := cells_small h
    obtain ⟨h1, h2, h3⟩ := okMatrix_of h
    have hp : proveR m = (lowR m (rankS m), highR m (rankS m), 0) := by simp [proveR, h]
    have hpr : (rankS m).pv.length ≤ m.rows.toNat := (elimF_ok ok.p.1 (r := m.rows.toNat) (w := m.columns.toNat) (f := cellAt m) (fun i j _ _ => ok.cellEl i j) m.columns.toNat).pr
    rw [hp]
    generalize rankS m = s at hpr ⊢
    have hcl := colsU_len (m := m) (s := s) (Nat.le_refl s.pv.length)
    have hul := unitsU_len (w := m.columns.toNat) (s := s) (Nat.le_refl s.pv.length)
    have hdl := dual_le (p := m.prime) (c := m.rows.toNat) (vs := colsU m s s.pv.length)
    refine ⟨⟨by show m.cells.length ≤ _; omega, by simp only [lowR, List.length_append, hul]; omega, fun y hy => ?_⟩, ⟨by show m.cells.length ≤ _; omega, by simp only [highR, List.length_append, hcl, rowsU_len]; omega, fun y hy => ?_⟩⟩
    · rcases List.mem_append.1 hy with hy | hy
      · have := unitsU_mem hy; omega
      · have := hdl.2 y hy; omega
    · rcases List.mem_append.1 hy with hy | hy
      · have := (colsU_mem ok hy).1; omega
      · have := rowsU_mem hy; omega
  · have hp : proveR m = (zeroP, zeroP, 1) := by simp [proveR, h]
    rw [hp]; exact ⟨zero_small, zero_small⟩
end Go.Proofs.Ytaplnfcnajpmgaa.Pi
