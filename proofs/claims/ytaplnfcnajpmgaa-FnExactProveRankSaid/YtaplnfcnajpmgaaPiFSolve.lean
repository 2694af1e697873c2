/- Solutions: the program and the reference. No statement of the seat is proved here. -/
import Derived.Test.YtaplnfcnajpmgaaPiFProve
namespace Go.Proofs.Ytaplnfcnajpmgaa.Pi
open Go
set_option maxRecDepth 10000
set_option maxHeartbeats 3200000
set_option linter.unusedVariables false

/-- A row that may be appended to. -/
def ownRow (x : List Int) : List CV := [.own 1 (x.map Enc.enc)]

theorem s_rowsOfD (m : Matrix) {r c : Nat} (ok : MatOK m r c) : Sat Try.prog 62 [(true, Enc.enc m)] (.one (.ds 0), [(0, .deep true 1 ((rowsL m).map ownRow))]) := by
  have hrn := ok.rn
  have hrow := ok.rows
  have hrb := ok.rb
  have hcb := ok.cb
  refine Sat.intro tok mixed Try.func62 rfl rfl ?_
  ((conv => whnf); repeat first | (refine Br.no ?_; conv => whnf) | (refine Br.yes ?_; conv => whnf) | (refine Pick.draw rfl (by kernel_rfl) ?_; conv => whnf) | (refine Pick.drawM (by kernel_rfl) ?_; conv => whnf) | (refine CallC.r ?_; conv => whnf))
  refine Pick.mk [1, 3, 6, 7, 2000192] trivial ?_
  ((conv => whnf); repeat first | (refine Br.no ?_; conv => whnf) | (refine Br.yes ?_; conv => whnf) | (refine Pick.draw rfl (by kernel_rfl) ?_; conv => whnf) | (refine Pick.drawM (by kernel_rfl) ?_; conv => whnf) | (refine CallC.r ?_; conv => whnf))
  refine Side.mk (by simp [flatRows]) ?_
  ((conv => whnf); repeat first | (refine Br.no ?_; conv => whnf) | (refine Br.yes ?_; conv => whnf) | (refine Pick.draw rfl (by kernel_rfl) ?_; conv => whnf) | (refine Pick.drawM (by kernel_rfl) ?_; conv => whnf) | (refine CallC.r ?_; conv => whnf))
  refine LoopL.over (fun i : Nat => [(7, .one (.c (.int .i64 (i : Int))))]) (fun i => [(192, .deep true 1 (((List.range i).map (rowL m)).map ownRow))]) (fun i => r - i) (fun i => i ≤ r) ?_ 0 (Nat.zero_le _)
  intro i hi ih
  ((conv => whnf); repeat first | (refine Br.no ?_; conv => whnf) | (refine Br.yes ?_; conv => whnf) | (refine Pick.draw rfl (by kernel_rfl) ?_; conv => whnf) | (refine Pick.drawM (by kernel_rfl) ?_; conv => whnf) | (refine CallC.r ?_; conv => whnf))
  refine Br.mk (fun h => ?_) (fun h => ?_) <;> ((conv => whnf); repeat first | (refine Br.no ?_; conv => whnf) | (refine Br.yes ?_; conv => whnf) | (refine Pick.draw rfl (by kernel_rfl) ?_; conv => whnf) | (refine Pick.drawM (by kernel_rfl) ?_; conv => whnf) | (refine CallC.r ?_; conv => whnf))
  · simp [hrow] at h
    have hlen := ok.rowLen h
    refine Pick.mk _ (s_row m ok i h) ?_
    ((conv => whnf); repeat first | (refine Br.no ?_; conv => whnf) | (refine Br.yes ?_; conv => whnf) | (refine Pick.draw rfl (by kernel_rfl) ?_; conv => whnf) | (refine Pick.drawM (by kernel_rfl) ?_; conv => whnf) | (refine CallC.r ?_; conv => whnf))
    refine Pick.mk _ (s_CloneInt (rowL m i) (by omega)) ?_
    ((conv => whnf); repeat first | (refine Br.no ?_; conv => whnf) | (refine Br.yes ?_; conv => whnf) | (refine Pick.draw rfl (by kernel_rfl) ?_; conv => whnf) | (refine Pick.drawM (by kernel_rfl) ?_; conv => whnf) | (refine CallC.r ?_; conv => whnf))
    refine Pick.mk none trivial ?_
    ((conv => whnf); repeat first | (refine Br.no ?_; conv => whnf) | (refine Br.yes ?_; conv => whnf) | (refine Pick.draw rfl (by kernel_rfl) ?_; conv => whnf) | (refine Pick.drawM (by kernel_rfl) ?_; conv => whnf) | (refine CallC.r ?_; conv => whnf))
    refine Side.mk (flat_int (rowL m i)) ?_
    ((conv => whnf); repeat first | (refine Br.no ?_; conv => whnf) | (refine Br.yes ?_; conv => whnf) | (refine Pick.draw rfl (by kernel_rfl) ?_; conv => whnf) | (refine Pick.drawM (by kernel_rfl) ?_; conv => whnf) | (refine CallC.r ?_; conv => whnf))
    refine Side.mk (by simp only [List.length_map, List.length_range, List.length_cons, List.length_nil]; omega) ?_
    ((conv => whnf); repeat first | (refine Br.no ?_; conv => whnf) | (refine Br.yes ?_; conv => whnf) | (refine Pick.draw rfl (by kernel_rfl) ?_; conv => whnf) | (refine Pick.drawM (by kernel_rfl) ?_; conv => whnf) | (refine CallC.r ?_; conv => whnf))
    refine Pick.at64 (z := (i + 1 : Nat)) (by simp) (by omega) ?_
    ((conv => whnf); repeat first | (refine Br.no ?_; conv => whnf) | (refine Br.yes ?_; conv => whnf) | (refine Pick.draw rfl (by kernel_rfl) ?_; conv => whnf) | (refine Pick.drawM (by kernel_rfl) ?_; conv => whnf) | (refine CallC.r ?_; conv => whnf))
    have hn := ih (i + 1) (by omega) (by omega)
    rw [List.range_succ, List.map_append, List.map_append] at hn
    exact hn
  · simp [hrow] at h
    obtain rfl : i = r := by omega
    exact ResOK.same (by rw [rowsL, hrn])

/-- A matrix and a right side. -/
def augF (m : Matrix) (w : Nat) (b : List Int) : Nat → Nat → Int := fun i j => if j < w then cellAt m i j else b.getD i 0
theorem augF_el {m : Matrix} {r w : Nat} (ok : MatOK m r w) {b : List Int} (hb : El m.prime b) (i j : Nat) : 0 ≤ augF m w b i j ∧ augF m w b i j < m.prime := by
  unfold augF
  split
  · exact ok.cellEl i j
  · have := hb.get ok.p.2 i (by have := ok.p.1; omega)
    exact ⟨this.1, this.2.2⟩
theorem augRow {m : Matrix} {r w : Nat} (ok : MatOK m r w) {b : List Int} {i : Nat} (hi : i < r) : (List.range (w + 1)).map (augF m w b i) = rowL m i ++ [b.getD i 0] := by
  rw [List.range_succ, List.map_append]
  congr 1
  · have h := rows_tab ok
    have h1 : (rowsL m)[i]? = some (rowL m i) := by rw [rowsL, ok.rn]; simp [hi]
    rw [h, tab_get hi] at h1
    rw [← Option.some.inj h1]
    exact List.map_congr_left fun j hj => by simp [augF, List.mem_range.1 hj]
  · simp [augF]

/-- The rows while they are appended to. -/
def augUp (m : Matrix) (r w : Nat) (b : List Int) (i : Nat) : List (List CV) := ((tab r (w + 1) (augF m w b)).take i).map Enc.enc ++ ((rowsL m).drop i).map ownRow
theorem augUp_len {m : Matrix} {r w : Nat} (ok : MatOK m r w) (b : List Int) {i : Nat} (hi : i ≤ r) : (augUp m r w b i).length = r := by
  simp [augUp, tab_len, rowsL, ok.rn]; omega
theorem augUp_get {m : Matrix} {r w : Nat} (ok : MatOK m r w) (b : List Int) {i : Nat} (hi : i < r) : (augUp m r w b i)[i]? = some (ownRow (rowL m i)) := by
  have hl : ((tab r (w + 1) (augF m w b)).take i).length = i := by simp [tab_len]; omega
  unfold augUp
  rw [List.getElem?_append_right (by rw [List.length_map, hl]; exact Nat.le_refl _), List.length_map, hl, Nat.sub_self]
  simp [rowsL, ok.rn, hi]
theorem augUp_set {m : Matrix} {r w : Nat} (ok : MatOK m r w) (b : List Int) {i : Nat} (hi : i < r) (x : List CV) : ((augUp m r w b i).set i x).set i (Enc.enc (rowL m i ++ [b.getD i 0])) = augUp m r w b (i + 1) := by
  rw [List.set_set]
  have hl : ((tab r (w + 1) (augF m w b)).take i).length = i := by simp [tab_len]; omega
  have hd : (rowsL m).drop i = rowL m i :: (rowsL m).drop (i + 1) := by
    have h1 : i < (rowsL m).length := by simp [rowsL, ok.rn, hi]
    rw [List.drop_eq_getElem_cons h1]
    simp [rowsL]
  unfold augUp
  rw [List.set_append_right _ _ (by rw [List.length_map, hl]; exact Nat.le_refl _), List.length_map, hl, Nat.sub_self, hd, List.map_cons, List.set_cons_zero, List.take_add_one, tab_get hi, List.map_append, augRow ok hi]
  simp
theorem augUp_zero {m : Matrix} {r w : Nat} (b : List Int) : augUp m r w b 0 = (rowsL m).map ownRow := by simp [augUp]
theorem augUp_all {m : Matrix} {r w : Nat} (ok : MatOK m r w) (b : List Int) : augUp m r w b r = (tab r (w + 1) (augF m w b)).map Enc.enc := by
  have h1 : (tab r (w + 1) (augF m w b)).take r = tab r (w + 1) (augF m w b) := List.take_of_length_le (by rw [tab_len]; exact Nat.le_refl _)
  have h2 : (rowsL m).drop r = [] := List.drop_eq_nil_of_le (by simp [rowsL, ok.rn])
  simp [augUp, h1, h2]

def augM (m : Matrix) (r w : Nat) (b : List Int) : Matrix := ⟨m.prime, r, (w + 1 : Nat), grid r (w + 1) (augF m w b)⟩
theorem aug_ok {m : Matrix} {r w : Nat} (ok : MatOK m r w) (hw : w ≤ 4095) {b : List Int} (hb : El m.prime b) : MatOK (augM m r w b) r (w + 1) :=
  ⟨ok.p, rfl, rfl, by simp [augM, grid_len], fun x hx => by
    obtain ⟨i, j, hi, hj, rfl⟩ := grid_mem hx
    exact augF_el ok hb i j, ok.rb, by omega⟩
theorem aug_cell {m : Matrix} {r w : Nat} {b : List Int} {i j : Nat} (hi : i < r) (hj : j < w + 1) : cellAt (augM m r w b) i j = augF m w b i j := by
  show (grid r (w + 1) (augF m w b)).getD (i * ((w + 1 : Nat) : Int).toNat + j) 0 = _
  exact grid_getD hi hj
theorem aug_tab {m : Matrix} {r w : Nat} {b : List Int} : tab r (w + 1) (augF m w b) = tab r (w + 1) (cellAt (augM m r w b)) := tab_congr fun i j hi hj => (aug_cell hi hj).symm

/-- A solution, as far as the first 'n' pivots. -/
def solV (s : ES) (w n : Nat) : List Int := (List.range n).foldl (fun x i => x.set (s.pv.getD i 0) (s.f i w)) (List.replicate w 0)
theorem solV_succ (s : ES) (w n : Nat) : solV s w (n + 1) = (solV s w n).set (s.pv.getD n 0) (s.f n w) := by
  simp only [solV, List.range_succ, List.foldl_append, List.foldl_cons, List.foldl_nil]
theorem solV_len (s : ES) (w : Nat) : ∀ n, (solV s w n).length = w
  | 0 => by simp [solV]
  | n + 1 => by rw [solV_succ, List.length_set, solV_len s w n]
def solE (m : Matrix) (r w : Nat) (b : List Int) : ES := elimF m.prime r (cellAt (augM m r w b)) (w + 1)
/-- The solution, if there is one. -/
def solOf (m : Matrix) (r w : Nat) (b : List Int) : List Int × Bool :=
  if (solE m r w b).pv.contains w then ([], false) else (solV (solE m r w b) w (solE m r w b).pv.length, true)
theorem solOf_no {m : Matrix} {r w : Nat} {b : List Int} {i : Nat} (h : i < (solE m r w b).pv.length) (h2 : (solE m r w b).pv[i] = w) : solOf m r w b = ([], false) := by
  unfold solOf
  rw [if_pos (List.contains_iff_mem.2 (by have := List.getElem_mem h; rw [h2] at this; exact this))]
theorem solOf_yes {m : Matrix} {r w : Nat} {b : List Int} (h : ∀ (j : Nat) (hj : j < (solE m r w b).pv.length), (solE m r w b).pv[j] ≠ w) : solOf m r w b = (solV (solE m r w b) w (solE m r w b).pv.length, true) := by
  unfold solOf
  rw [if_neg (fun hc => by
    obtain ⟨j, hj, e⟩ := List.getElem_of_mem (List.contains_iff_mem.1 hc)
    exact h j hj e)]

theorem s_solve (m : Matrix) {r w : Nat} (ok : MatOK m r w) (b : List Int) (hw : w ≤ 4095) (hb : b.length = r) (hbe : El m.prime b) : Sat Try.prog 59 [(true, Enc.enc m), (false, Enc.enc b)]
    (.tup [(false, [.rs 0]), (false, [.c (.bool (solOf m r w b).2)])], [(0, .arr 1 ((solOf m r w b).1.map Enc.enc))]) := by
  have hrow := ok.rows
  have hcol := ok.columns
  have hrb := ok.rb
  have hcb := ok.cb
  have hp := ok.p
  have hrl : ((rowsL m).map ownRow).length = r := by simp [rowsL, ok.rn]
  refine Sat.intro tok mixed Try.func59 rfl rfl ?_
  ((conv => whnf); repeat first | (refine Br.no ?_; conv => whnf) | (refine Br.yes ?_; conv => whnf) | (refine Pick.draw rfl (by kernel_rfl) ?_; conv => whnf) | (refine Pick.drawM (by kernel_rfl) ?_; conv => whnf) | (refine CallC.r ?_; conv => whnf))
  refine Pick.mk _ (s_rowsOfD m ok) ?_
  ((conv => whnf); repeat first | (refine Br.no ?_; conv => whnf) | (refine Br.yes ?_; conv => whnf) | (refine Pick.draw rfl (by kernel_rfl) ?_; conv => whnf) | (refine Pick.drawM (by kernel_rfl) ?_; conv => whnf) | (refine CallC.r ?_; conv => whnf))
  refine Pick.mk [1, 2, 6, 16, 17] trivial ?_
  ((conv => whnf); repeat first | (refine Br.no ?_; conv => whnf) | (refine Br.yes ?_; conv => whnf) | (refine Pick.draw rfl (by kernel_rfl) ?_; conv => whnf) | (refine Pick.drawM (by kernel_rfl) ?_; conv => whnf) | (refine CallC.r ?_; conv => whnf))
  refine LoopL.over (fun i : Nat => [(17, .one (.c (.int .i64 (i : Int))))]) (fun i => [(384, .deep true 1 (augUp m r w b i))]) (fun i => r - i) (fun i => i ≤ r) ?_ 0 (Nat.zero_le _) (by rw [augUp_zero]; rfl)
  intro i hi ih
  have hul := augUp_len ok b hi
  ((conv => whnf); repeat first | (refine Br.no ?_; conv => whnf) | (refine Br.yes ?_; conv => whnf) | (refine CallC.r ?_; conv => whnf))
  refine Br.mk (fun h => ?_) (fun h => ?_) <;> ((conv => whnf); repeat first | (refine Br.no ?_; conv => whnf) | (refine Br.yes ?_; conv => whnf) | (refine CallC.r ?_; conv => whnf))
  · simp [hrl] at h
    have hug := augUp_get ok b h
    refine Pick.drawA (by kernel_rfl) ?_
    ((conv => whnf); repeat first | (refine Br.no ?_; conv => whnf) | (refine Br.yes ?_; conv => whnf) | (refine Pick.draw rfl (by kernel_rfl) ?_; conv => whnf) | (refine Pick.drawM (by kernel_rfl) ?_; conv => whnf) | (refine CallC.r ?_; conv => whnf))
    refine Side.mk (by rw [hul]; omega) ?_
    ((conv => whnf); repeat first | (refine Br.no ?_; conv => whnf) | (refine Br.yes ?_; conv => whnf) | (refine Pick.draw rfl (by kernel_rfl) ?_; conv => whnf) | (refine Pick.drawM (by kernel_rfl) ?_; conv => whnf) | (refine CallC.r ?_; conv => whnf))
    refine Pick.mk (ownRow (rowL m i)) (by rw [show ((i : Int).toNat) = i by omega]; exact hug) ?_
    ((conv => whnf); repeat first | (refine Br.no ?_; conv => whnf) | (refine Br.yes ?_; conv => whnf) | (refine Pick.draw rfl (by kernel_rfl) ?_; conv => whnf) | (refine Pick.drawM (by kernel_rfl) ?_; conv => whnf) | (refine CallC.r ?_; conv => whnf))
    refine Pick.ix (xs := b) (i := i) (by omega) ?_
    ((conv => whnf); repeat first | (refine Br.no ?_; conv => whnf) | (refine Br.yes ?_; conv => whnf) | (refine Pick.draw rfl (by kernel_rfl) ?_; conv => whnf) | (refine Pick.drawM (by kernel_rfl) ?_; conv => whnf) | (refine CallC.r ?_; conv => whnf))
    refine Pick.mk ((ownRow (rowL m i), (rowL m i).map Enc.enc) : List CV × List (List CV)) ⟨by rw [show ((i : Int).toNat) = i by omega]; exact hug, rfl⟩ ?_
    ((conv => whnf); repeat first | (refine Br.no ?_; conv => whnf) | (refine Br.yes ?_; conv => whnf) | (refine Pick.draw rfl (by kernel_rfl) ?_; conv => whnf) | (refine Pick.drawM (by kernel_rfl) ?_; conv => whnf) | (refine CallC.r ?_; conv => whnf))
    have hlen := ok.rowLen h
    refine Side.mk ⟨by simp [flatRows, Enc.enc, CV.flat], by simp [hlen]; omega⟩ ?_
    ((conv => whnf); repeat first | (refine Br.no ?_; conv => whnf) | (refine Br.yes ?_; conv => whnf) | (refine Pick.draw rfl (by kernel_rfl) ?_; conv => whnf) | (refine Pick.drawM (by kernel_rfl) ?_; conv => whnf) | (refine CallC.r ?_; conv => whnf))
    refine Side.mk (by simp [hul]; omega) ?_
    ((conv => whnf); repeat first | (refine Br.no ?_; conv => whnf) | (refine Br.yes ?_; conv => whnf) | (refine Pick.draw rfl (by kernel_rfl) ?_; conv => whnf) | (refine Pick.drawM (by kernel_rfl) ?_; conv => whnf) | (refine CallC.r ?_; conv => whnf))
    refine Pick.at64 (z := (i + 1 : Nat)) (by simp) (by omega) ?_
    ((conv => whnf); repeat first | (refine Br.no ?_; conv => whnf) | (refine Br.yes ?_; conv => whnf) | (refine Pick.draw rfl (by kernel_rfl) ?_; conv => whnf) | (refine Pick.drawM (by kernel_rfl) ?_; conv => whnf) | (refine CallC.r ?_; conv => whnf))
    have hn := ih (i + 1) (by omega) (by omega)
    rw [← augUp_set ok b h ((ownRow (rowL m i)).set 0 .hole)] at hn
    have e1 : b.getD i 0 = b[i]'(by omega) := getD_lt _ _ _
    rw [e1] at hn
    have e2 : Enc.enc (rowL m i ++ [b[i]'(by omega)]) = [CV.slice 1 ((rowL m i).map Enc.enc ++ [Enc.enc (b[i]'(by omega))])] := by simp [Enc.enc, Enc.sz]
    rw [e2] at hn
    exact hn
  · simp [hrl] at h
    obtain rfl : i = r := by omega
    rw [augUp_all ok b, aug_tab]
    have okA := aug_ok ok hw hbe
    ((conv => whnf); repeat first | (refine Br.no ?_; conv => whnf) | (refine Br.yes ?_; conv => whnf) | (refine Pick.draw rfl (by kernel_rfl) ?_; conv => whnf) | (refine Pick.drawM (by kernel_rfl) ?_; conv => whnf) | (refine CallC.r ?_; conv => whnf))
    refine Pick.at64 (z := ((w + 1 : Nat) : Int)) (by rw [hcol]; push_cast; rfl) (by omega) ?_
    ((conv => whnf); repeat first | (refine Br.no ?_; conv => whnf) | (refine Br.yes ?_; conv => whnf) | (refine Pick.draw rfl (by kernel_rfl) ?_; conv => whnf) | (refine Pick.drawM (by kernel_rfl) ?_; conv => whnf) | (refine CallC.r ?_; conv => whnf))
    refine Pick.mk none trivial ?_
    ((conv => whnf); repeat first | (refine Br.no ?_; conv => whnf) | (refine Br.yes ?_; conv => whnf) | (refine Pick.draw rfl (by kernel_rfl) ?_; conv => whnf) | (refine Pick.drawM (by kernel_rfl) ?_; conv => whnf))
    refine CallC.x ?_
    ((conv => whnf); repeat first | (refine Br.no ?_; conv => whnf) | (refine Br.yes ?_; conv => whnf) | (refine Pick.draw rfl (by kernel_rfl) ?_; conv => whnf) | (refine Pick.drawM (by kernel_rfl) ?_; conv => whnf) | (refine CallC.r ?_; conv => whnf))
    refine Pick.mk _ (s_eliminate (w + 1) i m.prime (cellAt (augM m i w b)) hp (fun a c _ _ => okA.cellEl a c) hrb (by omega)) ?_
    have oks := elimF_ok hp.1 (r := i) (w := w + 1) (f := cellAt (augM m i w b)) (fun a c _ _ => okA.cellEl a c) (w + 1)
    have hno : ∀ (j : Nat) (h : j < (solE m i w b).pv.length), (solE m i w b).pv[j] = w → solOf m i w b = ([], false) := fun j h h2 => solOf_no h h2
    have hyes : (∀ (j : Nat) (hj : j < (solE m i w b).pv.length), (solE m i w b).pv[j] ≠ w) → solOf m i w b = (solV (solE m i w b) w (solE m i w b).pv.length, true) := fun h => solOf_yes h
    rw [show elimF m.prime i (cellAt (augM m i w b)) (w + 1) = solE m i w b from rfl] at oks ⊢
    generalize solE m i w b = s at oks hno hyes ⊢
    ((conv => whnf); repeat first | (refine Br.no ?_; conv => whnf) | (refine Br.yes ?_; conv => whnf) | (refine Pick.draw rfl (by kernel_rfl) ?_; conv => whnf) | (refine Pick.drawM (by kernel_rfl) ?_; conv => whnf) | (refine CallC.r ?_; conv => whnf))
    refine Side.mk (by rw [List.length_map, List.length_map, tab_len, tab_len]) ?_
    ((conv => whnf); repeat first | (refine Br.no ?_; conv => whnf) | (refine Br.yes ?_; conv => whnf) | (refine Pick.draw rfl (by kernel_rfl) ?_; conv => whnf) | (refine Pick.drawM (by kernel_rfl) ?_; conv => whnf) | (refine CallC.r ?_; conv => whnf))
    refine Side.mk (by rw [hcol]; omega) ?_
    ((conv => whnf); repeat first | (refine Br.no ?_; conv => whnf) | (refine Br.yes ?_; conv => whnf) | (refine Pick.draw rfl (by kernel_rfl) ?_; conv => whnf) | (refine Pick.drawM (by kernel_rfl) ?_; conv => whnf) | (refine CallC.r ?_; conv => whnf))
    have hpb := oks.pb
    have hpr := oks.pr
    refine Pick.mk [2, 6, 10, 47, 48, 49, 1000384, 1000512] trivial ?_
    ((conv => whnf); repeat first | (refine Br.no ?_; conv => whnf) | (refine Br.yes ?_; conv => whnf) | (refine Pick.draw rfl (by kernel_rfl) ?_; conv => whnf) | (refine Pick.drawM (by kernel_rfl) ?_; conv => whnf) | (refine CallC.r ?_; conv => whnf))
    refine LoopL.over (fun (q : Nat) => [(49, .one (.c (.int .i64 ((q : Int)))))]) (fun (q : Nat) => [(640, Ob.arr 1 ((solV s w q).map Enc.enc))]) (fun (q : Nat) => s.pv.length - q) (fun (q : Nat) => q ≤ s.pv.length ∧ ∀ (j : Nat) (hj : j < s.pv.length), j < q → s.pv[j] ≠ w) ?_ 0 ⟨Nat.zero_le _, by intros; omega⟩ (by rw [hcol]; simp only [solV, List.range_zero, List.foldl_nil, List.map_replicate]; rfl)
    intro q ⟨hq, hne⟩ ih2
    ((conv => whnf); repeat first | (refine Br.no ?_; conv => whnf) | (refine Br.yes ?_; conv => whnf) | (refine Pick.draw rfl (by kernel_rfl) ?_; conv => whnf) | (refine Pick.drawM (by kernel_rfl) ?_; conv => whnf) | (refine CallC.r ?_; conv => whnf))
    refine Br.mk (fun h3 => ?_) (fun h3 => ?_) <;> ((conv => whnf); repeat first | (refine Br.no ?_; conv => whnf) | (refine Br.yes ?_; conv => whnf) | (refine Pick.draw rfl (by kernel_rfl) ?_; conv => whnf) | (refine Pick.drawM (by kernel_rfl) ?_; conv => whnf) | (refine CallC.r ?_; conv => whnf))
    · simp [pvI_len] at h3
      have h4 : q < (pvI s).length := by rw [pvI_len]; exact h3
      have hpi : (pvI s)[q] = ((s.pv[q] : Nat) : Int) := by simp [pvI]
      have hpw := hpb _ (List.getElem_mem h3)
      refine Pick.ix (xs := pvI s) h4 ?_
      rw [hpi]
      ((conv => whnf); repeat first | (refine Br.no ?_; conv => whnf) | (refine Br.yes ?_; conv => whnf) | (refine Pick.draw rfl (by kernel_rfl) ?_; conv => whnf) | (refine Pick.drawM (by kernel_rfl) ?_; conv => whnf) | (refine CallC.r ?_; conv => whnf))
      refine Br.mk (fun h5 => ?_) (fun h5 => ?_) <;> ((conv => whnf); repeat first | (refine Br.no ?_; conv => whnf) | (refine Br.yes ?_; conv => whnf) | (refine Pick.draw rfl (by kernel_rfl) ?_; conv => whnf) | (refine Pick.drawM (by kernel_rfl) ?_; conv => whnf) | (refine CallC.r ?_; conv => whnf))
      · have h6 : s.pv[q] = w := by rw [hcol] at h5; simp at h5; omega
        exact ResOK.same (by rw [hno q h3 h6]; rfl)
      · have h6 : s.pv[q] ≠ w := by rw [hcol] at h5; simp at h5; omega
        refine Pick.ix (xs := tab i (w + 1) s.f) (i := q) (by rw [tab_len]; omega) ?_
        rw [tab_getE]
        ((conv => whnf); repeat first | (refine Br.no ?_; conv => whnf) | (refine Br.yes ?_; conv => whnf) | (refine Pick.draw rfl (by kernel_rfl) ?_; conv => whnf) | (refine Pick.drawM (by kernel_rfl) ?_; conv => whnf) | (refine CallC.r ?_; conv => whnf))
        refine Pick.roI (xs := (List.range (w + 1)).map (s.f q)) (i := w) (by simp) hcol ?_
        rw [show ((List.range (w + 1)).map (s.f q))[w]'(by simp) = s.f q w by simp]
        ((conv => whnf); repeat first | (refine Br.no ?_; conv => whnf) | (refine Br.yes ?_; conv => whnf) | (refine Pick.draw rfl (by kernel_rfl) ?_; conv => whnf) | (refine Pick.drawM (by kernel_rfl) ?_; conv => whnf) | (refine CallC.r ?_; conv => whnf))
        refine Side.mk (by rw [List.length_map, solV_len]; omega) ?_
        ((conv => whnf); repeat first | (refine Br.no ?_; conv => whnf) | (refine Br.yes ?_; conv => whnf) | (refine Pick.draw rfl (by kernel_rfl) ?_; conv => whnf) | (refine Pick.drawM (by kernel_rfl) ?_; conv => whnf) | (refine CallC.r ?_; conv => whnf))
        have hset : ∀ (n : Nat) (y : List CV), n = s.pv[q] → y = Enc.enc (s.f q w) → ((solV s w q).map (Enc.enc (α := Int))).set n y = (solV s w (q + 1)).map Enc.enc := fun n y e1 e2 => by
          rw [e1, e2, solV_succ, List.map_set, getD_lt _ _ h3]
        rw [hset]
        rotate_left
        · rfl
        · rfl
        refine Pick.at64 (z := (q + 1 : Nat)) (by simp) (by omega) ?_
        ((conv => whnf); repeat first | (refine Br.no ?_; conv => whnf) | (refine Br.yes ?_; conv => whnf) | (refine Pick.draw rfl (by kernel_rfl) ?_; conv => whnf) | (refine Pick.drawM (by kernel_rfl) ?_; conv => whnf) | (refine CallC.r ?_; conv => whnf))
        refine ih2 (q + 1) ⟨by omega, fun j hj h7 => ?_⟩ (by omega)
        by_cases e : j = q
        · subst e; exact h6
        · exact hne j hj (by omega)
    · simp [pvI_len] at h3
      obtain rfl : s.pv.length = q := by omega
      refine ResOK.same ?_
      rw [hyes fun j hj => hne j hj hj]

theorem grid_next (r w : Nat) (f : Nat → Nat → Int) : grid (r + 1) w f = grid r w f ++ (List.range w).map (f r) := by rw [grid_succ]; rfl

theorem s_l03Join (m : Matrix) {r w : Nat} (ok : MatOK m r w) (hw : w ≤ 4095) (b : List Int) (hb : b.length = r) : Sat Try.prog 95 [(false, [.ptr 4 (Enc.enc m)]), (false, [.ptr 4 (Enc.enc (⟨m.prime, m.rows, 1, b⟩ : Matrix))])]
    (.agg [.c (.int .i64 m.prime), .c (.int .i64 r), .c (.int .i64 (w + 1 : Nat)), .rs 0], [(0, .arr 1 ((grid r (w + 1) (augF m w b)).map Enc.enc))]) := by
  have hrow := ok.rows
  have hcol := ok.columns
  have hrb := ok.rb
  have hrc := ok.rc
  have hlc : (m.cells.map (Enc.enc (α := Int))).length = r * w := by rw [List.length_map, ok.len]
  have hlb : (b.map (Enc.enc (α := Int))).length = r := by rw [List.length_map, hb]
  have hrc1 : r * (w + 1) ≤ 16777216 := Nat.mul_le_mul hrb (by omega : w + 1 ≤ 4096)
  refine Sat.intro tok mixed Try.func95 rfl rfl ?_
  ((conv => whnf); repeat first | (refine Br.no ?_; conv => whnf) | (refine Br.yes ?_; conv => whnf) | (refine CallC.r ?_; conv => whnf))
  refine Pick.drawC 17 (by kernel_rfl) ?_
  ((conv => whnf); repeat first | (refine Br.no ?_; conv => whnf) | (refine Br.yes ?_; conv => whnf) | (refine Pick.draw rfl (by kernel_rfl) ?_; conv => whnf) | (refine Pick.drawM (by kernel_rfl) ?_; conv => whnf) | (refine CallC.r ?_; conv => whnf))
  refine Pick.at64 (z := ((w + 1 : Nat) : Int)) (by rw [hcol]; push_cast; rfl) (by omega) ?_
  ((conv => whnf); repeat first | (refine Br.no ?_; conv => whnf) | (refine Br.yes ?_; conv => whnf) | (refine Pick.draw rfl (by kernel_rfl) ?_; conv => whnf) | (refine Pick.drawM (by kernel_rfl) ?_; conv => whnf) | (refine CallC.r ?_; conv => whnf))
  refine Pick.mk [0, 1, 4, 5, 6, 3000355] trivial ?_
  ((conv => whnf); repeat first | (refine Br.no ?_; conv => whnf) | (refine Br.yes ?_; conv => whnf) | (refine Pick.draw rfl (by kernel_rfl) ?_; conv => whnf) | (refine Pick.drawM (by kernel_rfl) ?_; conv => whnf) | (refine CallC.r ?_; conv => whnf))
  refine LoopL.over (fun (i : Nat) => [(6, .one (.c (.int .i64 ((i : Int)))))]) (fun (i : Nat) => [(355, Ob.arr 1 ((grid i (w + 1) (augF m w b)).map Enc.enc))]) (fun (i : Nat) => r - i) (fun (i : Nat) => i ≤ r) ?_ 0 (Nat.zero_le _) (by rw [hrow]; rfl)
  intro i hi ih
  ((conv => whnf); repeat first | (refine Br.no ?_; conv => whnf) | (refine Br.yes ?_; conv => whnf) | (refine Pick.draw rfl (by kernel_rfl) ?_; conv => whnf) | (refine Pick.drawM (by kernel_rfl) ?_; conv => whnf) | (refine CallC.r ?_; conv => whnf))
  refine Br.mk (fun h => ?_) (fun h => ?_) <;> ((conv => whnf); repeat first | (refine Br.no ?_; conv => whnf) | (refine Br.yes ?_; conv => whnf) | (refine Pick.draw rfl (by kernel_rfl) ?_; conv => whnf) | (refine Pick.drawM (by kernel_rfl) ?_; conv => whnf) | (refine CallC.r ?_; conv => whnf))
  · simp [hrow] at h
    have h1 : (i + 1) * w ≤ r * w := Nat.mul_le_mul_right _ h
    have h2 : (i + 1) * w = i * w + w := Nat.succ_mul i w
    have h3 : i * (w + 1) + (w + 1) ≤ r * (w + 1) := by rw [← Nat.succ_mul]; exact Nat.mul_le_mul_right _ h
    have hgl : ((grid i (w + 1) (augF m w b)).map (Enc.enc (α := Int))).length = i * (w + 1) := by rw [List.length_map, grid_len]
    refine Pick.at64 (z := ((i * w : Nat) : Int)) (by rw [hcol]; push_cast; rfl) (by omega) ?_
    ((conv => whnf); repeat first | (refine Br.no ?_; conv => whnf) | (refine Br.yes ?_; conv => whnf) | (refine Pick.draw rfl (by kernel_rfl) ?_; conv => whnf) | (refine Pick.drawM (by kernel_rfl) ?_; conv => whnf) | (refine CallC.r ?_; conv => whnf))
    refine Pick.at64 (z := (i + 1 : Nat)) (by simp) (by omega) ?_
    ((conv => whnf); repeat first | (refine Br.no ?_; conv => whnf) | (refine Br.yes ?_; conv => whnf) | (refine Pick.draw rfl (by kernel_rfl) ?_; conv => whnf) | (refine Pick.drawM (by kernel_rfl) ?_; conv => whnf) | (refine CallC.r ?_; conv => whnf))
    refine Pick.at64 (z := (((i + 1) * w : Nat) : Int)) (by rw [hcol]; push_cast; rfl) (by omega) ?_
    ((conv => whnf); repeat first | (refine Br.no ?_; conv => whnf) | (refine Br.yes ?_; conv => whnf) | (refine Pick.draw rfl (by kernel_rfl) ?_; conv => whnf) | (refine Pick.drawM (by kernel_rfl) ?_; conv => whnf) | (refine CallC.r ?_; conv => whnf))
    refine Side.mk (by rw [hlc]; omega) ?_
    ((conv => whnf); repeat first | (refine Br.no ?_; conv => whnf) | (refine Br.yes ?_; conv => whnf) | (refine Pick.draw rfl (by kernel_rfl) ?_; conv => whnf) | (refine Pick.drawM (by kernel_rfl) ?_; conv => whnf) | (refine CallC.r ?_; conv => whnf))
    have hrl : (((m.cells.map (Enc.enc (α := Int))).take ((((i + 1) * w : Nat) : Int).toNat)).drop (((i * w : Nat) : Int).toNat)) = (rowL m i).map Enc.enc := by
      simp only [rowL, ok.cn, Int.toNat_natCast, List.map_drop, List.map_take]
    rw [hrl]
    have hlen := ok.rowLen h
    refine Side.mk (by rw [hgl, List.length_map, hlen]; omega) ?_
    ((conv => whnf); repeat first | (refine Br.no ?_; conv => whnf) | (refine Br.yes ?_; conv => whnf) | (refine Pick.draw rfl (by kernel_rfl) ?_; conv => whnf) | (refine Pick.drawM (by kernel_rfl) ?_; conv => whnf) | (refine CallC.r ?_; conv => whnf))
    refine Pick.at64 (z := (i : Int)) (by simp) (by omega) ?_
    ((conv => whnf); repeat first | (refine Br.no ?_; conv => whnf) | (refine Br.yes ?_; conv => whnf) | (refine Pick.draw rfl (by kernel_rfl) ?_; conv => whnf) | (refine Pick.drawM (by kernel_rfl) ?_; conv => whnf) | (refine CallC.r ?_; conv => whnf))
    refine Pick.at64 (z := (i + 1 : Nat)) (by simp) (by omega) ?_
    ((conv => whnf); repeat first | (refine Br.no ?_; conv => whnf) | (refine Br.yes ?_; conv => whnf) | (refine Pick.draw rfl (by kernel_rfl) ?_; conv => whnf) | (refine Pick.drawM (by kernel_rfl) ?_; conv => whnf) | (refine CallC.r ?_; conv => whnf))
    refine Pick.at64 (z := ((i + 1 : Nat) : Int)) (by simp) (by omega) ?_
    ((conv => whnf); repeat first | (refine Br.no ?_; conv => whnf) | (refine Br.yes ?_; conv => whnf) | (refine Pick.draw rfl (by kernel_rfl) ?_; conv => whnf) | (refine Pick.drawM (by kernel_rfl) ?_; conv => whnf) | (refine CallC.r ?_; conv => whnf))
    refine Side.mk (by rw [hlb]; omega) ?_
    ((conv => whnf); repeat first | (refine Br.no ?_; conv => whnf) | (refine Br.yes ?_; conv => whnf) | (refine Pick.draw rfl (by kernel_rfl) ?_; conv => whnf) | (refine Pick.drawM (by kernel_rfl) ?_; conv => whnf) | (refine CallC.r ?_; conv => whnf))
    have hbl : (((b.map (Enc.enc (α := Int))).take (((i + 1 : Nat) : Int).toNat)).drop ((i : Int).toNat)) = [Enc.enc (b.getD i 0)] := by
      simp only [Int.toNat_natCast]
      rw [← List.map_take, ← List.map_drop, List.take_add_one, List.drop_append_of_le_length (by simp; omega), List.drop_eq_nil_of_le (by simp; omega), List.getElem?_eq_getElem (by omega), getD_lt _ _ (by omega)]
      rfl
    rw [hbl]
    refine Side.mk (by simp [grid_len, hlen]; omega) ?_
    ((conv => whnf); repeat first | (refine Br.no ?_; conv => whnf) | (refine Br.yes ?_; conv => whnf) | (refine Pick.draw rfl (by kernel_rfl) ?_; conv => whnf) | (refine Pick.drawM (by kernel_rfl) ?_; conv => whnf) | (refine CallC.r ?_; conv => whnf))
    refine Pick.at64 (z := (i + 1 : Nat)) (by simp) (by omega) ?_
    ((conv => whnf); repeat first | (refine Br.no ?_; conv => whnf) | (refine Br.yes ?_; conv => whnf) | (refine Pick.draw rfl (by kernel_rfl) ?_; conv => whnf) | (refine Pick.drawM (by kernel_rfl) ?_; conv => whnf) | (refine CallC.r ?_; conv => whnf))
    have hn := ih (i + 1) (by omega) (by omega)
    rw [grid_next, augRow ok h, ← List.append_assoc, List.map_append, List.map_append] at hn
    exact hn
  · simp [hrow] at h
    obtain rfl : i = r := by omega
    exact ResOK.same (by rw [hrow])

theorem s_l03Solve (m : Matrix) {r w : Nat} (ok : MatOK m r w) (hw : w ≤ 4095) (b : List Int) (hb : b.length = r) (hbe : El m.prime b) : Sat Try.prog 56 [(false, [.ptr 4 (Enc.enc m)]), (false, Enc.enc b)]
    (.tup [(false, [.rs 0]), (false, [.c (.bool (solOf m r w b).2)])], [(0, .arr 1 ((solOf m r w b).1.map Enc.enc))]) := by
  have hrow := ok.rows
  have hcol := ok.columns
  have hrb := ok.rb
  have hcb := ok.cb
  have hp := ok.p
  have okA := aug_ok ok hw hbe
  have hrc := okA.rc
  have hwp : ∀ a, a < r → a * (w + 1) ≤ 16777216 := fun a ha => Nat.le_trans (Nat.mul_le_mul_right _ (Nat.le_of_lt ha)) hrc
  have hgl : ∀ g, ((grid r (w + 1) g).map (Enc.enc (α := Int))).length = r * (w + 1) := fun g => by rw [List.length_map, grid_len]
  refine Sat.intro tok mixed Try.func56 rfl rfl ?_
  ((conv => whnf); repeat first | (refine Br.no ?_; conv => whnf) | (refine Br.yes ?_; conv => whnf) | (refine Pick.draw rfl (by kernel_rfl) ?_; conv => whnf) | (refine Pick.drawM (by kernel_rfl) ?_; conv => whnf) | (refine CallC.r ?_; conv => whnf))
  refine Pick.mk _ (s_l03Join m ok hw b hb) ?_
  ((conv => whnf); repeat first | (refine Br.no ?_; conv => whnf) | (refine Br.yes ?_; conv => whnf) | (refine Pick.draw rfl (by kernel_rfl) ?_; conv => whnf) | (refine Pick.drawM (by kernel_rfl) ?_; conv => whnf) | (refine CallC.r ?_; conv => whnf))
  refine Pick.mk _ (s_l03Reduced (augM m r w b) okA) ?_
  have oks := elimF_ok hp.1 (r := r) (w := w + 1) (f := cellAt (augM m r w b)) (fun a c _ _ => okA.cellEl a c) (w + 1)
  have hno : ∀ (j : Nat) (h : j < (solE m r w b).pv.length), (solE m r w b).pv[j] = w → solOf m r w b = ([], false) := fun j h h2 => solOf_no h h2
  have hyes : (∀ (j : Nat) (hj : j < (solE m r w b).pv.length), (solE m r w b).pv[j] ≠ w) → solOf m r w b = (solV (solE m r w b) w (solE m r w b).pv.length, true) := fun h => solOf_yes h
  rw [show elimF (augM m r w b).prime r (cellAt (augM m r w b)) (w + 1) = solE m r w b from rfl]
  rw [show elimF m.prime r (cellAt (augM m r w b)) (w + 1) = solE m r w b from rfl] at oks
  generalize solE m r w b = s at oks hno hyes ⊢
  ((conv => whnf); repeat first | (refine Br.no ?_; conv => whnf) | (refine Br.yes ?_; conv => whnf) | (refine Pick.draw rfl (by kernel_rfl) ?_; conv => whnf) | (refine Pick.drawM (by kernel_rfl) ?_; conv => whnf) | (refine CallC.r ?_; conv => whnf))
  refine Side.mk (by rw [hcol]; omega) ?_
  ((conv => whnf); repeat first | (refine Br.no ?_; conv => whnf) | (refine Br.yes ?_; conv => whnf) | (refine Pick.draw rfl (by kernel_rfl) ?_; conv => whnf) | (refine Pick.drawM (by kernel_rfl) ?_; conv => whnf) | (refine CallC.r ?_; conv => whnf))
  have hpb := oks.pb
  have hpr := oks.pr
  refine Pick.mk [0, 7, 8, 9, 11, 12, 1000512, 1000576] trivial ?_
  ((conv => whnf); repeat first | (refine Br.no ?_; conv => whnf) | (refine Br.yes ?_; conv => whnf) | (refine Pick.draw rfl (by kernel_rfl) ?_; conv => whnf) | (refine Pick.drawM (by kernel_rfl) ?_; conv => whnf) | (refine CallC.r ?_; conv => whnf))
  refine LoopL.over (fun (q : Nat) => [(12, .one (.c (.int .i64 ((q : Int)))))]) (fun (q : Nat) => [(704, Ob.arr 1 ((solV s w q).map Enc.enc))]) (fun (q : Nat) => s.pv.length - q) (fun (q : Nat) => q ≤ s.pv.length ∧ ∀ (j : Nat) (hj : j < s.pv.length), j < q → s.pv[j] ≠ w) ?_ 0 ⟨Nat.zero_le _, by intros; omega⟩ (by rw [hcol]; simp only [solV, List.range_zero, List.foldl_nil, List.map_replicate]; rfl)
  intro q ⟨hq, hne⟩ ih2
  ((conv => whnf); repeat first | (refine Br.no ?_; conv => whnf) | (refine Br.yes ?_; conv => whnf) | (refine Pick.draw rfl (by kernel_rfl) ?_; conv => whnf) | (refine Pick.drawM (by kernel_rfl) ?_; conv => whnf) | (refine CallC.r ?_; conv => whnf))
  refine Br.mk (fun h3 => ?_) (fun h3 => ?_) <;> ((conv => whnf); repeat first | (refine Br.no ?_; conv => whnf) | (refine Br.yes ?_; conv => whnf) | (refine Pick.draw rfl (by kernel_rfl) ?_; conv => whnf) | (refine Pick.drawM (by kernel_rfl) ?_; conv => whnf) | (refine CallC.r ?_; conv => whnf))
  · simp [pvI_len] at h3
    have h4 : q < (pvI s).length := by rw [pvI_len]; exact h3
    have hpi : (pvI s)[q] = ((s.pv[q] : Nat) : Int) := by simp [pvI]
    have hpw := hpb _ (List.getElem_mem h3)
    refine Pick.ix (xs := pvI s) h4 ?_
    rw [hpi]
    ((conv => whnf); repeat first | (refine Br.no ?_; conv => whnf) | (refine Br.yes ?_; conv => whnf) | (refine Pick.draw rfl (by kernel_rfl) ?_; conv => whnf) | (refine Pick.drawM (by kernel_rfl) ?_; conv => whnf) | (refine CallC.r ?_; conv => whnf))
    refine Br.mk (fun h5 => ?_) (fun h5 => ?_) <;> ((conv => whnf); repeat first | (refine Br.no ?_; conv => whnf) | (refine Br.yes ?_; conv => whnf) | (refine Pick.draw rfl (by kernel_rfl) ?_; conv => whnf) | (refine Pick.drawM (by kernel_rfl) ?_; conv => whnf) | (refine CallC.r ?_; conv => whnf))
    · have h6 : s.pv[q] = w := by rw [hcol] at h5; simp at h5; omega
      exact ResOK.same (by rw [hno q h3 h6]; rfl)
    · have h6 : s.pv[q] ≠ w := by rw [hcol] at h5; simp at h5; omega
      have hqr : q < r := by omega
      have hqw := hwp q hqr
      have hij := ij_lt (c := w + 1) hqr (show w < w + 1 by omega)
      refine Pick.ix (xs := pvI s) h4 ?_
      rw [hpi]
      ((conv => whnf); repeat first | (refine Br.no ?_; conv => whnf) | (refine Br.yes ?_; conv => whnf) | (refine Pick.draw rfl (by kernel_rfl) ?_; conv => whnf) | (refine Pick.drawM (by kernel_rfl) ?_; conv => whnf) | (refine CallC.r ?_; conv => whnf))
      refine Pick.at64 (z := ((q * (w + 1) : Nat) : Int)) (by push_cast; rfl) (by omega) ?_
      ((conv => whnf); repeat first | (refine Br.no ?_; conv => whnf) | (refine Br.yes ?_; conv => whnf) | (refine Pick.draw rfl (by kernel_rfl) ?_; conv => whnf) | (refine Pick.drawM (by kernel_rfl) ?_; conv => whnf) | (refine CallC.r ?_; conv => whnf))
      refine Pick.at64 (z := ((q * (w + 1) + w : Nat) : Int)) (by rw [hcol]; push_cast; rfl) (by omega) ?_
      ((conv => whnf); repeat first | (refine Br.no ?_; conv => whnf) | (refine Br.yes ?_; conv => whnf) | (refine Pick.draw rfl (by kernel_rfl) ?_; conv => whnf) | (refine Pick.drawM (by kernel_rfl) ?_; conv => whnf) | (refine CallC.r ?_; conv => whnf))
      refine Pick.mk (Enc.enc (s.f q w)) ⟨by omega, by rw [Int.toNat_natCast, List.getElem?_map, grid_get hqr (by omega)]; rfl⟩ ?_
      ((conv => whnf); repeat first | (refine Br.no ?_; conv => whnf) | (refine Br.yes ?_; conv => whnf) | (refine Pick.draw rfl (by kernel_rfl) ?_; conv => whnf) | (refine Pick.drawM (by kernel_rfl) ?_; conv => whnf) | (refine CallC.r ?_; conv => whnf))
      refine Side.mk (by rw [List.length_map, solV_len]; omega) ?_
      ((conv => whnf); repeat first | (refine Br.no ?_; conv => whnf) | (refine Br.yes ?_; conv => whnf) | (refine Pick.draw rfl (by kernel_rfl) ?_; conv => whnf) | (refine Pick.drawM (by kernel_rfl) ?_; conv => whnf) | (refine CallC.r ?_; conv => whnf))
      have hset : ∀ (n : Nat) (y : List CV), n = s.pv[q] → y = Enc.enc (s.f q w) → ((solV s w q).map (Enc.enc (α := Int))).set n y = (solV s w (q + 1)).map Enc.enc := fun n y e1 e2 => by
        rw [e1, e2, solV_succ, List.map_set, getD_lt _ _ h3]
      rw [hset]
      rotate_left
      · rfl
      · rfl
      refine Pick.at64 (z := (q + 1 : Nat)) (by simp) (by omega) ?_
      ((conv => whnf); repeat first | (refine Br.no ?_; conv => whnf) | (refine Br.yes ?_; conv => whnf) | (refine Pick.draw rfl (by kernel_rfl) ?_; conv => whnf) | (refine Pick.drawM (by kernel_rfl) ?_; conv => whnf) | (refine CallC.r ?_; conv => whnf))
      refine ih2 (q + 1) ⟨by omega, fun j hj h7 => ?_⟩ (by omega)
      by_cases e : j = q
      · subst e; exact h6
      · exact hne j hj (by omega)
  · simp [pvI_len] at h3
    obtain rfl : s.pv.length = q := by omega
    refine ResOK.same ?_
    rw [hyes fun j hj => hne j hj hj]
end Go.Proofs.Ytaplnfcnajpmgaa.Pi
