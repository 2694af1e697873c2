/- Proofs that nothing else leads to 0, and of solutions; how large proofs are. No statement of the seat is proved here. -/
import Derived.Test.YtaplnfcnajpmgaaPiFDual
import Derived.Test.YtaplnfcnajpmgaaPiM5
namespace Go.Proofs.Ytaplnfcnajpmgaa.Pi
open Go
set_option maxRecDepth 10000
set_option maxHeartbeats 3200000
set_option linter.unusedVariables false

def proveI (m : Matrix) : Proof × Int := if okMatrix m then (match dualOf m.prime m.rows.toNat (colsL m) with | (l, true) => (⟨4, m, l⟩, 0) | (_, false) => (zeroP, 3)) else (zeroP, 1)
theorem cols_ok {m : Matrix} {r w : Nat} (ok : MatOK m r w) : VecsOK m.prime r (colsL m) := fun x hx => by
  obtain ⟨j, _, rfl⟩ := List.mem_map.1 hx
  exact ⟨ok.colLen j, ok.colEl j⟩
theorem cols_len {m : Matrix} {r w : Nat} (ok : MatOK m r w) : (colsL m).length = w := by simp [colsL, ok.cn]
theorem dual_len {p : Int} {c : Nat} {vs : List (List Int)} (h : (dualOf p c vs).2 = true) : (dualOf p c vs).1.length = vs.length ∧ ∀ x ∈ (dualOf p c vs).1, x.length = c := by
  unfold dualOf at h ⊢
  split at h
  · rename_i l hl; exact duUp_len hl
  · cases h

theorem s_impl_ProveInjective (m : Matrix) (o : Enc.ok m) : Sat Try.prog 20 [(true, Enc.enc m)] (prRes (proveI m)) := by
  refine Sat.intro tok mixed Try.func20 rfl rfl ?_
  ((conv => whnf); repeat first | (refine Br.no ?_; conv => whnf) | (refine Br.yes ?_; conv => whnf) | (refine Pick.draw rfl (by kernel_rfl) ?_; conv => whnf) | (refine Pick.drawM (by kernel_rfl) ?_; conv => whnf) | (refine CallC.r ?_; conv => whnf))
  refine Pick.mk _ (s_impl_ValidMatrix m o) ?_
  ((conv => whnf); repeat first | (refine Br.no ?_; conv => whnf) | (refine Br.yes ?_; conv => whnf) | (refine Pick.draw rfl (by kernel_rfl) ?_; conv => whnf) | (refine Pick.drawM (by kernel_rfl) ?_; conv => whnf) | (refine CallC.r ?_; conv => whnf))
  refine Br.mk (fun h => ?_) (fun h => ?_) <;> ((conv => whnf); repeat first | (refine Br.no ?_; conv => whnf) | (refine Br.yes ?_; conv => whnf) | (refine Pick.draw rfl (by kernel_rfl) ?_; conv => whnf) | (refine Pick.drawM (by kernel_rfl) ?_; conv => whnf) | (refine CallC.r ?_; conv => whnf))
  · simp at h
    exact pr_zero (by simp [proveI, h])
  · simp at h
    have ok := mat_of h
    have hc := cells_small h
    obtain ⟨h1, h2, h3⟩ := okMatrix_of h
    have hd := s_duals m.prime m.rows.toNat (colsL m) h1 (cols_ok ok) (by omega) (by rw [cols_len ok]; omega)
    rw [show ((m.rows.toNat : Nat) : Int) = m.rows by omega] at hd
    have hl := dual_len (p := m.prime) (c := m.rows.toNat) (vs := colsL m)
    have hcl := cols_len ok
    have hp : proveI m = (match dualOf m.prime m.rows.toNat (colsL m) with | (l, true) => (⟨4, m, l⟩, 0) | (_, false) => (zeroP, 3)) := by simp [proveI, h]
    refine Pick.mk _ (s_columnsOf m ok) ?_
    ((conv => whnf); repeat first | (refine Br.no ?_; conv => whnf) | (refine Br.yes ?_; conv => whnf) | (refine Pick.draw rfl (by kernel_rfl) ?_; conv => whnf) | (refine Pick.drawM (by kernel_rfl) ?_; conv => whnf) | (refine CallC.r ?_; conv => whnf))
    refine Pick.mk _ hd ?_
    generalize dualOf m.prime m.rows.toNat (colsL m) = z at hl hp ⊢
    obtain ⟨l, b⟩ := z
    cases b with
    | false =>
      ((conv => whnf); repeat first | (refine Br.no ?_; conv => whnf) | (refine Br.yes ?_; conv => whnf) | (refine Pick.draw rfl (by kernel_rfl) ?_; conv => whnf) | (refine Pick.drawM (by kernel_rfl) ?_; conv => whnf) | (refine CallC.r ?_; conv => whnf))
      exact pr_zero hp
    | true =>
      have hl := hl rfl
      ((conv => whnf); repeat first | (refine Br.no ?_; conv => whnf) | (refine Br.yes ?_; conv => whnf) | (refine Pick.draw rfl (by kernel_rfl) ?_; conv => whnf) | (refine Pick.drawM (by kernel_rfl) ?_; conv => whnf) | (refine CallC.r ?_; conv => whnf))
      refine Pick.mk _ (s_proofOf 4 m l (by omega) (by simp only at hl; omega) (fun y hy => by have := hl.2 y hy; omega)) ?_
      ((conv => whnf); repeat first | (refine Br.no ?_; conv => whnf) | (refine Br.yes ?_; conv => whnf) | (refine Pick.draw rfl (by kernel_rfl) ?_; conv => whnf) | (refine Pick.drawM (by kernel_rfl) ?_; conv => whnf) | (refine CallC.r ?_; conv => whnf))
      refine ResOK.own ?_ ⟨flat_int _, trivial⟩
      rw [hp]
      rfl

theorem s_l04ColumnsD (m : Matrix) {r c : Nat} (ok : MatOK m r c) : Sat Try.prog 52 [(false, [.ptr 4 (Enc.enc m)])] (.one (.ds 0), [(0, .deep true 1 ((colsL m).map Enc.enc))]) := by
  have hrn := ok.rn
  have hcn := ok.cn
  have hrow := ok.rows
  have hcol := ok.columns
  have hrb := ok.rb
  have hcb := ok.cb
  refine Sat.intro tok mixed Try.func52 rfl rfl ?_
  ((conv => whnf); repeat first | (refine Br.no ?_; conv => whnf) | (refine Br.yes ?_; conv => whnf) | (refine Pick.draw rfl (by kernel_rfl) ?_; conv => whnf) | (refine Pick.drawM (by kernel_rfl) ?_; conv => whnf) | (refine CallC.r ?_; conv => whnf))
  refine Pick.mk [0, 3, 4, 2000192] trivial ?_
  ((conv => whnf); repeat first | (refine Br.no ?_; conv => whnf) | (refine Br.yes ?_; conv => whnf) | (refine Pick.draw rfl (by kernel_rfl) ?_; conv => whnf) | (refine Pick.drawM (by kernel_rfl) ?_; conv => whnf) | (refine CallC.r ?_; conv => whnf))
  refine Side.mk (by simp [flatRows]) ?_
  ((conv => whnf); repeat first | (refine Br.no ?_; conv => whnf) | (refine Br.yes ?_; conv => whnf) | (refine Pick.draw rfl (by kernel_rfl) ?_; conv => whnf) | (refine Pick.drawM (by kernel_rfl) ?_; conv => whnf) | (refine CallC.r ?_; conv => whnf))
  refine LoopL.over (fun j : Nat => [(4, .one (.c (.int .i64 (j : Int))))]) (fun j => [(192, .deep true 1 (((List.range j).map (colL m)).map Enc.enc))]) (fun j => c - j) (fun j => j ≤ c) ?_ 0 (Nat.zero_le _)
  intro j hj ih
  ((conv => whnf); repeat first | (refine Br.no ?_; conv => whnf) | (refine Br.yes ?_; conv => whnf) | (refine Pick.draw rfl (by kernel_rfl) ?_; conv => whnf) | (refine Pick.drawM (by kernel_rfl) ?_; conv => whnf) | (refine CallC.r ?_; conv => whnf))
  refine Br.mk (fun h => ?_) (fun h => ?_) <;> ((conv => whnf); repeat first | (refine Br.no ?_; conv => whnf) | (refine Br.yes ?_; conv => whnf) | (refine Pick.draw rfl (by kernel_rfl) ?_; conv => whnf) | (refine Pick.drawM (by kernel_rfl) ?_; conv => whnf) | (refine CallC.r ?_; conv => whnf))
  · simp [hcol] at h
    refine Pick.mk [0, 3, 4, 5, 6] trivial ?_
    ((conv => whnf); repeat first | (refine Br.no ?_; conv => whnf) | (refine Br.yes ?_; conv => whnf) | (refine Pick.draw rfl (by kernel_rfl) ?_; conv => whnf) | (refine Pick.drawM (by kernel_rfl) ?_; conv => whnf) | (refine CallC.r ?_; conv => whnf))
    refine LoopL.over (fun (i : Nat) => [(6, .one (.c (.int .i64 ((i : Int)))))]) (fun (i : Nat) => [(320, .arr 1 (List.map Enc.enc ((List.range i).map fun i => cellAt m i j)))]) (fun (i : Nat) => r - i) (fun (i : Nat) => i ≤ r) ?_ 0 (Nat.zero_le _)
    intro i hi ih2
    ((conv => whnf); repeat first | (refine Br.no ?_; conv => whnf) | (refine Br.yes ?_; conv => whnf) | (refine Pick.draw rfl (by kernel_rfl) ?_; conv => whnf) | (refine Pick.drawM (by kernel_rfl) ?_; conv => whnf) | (refine CallC.r ?_; conv => whnf))
    refine Br.mk (fun h2 => ?_) (fun h2 => ?_) <;> ((conv => whnf); repeat first | (refine Br.no ?_; conv => whnf) | (refine Br.yes ?_; conv => whnf) | (refine Pick.draw rfl (by kernel_rfl) ?_; conv => whnf) | (refine Pick.drawM (by kernel_rfl) ?_; conv => whnf) | (refine CallC.r ?_; conv => whnf))
    · simp [hrow] at h2
      have hbig := ok.big h2 h
      have hlt := ok.lt h2 h
      have hic : i * c ≤ i * c + j := Nat.le_add_right _ _
      have h6 := ok.cell h2 h
      refine Pick.at64 (z := ((i * c : Nat) : Int)) (by rw [hcol]; push_cast; rfl) (by omega) ?_
      ((conv => whnf); repeat first | (refine Br.no ?_; conv => whnf) | (refine Br.yes ?_; conv => whnf) | (refine Pick.draw rfl (by kernel_rfl) ?_; conv => whnf) | (refine Pick.drawM (by kernel_rfl) ?_; conv => whnf) | (refine CallC.r ?_; conv => whnf))
      refine Pick.at64 (z := ((i * c + j : Nat) : Int)) (by push_cast; rfl) (by omega) ?_
      ((conv => whnf); repeat first | (refine Br.no ?_; conv => whnf) | (refine Br.yes ?_; conv => whnf) | (refine Pick.draw rfl (by kernel_rfl) ?_; conv => whnf) | (refine Pick.drawM (by kernel_rfl) ?_; conv => whnf) | (refine CallC.r ?_; conv => whnf))
      refine Pick.ix (hlt) ?_
      ((conv => whnf); repeat first | (refine Br.no ?_; conv => whnf) | (refine Br.yes ?_; conv => whnf) | (refine Pick.draw rfl (by kernel_rfl) ?_; conv => whnf) | (refine Pick.drawM (by kernel_rfl) ?_; conv => whnf) | (refine CallC.r ?_; conv => whnf))
      refine Side.mk (by simp only [List.length_map, List.length_range, List.length_cons, List.length_nil]; omega) ?_
      ((conv => whnf); repeat first | (refine Br.no ?_; conv => whnf) | (refine Br.yes ?_; conv => whnf) | (refine Pick.draw rfl (by kernel_rfl) ?_; conv => whnf) | (refine Pick.drawM (by kernel_rfl) ?_; conv => whnf) | (refine CallC.r ?_; conv => whnf))
      refine Pick.at64 (z := (i + 1 : Nat)) (by simp) (by omega) ?_
      ((conv => whnf); repeat first | (refine Br.no ?_; conv => whnf) | (refine Br.yes ?_; conv => whnf) | (refine Pick.draw rfl (by kernel_rfl) ?_; conv => whnf) | (refine Pick.drawM (by kernel_rfl) ?_; conv => whnf) | (refine CallC.r ?_; conv => whnf))
      have hn := ih2 (i + 1) (by omega) (by omega)
      rw [List.range_succ, List.map_append, List.map_append] at hn
      simp only [List.map_cons, List.map_nil, h6] at hn
      exact hn
    · simp [hrow] at h2
      obtain rfl : i = r := by omega
      refine Pick.mk true trivial ?_
      ((conv => whnf); repeat first | (refine Br.no ?_; conv => whnf) | (refine Br.yes ?_; conv => whnf) | (refine Pick.draw rfl (by kernel_rfl) ?_; conv => whnf) | (refine Pick.drawM (by kernel_rfl) ?_; conv => whnf) | (refine CallC.r ?_; conv => whnf))
      refine Side.mk (flat_int _) ?_
      ((conv => whnf); repeat first | (refine Br.no ?_; conv => whnf) | (refine Br.yes ?_; conv => whnf) | (refine Pick.draw rfl (by kernel_rfl) ?_; conv => whnf) | (refine Pick.drawM (by kernel_rfl) ?_; conv => whnf) | (refine CallC.r ?_; conv => whnf))
      refine Side.mk (by simp only [List.length_map, List.length_range, List.length_cons, List.length_nil]; omega) ?_
      ((conv => whnf); repeat first | (refine Br.no ?_; conv => whnf) | (refine Br.yes ?_; conv => whnf) | (refine Pick.draw rfl (by kernel_rfl) ?_; conv => whnf) | (refine Pick.drawM (by kernel_rfl) ?_; conv => whnf) | (refine CallC.r ?_; conv => whnf))
      refine Pick.at64 (z := (j + 1 : Nat)) (by simp) (by omega) ?_
      ((conv => whnf); repeat first | (refine Br.no ?_; conv => whnf) | (refine Br.yes ?_; conv => whnf) | (refine Pick.draw rfl (by kernel_rfl) ?_; conv => whnf) | (refine Pick.drawM (by kernel_rfl) ?_; conv => whnf) | (refine CallC.r ?_; conv => whnf))
      have hn := ih (j + 1) (by omega) (by omega)
      rw [List.range_succ, List.map_append, List.map_append] at hn
      have e : colL m j = (List.range i).map fun i => cellAt m i j := by rw [colL, hrn]
      simp only [List.map_cons, List.map_nil, e] at hn
      exact hn
  · simp [hcol] at h
    obtain rfl : j = c := by omega
    exact ResOK.same (by rw [colsL, hcn])

theorem s_spec_ProveInjective (m : Matrix) (o : Enc.ok m) : Sat Try.prog 19 [(true, Enc.enc m)] (prPure (proveI m)) := by
  refine Sat.intro tok mixed Try.func19 rfl rfl ?_
  ((conv => whnf); repeat first | (refine Br.no ?_; conv => whnf) | (refine Br.yes ?_; conv => whnf) | (refine Pick.draw rfl (by kernel_rfl) ?_; conv => whnf) | (refine Pick.drawM (by kernel_rfl) ?_; conv => whnf) | (refine CallC.r ?_; conv => whnf))
  refine Pick.mk _ (s_l03Ok m o) ?_
  ((conv => whnf); repeat first | (refine Br.no ?_; conv => whnf) | (refine Br.yes ?_; conv => whnf) | (refine Pick.draw rfl (by kernel_rfl) ?_; conv => whnf) | (refine Pick.drawM (by kernel_rfl) ?_; conv => whnf) | (refine CallC.r ?_; conv => whnf))
  refine Br.mk (fun h => ?_) (fun h => ?_) <;> ((conv => whnf); repeat first | (refine Br.no ?_; conv => whnf) | (refine Br.yes ?_; conv => whnf) | (refine Pick.draw rfl (by kernel_rfl) ?_; conv => whnf) | (refine Pick.drawM (by kernel_rfl) ?_; conv => whnf) | (refine CallC.r ?_; conv => whnf))
  · simp at h
    exact pr_zeroS (by simp [proveI, h])
  · simp at h
    have ok := mat_of h
    have hc := cells_small h
    obtain ⟨h1, h2, h3⟩ := okMatrix_of h
    have hd := s_l26Units m.prime m.rows.toNat (colsL m) h1 (cols_ok ok) (by omega) (by rw [cols_len ok]; omega)
    rw [show ((m.rows.toNat : Nat) : Int) = m.rows by omega] at hd
    have hl := dual_len (p := m.prime) (c := m.rows.toNat) (vs := colsL m)
    have hcl := cols_len ok
    have hp : proveI m = (match dualOf m.prime m.rows.toNat (colsL m) with | (l, true) => (⟨4, m, l⟩, 0) | (_, false) => (zeroP, 3)) := by simp [proveI, h]
    refine Pick.mk _ (s_l04ColumnsD m ok) ?_
    ((conv => whnf); repeat first | (refine Br.no ?_; conv => whnf) | (refine Br.yes ?_; conv => whnf) | (refine Pick.draw rfl (by kernel_rfl) ?_; conv => whnf) | (refine Pick.drawM (by kernel_rfl) ?_; conv => whnf) | (refine CallC.r ?_; conv => whnf))
    refine Pick.mk _ hd ?_
    generalize dualOf m.prime m.rows.toNat (colsL m) = z at hl hp ⊢
    obtain ⟨l, b⟩ := z
    cases b with
    | false =>
      ((conv => whnf); repeat first | (refine Br.no ?_; conv => whnf) | (refine Br.yes ?_; conv => whnf) | (refine Pick.draw rfl (by kernel_rfl) ?_; conv => whnf) | (refine Pick.drawM (by kernel_rfl) ?_; conv => whnf) | (refine CallC.r ?_; conv => whnf))
      exact pr_zeroS hp
    | true =>
      ((conv => whnf); repeat first | (refine Br.no ?_; conv => whnf) | (refine Br.yes ?_; conv => whnf) | (refine Pick.draw rfl (by kernel_rfl) ?_; conv => whnf) | (refine Pick.drawM (by kernel_rfl) ?_; conv => whnf) | (refine CallC.r ?_; conv => whnf))
      refine Pick.mk _ (s_l26OwnD m (by omega)) ?_
      ((conv => whnf); repeat first | (refine Br.no ?_; conv => whnf) | (refine Br.yes ?_; conv => whnf) | (refine Pick.draw rfl (by kernel_rfl) ?_; conv => whnf) | (refine Pick.drawM (by kernel_rfl) ?_; conv => whnf) | (refine CallC.r ?_; conv => whnf))
      refine ResOK.frz ?_ rfl
      rw [hp]
      rfl

def certOf (m : Matrix) (r w : Nat) (b : List Int) : List Int × Bool := solOf (ofRows m.prime r (colsL m ++ [b])) (w + 1) r (unitV (w + 1) w)
theorem cert_vecs {m : Matrix} {r w : Nat} (ok : MatOK m r w) {b : List Int} (hb : b.length = r) (hbe : El m.prime b) : VecsOK m.prime r (colsL m ++ [b]) := fun x hx => by
  rcases List.mem_append.1 hx with hx | hx
  · exact cols_ok ok x hx
  · simp only [List.mem_singleton] at hx; subst hx; exact ⟨hb, hbe⟩
theorem cert_len {m : Matrix} {r w : Nat} (ok : MatOK m r w) (b : List Int) : (colsL m ++ [b]).length = w + 1 := by simp [cols_len ok]
theorem cert_mat {m : Matrix} {r w : Nat} (ok : MatOK m r w) (hw : w ≤ 4095) {b : List Int} (hb : b.length = r) (hbe : El m.prime b) : MatOK (ofRows m.prime r (colsL m ++ [b])) (w + 1) r := by
  have := ofRows_ok (cert_vecs ok hb hbe) ok.p ok.rb (by rw [cert_len ok]; omega)
  rwa [cert_len ok] at this

theorem unit_set {w : Nat} {z y : List CV} {n k : Nat} (e0 : z = [.int .i64 0]) (e1 : n = w + 1) (e2 : k = w) (e3 : y = [.int .i64 1]) : (List.replicate n z).set k y = (unitV (w + 1) w).map Enc.enc := by
  rw [e0, e1, e2, e3, unitV, List.map_set, List.map_replicate]; rfl

theorem s_certificate (m : Matrix) {r w : Nat} (ok : MatOK m r w) (b : List Int) (hw : w ≤ 4095) (hr : r ≤ 4095) (hb : b.length = r) (hbe : El m.prime b) : Sat Try.prog 60 [(true, Enc.enc m), (false, Enc.enc b)]
    (.tup [(false, [.rs 0]), (false, [.c (.bool (certOf m r w b).2)])], [(0, .arr 1 ((certOf m r w b).1.map Enc.enc))]) := by
  have hrow := ok.rows
  have hcl := cert_len ok b
  have hfl : (colsL m ++ [b]).flatten.length ≤ 16777216 := by
    rw [flatten_len (fun x hx => (cert_vecs ok hb hbe x hx).1), hcl]
    exact Nat.mul_le_mul (by omega : w + 1 ≤ 4096) (by omega : r ≤ 4096)
  have hrs : ((colsL m).map (Enc.enc (α := List Int)) ++ [[CV.slice (Enc.sz Int) (b.map Enc.enc)]]) = (colsL m ++ [b]).map Enc.enc := by rw [List.map_append]; rfl
  refine Sat.intro tok mixed Try.func60 rfl rfl ?_
  ((conv => whnf); repeat first | (refine Br.no ?_; conv => whnf) | (refine Br.yes ?_; conv => whnf) | (refine Pick.draw rfl (by kernel_rfl) ?_; conv => whnf) | (refine Pick.drawM (by kernel_rfl) ?_; conv => whnf) | (refine CallC.r ?_; conv => whnf))
  refine Pick.mk _ (s_columnsOf m ok) ?_
  ((conv => whnf); repeat first | (refine Br.no ?_; conv => whnf) | (refine Br.yes ?_; conv => whnf) | (refine Pick.draw rfl (by kernel_rfl) ?_; conv => whnf) | (refine Pick.drawM (by kernel_rfl) ?_; conv => whnf) | (refine CallC.r ?_; conv => whnf))
  refine Side.mk (by rw [List.length_map, cols_len ok]; simp; omega) ?_
  ((conv => whnf); repeat first | (refine Br.no ?_; conv => whnf) | (refine Br.yes ?_; conv => whnf) | (refine Pick.draw rfl (by kernel_rfl) ?_; conv => whnf) | (refine Pick.drawM (by kernel_rfl) ?_; conv => whnf) | (refine CallC.r ?_; conv => whnf))
  rw [hrs]
  have hcl2 : ((colsL m ++ [b]).map (Enc.enc (α := List Int))).length = w + 1 := by rw [List.length_map, hcl]
  refine Side.mk (by rw [hcl2]; omega) ?_
  ((conv => whnf); repeat first | (refine Br.no ?_; conv => whnf) | (refine Br.yes ?_; conv => whnf) | (refine Pick.draw rfl (by kernel_rfl) ?_; conv => whnf) | (refine Pick.drawM (by kernel_rfl) ?_; conv => whnf) | (refine CallC.r ?_; conv => whnf))
  refine Pick.at64 (z := (w : Int)) (by rw [hcl2]; omega) (by omega) ?_
  ((conv => whnf); repeat first | (refine Br.no ?_; conv => whnf) | (refine Br.yes ?_; conv => whnf) | (refine Pick.draw rfl (by kernel_rfl) ?_; conv => whnf) | (refine Pick.drawM (by kernel_rfl) ?_; conv => whnf) | (refine CallC.r ?_; conv => whnf))
  refine Side.mk (by simp [cols_len ok] <;> omega) ?_
  ((conv => whnf); repeat first | (refine Br.no ?_; conv => whnf) | (refine Br.yes ?_; conv => whnf) | (refine Pick.draw rfl (by kernel_rfl) ?_; conv => whnf) | (refine Pick.drawM (by kernel_rfl) ?_; conv => whnf) | (refine CallC.r ?_; conv => whnf))
  rw [unit_set (w := w)]
  rotate_left
  · rfl
  · rw [hcl2]; rfl
  · rfl
  · rfl
  have hm := s_matrixOf m.prime m.rows (colsL m ++ [b]) (by omega) hfl
  rw [hrow] at hm
  rw [hrow]
  refine Pick.mk _ hm ?_
  ((conv => whnf); repeat first | (refine Br.no ?_; conv => whnf) | (refine Br.yes ?_; conv => whnf) | (refine Pick.draw rfl (by kernel_rfl) ?_; conv => whnf) | (refine Pick.drawM (by kernel_rfl) ?_; conv => whnf) | (refine CallC.r ?_; conv => whnf))
  refine Pick.mk _ (s_solve (ofRows m.prime r (colsL m ++ [b])) (cert_mat ok hw hb hbe) (unitV (w + 1) w) hr (unitV_len _ _) (unitV_el ok.p.1)) ?_
  ((conv => whnf); repeat first | (refine Br.no ?_; conv => whnf) | (refine Br.yes ?_; conv => whnf) | (refine Pick.draw rfl (by kernel_rfl) ?_; conv => whnf) | (refine Pick.drawM (by kernel_rfl) ?_; conv => whnf) | (refine CallC.r ?_; conv => whnf))
  exact ResOK.same rfl

theorem s_l04RowsD (p : Int) (c : Nat) (rows : List (List Int)) (hb : rows.length ≤ 4096) (hl : rows.flatten.length ≤ 16777216) : Sat Try.prog 91 [(false, [.int .i64 p]), (false, [.int .i64 c]), (false, Enc.enc rows)] (.agg [.c (.int .i64 p), .c (.int .i64 rows.length), .c (.int .i64 c), .ds 0], [(0, .deep true 1 (rows.flatten.map Enc.enc))]) := by
  refine Sat.intro tok mixed Try.func91 rfl rfl ?_
  ((conv => whnf); repeat first | (refine Br.no ?_; conv => whnf) | (refine Br.yes ?_; conv => whnf) | (refine Pick.draw rfl (by kernel_rfl) ?_; conv => whnf) | (refine Pick.drawM (by kernel_rfl) ?_; conv => whnf) | (refine CallC.r ?_; conv => whnf))
  refine Pick.mk [2, 6, 7, 8, 3000483] trivial ?_
  ((conv => whnf); repeat first | (refine Br.no ?_; conv => whnf) | (refine Br.yes ?_; conv => whnf) | (refine Pick.draw rfl (by kernel_rfl) ?_; conv => whnf) | (refine Pick.drawM (by kernel_rfl) ?_; conv => whnf) | (refine CallC.r ?_; conv => whnf))
  refine LoopL.over (fun (i : Nat) => [(8, .one (.c (.int .i64 ((i : Int)))))]) (fun (i : Nat) => [(483, Ob.arr 1 ((rows.take i).flatten.map Enc.enc))]) (fun (i : Nat) => rows.length - i) (fun (i : Nat) => i ≤ rows.length) ?_ 0 (Nat.zero_le _)
  intro i hi ih
  ((conv => whnf); repeat first | (refine Br.no ?_; conv => whnf) | (refine Br.yes ?_; conv => whnf) | (refine Pick.draw rfl (by kernel_rfl) ?_; conv => whnf) | (refine Pick.drawM (by kernel_rfl) ?_; conv => whnf) | (refine CallC.r ?_; conv => whnf))
  refine Br.mk (fun h => ?_) (fun h => ?_) <;> ((conv => whnf); repeat first | (refine Br.no ?_; conv => whnf) | (refine Br.yes ?_; conv => whnf) | (refine Pick.draw rfl (by kernel_rfl) ?_; conv => whnf) | (refine Pick.drawM (by kernel_rfl) ?_; conv => whnf) | (refine CallC.r ?_; conv => whnf))
  · simp at h
    have hf := flat_take rows i h
    have hl1 := flat_take_len rows i
    have hl2 := flat_take_len rows (i + 1)
    have hs := lens_succ rows i h
    have hli2 := lens_le rows (i + 1)
    refine Pick.ix (h) ?_
    ((conv => whnf); repeat first | (refine Br.no ?_; conv => whnf) | (refine Br.yes ?_; conv => whnf) | (refine Pick.draw rfl (by kernel_rfl) ?_; conv => whnf) | (refine Pick.drawM (by kernel_rfl) ?_; conv => whnf) | (refine CallC.r ?_; conv => whnf))
    refine Side.mk (by simp only [List.length_map]; omega) ?_
    ((conv => whnf); repeat first | (refine Br.no ?_; conv => whnf) | (refine Br.yes ?_; conv => whnf) | (refine Pick.draw rfl (by kernel_rfl) ?_; conv => whnf) | (refine Pick.drawM (by kernel_rfl) ?_; conv => whnf) | (refine CallC.r ?_; conv => whnf))
    refine Pick.at64 (z := (i + 1 : Nat)) (by simp) (by omega) ?_
    ((conv => whnf); repeat first | (refine Br.no ?_; conv => whnf) | (refine Br.yes ?_; conv => whnf) | (refine Pick.draw rfl (by kernel_rfl) ?_; conv => whnf) | (refine Pick.drawM (by kernel_rfl) ?_; conv => whnf) | (refine CallC.r ?_; conv => whnf))
    have hn := ih (i + 1) (by omega) (by omega)
    rw [hf, List.map_append] at hn
    exact hn
  · simp at h
    obtain rfl : i = rows.length := by omega
    rw [List.take_length, List.length_map]
    exact ResOK.deep rfl ⟨flat_int _, trivial⟩

theorem s_l04Against (m : Matrix) {r w : Nat} (ok : MatOK m r w) (b : List Int) (hw : w ≤ 4095) (hr : r ≤ 4095) (hb : b.length = r) (hbe : El m.prime b) : Sat Try.prog 57 [(false, [.ptr 4 (Enc.enc m)]), (false, Enc.enc b)]
    (.tup [(false, [.rs 0]), (false, [.c (.bool (certOf m r w b).2)])], [(0, .arr 1 ((certOf m r w b).1.map Enc.enc))]) := by
  have hrow := ok.rows
  have hcl := cert_len ok b
  have hfl : (colsL m ++ [b]).flatten.length ≤ 16777216 := by
    rw [flatten_len (fun x hx => (cert_vecs ok hb hbe x hx).1), hcl]
    exact Nat.mul_le_mul (by omega : w + 1 ≤ 4096) (by omega : r ≤ 4096)
  have hrs : ((colsL m).map (Enc.enc (α := List Int)) ++ [[CV.slice (Enc.sz Int) (b.map Enc.enc)]]) = (colsL m ++ [b]).map Enc.enc := by rw [List.map_append]; rfl
  have hm := s_l04RowsD m.prime r (colsL m ++ [b]) (by omega) hfl
  refine Sat.intro tok mixed Try.func57 rfl rfl ?_
  ((conv => whnf); repeat first | (refine Br.no ?_; conv => whnf) | (refine Br.yes ?_; conv => whnf) | (refine Pick.draw rfl (by kernel_rfl) ?_; conv => whnf) | (refine Pick.drawM (by kernel_rfl) ?_; conv => whnf) | (refine CallC.r ?_; conv => whnf))
  refine Pick.mk _ (s_l04Columns m ok) ?_
  ((conv => whnf); repeat first | (refine Br.no ?_; conv => whnf) | (refine Br.yes ?_; conv => whnf) | (refine Pick.draw rfl (by kernel_rfl) ?_; conv => whnf) | (refine Pick.drawM (by kernel_rfl) ?_; conv => whnf) | (refine CallC.r ?_; conv => whnf))
  refine Side.mk (by rw [List.length_map, cols_len ok]; simp; omega) ?_
  ((conv => whnf); repeat first | (refine Br.no ?_; conv => whnf) | (refine Br.yes ?_; conv => whnf) | (refine Pick.draw rfl (by kernel_rfl) ?_; conv => whnf) | (refine Pick.drawM (by kernel_rfl) ?_; conv => whnf) | (refine CallC.r ?_; conv => whnf))
  rw [hrs, hrow]
  refine Pick.mk _ hm ?_
  have hcl2 : ((colsL m ++ [b]).map (Enc.enc (α := List Int))).length = w + 1 := by rw [List.length_map, hcl]
  ((conv => whnf); repeat first | (refine Br.no ?_; conv => whnf) | (refine Br.yes ?_; conv => whnf) | (refine Pick.draw rfl (by kernel_rfl) ?_; conv => whnf) | (refine Pick.drawM (by kernel_rfl) ?_; conv => whnf) | (refine CallC.r ?_; conv => whnf))
  refine Side.mk (by rw [hcl2]; omega) ?_
  ((conv => whnf); repeat first | (refine Br.no ?_; conv => whnf) | (refine Br.yes ?_; conv => whnf) | (refine Pick.draw rfl (by kernel_rfl) ?_; conv => whnf) | (refine Pick.drawM (by kernel_rfl) ?_; conv => whnf) | (refine CallC.r ?_; conv => whnf))
  refine Pick.at64 (z := (w : Int)) (by rw [hcl2]; omega) (by omega) ?_
  ((conv => whnf); repeat first | (refine Br.no ?_; conv => whnf) | (refine Br.yes ?_; conv => whnf) | (refine Pick.draw rfl (by kernel_rfl) ?_; conv => whnf) | (refine Pick.drawM (by kernel_rfl) ?_; conv => whnf) | (refine CallC.r ?_; conv => whnf))
  refine Side.mk (by simp [cols_len ok] <;> omega) ?_
  ((conv => whnf); repeat first | (refine Br.no ?_; conv => whnf) | (refine Br.yes ?_; conv => whnf) | (refine Pick.draw rfl (by kernel_rfl) ?_; conv => whnf) | (refine Pick.drawM (by kernel_rfl) ?_; conv => whnf) | (refine CallC.r ?_; conv => whnf))
  rw [unit_set (w := w)]
  rotate_left
  · rfl
  · rw [hcl2]; rfl
  · rfl
  · rfl
  refine Pick.mk _ (s_l03Solve (ofRows m.prime r (colsL m ++ [b])) (cert_mat ok hw hb hbe) hr (unitV (w + 1) w) (unitV_len _ _) (unitV_el ok.p.1)) ?_
  ((conv => whnf); repeat first | (refine Br.no ?_; conv => whnf) | (refine Br.yes ?_; conv => whnf) | (refine Pick.draw rfl (by kernel_rfl) ?_; conv => whnf) | (refine Pick.drawM (by kernel_rfl) ?_; conv => whnf) | (refine CallC.r ?_; conv => whnf))
  exact ResOK.same rfl

def askOf (m : Matrix) (b : List Int) : Int := if okMatrix m then (if okVec m.prime m.rows b then 0 else 2) else 1
theorem s_rightSide (m : Matrix) (o : Enc.ok m) (b : List Int) (ob : Enc.ok b) : Sat Try.prog 58 [(true, Enc.enc m), (false, Enc.enc b)] (.one (.c (.int .i64 (askOf m b))), []) := by
  refine Sat.intro tok mixed Try.func58 rfl rfl ?_
  ((conv => whnf); repeat first | (refine Br.no ?_; conv => whnf) | (refine Br.yes ?_; conv => whnf) | (refine Pick.draw rfl (by kernel_rfl) ?_; conv => whnf) | (refine Pick.drawM (by kernel_rfl) ?_; conv => whnf) | (refine CallC.r ?_; conv => whnf))
  refine Pick.mk _ (s_impl_ValidMatrix m o) ?_
  ((conv => whnf); repeat first | (refine Br.no ?_; conv => whnf) | (refine Br.yes ?_; conv => whnf) | (refine Pick.draw rfl (by kernel_rfl) ?_; conv => whnf) | (refine Pick.drawM (by kernel_rfl) ?_; conv => whnf) | (refine CallC.r ?_; conv => whnf))
  refine Br.mk (fun h => ?_) (fun h => ?_) <;> ((conv => whnf); repeat first | (refine Br.no ?_; conv => whnf) | (refine Br.yes ?_; conv => whnf) | (refine Pick.draw rfl (by kernel_rfl) ?_; conv => whnf) | (refine Pick.drawM (by kernel_rfl) ?_; conv => whnf) | (refine CallC.r ?_; conv => whnf))
  · simp at h
    exact ResOK.same (by simp [askOf, h])
  · simp at h
    obtain ⟨h1, h2, h3⟩ := okMatrix_of h
    refine Pick.mk _ (s_isVector b ob.1 m.rows m.prime ⟨by omega, by omega⟩) ?_
    ((conv => whnf); repeat first | (refine Br.no ?_; conv => whnf) | (refine Br.yes ?_; conv => whnf) | (refine Pick.draw rfl (by kernel_rfl) ?_; conv => whnf) | (refine Pick.drawM (by kernel_rfl) ?_; conv => whnf) | (refine CallC.r ?_; conv => whnf))
    refine Br.mk (fun h4 => ?_) (fun h4 => ?_) <;> ((conv => whnf); repeat first | (refine Br.no ?_; conv => whnf) | (refine Br.yes ?_; conv => whnf) | (refine Pick.draw rfl (by kernel_rfl) ?_; conv => whnf) | (refine Pick.drawM (by kernel_rfl) ?_; conv => whnf) | (refine CallC.r ?_; conv => whnf))
    · simp at h4
      exact ResOK.same (by simp [askOf, h, h4])
    · simp at h4
      exact ResOK.same (by simp [askOf, h, h4])
theorem s_l04Ask (m : Matrix) (o : Enc.ok m) (b : List Int) (ob : Enc.ok b) : Sat Try.prog 55 [(false, [.ptr 4 (Enc.enc m)]), (false, Enc.enc b)] (.one (.c (.int .i64 (askOf m b))), []) := by
  refine Sat.intro tok mixed Try.func55 rfl rfl ?_
  ((conv => whnf); repeat first | (refine Br.no ?_; conv => whnf) | (refine Br.yes ?_; conv => whnf) | (refine Pick.draw rfl (by kernel_rfl) ?_; conv => whnf) | (refine Pick.drawM (by kernel_rfl) ?_; conv => whnf) | (refine CallC.r ?_; conv => whnf))
  refine Pick.mk _ (s_l03Ok m o) ?_
  ((conv => whnf); repeat first | (refine Br.no ?_; conv => whnf) | (refine Br.yes ?_; conv => whnf) | (refine Pick.draw rfl (by kernel_rfl) ?_; conv => whnf) | (refine Pick.drawM (by kernel_rfl) ?_; conv => whnf) | (refine CallC.r ?_; conv => whnf))
  refine Br.mk (fun h => ?_) (fun h => ?_) <;> ((conv => whnf); repeat first | (refine Br.no ?_; conv => whnf) | (refine Br.yes ?_; conv => whnf) | (refine Pick.draw rfl (by kernel_rfl) ?_; conv => whnf) | (refine Pick.drawM (by kernel_rfl) ?_; conv => whnf) | (refine CallC.r ?_; conv => whnf))
  · simp at h
    exact ResOK.same (by simp [askOf, h])
  · simp at h
    obtain ⟨h1, h2, h3⟩ := okMatrix_of h
    refine Pick.mk _ (s_l04Vector b ob.1 m.rows m.prime ⟨by omega, by omega⟩ (by omega)) ?_
    ((conv => whnf); repeat first | (refine Br.no ?_; conv => whnf) | (refine Br.yes ?_; conv => whnf) | (refine Pick.draw rfl (by kernel_rfl) ?_; conv => whnf) | (refine Pick.drawM (by kernel_rfl) ?_; conv => whnf) | (refine CallC.r ?_; conv => whnf))
    refine Br.mk (fun h4 => ?_) (fun h4 => ?_) <;> ((conv => whnf); repeat first | (refine Br.no ?_; conv => whnf) | (refine Br.yes ?_; conv => whnf) | (refine Pick.draw rfl (by kernel_rfl) ?_; conv => whnf) | (refine Pick.drawM (by kernel_rfl) ?_; conv => whnf) | (refine CallC.r ?_; conv => whnf))
    · simp at h4
      exact ResOK.same (by simp [askOf, h, h4])
    · simp at h4
      exact ResOK.same (by simp [askOf, h, h4])

def proveS (m : Matrix) (b : List Int) : Proof × Int :=
  if okMatrix m then (if okVec m.prime m.rows b then
    (if (solOf m m.rows.toNat m.columns.toNat b).2 then (⟨1, m, [b, (solOf m m.rows.toNat m.columns.toNat b).1]⟩, 0) else (⟨2, m, [b, (certOf m m.rows.toNat m.columns.toNat b).1]⟩, 0))
    else (zeroP, 2)) else (zeroP, 1)
theorem solOf_le {m : Matrix} {r w : Nat} {b : List Int} : (solOf m r w b).1.length ≤ w := by
  unfold solOf
  split
  · exact Nat.zero_le _
  · rw [solV_len]; exact Nat.le_refl _

theorem s_impl_ProveSolution (m : Matrix) (o : Enc.ok m) (b : List Int) (ob : Enc.ok b) : Sat Try.prog 23 [(true, Enc.enc m), (false, Enc.enc b)] (prRes (proveS m b)) := by
  refine Sat.intro tok mixed Try.func23 rfl rfl ?_
  ((conv => whnf); repeat first | (refine Br.no ?_; conv => whnf) | (refine Br.yes ?_; conv => whnf) | (refine Pick.draw rfl (by kernel_rfl) ?_; conv => whnf) | (refine Pick.drawM (by kernel_rfl) ?_; conv => whnf) | (refine CallC.r ?_; conv => whnf))
  refine Pick.mk _ (s_rightSide m o b ob) ?_
  ((conv => whnf); repeat first | (refine Br.no ?_; conv => whnf) | (refine Br.yes ?_; conv => whnf) | (refine Pick.draw rfl (by kernel_rfl) ?_; conv => whnf) | (refine Pick.drawM (by kernel_rfl) ?_; conv => whnf) | (refine CallC.r ?_; conv => whnf))
  by_cases h : okMatrix m = true
  · by_cases hv : okVec m.prime m.rows b = true
    · have e : askOf m b = 0 := by simp [askOf, h, hv]
      rw [e]
      refine Br.mk (fun h => by simp at h) (fun _ => ?_)
      ((conv => whnf); repeat first | (refine Br.no ?_; conv => whnf) | (refine Br.yes ?_; conv => whnf) | (refine Pick.draw rfl (by kernel_rfl) ?_; conv => whnf) | (refine Pick.drawM (by kernel_rfl) ?_; conv => whnf) | (refine CallC.r ?_; conv => whnf))
      have ok := mat_of h
      have hc := cells_small h
      obtain ⟨h1, h2, h3⟩ := okMatrix_of h
      obtain ⟨hl, hbe⟩ := okVec_of hv
      have hbl : b.length = m.rows.toNat := by omega
      have hp : proveS m b = if (solOf m m.rows.toNat m.columns.toNat b).2 then (⟨1, m, [b, (solOf m m.rows.toNat m.columns.toNat b).1]⟩, 0) else (⟨2, m, [b, (certOf m m.rows.toNat m.columns.toNat b).1]⟩, 0) := by simp [proveS, h, hv]
      have hsl := solOf_le (m := m) (r := m.rows.toNat) (w := m.columns.toNat) (b := b)
      have hcl : (certOf m m.rows.toNat m.columns.toNat b).1.length ≤ m.rows.toNat := solOf_le
      refine Pick.mk _ (s_solve m ok b (by omega) hbl hbe) ?_
      ((conv => whnf); repeat first | (refine Br.no ?_; conv => whnf) | (refine Br.yes ?_; conv => whnf) | (refine Pick.draw rfl (by kernel_rfl) ?_; conv => whnf) | (refine Pick.drawM (by kernel_rfl) ?_; conv => whnf) | (refine CallC.r ?_; conv => whnf))
      generalize solOf m m.rows.toNat m.columns.toNat b = z at hp hsl ⊢
      obtain ⟨x, s⟩ := z
      simp only at hsl
      cases s with
      | true =>
        ((conv => whnf); repeat first | (refine Br.no ?_; conv => whnf) | (refine Br.yes ?_; conv => whnf) | (refine Pick.draw rfl (by kernel_rfl) ?_; conv => whnf) | (refine Pick.drawM (by kernel_rfl) ?_; conv => whnf) | (refine CallC.r ?_; conv => whnf))
        refine Pick.mk _ (s_proofOf 1 m [b, x] (by omega) (by simp) (fun y hy => by simp at hy; rcases hy with rfl | rfl <;> omega)) ?_
        ((conv => whnf); repeat first | (refine Br.no ?_; conv => whnf) | (refine Br.yes ?_; conv => whnf) | (refine Pick.draw rfl (by kernel_rfl) ?_; conv => whnf) | (refine Pick.drawM (by kernel_rfl) ?_; conv => whnf) | (refine CallC.r ?_; conv => whnf))
        refine ResOK.own ?_ ⟨flat_int _, trivial⟩
        rw [hp]
        rfl
      | false =>
        ((conv => whnf); repeat first | (refine Br.no ?_; conv => whnf) | (refine Br.yes ?_; conv => whnf) | (refine Pick.draw rfl (by kernel_rfl) ?_; conv => whnf) | (refine Pick.drawM (by kernel_rfl) ?_; conv => whnf) | (refine CallC.r ?_; conv => whnf))
        refine Pick.mk _ (s_certificate m ok b (by omega) (by omega) hbl hbe) ?_
        ((conv => whnf); repeat first | (refine Br.no ?_; conv => whnf) | (refine Br.yes ?_; conv => whnf) | (refine Pick.draw rfl (by kernel_rfl) ?_; conv => whnf) | (refine Pick.drawM (by kernel_rfl) ?_; conv => whnf) | (refine CallC.r ?_; conv => whnf))
        generalize certOf m m.rows.toNat m.columns.toNat b = z at hp hcl ⊢
        obtain ⟨y, t⟩ := z
        simp only at hcl
        refine Pick.mk _ (s_proofOf 2 m [b, y] (by omega) (by simp) (fun y hy => by simp at hy; rcases hy with rfl | rfl <;> omega)) ?_
        ((conv => whnf); repeat first | (refine Br.no ?_; conv => whnf) | (refine Br.yes ?_; conv => whnf) | (refine Pick.draw rfl (by kernel_rfl) ?_; conv => whnf) | (refine Pick.drawM (by kernel_rfl) ?_; conv => whnf) | (refine CallC.r ?_; conv => whnf))
        refine ResOK.own ?_ ⟨flat_int _, trivial⟩
        rw [hp]
        rfl
    · have e : askOf m b = 2 := by simp [askOf, h, hv]
      rw [e]
      refine Br.mk (fun _ => ?_) (fun h => by simp at h)
      ((conv => whnf); repeat first | (refine Br.no ?_; conv => whnf) | (refine Br.yes ?_; conv => whnf) | (refine Pick.draw rfl (by kernel_rfl) ?_; conv => whnf) | (refine Pick.drawM (by kernel_rfl) ?_; conv => whnf) | (refine CallC.r ?_; conv => whnf))
      exact pr_zero (by simp [proveS, h, hv])
  · have e : askOf m b = 1 := by simp [askOf, h]
    rw [e]
    refine Br.mk (fun _ => ?_) (fun h => by simp at h)
    ((conv => whnf); repeat first | (refine Br.no ?_; conv => whnf) | (refine Br.yes ?_; conv => whnf) | (refine Pick.draw rfl (by kernel_rfl) ?_; conv => whnf) | (refine Pick.drawM (by kernel_rfl) ?_; conv => whnf) | (refine CallC.r ?_; conv => whnf))
    exact pr_zero (by simp [proveS, h])

theorem s_spec_ProveSolution (m : Matrix) (o : Enc.ok m) (b : List Int) (ob : Enc.ok b) : Sat Try.prog 21 [(true, Enc.enc m), (false, Enc.enc b)] (prPure (proveS m b)) := by
  refine Sat.intro tok mixed Try.func21 rfl rfl ?_
  ((conv => whnf); repeat first | (refine Br.no ?_; conv => whnf) | (refine Br.yes ?_; conv => whnf) | (refine Pick.draw rfl (by kernel_rfl) ?_; conv => whnf) | (refine Pick.drawM (by kernel_rfl) ?_; conv => whnf) | (refine CallC.r ?_; conv => whnf))
  refine Pick.mk _ (s_l04Ask m o b ob) ?_
  ((conv => whnf); repeat first | (refine Br.no ?_; conv => whnf) | (refine Br.yes ?_; conv => whnf) | (refine Pick.draw rfl (by kernel_rfl) ?_; conv => whnf) | (refine Pick.drawM (by kernel_rfl) ?_; conv => whnf) | (refine CallC.r ?_; conv => whnf))
  by_cases h : okMatrix m = true
  · by_cases hv : okVec m.prime m.rows b = true
    · have e : askOf m b = 0 := by simp [askOf, h, hv]
      rw [e]
      refine Br.mk (fun h => by simp at h) (fun _ => ?_)
      ((conv => whnf); repeat first | (refine Br.no ?_; conv => whnf) | (refine Br.yes ?_; conv => whnf) | (refine Pick.draw rfl (by kernel_rfl) ?_; conv => whnf) | (refine Pick.drawM (by kernel_rfl) ?_; conv => whnf) | (refine CallC.r ?_; conv => whnf))
      have ok := mat_of h
      have hc := cells_small h
      obtain ⟨h1, h2, h3⟩ := okMatrix_of h
      obtain ⟨hl, hbe⟩ := okVec_of hv
      have hbl : b.length = m.rows.toNat := by omega
      have hp : proveS m b = if (solOf m m.rows.toNat m.columns.toNat b).2 then (⟨1, m, [b, (solOf m m.rows.toNat m.columns.toNat b).1]⟩, 0) else (⟨2, m, [b, (certOf m m.rows.toNat m.columns.toNat b).1]⟩, 0) := by simp [proveS, h, hv]
      have hsl := solOf_le (m := m) (r := m.rows.toNat) (w := m.columns.toNat) (b := b)
      have hcl : (certOf m m.rows.toNat m.columns.toNat b).1.length ≤ m.rows.toNat := solOf_le
      refine Pick.mk _ (s_l03Solve m ok (by omega) b hbl hbe) ?_
      ((conv => whnf); repeat first | (refine Br.no ?_; conv => whnf) | (refine Br.yes ?_; conv => whnf) | (refine Pick.draw rfl (by kernel_rfl) ?_; conv => whnf) | (refine Pick.drawM (by kernel_rfl) ?_; conv => whnf) | (refine CallC.r ?_; conv => whnf))
      generalize solOf m m.rows.toNat m.columns.toNat b = z at hp hsl ⊢
      obtain ⟨x, s⟩ := z
      simp only at hsl
      cases s with
      | true =>
        ((conv => whnf); repeat first | (refine Br.no ?_; conv => whnf) | (refine Br.yes ?_; conv => whnf) | (refine Pick.draw rfl (by kernel_rfl) ?_; conv => whnf) | (refine Pick.drawM (by kernel_rfl) ?_; conv => whnf) | (refine CallC.r ?_; conv => whnf))
        refine Pick.mk _ (s_l26Own m (by omega)) ?_
        ((conv => whnf); repeat first | (refine Br.no ?_; conv => whnf) | (refine Br.yes ?_; conv => whnf) | (refine Pick.draw rfl (by kernel_rfl) ?_; conv => whnf) | (refine Pick.drawM (by kernel_rfl) ?_; conv => whnf) | (refine CallC.r ?_; conv => whnf))
        refine Pick.mk _ (s_l00Own b (by omega)) ?_
        ((conv => whnf); repeat first | (refine Br.no ?_; conv => whnf) | (refine Br.yes ?_; conv => whnf) | (refine Pick.draw rfl (by kernel_rfl) ?_; conv => whnf) | (refine Pick.drawM (by kernel_rfl) ?_; conv => whnf) | (refine CallC.r ?_; conv => whnf))
        refine Pick.mk _ (s_l00Own x (by omega)) ?_
        ((conv => whnf); repeat first | (refine Br.no ?_; conv => whnf) | (refine Br.yes ?_; conv => whnf) | (refine Pick.draw rfl (by kernel_rfl) ?_; conv => whnf) | (refine Pick.drawM (by kernel_rfl) ?_; conv => whnf) | (refine CallC.r ?_; conv => whnf))
        refine ResOK.frz ?_ rfl
        rw [hp]
        rfl
      | false =>
        ((conv => whnf); repeat first | (refine Br.no ?_; conv => whnf) | (refine Br.yes ?_; conv => whnf) | (refine Pick.draw rfl (by kernel_rfl) ?_; conv => whnf) | (refine Pick.drawM (by kernel_rfl) ?_; conv => whnf) | (refine CallC.r ?_; conv => whnf))
        refine Pick.mk _ (s_l04Against m ok b (by omega) (by omega) hbl hbe) ?_
        ((conv => whnf); repeat first | (refine Br.no ?_; conv => whnf) | (refine Br.yes ?_; conv => whnf) | (refine Pick.draw rfl (by kernel_rfl) ?_; conv => whnf) | (refine Pick.drawM (by kernel_rfl) ?_; conv => whnf) | (refine CallC.r ?_; conv => whnf))
        generalize certOf m m.rows.toNat m.columns.toNat b = z at hp hcl ⊢
        obtain ⟨y, t⟩ := z
        simp only at hcl
        refine Pick.mk _ (s_l26Own m (by omega)) ?_
        ((conv => whnf); repeat first | (refine Br.no ?_; conv => whnf) | (refine Br.yes ?_; conv => whnf) | (refine Pick.draw rfl (by kernel_rfl) ?_; conv => whnf) | (refine Pick.drawM (by kernel_rfl) ?_; conv => whnf) | (refine CallC.r ?_; conv => whnf))
        refine Pick.mk _ (s_l00Own b (by omega)) ?_
        ((conv => whnf); repeat first | (refine Br.no ?_; conv => whnf) | (refine Br.yes ?_; conv => whnf) | (refine Pick.draw rfl (by kernel_rfl) ?_; conv => whnf) | (refine Pick.drawM (by kernel_rfl) ?_; conv => whnf) | (refine CallC.r ?_; conv => whnf))
        refine Pick.mk _ (s_l00Own y (by omega)) ?_
        ((conv => whnf); repeat first | (refine Br.no ?_; conv => whnf) | (refine Br.yes ?_; conv => whnf) | (refine Pick.draw rfl (by kernel_rfl) ?_; conv => whnf) | (refine Pick.drawM (by kernel_rfl) ?_; conv => whnf) | (refine CallC.r ?_; conv => whnf))
        refine ResOK.frz ?_ rfl
        rw [hp]
        rfl
    · have e : askOf m b = 2 := by simp [askOf, h, hv]
      rw [e]
      refine Br.mk (fun _ => ?_) (fun h => by simp at h)
      ((conv => whnf); repeat first | (refine Br.no ?_; conv => whnf) | (refine Br.yes ?_; conv => whnf) | (refine Pick.draw rfl (by kernel_rfl) ?_; conv => whnf) | (refine Pick.drawM (by kernel_rfl) ?_; conv => whnf) | (refine CallC.r ?_; conv => whnf))
      exact pr_zeroS (by simp [proveS, h, hv])
  · have e : askOf m b = 1 := by simp [askOf, h]
    rw [e]
    refine Br.mk (fun _ => ?_) (fun h => by simp at h)
    ((conv => whnf); repeat first | (refine Br.no ?_; conv => whnf) | (refine Br.yes ?_; conv => whnf) | (refine Pick.draw rfl (by kernel_rfl) ?_; conv => whnf) | (refine Pick.drawM (by kernel_rfl) ?_; conv => whnf) | (refine CallC.r ?_; conv => whnf))
    exact pr_zeroS (by simp [proveS, h])

theorem cnt_ints (xs : List Int) : Mk.cnt xs = xs.length := by
  rw [cnt_list]
  induction xs with
  | nil => rfl
  | cons x xs ih => simp only [List.map_cons, List.sum_cons, ih, List.length_cons]; show 1 + _ = _; omega
theorem wt_mat (m : Matrix) : Enc.wt m = m.cells.length := by
  have : Enc.wt m = Enc.wt m.prime + Enc.wt m.rows + Enc.wt m.columns + Enc.wt m.cells := rfl
  rw [this, wt_list, wt_ints, wt_int, wt_int, wt_int]; omega
theorem wt_il (xs : List Int) : Enc.wt xs = xs.length := by rw [wt_list, wt_ints]; omega
structure PrSmall (q : Proof) : Prop where
  c : q.claim.cells.length ≤ 1048576
  n : q.vectors.length ≤ 64
  l : ∀ x ∈ q.vectors, x.length ≤ 64
theorem sum_le {α : Type} (f : α → Nat) (B : Nat) : ∀ {xs : List α}, (∀ x ∈ xs, f x ≤ B) → (xs.map f).sum ≤ xs.length * B
  | [], _ => by simp
  | x :: xs, h => by
    have h1 := sum_le f B (xs := xs) fun y hy => h y (List.mem_cons_of_mem _ hy)
    have h2 := h x (List.mem_cons_self ..)
    simp only [List.map_cons, List.sum_cons, List.length_cons, Nat.succ_mul]; omega
theorem PrSmall.cnt {q : Proof} (h : PrSmall q) : Mk.cnt q.vectors ≤ 4096 := by
  rw [cnt_list]
  have h1 := sum_le Mk.cnt 64 (xs := q.vectors) fun x hx => by rw [cnt_ints]; exact h.l x hx
  have := h.n
  have : q.vectors.length * 64 ≤ 64 * 64 := Nat.mul_le_mul_right _ this
  omega
theorem PrSmall.wt {q : Proof} (h : PrSmall q) : Enc.wt q ≤ 1099511627776 := by
  have e : Enc.wt q = Enc.wt q.kind + Enc.wt q.claim + Enc.wt q.vectors := rfl
  have h1 := sum_le Enc.wt 64 (xs := q.vectors) fun x hx => by rw [wt_il]; exact h.l x hx
  have h2 := h.n
  have h3 : q.vectors.length * 64 ≤ 64 * 64 := Nat.mul_le_mul_right _ h2
  have h4 := h.c
  rw [e, wt_int, wt_mat, wt_list]; omega
theorem PrSmall.big {q : Proof} (h : PrSmall q) : ∀ y ∈ q.vectors, bigL y := fun y hy => by
  have := h.l y hy
  show y.length ≤ _; omega
theorem zero_small : PrSmall zeroP := ⟨by simp [zeroP], by simp [zeroP], by simp [zeroP]⟩

theorem proveK_small (m : Matrix) : PrSmall (proveK m).1 := by
  by_cases h : okMatrix m = true
  · have hc := cells_small h
    obtain ⟨h1, h2, h3⟩ := okMatrix_of h
    cases e : kerOf m with
    | nil => rw [proveK_none h e]; exact zero_small
    | cons x l =>
      have hx : x.length = m.columns.toNat := kerUp_mem (p := m.prime) (s := elimF m.prime m.rows.toNat (cellAt m) m.columns.toNat) (n := m.columns.toNat) (show x ∈ kerOf m from e ▸ List.mem_cons_self ..)
      rw [proveK_some h e]
      exact ⟨by show m.cells.length ≤ _; omega, by simp, fun y hy => by simp at hy; subst hy; omega⟩
  · rw [proveK_bad (by simpa using h)]; exact zero_small
theorem proveI_small (m : Matrix) : PrSmall (proveI m).1 := by
  by_cases h : okMatrix m = true
  · have hc := cells_small h
    obtain ⟨h1, h2, h3⟩ := okMatrix_of h
    have ok := mat_of h
    have hl := dual_len (p := m.prime) (c := m.rows.toNat) (vs := colsL m)
    have hcl := cols_len ok
    have hp : proveI m = (match dualOf m.prime m.rows.toNat (colsL m) with | (l, true) => (⟨4, m, l⟩, 0) | (_, false) => (zeroP, 3)) := by simp only [proveI, h, if_true] <;> rfl
    rw [hp]
    generalize dualOf m.prime m.rows.toNat (colsL m) = z at hl ⊢
    obtain ⟨l, b⟩ := z
    cases b with
    | false => exact zero_small
    | true =>
      have hl := hl rfl
      exact ⟨by show m.cells.length ≤ _; omega, by show l.length ≤ _; simp only at hl; omega, fun y hy => by have := hl.2 y hy; omega⟩
  · have hp : proveI m = (zeroP, 1) := by simp [proveI, h]
    rw [hp]; exact zero_small
theorem proveS_small (m : Matrix) (b : List Int) : PrSmall (proveS m b).1 := by
  unfold proveS
  split
  · rename_i h
    have hc := cells_small h
    obtain ⟨h1, h2, h3⟩ := okMatrix_of h
    split
    · rename_i hv
      have hl := (okVec_of hv).1
      split
      · have := solOf_le (m := m) (r := m.rows.toNat) (w := m.columns.toNat) (b := b)
        exact ⟨by show m.cells.length ≤ _; omega, by simp, fun y hy => by simp at hy; rcases hy with rfl | rfl <;> omega⟩
      · have : (certOf m m.rows.toNat m.columns.toNat b).1.length ≤ m.rows.toNat := solOf_le
        exact ⟨by show m.cells.length ≤ _; omega, by simp, fun y hy => by simp at hy; rcases hy with rfl | rfl <;> omega⟩
    · exact zero_small
  · exact zero_small
end Go.Proofs.Ytaplnfcnajpmgaa.Pi
