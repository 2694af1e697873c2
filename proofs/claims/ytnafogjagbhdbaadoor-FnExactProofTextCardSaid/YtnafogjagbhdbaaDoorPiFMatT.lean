/- The text of a matrix, the program and the reference. No statement of the seat is proved here. -/
import Derived.Test.YtnafogjagbhdbaaDoorPiFListT
namespace Go.Proofs.YtnafogjagbhdbaaDoor.Pi
open Go
set_option maxRecDepth 10000
set_option maxHeartbeats 3200000
set_option linter.unusedVariables false
set_option linter.unusedSimpArgs false

def slL (x : List Int) : ByteArray := ⟨#[47]⟩ ++ listB x
theorem slL_size {x : List Int} (h : SmallL x) : (slL x).size ≤ 1281 := by
  have := listB_size h
  have e : (⟨#[47]⟩ : ByteArray).size = 1 := rfl
  rw [slL, ByteArray.size_append, e]; omega
theorem s_slashed (rows : List (List Int)) (hr : rows.length ≤ 64) (hs : ∀ x ∈ rows, SmallL x) : Sat Tryd.prog 34 [(false, Enc.enc rows)] (.one (.c (.str (accW slL es rows rows.length))), []) := by
  have hmx : IntKind.i64.max = 9223372036854775807 := rfl
  have e47 : (⟨#[47]⟩ : ByteArray).size = 1 := rfl
  refine Sat.intro tok mixed Tryd.func34 rfl rfl ?_
  ((conv => whnf); repeat ((first | refine B0 ?_ | refine B1 ?_ | refine D1 ?_ | refine D2 ?_ | refine CallC.r ?_); conv => whnf))
  refine Pick.mk [3, 6, 7, 8] trivial ?_
  ((conv => whnf); repeat ((first | refine B0 ?_ | refine B1 ?_ | refine D1 ?_ | refine D2 ?_ | refine CallC.r ?_); conv => whnf))
  refine LoopL.over (fun (i : Nat) => [(8, .one (.c (.int .i64 ((i : Int)))))]) (fun (i : Nat) => [(221, .box [.c (.str (accW slL es rows i))])]) (fun (i : Nat) => rows.length - i) (fun (i : Nat) => i ≤ rows.length) ?_ 0 (Nat.zero_le _)
  intro i g1 ih
  ((conv => whnf); repeat ((first | refine B0 ?_ | refine B1 ?_ | refine D1 ?_ | refine D2 ?_ | refine CallC.r ?_); conv => whnf))
  refine Br.mk (fun h => ?_) (fun h => ?_)
  · ((conv => whnf); repeat ((first | refine B0 ?_ | refine B1 ?_ | refine D1 ?_ | refine D2 ?_ | refine CallC.r ?_); conv => whnf))
    have h : i < rows.length := by simp only [List.length_map, decide_eq_true_eq] at h; omega
    have hx := hs _ (List.getElem_mem h)
    have hn := ih (i + 1) (by omega) (by omega)
    have hss := accW_succ slL es rows h
    have hsz := accW_size slL es rows (c := 1281) (fun x hx => slL_size (hs x hx)) (show i + 1 ≤ rows.length by omega)
    have hlb := listB_size hx
    rw [hss] at hn hsz
    have e0 : es.size = 0 := rfl
    clear ih
    refine Pick.ix (h) ?_
    ((conv => whnf); repeat ((first | refine B0 ?_ | refine B1 ?_ | refine D1 ?_ | refine D2 ?_ | refine CallC.r ?_); conv => whnf))
    refine Pick.mk _ (s_ListText rows[i] hx) ?_
    ((conv => whnf); repeat ((first | refine B0 ?_ | refine B1 ?_ | refine D1 ?_ | refine D2 ?_ | refine CallC.r ?_); conv => whnf))
    refine Side.mk (by simp only [ByteArray.size_append, e47, hmx]; omega) ?_
    ((conv => whnf); repeat ((first | refine B0 ?_ | refine B1 ?_ | refine D1 ?_ | refine D2 ?_); conv => whnf))
    refine CallC.x ?_
    ((conv => whnf); repeat ((first | refine B0 ?_ | refine B1 ?_ | refine D1 ?_ | refine D2 ?_ | refine CallC.r ?_); conv => whnf))
    refine Pick.mk _ (s_WriteS (accW slL es rows i) _ (accW slL es rows i ++ slL rows[i]) rfl (by omega)) ?_
    ((conv => whnf); repeat ((first | refine B0 ?_ | refine B1 ?_ | refine D1 ?_ | refine D2 ?_ | refine CallC.r ?_); conv => whnf))
    refine Pick.at64 (z := (i + 1 : Nat)) (by simp) (by omega) ?_
    ((conv => whnf); repeat ((first | refine B0 ?_ | refine B1 ?_ | refine D1 ?_ | refine D2 ?_ | refine CallC.r ?_); conv => whnf))
    exact hn
  · have h : i = rows.length := by simp only [List.length_map, decide_eq_false_iff_not] at h; omega
    ((conv => whnf); repeat ((first | refine B0 ?_ | refine B1 ?_ | refine D1 ?_ | refine D2 ?_); conv => whnf))
    refine CallC.x ?_
    ((conv => whnf); repeat ((first | refine B0 ?_ | refine B1 ?_ | refine D1 ?_ | refine D2 ?_ | refine CallC.r ?_); conv => whnf))
    subst h
    refine Pick.mk _ (s_StringS (accW slL es rows rows.length)) ?_
    ((conv => whnf); repeat ((first | refine B0 ?_ | refine B1 ?_ | refine D1 ?_ | refine D2 ?_ | refine CallC.r ?_); conv => whnf))
    exact ResOK.same rfl

def bsp : ByteArray := ⟨#[32]⟩
def bx : ByteArray := ⟨#[120]⟩
def headM (m : Matrix) : ByteArray := (((itoaB m.prime ++ bsp) ++ itoaB m.rows) ++ bx) ++ itoaB m.columns
def matB (m : Matrix) : ByteArray := accW slL (headM m) (rowsL m) (rowsL m).length
def matT (m : Matrix) : ByteArray := if okMatrix m = true then matB m else es
theorem rows_small {m : Matrix} (h : okMatrix m = true) : ∀ x ∈ rowsL m, SmallL x := fun x hx => by
  obtain ⟨hp, hr, hc⟩ := okMatrix_of h
  have ok := mat_of h
  obtain ⟨i, hi, rfl⟩ := List.mem_map.1 hx
  have hi : i < m.rows.toNat := List.mem_range.1 hi
  refine ⟨by rw [ok.rowLen hi]; omega, fun x hx => ?_⟩
  have h2 := ok.rowEl i x hx
  omega
theorem rowsL_len (m : Matrix) : (rowsL m).length = m.rows.toNat := by simp [rowsL]
theorem headM_size {m : Matrix} (h : okMatrix m = true) : (headM m).size ≤ 59 := by
  obtain ⟨hp, hr, hc⟩ := okMatrix_of h
  have h1 := itoa_size (n := m.prime) (by omega) (by omega)
  have h2 := itoa_size (n := m.rows) (by omega) (by omega)
  have h3 := itoa_size (n := m.columns) (by omega) (by omega)
  have e1 : bsp.size = 1 := rfl
  have e2 : bx.size = 1 := rfl
  simp only [headM, ByteArray.size_append, e1, e2]; omega
theorem matB_size {m : Matrix} (h : okMatrix m = true) : (matB m).size ≤ 41051 := by
  obtain ⟨hp, hr, hc⟩ := okMatrix_of h
  have h1 := accW_size slL (headM m) (rowsL m) (c := 1281) (fun x hx => slL_size (rows_small h x hx)) (Nat.le_refl _)
  have h2 := headM_size h
  have h3 : (rowsL m).length * 1281 ≤ 32 * 1281 := Nat.mul_le_mul_right _ (by rw [rowsL_len]; omega)
  rw [matB]; omega
theorem s_MatrixText (m : Matrix) (o : Enc.ok m) (hk : okMatrix m = true) : Sat Tryd.prog 17 [(true, Enc.enc m)] (.one (.c (.str (matB m))), []) := by
  obtain ⟨hp, hr, hc⟩ := okMatrix_of hk
  have hmx : IntKind.i64.max = 9223372036854775807 := rfl
  have e32 : (⟨#[32]⟩ : ByteArray).size = 1 := rfl
  have e120 : (⟨#[120]⟩ : ByteArray).size = 1 := rfl
  have h1 := itoa_size (n := m.prime) (by omega) (by omega)
  have h2 := itoa_size (n := m.rows) (by omega) (by omega)
  have h3 := itoa_size (n := m.columns) (by omega) (by omega)
  have hms := matB_size hk
  have hes : matB m = headM m ++ accW slL es (rowsL m) (rowsL m).length := accW_app slL (headM m) (rowsL m) _
  have hro := (s_rowsOf m (mat_of hk)).frzR (pv := .one (.c (.slice 1 ((rowsL m).map Enc.enc)))) rfl
  refine Sat.intro tok mixed Tryd.func17 rfl rfl ?_
  ((conv => whnf); repeat ((first | refine B0 ?_ | refine B1 ?_ | refine D1 ?_ | refine D2 ?_ | refine CallC.r ?_); conv => whnf))
  refine Pick.mk _ (s_impl_ValidMatrix m o) ?_
  ((conv => whnf); repeat ((first | refine B0 ?_ | refine B1 ?_ | refine D1 ?_ | refine D2 ?_ | refine CallC.r ?_); conv => whnf))
  refine Br.mk (fun h => absurd h (by rw [hk]; decide)) (fun _ => ?_)
  ((conv => whnf); repeat ((first | refine B0 ?_ | refine B1 ?_ | refine D1 ?_ | refine D2 ?_ | refine CallC.r ?_); conv => whnf))
  refine Pick.mk _ (s_Decimal m.prime ⟨by omega, by omega⟩) ?_
  ((conv => whnf); repeat ((first | refine B0 ?_ | refine B1 ?_ | refine D1 ?_ | refine D2 ?_ | refine CallC.r ?_); conv => whnf))
  refine Side.mk (by simp only [ByteArray.size_append, e32, e120, hmx]; omega) ?_
  ((conv => whnf); repeat ((first | refine B0 ?_ | refine B1 ?_ | refine D1 ?_ | refine D2 ?_ | refine CallC.r ?_); conv => whnf))
  refine Pick.mk _ (s_Decimal m.rows ⟨by omega, by omega⟩) ?_
  ((conv => whnf); repeat ((first | refine B0 ?_ | refine B1 ?_ | refine D1 ?_ | refine D2 ?_ | refine CallC.r ?_); conv => whnf))
  refine Side.mk (by simp only [ByteArray.size_append, e32, e120, hmx]; omega) ?_
  ((conv => whnf); repeat ((first | refine B0 ?_ | refine B1 ?_ | refine D1 ?_ | refine D2 ?_ | refine CallC.r ?_); conv => whnf))
  refine Side.mk (by simp only [ByteArray.size_append, e32, e120, hmx]; omega) ?_
  ((conv => whnf); repeat ((first | refine B0 ?_ | refine B1 ?_ | refine D1 ?_ | refine D2 ?_ | refine CallC.r ?_); conv => whnf))
  refine Pick.mk _ (s_Decimal m.columns ⟨by omega, by omega⟩) ?_
  ((conv => whnf); repeat ((first | refine B0 ?_ | refine B1 ?_ | refine D1 ?_ | refine D2 ?_ | refine CallC.r ?_); conv => whnf))
  refine Side.mk (by simp only [ByteArray.size_append, e32, e120, hmx]; omega) ?_
  ((conv => whnf); repeat ((first | refine B0 ?_ | refine B1 ?_ | refine D1 ?_ | refine D2 ?_ | refine CallC.r ?_); conv => whnf))
  refine Pick.mk _ (hro) ?_
  ((conv => whnf); repeat ((first | refine B0 ?_ | refine B1 ?_ | refine D1 ?_ | refine D2 ?_ | refine CallC.r ?_); conv => whnf))
  refine Pick.mk _ (s_slashed (rowsL m) (by rw [rowsL_len]; omega) (rows_small hk)) ?_
  ((conv => whnf); repeat ((first | refine B0 ?_ | refine B1 ?_ | refine D1 ?_ | refine D2 ?_ | refine CallC.r ?_); conv => whnf))
  refine Side.mk (by have h9 : (headM m ++ accW slL es (rowsL m) (rowsL m).length).size ≤ 41051 := by rw [← hes]; exact hms
                     rw [ByteArray.size_append] at h9
                     show (((headM m).size + (accW slL es (rowsL m) (rowsL m).length).size : Nat) : Int) ≤ _
                     rw [hmx]; omega) ?_
  ((conv => whnf); repeat ((first | refine B0 ?_ | refine B1 ?_ | refine D1 ?_ | refine D2 ?_ | refine CallC.r ?_); conv => whnf))
  exact ResOK.same (by rw [hes]; rfl)
theorem s_l03Text (m : Matrix) (hk : okMatrix m = true) : Sat Tryd.prog 47 [(false, [.ptr 4 (Enc.enc m)])] (.one (.c (.str (matB m))), []) := by
  have ok := mat_of hk
  obtain ⟨hp, hr, hc⟩ := okMatrix_of hk
  have hmx : IntKind.i64.max = 9223372036854775807 := rfl
  have e32 : (⟨#[32]⟩ : ByteArray).size = 1 := rfl
  have e120 : (⟨#[120]⟩ : ByteArray).size = 1 := rfl
  have e47 : (⟨#[47]⟩ : ByteArray).size = 1 := rfl
  have h1 := itoa_size (n := m.prime) (by omega) (by omega)
  have h2 := itoa_size (n := m.rows) (by omega) (by omega)
  have h3 := itoa_size (n := m.columns) (by omega) (by omega)
  have hhs := headM_size hk
  have hlr := rowsL_len m
  obtain ⟨c, hcn⟩ : ∃ c : Nat, m.columns = c := ⟨m.columns.toNat, by omega⟩
  refine Sat.intro tok mixed Tryd.func47 rfl rfl ?_
  ((conv => whnf); repeat ((first | refine B0 ?_ | refine B1 ?_ | refine D1 ?_ | refine D2 ?_ | refine CallC.r ?_); conv => whnf))
  refine Pick.mk _ (s_l01DecI m.prime (by omega) (by omega)) ?_
  ((conv => whnf); repeat ((first | refine B0 ?_ | refine B1 ?_ | refine D1 ?_ | refine D2 ?_ | refine CallC.r ?_); conv => whnf))
  refine Side.mk (by simp only [ByteArray.size_append, e32, e120, hmx]; omega) ?_
  ((conv => whnf); repeat ((first | refine B0 ?_ | refine B1 ?_ | refine D1 ?_ | refine D2 ?_ | refine CallC.r ?_); conv => whnf))
  refine Pick.mk _ (s_l01DecI m.rows (by omega) (by omega)) ?_
  ((conv => whnf); repeat ((first | refine B0 ?_ | refine B1 ?_ | refine D1 ?_ | refine D2 ?_ | refine CallC.r ?_); conv => whnf))
  refine Side.mk (by simp only [ByteArray.size_append, e32, e120, hmx]; omega) ?_
  ((conv => whnf); repeat ((first | refine B0 ?_ | refine B1 ?_ | refine D1 ?_ | refine D2 ?_ | refine CallC.r ?_); conv => whnf))
  refine Side.mk (by simp only [ByteArray.size_append, e32, e120, hmx]; omega) ?_
  ((conv => whnf); repeat ((first | refine B0 ?_ | refine B1 ?_ | refine D1 ?_ | refine D2 ?_ | refine CallC.r ?_); conv => whnf))
  refine Pick.mk _ (s_l01DecI m.columns (by omega) (by omega)) ?_
  ((conv => whnf); repeat ((first | refine B0 ?_ | refine B1 ?_ | refine D1 ?_ | refine D2 ?_ | refine CallC.r ?_); conv => whnf))
  refine Side.mk (by simp only [ByteArray.size_append, e32, e120, hmx]; omega) ?_
  ((conv => whnf); repeat ((first | refine B0 ?_ | refine B1 ?_ | refine D1 ?_ | refine D2 ?_ | refine CallC.r ?_); conv => whnf))
  refine Pick.mk [0, 3, 4] trivial ?_
  ((conv => whnf); repeat ((first | refine B0 ?_ | refine B1 ?_ | refine D1 ?_ | refine D2 ?_ | refine CallC.r ?_); conv => whnf))
  refine LoopL.over (fun (i : Nat) => [(3, .one (.c (.str (accW slL (headM m) (rowsL m) i)))), (4, .one (.c (.int .i64 ((i : Int)))))]) (fun (i : Nat) => []) (fun (i : Nat) => (rowsL m).length - i) (fun (i : Nat) => i ≤ (rowsL m).length) ?_ 0 (Nat.zero_le _)
  intro i g1 ih
  ((conv => whnf); repeat ((first | refine B0 ?_ | refine B1 ?_ | refine D1 ?_ | refine D2 ?_ | refine CallC.r ?_); conv => whnf))
  refine Br.mk (fun h => ?_) (fun h => ?_) <;> ((conv => whnf); repeat ((first | refine B0 ?_ | refine B1 ?_ | refine D1 ?_ | refine D2 ?_ | refine CallC.r ?_); conv => whnf))
  · have h : i < m.rows.toNat := by simp only [decide_eq_true_eq] at h; omega
    have hir : i < (rowsL m).length := by rw [hlr]; exact h
    have hn := ih (i + 1) (by omega) (by omega)
    have hss := accW_succ slL (headM m) (rowsL m) hir
    have hge : (rowsL m)[i] = rowL m i := by simp [rowsL]
    have hsm := rows_small hk (rowL m i) (by rw [← hge]; exact List.getElem_mem hir)
    have hsz := accW_size slL (headM m) (rowsL m) (c := 1281) (fun x hx => slL_size (rows_small hk x hx)) (show i ≤ (rowsL m).length by omega)
    have hlb := listB_size hsm
    have hb3 : i * 1281 ≤ 32 * 1281 := Nat.mul_le_mul_right _ (by omega)
    rw [hss, hge] at hn
    clear ih
    have hle : (i + 1) * c ≤ m.rows.toNat * c := Nat.mul_le_mul_right _ h
    have hs1 : (i + 1) * c = i * c + c := Nat.succ_mul i c
    have hcl : m.cells.length = m.rows.toNat * c := by rw [ok.len, hcn]; rfl
    have hcm : m.rows.toNat * c ≤ 1024 := Nat.mul_le_mul (show m.rows.toNat ≤ 32 by omega) (show c ≤ 32 by omega)
    have hrw : rowL m i = (m.cells.take ((i + 1) * c)).drop (i * c) := by rw [rowL, hcn]; rfl
    have hl3 := s_l01List (rowL m i) hsm
    have hlc : (m.cells.map (Enc.enc (α := Int))).length = m.cells.length := by simp
    rw [hrw] at hl3 hn hlb
    refine Pick.at64 (z := ((i * c : Nat) : Int)) (by rw [hcn]; push_cast; rfl) (by omega) ?_
    ((conv => whnf); repeat ((first | refine B0 ?_ | refine B1 ?_ | refine D1 ?_ | refine D2 ?_ | refine CallC.r ?_); conv => whnf))
    refine Pick.at64 (z := (i + 1 : Nat)) (by simp) (by omega) ?_
    ((conv => whnf); repeat ((first | refine B0 ?_ | refine B1 ?_ | refine D1 ?_ | refine D2 ?_ | refine CallC.r ?_); conv => whnf))
    refine Pick.at64 (z := (((i + 1) * c : Nat) : Int)) (by rw [hcn]; push_cast; rfl) (by omega) ?_
    ((conv => whnf); repeat ((first | refine B0 ?_ | refine B1 ?_ | refine D1 ?_ | refine D2 ?_ | refine CallC.r ?_); conv => whnf))
    refine Side.mk (by rw [hlc, hcl]; omega) ?_
    ((conv => whnf); repeat ((first | refine B0 ?_ | refine B1 ?_ | refine D1 ?_ | refine D2 ?_ | refine CallC.r ?_); conv => whnf))
    have hl4 : Sat Tryd.prog 27 [(false, [.slice 1 (((m.cells.map Enc.enc).take ((i + 1) * c)).drop (i * c))])] (.one (.c (.str (listB ((m.cells.take ((i + 1) * c)).drop (i * c))))), []) := by
      have := hl3
      simp only [Enc.enc, List.map_drop, List.map_take] at this ⊢
      exact this
    refine Pick.mk _ hl4 ?_
    ((conv => whnf); repeat ((first | refine B0 ?_ | refine B1 ?_ | refine D1 ?_ | refine D2 ?_ | refine CallC.r ?_); conv => whnf))
    refine Side.mk (by simp only [ByteArray.size_append, e47, hmx]; omega) ?_
    ((conv => whnf); repeat ((first | refine B0 ?_ | refine B1 ?_ | refine D1 ?_ | refine D2 ?_ | refine CallC.r ?_); conv => whnf))
    refine Side.mk (by simp only [ByteArray.size_append, e47, hmx]; omega) ?_
    ((conv => whnf); repeat ((first | refine B0 ?_ | refine B1 ?_ | refine D1 ?_ | refine D2 ?_ | refine CallC.r ?_); conv => whnf))
    refine Pick.at64 (z := (i + 1 : Nat)) (by simp) (by omega) ?_
    ((conv => whnf); repeat ((first | refine B0 ?_ | refine B1 ?_ | refine D1 ?_ | refine D2 ?_ | refine CallC.r ?_); conv => whnf))
    exact hn
  · have h : i = (rowsL m).length := by simp only [decide_eq_false_iff_not] at h; omega
    subst h
    exact ResOK.same rfl
theorem s_spec_MatrixText (m : Matrix) (o : Enc.ok m) (hk : okMatrix m = true) : Sat Tryd.prog 26 [(true, Enc.enc m)] (.one (.c (.str (matB m))), []) := by
  refine Sat.intro tok mixed Tryd.func26 rfl rfl ?_
  ((conv => whnf); repeat ((first | refine B0 ?_ | refine B1 ?_ | refine D1 ?_ | refine D2 ?_ | refine CallC.r ?_); conv => whnf))
  refine Pick.mk _ (s_l03Ok m o) ?_
  ((conv => whnf); repeat ((first | refine B0 ?_ | refine B1 ?_ | refine D1 ?_ | refine D2 ?_ | refine CallC.r ?_); conv => whnf))
  refine Br.mk (fun h => absurd h (by rw [hk]; decide)) (fun _ => ?_)
  ((conv => whnf); repeat ((first | refine B0 ?_ | refine B1 ?_ | refine D1 ?_ | refine D2 ?_ | refine CallC.r ?_); conv => whnf))
  refine Pick.mk _ (s_l03Text m hk) ?_
  ((conv => whnf); repeat ((first | refine B0 ?_ | refine B1 ?_ | refine D1 ?_ | refine D2 ?_ | refine CallC.r ?_); conv => whnf))
  exact ResOK.same rfl
end Go.Proofs.YtnafogjagbhdbaaDoor.Pi
