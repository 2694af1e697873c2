/- The text of a version, the program and the reference. No statement of the seat is proved here. -/
import Derived.Test.YtjolahiflldepaaDoorPiFBld
import Derived.Test.YtjolahiflldepaaDoorPiFItemsT
import Derived.Test.YtjolahiflldepaaDoorPiFValidHistory
namespace Go.Proofs.YtjolahiflldepaaDoor.Pi
open Go
set_option maxRecDepth 10000
set_option maxHeartbeats 3200000
set_option linter.unusedVariables false

def es : ByteArray := ⟨#[]⟩
theorem bl_toList (s : ByteArray) : s.toList = bl s := ByteArray.toList_eq s
theorem mk_bl (s : ByteArray) : (⟨(bl s).toArray⟩ : ByteArray) = s := bl_inj (bl_mk _)
theorem s_WriteS (t s r : ByteArray) (hr : t ++ s = r) (h : r.size ≤ 140737488355328) : SatM Tryd.prog 32 [.one (.pb 1000029 0 1), .one (.c (.str s))] [(1000029, .box [.c (.str t)])]
    (.tup [(false, [.c (.int .i64 s.size)]), (false, [.c (.iface true)])], [(1000029, .box [.c (.str r)])]) := by
  subst hr
  have h' := s_WriteStr (ρ := lays156_ren) { lays156 with } Builder_Extra_156 ⟨_, Tryd.func32, rfl, rfl⟩ rfl rfl (bl t) s (by rw [← bl_size, ← ByteArray.size_append]; exact h)
  rw [mk_bl, bl_toList, ← bl_app, mk_bl] at h'
  exact h'
theorem s_StringS (t : ByteArray) (h0 : t.size ≠ 0) : SatM Tryd.prog 34 [.one (.pb 1000029 0 1)] [(1000029, .box [.c (.str t)])] (.one (.c (.str t)), []) := by
  have h' := s_BldStr (ρ := lays156_ren) { lays156 with } Builder_Extra_156 ⟨_, Tryd.func34, rfl, rfl⟩ rfl rfl (bl t) (fun e => h0 (by rw [bl_size, e]; rfl))
  rw [mk_bl] at h'
  exact h'

def lt1 : ByteArray := ⟨#[60]⟩
def eq1 : ByteArray := ⟨#[61]⟩
def hs3 : ByteArray := ⟨#[32, 35, 32]⟩
def headV (v : Version) : ByteArray := (itoaB v.number ++ lt1) ++ itoaB v.parent
def setV (x : Setting) : ByteArray := ((sp ++ x.name) ++ eq1) ++ itoaB x.value
def accV (q : ByteArray) (xs : List Setting) (k : Nat) : ByteArray := (xs.take k).foldl (fun s x => s ++ setV x) q
theorem accV_succ (q : ByteArray) (xs : List Setting) {k : Nat} (h : k < xs.length) : accV q xs (k + 1) = accV q xs k ++ setV xs[k] := by
  simp only [accV, List.take_add_one, List.getElem?_eq_getElem h, Option.toList_some, List.foldl_append, List.foldl_cons, List.foldl_nil]
theorem es_app (q : ByteArray) : es ++ q = q := bl_inj (by rw [bl_app]; rfl)
def okV (v : Version) : Bool := ((decide (1 ≤ v.number) && decide (v.number ≤ 32)) && (decide (0 ≤ v.parent) && decide (v.parent ≤ v.number - 1))) && (okMemo v.memo && okState v.state)
def bodyV (v : Version) : ByteArray := accV (headV v) v.state v.state.length
def textV (v : Version) : ByteArray := if okV v = true then (if (!v.memo.toList == (⟨#[]⟩ : ByteArray).toList) = true then bodyV v ++ (hs3 ++ v.memo) else bodyV v) else es

theorem okV_iff {v : Version} : okV v = true ↔ (1 ≤ v.number ∧ v.number ≤ 32) ∧ (0 ≤ v.parent ∧ v.parent ≤ v.number - 1) ∧ okMemo v.memo = true ∧ okState v.state = true := by
  simp only [okV, Bool.and_eq_true, decide_eq_true_eq, and_assoc]
theorem textV_no {v : Version} (h : ¬ ((1 ≤ v.number ∧ v.number ≤ 32) ∧ (0 ≤ v.parent ∧ v.parent ≤ v.number - 1) ∧ okMemo v.memo = true ∧ okState v.state = true)) : textV v = es := by
  rw [textV, if_neg fun hk => h (okV_iff.1 hk)]
theorem st_size {xs : List Setting} (hw : Enc.wt xs ≤ 1048576) {i : Nat} (h : i < xs.length) : xs[i].name.size ≤ 1048576 := by
  have hs : ∀ ys : List Setting, ∀ y ∈ ys, Enc.wt y ≤ (ys.map Enc.wt).sum := fun ys => by
    induction ys with
    | nil => intro y hy; cases hy
    | cons z ys ih =>
      intro y hy
      rcases List.mem_cons.1 hy with rfl | hy
      · simp
      · have := ih y hy; simp; omega
  have h2 := hs xs _ (List.getElem_mem h)
  have h3 : Enc.wt xs = xs.length + (xs.map Enc.wt).sum := rfl
  have h4 : Enc.wt xs[i] = xs[i].name.size + 0 := rfl
  omega
theorem setV_size {x : Setting} (hn : x.name.size ≤ 1048576) (h0 : 0 ≤ x.value) (h1 : x.value ≤ 1000) : (setV x).size ≤ 1048597 := by
  have := itoa_size h0 (by omega)
  have e1 : sp.size = 1 := rfl
  have e2 : eq1.size = 1 := rfl
  simp only [setV, ByteArray.size_append, e1, e2]; omega
theorem accV_size (q : ByteArray) {xs : List Setting} (hw : Enc.wt xs ≤ 1048576) (hv : ∀ x ∈ xs, 0 ≤ x.value ∧ x.value ≤ 1000) : ∀ {k : Nat}, k ≤ xs.length → (accV q xs k).size ≤ q.size + k * 1048597
  | 0, _ => by simp [accV]
  | k + 1, h => by
    have hx := hv _ (List.getElem_mem (show k < xs.length by omega))
    have h1 := setV_size (st_size hw (show k < xs.length by omega)) hx.1 hx.2
    have h2 := accV_size q hw hv (show k ≤ xs.length by omega)
    rw [accV_succ q xs (by omega), ByteArray.size_append]
    omega
theorem body_ne (v : Version) (h : 0 ≤ v.number) : (bodyV v).size ≠ 0 := by
  have h1 : ∀ (xs : List Setting) (q : ByteArray), q.size ≤ (xs.foldl (fun s x => s ++ setV x) q).size := fun xs => by
    induction xs with
    | nil => intro q; exact Nat.le_refl _
    | cons x xs ih => intro q; refine Nat.le_trans ?_ (ih _); rw [ByteArray.size_append]; omega
  have h2 := h1 (v.state.take v.state.length) (headV v)
  have h3 : (headV v).size = (itoaB v.number).size + 1 + (itoaB v.parent).size := by
    simp only [headV, ByteArray.size_append]; rfl
  rw [bodyV, accV]; omega
theorem okState_val {xs : List Setting} (h : okState xs = true) : xs.length ≤ 24 ∧ ∀ x ∈ xs, 0 ≤ x.value ∧ x.value ≤ 1000 := by
  simp only [okState, Bool.and_eq_true, decide_eq_true_eq] at h
  refine ⟨h.2, fun x hx => ?_⟩
  obtain ⟨i, hi, rfl⟩ := List.mem_iff_getElem.1 hx
  have h1 := (allIx_iff.1 h.1) i hi
  simp only [okStep, okSetting, Bool.and_eq_true, decide_eq_true_eq] at h1
  omega

theorem s_impl_VersionText (v : Version) (o : Enc.ok v) (hw : Enc.wt v ≤ 1048576) : Sat Tryd.prog 9 [(true, Enc.enc v)] (.one (.c (.str (textV v))), []) := by
  obtain ⟨o1, o2, o3, o4⟩ := o
  refine Sat.intro tok mixed Tryd.func9 rfl rfl ?_
  ((conv => whnf); repeat ((first | refine B0 ?_ | refine B1 ?_ | refine D1 ?_ | refine D2 ?_ | refine CallC.r ?_); conv => whnf))
  refine Pick.mk _ (s_within v.number 1 32) ?_
  ((conv => whnf); repeat ((first | refine B0 ?_ | refine B1 ?_ | refine D1 ?_ | refine D2 ?_ | refine CallC.r ?_); conv => whnf))
  refine Br.mk (fun h1 => ?_) (fun h1 => ?_) <;> ((conv => whnf); repeat ((first | refine B0 ?_ | refine B1 ?_ | refine D1 ?_ | refine D2 ?_ | refine CallC.r ?_); conv => whnf))
  · simp only [Bool.not_eq_true', Bool.not_eq_eq_eq_not, Bool.not_true, Bool.not_false] at h1
    exact ResOK.same (by rw [textV, okV, h1]; rfl)
  simp only [Bool.not_eq_true', Bool.not_eq_eq_eq_not, Bool.not_true, Bool.not_false, Bool.and_eq_true, decide_eq_true_eq] at h1
  refine Pick.at64 (z := v.number - 1) rfl (by omega) ?_
  ((conv => whnf); repeat ((first | refine B0 ?_ | refine B1 ?_ | refine D1 ?_ | refine D2 ?_ | refine CallC.r ?_); conv => whnf))
  refine Pick.mk _ (s_within v.parent 0 (v.number - 1)) ?_
  ((conv => whnf); repeat ((first | refine B0 ?_ | refine B1 ?_ | refine D1 ?_ | refine D2 ?_ | refine CallC.r ?_); conv => whnf))
  refine Br.mk (fun h2 => ?_) (fun h2 => ?_) <;> ((conv => whnf); repeat ((first | refine B0 ?_ | refine B1 ?_ | refine D1 ?_ | refine D2 ?_ | refine CallC.r ?_); conv => whnf))
  · exact ResOK.same (by rw [textV_no fun hq => by (simp only [hq, Bool.not_true] at h2; first | (cases h2; done) | (simp at h2; omega))]; rfl)
  refine Pick.mk _ (s_validMemo v.memo o3) ?_
  ((conv => whnf); repeat ((first | refine B0 ?_ | refine B1 ?_ | refine D1 ?_ | refine D2 ?_ | refine CallC.r ?_); conv => whnf))
  refine Br.mk (fun h3 => ?_) (fun h3 => ?_) <;> ((conv => whnf); repeat ((first | refine B0 ?_ | refine B1 ?_ | refine D1 ?_ | refine D2 ?_ | refine CallC.r ?_); conv => whnf))
  · exact ResOK.same (by rw [textV_no fun hq => by (simp only [hq, Bool.not_true] at h3; first | (cases h3; done) | (simp at h3; omega))]; rfl)
  refine Pick.mk _ (s_impl_ValidState v.state o4) ?_
  ((conv => whnf); repeat ((first | refine B0 ?_ | refine B1 ?_ | refine D1 ?_ | refine D2 ?_ | refine CallC.r ?_); conv => whnf))
  refine Br.mk (fun h4 => ?_) (fun h4 => ?_)
  · ((conv => whnf); repeat ((first | refine B0 ?_ | refine B1 ?_ | refine D1 ?_ | refine D2 ?_ | refine CallC.r ?_); conv => whnf))
    exact ResOK.same (by rw [textV_no fun hq => by (simp only [hq, Bool.not_true] at h4; cases h4)]; rfl)
  ((conv => whnf); repeat ((first | refine B0 ?_ | refine B1 ?_ | refine CallC.r ?_); conv => whnf))
  refine Pick.drawFAt 8 (by decide +kernel) ?_
  ((conv => whnf); repeat ((first | refine B0 ?_ | refine B1 ?_ | refine D1 ?_ | refine D2 ?_ | refine CallC.r ?_); conv => whnf))
  have h3 : okMemo v.memo = true := by simpa using h3
  have h4 : okState v.state = true := by simpa using h4
  simp at h2
  have hk : okV v = true := okV_iff.2 ⟨h1, h2, h3, h4⟩
  obtain ⟨h24, hvs⟩ := okState_val h4
  have hws : Enc.wt v.state ≤ 1048576 := by
    have : Enc.wt v = 0 + 0 + v.memo.size + Enc.wt v.state := rfl
    omega
  have hm20 : v.memo.size ≤ 20 := by simp only [okMemo, Bool.and_eq_true, decide_eq_true_eq] at h3; omega
  have z1 := itoa_size (n := v.number) (by omega) (by omega)
  have z2 := itoa_size (n := v.parent) (by omega) (by omega)
  have hmx : IntKind.i64.max = 9223372036854775807 := rfl
  have e60 : (⟨#[60]⟩ : ByteArray).size = 1 := rfl
  have e61 : (⟨#[61]⟩ : ByteArray).size = 1 := rfl
  have e32 : (⟨#[32]⟩ : ByteArray).size = 1 := rfl
  have ehs : (⟨#[32, 35, 32]⟩ : ByteArray).size = 3 := rfl
  refine Pick.mk _ (s_Decimal v.number ⟨by omega, by omega⟩) ?_
  ((conv => whnf); repeat ((first | refine B0 ?_ | refine B1 ?_ | refine D1 ?_ | refine D2 ?_ | refine CallC.r ?_); conv => whnf))
  refine Side.mk (by simp only [ByteArray.size_append, e60, hmx]; omega) ?_
  ((conv => whnf); repeat ((first | refine B0 ?_ | refine B1 ?_ | refine D1 ?_ | refine D2 ?_ | refine CallC.r ?_); conv => whnf))
  refine Pick.mk _ (s_Decimal v.parent ⟨by omega, by omega⟩) ?_
  ((conv => whnf); repeat ((first | refine B0 ?_ | refine B1 ?_ | refine D1 ?_ | refine D2 ?_ | refine CallC.r ?_); conv => whnf))
  refine Side.mk (by simp only [ByteArray.size_append, e60, hmx]; omega) ?_
  ((conv => whnf); repeat ((first | refine B0 ?_ | refine B1 ?_ | refine D1 ?_ | refine D2 ?_); conv => whnf))
  refine CallC.x ?_
  ((conv => whnf); repeat ((first | refine B0 ?_ | refine B1 ?_ | refine D1 ?_ | refine D2 ?_ | refine CallC.r ?_); conv => whnf))
  have hh : (headV v).size ≤ 39 := by
    have e1 : lt1.size = 1 := rfl
    simp only [headV, ByteArray.size_append, e1]; omega
  refine Pick.mk _ (s_WriteS es _ (headV v) (es_app _) (by omega)) ?_
  ((conv => whnf); repeat ((first | refine B0 ?_ | refine B1 ?_ | refine D1 ?_ | refine D2 ?_ | refine CallC.r ?_); conv => whnf))
  refine Pick.mk [1, 3, 41, 42, 43] trivial ?_
  ((conv => whnf); repeat ((first | refine B0 ?_ | refine B1 ?_ | refine D1 ?_ | refine D2 ?_ | refine CallC.r ?_); conv => whnf))
  refine LoopL.over (fun (i : Nat) => [(43, .one (.c (.int .i64 ((i : Int)))))]) (fun (i : Nat) => [(221, .box [.c (.str (accV (headV v) v.state i))])]) (fun (i : Nat) => v.state.length - i) (fun (i : Nat) => i ≤ v.state.length) ?_ 0 (Nat.zero_le _)
  intro i g1 ih
  have hac := accV_size (headV v) hws hvs g1
  ((conv => whnf); repeat ((first | refine B0 ?_ | refine B1 ?_ | refine D1 ?_ | refine D2 ?_ | refine CallC.r ?_); conv => whnf))
  refine Br.mk (fun h => ?_) (fun h => ?_) <;> ((conv => whnf); repeat ((first | refine B0 ?_ | refine B1 ?_ | refine D1 ?_ | refine D2 ?_ | refine CallC.r ?_); conv => whnf))
  · have h : i < v.state.length := by simp only [List.length_map, decide_eq_true_eq] at h; omega
    have hx := hvs _ (List.getElem_mem h)
    have hn := ih (i + 1) (by omega) (by omega)
    have hsz := st_size hws h
    have h1 := itoa_size (n := v.state[i].value) (by omega) (by omega)
    have hac1 := accV_size (headV v) hws hvs (show i + 1 ≤ v.state.length by omega)
    have hss := accV_succ (headV v) v.state h
    rw [hss] at hac1 hn
    clear ih
    refine Pick.ix h ?_
    ((conv => whnf); repeat ((first | refine B0 ?_ | refine B1 ?_ | refine CallC.r ?_); conv => whnf))
    refine Pick.drawFAt 8 (by decide +kernel) ?_
    ((conv => whnf); repeat ((first | refine B0 ?_ | refine B1 ?_ | refine D1 ?_ | refine D2 ?_ | refine CallC.r ?_); conv => whnf))
    refine Side.mk (by simp only [ByteArray.size_append, e32, e61, hmx]; omega) ?_
    ((conv => whnf); repeat ((first | refine B0 ?_ | refine B1 ?_ | refine D1 ?_ | refine D2 ?_ | refine CallC.r ?_); conv => whnf))
    refine Side.mk (by simp only [ByteArray.size_append, e32, e61, hmx]; omega) ?_
    ((conv => whnf); repeat ((first | refine B0 ?_ | refine B1 ?_ | refine D1 ?_ | refine D2 ?_ | refine CallC.r ?_); conv => whnf))
    refine Pick.mk _ (s_Decimal v.state[i].value ⟨by omega, by omega⟩) ?_
    ((conv => whnf); repeat ((first | refine B0 ?_ | refine B1 ?_ | refine D1 ?_ | refine D2 ?_ | refine CallC.r ?_); conv => whnf))
    refine Side.mk (by simp only [ByteArray.size_append, e32, e61, hmx]; omega) ?_
    ((conv => whnf); repeat ((first | refine B0 ?_ | refine B1 ?_ | refine D1 ?_ | refine D2 ?_); conv => whnf))
    refine CallC.x ?_
    ((conv => whnf); repeat ((first | refine B0 ?_ | refine B1 ?_ | refine D1 ?_ | refine D2 ?_ | refine CallC.r ?_); conv => whnf))
    refine Pick.mk _ (s_WriteS (accV (headV v) v.state i) _ (accV (headV v) v.state i ++ setV v.state[i]) rfl (by omega)) ?_
    ((conv => whnf); repeat ((first | refine B0 ?_ | refine B1 ?_ | refine D1 ?_ | refine D2 ?_ | refine CallC.r ?_); conv => whnf))
    refine Pick.at64 (z := (i + 1 : Nat)) (by simp) (by omega) ?_
    ((conv => whnf); repeat ((first | refine B0 ?_ | refine B1 ?_ | refine D1 ?_ | refine D2 ?_ | refine CallC.r ?_); conv => whnf))
    exact hn
  · have h : i = v.state.length := by simp only [List.length_map, decide_eq_false_iff_not] at h; omega
    subst h
    have hl3 : (3 : Nat) + v.memo.size ≤ 23 := by omega
    have hb0 : (bodyV v).size ≤ 39 + 24 * 1048597 := by
      have : v.state.length * 1048597 ≤ 24 * 1048597 := Nat.mul_le_mul_right _ h24
      rw [bodyV]; omega
    have hne : (bodyV v).size ≠ 0 := body_ne v (by omega)
    refine Br.mk (fun hm => ?_) (fun hm => ?_)
    · ((conv => whnf); repeat ((first | refine B0 ?_ | refine B1 ?_ | refine D1 ?_ | refine D2 ?_); conv => whnf))
      refine Side.mk (by simp only [ByteArray.size_append, ehs, hmx]; omega) ?_
      ((conv => whnf); repeat ((first | refine B0 ?_ | refine B1 ?_ | refine D1 ?_ | refine D2 ?_); conv => whnf))
      refine CallC.x ?_
      ((conv => whnf); repeat ((first | refine B0 ?_ | refine B1 ?_ | refine D1 ?_ | refine D2 ?_ | refine CallC.r ?_); conv => whnf))
      have ht : textV v = bodyV v ++ (hs3 ++ v.memo) := by rw [textV, if_pos hk, if_pos hm]
      refine Pick.mk _ (s_WriteS (bodyV v) (hs3 ++ v.memo) (textV v) ht.symm (by rw [ht]; simp only [ByteArray.size_append]; have : hs3.size = 3 := rfl; omega)) ?_
      ((conv => whnf); repeat ((first | refine B0 ?_ | refine B1 ?_ | refine D1 ?_ | refine D2 ?_); conv => whnf))
      refine CallC.x ?_
      ((conv => whnf); repeat ((first | refine B0 ?_ | refine B1 ?_ | refine D1 ?_ | refine D2 ?_ | refine CallC.r ?_); conv => whnf))
      refine Pick.mk _ (s_StringS (textV v) (by rw [ht, ByteArray.size_append]; omega)) ?_
      ((conv => whnf); repeat ((first | refine B0 ?_ | refine B1 ?_ | refine D1 ?_ | refine D2 ?_ | refine CallC.r ?_); conv => whnf))
      exact ResOK.same rfl
    · ((conv => whnf); repeat ((first | refine B0 ?_ | refine B1 ?_ | refine D1 ?_ | refine D2 ?_); conv => whnf))
      refine CallC.x ?_
      ((conv => whnf); repeat ((first | refine B0 ?_ | refine B1 ?_ | refine D1 ?_ | refine D2 ?_ | refine CallC.r ?_); conv => whnf))
      have ht : textV v = bodyV v := by rw [textV, if_pos hk, if_neg (by rw [hm]; decide)]
      refine Pick.mk _ (s_StringS (bodyV v) hne) ?_
      ((conv => whnf); repeat ((first | refine B0 ?_ | refine B1 ?_ | refine D1 ?_ | refine D2 ?_ | refine CallC.r ?_); conv => whnf))
      exact ResOK.same (by rw [ht])

theorem s_spec_VersionText (v : Version) (o : Enc.ok v) (hw : Enc.wt v ≤ 1048576) : Sat Tryd.prog 7 [(true, Enc.enc v)] (.one (.c (.str (textV v))), []) := by
  obtain ⟨o1, o2, o3, o4⟩ := o
  refine Sat.intro tok mixed Tryd.func7 rfl rfl ?_
  ((conv => whnf); repeat ((first | refine B0 ?_ | refine B1 ?_ | refine D1 ?_ | refine D2 ?_ | refine CallC.r ?_); conv => whnf))
  refine Pick.mk _ (s_l00In v.number 1 32) ?_
  ((conv => whnf); repeat ((first | refine B0 ?_ | refine B1 ?_ | refine D1 ?_ | refine D2 ?_ | refine CallC.r ?_); conv => whnf))
  refine Br.mk (fun h1 => ?_) (fun h1 => ?_) <;> ((conv => whnf); repeat ((first | refine B0 ?_ | refine B1 ?_ | refine D1 ?_ | refine D2 ?_ | refine CallC.r ?_); conv => whnf))
  · simp only [Bool.not_eq_true', Bool.not_eq_eq_eq_not, Bool.not_true, Bool.not_false] at h1
    exact ResOK.same (by rw [textV, okV, h1]; rfl)
  simp only [Bool.not_eq_true', Bool.not_eq_eq_eq_not, Bool.not_true, Bool.not_false, Bool.and_eq_true, decide_eq_true_eq] at h1
  refine Pick.at64 (z := v.number - 1) rfl (by omega) ?_
  ((conv => whnf); repeat ((first | refine B0 ?_ | refine B1 ?_ | refine D1 ?_ | refine D2 ?_ | refine CallC.r ?_); conv => whnf))
  refine Pick.mk _ (s_l00In v.parent 0 (v.number - 1)) ?_
  ((conv => whnf); repeat ((first | refine B0 ?_ | refine B1 ?_ | refine D1 ?_ | refine D2 ?_ | refine CallC.r ?_); conv => whnf))
  refine Br.mk (fun h2 => ?_) (fun h2 => ?_) <;> ((conv => whnf); repeat ((first | refine B0 ?_ | refine B1 ?_ | refine D1 ?_ | refine D2 ?_ | refine CallC.r ?_); conv => whnf))
  · exact ResOK.same (by rw [textV_no fun hq => by (simp only [hq, Bool.not_true] at h2; first | (cases h2; done) | (simp at h2; omega))]; rfl)
  refine Pick.mk _ (s_l27Memo v.memo o3) ?_
  ((conv => whnf); repeat ((first | refine B0 ?_ | refine B1 ?_ | refine D1 ?_ | refine D2 ?_ | refine CallC.r ?_); conv => whnf))
  refine Br.mk (fun h3 => ?_) (fun h3 => ?_) <;> ((conv => whnf); repeat ((first | refine B0 ?_ | refine B1 ?_ | refine D1 ?_ | refine D2 ?_ | refine CallC.r ?_); conv => whnf))
  · exact ResOK.same (by rw [textV_no fun hq => by (simp only [hq, Bool.not_true] at h3; first | (cases h3; done) | (simp at h3; omega))]; rfl)
  refine Pick.mk _ (s_l27State v.state o4) ?_
  ((conv => whnf); repeat ((first | refine B0 ?_ | refine B1 ?_ | refine D1 ?_ | refine D2 ?_ | refine CallC.r ?_); conv => whnf))
  refine Br.mk (fun h4 => ?_) (fun h4 => ?_) <;> ((conv => whnf); repeat ((first | refine B0 ?_ | refine B1 ?_ | refine D1 ?_ | refine D2 ?_ | refine CallC.r ?_); conv => whnf))
  · exact ResOK.same (by rw [textV_no fun hq => by (simp only [hq, Bool.not_true] at h4; cases h4)]; rfl)
  have h3 : okMemo v.memo = true := by simpa using h3
  have h4 : okState v.state = true := by simpa using h4
  simp at h2
  have hk : okV v = true := okV_iff.2 ⟨h1, h2, h3, h4⟩
  obtain ⟨h24, hvs⟩ := okState_val h4
  have hws : Enc.wt v.state ≤ 1048576 := by
    have : Enc.wt v = 0 + 0 + v.memo.size + Enc.wt v.state := rfl
    omega
  have hm20 : v.memo.size ≤ 20 := by simp only [okMemo, Bool.and_eq_true, decide_eq_true_eq] at h3; omega
  have z1 := itoa_size (n := v.number) (by omega) (by omega)
  have z2 := itoa_size (n := v.parent) (by omega) (by omega)
  have hmx : IntKind.i64.max = 9223372036854775807 := rfl
  have e60 : (⟨#[60]⟩ : ByteArray).size = 1 := rfl
  have e61 : (⟨#[61]⟩ : ByteArray).size = 1 := rfl
  have e32 : (⟨#[32]⟩ : ByteArray).size = 1 := rfl
  have ehs : (⟨#[32, 35, 32]⟩ : ByteArray).size = 3 := rfl
  have hh : (headV v).size ≤ 39 := by
    have e1 : lt1.size = 1 := rfl
    simp only [headV, ByteArray.size_append, e1]; omega
  refine Pick.mk _ (s_l01DecI v.number (by omega) (by omega)) ?_
  ((conv => whnf); repeat ((first | refine B0 ?_ | refine B1 ?_ | refine D1 ?_ | refine D2 ?_ | refine CallC.r ?_); conv => whnf))
  refine Side.mk (by simp only [ByteArray.size_append, e60, hmx]; omega) ?_
  ((conv => whnf); repeat ((first | refine B0 ?_ | refine B1 ?_ | refine D1 ?_ | refine D2 ?_ | refine CallC.r ?_); conv => whnf))
  refine Pick.mk _ (s_l01DecI v.parent (by omega) (by omega)) ?_
  ((conv => whnf); repeat ((first | refine B0 ?_ | refine B1 ?_ | refine D1 ?_ | refine D2 ?_ | refine CallC.r ?_); conv => whnf))
  refine Side.mk (by simp only [ByteArray.size_append, e60, hmx]; omega) ?_
  ((conv => whnf); repeat ((first | refine B0 ?_ | refine B1 ?_ | refine D1 ?_ | refine D2 ?_ | refine CallC.r ?_); conv => whnf))
  refine Pick.mk [1, 3, 4] trivial ?_
  ((conv => whnf); repeat ((first | refine B0 ?_ | refine B1 ?_ | refine D1 ?_ | refine D2 ?_ | refine CallC.r ?_); conv => whnf))
  refine LoopL.over (fun (i : Nat) => [(3, .one (.c (.str (accV (headV v) v.state i)))), (4, .one (.c (.int .i64 ((i : Int)))))]) (fun (i : Nat) => []) (fun (i : Nat) => v.state.length - i) (fun (i : Nat) => i ≤ v.state.length) ?_ 0 (Nat.zero_le _)
  intro i g1 ih
  have hac := accV_size (headV v) hws hvs g1
  ((conv => whnf); repeat ((first | refine B0 ?_ | refine B1 ?_ | refine D1 ?_ | refine D2 ?_ | refine CallC.r ?_); conv => whnf))
  refine Br.mk (fun h => ?_) (fun h => ?_) <;> ((conv => whnf); repeat ((first | refine B0 ?_ | refine B1 ?_ | refine D1 ?_ | refine D2 ?_ | refine CallC.r ?_); conv => whnf))
  · have h : i < v.state.length := by simp only [List.length_map, decide_eq_true_eq] at h; omega
    have hx := hvs _ (List.getElem_mem h)
    have hn := ih (i + 1) (by omega) (by omega)
    have hsz := st_size hws h
    have h1 := itoa_size (n := v.state[i].value) (by omega) (by omega)
    have hss := accV_succ (headV v) v.state h
    rw [hss] at hn
    clear ih
    refine Pick.ix (h) ?_
    ((conv => whnf); repeat ((first | refine B0 ?_ | refine B1 ?_ | refine D1 ?_ | refine D2 ?_ | refine CallC.r ?_); conv => whnf))
    refine Side.mk (by simp only [ByteArray.size_append, e32, e61, hmx]; omega) ?_
    ((conv => whnf); repeat ((first | refine B0 ?_ | refine B1 ?_ | refine D1 ?_ | refine D2 ?_ | refine CallC.r ?_); conv => whnf))
    refine Side.mk (by simp only [ByteArray.size_append, e32, e61, hmx]; omega) ?_
    ((conv => whnf); repeat ((first | refine B0 ?_ | refine B1 ?_ | refine D1 ?_ | refine D2 ?_ | refine CallC.r ?_); conv => whnf))
    refine Pick.ix (h) ?_
    ((conv => whnf); repeat ((first | refine B0 ?_ | refine B1 ?_ | refine D1 ?_ | refine D2 ?_ | refine CallC.r ?_); conv => whnf))
    refine Pick.mk _ (s_l01DecI v.state[i].value (by omega) (by omega)) ?_
    ((conv => whnf); repeat ((first | refine B0 ?_ | refine B1 ?_ | refine D1 ?_ | refine D2 ?_ | refine CallC.r ?_); conv => whnf))
    refine Side.mk (by simp only [ByteArray.size_append, e32, e61, hmx]; omega) ?_
    ((conv => whnf); repeat ((first | refine B0 ?_ | refine B1 ?_ | refine D1 ?_ | refine D2 ?_ | refine CallC.r ?_); conv => whnf))
    refine Side.mk (by simp only [ByteArray.size_append, e32, e61, hmx]; omega) ?_
    ((conv => whnf); repeat ((first | refine B0 ?_ | refine B1 ?_ | refine D1 ?_ | refine D2 ?_ | refine CallC.r ?_); conv => whnf))
    refine Pick.at64 (z := (i + 1 : Nat)) (by simp) (by omega) ?_
    ((conv => whnf); repeat ((first | refine B0 ?_ | refine B1 ?_ | refine D1 ?_ | refine D2 ?_ | refine CallC.r ?_); conv => whnf))
    exact hn
  · have h : i = v.state.length := by simp only [List.length_map, decide_eq_false_iff_not] at h; omega
    subst h
    have hb0 : (bodyV v).size ≤ 39 + 24 * 1048597 := by
      have : v.state.length * 1048597 ≤ 24 * 1048597 := Nat.mul_le_mul_right _ h24
      rw [bodyV]; omega
    refine Br.mk (fun hm => ?_) (fun hm => ?_) <;> ((conv => whnf); repeat ((first | refine B0 ?_ | refine B1 ?_ | refine D1 ?_ | refine D2 ?_ | refine CallC.r ?_); conv => whnf))
    · refine Side.mk (by simp only [ByteArray.size_append, ehs, hmx]; omega) ?_
      ((conv => whnf); repeat ((first | refine B0 ?_ | refine B1 ?_ | refine D1 ?_ | refine D2 ?_ | refine CallC.r ?_); conv => whnf))
      refine Side.mk (by have hb1 : (accV (headV v) v.state v.state.length).size ≤ 39 + 24 * 1048597 := hb0
                         simp only [ByteArray.size_append, ehs, hmx]; omega) ?_
      ((conv => whnf); repeat ((first | refine B0 ?_ | refine B1 ?_ | refine D1 ?_ | refine D2 ?_ | refine CallC.r ?_); conv => whnf))
      exact ResOK.same (by rw [textV, if_pos hk, if_pos hm]; rfl)
    · exact ResOK.same (by rw [textV, if_pos hk, if_neg (by rw [hm]; decide)]; rfl)
end Go.Proofs.YtjolahiflldepaaDoor.Pi
