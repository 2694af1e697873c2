/- Sheaves that are valid, the program, more. No statement of the seat is proved here. -/
import Derived.Test.YtlnjgoeicanehaaGreatPiFShf
namespace Go.Proofs.YtlnjgoeicanehaaGreat.Pi
open Go
set_option maxRecDepth 10000
set_option maxHeartbeats 25600000
set_option linter.unusedVariables false

theorem s_isBetween (m : Matrix) (o : Enc.ok m) (p fro to : Int) : Sat Tryz.prog 165 [(true, Enc.enc m), (false, [.int .i64 p]), (false, [.int .i64 fro]), (false, [.int .i64 to])] (.one (.c (.bool (okBetween m p fro to))), []) := by
  refine Sat.intro tok mixed Tryz.func165 rfl rfl ?_
  ((conv => whnf); repeat ((first | refine B0 ?_ | refine B1 ?_ | refine D1 ?_ | refine D2 ?_ | refine CallC.r ?_); conv => whnf))
  refine Pick.mk _ (s_impl_ValidMatrix m o) ?_
  ((conv => whnf); repeat ((first | refine B0 ?_ | refine B1 ?_ | refine D1 ?_ | refine D2 ?_ | refine CallC.r ?_); conv => whnf))
  refine Br.mk (fun h1 => ?_) (fun h1 => ?_) <;> ((conv => whnf); repeat ((first | refine B0 ?_ | refine B1 ?_ | refine D1 ?_ | refine D2 ?_ | refine CallC.r ?_); conv => whnf))
  · refine Br.mk (fun h2 => ?_) (fun h2 => ?_) <;> ((conv => whnf); repeat ((first | refine B0 ?_ | refine B1 ?_ | refine D1 ?_ | refine D2 ?_ | refine CallC.r ?_); conv => whnf))
    · refine Br.mk (fun h3 => ?_) (fun h3 => ?_) <;> ((conv => whnf); repeat ((first | refine B0 ?_ | refine B1 ?_ | refine D1 ?_ | refine D2 ?_ | refine CallC.r ?_); conv => whnf))
      · exact ResOK.same (by simp only [okBetween, h1, h2, h3, Bool.true_and])
      · exact ResOK.same (by simp only [okBetween, h1, h2, h3, Bool.true_and, Bool.false_and])
    · exact ResOK.same (by simp only [okBetween, h1, h2, Bool.true_and, Bool.false_and])
  · exact ResOK.same (by simp only [okBetween, h1, Bool.false_and])

theorem arrow_at {xs : List (List Int)} (h : CxOK xs) {i : Nat} (hi : i < (arrowsL xs).length) : ∃ (k f : Nat), k < xs.length ∧ f < xs.length ∧ (arrowsL xs)[i].simplex = k ∧ (arrowsL xs)[i].face = f := by
  have hl : (arrowsL xs).length = placeL xs xs.length := arrowsTo_len xs (Nat.le_refl _)
  obtain ⟨k, j, h1, h2, h3⟩ := arrows_split xs (Nat.le_refl xs.length) (j := i) (by omega)
  have hg := arrowsTo_get xs h1 (Nat.le_refl _) h2
  obtain ⟨n, hn, _, h4, _⟩ := face_at h.ok h1 h2
  subst h3
  have h9 : (arrowsTo xs xs.length)[placeL xs k + j]? = some ((arrowsL xs)[placeL xs k + j]) := List.getElem?_eq_getElem hi
  rw [hg] at h9
  have e := Option.some.inj h9
  refine ⟨k, n, h1, hn, ?_, ?_⟩
  · simp only [← e]
  · simp only [← e, h4]

theorem okStalks_of {xs : List (List Int)} {st : List Int} (h : okStalks xs st = true) : StOK xs.length st := by
  simp only [okStalks, Bool.and_eq_true, decide_eq_true_eq] at h
  exact ⟨h.1.1, fun x hx => by have := List.all_eq_true.1 h.1.2 x hx; simpa [okStalk] using this⟩

theorem s_ValidSheaf (s : Sheaf) (o : Enc.ok s) (hb : s.base.simplices.length ≤ 1048576) (hc : ∀ x ∈ s.base.simplices, x.length ≤ 1048576) (hm : s.maps.length ≤ 1048576) : Sat Tryz.prog 108 [(true, Enc.enc s)] (.one (.c (.bool (okSheaf s))), []) := by
  have hlm : (s.maps.map (Enc.enc (α := Matrix))).length = s.maps.length := by simp
  refine Sat.intro tok mixed Tryz.func108 rfl rfl ?_
  ((conv => whnf); repeat ((first | refine B0 ?_ | refine B1 ?_ | refine D1 ?_ | refine D2 ?_ | refine CallC.r ?_); conv => whnf))
  refine Pick.mk _ (s_ValidComplex s.base o.1 hb hc) ?_
  ((conv => whnf); repeat ((first | refine B0 ?_ | refine B1 ?_ | refine D1 ?_ | refine D2 ?_ | refine CallC.r ?_); conv => whnf))
  refine Br.mk (fun h1 => ?_) (fun h1 => ?_) <;> ((conv => whnf); repeat ((first | refine B0 ?_ | refine B1 ?_ | refine D1 ?_ | refine D2 ?_ | refine CallC.r ?_); conv => whnf))
  · exact ResOK.same (by simp only [Bool.not_eq_true'] at h1; simp [okSheaf, h1])
  simp only [Bool.not_eq_false'] at h1
  refine Pick.mk _ (s_impl_ValidPrime s.prime) ?_
  ((conv => whnf); repeat ((first | refine B0 ?_ | refine B1 ?_ | refine D1 ?_ | refine D2 ?_ | refine CallC.r ?_); conv => whnf))
  refine Br.mk (fun h2 => ?_) (fun h2 => ?_) <;> ((conv => whnf); repeat ((first | refine B0 ?_ | refine B1 ?_ | refine D1 ?_ | refine D2 ?_ | refine CallC.r ?_); conv => whnf))
  · exact ResOK.same (by simp only [Bool.not_eq_true'] at h2; simp [okSheaf, h1, h2])
  simp only [Bool.not_eq_false'] at h2
  refine Pick.mk _ (s_areStalks s.base s.stalks hb o.2.2.1.1) ?_
  ((conv => whnf); repeat ((first | refine B0 ?_ | refine B1 ?_ | refine D1 ?_ | refine D2 ?_ | refine CallC.r ?_); conv => whnf))
  refine Br.mk (fun h3 => ?_) (fun h3 => ?_) <;> ((conv => whnf); repeat ((first | refine B0 ?_ | refine B1 ?_ | refine D1 ?_ | refine D2 ?_ | refine CallC.r ?_); conv => whnf))
  · exact ResOK.same (by simp only [Bool.not_eq_true'] at h3; simp [okSheaf, h1, h2, h3])
  simp only [Bool.not_eq_false'] at h3
  have hst := okStalks_of h3
  have cx : CxOK s.base.simplices := ⟨h1⟩
  have hfin : okSheaf s = okMaps s := by simp [okSheaf, h1, h2, h3]
  have har : (arrowsL s.base.simplices).length ≤ 192 := by rw [arrowsL, arrowsTo_len _ (Nat.le_refl _)]; exact cx.place _ cx.len
  rw [hfin]
  refine Pick.mk _ (s_arrows s.base cx) ?_
  ((conv => whnf); repeat ((first | refine B0 ?_ | refine B1 ?_ | refine D1 ?_ | refine D2 ?_ | refine CallC.r ?_); conv => whnf))
  refine Pick.mk [1, 3, 27, 28, 29, 1000192] trivial ?_
  ((conv => whnf); repeat ((first | refine B0 ?_ | refine B1 ?_ | refine D1 ?_ | refine D2 ?_ | refine CallC.r ?_); conv => whnf))
  refine LoopL.over (fun (i : Nat) => [(29, .one (.c (.int .i64 ((i : Int)))))]) (fun (i : Nat) => []) (fun (i : Nat) => (arrowsL s.base.simplices).length - i) (fun (i : Nat) => i ≤ (arrowsL s.base.simplices).length ∧ ∀ (j : Nat) (h : j < (arrowsL s.base.simplices).length), j < i → mapStep s j (arrowsL s.base.simplices)[j] = true) ?_ 0 ⟨Nat.zero_le _, by intros; omega⟩
  intro i ⟨q2, q3⟩ ih
  ((conv => whnf); repeat ((first | refine B0 ?_ | refine B1 ?_ | refine D1 ?_ | refine D2 ?_ | refine CallC.r ?_); conv => whnf))
  refine Br.mk (fun h => ?_) (fun h => ?_) <;> ((conv => whnf); repeat ((first | refine B0 ?_ | refine B1 ?_ | refine D1 ?_ | refine D2 ?_ | refine CallC.r ?_); conv => whnf))
  · have h : i < (arrowsL s.base.simplices).length := by simp only [List.length_map, decide_eq_true_eq] at h; omega
    have no : mapStep s i (arrowsL s.base.simplices)[i] = false → okMaps s = false := fun e => by
      have : allIx (mapStep s) 0 (arrowsL s.base.simplices) = false := allIx_no (i := i) (List.getElem?_eq_getElem h) (by rw [Nat.zero_add]; exact e)
      rw [okMaps, this, Bool.false_and]
    obtain ⟨k, f, hk, hf, ek, ef⟩ := arrow_at cx h
    refine Pick.ix (h) ?_
    ((conv => whnf); repeat ((first | refine B0 ?_ | refine B1 ?_ | refine D1 ?_ | refine D2 ?_ | refine CallC.r ?_); conv => whnf))
    refine Br.mk (fun h4 => ?_) (fun h4 => ?_) <;> ((conv => whnf); repeat ((first | refine B0 ?_ | refine B1 ?_ | refine D1 ?_ | refine D2 ?_ | refine CallC.r ?_); conv => whnf))
    · have h4 : s.maps.length ≤ i := by simp only [List.length_map, decide_eq_true_eq] at h4; omega
      exact ResOK.same (by rw [no (by simp [mapStep, List.getElem?_eq_none h4])])
    have h4 : i < s.maps.length := by simp only [List.length_map, decide_eq_false_iff_not] at h4; omega
    refine Pick.ix (h4) ?_
    ((conv => whnf); repeat ((first | refine B0 ?_ | refine B1 ?_ | refine D1 ?_ | refine D2 ?_ | refine CallC.r ?_); conv => whnf))
    refine Pick.mk (Enc.enc (s.stalks.getD f 0)) ⟨by rw [ef]; omega, by rw [ef, Int.toNat_natCast, List.getElem?_map, List.getElem?_eq_getElem (by rw [hst.1]; exact hf), getD_at (by rw [hst.1]; exact hf)]; rfl⟩ ?_
    ((conv => whnf); repeat ((first | refine B0 ?_ | refine B1 ?_ | refine D1 ?_ | refine D2 ?_ | refine CallC.r ?_); conv => whnf))
    refine Pick.mk (Enc.enc (s.stalks.getD k 0)) ⟨by rw [ek]; omega, by rw [ek, Int.toNat_natCast, List.getElem?_map, List.getElem?_eq_getElem (by rw [hst.1]; exact hk), getD_at (by rw [hst.1]; exact hk)]; rfl⟩ ?_
    ((conv => whnf); repeat ((first | refine B0 ?_ | refine B1 ?_ | refine D1 ?_ | refine D2 ?_ | refine CallC.r ?_); conv => whnf))
    refine Pick.mk _ (s_isBetween s.maps[i] (o.2.2.2.2 _ (List.getElem_mem h4)) s.prime (s.stalks.getD f 0) (s.stalks.getD k 0)) ?_
    ((conv => whnf); repeat ((first | refine B0 ?_ | refine B1 ?_ | refine D1 ?_ | refine D2 ?_ | refine CallC.r ?_); conv => whnf))
    have hms : mapStep s i (arrowsL s.base.simplices)[i] = okBetween s.maps[i] s.prime (s.stalks.getD f 0) (s.stalks.getD k 0) := by
      simp only [mapStep, List.getElem?_eq_getElem h4, ek, ef, Int.toNat_natCast]
    refine Br.mk (fun h5 => ?_) (fun h5 => ?_) <;> ((conv => whnf); repeat ((first | refine B0 ?_ | refine B1 ?_ | refine D1 ?_ | refine D2 ?_ | refine CallC.r ?_); conv => whnf))
    · exact ResOK.same (by rw [no (by rw [hms]; simpa using h5)])
    · refine Pick.at64 (z := (i + 1 : Nat)) (by simp) (by omega) ?_
      ((conv => whnf); repeat ((first | refine B0 ?_ | refine B1 ?_ | refine D1 ?_ | refine D2 ?_ | refine CallC.r ?_); conv => whnf))
      refine ih (i + 1) ⟨by omega, fun j hj hlt => ?_⟩ (by omega)
      by_cases e2 : j = i
      · subst e2; rw [hms]; simpa using h5
      · exact q3 j hj (by omega)
  · have h : i = (arrowsL s.base.simplices).length := by simp only [List.length_map, decide_eq_false_iff_not] at h; omega
    have : allIx (mapStep s) 0 (arrowsL s.base.simplices) = true := allIx_iff.2 fun j hj => q3 j hj (by omega)
    refine ResOK.same ?_
    rw [okMaps, this, Bool.true_and]
    by_cases e : (arrowsL s.base.simplices).length = s.maps.length <;> simp [e] <;> omega

theorem s_firstMap (s : Sheaf) (cx : CxOK s.base.simplices) (k : Nat) (hk : k ≤ s.base.simplices.length) : Sat Tryz.prog 212 [(true, Enc.enc s), (false, [.int .i64 k])] (.one (.c (.int .i64 (placeL s.base.simplices k))), []) := by
  have hl48 := cx.len
  have hlx : (s.base.simplices.map (Enc.enc (α := List Int))).length = s.base.simplices.length := by simp
  refine Sat.intro tok mixed Tryz.func212 rfl rfl ?_
  ((conv => whnf); repeat ((first | refine B0 ?_ | refine B1 ?_ | refine D1 ?_ | refine D2 ?_ | refine CallC.r ?_); conv => whnf))
  refine Side.mk (by rw [hlx]; omega) ?_
  ((conv => whnf); repeat ((first | refine B0 ?_ | refine B1 ?_ | refine D1 ?_ | refine D2 ?_ | refine CallC.r ?_); conv => whnf))
  rw [show ((s.base.simplices.map (Enc.enc (α := List Int))).take (k : Int).toNat).drop 0 = (s.base.simplices.take k).map Enc.enc by simp [List.map_take]]
  refine Pick.mk [5, 12, 13, 14] trivial ?_
  ((conv => whnf); repeat ((first | refine B0 ?_ | refine B1 ?_ | refine D1 ?_ | refine D2 ?_ | refine CallC.r ?_); conv => whnf))
  refine LoopL.over (fun (i : Nat) => [(5, .one (.c (.int .i64 ((placeL s.base.simplices i : Int))))), (14, .one (.c (.int .i64 ((i : Int)))))]) (fun (i : Nat) => []) (fun (i : Nat) => k - i) (fun (i : Nat) => i ≤ k) ?_ 0 (Nat.zero_le _)
  intro i hi ih
  have hpl := cx.place i (by omega)
  have hlt : (s.base.simplices.take k).length = k := by rw [List.length_take]; omega
  ((conv => whnf); repeat ((first | refine B0 ?_ | refine B1 ?_ | refine D1 ?_ | refine D2 ?_ | refine CallC.r ?_); conv => whnf))
  refine Br.mk (fun h => ?_) (fun h => ?_) <;> ((conv => whnf); repeat ((first | refine B0 ?_ | refine B1 ?_ | refine D1 ?_ | refine D2 ?_ | refine CallC.r ?_); conv => whnf))
  · have h : i < k := by simp only [List.length_map, hlt, decide_eq_true_eq] at h; omega
    have hx : i < s.base.simplices.length := by omega
    have hpl2 := cx.place (i + 1) (by omega)
    refine Pick.mk (Enc.enc s.base.simplices[i]) ⟨by omega, by rw [Int.toNat_natCast, List.getElem?_map, List.getElem?_take, if_pos h, List.getElem?_eq_getElem hx]; rfl⟩ ?_
    ((conv => whnf); repeat ((first | refine B0 ?_ | refine B1 ?_ | refine D1 ?_ | refine D2 ?_ | refine CallC.r ?_); conv => whnf))
    have hps := placeL_succ hx
    rw [facesL_len] at hps
    have hn := ih (i + 1) (by omega) (by omega)
    refine Br.mk (fun h5 => ?_) (fun h5 => ?_) <;> ((conv => whnf); repeat ((first | refine B0 ?_ | refine B1 ?_ | refine D1 ?_ | refine D2 ?_ | refine CallC.r ?_); conv => whnf))
    · rw [if_pos (by simp at h5; omega)] at hps
      refine Pick.mk _ (s_sizeInt s.base.simplices[i]) ?_
      ((conv => whnf); repeat ((first | refine B0 ?_ | refine B1 ?_ | refine D1 ?_ | refine D2 ?_ | refine CallC.r ?_); conv => whnf))
      refine Pick.at64 (z := ((placeL s.base.simplices (i + 1) : Nat) : Int)) (by rw [hps]; simp) (by omega) ?_
      ((conv => whnf); repeat ((first | refine B0 ?_ | refine B1 ?_ | refine D1 ?_ | refine D2 ?_ | refine CallC.r ?_); conv => whnf))
      refine Pick.at64 (z := (i + 1 : Nat)) (by simp) (by omega) ?_
      ((conv => whnf); repeat ((first | refine B0 ?_ | refine B1 ?_ | refine D1 ?_ | refine D2 ?_ | refine CallC.r ?_); conv => whnf))
      exact hn
    · rw [if_neg (by simp at h5; omega), Nat.add_zero] at hps
      refine Pick.at64 (z := (i + 1 : Nat)) (by simp) (by omega) ?_
      ((conv => whnf); repeat ((first | refine B0 ?_ | refine B1 ?_ | refine D1 ?_ | refine D2 ?_ | refine CallC.r ?_); conv => whnf))
      rw [hps] at hn
      exact hn
  · have h : i = k := by simp only [List.length_map, hlt, decide_eq_false_iff_not] at h; omega
    subst h
    exact ResOK.same rfl

theorem s_direct (s : Sheaf) (h : okSheaf s = true) (k i : Nat) (hk : k < s.base.simplices.length) (hi : i < (faceIx s.base.simplices k).length) : Sat Tryz.prog 168 [(true, Enc.enc s), (false, [.int .i64 k]), (false, [.int .i64 i])] (.agg ((Enc.enc (mapAt s k i)).map .c), []) := by
  have cx : CxOK s.base.simplices := ⟨(okSheaf_of h).1⟩
  obtain ⟨hm, e, _⟩ := okMaps_at h hk hi
  have hpl := cx.place k (by have := cx.len; omega)
  have hfl := cx.faces _ (List.getElem_mem hk)
  rw [← faceIx_len hk] at hfl
  refine Sat.intro tok mixed Tryz.func168 rfl rfl ?_
  ((conv => whnf); repeat ((first | refine B0 ?_ | refine B1 ?_ | refine D1 ?_ | refine D2 ?_ | refine CallC.r ?_); conv => whnf))
  refine Pick.mk _ (s_firstMap s cx k (by omega)) ?_
  ((conv => whnf); repeat ((first | refine B0 ?_ | refine B1 ?_ | refine D1 ?_ | refine D2 ?_ | refine CallC.r ?_); conv => whnf))
  refine Pick.at64 (z := ((placeL s.base.simplices k + i : Nat) : Int)) (by simp) (by omega) ?_
  ((conv => whnf); repeat ((first | refine B0 ?_ | refine B1 ?_ | refine D1 ?_ | refine D2 ?_ | refine CallC.r ?_); conv => whnf))
  refine Pick.ix (hm) ?_
  ((conv => whnf); repeat ((first | refine B0 ?_ | refine B1 ?_ | refine D1 ?_ | refine D2 ?_ | refine CallC.r ?_); conv => whnf))
  exact ResOK.same (by rw [e]; rfl)

theorem MatOK.encok2 {m : Matrix} {r c : Nat} (h : MatOK m r c) : Enc.ok m := by
  have h1 := h.p; have h2 := h.rb; have h3 := h.cb; have h4 := h.rows; have h5 := h.columns; have h6 := h.len
  have h7 : r * c ≤ 4096 * 4096 := Nat.mul_le_mul h2 h3
  refine ⟨⟨by omega, by omega⟩, ⟨by omega, by omega⟩, ⟨by omega, by omega⟩, ⟨by rw [h6]; simp only [maxLen]; omega, fun x hx => ?_⟩⟩
  have := h.el x hx
  exact ⟨by omega, by omega⟩
theorem faceN_at {s : Sheaf} (h : okSheaf s = true) {k i : Nat} (hk : k < s.base.simplices.length) (hi : i < (faceIx s.base.simplices k).length) : ∃ hn : faceN s k i < s.base.simplices.length, (faceIx s.base.simplices k).getD i 0 = (faceN s k i : Int) ∧ s.base.simplices[faceN s k i].length + 1 = s.base.simplices[k].length := by
  obtain ⟨n, hn, _, h2, h3⟩ := face_at (okSheaf_of h).1 hk hi
  have e : faceN s k i = n := by unfold faceN; rw [h2]; rfl
  rw [e]
  exact ⟨hn, h2, h3⟩
theorem lenAt_eq {s : Sheaf} {k : Nat} (hk : k < s.base.simplices.length) : lenAt s k = s.base.simplices[k].length := by simp [lenAt, hk]
theorem faceIx_len3 {xs : List (List Int)} {k : Nat} (hk : k < xs.length) (h : 2 ≤ xs[k].length) : (faceIx xs k).length = xs[k].length := by
  rw [faceIx_len hk, facesL_len, if_pos (by omega)]
/-- The two ways round a square can be gone. -/
theorem way_ok {s : Sheaf} (h : okSheaf s = true) {k i q : Nat} (hk : k < s.base.simplices.length) (h3 : 3 ≤ s.base.simplices[k].length) (hi : i < s.base.simplices[k].length) (hq : q + 1 < s.base.simplices[k].length) :
    ∃ (hn : faceN s k i < s.base.simplices.length) (r c d : Nat), (faceIx s.base.simplices k).getD i 0 = (faceN s k i : Int) ∧ i < (faceIx s.base.simplices k).length ∧ q < (faceIx s.base.simplices (faceN s k i)).length ∧ MatOK (mapAt s k i) r c ∧ MatOK (mapAt s (faceN s k i) q) c d ∧ (mapAt s k i).prime = (mapAt s (faceN s k i) q).prime := by
  have hi2 : i < (faceIx s.base.simplices k).length := by rw [faceIx_len3 hk (by omega)]; exact hi
  obtain ⟨hn, h1, h2⟩ := faceN_at h hk hi2
  have hq2 : q < (faceIx s.base.simplices (faceN s k i)).length := by rw [faceIx_len3 hn (by omega)]; omega
  obtain ⟨_, _, m1, p1, _, _⟩ := okMaps_at h hk hi2
  obtain ⟨_, _, m2, p2, _, _⟩ := okMaps_at h hn hq2
  exact ⟨hn, _, _, _, h1, hi2, hq2, m1, m2, by rw [p1, p2]⟩
def resW (s : Sheaf) : Int × Int × Bool := match wrong s with
  | none => (0, 0, false)
  | some (k, i, j) => ((k : Int), (faceIx s.base.simplices (faceN s k i)).getD (j - 1) 0, true)
theorem wrJ_lt {s : Sheaf} {k i j : Nat} (h : j ≤ i) : wrJ s k i j = none := by unfold wrJ; rw [if_neg (by omega)]
theorem wrK_lt {s : Sheaf} {k : Nat} (h : lenAt s k < 3) : wrK s k = none := fsr_none fun i _ => fsr_none fun j _ => by unfold wrJ; rw [if_neg (by omega)]
theorem getD_mem {α : Type} [Enc α] {xs : List α} {i : Nat} (h : i < xs.length) (d y : α) (e : xs.getD i d = y) : (xs.map Enc.enc)[i]? = some (Enc.enc y) := by
  rw [getD_at h] at e
  rw [List.getElem?_map, List.getElem?_eq_getElem h, e]; rfl

theorem s_wrongSquare (s : Sheaf) (h : okSheaf s = true) : Sat Tryz.prog 109 [(true, Enc.enc s)] (.tup [(false, [.c (.int .i64 (resW s).1)]), (false, [.c (.int .i64 (resW s).2.1)]), (false, [.c (.bool (resW s).2.2)])], []) := by
  have cx : CxOK s.base.simplices := ⟨(okSheaf_of h).1⟩
  have hl48 := cx.len
  refine Sat.intro tok mixed Tryz.func109 rfl rfl ?_
  ((conv => whnf); repeat ((first | refine B0 ?_ | refine B1 ?_ | refine D1 ?_ | refine D2 ?_ | refine CallC.r ?_); conv => whnf))
  refine Pick.mk [1, 15, 16, 17] trivial ?_
  ((conv => whnf); repeat ((first | refine B0 ?_ | refine B1 ?_ | refine D1 ?_ | refine D2 ?_ | refine CallC.r ?_); conv => whnf))
  refine LoopL.over (fun (k : Nat) => [(17, .one (.c (.int .i64 ((k : Int)))))]) (fun (k : Nat) => []) (fun (k : Nat) => s.base.simplices.length - k) (fun (k : Nat) => k ≤ s.base.simplices.length ∧ ∀ k', k' < k → wrK s k' = none) ?_ 0 ⟨Nat.zero_le _, by intros; omega⟩
  intro k ⟨k1, k2⟩ ihk
  ((conv => whnf); repeat ((first | refine B0 ?_ | refine B1 ?_ | refine D1 ?_ | refine D2 ?_ | refine CallC.r ?_); conv => whnf))
  refine Br.mk (fun hk => ?_) (fun hk => ?_) <;> ((conv => whnf); repeat ((first | refine B0 ?_ | refine B1 ?_ | refine D1 ?_ | refine D2 ?_ | refine CallC.r ?_); conv => whnf))
  · have hk : k < s.base.simplices.length := by simp only [List.length_map, decide_eq_true_eq] at hk; omega
    have hln := lenAt_eq hk
    have hsm := cx.each _ (List.getElem_mem hk)
    refine Pick.ix (hk) ?_
    ((conv => whnf); repeat ((first | refine B0 ?_ | refine B1 ?_ | refine D1 ?_ | refine D2 ?_ | refine CallC.r ?_); conv => whnf))
    have nextK : wrK s k = none → _ := fun e => ihk (k + 1) ⟨by omega, fun k' hk' => by
      by_cases e2 : k' = k
      · subst e2; exact e
      · exact k2 k' (by omega)⟩ (by omega)
    refine Br.mk (fun h3 => ?_) (fun h3 => ?_) <;> ((conv => whnf); repeat ((first | refine B0 ?_ | refine B1 ?_ | refine D1 ?_ | refine D2 ?_ | refine CallC.r ?_); conv => whnf))
    · have h3 : s.base.simplices[k].length < 3 := by simp only [List.length_map, decide_eq_true_eq] at h3; omega
      refine Pick.at64 (z := (k + 1 : Nat)) (by simp) (by omega) ?_
      ((conv => whnf); repeat ((first | refine B0 ?_ | refine B1 ?_ | refine D1 ?_ | refine D2 ?_ | refine CallC.r ?_); conv => whnf))
      exact nextK (wrK_lt (by omega))
    have h3 : 3 ≤ s.base.simplices[k].length := by simp only [List.length_map, decide_eq_false_iff_not] at h3; omega
    refine Pick.mk _ (s_faceIndices s.base cx k hk) ?_
    ((conv => whnf); repeat ((first | refine B0 ?_ | refine B1 ?_ | refine D1 ?_ | refine D2 ?_ | refine CallC.r ?_); conv => whnf))
    refine Pick.mk [1, 6, 7, 8, 15, 16, 17, 31, 32, 1000512] trivial ?_
    ((conv => whnf); repeat ((first | refine B0 ?_ | refine B1 ?_ | refine D1 ?_ | refine D2 ?_ | refine CallC.r ?_); conv => whnf))
    refine LoopL.over (fun (i : Nat) => [(32, .one (.c (.int .i64 ((i : Int)))))]) (fun (i : Nat) => []) (fun (i : Nat) => s.base.simplices[k].length - i) (fun (i : Nat) => i ≤ s.base.simplices[k].length ∧ ∀ i', i' < i → wrI s k i' = none) ?_ 0 ⟨Nat.zero_le _, by intros; omega⟩
    intro i ⟨i1, i2⟩ ihi
    ((conv => whnf); repeat ((first | refine B0 ?_ | refine B1 ?_ | refine D1 ?_ | refine D2 ?_ | refine CallC.r ?_); conv => whnf))
    refine Br.mk (fun hi => ?_) (fun hi => ?_) <;> ((conv => whnf); repeat ((first | refine B0 ?_ | refine B1 ?_ | refine D1 ?_ | refine D2 ?_ | refine CallC.r ?_); conv => whnf))
    · have hi : i < s.base.simplices[k].length := by simp only [List.length_map, decide_eq_true_eq] at hi; omega
      refine Pick.at64 (z := (i + 1 : Nat)) (by simp) (by omega) ?_
      ((conv => whnf); repeat ((first | refine B0 ?_ | refine B1 ?_ | refine D1 ?_ | refine D2 ?_ | refine CallC.r ?_); conv => whnf))
      have nextI : wrI s k i = none → _ := fun e => ihi (i + 1) ⟨by omega, fun i' hi' => by
        by_cases e2 : i' = i
        · subst e2; exact e
        · exact i2 i' (by omega)⟩ (by omega)
      refine Pick.mk [1, 6, 7, 8, 9, 10, 15, 16, 17, 31, 32] trivial ?_
      ((conv => whnf); repeat ((first | refine B0 ?_ | refine B1 ?_ | refine D1 ?_ | refine D2 ?_ | refine CallC.r ?_); conv => whnf))
      refine LoopL.over (fun (j : Nat) => [(10, .one (.c (.int .i64 ((j : Int)))))]) (fun (j : Nat) => []) (fun (j : Nat) => s.base.simplices[k].length + 1 - j) (fun (j : Nat) => i + 1 ≤ j ∧ j ≤ s.base.simplices[k].length ∧ ∀ j', j' < j → wrJ s k i j' = none) ?_ (i + 1) ⟨Nat.le_refl _, by omega, fun j' hj' => wrJ_lt (by omega)⟩
      intro j ⟨j0, j1, j2⟩ ihj
      ((conv => whnf); repeat ((first | refine B0 ?_ | refine B1 ?_ | refine D1 ?_ | refine D2 ?_ | refine CallC.r ?_); conv => whnf))
      refine Br.mk (fun hj => ?_) (fun hj => ?_) <;> ((conv => whnf); repeat ((first | refine B0 ?_ | refine B1 ?_ | refine D1 ?_ | refine D2 ?_ | refine CallC.r ?_); conv => whnf))
      · have hj : j < s.base.simplices[k].length := by simp only [List.length_map, decide_eq_true_eq] at hj; omega
        obtain ⟨na, ra, ca, da, ea, ia, qa, ma, mb, pa⟩ := way_ok h hk h3 hi (q := j - 1) (by omega)
        obtain ⟨nb, rb, cb, db, eb, ib, qb, mc, md, pb⟩ := way_ok h hk h3 hj (q := i) (by omega)
        have wa : wayAt s k i j = mulM (mapAt s k i) (mapAt s (faceN s k i) (j - 1)) := by unfold wayAt; rw [if_pos (by omega)]
        have wb : wayAt s k j i = mulM (mapAt s k j) (mapAt s (faceN s k j) i) := by unfold wayAt; rw [if_neg (by omega)]
        have hwj : wrJ s k i j = if badAt s k i j = true then some (k, i, j) else none := by
          unfold wrJ; rw [hln]
          by_cases e : badAt s k i j = true
          · rw [if_pos ⟨by omega, h3, e⟩, if_pos e]
          · rw [if_neg (fun q => e q.2.2), if_neg e]
        refine Pick.mk _ (s_direct s h k i hk ia) ?_
        ((conv => whnf); repeat ((first | refine B0 ?_ | refine B1 ?_ | refine D1 ?_ | refine D2 ?_ | refine CallC.r ?_); conv => whnf))
        refine Pick.mk (Enc.enc ((faceN s k i : Nat) : Int)) ⟨by omega, by rw [Int.toNat_natCast]; exact getD_mem ia 0 _ ea⟩ ?_
        ((conv => whnf); repeat ((first | refine B0 ?_ | refine B1 ?_ | refine D1 ?_ | refine D2 ?_ | refine CallC.r ?_); conv => whnf))
        refine Pick.at64 (z := ((j - 1 : Nat) : Int)) (by omega) (by omega) ?_
        ((conv => whnf); repeat ((first | refine B0 ?_ | refine B1 ?_ | refine D1 ?_ | refine D2 ?_ | refine CallC.r ?_); conv => whnf))
        refine Pick.mk _ (s_direct s h (faceN s k i) (j - 1) na qa) ?_
        ((conv => whnf); repeat ((first | refine B0 ?_ | refine B1 ?_ | refine D1 ?_ | refine D2 ?_ | refine CallC.r ?_); conv => whnf))
        refine Pick.mk _ (s_product (mapAt s k i) (mapAt s (faceN s k i) (j - 1)) ma mb pa) ?_
        ((conv => whnf); repeat ((first | refine B0 ?_ | refine B1 ?_ | refine D1 ?_ | refine D2 ?_ | refine CallC.r ?_); conv => whnf))
        refine Pick.mk _ (s_direct s h k j hk ib) ?_
        ((conv => whnf); repeat ((first | refine B0 ?_ | refine B1 ?_ | refine D1 ?_ | refine D2 ?_ | refine CallC.r ?_); conv => whnf))
        refine Pick.mk (Enc.enc ((faceN s k j : Nat) : Int)) ⟨by omega, by rw [Int.toNat_natCast]; exact getD_mem ib 0 _ eb⟩ ?_
        ((conv => whnf); repeat ((first | refine B0 ?_ | refine B1 ?_ | refine D1 ?_ | refine D2 ?_ | refine CallC.r ?_); conv => whnf))
        refine Pick.mk _ (s_direct s h (faceN s k j) i nb qb) ?_
        ((conv => whnf); repeat ((first | refine B0 ?_ | refine B1 ?_ | refine D1 ?_ | refine D2 ?_ | refine CallC.r ?_); conv => whnf))
        refine Pick.mk _ (s_product (mapAt s k j) (mapAt s (faceN s k j) i) mc md pb) ?_
        ((conv => whnf); repeat ((first | refine B0 ?_ | refine B1 ?_ | refine D1 ?_ | refine D2 ?_ | refine CallC.r ?_); conv => whnf))
        refine Pick.mk _ (s_impl_SameMatrix (mulM (mapAt s k i) (mapAt s (faceN s k i) (j - 1))) (mulM (mapAt s k j) (mapAt s (faceN s k j) i)) (mul_ok ma mb).encok2) ?_
        ((conv => whnf); repeat ((first | refine B0 ?_ | refine B1 ?_ | refine D1 ?_ | refine D2 ?_ | refine CallC.r ?_); conv => whnf))
        have hbad : badAt s k i j = !sameMatrix (mulM (mapAt s k i) (mapAt s (faceN s k i) (j - 1))) (mulM (mapAt s k j) (mapAt s (faceN s k j) i)) := by unfold badAt; rw [wa, wb]
        rw [← hbad]
        refine Br.mk (fun hb => ?_) (fun hb => ?_) <;> ((conv => whnf); repeat ((first | refine B0 ?_ | refine B1 ?_ | refine D1 ?_ | refine D2 ?_ | refine CallC.r ?_); conv => whnf))
        · rw [if_pos hb] at hwj
          have hw : wrong s = some (k, i, j) := fsr_some hk k2 (fsr_some (by rw [hln]; exact hi) i2 (fsr_some (by rw [hln]; exact hj) j2 hwj))
          refine Pick.mk (Enc.enc ((faceN s k i : Nat) : Int)) ⟨by omega, by rw [Int.toNat_natCast]; exact getD_mem ia 0 _ ea⟩ ?_
          ((conv => whnf); repeat ((first | refine B0 ?_ | refine B1 ?_ | refine D1 ?_ | refine D2 ?_ | refine CallC.r ?_); conv => whnf))
          refine Pick.mk _ (s_faceIndices s.base cx (faceN s k i) na) ?_
          ((conv => whnf); repeat ((first | refine B0 ?_ | refine B1 ?_ | refine D1 ?_ | refine D2 ?_ | refine CallC.r ?_); conv => whnf))
          refine Pick.at64 (z := ((j - 1 : Nat) : Int)) (by omega) (by omega) ?_
          ((conv => whnf); repeat ((first | refine B0 ?_ | refine B1 ?_ | refine D1 ?_ | refine D2 ?_ | refine CallC.r ?_); conv => whnf))
          refine Pick.mk (Enc.enc ((faceIx s.base.simplices (faceN s k i)).getD (j - 1) 0)) ⟨by omega, by rw [Int.toNat_natCast]; exact getD_mem qa 0 _ rfl⟩ ?_
          ((conv => whnf); repeat ((first | refine B0 ?_ | refine B1 ?_ | refine D1 ?_ | refine D2 ?_ | refine CallC.r ?_); conv => whnf))
          exact ResOK.same (by rw [resW, hw])
        · rw [if_neg (by rw [hb]; decide)] at hwj
          refine Pick.at64 (z := (j + 1 : Nat)) (by simp) (by omega) ?_
          ((conv => whnf); repeat ((first | refine B0 ?_ | refine B1 ?_ | refine D1 ?_ | refine D2 ?_ | refine CallC.r ?_); conv => whnf))
          refine ihj (j + 1) ⟨by omega, by omega, fun j' hj' => ?_⟩ (by omega)
          by_cases e2 : j' = j
          · subst e2; exact hwj
          · exact j2 j' (by omega)
      · have hj : j = s.base.simplices[k].length := by simp only [List.length_map, decide_eq_false_iff_not] at hj; omega
        subst hj
        refine Pick.at64 (z := (i + 1 : Nat)) (by simp) (by omega) ?_
        ((conv => whnf); repeat ((first | refine B0 ?_ | refine B1 ?_ | refine D1 ?_ | refine D2 ?_ | refine CallC.r ?_); conv => whnf))
        exact nextI (fsr_none fun j' hj' => j2 j' (by rw [hln] at hj'; exact hj'))
    · have hi : i = s.base.simplices[k].length := by simp only [List.length_map, decide_eq_false_iff_not] at hi; omega
      subst hi
      refine Pick.at64 (z := (k + 1 : Nat)) (by simp) (by omega) ?_
      ((conv => whnf); repeat ((first | refine B0 ?_ | refine B1 ?_ | refine D1 ?_ | refine D2 ?_ | refine CallC.r ?_); conv => whnf))
      exact nextK (fsr_none fun i' hi' => i2 i' (by rw [hln] at hi'; exact hi'))
  · have hk : k = s.base.simplices.length := by simp only [List.length_map, decide_eq_false_iff_not] at hk; omega
    subst hk
    have hw : wrong s = none := fsr_none k2
    exact ResOK.same (by rw [resW, hw])

theorem s_IsSheaf (s : Sheaf) (o : Enc.ok s) (hb : s.base.simplices.length ≤ 1048576) (hc : ∀ x ∈ s.base.simplices, x.length ≤ 1048576) (hm : s.maps.length ≤ 1048576) : Sat Tryz.prog 50 [(true, Enc.enc s)] (.one (.c (.bool (isSheaf s))), []) := by
  refine Sat.intro tok mixed Tryz.func50 rfl rfl ?_
  ((conv => whnf); repeat ((first | refine B0 ?_ | refine B1 ?_ | refine D1 ?_ | refine D2 ?_ | refine CallC.r ?_); conv => whnf))
  refine Pick.mk _ (s_ValidSheaf s o hb hc hm) ?_
  ((conv => whnf); repeat ((first | refine B0 ?_ | refine B1 ?_ | refine D1 ?_ | refine D2 ?_ | refine CallC.r ?_); conv => whnf))
  refine Br.mk (fun h => ?_) (fun h => ?_) <;> ((conv => whnf); repeat ((first | refine B0 ?_ | refine B1 ?_ | refine D1 ?_ | refine D2 ?_ | refine CallC.r ?_); conv => whnf))
  · exact ResOK.same (by simp only [Bool.not_eq_true'] at h; rw [isSheaf, h, Bool.false_and])
  simp only [Bool.not_eq_false'] at h
  refine Pick.mk _ (s_wrongSquare s h) ?_
  ((conv => whnf); repeat ((first | refine B0 ?_ | refine B1 ?_ | refine D1 ?_ | refine D2 ?_ | refine CallC.r ?_); conv => whnf))
  refine ResOK.same ?_
  have e : isSheaf s = !(resW s).2.2 := by
    rw [isSheaf, h, Bool.true_and, resW]
    cases wrong s with
    | none => rfl
    | some p => rfl
  rw [e]
end Go.Proofs.YtlnjgoeicanehaaGreat.Pi
