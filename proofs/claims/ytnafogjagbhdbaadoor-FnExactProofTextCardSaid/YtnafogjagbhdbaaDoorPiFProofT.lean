/- The text of a proof, the program and the reference. No statement of the seat is proved here. -/
import Derived.Test.YtnafogjagbhdbaaDoorPiFMatT
import Derived.Test.YtnafogjagbhdbaaDoorPiFStated
import Derived.Test.YtnafogjagbhdbaaDoorPiF01
namespace Go.Proofs.YtnafogjagbhdbaaDoor.Pi
open Go
set_option maxRecDepth 10000
set_option maxHeartbeats 3200000
set_option linter.unusedVariables false
set_option linter.unusedSimpArgs false

def scB : ByteArray := ⟨#[59]⟩
def semiL (x : List Int) : ByteArray := scB ++ listB x
def headP (q : Proof) : ByteArray := (nameOf q.kind ++ bsp) ++ matB q.claim
def bodyP (q : Proof) : ByteArray := accW semiL (headP q) q.vectors q.vectors.length
def textP (q : Proof) : ByteArray := if okProof q = true then bodyP q else es
theorem nameOf_size (k : Int) : (nameOf k).size ≤ 9 := by
  unfold nameOf
  split <;> decide
theorem td {α : Type} {xs : List α} (k : Nat) {v : α} (h : v ∈ xs) : v ∈ xs.take k ∨ v ∈ xs.drop k := by
  rw [← List.take_append_drop k xs] at h
  exact List.mem_append.1 h
theorem vec_small {p n : Int} {xs : List (List Int)} (hp : p ≤ 251) (hn : n ≤ 32) (h : okVecs p n xs = true) : ∀ v ∈ xs, SmallL v := fun v hv => by
  have h1 := List.all_eq_true.1 h v hv
  simp only [okVec, Bool.and_eq_true, beq_iff_eq] at h1
  refine ⟨by omega, fun x hx => ?_⟩
  have h2 := List.all_eq_true.1 h1.2 x hx
  simp only [okEl, Bool.and_eq_true, decide_eq_true_eq] at h2
  omega
theorem proof_parts {q : Proof} (h : okProof q = true) : okMatrix q.claim = true ∧ q.vectors.length ≤ 64 ∧ ∀ v ∈ q.vectors, SmallL v := by
  simp only [okProof, Bool.and_eq_true, decide_eq_true_eq] at h
  obtain ⟨h1, h2, h3⟩ := h
  obtain ⟨hp, hr, hc⟩ := okMatrix_of h1
  refine ⟨h1, by omega, fun v hv => ?_⟩
  unfold stated at h3
  have r : ∀ xs : List (List Int), okVecs q.claim.prime q.claim.rows xs = true → v ∈ xs → SmallL v := fun xs h hv => vec_small (by omega) (by omega) h v hv
  have c : ∀ xs : List (List Int), okVecs q.claim.prime q.claim.columns xs = true → v ∈ xs → SmallL v := fun xs h hv => vec_small (by omega) (by omega) h v hv
  repeat' split at h3
  all_goals first
    | (cases h3; done)
    | skip
  all_goals simp only [Bool.and_eq_true] at h3
  · exact (td 1 hv).elim (r _ h3.2.1) (c _ h3.2.2)
  · exact r _ h3.2 hv
  · exact c _ h3.2 hv
  · exact r _ h3.2 hv
  · exact (td _ hv).elim (c _ h3.2.1) (r _ h3.2.2)
  · exact (td _ hv).elim (r _ h3.2.1) (c _ h3.2.2)
theorem semiL_size {x : List Int} (h : SmallL x) : (semiL x).size ≤ 1281 := by
  have := listB_size h
  have e : scB.size = 1 := rfl
  rw [semiL, ByteArray.size_append, e]; omega
theorem headP_size {q : Proof} (h : okMatrix q.claim = true) : (headP q).size ≤ 41061 := by
  have h1 := matB_size h
  have h2 := nameOf_size q.kind
  have e : bsp.size = 1 := rfl
  simp only [headP, ByteArray.size_append, e]; omega
theorem body_join (q : Proof) : joinB (headP q :: q.vectors.map listB) scB = bodyP q := by
  rw [join_acc, accW_map]; rfl
theorem s_impl_ProofText (q : Proof) (o : Enc.ok q) : Sat Tryd.prog 7 [(true, Enc.enc q)] (.one (.c (.str (textP q))), []) := by
  have hmx : IntKind.i64.max = 9223372036854775807 := rfl
  have e32 : (⟨#[32]⟩ : ByteArray).size = 1 := rfl
  refine Sat.intro tok mixed Tryd.func7 rfl rfl ?_
  ((conv => whnf); repeat ((first | refine B0 ?_ | refine B1 ?_ | refine D1 ?_ | refine D2 ?_ | refine CallC.r ?_); conv => whnf))
  refine Pick.mk _ (s_impl_ValidProof q o) ?_
  ((conv => whnf); repeat ((first | refine B0 ?_ | refine B1 ?_ | refine D1 ?_ | refine D2 ?_ | refine CallC.r ?_); conv => whnf))
  refine Br.mk (fun hk => ?_) (fun hk => ?_) <;> ((conv => whnf); repeat ((first | refine B0 ?_ | refine B1 ?_ | refine D1 ?_ | refine D2 ?_ | refine CallC.r ?_); conv => whnf))
  · have hk : okProof q = false := by simpa using hk
    exact ResOK.same (by rw [textP, if_neg (by rw [hk]; decide)]; rfl)
  have hk : okProof q = true := by simpa using hk
  obtain ⟨hm, h64, hv⟩ := proof_parts hk
  have hns := nameOf_size q.kind
  have hms := matB_size hm
  have hhs := headP_size hm
  obtain ⟨o1, o2, o3⟩ := o
  refine Pick.mk _ (s_impl_ProofName q.kind o1.1 o1.2) ?_
  ((conv => whnf); repeat ((first | refine B0 ?_ | refine B1 ?_ | refine D1 ?_ | refine D2 ?_ | refine CallC.r ?_); conv => whnf))
  refine Side.mk (by simp only [ByteArray.size_append, e32, hmx]; omega) ?_
  ((conv => whnf); repeat ((first | refine B0 ?_ | refine B1 ?_ | refine D1 ?_ | refine D2 ?_ | refine CallC.r ?_); conv => whnf))
  refine Pick.mk _ (s_MatrixText q.claim o2 hm) ?_
  ((conv => whnf); repeat ((first | refine B0 ?_ | refine B1 ?_ | refine D1 ?_ | refine D2 ?_ | refine CallC.r ?_); conv => whnf))
  refine Side.mk (by simp only [ByteArray.size_append, e32, hmx]; omega) ?_
  ((conv => whnf); repeat ((first | refine B0 ?_ | refine B1 ?_ | refine D1 ?_ | refine D2 ?_ | refine CallC.r ?_); conv => whnf))
  refine Pick.mk [3, 19, 20, 21] trivial ?_
  ((conv => whnf); repeat ((first | refine B0 ?_ | refine B1 ?_ | refine D1 ?_ | refine D2 ?_ | refine CallC.r ?_); conv => whnf))
  refine LoopL.over (fun (i : Nat) => [(21, .one (.c (.int .i64 ((i : Int)))))]) (fun (i : Nat) => [(192, .arr 1 (List.map Enc.enc (headP q :: (q.vectors.take i).map listB)))]) (fun (i : Nat) => q.vectors.length - i) (fun (i : Nat) => i ≤ q.vectors.length) ?_ 0 (Nat.zero_le _)
  intro i g1 ih
  ((conv => whnf); repeat ((first | refine B0 ?_ | refine B1 ?_ | refine D1 ?_ | refine D2 ?_ | refine CallC.r ?_); conv => whnf))
  refine Br.mk (fun h => ?_) (fun h => ?_) <;> ((conv => whnf); repeat ((first | refine B0 ?_ | refine B1 ?_ | refine D1 ?_ | refine D2 ?_ | refine CallC.r ?_); conv => whnf))
  · have h : i < q.vectors.length := by simp only [List.length_map, decide_eq_true_eq] at h; omega
    have hx := hv _ (List.getElem_mem h)
    have hn := ih (i + 1) (by omega) (by omega)
    clear ih
    refine Pick.ix (h) ?_
    ((conv => whnf); repeat ((first | refine B0 ?_ | refine B1 ?_ | refine D1 ?_ | refine D2 ?_ | refine CallC.r ?_); conv => whnf))
    refine Pick.mk _ (s_ListText q.vectors[i] hx) ?_
    ((conv => whnf); repeat ((first | refine B0 ?_ | refine B1 ?_ | refine D1 ?_ | refine D2 ?_ | refine CallC.r ?_); conv => whnf))
    refine Side.mk (by simp only [List.length_map, List.length_cons, List.length_nil, List.length_take]; omega) ?_
    ((conv => whnf); repeat ((first | refine B0 ?_ | refine B1 ?_ | refine D1 ?_ | refine D2 ?_ | refine CallC.r ?_); conv => whnf))
    refine Pick.at64 (z := (i + 1 : Nat)) (by simp) (by omega) ?_
    ((conv => whnf); repeat ((first | refine B0 ?_ | refine B1 ?_ | refine D1 ?_ | refine D2 ?_ | refine CallC.r ?_); conv => whnf))
    rw [List.take_add_one, List.getElem?_eq_getElem h, Option.toList_some, List.map_append, ← List.cons_append, List.map_append] at hn
    exact hn
  · have h : i = q.vectors.length := by simp only [List.length_map, decide_eq_false_iff_not] at h; omega
    subst h
    rw [List.take_length]
    have hbs : (bodyP q).size ≤ 41061 + 64 * 1281 := by
      have h1 := accW_size semiL (headP q) q.vectors (c := 1281) (fun x hx => semiL_size (hv x hx)) (Nat.le_refl _)
      have h2 : q.vectors.length * 1281 ≤ 64 * 1281 := Nat.mul_le_mul_right _ h64
      rw [bodyP]; omega
    have hjl : (Lib.join ((headP q :: q.vectors.map listB).map (·.data.toList)) scB.data.toList).length ≤ 140737488355328 := by
      rw [← body_join, bl_size, bl_join] at hbs
      show (Lib.join ((headP q :: q.vectors.map listB).map bl) (bl scB)).length ≤ 140737488355328
      omega
    refine Pick.mk _ (s_JoinS (headP q :: q.vectors.map listB) scB (by rw [List.length_cons, List.length_map]; omega) hjl) ?_
    ((conv => whnf); repeat ((first | refine B0 ?_ | refine B1 ?_ | refine D1 ?_ | refine D2 ?_ | refine CallC.r ?_); conv => whnf))
    exact ResOK.same (by rw [body_join, textP, if_pos hk])
theorem s_l26Text (q : Proof) (o : Enc.ok q) (hk : okProof q = true) : Sat Tryd.prog 12 [(false, [.ptr 6 (Enc.enc q)])] (.one (.c (.str (bodyP q))), []) := by
  have hmx : IntKind.i64.max = 9223372036854775807 := rfl
  have e32 : (⟨#[32]⟩ : ByteArray).size = 1 := rfl
  have e59 : (⟨#[59]⟩ : ByteArray).size = 1 := rfl
  obtain ⟨hm, h64, hv⟩ := proof_parts hk
  have hns := nameOf_size q.kind
  have hms := matB_size hm
  have hhs := headP_size hm
  obtain ⟨o1, o2, o3⟩ := o
  refine Sat.intro tok mixed Tryd.func12 rfl rfl ?_
  ((conv => whnf); repeat ((first | refine B0 ?_ | refine B1 ?_ | refine D1 ?_ | refine D2 ?_ | refine CallC.r ?_); conv => whnf))
  refine Pick.mk _ (s_spec_l26Name q.kind) ?_
  ((conv => whnf); repeat ((first | refine B0 ?_ | refine B1 ?_ | refine D1 ?_ | refine D2 ?_ | refine CallC.r ?_); conv => whnf))
  refine Side.mk (by simp only [ByteArray.size_append, e32, hmx]; omega) ?_
  ((conv => whnf); repeat ((first | refine B0 ?_ | refine B1 ?_ | refine D1 ?_ | refine D2 ?_ | refine CallC.r ?_); conv => whnf))
  refine Pick.mk _ (s_spec_MatrixText q.claim o2 hm) ?_
  ((conv => whnf); repeat ((first | refine B0 ?_ | refine B1 ?_ | refine D1 ?_ | refine D2 ?_ | refine CallC.r ?_); conv => whnf))
  refine Side.mk (by simp only [ByteArray.size_append, e32, hmx]; omega) ?_
  ((conv => whnf); repeat ((first | refine B0 ?_ | refine B1 ?_ | refine D1 ?_ | refine D2 ?_ | refine CallC.r ?_); conv => whnf))
  refine Pick.mk [0, 3, 4] trivial ?_
  ((conv => whnf); repeat ((first | refine B0 ?_ | refine B1 ?_ | refine D1 ?_ | refine D2 ?_ | refine CallC.r ?_); conv => whnf))
  refine LoopL.over (fun (i : Nat) => [(3, .one (.c (.str (accW semiL (headP q) q.vectors i)))), (4, .one (.c (.int .i64 ((i : Int)))))]) (fun (i : Nat) => []) (fun (i : Nat) => q.vectors.length - i) (fun (i : Nat) => i ≤ q.vectors.length) ?_ 0 (Nat.zero_le _)
  intro i g1 ih
  ((conv => whnf); repeat ((first | refine B0 ?_ | refine B1 ?_ | refine D1 ?_ | refine D2 ?_ | refine CallC.r ?_); conv => whnf))
  refine Br.mk (fun h => ?_) (fun h => ?_) <;> ((conv => whnf); repeat ((first | refine B0 ?_ | refine B1 ?_ | refine D1 ?_ | refine D2 ?_ | refine CallC.r ?_); conv => whnf))
  · have h : i < q.vectors.length := by simp only [List.length_map, decide_eq_true_eq] at h; omega
    have hx := hv _ (List.getElem_mem h)
    have hn := ih (i + 1) (by omega) (by omega)
    have hss := accW_succ semiL (headP q) q.vectors h
    have hsz := accW_size semiL (headP q) q.vectors (c := 1281) (fun x hx => semiL_size (hv x hx)) (show i ≤ q.vectors.length by omega)
    have hlb := listB_size hx
    rw [hss] at hn
    clear ih
    refine Pick.ix (h) ?_
    ((conv => whnf); repeat ((first | refine B0 ?_ | refine B1 ?_ | refine D1 ?_ | refine D2 ?_ | refine CallC.r ?_); conv => whnf))
    refine Pick.mk _ (s_l01List q.vectors[i] hx) ?_
    ((conv => whnf); repeat ((first | refine B0 ?_ | refine B1 ?_ | refine D1 ?_ | refine D2 ?_ | refine CallC.r ?_); conv => whnf))
    refine Side.mk (by simp only [ByteArray.size_append, e59, hmx]; omega) ?_
    ((conv => whnf); repeat ((first | refine B0 ?_ | refine B1 ?_ | refine D1 ?_ | refine D2 ?_ | refine CallC.r ?_); conv => whnf))
    refine Side.mk (by simp only [ByteArray.size_append, e59, hmx]; omega) ?_
    ((conv => whnf); repeat ((first | refine B0 ?_ | refine B1 ?_ | refine D1 ?_ | refine D2 ?_ | refine CallC.r ?_); conv => whnf))
    refine Pick.at64 (z := (i + 1 : Nat)) (by simp) (by omega) ?_
    ((conv => whnf); repeat ((first | refine B0 ?_ | refine B1 ?_ | refine D1 ?_ | refine D2 ?_ | refine CallC.r ?_); conv => whnf))
    exact hn
  · have h : i = q.vectors.length := by simp only [List.length_map, decide_eq_false_iff_not] at h; omega
    subst h
    exact ResOK.same rfl
theorem s_spec_ProofText (q : Proof) (o : Enc.ok q) : Sat Tryd.prog 5 [(true, Enc.enc q)] (.one (.c (.str (textP q))), []) := by
  refine Sat.intro tok mixed Tryd.func5 rfl rfl ?_
  ((conv => whnf); repeat ((first | refine B0 ?_ | refine B1 ?_ | refine D1 ?_ | refine D2 ?_ | refine CallC.r ?_); conv => whnf))
  refine Pick.mk _ (s_l26Ok q o) ?_
  ((conv => whnf); repeat ((first | refine B0 ?_ | refine B1 ?_ | refine D1 ?_ | refine D2 ?_ | refine CallC.r ?_); conv => whnf))
  refine Br.mk (fun hk => ?_) (fun hk => ?_) <;> ((conv => whnf); repeat ((first | refine B0 ?_ | refine B1 ?_ | refine D1 ?_ | refine D2 ?_ | refine CallC.r ?_); conv => whnf))
  · have hk : okProof q = false := by simpa using hk
    exact ResOK.same (by rw [textP, if_neg (by rw [hk]; decide)]; rfl)
  have hk : okProof q = true := by simpa using hk
  refine Pick.mk _ (s_l26Text q o hk) ?_
  ((conv => whnf); repeat ((first | refine B0 ?_ | refine B1 ?_ | refine D1 ?_ | refine D2 ?_ | refine CallC.r ?_); conv => whnf))
  exact ResOK.same (by rw [textP, if_pos hk])
end Go.Proofs.YtnafogjagbhdbaaDoor.Pi
