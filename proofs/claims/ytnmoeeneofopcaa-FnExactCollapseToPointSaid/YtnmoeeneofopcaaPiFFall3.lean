/- The search for a collapse to a vertex, in the program. No statement of the seat is proved here. -/
import Derived.Test.YtnmoeeneofopcaaPiFFall2
namespace Go.Proofs.Ytnmoeeneofopcaa.Pi
open Go
set_option maxRecDepth 10000
set_option maxHeartbeats 6400000
set_option linter.unusedVariables false

theorem eq1 {n : Nat} : ((n : Int) = 1) = (n = 1) := propext ⟨fun h => by omega, fun h => by omega⟩
/-- A search in memory. -/
def fHeap (s : Fall) : Heap := [(1000000, .box [.c (.int .i64 s.left), .c (.bool s.spent), .rs 1000034]), (1000034, .arr 1 (s.faces.map Enc.enc))]
theorem s_fnode_no (s : Fall) (h : s.left = 0) :
    SatM Try.prog 92 [.one (.pb 1000000 0 2)] (fHeap s) (.one (.c (.bool false)), fHeap { s with spent := true }) := by
  refine SatM.intro tok mixed Try.func92 rfl rfl ?_
  ((conv => whnf); repeat ((first | refine B0 ?_ | refine B1 ?_ | refine D1 ?_ | refine D2 ?_ | refine CallC.r ?_); conv => whnf))
  rw [h]
  refine Br.mk (fun _ => ?_) (fun h2 => absurd h2 (by simp))
  ((conv => whnf); repeat ((first | refine B0 ?_ | refine B1 ?_ | refine D1 ?_ | refine D2 ?_ | refine CallC.r ?_); conv => whnf))
  simp only [fHeap, h]
theorem s_fnode (s : Fall) (h : 0 < s.left) (hb : s.left ≤ 1048576) :
    SatM Try.prog 92 [.one (.pb 1000000 0 2)] (fHeap s) (.one (.c (.bool true)), fHeap { s with left := s.left - 1 }) := by
  refine SatM.intro tok mixed Try.func92 rfl rfl ?_
  ((conv => whnf); repeat ((first | refine B0 ?_ | refine B1 ?_ | refine D1 ?_ | refine D2 ?_ | refine CallC.r ?_); conv => whnf))
  refine Br.mk (fun h2 => by simp at h2; omega) (fun _ => ?_)
  ((conv => whnf); repeat ((first | refine B0 ?_ | refine B1 ?_ | refine D1 ?_ | refine D2 ?_ | refine CallC.r ?_); conv => whnf))
  refine Pick.w64 (by omega) ?_
  ((conv => whnf); repeat ((first | refine B0 ?_ | refine B1 ?_ | refine D1 ?_ | refine D2 ?_ | refine CallC.r ?_); conv => whnf))
  rfl
/-- The state of the loop over the pairs. -/
structure AtPair (rec : List (List Int) → Fall → Bool × Fall) (c : List (List Int)) (m i : Nat) (S : Fall) (R : Bool × Fall) : Prop where
  le : i ≤ (freeL c c.length).length
  res : tries rec c ((freeL c c.length).drop i) S = R
  left : 0 ≤ S.left
  big : S.left ≤ 1048576
  many : S.faces.length + m ≤ 1000
def oneFall (rec : List (List Int) → Fall → Bool × Fall) (c : List (List Int)) (s : Fall) : Bool × Fall := if c.length = 1 then (true, s) else tries rec c (freeL c c.length) s
theorem s_stepI (rec : List (List Int) → Fall → Bool × Fall) (m : Nat) (hk : ∀ c s, 0 ≤ s.left → Kept' m s (rec c s)) (c : Complex) (hb : c.simplices.length ≤ 65536) (hc : ∀ x ∈ c.simplices, x.length ≤ 1048576) (ho : OrdS c.simplices)
    (hrec : ∀ (c' : Complex) (s' : Fall), c'.simplices.length < c.simplices.length → (∀ x ∈ c'.simplices, x.length ≤ 1048576) → OrdS c'.simplices → 0 ≤ s'.left → s'.left ≤ 1048576 → s'.faces.length + m ≤ 1000 →
      SatM Try.prog 40 [.one (.pb 1000000 0 3), .agg [.c (.slice 1 (c'.simplices.map Enc.enc))]] (fHeap s') (.one (.c (.bool (rec c'.simplices s').1)), fHeap (rec c'.simplices s').2))
    (s : Fall) (h3 : 0 ≤ s.left) (h4 : s.left ≤ 1048576) (h5 : s.faces.length + (m + 1) ≤ 1000) :
    SatM Try.prog 40 [.one (.pb 1000000 0 3), .agg [.c (.slice 1 (c.simplices.map Enc.enc))]] (fHeap s) (.one (.c (.bool (oneFall rec c.simplices s).1)), fHeap (oneFall rec c.simplices s).2) := by
  refine SatM.intro tok mixed Try.func40 rfl rfl ?_
  ((conv => whnf); repeat ((first | refine B0 ?_ | refine B1 ?_ | refine D1 ?_ | refine D2 ?_ | refine CallC.r ?_); conv => whnf))
  refine Br.mk (fun h => ?_) (fun h => ?_)
  · have h : c.simplices.length = 1 := by simpa [eq1] using h
    ((conv => whnf); repeat ((first | refine B0 ?_ | refine B1 ?_ | refine D1 ?_ | refine D2 ?_ | refine CallC.r ?_); conv => whnf))
    simp only [oneFall, if_pos h]
    rfl
  have h : ¬ c.simplices.length = 1 := by simpa [eq1] using h
  simp only [oneFall, if_neg h]
  clear h
  ((conv => whnf); repeat ((first | refine B0 ?_ | refine B1 ?_ | refine D1 ?_ | refine D2 ?_ | refine CallC.r ?_); conv => whnf))
  refine Pick.mk _ (s_freePairs c hb hc) ?_
  ((conv => whnf); repeat ((first | refine B0 ?_ | refine B1 ?_ | refine D1 ?_ | refine D2 ?_ | refine CallC.r ?_); conv => whnf))
  refine Pick.mk [0, 3, 12, 13, 14] trivial ?_
  ((conv => whnf); repeat ((first | refine B0 ?_ | refine B1 ?_ | refine D1 ?_ | refine D2 ?_ | refine CallC.r ?_); conv => whnf))
  refine LoopL.over (fun (p : Nat × Fall) => [(14, .one (.c (.int .i64 ((p.1 : Int)))))]) (fun (p : Nat × Fall) => [(1000000, .box [.c (.int .i64 p.2.left), .c (.bool p.2.spent), .rs 1000034]), (1000034, .arr 1 (List.map Enc.enc (p.2.faces)))]) (fun (p : Nat × Fall) => (freeL c.simplices c.simplices.length).length - p.1) (fun (p : Nat × Fall) => AtPair rec c.simplices (m + 1) p.1 p.2 (tries rec c.simplices (freeL c.simplices c.simplices.length) s)) ?_ (0, s) ⟨by simp, rfl, h3, h4, h5⟩
  intro ⟨i, S⟩ hA ih
  simp only at hA
  have hleft := hA.left
  have hbig := hA.big
  have hmany := hA.many
  have hr := hA.res
  have hle := hA.le
  have hfl := freeL_len c.simplices c.simplices.length
  generalize tries rec c.simplices (freeL c.simplices c.simplices.length) s = R at hr hA ih ⊢
  ((conv => whnf); repeat ((first | refine B0 ?_ | refine B1 ?_ | refine D1 ?_ | refine D2 ?_ | refine CallC.r ?_); conv => whnf))
  refine Br.mk (fun h => ?_) (fun h => ?_) <;> ((conv => whnf); repeat ((first | refine B0 ?_ | refine B1 ?_ | refine D1 ?_ | refine D2 ?_ | refine CallC.r ?_); conv => whnf))
  · have h : i < (freeL c.simplices c.simplices.length).length := by simp only [List.length_map, decide_eq_true_eq] at h; omega
    obtain ⟨k, b, hk2, ep⟩ := free_ok (Nat.le_refl _) (List.getElem_mem h)
    rw [List.drop_eq_getElem_cons h, ep, tries] at hr
    refine Pick.mk (Enc.enc [(k : Int), b]) ⟨by omega, by rw [Int.toNat_natCast, List.getElem?_map, List.getElem?_eq_getElem h, ep]; rfl⟩ ?_
    ((conv => whnf); repeat ((first | refine B0 ?_ | refine B1 ?_ | refine D1 ?_ | refine D2 ?_ | refine CallC.r ?_); conv => whnf))
    refine Br.mk (fun h6 => ?_) (fun h6 => ?_)
    · have h6 : S.spent = true := h6
      ((conv => whnf); repeat ((first | refine B0 ?_ | refine B1 ?_ | refine D1 ?_ | refine D2 ?_ | refine CallC.r ?_); conv => whnf))
      rw [if_pos h6] at hr
      rw [← hr]
      rfl
    · have h6 : S.spent = false := h6
      rw [if_neg (by rw [h6]; simp)] at hr
      ((conv => whnf); repeat ((first | refine B0 ?_ | refine B1 ?_ | refine D1 ?_ | refine D2 ?_); conv => whnf))
      refine CallC.x ?_
      ((conv => whnf); repeat ((first | refine B0 ?_ | refine B1 ?_ | refine D1 ?_ | refine D2 ?_); conv => whnf))
      by_cases hl0 : S.left = 0
      · rw [if_pos hl0] at hr
        have hn := s_fnode_no S hl0
        simp only [fHeap] at hn
        refine Pick.mk _ hn ?_
        ((conv => whnf); repeat ((first | refine B0 ?_ | refine B1 ?_ | refine D1 ?_ | refine D2 ?_ | refine CallC.r ?_); conv => whnf))
        rw [← hr]
        rfl
      · rw [if_neg hl0] at hr
        have hn := s_fnode S (by omega) hbig
        simp only [fHeap] at hn
        refine Pick.mk _ hn ?_
        ((conv => whnf); repeat ((first | refine B0 ?_ | refine B1 ?_ | refine D1 ?_ | refine D2 ?_ | refine CallC.r ?_); conv => whnf))
        refine Pick.mk [.int .i64 (k : Int)] (by first | rfl | exact ⟨by omega, rfl⟩) ?_
        ((conv => whnf); repeat ((first | refine B0 ?_ | refine B1 ?_ | refine D1 ?_ | refine D2 ?_ | refine CallC.r ?_); conv => whnf))
        refine Pick.ix (hk2) ?_
        ((conv => whnf); repeat ((first | refine B0 ?_ | refine B1 ?_ | refine D1 ?_ | refine D2 ?_ | refine CallC.r ?_); conv => whnf))
        refine Side.mk (by simp only [List.length_map, List.length_cons, List.length_nil]; omega) ?_
        ((conv => whnf); repeat ((first | refine B0 ?_ | refine B1 ?_ | refine D1 ?_ | refine D2 ?_ | refine CallC.r ?_); conv => whnf))
        refine Pick.mk _ (s_collapsed c [(k : Int), b] hb hc ho (by simp)) ?_
        ((conv => whnf); repeat ((first | refine B0 ?_ | refine B1 ?_ | refine D1 ?_ | refine D2 ?_); conv => whnf))
        have hsub := dropL_sub c.simplices [(k : Int), b]
        have hs := hrec ⟨dropL c.simplices [(k : Int), b] c.simplices.length⟩ { S with left := S.left - 1, faces := S.faces ++ [c.simplices[k]] } (dropL_less hk2) (fun x hx => hc x (hsub.subset hx)) (dropL_ord ho _) (by show 0 ≤ S.left - 1; omega) (by show S.left - 1 ≤ 1048576; omega) (by simp only [List.length_append, List.length_cons, List.length_nil]; omega)
        obtain ⟨j1, j2, j3, j4⟩ := hk (dropL c.simplices [(k : Int), b] c.simplices.length) { S with left := S.left - 1, faces := S.faces ++ [c.simplices[k]] } (by show 0 ≤ S.left - 1; omega)
        simp only [List.getD_cons_zero, Int.toNat_natCast, gD_lt hk2] at hr
        simp only at hs j1 j2 j3 j4
        generalize rec (dropL c.simplices [(k : Int), b] c.simplices.length) { left := S.left - 1, spent := S.spent, faces := S.faces ++ [c.simplices[k]] } = Q at hr hs j1 j2 j3 j4
        obtain ⟨found, Q⟩ := Q
        simp only [fHeap, List.map_append, List.map_cons, List.map_nil] at hs
        refine CallC.x ?_
        ((conv => whnf); repeat ((first | refine B0 ?_ | refine B1 ?_ | refine D1 ?_ | refine D2 ?_); conv => whnf))
        refine Pick.mk _ hs ?_
        ((conv => whnf); repeat ((first | refine B0 ?_ | refine B1 ?_ | refine D1 ?_ | refine D2 ?_ | refine CallC.r ?_); conv => whnf))
        refine Br.mk (fun hf => ?_) (fun hf => ?_) <;> ((conv => whnf); repeat ((first | refine B0 ?_ | refine B1 ?_ | refine D1 ?_ | refine D2 ?_ | refine CallC.r ?_); conv => whnf))
        · simp only [hf, if_true] at hr
          rw [← hr]
          rfl
        · simp only [hf, Bool.false_eq_true, if_false] at hr
          have j3 := j3 hf
          simp only at j2 j3 hr
          refine Pick.at64 (z := ((Q.faces.length - 1 : Nat) : Int)) (by simp only [List.length_map]; rw [j3]; simp only [List.length_append, List.length_cons, List.length_nil]; omega) (by rw [j3]; simp only [List.length_append, List.length_cons, List.length_nil]; omega) ?_
          ((conv => whnf); repeat ((first | refine B0 ?_ | refine B1 ?_ | refine D1 ?_ | refine D2 ?_ | refine CallC.r ?_); conv => whnf))
          refine Side.mk (by simp only [List.length_map]; omega) ?_
          ((conv => whnf); repeat ((first | refine B0 ?_ | refine B1 ?_ | refine D1 ?_ | refine D2 ?_ | refine CallC.r ?_); conv => whnf))
          refine Pick.at64 (z := (i + 1 : Nat)) (by simp) (by omega) ?_
          ((conv => whnf); repeat ((first | refine B0 ?_ | refine B1 ?_ | refine D1 ?_ | refine D2 ?_ | refine CallC.r ?_); conv => whnf))
          have hn := ih (i + 1, { Q with faces := S.faces }) ⟨by show i + 1 ≤ _; omega, hr, j1, by show Q.left ≤ 1048576; omega, hmany⟩ (by simp only []; omega)
          have e : S.faces.map (Enc.enc (α := List Int)) = List.take ((((Q.faces.length - 1 : Nat) : Int)).toNat - 0) (Q.faces.map (Enc.enc (α := List Int))) := by
            rw [Int.toNat_natCast, Nat.sub_zero, j3]
            simp
          refine cast (congrArg (fun r => LoopL _ _ _ ⟨_, [_, _, (_, .arr 1 r)]⟩) e) hn
  · have h : i = (freeL c.simplices c.simplices.length).length := by simp only [List.length_map, decide_eq_false_iff_not] at h; omega
    subst h
    rw [List.drop_length, tries] at hr
    rw [← hr]; rfl
end Go.Proofs.Ytnmoeeneofopcaa.Pi
