/- The search for global rows, as the program makes it. No statement of the seat is proved here. -/
import Derived.Test.YtnmoeeneofopcaaGreatPiFTab4
namespace Go.Proofs.YtnmoeeneofopcaaGreat.Pi
open Go
set_option maxRecDepth 10000
set_option maxHeartbeats 6400000
set_option linter.unusedVariables false

theorem s_CloneIntQ (xs : List Int) (hb : xs.length ≤ 1048576) : Sat Tryz.prog 171 [(false, Enc.enc xs)] (.one (.ds 0), [(0, .deep true 1 (xs.map Enc.enc))]) := by
  have hl : (xs.map (Enc.enc (α := Int))).length = xs.length := by simp
  have hfl : flatRows (xs.map (Enc.enc (α := Int))) := fun r hr c hc => by
    obtain ⟨x, _, rfl⟩ := List.mem_map.1 hr
    have : c = .int .i64 x := by simpa [Enc.enc] using hc
    subst this; rfl
  refine Sat.intro tok mixed Tryz.func171 rfl rfl ?_
  ((conv => whnf); repeat ((first | refine B0 ?_ | refine B1 ?_ | refine D1 ?_ | refine D2 ?_ | refine CallC.r ?_); conv => whnf))
  intro b hb0
  ((conv => whnf); repeat ((first | refine B0 ?_ | refine B1 ?_ | refine D1 ?_ | refine D2 ?_ | refine CallC.r ?_); conv => whnf))
  refine Br.mk (fun h => ?_) (fun h => ?_) <;> ((conv => whnf); repeat ((first | refine B0 ?_ | refine B1 ?_ | refine D1 ?_ | refine D2 ?_ | refine CallC.r ?_); conv => whnf))
  · have e : xs = [] := by simpa using hb0 h
    subst e
    exact ResOK.deep rfl ⟨by simp [flatRows], trivial⟩
  · refine Side.mk (by rw [hl]; simp only [List.length_nil]; omega) ?_
    ((conv => whnf); repeat ((first | refine B0 ?_ | refine B1 ?_ | refine D1 ?_ | refine D2 ?_ | refine CallC.r ?_); conv => whnf))
    exact ResOK.deep rfl ⟨hfl, trivial⟩

/-- A search in memory. -/
def gHeap (l : List Table) (cols : List Int) (s : Srch) : Heap := [(1000000, .box [.c (.int .i64 s.left), .c (.bool s.spent), .c (.slice 2 (l.map Enc.enc)), .c (.slice 1 (cols.map Enc.enc)), .rs 1000036, .rs 1000037]), (1000036, .arr 1 (s.row.map Enc.enc)), (1000037, .arr 1 (s.found.map Enc.enc))]

theorem s_node_no (l : List Table) (cols : List Int) (s : Srch) (h : s.left = 0) :
    SatM Tryz.prog 112 [.one (.pb 1000000 0 2)] (gHeap l cols s) (.one (.c (.bool false)), gHeap l cols { s with spent := true }) := by
  refine SatM.intro tok mixed Tryz.func112 rfl rfl ?_
  ((conv => whnf); repeat ((first | refine B0 ?_ | refine B1 ?_ | refine D1 ?_ | refine D2 ?_ | refine CallC.r ?_); conv => whnf))
  rw [h]
  refine Br.mk (fun _ => ?_) (fun h2 => absurd h2 (by simp))
  ((conv => whnf); repeat ((first | refine B0 ?_ | refine B1 ?_ | refine D1 ?_ | refine D2 ?_ | refine CallC.r ?_); conv => whnf))
  simp only [gHeap, h]
theorem s_node (l : List Table) (cols : List Int) (s : Srch) (h : 0 < s.left) (hb : s.left ≤ 1048576) :
    SatM Tryz.prog 112 [.one (.pb 1000000 0 2)] (gHeap l cols s) (.one (.c (.bool true)), gHeap l cols { s with left := s.left - 1 }) := by
  refine SatM.intro tok mixed Tryz.func112 rfl rfl ?_
  ((conv => whnf); repeat ((first | refine B0 ?_ | refine B1 ?_ | refine D1 ?_ | refine D2 ?_ | refine CallC.r ?_); conv => whnf))
  refine Br.mk (fun h2 => by simp at h2; omega) (fun _ => ?_)
  ((conv => whnf); repeat ((first | refine B0 ?_ | refine B1 ?_ | refine D1 ?_ | refine D2 ?_ | refine CallC.r ?_); conv => whnf))
  refine Pick.w64 (by omega) ?_
  ((conv => whnf); repeat ((first | refine B0 ?_ | refine B1 ?_ | refine D1 ?_ | refine D2 ?_ | refine CallC.r ?_); conv => whnf))
  rfl

/-- The rows found and what is left stay below a bound. -/
theorem cellsI_many {sup : List Int → Bool} {rec : Srch → Srch} (hrec : ∀ s, s.spent = false → 0 ≤ s.left → 0 ≤ (rec s).left ∧ (rec s).left ≤ s.left ∧ ((rec s).found.length : Int) + (rec s).left ≤ s.found.length + s.left + 1) :
    ∀ (cs : List Int) (s : Srch), 0 ≤ s.left → 0 ≤ (cellsI sup rec cs s).left ∧ (cellsI sup rec cs s).left ≤ s.left ∧ ((cellsI sup rec cs s).found.length : Int) + (cellsI sup rec cs s).left ≤ s.found.length + s.left
  | [], s, h => ⟨h, Int.le_refl _, Int.le_refl _⟩
  | c :: cs, s, h => by
    simp only [cellsI]
    split
    · split
      · exact ⟨h, Int.le_refl _, Int.le_refl _⟩
      · rename_i hsp
        split
        · exact ⟨h, Int.le_refl _, Int.le_refl _⟩
        · have h1 := hrec { s with row := s.row ++ [c], left := s.left - 1 } (by simpa using hsp) (by show 0 ≤ s.left - 1; omega)
          simp only at h1
          have h2 := cellsI_many (sup := sup) hrec cs { rec { s with row := s.row ++ [c], left := s.left - 1 } with row := (rec { s with row := s.row ++ [c], left := s.left - 1 }).row.take ((rec { s with row := s.row ++ [c], left := s.left - 1 }).row.length - 1) } h1.1
          simp only at h2
          exact ⟨h2.1, by omega, by omega⟩
    · exact cellsI_many hrec cs s h
theorem srchI_many {sup : List Int → Bool} : ∀ (f : Nat) (s : Srch), s.spent = false → 0 ≤ s.left → 0 ≤ (srchI sup f s).left ∧ (srchI sup f s).left ≤ s.left ∧ ((srchI sup f s).found.length : Int) + (srchI sup f s).left ≤ s.found.length + s.left + 1
  | 0, s, h, h0 => by
    simp only [srchI]
    split
    · exact ⟨h0, Int.le_refl _, by simp; omega⟩
    · exact ⟨h0, Int.le_refl _, by omega⟩
  | f + 1, s, h, h0 => by
    simp only [srchI]
    have := cellsI_many (sup := sup) (rec := srchI sup f) (fun s2 h2 h3 => srchI_many (sup := sup) f s2 h2 h3) [0, 1, 2, 3] s h0
    exact ⟨this.1, this.2.1, by omega⟩
/-- The state of the loop over the cells. -/
structure AtCell (sup : List Int → Bool) (f n m : Nat) (c : Nat) (S R : Srch) : Prop where
  cle : c ≤ 4
  res : cellsI sup (srchI sup f) ([0, 1, 2, 3].drop c) S = R
  len : S.row.length + 1 ≤ n
  low : m ≤ S.row.length
  same : S.spent = false → S.row.length = m
  left : 0 ≤ S.left
  big : S.left ≤ 1048576
  many : (S.found.length : Int) + S.left + 1 ≤ 65536
theorem s_search (l : List Table) (cols : List Int) (hT : TabsOK l cols) : ∀ (f : Nat) (s : Srch), s.spent = false → s.row.length + f = cols.length → 0 ≤ s.left → s.left ≤ 1048576 → (s.found.length : Int) + s.left + 1 ≤ 65536 →
    SatM Tryz.prog 180 [.one (.pb 1000000 0 6)] (gHeap l cols s) (.tup [], gHeap l cols (srchI (supI l cols) f s)) := by
  intro f
  have hca := hT.all
  induction f with
  | zero =>
    intro s h1 h2 h3 h4 h5
    refine SatM.intro tok mixed Tryz.func180 rfl rfl ?_
    ((conv => whnf); repeat ((first | refine B0 ?_ | refine B1 ?_ | refine D1 ?_ | refine D2 ?_ | refine CallC.r ?_); conv => whnf))
    refine Br.mk (fun _ => ?_) (fun h => absurd h (by simp <;> omega))
    ((conv => whnf); repeat ((first | refine B0 ?_ | refine B1 ?_ | refine D1 ?_ | refine D2 ?_ | refine CallC.r ?_); conv => whnf))
    refine Pick.mk _ (s_supported cols s l hT (by omega)) ?_
    ((conv => whnf); repeat ((first | refine B0 ?_ | refine B1 ?_ | refine D1 ?_ | refine D2 ?_ | refine CallC.r ?_); conv => whnf))
    refine Br.mk (fun hs => ?_) (fun hs => ?_) <;> ((conv => whnf); repeat ((first | refine B0 ?_ | refine B1 ?_ | refine D1 ?_ | refine D2 ?_ | refine CallC.r ?_); conv => whnf))
    · refine Pick.mk _ (s_CloneIntQ s.row (by omega)) ?_
      ((conv => whnf); repeat ((first | refine B0 ?_ | refine B1 ?_ | refine D1 ?_ | refine D2 ?_ | refine CallC.r ?_); conv => whnf))
      refine Side.mk (by simp only [List.length_map, List.length_cons, List.length_nil]; omega) ?_
      ((conv => whnf); repeat ((first | refine B0 ?_ | refine B1 ?_ | refine D1 ?_ | refine D2 ?_ | refine CallC.r ?_); conv => whnf))
      simp only [srchI, hs, if_true, gHeap, List.map_append]
      rfl
    · simp only [srchI, hs]; rfl
  | succ f ih =>
    intro s h1 h2 h3 h4 h5
    refine SatM.intro tok mixed Tryz.func180 rfl rfl ?_
    ((conv => whnf); repeat ((first | refine B0 ?_ | refine B1 ?_ | refine D1 ?_ | refine D2 ?_ | refine CallC.r ?_); conv => whnf))
    refine Br.mk (fun h => absurd h (by simp <;> omega)) (fun _ => ?_)
    ((conv => whnf); repeat ((first | refine B0 ?_ | refine B1 ?_ | refine D1 ?_ | refine D2 ?_ | refine CallC.r ?_); conv => whnf))
    refine Pick.mk [0, 30] trivial ?_
    ((conv => whnf); repeat ((first | refine B0 ?_ | refine B1 ?_ | refine D1 ?_ | refine D2 ?_ | refine CallC.r ?_); conv => whnf))
    refine LoopL.over (fun (p : Nat × Srch) => [(30, .one (.c (.int .i64 ((p.1 : Int)))))]) (fun (p : Nat × Srch) => [(1000000, .box [.c (.int .i64 p.2.left), .c (.bool p.2.spent), .c (.slice 2 (l.map Enc.enc)), .c (.slice 1 (cols.map Enc.enc)), .rs 1000036, .rs 1000037]), (1000036, .arr 1 (List.map Enc.enc (p.2.row))), (1000037, .arr 1 (List.map Enc.enc (p.2.found)))]) (fun (p : Nat × Srch) => 4 - p.1) (fun (p : Nat × Srch) => AtCell (supI l cols) f cols.length s.row.length p.1 p.2 (srchI (supI l cols) (f + 1) s)) ?_ (0, s) ⟨by simp, rfl, by show s.row.length + 1 ≤ _; omega, Nat.le_refl _, fun _ => rfl, h3, h4, h5⟩
    intro ⟨c, S⟩ hA ih2
    simp only at hA
    have hc4 := hA.cle
    have hlen := hA.len
    ((conv => whnf); repeat ((first | refine B0 ?_ | refine B1 ?_ | refine D1 ?_ | refine D2 ?_ | refine CallC.r ?_); conv => whnf))
    refine Br.mk (fun h => ?_) (fun h => ?_) <;> ((conv => whnf); repeat ((first | refine B0 ?_ | refine B1 ?_ | refine D1 ?_ | refine D2 ?_ | refine CallC.r ?_); conv => whnf))
    · have hc : c < 4 := by simp only [decide_eq_true_eq] at h; omega
      clear h
      refine Side.mk (by simp only [List.length_map, List.length_cons, List.length_nil]; omega) ?_
      ((conv => whnf); repeat ((first | refine B0 ?_ | refine B1 ?_ | refine D1 ?_ | refine D2 ?_ | refine CallC.r ?_); conv => whnf))
      have hsup := s_supported cols { S with row := S.row ++ [(c : Int)] } l hT (by simp only [List.length_append, List.length_cons, List.length_nil]; omega)
      simp only [gCells, List.map_append, List.map_cons, List.map_nil] at hsup
      refine Pick.mk _ (hsup) ?_
      ((conv => whnf); repeat ((first | refine B0 ?_ | refine B1 ?_ | refine D1 ?_ | refine D2 ?_ | refine CallC.r ?_); conv => whnf))
      have hdrop : ([0, 1, 2, 3] : List Int).drop c = (c : Int) :: ([0, 1, 2, 3] : List Int).drop (c + 1) := by
        match c, hc with
        | 0, _ => rfl
        | 1, _ => rfl
        | 2, _ => rfl
        | 3, _ => rfl
      have hr := hA.res
      rw [hdrop, cellsI] at hr
      refine Br.mk (fun h5 => ?_) (fun h5 => ?_) <;> ((conv => whnf); repeat ((first | refine B0 ?_ | refine B1 ?_ | refine D1 ?_ | refine D2 ?_ | refine CallC.r ?_); conv => whnf))
      · rw [if_pos h5] at hr
        ((conv => whnf); repeat ((first | refine B0 ?_ | refine B1 ?_ | refine D1 ?_ | refine D2 ?_); conv => whnf))
        refine Br.mk (fun h6 => ?_) (fun h6 => ?_)
        · have h6 : S.spent = true := h6
          ((conv => whnf); repeat ((first | refine B0 ?_ | refine B1 ?_ | refine D1 ?_ | refine D2 ?_ | refine CallC.r ?_); conv => whnf))
          rw [if_pos h6] at hr
          rw [← hr]
          simp only [gHeap, List.map_append]
          rfl
        · have h6 : S.spent = false := h6
          simp only [h6, Bool.false_eq_true, if_false] at hr
          ((conv => whnf); repeat ((first | refine B0 ?_ | refine B1 ?_ | refine D1 ?_ | refine D2 ?_); conv => whnf))
          refine CallC.x ?_
          ((conv => whnf); repeat ((first | refine B0 ?_ | refine B1 ?_ | refine D1 ?_ | refine D2 ?_); conv => whnf))
          by_cases hl0 : S.left = 0
          · rw [if_pos hl0] at hr
            have hn := s_node_no l cols { S with row := S.row ++ [(c : Int)] } hl0
            simp only [gHeap, List.map_append, List.map_cons, List.map_nil] at hn
            refine Pick.mk _ hn ?_
            ((conv => whnf); repeat ((first | refine B0 ?_ | refine B1 ?_ | refine D1 ?_ | refine D2 ?_ | refine CallC.r ?_); conv => whnf))
            rw [← hr]
            simp only [gHeap, List.map_append]
            rfl
          · rw [if_neg hl0] at hr
            have hn := s_node l cols { S with row := S.row ++ [(c : Int)] } (by have := hA.left; show 0 < S.left; omega) hA.big
            simp only [gHeap, List.map_append, List.map_cons, List.map_nil] at hn
            refine Pick.mk _ hn ?_
            ((conv => whnf); repeat ((first | refine B0 ?_ | refine B1 ?_ | refine D1 ?_ | refine D2 ?_); conv => whnf))
            have hrow := hA.same h6
            have hleft := hA.left
            have hmany := hA.many
            have hbig := hA.big
            have hs := ih { left := S.left - 1, spent := S.spent, row := S.row ++ [(c : Int)], found := S.found } h6 (by simp only [List.length_append, List.length_cons, List.length_nil]; omega) (by show 0 ≤ S.left - 1; omega) (by show S.left - 1 ≤ 1048576; omega) (by show (S.found.length : Int) + (S.left - 1) + 1 ≤ 65536; omega)
            have hlen2 := srchI_len (sup := supI l cols) cols.length f { left := S.left - 1, spent := S.spent, row := S.row ++ [(c : Int)], found := S.found } h6 (by simp only [List.length_append, List.length_cons, List.length_nil]; omega)
            have hm2 := srchI_many (sup := supI l cols) f { left := S.left - 1, spent := S.spent, row := S.row ++ [(c : Int)], found := S.found } h6 (by show 0 ≤ S.left - 1; omega)
            simp only [h6] at hr hs hlen2 hm2
            generalize srchI (supI l cols) f { left := S.left - 1, spent := false, row := S.row ++ [(c : Int)], found := S.found } = R at hr hs hlen2 hm2
            simp only [gHeap, List.map_append, List.map_cons, List.map_nil, List.length_append, List.length_cons, List.length_nil] at hs hlen2 hm2
            refine CallC.x ?_
            ((conv => whnf); repeat ((first | refine B0 ?_ | refine B1 ?_ | refine D1 ?_ | refine D2 ?_); conv => whnf))
            rw [h6]
            refine Pick.mk _ hs ?_
            ((conv => whnf); repeat ((first | refine B0 ?_ | refine B1 ?_ | refine D1 ?_ | refine D2 ?_ | refine CallC.r ?_); conv => whnf))
            refine Pick.at64 (z := ((R.row.length - 1 : Nat) : Int)) (by simp only [List.length_map]; omega) (by omega) ?_
            ((conv => whnf); repeat ((first | refine B0 ?_ | refine B1 ?_ | refine D1 ?_ | refine D2 ?_ | refine CallC.r ?_); conv => whnf))
            refine Side.mk (by simp only [List.length_map]; omega) ?_
            ((conv => whnf); repeat ((first | refine B0 ?_ | refine B1 ?_ | refine D1 ?_ | refine D2 ?_ | refine CallC.r ?_); conv => whnf))
            refine Pick.at64 (z := (c + 1 : Nat)) (by simp) (by omega) ?_
            ((conv => whnf); repeat ((first | refine B0 ?_ | refine B1 ?_ | refine D1 ?_ | refine D2 ?_ | refine CallC.r ?_); conv => whnf))
            have hn := ih2 (c + 1, { R with row := R.row.take (R.row.length - 1) }) ⟨by show c + 1 ≤ 4; omega, hr, by simp only [List.length_take]; omega, by simp only [List.length_take]; omega, fun hsp => by simp only [List.length_take]; have := hlen2.2.2 hsp; omega, hm2.1, by show R.left ≤ 1048576; omega, by show (R.found.length : Int) + R.left + 1 ≤ 65536; omega⟩ (by simp only []; omega)
            have e : (R.row.take (R.row.length - 1)).map (Enc.enc (α := Int)) = List.take ((((R.row.length - 1 : Nat) : Int)).toNat - 0) (R.row.map (Enc.enc (α := Int))) := by rw [Int.toNat_natCast, Nat.sub_zero, List.map_take]
            refine cast (congrArg (fun r => LoopL _ _ _ ⟨_, [_, (_, .arr 1 r), _]⟩) e) hn
      · rw [if_neg (by rw [h5]; simp)] at hr
        ((conv => whnf); repeat ((first | refine B0 ?_ | refine B1 ?_ | refine D1 ?_ | refine D2 ?_ | refine CallC.r ?_); conv => whnf))
        refine Pick.at64 (z := (S.row.length : Int)) (by simp only [List.length_append, List.length_map, List.length_cons, List.length_nil]; omega) (by omega) ?_
        ((conv => whnf); repeat ((first | refine B0 ?_ | refine B1 ?_ | refine D1 ?_ | refine D2 ?_ | refine CallC.r ?_); conv => whnf))
        refine Side.mk (by simp only [List.length_append, List.length_map, List.length_cons, List.length_nil]; omega) ?_
        ((conv => whnf); repeat ((first | refine B0 ?_ | refine B1 ?_ | refine D1 ?_ | refine D2 ?_ | refine CallC.r ?_); conv => whnf))
        refine Pick.at64 (z := (c + 1 : Nat)) (by simp) (by omega) ?_
        ((conv => whnf); repeat ((first | refine B0 ?_ | refine B1 ?_ | refine D1 ?_ | refine D2 ?_ | refine CallC.r ?_); conv => whnf))
        have hn := ih2 (c + 1, S) ⟨by omega, hr, hlen, hA.low, hA.same, hA.left, hA.big, hA.many⟩ (by simp only []; omega)
        have e : S.row.map (Enc.enc (α := Int)) = List.take ((S.row.length : Int).toNat - 0) (S.row.map (Enc.enc (α := Int)) ++ [[CV.int .i64 (c : Int)]]) := by
          rw [Int.toNat_natCast, Nat.sub_zero, List.take_append_of_le_length (by simp), List.take_of_length_le (by simp)]
        refine cast (congrArg (fun r => LoopL _ _ _ ⟨_, [_, (_, .arr 1 r), _]⟩) e) hn
    · have hc : c = 4 := by simp only [decide_eq_false_iff_not] at h; omega
      have hr := hA.res
      subst hc
      simp only [List.drop, cellsI] at hr
      rw [← hr]; rfl
end Go.Proofs.YtnmoeeneofopcaaGreat.Pi
