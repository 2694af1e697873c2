/- The search for global rows, as the reference makes it. No statement of the seat is proved here. -/
import Derived.Test.YtnmoeeneofopcaaGreatPiFTab5
namespace Go.Proofs.YtnmoeeneofopcaaGreat.Pi
open Go
set_option maxRecDepth 10000
set_option maxHeartbeats 6400000
set_option linter.unusedVariables false

/-- A search in memory. -/
def rHeap (l : List Table) (cols : List Int) (bud : Int) (s : Srch) : Heap := [(1000000, .box [.c (.slice 2 (l.map Enc.enc)), .c (.slice 1 (cols.map Enc.enc)), .rs 1000034, .rs 1000035, .c (.int .i64 (bud - s.left)), .c (.int .i64 bud), .c (.bool s.spent)]), (1000034, .arr 1 (s.row.map Enc.enc)), (1000035, .arr 1 (s.found.map Enc.enc))]

theorem cellsR_row {sup : List Int → Bool} {rec : Srch → Srch} (hrec : ∀ s, (rec s).row = s.row) : ∀ (cs : List Int) (s : Srch), (cellsR sup rec cs s).row = s.row
  | [], s => rfl
  | c :: cs, s => by
    simp only [cellsR]
    split
    · rfl
    · split
      · split
        · exact cellsR_row hrec cs _
        · rw [cellsR_row (sup := sup) hrec cs]
          show List.take s.row.length (rec { s with row := s.row ++ [c], left := s.left - 1 }).row = s.row
          rw [hrec]
          simp
      · exact cellsR_row hrec cs s
theorem srchR_row {sup : List Int → Bool} : ∀ (f : Nat) (s : Srch), (srchR sup f s).row = s.row
  | 0, s => by simp only [srchR]; split <;> rfl
  | f + 1, s => by simp only [srchR]; exact cellsR_row (srchR_row f) _ s
theorem cellsR_many {sup : List Int → Bool} {rec : Srch → Srch} (hrec : ∀ s, 0 ≤ s.left → 0 ≤ (rec s).left ∧ (rec s).left ≤ s.left ∧ ((rec s).found.length : Int) + (rec s).left ≤ s.found.length + s.left + 1) :
    ∀ (cs : List Int) (s : Srch), 0 ≤ s.left → 0 ≤ (cellsR sup rec cs s).left ∧ (cellsR sup rec cs s).left ≤ s.left ∧ ((cellsR sup rec cs s).found.length : Int) + (cellsR sup rec cs s).left ≤ s.found.length + s.left
  | [], s, h => ⟨h, Int.le_refl _, Int.le_refl _⟩
  | c :: cs, s, h => by
    simp only [cellsR]
    split
    · exact ⟨h, Int.le_refl _, Int.le_refl _⟩
    · split
      · split
        · exact cellsR_many (sup := sup) hrec cs { s with spent := true } h
        · have h1 := hrec { s with row := s.row ++ [c], left := s.left - 1 } (by show 0 ≤ s.left - 1; omega)
          simp only at h1
          have h2 := cellsR_many (sup := sup) hrec cs { rec { s with row := s.row ++ [c], left := s.left - 1 } with row := (rec { s with row := s.row ++ [c], left := s.left - 1 }).row.take s.row.length } h1.1
          simp only at h2
          exact ⟨h2.1, by omega, by omega⟩
      · exact cellsR_many (sup := sup) hrec cs s h
theorem srchR_many {sup : List Int → Bool} : ∀ (f : Nat) (s : Srch), 0 ≤ s.left → 0 ≤ (srchR sup f s).left ∧ (srchR sup f s).left ≤ s.left ∧ ((srchR sup f s).found.length : Int) + (srchR sup f s).left ≤ s.found.length + s.left + 1
  | 0, s, h0 => by
    simp only [srchR]
    split
    · exact ⟨h0, Int.le_refl _, by simp; omega⟩
    · exact ⟨h0, Int.le_refl _, by omega⟩
  | f + 1, s, h0 => by
    simp only [srchR]
    have := cellsR_many (sup := sup) (rec := srchR sup f) (fun s2 h3 => srchR_many (sup := sup) f s2 h3) [0, 1, 2, 3] s h0
    exact ⟨this.1, this.2.1, by omega⟩
/-- The state of the loop over the cells. -/
structure AtCellR (sup : List Int → Bool) (f : Nat) (row : List Int) (c : Nat) (S R : Srch) : Prop where
  cle : c ≤ 4
  res : cellsR sup (srchR sup f) ([0, 1, 2, 3].drop c) S = R
  row : S.row = row
  left : 0 ≤ S.left
  big : S.left ≤ 1048576
  many : (S.found.length : Int) + S.left + 1 ≤ 65536
theorem s_run (l : List Table) (cols : List Int) (bud : Int) (hbud : 0 ≤ bud ∧ bud ≤ 1048576) (hT : TabsOK l cols) : ∀ (f : Nat) (s : Srch), s.spent = false → s.row.length + f = cols.length → 0 ≤ s.left → s.left ≤ 1048576 → (s.found.length : Int) + s.left + 1 ≤ 65536 →
    SatM Tryz.prog 176 [.one (.pb 1000000 0 7)] (rHeap l cols bud s) (.tup [], rHeap l cols bud (srchR (supR l cols) f s)) := by
  intro f
  have hca := hT.all
  induction f with
  | zero =>
    intro s h1 h2 h3 h4 h5
    refine SatM.intro tok mixed Tryz.func176 rfl rfl ?_
    ((conv => whnf); repeat ((first | refine B0 ?_ | refine B1 ?_ | refine D1 ?_ | refine D2 ?_ | refine CallC.r ?_); conv => whnf))
    refine Br.mk (fun _ => ?_) (fun h => absurd h (by simp <;> omega))
    ((conv => whnf); repeat ((first | refine B0 ?_ | refine B1 ?_ | refine D1 ?_ | refine D2 ?_ | refine CallC.r ?_); conv => whnf))
    refine Pick.mk _ (s_fits cols bud s l hT (by omega)) ?_
    ((conv => whnf); repeat ((first | refine B0 ?_ | refine B1 ?_ | refine D1 ?_ | refine D2 ?_ | refine CallC.r ?_); conv => whnf))
    refine Br.mk (fun hs => ?_) (fun hs => ?_) <;> ((conv => whnf); repeat ((first | refine B0 ?_ | refine B1 ?_ | refine D1 ?_ | refine D2 ?_ | refine CallC.r ?_); conv => whnf))
    · refine Pick.mk _ (s_ownIntQ s.row (by omega)) ?_
      ((conv => whnf); repeat ((first | refine B0 ?_ | refine B1 ?_ | refine D1 ?_ | refine D2 ?_ | refine CallC.r ?_); conv => whnf))
      refine Side.mk (by simp only [List.length_map, List.length_cons, List.length_nil]; omega) ?_
      ((conv => whnf); repeat ((first | refine B0 ?_ | refine B1 ?_ | refine D1 ?_ | refine D2 ?_ | refine CallC.r ?_); conv => whnf))
      simp only [srchR, hs, if_true, rHeap, List.map_append]
      rfl
    · simp only [srchR, hs]; rfl
  | succ f ih =>
    intro s h1 h2 h3 h4 h5
    refine SatM.intro tok mixed Tryz.func176 rfl rfl ?_
    ((conv => whnf); repeat ((first | refine B0 ?_ | refine B1 ?_ | refine D1 ?_ | refine D2 ?_ | refine CallC.r ?_); conv => whnf))
    refine Br.mk (fun h => absurd h (by simp <;> omega)) (fun _ => ?_)
    ((conv => whnf); repeat ((first | refine B0 ?_ | refine B1 ?_ | refine D1 ?_ | refine D2 ?_ | refine CallC.r ?_); conv => whnf))
    refine Pick.mk [0, 2, 3] trivial ?_
    ((conv => whnf); repeat ((first | refine B0 ?_ | refine B1 ?_ | refine D1 ?_ | refine D2 ?_ | refine CallC.r ?_); conv => whnf))
    refine LoopL.over (fun (p : Nat × Srch) => [(3, .one (.c (.int .i64 ((p.1 : Int)))))]) (fun (p : Nat × Srch) => [(1000000, .box [.c (.slice 2 (l.map Enc.enc)), .c (.slice 1 (cols.map Enc.enc)), .rs 1000034, .rs 1000035, .c (.int .i64 (bud - p.2.left)), .c (.int .i64 bud), .c (.bool p.2.spent)]), (1000034, .arr 1 (List.map Enc.enc (p.2.row))), (1000035, .arr 1 (List.map Enc.enc (p.2.found)))]) (fun (p : Nat × Srch) => 4 - p.1) (fun (p : Nat × Srch) => AtCellR (supR l cols) f s.row p.1 p.2 (srchR (supR l cols) (f + 1) s)) ?_ (0, s) ⟨by simp, rfl, rfl, h3, h4, h5⟩
    intro ⟨c, S⟩ hA ih2
    simp only at hA
    have hc4 := hA.cle
    have hrowS := hA.row
    have hleft := hA.left
    have hmany := hA.many
    have hbig := hA.big
    have hr := hA.res
    ((conv => whnf); repeat ((first | refine B0 ?_ | refine B1 ?_ | refine D1 ?_ | refine D2 ?_ | refine CallC.r ?_); conv => whnf))
    refine Br.mk (fun h => ?_) (fun h => ?_) <;> ((conv => whnf); repeat ((first | refine B0 ?_ | refine B1 ?_ | refine D1 ?_ | refine D2 ?_ | refine CallC.r ?_); conv => whnf))
    · have hc : c < 4 := by simp only [decide_eq_true_eq] at h; omega
      clear h
      have hdrop : ([0, 1, 2, 3] : List Int).drop c = (c : Int) :: ([0, 1, 2, 3] : List Int).drop (c + 1) := by
        match c, hc with
        | 0, _ => rfl
        | 1, _ => rfl
        | 2, _ => rfl
        | 3, _ => rfl
      rw [hdrop, cellsR] at hr
      refine Br.mk (fun h6 => ?_) (fun h6 => ?_) <;> ((conv => whnf); repeat ((first | refine B0 ?_ | refine B1 ?_ | refine D1 ?_ | refine D2 ?_ | refine CallC.r ?_); conv => whnf))
      · have h6 : S.spent = false := by simpa using h6
        rw [if_neg (by rw [h6]; simp)] at hr
        refine Side.mk (by simp only [List.length_map, List.length_cons, List.length_nil]; rw [hrowS]; omega) ?_
        ((conv => whnf); repeat ((first | refine B0 ?_ | refine B1 ?_ | refine D1 ?_ | refine D2 ?_ | refine CallC.r ?_); conv => whnf))
        have hsup := s_fits cols bud { S with row := S.row ++ [(c : Int)] } l hT (by simp only [List.length_append, List.length_cons, List.length_nil]; rw [hrowS]; omega)
        simp only [rCells, List.map_append, List.map_cons, List.map_nil] at hsup
        refine Pick.mk _ (hsup) ?_
        ((conv => whnf); repeat ((first | refine B0 ?_ | refine B1 ?_ | refine D1 ?_ | refine D2 ?_ | refine CallC.r ?_); conv => whnf))
        refine Br.mk (fun h5 => ?_) (fun h5 => ?_) <;> ((conv => whnf); repeat ((first | refine B0 ?_ | refine B1 ?_ | refine D1 ?_ | refine D2 ?_ | refine CallC.r ?_); conv => whnf))
        · rw [if_pos h5] at hr
          refine Br.mk (fun h7 => ?_) (fun h7 => ?_) <;> ((conv => whnf); repeat ((first | refine B0 ?_ | refine B1 ?_ | refine D1 ?_ | refine D2 ?_ | refine CallC.r ?_); conv => whnf))
          · have h8 : bud - S.left = bud := by simpa using h7
            have hl0 : S.left = 0 := by omega
            rw [if_pos hl0] at hr
            refine Side.mk (by simp only [List.length_append, List.length_map, List.length_cons, List.length_nil]; rw [hrowS]; omega) ?_
            ((conv => whnf); repeat ((first | refine B0 ?_ | refine B1 ?_ | refine D1 ?_ | refine D2 ?_ | refine CallC.r ?_); conv => whnf))
            refine Pick.at64 (z := (c + 1 : Nat)) (by simp) (by omega) ?_
            ((conv => whnf); repeat ((first | refine B0 ?_ | refine B1 ?_ | refine D1 ?_ | refine D2 ?_ | refine CallC.r ?_); conv => whnf))
            have hn := ih2 (c + 1, { S with spent := true }) ⟨by show c + 1 ≤ 4; omega, hr, hrowS, hleft, hbig, hmany⟩ (by simp only []; omega)
            have e : S.row.map (Enc.enc (α := Int)) = List.take (((s.row.map (Enc.enc (α := Int))).length : Int).toNat - 0) (S.row.map (Enc.enc (α := Int)) ++ [[CV.int .i64 (c : Int)]]) := by
              rw [Int.toNat_natCast, Nat.sub_zero, List.length_map, ← hrowS, List.take_append_of_le_length (by simp), List.take_of_length_le (by simp)]
            refine cast (congrArg (fun r => LoopL _ _ _ ⟨_, [_, (_, .arr 1 r), _]⟩) e) hn
          · have h8 : bud - S.left ≠ bud := by simpa using h7
            have hl0 : S.left ≠ 0 := by omega
            rw [if_neg hl0] at hr
            refine Pick.at64 (z := bud - (S.left - 1)) (by show bud - S.left + 1 = _; omega) (by omega) ?_
            ((conv => whnf); repeat ((first | refine B0 ?_ | refine B1 ?_ | refine D1 ?_ | refine D2 ?_); conv => whnf))
            have hs := ih { left := S.left - 1, spent := S.spent, row := S.row ++ [(c : Int)], found := S.found } h6 (by simp only [List.length_append, List.length_cons, List.length_nil]; rw [hrowS]; omega) (by show 0 ≤ S.left - 1; omega) (by show S.left - 1 ≤ 1048576; omega) (by show (S.found.length : Int) + (S.left - 1) + 1 ≤ 65536; omega)
            have hrow2 := srchR_row (sup := supR l cols) f { left := S.left - 1, spent := S.spent, row := S.row ++ [(c : Int)], found := S.found }
            have hm2 := srchR_many (sup := supR l cols) f { left := S.left - 1, spent := S.spent, row := S.row ++ [(c : Int)], found := S.found } (by show 0 ≤ S.left - 1; omega)
            simp only at hr hs hrow2 hm2
            generalize srchR (supR l cols) f { left := S.left - 1, spent := S.spent, row := S.row ++ [(c : Int)], found := S.found } = R at hr hs hrow2 hm2
            simp only [rHeap, List.map_append, List.map_cons, List.map_nil, hrow2] at hs
            refine CallC.x ?_
            ((conv => whnf); repeat ((first | refine B0 ?_ | refine B1 ?_ | refine D1 ?_ | refine D2 ?_); conv => whnf))
            refine Pick.mk _ hs ?_
            ((conv => whnf); repeat ((first | refine B0 ?_ | refine B1 ?_ | refine D1 ?_ | refine D2 ?_ | refine CallC.r ?_); conv => whnf))
            refine Side.mk (by simp only [List.length_append, List.length_map, List.length_cons, List.length_nil]; rw [hrowS]; omega) ?_
            ((conv => whnf); repeat ((first | refine B0 ?_ | refine B1 ?_ | refine D1 ?_ | refine D2 ?_ | refine CallC.r ?_); conv => whnf))
            refine Pick.at64 (z := (c + 1 : Nat)) (by simp) (by omega) ?_
            ((conv => whnf); repeat ((first | refine B0 ?_ | refine B1 ?_ | refine D1 ?_ | refine D2 ?_ | refine CallC.r ?_); conv => whnf))
            have hn := ih2 (c + 1, { R with row := R.row.take S.row.length }) ⟨by show c + 1 ≤ 4; omega, hr, by show List.take S.row.length R.row = s.row; rw [hrow2, List.take_left, hrowS], hm2.1, by show R.left ≤ 1048576; omega, by show (R.found.length : Int) + R.left + 1 ≤ 65536; omega⟩ (by simp only []; omega)
            have e : (R.row.take S.row.length).map (Enc.enc (α := Int)) = List.take (((s.row.map (Enc.enc (α := Int))).length : Int).toNat - 0) (S.row.map (Enc.enc (α := Int)) ++ [Enc.enc (c : Int)]) := by
              rw [hrow2, List.take_left, Int.toNat_natCast, Nat.sub_zero, List.length_map, ← hrowS, List.take_append_of_le_length (by simp), List.take_of_length_le (by simp)]
            refine cast (congrArg (fun r => LoopL _ _ _ ⟨_, [_, (_, .arr 1 r), _]⟩) e) hn
        · rw [if_neg (by rw [h5]; simp)] at hr
          refine Side.mk (by simp only [List.length_append, List.length_map, List.length_cons, List.length_nil]; rw [hrowS]; omega) ?_
          ((conv => whnf); repeat ((first | refine B0 ?_ | refine B1 ?_ | refine D1 ?_ | refine D2 ?_ | refine CallC.r ?_); conv => whnf))
          refine Pick.at64 (z := (c + 1 : Nat)) (by simp) (by omega) ?_
          ((conv => whnf); repeat ((first | refine B0 ?_ | refine B1 ?_ | refine D1 ?_ | refine D2 ?_ | refine CallC.r ?_); conv => whnf))
          have hn := ih2 (c + 1, S) ⟨by show c + 1 ≤ 4; omega, hr, hrowS, hleft, hbig, hmany⟩ (by simp only []; omega)
          have e : S.row.map (Enc.enc (α := Int)) = List.take (((s.row.map (Enc.enc (α := Int))).length : Int).toNat - 0) (S.row.map (Enc.enc (α := Int)) ++ [[CV.int .i64 (c : Int)]]) := by
            rw [Int.toNat_natCast, Nat.sub_zero, List.length_map, ← hrowS, List.take_append_of_le_length (by simp), List.take_of_length_le (by simp)]
          refine cast (congrArg (fun r => LoopL _ _ _ ⟨_, [_, (_, .arr 1 r), _]⟩) e) hn
      · have h6 : S.spent = true := by simpa using h6
        rw [if_pos h6] at hr
        rw [← hr]; rfl
    · have hc : c = 4 := by simp only [decide_eq_false_iff_not] at h; omega
      subst hc
      simp only [List.drop, cellsR] at hr
      rw [← hr]; rfl
end Go.Proofs.YtnmoeeneofopcaaGreat.Pi
