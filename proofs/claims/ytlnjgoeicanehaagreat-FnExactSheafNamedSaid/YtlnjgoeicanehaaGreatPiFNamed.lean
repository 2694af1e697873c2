/- Complexes and sheaves by name; binary search. No statement of the seat is proved here. -/
import Derived.Test.YtlnjgoeicanehaaGreatPiFWorldR
namespace Go.Proofs.YtlnjgoeicanehaaGreat.Pi
open Go
set_option maxRecDepth 10000
set_option maxHeartbeats 6400000
set_option linter.unusedVariables false

theorem s_BinarySearchNamedSheaf (xs : List NamedSheaf) (t : ByteArray) (g : Nat) (c : NamedSheaf → Int) (hb : xs.length ≤ 1048576) (hp : ∀ x ∈ xs, Sat Tryz.prog g [(true, Enc.enc x), (false, [.str t])] (.one (.c (.int .i64 (c x))), []))
    (hm : ∀ (i j : Nat) (hi : i < xs.length) (hj : j < xs.length), i ≤ j → c xs[j] < 0 → c xs[i] < 0) :
    Sat Tryz.prog 118 [(false, Enc.enc xs), (false, [.str t]), (false, [.fn g []])] (.tup [(false, [.c (.int .i64 (posOf c xs))]), (false, [.c (.bool (hitOf c xs))])], []) := by
  have hl : (xs.map (Enc.enc (α := NamedSheaf))).length = xs.length := by simp
  refine Sat.intro tok mixed Tryz.func118 rfl rfl ?_
  ((conv => whnf); repeat ((first | refine B0 ?_ | refine B1 ?_ | refine D1 ?_ | refine D2 ?_ | refine CallC.r ?_); conv => whnf))
  refine Pick.mk [0, 1, 2, 8, 9, 10] trivial ?_
  ((conv => whnf); repeat ((first | refine B0 ?_ | refine B1 ?_ | refine D1 ?_ | refine D2 ?_ | refine CallC.r ?_); conv => whnf))
  refine LoopL.run (fun p : Nat × Nat => St.mk [.one (.c (.slice 5 (xs.map Enc.enc))), .one (.c (.str t)), .one (.c (.fn g [])), .one .dead, .one .dead, .one .dead, .one .dead, .one .dead, .one (.c (.int .i64 (xs.map (Enc.enc (α := NamedSheaf))).length)), .one (.c (.int .i64 p.1)), .one (.c (.int .i64 p.2)), .one .dead, .one .dead, .one .dead, .one .dead, .one .dead, .one .dead, .one .dead, .one .dead, .one .dead, .one .dead, .one .dead, .one .dead, .one .dead, .one .dead, .one .dead, .one .dead, .one .dead, .one .dead, .one .dead, .one .dead, .one .dead, .one .dead, .one .dead, .one .dead, .one .dead, .one .dead, .one .dead, .one .dead, .one .dead, .one .dead, .one .dead, .one .dead, .one .dead, .one .dead, .one .dead, .one .dead, .one .dead, .one .dead] []) (fun p => p.2 - p.1)
    (fun p => p.1 ≤ p.2 ∧ p.2 ≤ xs.length ∧ (∀ (k : Nat) (h : k < xs.length), k < p.1 → c xs[k] < 0) ∧ (∀ (k : Nat) (h : k < xs.length), p.2 ≤ k → ¬ c xs[k] < 0)) ?_ (0, xs.length) ⟨Nat.zero_le _, Nat.le_refl _, by intros; omega, by intros; omega⟩ (by simp only [hl]; rfl)
  intro ⟨i, j⟩ ⟨h2, h3, h4, h5⟩ ih
  simp only at h2 h3 h4 h5
  ((conv => whnf); repeat ((first | refine B0 ?_ | refine B1 ?_ | refine D1 ?_ | refine D2 ?_ | refine CallC.r ?_); conv => whnf))
  refine Br.mk (fun h => ?_) (fun h => ?_) <;> ((conv => whnf); repeat ((first | refine B0 ?_ | refine B1 ?_ | refine D1 ?_ | refine D2 ?_ | refine CallC.r ?_); conv => whnf))
  · simp at h
    have hh : (i + j) / 2 < xs.length := by omega
    refine Pick.at64 (z := ((i + j : Nat) : Int)) (by simp) (by omega) ?_
    ((conv => whnf); repeat ((first | refine B0 ?_ | refine B1 ?_ | refine D1 ?_ | refine D2 ?_ | refine CallC.r ?_); conv => whnf))
    refine Pick.mk ((i + j : Nat) : Int) (by simp only [IntKind.wrap, IntKind.bits, IntKind.signed]; simp; omega) ?_
    ((conv => whnf); repeat ((first | refine B0 ?_ | refine B1 ?_ | refine D1 ?_ | refine D2 ?_ | refine CallC.r ?_); conv => whnf))
    refine Side.mk (by omega) ?_
    ((conv => whnf); repeat ((first | refine B0 ?_ | refine B1 ?_ | refine D1 ?_ | refine D2 ?_ | refine CallC.r ?_); conv => whnf))
    refine Pick.at64 (z := (((i + j) / 2 : Nat) : Int)) (by
      show (((i + j : Nat) : Int)).fdiv 2 = _
      rw [Int.fdiv_eq_ediv_of_nonneg _ (by omega)]; omega) (by omega) ?_
    ((conv => whnf); repeat ((first | refine B0 ?_ | refine B1 ?_ | refine D1 ?_ | refine D2 ?_ | refine CallC.r ?_); conv => whnf))
    refine Pick.ix hh ?_
    ((conv => whnf); repeat ((first | refine B0 ?_ | refine B1 ?_ | refine D1 ?_ | refine D2 ?_ | refine CallC.r ?_); conv => whnf))
    refine Pick.mk _ (hp xs[(i + j) / 2] (List.getElem_mem hh)) ?_
    ((conv => whnf); repeat ((first | refine B0 ?_ | refine B1 ?_ | refine D1 ?_ | refine D2 ?_ | refine CallC.r ?_); conv => whnf))
    refine Br.mk (fun h6 => ?_) (fun h6 => ?_) <;> ((conv => whnf); repeat ((first | refine B0 ?_ | refine B1 ?_ | refine D1 ?_ | refine D2 ?_ | refine CallC.r ?_); conv => whnf))
    · simp only [decide_eq_true_eq] at h6
      refine Pick.at64 (z := (((i + j) / 2 + 1 : Nat) : Int)) (by omega) (by omega) ?_
      ((conv => whnf); repeat ((first | refine B0 ?_ | refine B1 ?_ | refine D1 ?_ | refine D2 ?_ | refine CallC.r ?_); conv => whnf))
      exact ih ((i + j) / 2 + 1, j) ⟨by simp only []; omega, h3, fun k hk hlt => hm k ((i + j) / 2) hk hh (by simp only [] at hlt; omega) h6, h5⟩ (by simp only []; omega)
    · simp only [decide_eq_false_iff_not] at h6
      exact ih (i, (i + j) / 2) ⟨by simp only []; omega, by simp only []; omega, h4, fun k hk hle h7 => h6 (hm ((i + j) / 2) k hh hk hle h7)⟩ (by simp only []; omega)
  · simp at h
    have hij : i = j := by omega
    subst hij
    have e : posOf c xs = i := posOf_at h3 (fun k hk hlt => h4 k hk hlt) (fun hk => h5 i hk (Nat.le_refl _))
    refine Br.mk (fun h6 => ?_) (fun h6 => ?_) <;> ((conv => whnf); repeat ((first | refine B0 ?_ | refine B1 ?_ | refine D1 ?_ | refine D2 ?_ | refine CallC.r ?_); conv => whnf))
    · simp at h6
      refine Pick.ix h6 ?_
      ((conv => whnf); repeat ((first | refine B0 ?_ | refine B1 ?_ | refine D1 ?_ | refine D2 ?_ | refine CallC.r ?_); conv => whnf))
      refine Pick.mk _ (hp xs[i] (List.getElem_mem h6)) ?_
      ((conv => whnf); repeat ((first | refine B0 ?_ | refine B1 ?_ | refine D1 ?_ | refine D2 ?_ | refine CallC.r ?_); conv => whnf))
      exact ResOK.same (by simp only [hitOf, e, List.getElem?_eq_getElem h6])
    · simp at h6
      exact ResOK.same (by simp only [hitOf, e, List.getElem?_eq_none h6])



theorem okNames_ord {α : Type} (f : α → ByteArray) {xs : List α} (h : okNames (xs.map f) = true) : Ord f xs := by
  have h1 := (okNames_iff.1 h).1
  intro i j hi hj hlt
  have := h1 i j (by rw [List.length_map]; exact hi) (by rw [List.length_map]; exact hj) hlt
  simpa using this
theorem okWorld_ords {w : World} (h : okWorld w = true) : Ord NamedComplex.name w.complexes ∧ Ord NamedSheaf.name w.sheaves := by
  simp only [okWorld, okCName, okSName, Bool.and_eq_true] at h
  exact ⟨okNames_ord _ h.1.1.1, okNames_ord _ h.1.2.1⟩
theorem s_findSheaf1 (x : NamedSheaf) (t : ByteArray) : Sat Tryz.prog 119 [(true, Enc.enc x), (false, [.str t])] (.one (.c (.int .i64 (cmpB x.name t))), []) := by
  refine Sat.intro tok mixed Tryz.func119 rfl rfl ?_
  ((conv => whnf); repeat ((first | refine B0 ?_ | refine B1 ?_ | refine D1 ?_ | refine D2 ?_ | refine CallC.r ?_); conv => whnf))
  refine Pick.mk _ (s_Compare x.name t) ?_
  ((conv => whnf); repeat ((first | refine B0 ?_ | refine B1 ?_ | refine D1 ?_ | refine D2 ?_ | refine CallC.r ?_); conv => whnf))
  exact ResOK.same rfl
theorem s_findSheaf (w : World) (t : ByteArray) (ho : Ord NamedSheaf.name w.sheaves) (hb : w.sheaves.length ≤ 1048576) : Sat Tryz.prog 64 [(true, Enc.enc w), (false, [.str t])] (.tup [(false, [.c (.int .i64 (posOf (fun x => cmpB x.name t) w.sheaves))]), (false, [.c (.bool (hitOf (fun x => cmpB x.name t) w.sheaves))])], []) := by
  refine Sat.intro tok mixed Tryz.func64 rfl rfl ?_
  ((conv => whnf); repeat ((first | refine B0 ?_ | refine B1 ?_ | refine D1 ?_ | refine D2 ?_ | refine CallC.r ?_); conv => whnf))
  refine Pick.mk _ (s_BinarySearchNamedSheaf w.sheaves t 119 (fun x => cmpB x.name t) hb (fun x _ => s_findSheaf1 x t) (fun i j hi hj hij h => ord_mono ho t i j hi hj hij h)) ?_
  ((conv => whnf); repeat ((first | refine B0 ?_ | refine B1 ?_ | refine D1 ?_ | refine D2 ?_ | refine CallC.r ?_); conv => whnf))
  exact ResOK.same rfl

theorem s_CloneIntD (xs : List Int) (hb : xs.length ≤ 1048576) : Sat Tryz.prog 120 [(false, Enc.enc xs)] (.one (.ds 0), [(0, .deep true 1 (xs.map Enc.enc))]) := by
  have hl : (xs.map (Enc.enc (α := Int))).length = xs.length := by simp
  have hfl : flatRows (xs.map (Enc.enc (α := Int))) := fun r hr c hc => by
    obtain ⟨x, _, rfl⟩ := List.mem_map.1 hr
    have : c = .int .i64 x := by simpa [Enc.enc] using hc
    subst this; rfl
  refine Sat.intro tok mixed Tryz.func120 rfl rfl ?_
  ((conv => whnf); repeat ((first | refine B0 ?_ | refine B1 ?_ | refine D1 ?_ | refine D2 ?_ | refine CallC.r ?_); conv => whnf))
  intro b hb0
  ((conv => whnf); repeat ((first | refine B0 ?_ | refine B1 ?_ | refine D1 ?_ | refine D2 ?_ | refine CallC.r ?_); conv => whnf))
  refine Br.mk (fun h => ?_) (fun h => ?_) <;> ((conv => whnf); repeat ((first | refine B0 ?_ | refine B1 ?_ | refine D1 ?_ | refine D2 ?_ | refine CallC.r ?_); conv => whnf))
  · have e : xs = [] := by simpa using hb0 h
    subst e
    exact ResOK.deep rfl ⟨by simp [flatRows], trivial⟩
  · refine Side.mk (by rw [hl]; simp only [List.length_nil]; omega) ?_
    ((conv => whnf); repeat ((first | refine B0 ?_ | refine B1 ?_ | refine D1 ?_ | refine D2 ?_ | refine CallC.r ?_); conv => whnf))
    exact ResOK.deep rfl ⟨hfl, trivial⟩
theorem s_copyLists (xs : List (List Int)) (hb : xs.length ≤ 1048576) (hc : ∀ x ∈ xs, x.length ≤ 1048576) : Sat Tryz.prog 115 [(false, Enc.enc xs)] (.one (.ds 0), [(0, .deep true 1 (xs.map Enc.enc))]) := by
  refine Sat.intro tok mixed Tryz.func115 rfl rfl ?_
  ((conv => whnf); repeat ((first | refine B0 ?_ | refine B1 ?_ | refine D1 ?_ | refine D2 ?_ | refine CallC.r ?_); conv => whnf))
  refine Pick.mk ([3, 6, 7, 8] ++ [2000192]) trivial ?_
  ((conv => whnf); repeat ((first | refine B0 ?_ | refine B1 ?_ | refine D1 ?_ | refine D2 ?_ | refine CallC.r ?_); conv => whnf))
  refine Side.mk (by simp [flatRows]) ?_
  ((conv => whnf); repeat ((first | refine B0 ?_ | refine B1 ?_ | refine D1 ?_ | refine D2 ?_ | refine CallC.r ?_); conv => whnf))
  refine LoopL.over (fun i : Nat => [(8, .one (.c (.int .i64 (i : Int))))]) (fun i => [(192, .deep true 1 ((xs.take i).map Enc.enc))]) (fun i => xs.length - i) (fun i => i ≤ xs.length) ?_ 0 (Nat.zero_le _)
  intro i hi ih
  ((conv => whnf); repeat ((first | refine B0 ?_ | refine B1 ?_ | refine D1 ?_ | refine D2 ?_ | refine CallC.r ?_); conv => whnf))
  refine Br.mk (fun h => ?_) (fun h => ?_) <;> ((conv => whnf); repeat ((first | refine B0 ?_ | refine B1 ?_ | refine D1 ?_ | refine D2 ?_ | refine CallC.r ?_); conv => whnf))
  · have h : i < xs.length := by simp only [List.length_map, decide_eq_true_eq] at h; omega
    refine Pick.ix (h) ?_
    ((conv => whnf); repeat ((first | refine B0 ?_ | refine B1 ?_ | refine D1 ?_ | refine D2 ?_ | refine CallC.r ?_); conv => whnf))
    refine Pick.mk _ (s_CloneIntD xs[i] (hc _ (List.getElem_mem h))) ?_
    ((conv => whnf); repeat ((first | refine B0 ?_ | refine B1 ?_ | refine D1 ?_ | refine D2 ?_ | refine CallC.r ?_); conv => whnf))
    refine Pick.mk (some true) trivial ?_
    ((conv => whnf); repeat ((first | refine B0 ?_ | refine B1 ?_ | refine D1 ?_ | refine D2 ?_ | refine CallC.r ?_); conv => whnf))
    refine Side.mk (by simp only [List.length_map, List.length_take, List.length_cons, List.length_nil]; omega) ?_
    ((conv => whnf); repeat ((first | refine B0 ?_ | refine B1 ?_ | refine D1 ?_ | refine D2 ?_ | refine CallC.r ?_); conv => whnf))
    refine Pick.at64 (z := (i + 1 : Nat)) (by simp) (by omega) ?_
    ((conv => whnf); repeat ((first | refine B0 ?_ | refine B1 ?_ | refine D1 ?_ | refine D2 ?_ | refine CallC.r ?_); conv => whnf))
    have hn := ih (i + 1) (by omega) (by omega)
    rw [List.take_add_one, List.getElem?_eq_getElem h, Option.toList_some, List.map_append] at hn
    exact hn
  · have h : i = xs.length := by simp only [List.length_map, decide_eq_false_iff_not] at h; omega
    subst h
    exact ResOK.same (by rw [List.take_length])
theorem s_copyComplex (c : Complex) (hb : c.simplices.length ≤ 1048576) (hc : ∀ x ∈ c.simplices, x.length ≤ 1048576) : Sat Tryz.prog 56 [(true, Enc.enc c)] (.agg [.ds 0], [(0, .deep true 1 (c.simplices.map Enc.enc))]) := by
  refine Sat.intro tok mixed Tryz.func56 rfl rfl ?_
  ((conv => whnf); repeat ((first | refine B0 ?_ | refine B1 ?_ | refine D1 ?_ | refine D2 ?_ | refine CallC.r ?_); conv => whnf))
  refine Pick.mk _ (s_copyLists c.simplices hb hc) ?_
  ((conv => whnf); repeat ((first | refine B0 ?_ | refine B1 ?_ | refine D1 ?_ | refine D2 ?_ | refine CallC.r ?_); conv => whnf))
  exact ResOK.same rfl
theorem s_l05Skeleton (c : Complex) (hb : c.simplices.length ≤ 1048576) (hc : ∀ x ∈ c.simplices, x.length ≤ 4) : Sat Tryz.prog 54 [(false, [.ptr 1 (Enc.enc c)]), (false, [.int .i64 3])] (.agg [.c (.slice 1 (c.simplices.map Enc.enc))], []) := by
  refine Sat.intro tok mixed Tryz.func54 rfl rfl ?_
  ((conv => whnf); repeat ((first | refine B0 ?_ | refine B1 ?_ | refine D1 ?_ | refine D2 ?_ | refine CallC.r ?_); conv => whnf))
  refine Pick.mk [0, 1, 4, 5, 6] trivial ?_
  ((conv => whnf); repeat ((first | refine B0 ?_ | refine B1 ?_ | refine D1 ?_ | refine D2 ?_ | refine CallC.r ?_); conv => whnf))
  refine LoopL.over (fun (i : Nat) => [(6, .one (.c (.int .i64 ((i : Int)))))]) (fun (i : Nat) => [(352, .arr 1 (List.map Enc.enc (c.simplices.take i)))]) (fun (i : Nat) => c.simplices.length - i) (fun (i : Nat) => i ≤ c.simplices.length) ?_ 0 (Nat.zero_le _)
  intro i hi ih
  ((conv => whnf); repeat ((first | refine B0 ?_ | refine B1 ?_ | refine D1 ?_ | refine D2 ?_ | refine CallC.r ?_); conv => whnf))
  refine Br.mk (fun h => ?_) (fun h => ?_) <;> ((conv => whnf); repeat ((first | refine B0 ?_ | refine B1 ?_ | refine D1 ?_ | refine D2 ?_ | refine CallC.r ?_); conv => whnf))
  · have h : i < c.simplices.length := by simp only [List.length_map, decide_eq_true_eq] at h; omega
    have hx := hc _ (List.getElem_mem h)
    refine Pick.ix (h) ?_
    ((conv => whnf); repeat ((first | refine B0 ?_ | refine B1 ?_ | refine D1 ?_ | refine D2 ?_ | refine CallC.r ?_); conv => whnf))
    refine Pick.at64 (z := 4) rfl (by omega) ?_
    ((conv => whnf); repeat ((first | refine B0 ?_ | refine B1 ?_ | refine CallC.r ?_); conv => whnf))
    refine Br.mk (fun _ => ?_) (fun h4 => absurd h4 (by simp; omega))
    ((conv => whnf); repeat ((first | refine B0 ?_ | refine B1 ?_ | refine CallC.r ?_); conv => whnf))
    refine Pick.drawC 9 (by kernel_rfl) ?_
    ((conv => whnf); repeat ((first | refine B0 ?_ | refine B1 ?_ | refine D1 ?_ | refine D2 ?_ | refine CallC.r ?_); conv => whnf))
    refine Pick.ix (h) ?_
    ((conv => whnf); repeat ((first | refine B0 ?_ | refine B1 ?_ | refine D1 ?_ | refine D2 ?_ | refine CallC.r ?_); conv => whnf))
    refine Pick.mk _ ((s_ownInt c.simplices[i] (by omega)).frz rfl) ?_
    ((conv => whnf); repeat ((first | refine B0 ?_ | refine B1 ?_ | refine D1 ?_ | refine D2 ?_ | refine CallC.r ?_); conv => whnf))
    refine Side.mk (by simp only [List.length_map, List.length_take, List.length_cons, List.length_nil]; omega) ?_
    ((conv => whnf); repeat ((first | refine B0 ?_ | refine B1 ?_ | refine D1 ?_ | refine D2 ?_ | refine CallC.r ?_); conv => whnf))
    refine Pick.at64 (z := (i + 1 : Nat)) (by simp) (by omega) ?_
    ((conv => whnf); repeat ((first | refine B0 ?_ | refine B1 ?_ | refine D1 ?_ | refine D2 ?_ | refine CallC.r ?_); conv => whnf))
    have hn := ih (i + 1) (by omega) (by omega)
    rw [List.take_add_one, List.getElem?_eq_getElem h, Option.toList_some, List.map_append] at hn
    exact hn
  · have h : i = c.simplices.length := by simp only [List.length_map, decide_eq_false_iff_not] at h; omega
    subst h
    rw [List.take_length]
    exact ResOK.frz rfl rfl
theorem named_cases {α : Type} {f : α → ByteArray} {xs : List α} (ho : Ord f xs) (t : ByteArray) : (hitOf (fun x => cmpB (f x) t) xs = false ∧ atName f xs t = -1 ∧ xs.find? (fun c => (f c).toList == t.toList) = none) ∨ ∃ (k : Nat) (hk : k < xs.length), hitOf (fun x => cmpB (f x) t) xs = true ∧ posOf (fun x => cmpB (f x) t) xs = k ∧ atName f xs t = k ∧ xs.find? (fun c => (f c).toList == t.toList) = some xs[k] := by
  have h1 := hit_at ho t
  have h2 := first_cases (fun c => (f c).toList == t.toList) xs
  have e : atName f xs t = firstIx (fun c => (f c).toList == t.toList) xs 0 := rfl
  rcases h2 with ⟨a1, a2, _⟩ | ⟨k, hk, a1, a2, _⟩
  · rcases h1 with ⟨_, b2, _⟩ | ⟨b1, b2⟩
    · omega
    · exact Or.inl ⟨b1, b2, a2⟩
  · rcases h1 with ⟨b1, b2, _⟩ | ⟨b1, b2⟩
    · exact Or.inr ⟨k, hk, b1, by omega, by omega, a2⟩
    · omega
end Go.Proofs.YtlnjgoeicanehaaGreat.Pi
