/- The line of a version, the nearest common version; the reference and the program. No statement of the seat is proved here. -/
import Derived.Test.YtjolahiflldepabPiFHeads
namespace Go.Proofs.Ytjolahiflldepab.Pi
open Go
set_option maxRecDepth 10000
set_option linter.unusedVariables false

theorem okHistory_get {xs : List Version} (h : okHistory xs = true) (i : Nat) (hi : i < xs.length) : okVersion i xs[i] = true := by
  simp only [okHistory, Bool.and_eq_true] at h
  cases hv : okVersion i xs[i] with
  | true => rfl
  | false =>
    have := allIx_no (p := okVersion) (k := 0) (i := i) (List.getElem?_eq_getElem hi) (by rw [Nat.zero_add]; exact hv)
    rw [this] at h; cases h.1
theorem okVersion_parent {i : Nat} {x : Version} (h : okVersion i x = true) : x.number = (i : Int) + 1 ∧ 0 ≤ x.parent ∧ x.parent ≤ i := by
  simp only [okVersion, Bool.and_eq_true, decide_eq_true_eq, beq_iff_eq] at h
  exact ⟨h.1, h.2.1.1, h.2.1.2⟩

/-- The parent of a number. -/
def up (xs : List Version) (n : Int) : Int := match xs[(n - 1).toNat]? with | some v => v.parent | none => 0
/-- A number and those from which it comes. -/
def line (xs : List Version) : Nat → Int → List Int
  | 0, _ => []
  | f + 1, n => if 0 < n then n :: line xs f (up xs n) else []

theorem up_at {xs : List Version} {n : Int} (h1 : 1 ≤ n) (h2 : n ≤ xs.length) : ∃ h : (n - 1).toNat < xs.length, up xs n = xs[(n - 1).toNat].parent := by
  have h : (n - 1).toNat < xs.length := by omega
  exact ⟨h, by simp only [up, List.getElem?_eq_getElem h]⟩
theorem up_ok {xs : List Version} (hk : okHistory xs = true) {n : Int} (h1 : 1 ≤ n) (h2 : n ≤ xs.length) : 0 ≤ up xs n ∧ up xs n ≤ n - 1 := by
  obtain ⟨h, e⟩ := up_at h1 h2
  obtain ⟨_, h3, h4⟩ := okVersion_parent (okHistory_get hk _ h)
  rw [e]; omega
theorem line_zero {xs : List Version} {f : Nat} {n : Int} (h : n ≤ 0) : line xs f n = [] := by
  cases f with
  | zero => rfl
  | succ f => simp only [line]; rw [if_neg (by omega)]
theorem line_step {xs : List Version} {f : Nat} {n : Int} (h : 0 < n) : line xs (f + 1) n = n :: line xs f (up xs n) := by
  simp only [line]; rw [if_pos h]
theorem line_fuel {xs : List Version} (hk : okHistory xs = true) : ∀ {f g : Nat} {n : Int}, n ≤ xs.length → n ≤ f → n ≤ g → line xs f n = line xs g n
  | 0, g, n, _, h, _ => by rw [line_zero (by omega), line_zero (by omega)]
  | f + 1, 0, n, _, _, h => by rw [line_zero (by omega), line_zero (by omega)]
  | f + 1, g + 1, n, h0, h1, h2 => by
    by_cases h : 0 < n
    · obtain ⟨h3, h4⟩ := up_ok hk (n := n) (by omega) h0
      rw [line_step h, line_step h, line_fuel hk (f := f) (g := g) (by omega) (by omega) (by omega)]
    · rw [line_zero (by omega), line_zero (by omega)]
theorem line_len (xs : List Version) : ∀ (f : Nat) (n : Int), (line xs f n).length ≤ f
  | 0, n => by simp [line]
  | f + 1, n => by
    simp only [line]
    split
    · have := line_len xs f (up xs n); simp; omega
    · simp

theorem s_lineOf (xs : List Version) (hk : okHistory xs = true) (n : Int) (h0 : 0 ≤ n) (h1 : n ≤ xs.length) : Sat Try.prog 104 [(false, Enc.enc xs), (false, [.int .i64 n])] (.one (.c (.slice 1 ((line xs 32 n).map Enc.enc))), []) := by
  have h32 := okHistory_len hk
  refine Sat.intro tok mixed Try.func104 rfl rfl ?_
  ((conv => whnf); repeat ((first | refine B0 ?_ | refine B1 ?_ | refine D1 ?_ | refine D2 ?_ | refine CallC.r ?_); conv => whnf))
  refine Pick.mk [0, 1, 5] trivial ?_
  ((conv => whnf); repeat ((first | refine B0 ?_ | refine B1 ?_ | refine D1 ?_ | refine D2 ?_ | refine CallC.r ?_); conv => whnf))
  refine LoopL.run (fun p : Int × List Int => St.mk [.one (.c (.slice 4 (xs.map Enc.enc))), .one (.c (.int .i64 p.1)), .one .dead, .one .dead, .one .dead, .one (.rs 320), .one .dead, .one .dead, .one .dead, .one .dead, .one .dead, .one .dead, .one .dead, .one .dead, .one .dead, .one .dead, .one .dead, .one .dead, .one .dead] [(320, .arr 1 (p.2.map Enc.enc))]) (fun p => p.1.toNat) (fun p => 0 ≤ p.1 ∧ p.1 ≤ xs.length ∧ p.2.length + p.1 ≤ 32 ∧ p.2 ++ line xs 32 p.1 = line xs 32 n) ?_ (n, []) ⟨h0, h1, by simp; omega, by simp⟩
  intro ⟨m, acc⟩ ⟨h2, h3, h4, h5⟩ ih
  simp only at h2 h3 h4 h5
  ((conv => whnf); repeat ((first | refine B0 ?_ | refine B1 ?_ | refine D1 ?_ | refine D2 ?_ | refine CallC.r ?_); conv => whnf))
  refine Br.mk (fun h => ?_) (fun h => ?_) <;> ((conv => whnf); repeat ((first | refine B0 ?_ | refine B1 ?_ | refine D1 ?_ | refine D2 ?_ | refine CallC.r ?_); conv => whnf))
  · simp at h
    obtain ⟨hix, e⟩ := up_at (xs := xs) (n := m) (by omega) h3
    obtain ⟨g1, g2⟩ := up_ok hk (n := m) (by omega) h3
    have e2 : line xs 32 m = m :: line xs 32 (up xs m) := by
      rw [line_fuel hk h3 (g := 33) (by omega) (by omega), line_step h]
    refine Side.mk (by simp only [List.length_map, List.length_cons, List.length_nil]; omega) ?_
    ((conv => whnf); repeat ((first | refine B0 ?_ | refine B1 ?_ | refine D1 ?_ | refine D2 ?_ | refine CallC.r ?_); conv => whnf))
    refine Pick.at64 (z := m - 1) rfl (by omega) ?_
    ((conv => whnf); repeat ((first | refine B0 ?_ | refine B1 ?_ | refine D1 ?_ | refine D2 ?_ | refine CallC.r ?_); conv => whnf))
    refine Pick.mk (Enc.enc xs[(m - 1).toNat]) ⟨by omega, by rw [List.getElem?_map, List.getElem?_eq_getElem hix]; rfl⟩ ?_
    ((conv => whnf); repeat ((first | refine B0 ?_ | refine B1 ?_ | refine D1 ?_ | refine D2 ?_ | refine CallC.r ?_); conv => whnf))
    have hn := ih (up xs m, acc ++ [m]) ⟨g1, by simp only []; omega, by simp; omega, by simp only [List.append_assoc, List.cons_append, List.nil_append]; rw [← e2]; exact h5⟩ (by simp only []; omega)
    simp only [e, List.map_append] at hn
    exact hn
  · simp at h
    rw [line_zero (by omega), List.append_nil] at h5
    exact ResOK.frz (by rw [← h5]; rfl) rfl

theorem s_l27Above (xs : List Version) (hk : okHistory xs = true) (n : Int) (h0 : 1 ≤ n) (h1 : n ≤ xs.length) : Sat Try.prog 95 [(false, Enc.enc xs), (false, [.int .i64 n])] (.one (.c (.slice 1 ((line xs 32 (up xs n)).map Enc.enc))), []) := by
  have h32 := okHistory_len hk
  refine Sat.intro tok mixed Try.func95 rfl rfl ?_
  ((conv => whnf); repeat ((first | refine B0 ?_ | refine B1 ?_ | refine D1 ?_ | refine D2 ?_ | refine CallC.r ?_); conv => whnf))
  refine Pick.mk [0, 1, 5] trivial ?_
  ((conv => whnf); repeat ((first | refine B0 ?_ | refine B1 ?_ | refine D1 ?_ | refine D2 ?_ | refine CallC.r ?_); conv => whnf))
  refine LoopL.run (fun p : Int × List Int => St.mk [.one (.c (.slice 4 (xs.map Enc.enc))), .one (.c (.int .i64 p.1)), .one .dead, .one .dead, .one .dead, .one (.rs 320), .one .dead, .one .dead, .one .dead, .one .dead, .one .dead, .one .dead, .one .dead, .one .dead, .one .dead, .one .dead, .one .dead, .one .dead, .one .dead, .one .dead, .one .dead, .one .dead] [(320, .arr 1 (p.2.map Enc.enc))]) (fun p => p.1.toNat) (fun p => 0 ≤ p.1 ∧ p.1 ≤ xs.length ∧ p.2.length + p.1 ≤ 32 ∧ p.2 ++ line xs 32 (if 0 < p.1 then up xs p.1 else 0) = line xs 32 (up xs n)) ?_ (n, []) ⟨by simp only []; omega, h1, by simp; omega, by simp only []; rw [if_pos (by omega)]; rfl⟩
  intro ⟨m, acc⟩ ⟨h2, h3, h4, h5⟩ ih
  simp only at h2 h3 h4 h5
  ((conv => whnf); repeat ((first | refine B0 ?_ | refine B1 ?_ | refine D1 ?_ | refine D2 ?_ | refine CallC.r ?_); conv => whnf))
  refine Br.mk (fun h => ?_) (fun h => ?_) <;> ((conv => whnf); repeat ((first | refine B0 ?_ | refine B1 ?_ | refine D1 ?_ | refine D2 ?_ | refine CallC.r ?_); conv => whnf))
  · simp at h
    have hm : 0 < m := by omega
    rw [if_pos hm] at h5
    obtain ⟨hix, e⟩ := up_at (xs := xs) (n := m) (by omega) h3
    obtain ⟨g1, g2⟩ := up_ok hk (n := m) (by omega) h3
    refine Pick.at64 (z := m - 1) rfl (by omega) ?_
    ((conv => whnf); repeat ((first | refine B0 ?_ | refine B1 ?_ | refine D1 ?_ | refine D2 ?_ | refine CallC.r ?_); conv => whnf))
    refine Pick.mk (Enc.enc xs[(m - 1).toNat]) ⟨by omega, by rw [List.getElem?_map, List.getElem?_eq_getElem hix]; rfl⟩ ?_
    ((conv => whnf); repeat ((first | refine B0 ?_ | refine B1 ?_ | refine D1 ?_ | refine D2 ?_ | refine CallC.r ?_); conv => whnf))
    refine Br.mk (fun h6 => ?_) (fun h6 => ?_) <;> ((conv => whnf); repeat ((first | refine B0 ?_ | refine B1 ?_ | refine D1 ?_ | refine D2 ?_ | refine CallC.r ?_); conv => whnf))
    · have h7 : up xs m ≠ 0 := by rw [e]; simpa using h6
      have hu : 0 < up xs m := by omega
      have e2 : line xs 32 (up xs m) = up xs m :: line xs 32 (up xs (up xs m)) := by
        rw [line_fuel hk (f := 32) (g := 33) (by omega) (by omega) (by omega), line_step hu]
      refine Side.mk (by simp only [List.length_map, List.length_cons, List.length_nil]; omega) ?_
      ((conv => whnf); repeat ((first | refine B0 ?_ | refine B1 ?_ | refine D1 ?_ | refine D2 ?_ | refine CallC.r ?_); conv => whnf))
      have hn := ih (up xs m, acc ++ [up xs m]) ⟨g1, by simp only []; omega, by simp; omega, by simp only [List.append_assoc, List.cons_append, List.nil_append]; rw [if_pos hu, ← e2]; exact h5⟩ (by simp only []; omega)
      simp only [e, List.map_append] at hn
      exact hn
    · have hu : up xs m = 0 := by rw [e]; simpa using h6
      have hn := ih (up xs m, acc) ⟨g1, by simp only []; omega, by simp only []; omega, by rw [hu] at h5 ⊢; simpa using h5⟩ (by simp only []; omega)
      simp only [e] at hn
      exact hn
  · simp at h
    rw [if_neg (by omega), line_zero (by omega), List.append_nil] at h5
    exact ResOK.frz (by rw [← h5]; rfl) rfl

/-- The nearest common version, or 0. -/
def common (xs : List Version) (a b : Int) : Int := ((line xs 32 a).find? fun x => (line xs 32 b).any fun y => x == y).getD 0
def commonOf (xs : List Version) (a b : Int) : Int × Int := if askC xs [a, b] = 0 then (common xs a b, 0) else (0, askC xs [a, b])

theorem askC_ok {xs : List Version} {ns : List Int} (h : askC xs ns = 0) : okHistory xs = true ∧ ∀ n ∈ ns, 1 ≤ n ∧ n ≤ xs.length := by
  unfold askC at h
  split at h
  · rename_i hk
    split at h
    · cases h
    · rename_i hn
      refine ⟨hk, fun n hm => ?_⟩
      simp only [Bool.not_eq_true, List.any_eq_false] at hn
      have := hn n hm
      simp [okNum] at this
      exact this
  · cases h

theorem s_IndexInt64 (xs : List Int) (v : Int) (hb : xs.length ≤ maxLen) : Sat Try.prog 136 [(false, Enc.enc xs), (false, [.int .i64 v])] (.one (.c (.int .i64 (firstIx (fun x => v == x) xs 0))), []) := by
  simp only [maxLen] at hb
  have hl : (xs.map (Enc.enc (α := Int))).length = xs.length := by simp
  refine Sat.intro tok mixed Try.func136 rfl rfl ?_
  ((conv => whnf); repeat ((first | refine B0 ?_ | refine B1 ?_ | refine D1 ?_ | refine D2 ?_ | refine CallC.r ?_); conv => whnf))
  refine Pick.mk [0, 1, 7, 8] trivial ?_
  ((conv => whnf); repeat ((first | refine B0 ?_ | refine B1 ?_ | refine D1 ?_ | refine D2 ?_ | refine CallC.r ?_); conv => whnf))
  refine LoopL.run (fun i : Nat => St.mk [.one (.c (.slice 1 (xs.map Enc.enc))), .one (.c (.int .i64 v)), .one .dead, .one .dead, .one .dead, .one .dead, .one .dead, .one (.c (.int .i64 (xs.map (Enc.enc (α := Int))).length)), .one (.c (.int .i64 i)), .one .dead, .one .dead, .one .dead, .one .dead, .one .dead, .one .dead, .one .dead, .one .dead, .one .dead, .one .dead] []) (fun i => xs.length - i) (fun i => i ≤ xs.length ∧ ∀ (j : Nat) (h : j < xs.length), j < i → (v == xs[j]) = false) ?_ 0 ⟨Nat.zero_le _, by intros; omega⟩
  intro i ⟨h2, h3⟩ ih
  ((conv => whnf); repeat ((first | refine B0 ?_ | refine B1 ?_ | refine D1 ?_ | refine D2 ?_ | refine CallC.r ?_); conv => whnf))
  refine Br.mk (fun h => ?_) (fun h => ?_) <;> ((conv => whnf); repeat ((first | refine B0 ?_ | refine B1 ?_ | refine D1 ?_ | refine D2 ?_ | refine CallC.r ?_); conv => whnf))
  · simp at h
    refine Pick.ix h ?_
    ((conv => whnf); repeat ((first | refine B0 ?_ | refine B1 ?_ | refine D1 ?_ | refine D2 ?_ | refine CallC.r ?_); conv => whnf))
    refine Br.mk (fun h5 => ?_) (fun h5 => ?_) <;> ((conv => whnf); repeat ((first | refine B0 ?_ | refine B1 ?_ | refine D1 ?_ | refine D2 ?_ | refine CallC.r ?_); conv => whnf))
    · exact ResOK.same (by rw [firstIx_at h h5 h3, Nat.zero_add])
    · refine Pick.at64 (z := (i + 1 : Nat)) (by simp) (by omega) ?_
      ((conv => whnf); repeat ((first | refine B0 ?_ | refine B1 ?_ | refine D1 ?_ | refine D2 ?_ | refine CallC.r ?_); conv => whnf))
      refine ih (i + 1) ⟨by omega, fun j h1 h6 => ?_⟩ (by omega)
      by_cases hj : j < i
      · exact h3 j h1 hj
      · obtain rfl : j = i := by omega
        exact h5
  · simp at h
    exact ResOK.same (by rw [firstIx_none fun j h1 => h3 j h1 (by omega)])

theorem s_ContainsInt64 (xs : List Int) (v : Int) (hb : xs.length ≤ maxLen) : Sat Try.prog 105 [(false, Enc.enc xs), (false, [.int .i64 v])] (.one (.c (.bool (xs.any fun x => v == x))), []) := by
  refine Sat.intro tok mixed Try.func105 rfl rfl ?_
  ((conv => whnf); repeat ((first | refine B0 ?_ | refine B1 ?_ | refine D1 ?_ | refine D2 ?_ | refine CallC.r ?_); conv => whnf))
  refine Pick.mk _ (s_IndexInt64 xs v hb) ?_
  ((conv => whnf); repeat ((first | refine B0 ?_ | refine B1 ?_ | refine D1 ?_ | refine D2 ?_ | refine CallC.r ?_); conv => whnf))
  exact ResOK.same (by rw [firstIx_any])

theorem s_l00Has (xs : List Int) (v : Int) (hb : xs.length ≤ maxLen) : Sat Try.prog 96 [(false, Enc.enc xs), (false, [.int .i64 v])] (.one (.c (.bool (xs.any fun x => v == x))), []) := by
  simp only [maxLen] at hb
  have hl : (xs.map (Enc.enc (α := Int))).length = xs.length := by simp
  refine Sat.intro tok mixed Try.func96 rfl rfl ?_
  ((conv => whnf); repeat ((first | refine B0 ?_ | refine B1 ?_ | refine D1 ?_ | refine D2 ?_ | refine CallC.r ?_); conv => whnf))
  refine Pick.mk [0, 1, 5] trivial ?_
  ((conv => whnf); repeat ((first | refine B0 ?_ | refine B1 ?_ | refine D1 ?_ | refine D2 ?_ | refine CallC.r ?_); conv => whnf))
  refine LoopL.run (fun i : Nat => St.mk [.one (.c (.slice 1 (xs.map Enc.enc))), .one (.c (.int .i64 v)), .one .dead, .one .dead, .one .dead, .one (.c (.int .i64 i)), .one .dead, .one .dead, .one .dead, .one .dead, .one .dead, .one .dead, .one .dead, .one .dead, .one .dead, .one .dead, .one .dead, .one .dead] []) (fun i => xs.length - i) (fun i => i ≤ xs.length ∧ ∀ (j : Nat) (h : j < xs.length), j < i → (v == xs[j]) = false) ?_ 0 ⟨Nat.zero_le _, by intros; omega⟩
  intro i ⟨h2, h3⟩ ih
  ((conv => whnf); repeat ((first | refine B0 ?_ | refine B1 ?_ | refine D1 ?_ | refine D2 ?_ | refine CallC.r ?_); conv => whnf))
  refine Br.mk (fun h => ?_) (fun h => ?_) <;> ((conv => whnf); repeat ((first | refine B0 ?_ | refine B1 ?_ | refine D1 ?_ | refine D2 ?_ | refine CallC.r ?_); conv => whnf))
  · simp at h
    refine Pick.ix h ?_
    ((conv => whnf); repeat ((first | refine B0 ?_ | refine B1 ?_ | refine D1 ?_ | refine D2 ?_ | refine CallC.r ?_); conv => whnf))
    refine Br.mk (fun h5 => ?_) (fun h5 => ?_) <;> ((conv => whnf); repeat ((first | refine B0 ?_ | refine B1 ?_ | refine D1 ?_ | refine D2 ?_ | refine CallC.r ?_); conv => whnf))
    · simp at h5
      exact ResOK.same (by rw [List.any_eq_true.2 ⟨xs[i], List.getElem_mem h, by simpa using h5.symm⟩])
    · refine Pick.at64 (z := (i + 1 : Nat)) (by simp) (by omega) ?_
      ((conv => whnf); repeat ((first | refine B0 ?_ | refine B1 ?_ | refine D1 ?_ | refine D2 ?_ | refine CallC.r ?_); conv => whnf))
      refine ih (i + 1) ⟨by omega, fun j h1 h6 => ?_⟩ (by omega)
      by_cases hj : j < i
      · exact h3 j h1 hj
      · obtain rfl : j = i := by omega
        simp at h5 ⊢
        exact fun e => h5 e.symm
  · simp at h
    have : (xs.any fun x => v == x) = false := by
      rw [List.any_eq_false]
      intro x hx
      obtain ⟨j, hj, rfl⟩ := List.getElem_of_mem hx
      rw [h3 j hj (by omega)]; simp
    exact ResOK.same (by rw [this])

theorem find_at {α : Type} {p : α → Bool} : ∀ {l : List α} {i : Nat} (h : i < l.length), (∀ (j : Nat) (hj : j < l.length), j < i → p l[j] = false) → p l[i] = true → l.find? p = some l[i]
  | x :: l, 0, _, _, e => by simp only [List.getElem_cons_zero] at e ⊢; simp [List.find?, e]
  | x :: l, i + 1, h, hn, e => by
    have h0 := hn 0 (by simp) (by omega)
    simp only [List.getElem_cons_zero] at h0
    have := find_at (p := p) (l := l) (i := i) (by simpa using h) (fun j hj hji => hn (j + 1) (by simpa using hj) (by omega)) (by simpa using e)
    simp only [List.find?, h0, List.getElem_cons_succ]; exact this
theorem find_none {α : Type} {p : α → Bool} {l : List α} (h : ∀ (j : Nat) (hj : j < l.length), p l[j] = false) : l.find? p = none := by
  rw [List.find?_eq_none]
  intro x hx
  obtain ⟨j, hj, rfl⟩ := List.getElem_of_mem hx
  rw [h j hj]; simp

theorem s_commonAncestor (xs : List Version) (hk : okHistory xs = true) (a b : Int) (ha0 : 0 ≤ a) (ha : a ≤ xs.length) (hb0 : 0 ≤ b) (hb : b ≤ xs.length) : Sat Try.prog 63 [(false, Enc.enc xs), (false, [.int .i64 a]), (false, [.int .i64 b])] (.one (.c (.int .i64 (common xs a b))), []) := by
  have hla := line_len xs 32 a
  have hlb := line_len xs 32 b
  refine Sat.intro tok mixed Try.func63 rfl rfl ?_
  ((conv => whnf); repeat ((first | refine B0 ?_ | refine B1 ?_ | refine D1 ?_ | refine D2 ?_ | refine CallC.r ?_); conv => whnf))
  refine Pick.mk _ (s_lineOf xs hk b hb0 hb) ?_
  ((conv => whnf); repeat ((first | refine B0 ?_ | refine B1 ?_ | refine D1 ?_ | refine D2 ?_ | refine CallC.r ?_); conv => whnf))
  refine Pick.mk _ (s_lineOf xs hk a ha0 ha) ?_
  ((conv => whnf); repeat ((first | refine B0 ?_ | refine B1 ?_ | refine D1 ?_ | refine D2 ?_ | refine CallC.r ?_); conv => whnf))
  refine Pick.mk [7, 15, 16, 17] trivial ?_
  ((conv => whnf); repeat ((first | refine B0 ?_ | refine B1 ?_ | refine D1 ?_ | refine D2 ?_ | refine CallC.r ?_); conv => whnf))
  refine LoopL.run (fun i : Nat => St.mk [.one .dead, .one .dead, .one .dead, .one .dead, .one .dead, .one .dead, .one .dead, .one (.c (.slice 1 ((line xs 32 b).map Enc.enc))), .one .dead, .one .dead, .one .dead, .one .dead, .one .dead, .one .dead, .one .dead, .one (.c (.slice 1 ((line xs 32 a).map Enc.enc))), .one (.c (.int .i64 ((line xs 32 a).map (Enc.enc (α := Int))).length)), .one (.c (.int .i64 i)), .one .dead, .one .dead, .one .dead, .one .dead, .one .dead, .one .dead, .one .dead, .one .dead] []) (fun i => (line xs 32 a).length - i) (fun i => i ≤ (line xs 32 a).length ∧ ∀ (j : Nat) (h : j < (line xs 32 a).length), j < i → ((line xs 32 b).any fun y => (line xs 32 a)[j] == y) = false) ?_ 0 ⟨Nat.zero_le _, by intros; omega⟩
  intro i ⟨h2, h3⟩ ih
  ((conv => whnf); repeat ((first | refine B0 ?_ | refine B1 ?_ | refine D1 ?_ | refine D2 ?_ | refine CallC.r ?_); conv => whnf))
  refine Br.mk (fun h => ?_) (fun h => ?_) <;> ((conv => whnf); repeat ((first | refine B0 ?_ | refine B1 ?_ | refine D1 ?_ | refine D2 ?_ | refine CallC.r ?_); conv => whnf))
  · simp at h
    refine Pick.ix h ?_
    ((conv => whnf); repeat ((first | refine B0 ?_ | refine B1 ?_ | refine D1 ?_ | refine D2 ?_ | refine CallC.r ?_); conv => whnf))
    refine Pick.mk _ (s_ContainsInt64 (line xs 32 b) (line xs 32 a)[i] (by simp only [maxLen]; omega)) ?_
    ((conv => whnf); repeat ((first | refine B0 ?_ | refine B1 ?_ | refine D1 ?_ | refine D2 ?_ | refine CallC.r ?_); conv => whnf))
    refine Br.mk (fun h5 => ?_) (fun h5 => ?_) <;> ((conv => whnf); repeat ((first | refine B0 ?_ | refine B1 ?_ | refine D1 ?_ | refine D2 ?_ | refine CallC.r ?_); conv => whnf))
    · exact ResOK.same (by simp only [common]; rw [find_at h h3 h5]; rfl)
    · refine Pick.at64 (z := (i + 1 : Nat)) (by simp) (by omega) ?_
      ((conv => whnf); repeat ((first | refine B0 ?_ | refine B1 ?_ | refine D1 ?_ | refine D2 ?_ | refine CallC.r ?_); conv => whnf))
      refine ih (i + 1) ⟨by omega, fun j h1 h6 => ?_⟩ (by omega)
      by_cases hj : j < i
      · exact h3 j h1 hj
      · obtain rfl : j = i := by omega
        exact h5
  · simp at h
    exact ResOK.same (by simp only [common]; rw [find_none fun j h1 => h3 j h1 (by omega)]; rfl)

theorem s_l27Common (xs : List Version) (hk : okHistory xs = true) (a b : Int) (ha0 : 1 ≤ a) (ha : a ≤ xs.length) (hb0 : 1 ≤ b) (hb : b ≤ xs.length) : Sat Try.prog 57 [(false, Enc.enc xs), (false, [.int .i64 a]), (false, [.int .i64 b])] (.one (.c (.int .i64 (common xs a b))), []) := by
  have hla := line_len xs 32 a
  have hlb := line_len xs 32 b
  have h32 := okHistory_len hk
  have ea : line xs 32 a = a :: line xs 32 (up xs a) := by
    obtain ⟨g1, g2⟩ := up_ok hk (n := a) (by omega) ha
    rw [line_fuel hk ha (g := 33) (by omega) (by omega), line_step (by omega)]
  have eb : line xs 32 b = b :: line xs 32 (up xs b) := by
    obtain ⟨g1, g2⟩ := up_ok hk (n := b) (by omega) hb
    rw [line_fuel hk hb (g := 33) (by omega) (by omega), line_step (by omega)]
  have hua := line_len xs 32 (up xs a)
  have hub := line_len xs 32 (up xs b)
  refine Sat.intro tok mixed Try.func57 rfl rfl ?_
  ((conv => whnf); repeat ((first | refine B0 ?_ | refine B1 ?_ | refine D1 ?_ | refine D2 ?_ | refine CallC.r ?_); conv => whnf))
  refine Pick.mk _ (s_l27Above xs hk a ha0 ha) ?_
  ((conv => whnf); repeat ((first | refine B0 ?_ | refine B1 ?_ | refine D1 ?_ | refine D2 ?_ | refine CallC.r ?_); conv => whnf))
  refine Side.mk (by simp only [List.length_map, List.length_cons, List.length_nil]; omega) ?_
  ((conv => whnf); repeat ((first | refine B0 ?_ | refine B1 ?_ | refine D1 ?_ | refine D2 ?_ | refine CallC.r ?_); conv => whnf))
  refine Pick.mk _ (s_l27Above xs hk b hb0 hb) ?_
  ((conv => whnf); repeat ((first | refine B0 ?_ | refine B1 ?_ | refine D1 ?_ | refine D2 ?_ | refine CallC.r ?_); conv => whnf))
  refine Side.mk (by simp only [List.length_map, List.length_cons, List.length_nil]; omega) ?_
  ((conv => whnf); repeat ((first | refine B0 ?_ | refine B1 ?_ | refine D1 ?_ | refine D2 ?_ | refine CallC.r ?_); conv => whnf))
  refine Pick.mk [7, 8, 9] trivial ?_
  ((conv => whnf); repeat ((first | refine B0 ?_ | refine B1 ?_ | refine D1 ?_ | refine D2 ?_ | refine CallC.r ?_); conv => whnf))
  refine LoopL.run (fun i : Nat => St.mk [.one .dead, .one .dead, .one .dead, .one .dead, .one .dead, .one .dead, .one .dead, .one (.rs 448), .one (.rs 512), .one (.c (.int .i64 i)), .one .dead, .one .dead, .one .dead, .one .dead, .one .dead, .one .dead, .one .dead, .one .dead, .one .dead, .one .dead, .one .dead, .one .dead, .one .dead, .one .dead, .one .dead, .one .dead, .one .dead, .one .dead, .one .dead, .one .dead, .one .dead, .one .dead, .one .dead, .one .dead, .one .dead, .one .dead, .one .dead, .one .dead] [(448, .arr 1 ((line xs 32 a).map Enc.enc)), (512, .arr 1 ((line xs 32 b).map Enc.enc))]) (fun i => (line xs 32 a).length - i) (fun i => i ≤ (line xs 32 a).length ∧ ∀ (j : Nat) (h : j < (line xs 32 a).length), j < i → ((line xs 32 b).any fun y => (line xs 32 a)[j] == y) = false) ?_ 0 ⟨Nat.zero_le _, by intros; omega⟩ (by rw [ea, eb]; rfl)
  intro i ⟨h2, h3⟩ ih
  ((conv => whnf); repeat ((first | refine B0 ?_ | refine B1 ?_ | refine D1 ?_ | refine D2 ?_ | refine CallC.r ?_); conv => whnf))
  refine Br.mk (fun h => ?_) (fun h => ?_) <;> ((conv => whnf); repeat ((first | refine B0 ?_ | refine B1 ?_ | refine D1 ?_ | refine D2 ?_ | refine CallC.r ?_); conv => whnf))
  · simp at h
    refine Side.mk (by simp; omega) ?_
    ((conv => whnf); repeat ((first | refine B0 ?_ | refine B1 ?_ | refine D1 ?_ | refine D2 ?_ | refine CallC.r ?_); conv => whnf))
    refine Pick.mk (Enc.enc (line xs 32 a)[i]) (by rw [show ((i : Int).toNat) = i by omega, List.getElem?_map, List.getElem?_eq_getElem h]; rfl) ?_
    ((conv => whnf); repeat ((first | refine B0 ?_ | refine B1 ?_ | refine D1 ?_ | refine D2 ?_ | refine CallC.r ?_); conv => whnf))
    refine Pick.mk _ (s_l00Has (line xs 32 b) (line xs 32 a)[i] (by simp only [maxLen]; omega)) ?_
    ((conv => whnf); repeat ((first | refine B0 ?_ | refine B1 ?_ | refine D1 ?_ | refine D2 ?_ | refine CallC.r ?_); conv => whnf))
    refine Br.mk (fun h5 => ?_) (fun h5 => ?_) <;> ((conv => whnf); repeat ((first | refine B0 ?_ | refine B1 ?_ | refine D1 ?_ | refine D2 ?_ | refine CallC.r ?_); conv => whnf))
    · refine Side.mk (by simp; omega) ?_
      ((conv => whnf); repeat ((first | refine B0 ?_ | refine B1 ?_ | refine D1 ?_ | refine D2 ?_ | refine CallC.r ?_); conv => whnf))
      refine Pick.mk (Enc.enc (line xs 32 a)[i]) (by rw [show ((i : Int).toNat) = i by omega, List.getElem?_map, List.getElem?_eq_getElem h]; rfl) ?_
      ((conv => whnf); repeat ((first | refine B0 ?_ | refine B1 ?_ | refine D1 ?_ | refine D2 ?_ | refine CallC.r ?_); conv => whnf))
      exact ResOK.same (by simp only [common]; rw [find_at h h3 h5]; rfl)
    · refine Pick.at64 (z := (i + 1 : Nat)) (by simp) (by omega) ?_
      ((conv => whnf); repeat ((first | refine B0 ?_ | refine B1 ?_ | refine D1 ?_ | refine D2 ?_ | refine CallC.r ?_); conv => whnf))
      refine ih (i + 1) ⟨by omega, fun j h1 h6 => ?_⟩ (by omega)
      by_cases hj : j < i
      · exact h3 j h1 hj
      · obtain rfl : j = i := by omega
        exact h5
  · simp at h
    exact ResOK.same (by simp only [common]; rw [find_none fun j h1 => h3 j h1 (by omega)]; rfl)

theorem s_impl_CommonAncestor (xs : List Version) (o : Enc.ok xs) (a b : Int) : Sat Try.prog 34 [(false, Enc.enc xs), (false, [.int .i64 a]), (false, [.int .i64 b])] (.tup [(false, [.c (.int .i64 (commonOf xs a b).1)]), (false, [.c (.int .i64 (commonOf xs a b).2)])], []) := by
  refine Sat.intro tok mixed Try.func34 rfl rfl ?_
  ((conv => whnf); repeat ((first | refine B0 ?_ | refine B1 ?_ | refine D1 ?_ | refine D2 ?_ | refine CallC.r ?_); conv => whnf))
  refine Pick.mk _ (s_versioned xs o [a, b] (by simp [maxLen])) ?_
  ((conv => whnf); repeat ((first | refine B0 ?_ | refine B1 ?_ | refine D1 ?_ | refine D2 ?_ | refine CallC.r ?_); conv => whnf))
  refine Br.mk (fun h => ?_) (fun h => ?_) <;> ((conv => whnf); repeat ((first | refine B0 ?_ | refine B1 ?_ | refine D1 ?_ | refine D2 ?_ | refine CallC.r ?_); conv => whnf))
  · simp at h
    exact ResOK.same (by simp only [commonOf]; rw [if_neg h])
  · simp at h
    obtain ⟨hk, hn⟩ := askC_ok h
    have h1 := hn a (by simp)
    have h2 := hn b (by simp)
    refine Pick.mk _ (s_commonAncestor xs hk a b (by omega) h1.2 (by omega) h2.2) ?_
    ((conv => whnf); repeat ((first | refine B0 ?_ | refine B1 ?_ | refine D1 ?_ | refine D2 ?_ | refine CallC.r ?_); conv => whnf))
    exact ResOK.same (by simp only [commonOf]; rw [if_pos h])

theorem s_l27Number (xs : List Version) (n : Int) : Sat Try.prog 55 [(false, Enc.enc xs), (false, [.int .i64 n])] (.one (.c (.bool (okNum xs.length n))), []) := by
  have hl : (xs.map (Enc.enc (α := Version))).length = xs.length := by simp
  refine Sat.intro tok mixed Try.func55 rfl rfl ?_
  ((conv => whnf); repeat ((first | refine B0 ?_ | refine B1 ?_ | refine D1 ?_ | refine D2 ?_ | refine CallC.r ?_); conv => whnf))
  refine Pick.mk _ (s_l00In n 1 (xs.map (Enc.enc (α := Version))).length) ?_
  ((conv => whnf); repeat ((first | refine B0 ?_ | refine B1 ?_ | refine D1 ?_ | refine D2 ?_ | refine CallC.r ?_); conv => whnf))
  exact ResOK.same (by rw [hl]; rfl)

end Go.Proofs.Ytjolahiflldepab.Pi
