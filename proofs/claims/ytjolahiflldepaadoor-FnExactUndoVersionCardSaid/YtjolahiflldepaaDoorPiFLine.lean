/- The line of a version, the nearest common version; the reference and the program. No statement of the seat is proved here. -/
import Derived.Test.YtjolahiflldepaaDoorPiFHeads
namespace Go.Proofs.YtjolahiflldepaaDoor.Pi
open Go
set_option maxRecDepth 10000
set_option linter.unusedVariables false

theorem okHistory_get {xs : List Version} (h : okHistory xs = true) (i : Nat) (hi : i < xs.length) : okVersion i xs[i] = true := by
  simp only [okHistory, Bool.and_eq_true] at h
  cases hv : okVersion i xs[i] with
  | true => rfl
  | false =>
    have := allIx_no (p := okVersion) (k := 0) (i := i) (List.getElem?_eq_getElem hi) (by rw [Nat.zero_add]; exact hv)
    rw [this] at h; cases h.1
theorem okVersion_parent {i : Nat} {x : Version} (h : okVersion i x = true) : x.number = (i : Int) + 1 ∧ 0 ≤ x.parent ∧ x.parent ≤ i := by
  simp only [okVersion, Bool.and_eq_true, decide_eq_true_eq, beq_iff_eq] at h
  exact ⟨h.1, h.2.1.1, h.2.1.2⟩

/-- The parent of a number. -/
def up (xs : List Version) (n : Int) : Int := match xs[(n - 1).toNat]? with | some v => v.parent | none => 0
/-- A number and those from which it comes. -/
def line (xs : List Version) : Nat → Int → List Int
  | 0, _ => []
  | f + 1, n => if 0 < n then n :: line xs f (up xs n) else []

theorem up_at {xs : List Version} {n : Int} (h1 : 1 ≤ n) (h2 : n ≤ xs.length) : ∃ h : (n - 1).toNat < xs.length, up xs n = xs[(n - 1).toNat].parent := by
  have h : (n - 1).toNat < xs.length := by omega
  exact ⟨h, by simp only [up, List.getElem?_eq_getElem h]⟩
theorem up_ok {xs : List Version} (hk : okHistory xs = true) {n : Int} (h1 : 1 ≤ n) (h2 : n ≤ xs.length) : 0 ≤ up xs n ∧ up xs n ≤ n - 1 := by
  obtain ⟨h, e⟩ := up_at h1 h2
  obtain ⟨_, h3, h4⟩ := okVersion_parent (okHistory_get hk _ h)
  rw [e]; omega
theorem line_zero {xs : List Version} {f : Nat} {n : Int} (h : n ≤ 0) : line xs f n = [] := by
  cases f with
  | zero => rfl
  | succ f => simp only [line]; rw [if_neg (by omega)]
theorem line_step {xs : List Version} {f : Nat} {n : Int} (h : 0 < n) : line xs (f + 1) n = n :: line xs f (up xs n) := by
  simp only [line]; rw [if_pos h]
theorem line_fuel {xs : List Version} (hk : okHistory xs = true) : ∀ {f g : Nat} {n : Int}, n ≤ xs.length → n ≤ f → n ≤ g → line xs f n = line xs g n
  | 0, g, n, _, h, _ => by rw [line_zero (by omega), line_zero (by omega)]
  | f + 1, 0, n, _, _, h => by rw [line_zero (by omega), line_zero (by omega)]
  | f + 1, g + 1, n, h0, h1, h2 => by
    by_cases h : 0 < n
    · obtain ⟨h3, h4⟩ := up_ok hk (n := n) (by omega) h0
      rw [line_step h, line_step h, line_fuel hk (f := f) (g := g) (by omega) (by omega) (by omega)]
    · rw [line_zero (by omega), line_zero (by omega)]
theorem line_len (xs : List Version) : ∀ (f : Nat) (n : Int), (line xs f n).length ≤ f
  | 0, n => by simp [line]
  | f + 1, n => by
    simp only [line]
    split
    · have := line_len xs f (up xs n); simp; omega
    · simp

/-- The nearest common version, or 0. -/
def common (xs : List Version) (a b : Int) : Int := ((line xs 32 a).find? fun x => (line xs 32 b).any fun y => x == y).getD 0
def commonOf (xs : List Version) (a b : Int) : Int × Int := if askC xs [a, b] = 0 then (common xs a b, 0) else (0, askC xs [a, b])

theorem askC_ok {xs : List Version} {ns : List Int} (h : askC xs ns = 0) : okHistory xs = true ∧ ∀ n ∈ ns, 1 ≤ n ∧ n ≤ xs.length := by
  unfold askC at h
  split at h
  · rename_i hk
    split at h
    · cases h
    · rename_i hn
      refine ⟨hk, fun n hm => ?_⟩
      simp only [Bool.not_eq_true, List.any_eq_false] at hn
      have := hn n hm
      simp [okNum] at this
      exact this
  · cases h

theorem find_at {α : Type} {p : α → Bool} : ∀ {l : List α} {i : Nat} (h : i < l.length), (∀ (j : Nat) (hj : j < l.length), j < i → p l[j] = false) → p l[i] = true → l.find? p = some l[i]
  | x :: l, 0, _, _, e => by simp only [List.getElem_cons_zero] at e ⊢; simp [List.find?, e]
  | x :: l, i + 1, h, hn, e => by
    have h0 := hn 0 (by simp) (by omega)
    simp only [List.getElem_cons_zero] at h0
    have := find_at (p := p) (l := l) (i := i) (by simpa using h) (fun j hj hji => hn (j + 1) (by simpa using hj) (by omega)) (by simpa using e)
    simp only [List.find?, h0, List.getElem_cons_succ]; exact this
theorem find_none {α : Type} {p : α → Bool} {l : List α} (h : ∀ (j : Nat) (hj : j < l.length), p l[j] = false) : l.find? p = none := by
  rw [List.find?_eq_none]
  intro x hx
  obtain ⟨j, hj, rfl⟩ := List.getElem_of_mem hx
  rw [h j hj]; simp

theorem s_l27Number (xs : List Version) (n : Int) : Sat Tryd.prog 44 [(false, Enc.enc xs), (false, [.int .i64 n])] (.one (.c (.bool (okNum xs.length n))), []) := by
  have hl : (xs.map (Enc.enc (α := Version))).length = xs.length := by simp
  refine Sat.intro tok mixed Tryd.func44 rfl rfl ?_
  ((conv => whnf); repeat first | (refine Br.no ?_; conv => whnf) | (refine Br.yes ?_; conv => whnf) | (refine Pick.draw rfl (by kernel_rfl) ?_; conv => whnf) | (refine Pick.drawM (by kernel_rfl) ?_; conv => whnf) | (refine CallC.r ?_; conv => whnf))
  refine Pick.mk _ (s_l00In n 1 (xs.map (Enc.enc (α := Version))).length) ?_
  ((conv => whnf); repeat first | (refine Br.no ?_; conv => whnf) | (refine Br.yes ?_; conv => whnf) | (refine Pick.draw rfl (by kernel_rfl) ?_; conv => whnf) | (refine Pick.drawM (by kernel_rfl) ?_; conv => whnf) | (refine CallC.r ?_; conv => whnf))
  exact ResOK.same (by rw [hl]; rfl)

end Go.Proofs.YtjolahiflldepaaDoor.Pi
