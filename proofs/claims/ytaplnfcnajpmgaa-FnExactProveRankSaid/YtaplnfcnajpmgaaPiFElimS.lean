/- Elimination: the reference. No statement of the seat is proved here. -/
import Derived.Test.YtaplnfcnajpmgaaPiFElim
namespace Go.Proofs.Ytaplnfcnajpmgaa.Pi
open Go
set_option maxRecDepth 10000
set_option maxHeartbeats 6400000
set_option linter.unusedVariables false

theorem s_l00Own (xs : List Int) (hb : xs.length ≤ 16777216) : Sat Try.prog 43 [(false, Enc.enc xs)] (.one (.rs 0), [(0, .arr 1 (xs.map Enc.enc))]) := by
  refine Sat.intro tok mixed Try.func43 rfl rfl ?_
  ((conv => whnf); repeat first | (refine Br.no ?_; conv => whnf) | (refine Br.yes ?_; conv => whnf) | (refine Pick.draw rfl (by kernel_rfl) ?_; conv => whnf) | (refine Pick.drawM (by kernel_rfl) ?_; conv => whnf) | (refine CallC.r ?_; conv => whnf))
  refine Side.mk (by simp; omega) ?_
  ((conv => whnf); repeat first | (refine Br.no ?_; conv => whnf) | (refine Br.yes ?_; conv => whnf) | (refine Pick.draw rfl (by kernel_rfl) ?_; conv => whnf) | (refine Pick.drawM (by kernel_rfl) ?_; conv => whnf) | (refine CallC.r ?_; conv => whnf))
  exact ResOK.same rfl

theorem grid_getE {r c : Nat} {f : Nat → Nat → Int} {i j : Nat} (hi : i < r) (hj : j < c) (h : i * c + j < (grid r c f).length) : (grid r c f)[i * c + j] = f i j := by
  have := grid_get (f := f) hi hj
  rw [List.getElem?_eq_getElem h] at this
  exact Option.some.inj this
theorem Pick.rg {r w : Nat} {F : Nat → Nat → Int} {i j n : Nat} {x : Int} {K : List CV → Prop} (hi : i < r) (hj : j < w) (e : n = i * w + j) (hx : F i j = x) (k : K (Enc.enc x)) : Pick (fun row => ((grid r w F).map (Enc.enc (α := Int)))[n]? = some row) K :=
  ⟨_, by subst e; rw [List.getElem?_map, grid_get hi hj, hx]; rfl, k⟩
theorem gset {r w : Nat} {F : Nat → Nat → Int} {i j : Nat} (x : Int) (n : Nat) (y : List CV) (hi : i < r) (hj : j < w) (hn : n = i * w + j) (hy : y = Enc.enc x) : ((grid r w F).map (Enc.enc (α := Int))).set n y = (grid r w (upd2 F i j x)).map Enc.enc := by
  rw [hn, hy, ← List.map_set, grid_set hi hj]

/-- Columns that have changed, and columns still to come. -/
def colUp (f g : Nat → Nat → Int) (n : Nat) : Nat → Nat → Int := fun a b => if b < n then g a b else f a b
theorem colUp_zero (f g : Nat → Nat → Int) : colUp f g 0 = f := by funext a b; simp [colUp]
theorem colUp_at (f g : Nat → Nat → Int) (a j : Nat) : colUp f g j a j = f a j := by simp [colUp]
theorem colUp_all {f g : Nat → Nat → Int} {r w : Nat} : grid r w (colUp f g w) = grid r w g := grid_congr fun a b _ hb => by simp [colUp, hb]
theorem colUp_set1 {f g : Nat → Nat → Int} {r w i j : Nat} (h : ∀ a, a ≠ i → g a j = f a j) : grid r w (upd2 (colUp f g j) i j (g i j)) = grid r w (colUp f g (j + 1)) := grid_congr fun a b _ _ => by
  unfold upd2 colUp
  by_cases h1 : b = j
  · subst h1
    by_cases h2 : a = i
    · subst h2; simp
    · simp [h2, h a h2]
  · by_cases h2 : b < j
    · simp [h1, h2, Nat.lt_succ_of_lt h2]
    · have : ¬ b < j + 1 := by omega
      simp [h1, h2, this]
theorem colUp_set2 {f g : Nat → Nat → Int} {r w i1 i2 j : Nat} (hne : i1 ≠ i2) (h : ∀ a, a ≠ i1 → a ≠ i2 → g a j = f a j) : grid r w (upd2 (upd2 (colUp f g j) i1 j (g i1 j)) i2 j (g i2 j)) = grid r w (colUp f g (j + 1)) := grid_congr fun a b _ _ => by
  unfold upd2 colUp
  by_cases h1 : b = j
  · subst h1
    by_cases h2 : a = i2
    · subst h2; simp
    · by_cases h3 : a = i1
      · subst h3; simp [h2]
      · simp [h2, h3, h a h3 h2]
  · by_cases h2 : b < j
    · simp [h1, h2, Nat.lt_succ_of_lt h2]
    · have : ¬ b < j + 1 := by omega
      simp [h1, h2, this]
theorem grid_of_tab {r w : Nat} {f g : Nat → Nat → Int} (h : tab r w f = tab r w g) : grid r w f = grid r w g := by rw [← tab_grid, h, tab_grid]
theorem sub_mod (a x b p : Int) : (a - x * b) % p = (a + (p - x) * b) % p := by
  rw [Int.sub_mul, show a + (p * b - x * b) = a - x * b + p * b by omega, Int.add_mul_emod_self_left]

theorem s_l03Reduced (m : Matrix) {r w : Nat} (ok : MatOK m r w) : Sat Try.prog 61 [(false, [.ptr 4 (Enc.enc m)])] (.tup [(true, [.c (.int .i64 m.prime), .c (.int .i64 m.rows), .c (.int .i64 m.columns), .rs 0]), (false, [.rs 1]), (false, [.c (.int .i64 (elimF m.prime r (cellAt m) w).dS)])], [(0, .arr 1 ((grid r w (elimF m.prime r (cellAt m) w).f).map Enc.enc)), (1, .arr 1 ((pvI (elimF m.prime r (cellAt m) w)).map Enc.enc))]) := by
  have hrn := ok.rn
  have hrow := ok.rows
  have hcol := ok.columns
  have hrb := ok.rb
  have hcb := ok.cb
  have hp := ok.p
  have hcells := ok.cells_eq
  have hrc := ok.rc
  have hwp : ∀ a, a < r → a * w ≤ 16777216 := fun a ha => Nat.le_trans (Nat.mul_le_mul_right _ (Nat.le_of_lt ha)) hrc
  have hown : Sat Try.prog 43 [(false, Enc.enc m.cells)] (.one (.rs 0), [(0, .arr 1 ((grid r w (cellAt m)).map Enc.enc))]) := by
    have h := s_l00Own m.cells (by rw [ok.len]; exact hrc)
    rw [show m.cells.map (Enc.enc (α := Int)) = (grid r w (cellAt m)).map Enc.enc by rw [← hcells]] at h
    exact h
  have hgl : ∀ g, ((grid r w g).map (Enc.enc (α := Int))).length = r * w := fun g => by rw [List.length_map, grid_len]
  refine Sat.intro tok mixed Try.func61 rfl rfl ?_
  ((conv => whnf); repeat first | (refine Br.no ?_; conv => whnf) | (refine Br.yes ?_; conv => whnf) | (refine CallC.r ?_; conv => whnf))
  refine Pick.drawC 16 (by kernel_rfl) ?_
  ((conv => whnf); repeat first | (refine Br.no ?_; conv => whnf) | (refine Br.yes ?_; conv => whnf) | (refine Pick.draw rfl (by kernel_rfl) ?_; conv => whnf) | (refine Pick.drawM (by kernel_rfl) ?_; conv => whnf) | (refine CallC.r ?_; conv => whnf))
  refine Pick.mk _ (hown) ?_
  ((conv => whnf); repeat first | (refine Br.no ?_; conv => whnf) | (refine Br.yes ?_; conv => whnf) | (refine Pick.draw rfl (by kernel_rfl) ?_; conv => whnf) | (refine Pick.drawM (by kernel_rfl) ?_; conv => whnf) | (refine CallC.r ?_; conv => whnf))
  refine Pick.mk [0, 2, 5, 6, 7, 8, 9, 10, 11] trivial ?_
  ((conv => whnf); repeat first | (refine Br.no ?_; conv => whnf) | (refine Br.yes ?_; conv => whnf) | (refine Pick.draw rfl (by kernel_rfl) ?_; conv => whnf) | (refine Pick.drawM (by kernel_rfl) ?_; conv => whnf) | (refine CallC.r ?_; conv => whnf))
  refine LoopL.over (fun (k : Nat) => [(9, .one (.c (.int .i64 ((elimF m.prime r (cellAt m) k).dS)))), (10, .one (.c (.int .i64 (((elimF m.prime r (cellAt m) k).pv.length : Int))))), (11, .one (.c (.int .i64 ((k : Int)))))]) (fun (k : Nat) => [(512, Ob.arr 1 ((pvI (elimF m.prime r (cellAt m) k)).map Enc.enc)), (2368, Ob.arr 1 ((grid r w (elimF m.prime r (cellAt m) k).f).map Enc.enc))]) (fun (k : Nat) => w - k) (fun (k : Nat) => k ≤ w) ?_ 0 (Nat.zero_le _)
  intro k hk ih
  have oks := elimF_ok hp.1 (r := r) (w := w) (f := cellAt m) (fun i j _ _ => ok.cellEl i j) k
  have hst := elimF_succ m.prime r (cellAt m) k
  have hfull := @elimF_full m.prime r (cellAt m) k
  generalize hs : elimF m.prime r (cellAt m) k = s at oks hst hfull
  have hpr := oks.pr
  ((conv => whnf); repeat first | (refine Br.no ?_; conv => whnf) | (refine Br.yes ?_; conv => whnf) | (refine Pick.draw rfl (by kernel_rfl) ?_; conv => whnf) | (refine Pick.drawM (by kernel_rfl) ?_; conv => whnf) | (refine CallC.r ?_; conv => whnf))
  refine Br.mk (fun h => ?_) (fun h => ?_) <;> ((conv => whnf); repeat first | (refine Br.no ?_; conv => whnf) | (refine Br.yes ?_; conv => whnf) | (refine Pick.draw rfl (by kernel_rfl) ?_; conv => whnf) | (refine Pick.drawM (by kernel_rfl) ?_; conv => whnf) | (refine CallC.r ?_; conv => whnf))
  · simp [hcol] at h
    refine Br.mk (fun h1 => ?_) (fun h1 => ?_) <;> ((conv => whnf); repeat first | (refine Br.no ?_; conv => whnf) | (refine Br.yes ?_; conv => whnf) | (refine Pick.draw rfl (by kernel_rfl) ?_; conv => whnf) | (refine Pick.drawM (by kernel_rfl) ?_; conv => whnf) | (refine CallC.r ?_; conv => whnf))
    · simp [hrow] at h1
      refine Pick.mk [0, 2, 5, 6, 7, 8, 9, 10, 11, 12] trivial ?_
      ((conv => whnf); repeat first | (refine Br.no ?_; conv => whnf) | (refine Br.yes ?_; conv => whnf) | (refine Pick.draw rfl (by kernel_rfl) ?_; conv => whnf) | (refine Pick.drawM (by kernel_rfl) ?_; conv => whnf) | (refine CallC.r ?_; conv => whnf))
      refine LoopL.over (fun (q : Nat) => [(12, .one (.c (.int .i64 ((q : Int)))))]) (fun (q : Nat) => []) (fun (q : Nat) => r - q) (fun (q : Nat) => s.pv.length ≤ q ∧ q ≤ r ∧ ∀ i, s.pv.length ≤ i → i < q → s.f i k = 0) ?_ s.pv.length ⟨Nat.le_refl _, hpr, fun i _ _ => by omega⟩
      intro q ⟨hq1, hq2, hq3⟩ ih2
      ((conv => whnf); repeat first | (refine Br.no ?_; conv => whnf) | (refine Br.yes ?_; conv => whnf) | (refine Pick.draw rfl (by kernel_rfl) ?_; conv => whnf) | (refine Pick.drawM (by kernel_rfl) ?_; conv => whnf) | (refine CallC.r ?_; conv => whnf))
      refine Br.mk (fun h2 => ?_) (fun h2 => ?_) <;> ((conv => whnf); repeat first | (refine Br.no ?_; conv => whnf) | (refine Br.yes ?_; conv => whnf) | (refine Pick.draw rfl (by kernel_rfl) ?_; conv => whnf) | (refine Pick.drawM (by kernel_rfl) ?_; conv => whnf) | (refine CallC.r ?_; conv => whnf))
      · simp [hrow] at h2
        have hqw := hwp q h2
        have hqk := ij_lt h2 h
        refine Pick.at64 (z := ((q * w : Nat) : Int)) (by rw [hcol]; push_cast; rfl) (by omega) ?_
        ((conv => whnf); repeat first | (refine Br.no ?_; conv => whnf) | (refine Br.yes ?_; conv => whnf) | (refine Pick.draw rfl (by kernel_rfl) ?_; conv => whnf) | (refine Pick.drawM (by kernel_rfl) ?_; conv => whnf) | (refine CallC.r ?_; conv => whnf))
        refine Pick.at64 (z := ((q * w + k : Nat) : Int)) (by push_cast; rfl) (by omega) ?_
        ((conv => whnf); repeat first | (refine Br.no ?_; conv => whnf) | (refine Br.yes ?_; conv => whnf) | (refine Pick.draw rfl (by kernel_rfl) ?_; conv => whnf) | (refine Pick.drawM (by kernel_rfl) ?_; conv => whnf) | (refine CallC.r ?_; conv => whnf))
        refine Side.mk (by rw [hgl]; omega) ?_
        ((conv => whnf); repeat first | (refine Br.no ?_; conv => whnf) | (refine Br.yes ?_; conv => whnf) | (refine Pick.draw rfl (by kernel_rfl) ?_; conv => whnf) | (refine Pick.drawM (by kernel_rfl) ?_; conv => whnf) | (refine CallC.r ?_; conv => whnf))
        refine Pick.rg (i := q) (j := k) (x := s.f q k) h2 h (by omega) (rfl) ?_
        ((conv => whnf); repeat first | (refine Br.no ?_; conv => whnf) | (refine Br.yes ?_; conv => whnf) | (refine Pick.draw rfl (by kernel_rfl) ?_; conv => whnf) | (refine Pick.drawM (by kernel_rfl) ?_; conv => whnf) | (refine CallC.r ?_; conv => whnf))
        refine Br.mk (fun h3 => ?_) (fun h3 => ?_) <;> ((conv => whnf); repeat first | (refine Br.no ?_; conv => whnf) | (refine Br.yes ?_; conv => whnf) | (refine Pick.draw rfl (by kernel_rfl) ?_; conv => whnf) | (refine Pick.drawM (by kernel_rfl) ?_; conv => whnf) | (refine CallC.r ?_; conv => whnf))
        · simp at h3
          refine Pick.at64 (z := (q + 1 : Nat)) (by simp) (by omega) ?_
          ((conv => whnf); repeat first | (refine Br.no ?_; conv => whnf) | (refine Br.yes ?_; conv => whnf) | (refine Pick.draw rfl (by kernel_rfl) ?_; conv => whnf) | (refine Pick.drawM (by kernel_rfl) ?_; conv => whnf) | (refine CallC.r ?_; conv => whnf))
          refine ih2 (q + 1) ⟨by omega, by omega, fun i h4 h5 => ?_⟩ (by omega)
          by_cases e : i = q
          · subst e; exact h3
          · exact hq3 i h4 (by omega)
        · simp at h3
          have hat : at0 r k s = q := seek_eq hq1 (by omega) (by simpa using h3) fun i h4 h5 => by simp [hq3 i h4 h5]
          refine Br.mk (fun h4 => by simp [hrow] at h4; omega) (fun _ => ?_)
          ((conv => whnf); repeat first | (refine Br.no ?_; conv => whnf) | (refine Br.yes ?_; conv => whnf) | (refine Pick.draw rfl (by kernel_rfl) ?_; conv => whnf) | (refine Pick.drawM (by kernel_rfl) ?_; conv => whnf) | (refine CallC.r ?_; conv => whnf))
          have hd : 0 ≤ s.dS ∧ s.dS ≤ m.prime := oks.dS
          have htop : s.pv.length < r := by omega
          generalize hg : swapF s.f s.pv.length q = g
          have hgel : ∀ i j, i < r → j < w → 0 ≤ g i j ∧ g i j < m.prime := hg ▸ swap_el oks.el htop h2
          have hlead : g s.pv.length k = leadV r k s := by rw [← hg]; simp [swapF, leadV, hat]
          have htw := hwp _ htop
          refine Br.mk (fun h4 => ?_) (fun h4 => ?_)
          focus
            have hne : q ≠ s.pv.length := fun e => by rw [e] at h4; simp at h4
            ((conv => whnf); repeat first | (refine Br.no ?_; conv => whnf) | (refine Br.yes ?_; conv => whnf) | (refine Pick.draw rfl (by kernel_rfl) ?_; conv => whnf) | (refine Pick.drawM (by kernel_rfl) ?_; conv => whnf) | (refine CallC.r ?_; conv => whnf))
            refine Pick.w64 (by omega) ?_
            ((conv => whnf); repeat first | (refine Br.no ?_; conv => whnf) | (refine Br.yes ?_; conv => whnf) | (refine Pick.draw rfl (by kernel_rfl) ?_; conv => whnf) | (refine Pick.drawM (by kernel_rfl) ?_; conv => whnf) | (refine CallC.r ?_; conv => whnf))
            refine Pick.mk [0, 2, 5, 6, 7, 8, 9, 10, 11, 12, 13] trivial ?_
            ((conv => whnf); repeat first | (refine Br.no ?_; conv => whnf) | (refine Br.yes ?_; conv => whnf) | (refine Pick.draw rfl (by kernel_rfl) ?_; conv => whnf) | (refine Pick.drawM (by kernel_rfl) ?_; conv => whnf) | (refine CallC.r ?_; conv => whnf))
            refine LoopL.over (fun (j : Nat) => [(13, .one (.c (.int .i64 ((j : Int)))))]) (fun (j : Nat) => [(2368, Ob.arr 1 ((grid r w (colUp s.f g j)).map Enc.enc))]) (fun (j : Nat) => w - j) (fun (j : Nat) => j ≤ w) ?_ 0 (Nat.zero_le _) (by rw [colUp_zero]; rfl)
            intro j hj ih3
            ((conv => whnf); repeat first | (refine Br.no ?_; conv => whnf) | (refine Br.yes ?_; conv => whnf) | (refine Pick.draw rfl (by kernel_rfl) ?_; conv => whnf) | (refine Pick.drawM (by kernel_rfl) ?_; conv => whnf) | (refine CallC.r ?_; conv => whnf))
            refine Br.mk (fun h6 => ?_) (fun h6 => ?_)
            focus
              simp [hcol] at h6
              have hqj := ij_lt h2 h6
              have htj := ij_lt htop h6
              ((conv => whnf); repeat first | (refine Br.no ?_; conv => whnf) | (refine Br.yes ?_; conv => whnf) | (refine Pick.draw rfl (by kernel_rfl) ?_; conv => whnf) | (refine Pick.drawM (by kernel_rfl) ?_; conv => whnf) | (refine CallC.r ?_; conv => whnf))
              refine Pick.at64 (z := ((q * w : Nat) : Int)) (by rw [hcol]; push_cast; rfl) (by omega) ?_
              ((conv => whnf); repeat first | (refine Br.no ?_; conv => whnf) | (refine Br.yes ?_; conv => whnf) | (refine Pick.draw rfl (by kernel_rfl) ?_; conv => whnf) | (refine Pick.drawM (by kernel_rfl) ?_; conv => whnf) | (refine CallC.r ?_; conv => whnf))
              refine Pick.at64 (z := ((q * w + j : Nat) : Int)) (by push_cast; rfl) (by omega) ?_
              ((conv => whnf); repeat first | (refine Br.no ?_; conv => whnf) | (refine Br.yes ?_; conv => whnf) | (refine Pick.draw rfl (by kernel_rfl) ?_; conv => whnf) | (refine Pick.drawM (by kernel_rfl) ?_; conv => whnf) | (refine CallC.r ?_; conv => whnf))
              refine Side.mk (by rw [hgl]; omega) ?_
              ((conv => whnf); repeat first | (refine Br.no ?_; conv => whnf) | (refine Br.yes ?_; conv => whnf) | (refine Pick.draw rfl (by kernel_rfl) ?_; conv => whnf) | (refine Pick.drawM (by kernel_rfl) ?_; conv => whnf) | (refine CallC.r ?_; conv => whnf))
              refine Pick.rg (i := q) (j := j) (x := s.f q j) h2 h6 (by omega) (by rw [colUp_at]) ?_
              ((conv => whnf); repeat first | (refine Br.no ?_; conv => whnf) | (refine Br.yes ?_; conv => whnf) | (refine Pick.draw rfl (by kernel_rfl) ?_; conv => whnf) | (refine Pick.drawM (by kernel_rfl) ?_; conv => whnf) | (refine CallC.r ?_; conv => whnf))
              refine Pick.at64 (z := ((q * w : Nat) : Int)) (by rw [hcol]; push_cast; rfl) (by omega) ?_
              ((conv => whnf); repeat first | (refine Br.no ?_; conv => whnf) | (refine Br.yes ?_; conv => whnf) | (refine Pick.draw rfl (by kernel_rfl) ?_; conv => whnf) | (refine Pick.drawM (by kernel_rfl) ?_; conv => whnf) | (refine CallC.r ?_; conv => whnf))
              refine Pick.at64 (z := ((q * w + j : Nat) : Int)) (by push_cast; rfl) (by omega) ?_
              ((conv => whnf); repeat first | (refine Br.no ?_; conv => whnf) | (refine Br.yes ?_; conv => whnf) | (refine Pick.draw rfl (by kernel_rfl) ?_; conv => whnf) | (refine Pick.drawM (by kernel_rfl) ?_; conv => whnf) | (refine CallC.r ?_; conv => whnf))
              refine Pick.at64 (z := ((s.pv.length * w : Nat) : Int)) (by rw [hcol]; push_cast; rfl) (by omega) ?_
              ((conv => whnf); repeat first | (refine Br.no ?_; conv => whnf) | (refine Br.yes ?_; conv => whnf) | (refine Pick.draw rfl (by kernel_rfl) ?_; conv => whnf) | (refine Pick.drawM (by kernel_rfl) ?_; conv => whnf) | (refine CallC.r ?_; conv => whnf))
              refine Pick.at64 (z := ((s.pv.length * w + j : Nat) : Int)) (by push_cast; rfl) (by omega) ?_
              ((conv => whnf); repeat first | (refine Br.no ?_; conv => whnf) | (refine Br.yes ?_; conv => whnf) | (refine Pick.draw rfl (by kernel_rfl) ?_; conv => whnf) | (refine Pick.drawM (by kernel_rfl) ?_; conv => whnf) | (refine CallC.r ?_; conv => whnf))
              refine Side.mk (by rw [hgl]; omega) ?_
              ((conv => whnf); repeat first | (refine Br.no ?_; conv => whnf) | (refine Br.yes ?_; conv => whnf) | (refine Pick.draw rfl (by kernel_rfl) ?_; conv => whnf) | (refine Pick.drawM (by kernel_rfl) ?_; conv => whnf) | (refine CallC.r ?_; conv => whnf))
              refine Pick.rg (i := s.pv.length) (j := j) (x := s.f s.pv.length j) htop h6 (by omega) (by rw [colUp_at]) ?_
              ((conv => whnf); repeat first | (refine Br.no ?_; conv => whnf) | (refine Br.yes ?_; conv => whnf) | (refine Pick.draw rfl (by kernel_rfl) ?_; conv => whnf) | (refine Pick.drawM (by kernel_rfl) ?_; conv => whnf) | (refine CallC.r ?_; conv => whnf))
              refine Side.mk (by rw [hgl]; omega) ?_
              ((conv => whnf); repeat first | (refine Br.no ?_; conv => whnf) | (refine Br.yes ?_; conv => whnf) | (refine Pick.draw rfl (by kernel_rfl) ?_; conv => whnf) | (refine Pick.drawM (by kernel_rfl) ?_; conv => whnf) | (refine CallC.r ?_; conv => whnf))
              refine Pick.at64 (z := ((s.pv.length * w : Nat) : Int)) (by rw [hcol]; push_cast; rfl) (by omega) ?_
              ((conv => whnf); repeat first | (refine Br.no ?_; conv => whnf) | (refine Br.yes ?_; conv => whnf) | (refine Pick.draw rfl (by kernel_rfl) ?_; conv => whnf) | (refine Pick.drawM (by kernel_rfl) ?_; conv => whnf) | (refine CallC.r ?_; conv => whnf))
              refine Pick.at64 (z := ((s.pv.length * w + j : Nat) : Int)) (by push_cast; rfl) (by omega) ?_
              ((conv => whnf); repeat first | (refine Br.no ?_; conv => whnf) | (refine Br.yes ?_; conv => whnf) | (refine Pick.draw rfl (by kernel_rfl) ?_; conv => whnf) | (refine Pick.drawM (by kernel_rfl) ?_; conv => whnf) | (refine CallC.r ?_; conv => whnf))
              refine Side.mk (by rw [List.length_set, hgl]; omega) ?_
              ((conv => whnf); repeat first | (refine Br.no ?_; conv => whnf) | (refine Br.yes ?_; conv => whnf) | (refine Pick.draw rfl (by kernel_rfl) ?_; conv => whnf) | (refine Pick.drawM (by kernel_rfl) ?_; conv => whnf) | (refine CallC.r ?_; conv => whnf))
              rw [gset (F := colUp s.f g j) (i := q) (j := j) (s.f s.pv.length j) _ _ h2 h6]
              rotate_left
              · rfl
              · rfl
              rw [gset (F := upd2 (colUp s.f g j) q j (s.f s.pv.length j)) (i := s.pv.length) (j := j) (s.f q j) _ _ htop h6]
              rotate_left
              · rfl
              · rfl
              have e1 : s.f s.pv.length j = g q j := by rw [← hg]; simp [swapF, hne]
              have e2 : s.f q j = g s.pv.length j := by rw [← hg]; simp [swapF]
              rw [e1, e2, colUp_set2 hne fun a h7 h8 => by rw [← hg]; simp [swapF, h7, h8]]
              refine Pick.at64 (z := (j + 1 : Nat)) (by simp) (by omega) ?_
              ((conv => whnf); repeat first | (refine Br.no ?_; conv => whnf) | (refine Br.yes ?_; conv => whnf) | (refine Pick.draw rfl (by kernel_rfl) ?_; conv => whnf) | (refine Pick.drawM (by kernel_rfl) ?_; conv => whnf) | (refine CallC.r ?_; conv => whnf))
              exact ih3 (j + 1) (by omega) (by omega)
            simp [hcol] at h6
            obtain rfl : w = j := by omega
            rw [colUp_all]
            have hd2 : 0 ≤ m.prime - s.dS ∧ m.prime - s.dS ≤ m.prime := by omega
            generalize hdd : m.prime - s.dS = d at hd2 ⊢
            have hdS : (if at0 r k s = s.pv.length then s.dS else m.prime - s.dS) = d := by rw [if_neg (by omega), hdd]
            ((conv => whnf); repeat first | (refine Br.no ?_; conv => whnf) | (refine Br.yes ?_; conv => whnf) | (refine Pick.draw rfl (by kernel_rfl) ?_; conv => whnf) | (refine Pick.drawM (by kernel_rfl) ?_; conv => whnf) | (refine CallC.r ?_; conv => whnf))
          rotate_left
          focus
            have e : q = s.pv.length := by simp at h4; omega
            have hg2 : s.f = g := by rw [← hg, e, swap_self]
            rw [hg2]
            have hd2 := hd
            generalize hdd : s.dS = d at hd2 ⊢
            have hdS : (if at0 r k s = s.pv.length then s.dS else m.prime - s.dS) = d := by rw [if_pos (by omega), hdd]
            ((conv => whnf); repeat first | (refine Br.no ?_; conv => whnf) | (refine Br.yes ?_; conv => whnf) | (refine Pick.draw rfl (by kernel_rfl) ?_; conv => whnf) | (refine Pick.drawM (by kernel_rfl) ?_; conv => whnf) | (refine CallC.r ?_; conv => whnf))
          all_goals
            have htk := ij_lt htop h
            refine Pick.at64 (z := ((s.pv.length * w : Nat) : Int)) (by rw [hcol]; push_cast; rfl) (by omega) ?_
            ((conv => whnf); repeat first | (refine Br.no ?_; conv => whnf) | (refine Br.yes ?_; conv => whnf) | (refine Pick.draw rfl (by kernel_rfl) ?_; conv => whnf) | (refine Pick.drawM (by kernel_rfl) ?_; conv => whnf) | (refine CallC.r ?_; conv => whnf))
            refine Pick.at64 (z := ((s.pv.length * w + k : Nat) : Int)) (by push_cast; rfl) (by omega) ?_
            ((conv => whnf); repeat first | (refine Br.no ?_; conv => whnf) | (refine Br.yes ?_; conv => whnf) | (refine Pick.draw rfl (by kernel_rfl) ?_; conv => whnf) | (refine Pick.drawM (by kernel_rfl) ?_; conv => whnf) | (refine CallC.r ?_; conv => whnf))
            refine Side.mk (by rw [hgl]; omega) ?_
            ((conv => whnf); repeat first | (refine Br.no ?_; conv => whnf) | (refine Br.yes ?_; conv => whnf) | (refine Pick.draw rfl (by kernel_rfl) ?_; conv => whnf) | (refine Pick.drawM (by kernel_rfl) ?_; conv => whnf) | (refine CallC.r ?_; conv => whnf))
            refine Pick.rg (i := s.pv.length) (j := k) (x := leadV r k s) htop h (by omega) (hlead) ?_
            ((conv => whnf); repeat first | (refine Br.no ?_; conv => whnf) | (refine Br.yes ?_; conv => whnf) | (refine Pick.draw rfl (by kernel_rfl) ?_; conv => whnf) | (refine Pick.drawM (by kernel_rfl) ?_; conv => whnf) | (refine CallC.r ?_; conv => whnf))
            have hl := hgel _ _ htop h
            rw [hlead] at hl
            generalize hld : leadV r k s = ld at hl ⊢
            have hdm := mul_bound' (a := d) (b := ld) (by omega) (by omega)
            refine Pick.w64 (by omega) ?_
            ((conv => whnf); repeat first | (refine Br.no ?_; conv => whnf) | (refine Br.yes ?_; conv => whnf) | (refine Pick.draw rfl (by kernel_rfl) ?_; conv => whnf) | (refine Pick.drawM (by kernel_rfl) ?_; conv => whnf) | (refine CallC.r ?_; conv => whnf))
            refine Side.mk (by omega) ?_
            rw [Int.tmod_eq_emod_of_nonneg hdm.1]
            ((conv => whnf); repeat first | (refine Br.no ?_; conv => whnf) | (refine Br.yes ?_; conv => whnf) | (refine Pick.draw rfl (by kernel_rfl) ?_; conv => whnf) | (refine Pick.drawM (by kernel_rfl) ?_; conv => whnf) | (refine CallC.r ?_; conv => whnf))
            refine Pick.mk _ (s_l03Inverse ld m.prime hp hl) ?_
            ((conv => whnf); repeat first | (refine Br.no ?_; conv => whnf) | (refine Br.yes ?_; conv => whnf) | (refine Pick.draw rfl (by kernel_rfl) ?_; conv => whnf) | (refine Pick.drawM (by kernel_rfl) ?_; conv => whnf) | (refine CallC.r ?_; conv => whnf))
            have hiv := pw_el (a := ld) (p := m.prime) (n := (m.prime - 2).toNat) hp.1
            generalize hlf : leadF g m.prime s.pv.length (invM ld m.prime) = lf
            have hlel : ∀ i j, i < r → j < w → 0 ≤ lf i j ∧ lf i j < m.prime := hlf ▸ lead_el hp.1 hgel
            refine Pick.mk [0, 2, 5, 6, 7, 8, 9, 10, 11, 16, 17] trivial ?_
            ((conv => whnf); repeat first | (refine Br.no ?_; conv => whnf) | (refine Br.yes ?_; conv => whnf) | (refine Pick.draw rfl (by kernel_rfl) ?_; conv => whnf) | (refine Pick.drawM (by kernel_rfl) ?_; conv => whnf) | (refine CallC.r ?_; conv => whnf))
            refine LoopL.over (fun (j : Nat) => [(17, .one (.c (.int .i64 ((j : Int)))))]) (fun (j : Nat) => [(2368, Ob.arr 1 ((grid r w (colUp g lf j)).map Enc.enc))]) (fun (j : Nat) => w - j) (fun (j : Nat) => j ≤ w) ?_ 0 (Nat.zero_le _) (by rw [colUp_zero]; rfl)
            intro j hj ih3
            ((conv => whnf); repeat first | (refine Br.no ?_; conv => whnf) | (refine Br.yes ?_; conv => whnf) | (refine Pick.draw rfl (by kernel_rfl) ?_; conv => whnf) | (refine Pick.drawM (by kernel_rfl) ?_; conv => whnf) | (refine CallC.r ?_; conv => whnf))
            refine Br.mk (fun h6 => ?_) (fun h6 => ?_)
            focus
              simp [hcol] at h6
              have htj := ij_lt htop h6
              ((conv => whnf); repeat first | (refine Br.no ?_; conv => whnf) | (refine Br.yes ?_; conv => whnf) | (refine Pick.draw rfl (by kernel_rfl) ?_; conv => whnf) | (refine Pick.drawM (by kernel_rfl) ?_; conv => whnf) | (refine CallC.r ?_; conv => whnf))
              refine Pick.at64 (z := ((s.pv.length * w : Nat) : Int)) (by rw [hcol]; push_cast; rfl) (by omega) ?_
              ((conv => whnf); repeat first | (refine Br.no ?_; conv => whnf) | (refine Br.yes ?_; conv => whnf) | (refine Pick.draw rfl (by kernel_rfl) ?_; conv => whnf) | (refine Pick.drawM (by kernel_rfl) ?_; conv => whnf) | (refine CallC.r ?_; conv => whnf))
              refine Pick.at64 (z := ((s.pv.length * w + j : Nat) : Int)) (by push_cast; rfl) (by omega) ?_
              ((conv => whnf); repeat first | (refine Br.no ?_; conv => whnf) | (refine Br.yes ?_; conv => whnf) | (refine Pick.draw rfl (by kernel_rfl) ?_; conv => whnf) | (refine Pick.drawM (by kernel_rfl) ?_; conv => whnf) | (refine CallC.r ?_; conv => whnf))
              refine Pick.at64 (z := ((s.pv.length * w : Nat) : Int)) (by rw [hcol]; push_cast; rfl) (by omega) ?_
              ((conv => whnf); repeat first | (refine Br.no ?_; conv => whnf) | (refine Br.yes ?_; conv => whnf) | (refine Pick.draw rfl (by kernel_rfl) ?_; conv => whnf) | (refine Pick.drawM (by kernel_rfl) ?_; conv => whnf) | (refine CallC.r ?_; conv => whnf))
              refine Pick.at64 (z := ((s.pv.length * w + j : Nat) : Int)) (by push_cast; rfl) (by omega) ?_
              ((conv => whnf); repeat first | (refine Br.no ?_; conv => whnf) | (refine Br.yes ?_; conv => whnf) | (refine Pick.draw rfl (by kernel_rfl) ?_; conv => whnf) | (refine Pick.drawM (by kernel_rfl) ?_; conv => whnf) | (refine CallC.r ?_; conv => whnf))
              refine Side.mk (by rw [hgl]; omega) ?_
              ((conv => whnf); repeat first | (refine Br.no ?_; conv => whnf) | (refine Br.yes ?_; conv => whnf) | (refine Pick.draw rfl (by kernel_rfl) ?_; conv => whnf) | (refine Pick.drawM (by kernel_rfl) ?_; conv => whnf) | (refine CallC.r ?_; conv => whnf))
              refine Pick.rg (i := s.pv.length) (j := j) (x := g s.pv.length j) htop h6 (by omega) (by rw [colUp_at]) ?_
              ((conv => whnf); repeat first | (refine Br.no ?_; conv => whnf) | (refine Br.yes ?_; conv => whnf) | (refine Pick.draw rfl (by kernel_rfl) ?_; conv => whnf) | (refine Pick.drawM (by kernel_rfl) ?_; conv => whnf) | (refine CallC.r ?_; conv => whnf))
              have hgj := hgel _ _ htop h6
              have hgm := mul_bound' (a := g s.pv.length j) (b := pw ld m.prime (m.prime - 2).toNat) (by omega) (by omega)
              refine Pick.w64 (by rw [show invM ld m.prime = pw ld m.prime (m.prime - 2).toNat from rfl]; omega) ?_
              ((conv => whnf); repeat first | (refine Br.no ?_; conv => whnf) | (refine Br.yes ?_; conv => whnf) | (refine Pick.draw rfl (by kernel_rfl) ?_; conv => whnf) | (refine Pick.drawM (by kernel_rfl) ?_; conv => whnf) | (refine CallC.r ?_; conv => whnf))
              refine Side.mk (by omega) ?_
              ((conv => whnf); repeat first | (refine Br.no ?_; conv => whnf) | (refine Br.yes ?_; conv => whnf) | (refine Pick.draw rfl (by kernel_rfl) ?_; conv => whnf) | (refine Pick.drawM (by kernel_rfl) ?_; conv => whnf) | (refine CallC.r ?_; conv => whnf))
              refine Side.mk (by rw [hgl]; omega) ?_
              ((conv => whnf); repeat first | (refine Br.no ?_; conv => whnf) | (refine Br.yes ?_; conv => whnf) | (refine Pick.draw rfl (by kernel_rfl) ?_; conv => whnf) | (refine Pick.drawM (by kernel_rfl) ?_; conv => whnf) | (refine CallC.r ?_; conv => whnf))
              rw [gset (F := colUp g lf j) (i := s.pv.length) (j := j) (lf s.pv.length j) _ _ htop h6]
              rotate_left
              · rfl
              · have : (g s.pv.length j * invM ld m.prime).tmod m.prime = lf s.pv.length j := by
                  rw [← hlf, Int.tmod_eq_emod_of_nonneg (by exact hgm.1)]; simp [leadF]
                rw [this]; rfl
              rw [colUp_set1 fun a h7 => by rw [← hlf]; simp [leadF, h7]]
              refine Pick.at64 (z := (j + 1 : Nat)) (by simp) (by omega) ?_
              ((conv => whnf); repeat first | (refine Br.no ?_; conv => whnf) | (refine Br.yes ?_; conv => whnf) | (refine Pick.draw rfl (by kernel_rfl) ?_; conv => whnf) | (refine Pick.drawM (by kernel_rfl) ?_; conv => whnf) | (refine CallC.r ?_; conv => whnf))
              exact ih3 (j + 1) (by omega) (by omega)
            simp [hcol] at h6
            obtain rfl : w = j := by omega
            rw [colUp_all]
            ((conv => whnf); repeat first | (refine Br.no ?_; conv => whnf) | (refine Br.yes ?_; conv => whnf) | (refine Pick.draw rfl (by kernel_rfl) ?_; conv => whnf) | (refine Pick.drawM (by kernel_rfl) ?_; conv => whnf) | (refine CallC.r ?_; conv => whnf))
            refine Pick.mk [0, 2, 5, 6, 7, 8, 9, 10, 11, 18] trivial ?_
            ((conv => whnf); repeat first | (refine Br.no ?_; conv => whnf) | (refine Br.yes ?_; conv => whnf) | (refine Pick.draw rfl (by kernel_rfl) ?_; conv => whnf) | (refine Pick.drawM (by kernel_rfl) ?_; conv => whnf) | (refine CallC.r ?_; conv => whnf))
            refine LoopL.over (fun (i : Nat) => [(18, .one (.c (.int .i64 ((i : Int)))))]) (fun (i : Nat) => [(2368, Ob.arr 1 ((grid r w (partF lf m.prime s.pv.length k i)).map Enc.enc))]) (fun (i : Nat) => r - i) (fun (i : Nat) => i ≤ r) ?_ 0 (Nat.zero_le _) (by rw [partF_zero]; rfl)
            intro i hi ih4
            ((conv => whnf); repeat first | (refine Br.no ?_; conv => whnf) | (refine Br.yes ?_; conv => whnf) | (refine Pick.draw rfl (by kernel_rfl) ?_; conv => whnf) | (refine Pick.drawM (by kernel_rfl) ?_; conv => whnf) | (refine CallC.r ?_; conv => whnf))
            refine Br.mk (fun h7 => ?_) (fun h7 => ?_)
            focus
              simp [hrow] at h7
              have hiw := hwp i h7
              have hik := ij_lt h7 h
              ((conv => whnf); repeat first | (refine Br.no ?_; conv => whnf) | (refine Br.yes ?_; conv => whnf) | (refine Pick.draw rfl (by kernel_rfl) ?_; conv => whnf) | (refine Pick.drawM (by kernel_rfl) ?_; conv => whnf) | (refine CallC.r ?_; conv => whnf))
              refine Pick.at64 (z := ((i * w : Nat) : Int)) (by rw [hcol]; push_cast; rfl) (by omega) ?_
              ((conv => whnf); repeat first | (refine Br.no ?_; conv => whnf) | (refine Br.yes ?_; conv => whnf) | (refine Pick.draw rfl (by kernel_rfl) ?_; conv => whnf) | (refine Pick.drawM (by kernel_rfl) ?_; conv => whnf) | (refine CallC.r ?_; conv => whnf))
              refine Pick.at64 (z := ((i * w + k : Nat) : Int)) (by push_cast; rfl) (by omega) ?_
              ((conv => whnf); repeat first | (refine Br.no ?_; conv => whnf) | (refine Br.yes ?_; conv => whnf) | (refine Pick.draw rfl (by kernel_rfl) ?_; conv => whnf) | (refine Pick.drawM (by kernel_rfl) ?_; conv => whnf) | (refine CallC.r ?_; conv => whnf))
              refine Side.mk (by rw [hgl]; omega) ?_
              ((conv => whnf); repeat first | (refine Br.no ?_; conv => whnf) | (refine Br.yes ?_; conv => whnf) | (refine Pick.draw rfl (by kernel_rfl) ?_; conv => whnf) | (refine Pick.drawM (by kernel_rfl) ?_; conv => whnf) | (refine CallC.r ?_; conv => whnf))
              refine Pick.rg (i := i) (j := k) (x := lf i k) h7 h (by omega) (by rw [partF_self]) ?_
              ((conv => whnf); repeat first | (refine Br.no ?_; conv => whnf) | (refine Br.yes ?_; conv => whnf) | (refine Pick.draw rfl (by kernel_rfl) ?_; conv => whnf) | (refine Pick.drawM (by kernel_rfl) ?_; conv => whnf) | (refine CallC.r ?_; conv => whnf))
              refine Br.mk (fun h8 => ?_) (fun h8 => ?_) <;> ((conv => whnf); repeat first | (refine Br.no ?_; conv => whnf) | (refine Br.yes ?_; conv => whnf) | (refine Pick.draw rfl (by kernel_rfl) ?_; conv => whnf) | (refine Pick.drawM (by kernel_rfl) ?_; conv => whnf) | (refine CallC.r ?_; conv => whnf))
              · have he : i = s.pv.length := by simp at h8; omega
                refine Pick.at64 (z := (i + 1 : Nat)) (by simp) (by omega) ?_
                ((conv => whnf); repeat first | (refine Br.no ?_; conv => whnf) | (refine Br.yes ?_; conv => whnf) | (refine Pick.draw rfl (by kernel_rfl) ?_; conv => whnf) | (refine Pick.drawM (by kernel_rfl) ?_; conv => whnf) | (refine CallC.r ?_; conv => whnf))
                have hn := ih4 (i + 1) (by omega) (by omega)
                rw [grid_of_tab (partF_keep hlel (Or.inl he))] at hn
                exact hn
              · have hne : i ≠ s.pv.length := fun e => by rw [e] at h8; simp at h8
                refine Br.mk (fun h9 => ?_) (fun h9 => ?_) <;> ((conv => whnf); repeat first | (refine Br.no ?_; conv => whnf) | (refine Br.yes ?_; conv => whnf) | (refine Pick.draw rfl (by kernel_rfl) ?_; conv => whnf) | (refine Pick.drawM (by kernel_rfl) ?_; conv => whnf) | (refine CallC.r ?_; conv => whnf))
                · have hz : lf i k = 0 := by simpa using h9
                  refine Pick.at64 (z := (i + 1 : Nat)) (by simp) (by omega) ?_
                  ((conv => whnf); repeat first | (refine Br.no ?_; conv => whnf) | (refine Br.yes ?_; conv => whnf) | (refine Pick.draw rfl (by kernel_rfl) ?_; conv => whnf) | (refine Pick.drawM (by kernel_rfl) ?_; conv => whnf) | (refine CallC.r ?_; conv => whnf))
                  have hn := ih4 (i + 1) (by omega) (by omega)
                  rw [grid_of_tab (partF_keep hlel (Or.inr hz))] at hn
                  exact hn
                · generalize hpf : partF lf m.prime s.pv.length k i = pf
                  have hpi : ∀ b, pf i b = lf i b := fun b => by rw [← hpf, partF_self]
                  have hpt : ∀ b, pf s.pv.length b = lf s.pv.length b := fun b => by rw [← hpf, partF_top]
                  refine Pick.mk [0, 2, 5, 6, 7, 8, 9, 10, 11, 18, 19, 20] trivial ?_
                  ((conv => whnf); repeat first | (refine Br.no ?_; conv => whnf) | (refine Br.yes ?_; conv => whnf) | (refine Pick.draw rfl (by kernel_rfl) ?_; conv => whnf) | (refine Pick.drawM (by kernel_rfl) ?_; conv => whnf) | (refine CallC.r ?_; conv => whnf))
                  refine LoopL.over (fun (j : Nat) => [(20, .one (.c (.int .i64 ((j : Int)))))]) (fun (j : Nat) => [(2368, Ob.arr 1 ((grid r w (colUp pf (upd1 pf i (clearF lf m.prime s.pv.length k i)) j)).map Enc.enc))]) (fun (j : Nat) => w - j) (fun (j : Nat) => j ≤ w) ?_ 0 (Nat.zero_le _) (by rw [colUp_zero]; rfl)
                  intro j hj ih5
                  ((conv => whnf); repeat first | (refine Br.no ?_; conv => whnf) | (refine Br.yes ?_; conv => whnf) | (refine Pick.draw rfl (by kernel_rfl) ?_; conv => whnf) | (refine Pick.drawM (by kernel_rfl) ?_; conv => whnf) | (refine CallC.r ?_; conv => whnf))
                  refine Br.mk (fun h10 => ?_) (fun h10 => ?_) <;> ((conv => whnf); repeat first | (refine Br.no ?_; conv => whnf) | (refine Br.yes ?_; conv => whnf) | (refine Pick.draw rfl (by kernel_rfl) ?_; conv => whnf) | (refine Pick.drawM (by kernel_rfl) ?_; conv => whnf) | (refine CallC.r ?_; conv => whnf))
                  · simp [hcol] at h10
                    have hij := ij_lt h7 h10
                    have htj := ij_lt htop h10
                    refine Pick.at64 (z := ((i * w : Nat) : Int)) (by rw [hcol]; push_cast; rfl) (by omega) ?_
                    ((conv => whnf); repeat first | (refine Br.no ?_; conv => whnf) | (refine Br.yes ?_; conv => whnf) | (refine Pick.draw rfl (by kernel_rfl) ?_; conv => whnf) | (refine Pick.drawM (by kernel_rfl) ?_; conv => whnf) | (refine CallC.r ?_; conv => whnf))
                    refine Pick.at64 (z := ((i * w + j : Nat) : Int)) (by push_cast; rfl) (by omega) ?_
                    ((conv => whnf); repeat first | (refine Br.no ?_; conv => whnf) | (refine Br.yes ?_; conv => whnf) | (refine Pick.draw rfl (by kernel_rfl) ?_; conv => whnf) | (refine Pick.drawM (by kernel_rfl) ?_; conv => whnf) | (refine CallC.r ?_; conv => whnf))
                    refine Pick.at64 (z := ((i * w : Nat) : Int)) (by rw [hcol]; push_cast; rfl) (by omega) ?_
                    ((conv => whnf); repeat first | (refine Br.no ?_; conv => whnf) | (refine Br.yes ?_; conv => whnf) | (refine Pick.draw rfl (by kernel_rfl) ?_; conv => whnf) | (refine Pick.drawM (by kernel_rfl) ?_; conv => whnf) | (refine CallC.r ?_; conv => whnf))
                    refine Pick.at64 (z := ((i * w + j : Nat) : Int)) (by push_cast; rfl) (by omega) ?_
                    ((conv => whnf); repeat first | (refine Br.no ?_; conv => whnf) | (refine Br.yes ?_; conv => whnf) | (refine Pick.draw rfl (by kernel_rfl) ?_; conv => whnf) | (refine Pick.drawM (by kernel_rfl) ?_; conv => whnf) | (refine CallC.r ?_; conv => whnf))
                    refine Side.mk (by rw [hgl]; omega) ?_
                    ((conv => whnf); repeat first | (refine Br.no ?_; conv => whnf) | (refine Br.yes ?_; conv => whnf) | (refine Pick.draw rfl (by kernel_rfl) ?_; conv => whnf) | (refine Pick.drawM (by kernel_rfl) ?_; conv => whnf) | (refine CallC.r ?_; conv => whnf))
                    refine Pick.rg (i := i) (j := j) (x := lf i j) h7 h10 (by omega) (by rw [colUp_at, hpi]) ?_
                    ((conv => whnf); repeat first | (refine Br.no ?_; conv => whnf) | (refine Br.yes ?_; conv => whnf) | (refine Pick.draw rfl (by kernel_rfl) ?_; conv => whnf) | (refine Pick.drawM (by kernel_rfl) ?_; conv => whnf) | (refine CallC.r ?_; conv => whnf))
                    refine Pick.at64 (z := ((s.pv.length * w : Nat) : Int)) (by rw [hcol]; push_cast; rfl) (by omega) ?_
                    ((conv => whnf); repeat first | (refine Br.no ?_; conv => whnf) | (refine Br.yes ?_; conv => whnf) | (refine Pick.draw rfl (by kernel_rfl) ?_; conv => whnf) | (refine Pick.drawM (by kernel_rfl) ?_; conv => whnf) | (refine CallC.r ?_; conv => whnf))
                    refine Pick.at64 (z := ((s.pv.length * w + j : Nat) : Int)) (by push_cast; rfl) (by omega) ?_
                    ((conv => whnf); repeat first | (refine Br.no ?_; conv => whnf) | (refine Br.yes ?_; conv => whnf) | (refine Pick.draw rfl (by kernel_rfl) ?_; conv => whnf) | (refine Pick.drawM (by kernel_rfl) ?_; conv => whnf) | (refine CallC.r ?_; conv => whnf))
                    refine Side.mk (by rw [hgl]; omega) ?_
                    ((conv => whnf); repeat first | (refine Br.no ?_; conv => whnf) | (refine Br.yes ?_; conv => whnf) | (refine Pick.draw rfl (by kernel_rfl) ?_; conv => whnf) | (refine Pick.drawM (by kernel_rfl) ?_; conv => whnf) | (refine CallC.r ?_; conv => whnf))
                    refine Pick.rg (i := s.pv.length) (j := j) (x := lf s.pv.length j) htop h10 (by omega) (by rw [colUp_at, hpt]) ?_
                    ((conv => whnf); repeat first | (refine Br.no ?_; conv => whnf) | (refine Br.yes ?_; conv => whnf) | (refine Pick.draw rfl (by kernel_rfl) ?_; conv => whnf) | (refine Pick.drawM (by kernel_rfl) ?_; conv => whnf) | (refine CallC.r ?_; conv => whnf))
                    have b1 := hlel i k h7 h
                    have b2 := hlel i j h7 h10
                    have b3 := hlel _ j htop h10
                    have bm := mul_bound' (a := lf i k) (b := lf s.pv.length j) (by omega) (by omega)
                    refine Pick.w64 (by omega) ?_
                    ((conv => whnf); repeat first | (refine Br.no ?_; conv => whnf) | (refine Br.yes ?_; conv => whnf) | (refine Pick.draw rfl (by kernel_rfl) ?_; conv => whnf) | (refine Pick.drawM (by kernel_rfl) ?_; conv => whnf) | (refine CallC.r ?_; conv => whnf))
                    refine Pick.w64 (by omega) ?_
                    ((conv => whnf); repeat first | (refine Br.no ?_; conv => whnf) | (refine Br.yes ?_; conv => whnf) | (refine Pick.draw rfl (by kernel_rfl) ?_; conv => whnf) | (refine Pick.drawM (by kernel_rfl) ?_; conv => whnf) | (refine CallC.r ?_; conv => whnf))
                    refine Pick.mk _ (s_l03Mod (lf i j - lf i k * lf s.pv.length j) m.prime hp (by omega)) ?_
                    ((conv => whnf); repeat first | (refine Br.no ?_; conv => whnf) | (refine Br.yes ?_; conv => whnf) | (refine Pick.draw rfl (by kernel_rfl) ?_; conv => whnf) | (refine Pick.drawM (by kernel_rfl) ?_; conv => whnf) | (refine CallC.r ?_; conv => whnf))
                    refine Side.mk (by rw [hgl]; omega) ?_
                    ((conv => whnf); repeat first | (refine Br.no ?_; conv => whnf) | (refine Br.yes ?_; conv => whnf) | (refine Pick.draw rfl (by kernel_rfl) ?_; conv => whnf) | (refine Pick.drawM (by kernel_rfl) ?_; conv => whnf) | (refine CallC.r ?_; conv => whnf))
                    rw [gset (F := colUp pf (upd1 pf i (clearF lf m.prime s.pv.length k i)) j) (i := i) (j := j) (upd1 pf i (clearF lf m.prime s.pv.length k i) i j) _ _ h7 h10]
                    rotate_left
                    · rfl
                    · have : (lf i j - lf i k * lf s.pv.length j) % m.prime = upd1 pf i (clearF lf m.prime s.pv.length k i) i j := by
                        rw [sub_mod]; simp [upd1, clearF, hne]
                      rw [this]; rfl
                    rw [colUp_set1 fun a h7 => by simp [upd1, h7]]
                    refine Pick.at64 (z := (j + 1 : Nat)) (by simp) (by omega) ?_
                    ((conv => whnf); repeat first | (refine Br.no ?_; conv => whnf) | (refine Br.yes ?_; conv => whnf) | (refine Pick.draw rfl (by kernel_rfl) ?_; conv => whnf) | (refine Pick.drawM (by kernel_rfl) ?_; conv => whnf) | (refine CallC.r ?_; conv => whnf))
                    exact ih5 (j + 1) (by omega) (by omega)
                  · simp [hcol] at h10
                    obtain rfl : w = j := by omega
                    rw [colUp_all]
                    refine Pick.at64 (z := (i + 1 : Nat)) (by simp) (by omega) ?_
                    ((conv => whnf); repeat first | (refine Br.no ?_; conv => whnf) | (refine Br.yes ?_; conv => whnf) | (refine Pick.draw rfl (by kernel_rfl) ?_; conv => whnf) | (refine Pick.drawM (by kernel_rfl) ?_; conv => whnf) | (refine CallC.r ?_; conv => whnf))
                    have hn := ih4 (i + 1) (by omega) (by omega)
                    rw [grid_of_tab partF_succ, hpf] at hn
                    exact hn
            simp [hrow] at h7
            obtain rfl : r = i := by omega
            rw [grid_of_tab partF_all]
            ((conv => whnf); repeat first | (refine Br.no ?_; conv => whnf) | (refine Br.yes ?_; conv => whnf) | (refine Pick.draw rfl (by kernel_rfl) ?_; conv => whnf) | (refine Pick.drawM (by kernel_rfl) ?_; conv => whnf) | (refine CallC.r ?_; conv => whnf))
            refine Side.mk (by rw [List.length_map, pvI_len]; simp; omega) ?_
            ((conv => whnf); repeat first | (refine Br.no ?_; conv => whnf) | (refine Br.yes ?_; conv => whnf) | (refine Pick.draw rfl (by kernel_rfl) ?_; conv => whnf) | (refine Pick.drawM (by kernel_rfl) ?_; conv => whnf) | (refine CallC.r ?_; conv => whnf))
            refine Pick.at64 (z := (((s.pv ++ [k]).length : Nat) : Int)) (by simp) (by simp; omega) ?_
            ((conv => whnf); repeat first | (refine Br.no ?_; conv => whnf) | (refine Br.yes ?_; conv => whnf) | (refine Pick.draw rfl (by kernel_rfl) ?_; conv => whnf) | (refine Pick.drawM (by kernel_rfl) ?_; conv => whnf) | (refine CallC.r ?_; conv => whnf))
            refine Pick.at64 (z := (k + 1 : Nat)) (by simp) (by omega) ?_
            ((conv => whnf); repeat first | (refine Br.no ?_; conv => whnf) | (refine Br.yes ?_; conv => whnf) | (refine Pick.draw rfl (by kernel_rfl) ?_; conv => whnf) | (refine Pick.drawM (by kernel_rfl) ?_; conv => whnf) | (refine CallC.r ?_; conv => whnf))
            have e : stepE m.prime r s k = ⟨clearF lf m.prime s.pv.length k, s.pv ++ [k], (if at0 r k s = s.pv.length then s.dI else ((-s.dI) % m.prime + m.prime) % m.prime) * leadV r k s % m.prime, d * ld % m.prime⟩ := by
              unfold stepE; rw [if_pos (by omega), hat, hg, ← hat, hdS, hld, hlf]
            have hn := ih (k + 1) (by omega) (by omega)
            rw [hst, e] at hn
            have e2 : ∀ x y, pvI (⟨clearF lf m.prime s.pv.length k, s.pv ++ [k], x, y⟩ : ES) = pvI s ++ [(k : Int)] := fun x y => by simp [pvI]
            rw [e2, List.map_append] at hn
            exact hn
      · simp [hrow] at h2
        obtain rfl : q = r := by omega
        have hat : at0 q k s = q := by
          have := seek_none (g := fun a => s.f a k != 0) (n := q - s.pv.length) (q := s.pv.length) fun i h4 h5 => by simp [hq3 i h4 (by omega)]
          unfold at0; rw [this]; omega
        have e : stepE m.prime q s k = { s with dI := 0 } := by unfold stepE; rw [if_neg (by omega)]
        refine Br.mk (fun _ => ?_) (fun h4 => by simp [hrow] at h4)
        ((conv => whnf); repeat first | (refine Br.no ?_; conv => whnf) | (refine Br.yes ?_; conv => whnf) | (refine Pick.draw rfl (by kernel_rfl) ?_; conv => whnf) | (refine Pick.drawM (by kernel_rfl) ?_; conv => whnf) | (refine CallC.r ?_; conv => whnf))
        refine Pick.at64 (z := (k + 1 : Nat)) (by simp) (by omega) ?_
        ((conv => whnf); repeat first | (refine Br.no ?_; conv => whnf) | (refine Br.yes ?_; conv => whnf) | (refine Pick.draw rfl (by kernel_rfl) ?_; conv => whnf) | (refine Pick.drawM (by kernel_rfl) ?_; conv => whnf) | (refine CallC.r ?_; conv => whnf))
        have hn := ih (k + 1) (by omega) (by omega)
        rw [hst, e] at hn
        exact hn
    · simp [hrow] at h1
      obtain ⟨e1, e2, e3⟩ := hfull (by omega) (w - k)
      rw [show k + (w - k) = w by omega] at e1 e2 e3
      refine ResOK.same ?_
      rw [e3, e1, show pvI (elimF m.prime r (cellAt m) w) = pvI s by simp only [pvI, e2]]
  · simp [hcol] at h
    obtain rfl : k = w := by omega
    refine ResOK.same ?_
    rw [hs]
end Go.Proofs.Ytaplnfcnajpmgaa.Pi
