/- The kernel: the program and the reference. No statement of the seat is proved here. -/
import Derived.Test.YtaplnfcnajpmgaaPiFElimS
namespace Go.Proofs.Ytaplnfcnajpmgaa.Pi
open Go
set_option maxRecDepth 10000
set_option maxHeartbeats 3200000
set_option linter.unusedVariables false

theorem s_IndexInt64 (xs : List Int) (v : Int) (hb : xs.length ≤ maxLen) : Sat Try.prog 126 [(false, Enc.enc xs), (false, [.int .i64 v])] (.one (.c (.int .i64 (firstIx (fun x => v == x) xs 0))), []) := by
  simp only [maxLen] at hb
  have hl : (xs.map (Enc.enc (α := Int))).length = xs.length := by simp
  refine Sat.intro tok mixed Try.func126 rfl rfl ?_
  ((conv => whnf); repeat first | (refine Br.no ?_; conv => whnf) | (refine Br.yes ?_; conv => whnf) | (refine Pick.draw rfl (by kernel_rfl) ?_; conv => whnf) | (refine Pick.drawM (by kernel_rfl) ?_; conv => whnf) | (refine CallC.r ?_; conv => whnf))
  refine Pick.mk [0, 1, 7, 8] trivial ?_
  ((conv => whnf); repeat first | (refine Br.no ?_; conv => whnf) | (refine Br.yes ?_; conv => whnf) | (refine Pick.draw rfl (by kernel_rfl) ?_; conv => whnf) | (refine Pick.drawM (by kernel_rfl) ?_; conv => whnf) | (refine CallC.r ?_; conv => whnf))
  refine LoopL.run (fun i : Nat => St.mk [.one (.c (.slice 1 (xs.map Enc.enc))), .one (.c (.int .i64 v)), .one .dead, .one .dead, .one .dead, .one .dead, .one .dead, .one (.c (.int .i64 (xs.map (Enc.enc (α := Int))).length)), .one (.c (.int .i64 i)), .one .dead, .one .dead, .one .dead, .one .dead, .one .dead, .one .dead, .one .dead, .one .dead, .one .dead, .one .dead] []) (fun i => xs.length - i) (fun i => i ≤ xs.length ∧ ∀ (j : Nat) (h : j < xs.length), j < i → (v == xs[j]) = false) ?_ 0 ⟨Nat.zero_le _, by intros; omega⟩
  intro i ⟨h2, h3⟩ ih
  ((conv => whnf); repeat first | (refine Br.no ?_; conv => whnf) | (refine Br.yes ?_; conv => whnf) | (refine Pick.draw rfl (by kernel_rfl) ?_; conv => whnf) | (refine Pick.drawM (by kernel_rfl) ?_; conv => whnf) | (refine CallC.r ?_; conv => whnf))
  refine Br.mk (fun h => ?_) (fun h => ?_) <;> ((conv => whnf); repeat first | (refine Br.no ?_; conv => whnf) | (refine Br.yes ?_; conv => whnf) | (refine Pick.draw rfl (by kernel_rfl) ?_; conv => whnf) | (refine Pick.drawM (by kernel_rfl) ?_; conv => whnf) | (refine CallC.r ?_; conv => whnf))
  · simp at h
    refine Pick.ix h ?_
    ((conv => whnf); repeat first | (refine Br.no ?_; conv => whnf) | (refine Br.yes ?_; conv => whnf) | (refine Pick.draw rfl (by kernel_rfl) ?_; conv => whnf) | (refine Pick.drawM (by kernel_rfl) ?_; conv => whnf) | (refine CallC.r ?_; conv => whnf))
    refine Br.mk (fun h5 => ?_) (fun h5 => ?_) <;> ((conv => whnf); repeat first | (refine Br.no ?_; conv => whnf) | (refine Br.yes ?_; conv => whnf) | (refine Pick.draw rfl (by kernel_rfl) ?_; conv => whnf) | (refine Pick.drawM (by kernel_rfl) ?_; conv => whnf) | (refine CallC.r ?_; conv => whnf))
    · exact ResOK.same (by rw [firstIx_at h h5 h3, Nat.zero_add])
    · refine Pick.at64 (z := (i + 1 : Nat)) (by simp) (by omega) ?_
      ((conv => whnf); repeat first | (refine Br.no ?_; conv => whnf) | (refine Br.yes ?_; conv => whnf) | (refine Pick.draw rfl (by kernel_rfl) ?_; conv => whnf) | (refine Pick.drawM (by kernel_rfl) ?_; conv => whnf) | (refine CallC.r ?_; conv => whnf))
      refine ih (i + 1) ⟨by omega, fun j h1 h6 => ?_⟩ (by omega)
      by_cases hj : j < i
      · exact h3 j h1 hj
      · obtain rfl : j = i := by omega
        exact h5
  · simp at h
    exact ResOK.same (by rw [firstIx_none fun j h1 => h3 j h1 (by omega)])

theorem s_ContainsInt64 (xs : List Int) (v : Int) (hb : xs.length ≤ maxLen) : Sat Try.prog 86 [(false, Enc.enc xs), (false, [.int .i64 v])] (.one (.c (.bool (xs.any fun x => v == x))), []) := by
  refine Sat.intro tok mixed Try.func86 rfl rfl ?_
  ((conv => whnf); repeat first | (refine Br.no ?_; conv => whnf) | (refine Br.yes ?_; conv => whnf) | (refine Pick.draw rfl (by kernel_rfl) ?_; conv => whnf) | (refine Pick.drawM (by kernel_rfl) ?_; conv => whnf) | (refine CallC.r ?_; conv => whnf))
  refine Pick.mk _ (s_IndexInt64 xs v hb) ?_
  ((conv => whnf); repeat first | (refine Br.no ?_; conv => whnf) | (refine Br.yes ?_; conv => whnf) | (refine Pick.draw rfl (by kernel_rfl) ?_; conv => whnf) | (refine Pick.drawM (by kernel_rfl) ?_; conv => whnf) | (refine CallC.r ?_; conv => whnf))
  exact ResOK.same (by rw [firstIx_any])

theorem s_l00Has (xs : List Int) (v : Int) (hb : xs.length ≤ maxLen) : Sat Try.prog 80 [(false, Enc.enc xs), (false, [.int .i64 v])] (.one (.c (.bool (xs.any fun x => v == x))), []) := by
  simp only [maxLen] at hb
  have hl : (xs.map (Enc.enc (α := Int))).length = xs.length := by simp
  refine Sat.intro tok mixed Try.func80 rfl rfl ?_
  ((conv => whnf); repeat first | (refine Br.no ?_; conv => whnf) | (refine Br.yes ?_; conv => whnf) | (refine Pick.draw rfl (by kernel_rfl) ?_; conv => whnf) | (refine Pick.drawM (by kernel_rfl) ?_; conv => whnf) | (refine CallC.r ?_; conv => whnf))
  refine Pick.mk [0, 1, 5] trivial ?_
  ((conv => whnf); repeat first | (refine Br.no ?_; conv => whnf) | (refine Br.yes ?_; conv => whnf) | (refine Pick.draw rfl (by kernel_rfl) ?_; conv => whnf) | (refine Pick.drawM (by kernel_rfl) ?_; conv => whnf) | (refine CallC.r ?_; conv => whnf))
  refine LoopL.run (fun i : Nat => St.mk [.one (.c (.slice 1 (xs.map Enc.enc))), .one (.c (.int .i64 v)), .one .dead, .one .dead, .one .dead, .one (.c (.int .i64 i)), .one .dead, .one .dead, .one .dead, .one .dead, .one .dead, .one .dead, .one .dead, .one .dead, .one .dead, .one .dead, .one .dead, .one .dead] []) (fun i => xs.length - i) (fun i => i ≤ xs.length ∧ ∀ (j : Nat) (h : j < xs.length), j < i → (v == xs[j]) = false) ?_ 0 ⟨Nat.zero_le _, by intros; omega⟩
  intro i ⟨h2, h3⟩ ih
  ((conv => whnf); repeat first | (refine Br.no ?_; conv => whnf) | (refine Br.yes ?_; conv => whnf) | (refine Pick.draw rfl (by kernel_rfl) ?_; conv => whnf) | (refine Pick.drawM (by kernel_rfl) ?_; conv => whnf) | (refine CallC.r ?_; conv => whnf))
  refine Br.mk (fun h => ?_) (fun h => ?_) <;> ((conv => whnf); repeat first | (refine Br.no ?_; conv => whnf) | (refine Br.yes ?_; conv => whnf) | (refine Pick.draw rfl (by kernel_rfl) ?_; conv => whnf) | (refine Pick.drawM (by kernel_rfl) ?_; conv => whnf) | (refine CallC.r ?_; conv => whnf))
  · simp at h
    refine Pick.ix h ?_
    ((conv => whnf); repeat first | (refine Br.no ?_; conv => whnf) | (refine Br.yes ?_; conv => whnf) | (refine Pick.draw rfl (by kernel_rfl) ?_; conv => whnf) | (refine Pick.drawM (by kernel_rfl) ?_; conv => whnf) | (refine CallC.r ?_; conv => whnf))
    refine Br.mk (fun h5 => ?_) (fun h5 => ?_) <;> ((conv => whnf); repeat first | (refine Br.no ?_; conv => whnf) | (refine Br.yes ?_; conv => whnf) | (refine Pick.draw rfl (by kernel_rfl) ?_; conv => whnf) | (refine Pick.drawM (by kernel_rfl) ?_; conv => whnf) | (refine CallC.r ?_; conv => whnf))
    · simp at h5
      exact ResOK.same (by rw [List.any_eq_true.2 ⟨xs[i], List.getElem_mem h, by simpa using h5.symm⟩])
    · refine Pick.at64 (z := (i + 1 : Nat)) (by simp) (by omega) ?_
      ((conv => whnf); repeat first | (refine Br.no ?_; conv => whnf) | (refine Br.yes ?_; conv => whnf) | (refine Pick.draw rfl (by kernel_rfl) ?_; conv => whnf) | (refine Pick.drawM (by kernel_rfl) ?_; conv => whnf) | (refine CallC.r ?_; conv => whnf))
      refine ih (i + 1) ⟨by omega, fun j h1 h6 => ?_⟩ (by omega)
      by_cases hj : j < i
      · exact h3 j h1 hj
      · obtain rfl : j = i := by omega
        simp at h5 ⊢
        exact fun e => h5 e.symm
  · simp at h
    have : (xs.any fun x => v == x) = false := by
      rw [List.any_eq_false]
      intro x hx
      obtain ⟨j, hj, rfl⟩ := List.getElem_of_mem hx
      rw [h3 j hj (by omega)]; simp
    exact ResOK.same (by rw [this])

/-- A vector of the kernel, as far as the first 'n' pivots. -/
def kerV (p : Int) (s : ES) (w c n : Nat) : List Int := (List.range n).foldl (fun x i => x.set (s.pv.getD i 0) ((0 - s.f i c) % p)) ((List.replicate w 0).set c 1)
theorem kerV_succ (p : Int) (s : ES) (w c n : Nat) : kerV p s w c (n + 1) = (kerV p s w c n).set (s.pv.getD n 0) ((0 - s.f n c) % p) := by
  simp only [kerV, List.range_succ, List.foldl_append, List.foldl_cons, List.foldl_nil]
theorem kerV_len (p : Int) (s : ES) (w c : Nat) : ∀ n, (kerV p s w c n).length = w
  | 0 => by simp [kerV]
  | n + 1 => by rw [kerV_succ, List.length_set, kerV_len p s w c n]
def kerUp (p : Int) (s : ES) (w : Nat) : Nat → List (List Int)
  | 0 => []
  | n + 1 => if s.pv.contains n then kerUp p s w n else kerUp p s w n ++ [kerV p s w n s.pv.length]
theorem kerUp_len (p : Int) (s : ES) (w : Nat) : ∀ n, (kerUp p s w n).length ≤ n
  | 0 => Nat.le_refl _
  | n + 1 => by
    have := kerUp_len p s w n
    rw [kerUp]; split
    · omega
    · simp; omega
theorem any_nat (c : Nat) : ∀ l : List Nat, (l.any fun x => (c : Int) == (x : Int)) = l.contains c
  | [] => rfl
  | a :: l => by
    rw [List.any_cons, List.contains_cons, any_nat c l]
    congr 1
    rw [Bool.eq_iff_iff, beq_iff_eq, beq_iff_eq]
    omega
theorem has_pv (s : ES) (c : Nat) : ((pvI s).any fun x => (c : Int) == x) = s.pv.contains c := by
  rw [pvI, List.any_map]; exact any_nat c s.pv

theorem rows_tab {m : Matrix} {r w : Nat} (ok : MatOK m r w) : rowsL m = tab r w (cellAt m) := by
  refine List.ext_getElem? fun i => ?_
  by_cases hi : i < r
  · rw [tab_get hi, rowsL, ok.rn, List.getElem?_map, List.getElem?_range hi]
    simp only [Option.map_some]
    congr 1
    refine List.ext_getElem? fun j => ?_
    by_cases hj : j < w
    · have h1 := ok.rowGet hi hj
      have hl := ok.rowLen hi
      rw [List.getD_eq_getElem?_getD, List.getElem?_eq_getElem (by omega), Option.getD_some] at h1
      rw [List.getElem?_eq_getElem (by omega), h1]; simp [hj]
    · rw [List.getElem?_eq_none (by rw [ok.rowLen hi]; omega), List.getElem?_eq_none (by simp; omega)]
  · rw [List.getElem?_eq_none (by simp [rowsL, ok.rn]; omega), List.getElem?_eq_none (by rw [tab_len]; omega)]

theorem s_kernel (m : Matrix) {r w : Nat} (ok : MatOK m r w) : Sat Try.prog 45 [(true, Enc.enc m)] (.one (.rs 0), [(0, .arr 1 ((kerUp m.prime (elimF m.prime r (cellAt m) w) w w).map Enc.enc))]) := by
  have hrow := ok.rows
  have hcol := ok.columns
  have hrb := ok.rb
  have hcb := ok.cb
  have hp := ok.p
  have hro := s_rowsOf m ok
  rw [rows_tab ok] at hro
  refine Sat.intro tok mixed Try.func45 rfl rfl ?_
  ((conv => whnf); repeat first | (refine Br.no ?_; conv => whnf) | (refine Br.yes ?_; conv => whnf) | (refine Pick.draw rfl (by kernel_rfl) ?_; conv => whnf) | (refine Pick.drawM (by kernel_rfl) ?_; conv => whnf) | (refine CallC.r ?_; conv => whnf))
  refine Pick.mk _ hro ?_
  ((conv => whnf); repeat first | (refine Br.no ?_; conv => whnf) | (refine Br.yes ?_; conv => whnf) | (refine Pick.draw rfl (by kernel_rfl) ?_; conv => whnf) | (refine Pick.drawM (by kernel_rfl) ?_; conv => whnf))
  refine CallC.x ?_
  ((conv => whnf); repeat first | (refine Br.no ?_; conv => whnf) | (refine Br.yes ?_; conv => whnf) | (refine Pick.draw rfl (by kernel_rfl) ?_; conv => whnf) | (refine Pick.drawM (by kernel_rfl) ?_; conv => whnf) | (refine CallC.r ?_; conv => whnf))
  rw [hcol]
  refine Pick.mk _ (s_eliminate w r m.prime (cellAt m) hp (fun i j _ _ => ok.cellEl i j) hrb hcb) ?_
  have oks := elimF_ok hp.1 (r := r) (w := w) (f := cellAt m) (fun i j _ _ => ok.cellEl i j) w
  generalize elimF m.prime r (cellAt m) w = s at oks ⊢
  ((conv => whnf); repeat first | (refine Br.no ?_; conv => whnf) | (refine Br.yes ?_; conv => whnf) | (refine Pick.draw rfl (by kernel_rfl) ?_; conv => whnf) | (refine Pick.drawM (by kernel_rfl) ?_; conv => whnf) | (refine CallC.r ?_; conv => whnf))
  refine Side.mk (by rw [List.length_map, List.length_map, tab_len, tab_len]) ?_
  ((conv => whnf); repeat first | (refine Br.no ?_; conv => whnf) | (refine Br.yes ?_; conv => whnf) | (refine Pick.draw rfl (by kernel_rfl) ?_; conv => whnf) | (refine Pick.drawM (by kernel_rfl) ?_; conv => whnf) | (refine CallC.r ?_; conv => whnf))
  have hpb := oks.pb
  have hpr := oks.pr
  refine Pick.mk [1, 3, 4, 6, 23, 24, 1000192, 1000256] trivial ?_
  ((conv => whnf); repeat first | (refine Br.no ?_; conv => whnf) | (refine Br.yes ?_; conv => whnf) | (refine Pick.draw rfl (by kernel_rfl) ?_; conv => whnf) | (refine Pick.drawM (by kernel_rfl) ?_; conv => whnf) | (refine CallC.r ?_; conv => whnf))
  refine LoopL.over (fun (c : Nat) => [(24, .one (.c (.int .i64 ((c : Int)))))]) (fun (c : Nat) => [(384, Ob.arr 1 ((kerUp m.prime s w c).map Enc.enc))]) (fun (c : Nat) => w - c) (fun (c : Nat) => c ≤ w) ?_ 0 (Nat.zero_le _)
  intro c hc ih
  ((conv => whnf); repeat first | (refine Br.no ?_; conv => whnf) | (refine Br.yes ?_; conv => whnf) | (refine Pick.draw rfl (by kernel_rfl) ?_; conv => whnf) | (refine Pick.drawM (by kernel_rfl) ?_; conv => whnf) | (refine CallC.r ?_; conv => whnf))
  refine Br.mk (fun h => ?_) (fun h => ?_) <;> ((conv => whnf); repeat first | (refine Br.no ?_; conv => whnf) | (refine Br.yes ?_; conv => whnf) | (refine Pick.draw rfl (by kernel_rfl) ?_; conv => whnf) | (refine Pick.drawM (by kernel_rfl) ?_; conv => whnf) | (refine CallC.r ?_; conv => whnf))
  · simp at h
    refine Pick.mk _ (s_ContainsInt64 (pvI s) c (by rw [pvI_len]; simp only [maxLen]; omega)) ?_
    ((conv => whnf); repeat first | (refine Br.no ?_; conv => whnf) | (refine Br.yes ?_; conv => whnf) | (refine Pick.draw rfl (by kernel_rfl) ?_; conv => whnf) | (refine Pick.drawM (by kernel_rfl) ?_; conv => whnf) | (refine CallC.r ?_; conv => whnf))
    rw [has_pv]
    refine Br.mk (fun h2 => ?_) (fun h2 => ?_) <;> ((conv => whnf); repeat first | (refine Br.no ?_; conv => whnf) | (refine Br.yes ?_; conv => whnf) | (refine Pick.draw rfl (by kernel_rfl) ?_; conv => whnf) | (refine Pick.drawM (by kernel_rfl) ?_; conv => whnf) | (refine CallC.r ?_; conv => whnf))
    · refine Pick.at64 (z := (c + 1 : Nat)) (by simp) (by omega) ?_
      ((conv => whnf); repeat first | (refine Br.no ?_; conv => whnf) | (refine Br.yes ?_; conv => whnf) | (refine Pick.draw rfl (by kernel_rfl) ?_; conv => whnf) | (refine Pick.drawM (by kernel_rfl) ?_; conv => whnf) | (refine CallC.r ?_; conv => whnf))
      have hn := ih (c + 1) (by omega) (by omega)
      rw [kerUp, if_pos h2] at hn
      exact hn
    · refine Side.mk (by omega) ?_
      ((conv => whnf); repeat first | (refine Br.no ?_; conv => whnf) | (refine Br.yes ?_; conv => whnf) | (refine Pick.draw rfl (by kernel_rfl) ?_; conv => whnf) | (refine Pick.drawM (by kernel_rfl) ?_; conv => whnf) | (refine CallC.r ?_; conv => whnf))
      refine Side.mk (by simp; omega) ?_
      ((conv => whnf); repeat first | (refine Br.no ?_; conv => whnf) | (refine Br.yes ?_; conv => whnf) | (refine Pick.draw rfl (by kernel_rfl) ?_; conv => whnf) | (refine Pick.drawM (by kernel_rfl) ?_; conv => whnf) | (refine CallC.r ?_; conv => whnf))
      refine Pick.mk [1, 3, 4, 6, 7, 8, 23, 24, 36, 37, 38] trivial ?_
      ((conv => whnf); repeat first | (refine Br.no ?_; conv => whnf) | (refine Br.yes ?_; conv => whnf) | (refine Pick.draw rfl (by kernel_rfl) ?_; conv => whnf) | (refine Pick.drawM (by kernel_rfl) ?_; conv => whnf) | (refine CallC.r ?_; conv => whnf))
      refine LoopL.over (fun (i : Nat) => [(38, .one (.c (.int .i64 ((i : Int)))))]) (fun (i : Nat) => [(512, Ob.arr 1 ((kerV m.prime s w c i).map Enc.enc))]) (fun (i : Nat) => s.pv.length - i) (fun (i : Nat) => i ≤ s.pv.length) ?_ 0 (Nat.zero_le _) (by simp only [kerV, List.range_zero, List.foldl_nil, List.map_set, List.map_replicate]; rfl)
      intro i hi ih2
      ((conv => whnf); repeat first | (refine Br.no ?_; conv => whnf) | (refine Br.yes ?_; conv => whnf) | (refine Pick.draw rfl (by kernel_rfl) ?_; conv => whnf) | (refine Pick.drawM (by kernel_rfl) ?_; conv => whnf) | (refine CallC.r ?_; conv => whnf))
      refine Br.mk (fun h3 => ?_) (fun h3 => ?_) <;> ((conv => whnf); repeat first | (refine Br.no ?_; conv => whnf) | (refine Br.yes ?_; conv => whnf) | (refine Pick.draw rfl (by kernel_rfl) ?_; conv => whnf) | (refine Pick.drawM (by kernel_rfl) ?_; conv => whnf) | (refine CallC.r ?_; conv => whnf))
      · simp [pvI_len] at h3
        have h4 : i < (pvI s).length := by rw [pvI_len]; exact h3
        have hpi : (pvI s)[i] = ((s.pv[i] : Nat) : Int) := by simp [pvI]
        have hpw := hpb _ (List.getElem_mem h3)
        refine Pick.ix (xs := pvI s) h4 ?_
        rw [hpi]
        ((conv => whnf); repeat first | (refine Br.no ?_; conv => whnf) | (refine Br.yes ?_; conv => whnf) | (refine Pick.draw rfl (by kernel_rfl) ?_; conv => whnf) | (refine Pick.drawM (by kernel_rfl) ?_; conv => whnf) | (refine CallC.r ?_; conv => whnf))
        refine Pick.ix (xs := tab r w s.f) (i := i) (by rw [tab_len]; omega) ?_
        rw [tab_getE]
        ((conv => whnf); repeat first | (refine Br.no ?_; conv => whnf) | (refine Br.yes ?_; conv => whnf) | (refine Pick.draw rfl (by kernel_rfl) ?_; conv => whnf) | (refine Pick.drawM (by kernel_rfl) ?_; conv => whnf) | (refine CallC.r ?_; conv => whnf))
        refine Pick.ix (xs := (List.range w).map (s.f i)) (i := c) (by simpa using h) ?_
        have hel := oks.el i c (by omega) h
        rw [show ((List.range w).map (s.f i))[c]'(by simpa using h) = s.f i c by simp]
        ((conv => whnf); repeat first | (refine Br.no ?_; conv => whnf) | (refine Br.yes ?_; conv => whnf) | (refine Pick.draw rfl (by kernel_rfl) ?_; conv => whnf) | (refine Pick.drawM (by kernel_rfl) ?_; conv => whnf) | (refine CallC.r ?_; conv => whnf))
        refine Pick.w64 (by omega) ?_
        ((conv => whnf); repeat first | (refine Br.no ?_; conv => whnf) | (refine Br.yes ?_; conv => whnf) | (refine Pick.draw rfl (by kernel_rfl) ?_; conv => whnf) | (refine Pick.drawM (by kernel_rfl) ?_; conv => whnf) | (refine CallC.r ?_; conv => whnf))
        refine Pick.mk _ (s_reduce (0 - s.f i c) m.prime hp (by omega)) ?_
        ((conv => whnf); repeat first | (refine Br.no ?_; conv => whnf) | (refine Br.yes ?_; conv => whnf) | (refine Pick.draw rfl (by kernel_rfl) ?_; conv => whnf) | (refine Pick.drawM (by kernel_rfl) ?_; conv => whnf) | (refine CallC.r ?_; conv => whnf))
        refine Side.mk (by rw [List.length_map, kerV_len]; omega) ?_
        ((conv => whnf); repeat first | (refine Br.no ?_; conv => whnf) | (refine Br.yes ?_; conv => whnf) | (refine Pick.draw rfl (by kernel_rfl) ?_; conv => whnf) | (refine Pick.drawM (by kernel_rfl) ?_; conv => whnf) | (refine CallC.r ?_; conv => whnf))
        have hset : ∀ (n : Nat) (y : List CV), n = s.pv[i] → y = Enc.enc ((0 - s.f i c) % m.prime) → ((kerV m.prime s w c i).map (Enc.enc (α := Int))).set n y = (kerV m.prime s w c (i + 1)).map Enc.enc := fun n y e1 e2 => by
          rw [e1, e2, kerV_succ, List.map_set, getD_lt _ _ h3]
        rw [hset]
        rotate_left
        · rfl
        · rfl
        refine Pick.at64 (z := (i + 1 : Nat)) (by simp) (by omega) ?_
        ((conv => whnf); repeat first | (refine Br.no ?_; conv => whnf) | (refine Br.yes ?_; conv => whnf) | (refine Pick.draw rfl (by kernel_rfl) ?_; conv => whnf) | (refine Pick.drawM (by kernel_rfl) ?_; conv => whnf) | (refine CallC.r ?_; conv => whnf))
        exact ih2 (i + 1) (by omega) (by omega)
      · simp [pvI_len] at h3
        obtain rfl : s.pv.length = i := by omega
        refine Pick.mk false trivial ?_
        ((conv => whnf); repeat first | (refine Br.no ?_; conv => whnf) | (refine Br.yes ?_; conv => whnf) | (refine Pick.draw rfl (by kernel_rfl) ?_; conv => whnf) | (refine Pick.drawM (by kernel_rfl) ?_; conv => whnf) | (refine CallC.r ?_; conv => whnf))
        have hkl := kerUp_len m.prime s w c
        refine Side.mk (by rw [List.length_map]; simp; omega) ?_
        ((conv => whnf); repeat first | (refine Br.no ?_; conv => whnf) | (refine Br.yes ?_; conv => whnf) | (refine Pick.draw rfl (by kernel_rfl) ?_; conv => whnf) | (refine Pick.drawM (by kernel_rfl) ?_; conv => whnf) | (refine CallC.r ?_; conv => whnf))
        refine Pick.at64 (z := (c + 1 : Nat)) (by simp) (by omega) ?_
        ((conv => whnf); repeat first | (refine Br.no ?_; conv => whnf) | (refine Br.yes ?_; conv => whnf) | (refine Pick.draw rfl (by kernel_rfl) ?_; conv => whnf) | (refine Pick.drawM (by kernel_rfl) ?_; conv => whnf) | (refine CallC.r ?_; conv => whnf))
        have hn := ih (c + 1) (by omega) (by omega)
        rw [kerUp, if_neg (by rw [h2]; simp), List.map_append] at hn
        exact hn
  · simp at h
    obtain rfl : w = c := by omega
    exact ResOK.same rfl

theorem s_l03Kernel (m : Matrix) {r w : Nat} (ok : MatOK m r w) : Sat Try.prog 41 [(false, [.ptr 4 (Enc.enc m)])] (.one (.rs 0), [(0, .arr 1 ((kerUp m.prime (elimF m.prime r (cellAt m) w) w w).map Enc.enc))]) := by
  have hrow := ok.rows
  have hcol := ok.columns
  have hrb := ok.rb
  have hcb := ok.cb
  have hp := ok.p
  have hrc := ok.rc
  have hre := s_l03Reduced m ok
  have oks := elimF_ok hp.1 (r := r) (w := w) (f := cellAt m) (fun i j _ _ => ok.cellEl i j) w
  generalize elimF m.prime r (cellAt m) w = s at oks hre ⊢
  have hpb := oks.pb
  have hpr := oks.pr
  have hgl : ∀ g, ((grid r w g).map (Enc.enc (α := Int))).length = r * w := fun g => by rw [List.length_map, grid_len]
  have hwp : ∀ a, a < r → a * w ≤ 16777216 := fun a ha => Nat.le_trans (Nat.mul_le_mul_right _ (Nat.le_of_lt ha)) hrc
  refine Sat.intro tok mixed Try.func41 rfl rfl ?_
  ((conv => whnf); repeat first | (refine Br.no ?_; conv => whnf) | (refine Br.yes ?_; conv => whnf) | (refine Pick.draw rfl (by kernel_rfl) ?_; conv => whnf) | (refine Pick.drawM (by kernel_rfl) ?_; conv => whnf) | (refine CallC.r ?_; conv => whnf))
  refine Pick.mk _ (hre) ?_
  ((conv => whnf); repeat first | (refine Br.no ?_; conv => whnf) | (refine Br.yes ?_; conv => whnf) | (refine Pick.draw rfl (by kernel_rfl) ?_; conv => whnf) | (refine Pick.drawM (by kernel_rfl) ?_; conv => whnf) | (refine CallC.r ?_; conv => whnf))
  refine Pick.mk [0, 3, 4, 6, 7, 1000256] trivial ?_
  ((conv => whnf); repeat first | (refine Br.no ?_; conv => whnf) | (refine Br.yes ?_; conv => whnf) | (refine Pick.draw rfl (by kernel_rfl) ?_; conv => whnf) | (refine Pick.drawM (by kernel_rfl) ?_; conv => whnf) | (refine CallC.r ?_; conv => whnf))
  refine LoopL.over (fun (c : Nat) => [(7, .one (.c (.int .i64 ((c : Int)))))]) (fun (c : Nat) => [(384, Ob.arr 1 ((kerUp m.prime s w c).map Enc.enc))]) (fun (c : Nat) => w - c) (fun (c : Nat) => c ≤ w) ?_ 0 (Nat.zero_le _)
  intro c hc ih
  ((conv => whnf); repeat first | (refine Br.no ?_; conv => whnf) | (refine Br.yes ?_; conv => whnf) | (refine Pick.draw rfl (by kernel_rfl) ?_; conv => whnf) | (refine Pick.drawM (by kernel_rfl) ?_; conv => whnf) | (refine CallC.r ?_; conv => whnf))
  refine Br.mk (fun h => ?_) (fun h => ?_) <;> ((conv => whnf); repeat first | (refine Br.no ?_; conv => whnf) | (refine Br.yes ?_; conv => whnf) | (refine Pick.draw rfl (by kernel_rfl) ?_; conv => whnf) | (refine Pick.drawM (by kernel_rfl) ?_; conv => whnf) | (refine CallC.r ?_; conv => whnf))
  · simp [hcol] at h
    refine Pick.mk _ (s_l00Has (pvI s) c (by rw [pvI_len]; simp only [maxLen]; omega)) ?_
    ((conv => whnf); repeat first | (refine Br.no ?_; conv => whnf) | (refine Br.yes ?_; conv => whnf) | (refine Pick.draw rfl (by kernel_rfl) ?_; conv => whnf) | (refine Pick.drawM (by kernel_rfl) ?_; conv => whnf) | (refine CallC.r ?_; conv => whnf))
    rw [has_pv]
    refine Br.mk (fun h2 => ?_) (fun h2 => ?_) <;> ((conv => whnf); repeat first | (refine Br.no ?_; conv => whnf) | (refine Br.yes ?_; conv => whnf) | (refine Pick.draw rfl (by kernel_rfl) ?_; conv => whnf) | (refine Pick.drawM (by kernel_rfl) ?_; conv => whnf) | (refine CallC.r ?_; conv => whnf))
    · refine Pick.at64 (z := (c + 1 : Nat)) (by simp) (by omega) ?_
      ((conv => whnf); repeat first | (refine Br.no ?_; conv => whnf) | (refine Br.yes ?_; conv => whnf) | (refine Pick.draw rfl (by kernel_rfl) ?_; conv => whnf) | (refine Pick.drawM (by kernel_rfl) ?_; conv => whnf) | (refine CallC.r ?_; conv => whnf))
      have hn := ih (c + 1) (by omega) (by omega)
      rw [kerUp, if_pos h2] at hn
      exact hn
    · refine Side.mk (by rw [hcol]; omega) ?_
      ((conv => whnf); repeat first | (refine Br.no ?_; conv => whnf) | (refine Br.yes ?_; conv => whnf) | (refine Pick.draw rfl (by kernel_rfl) ?_; conv => whnf) | (refine Pick.drawM (by kernel_rfl) ?_; conv => whnf) | (refine CallC.r ?_; conv => whnf))
      refine Side.mk (by simp [hcol]; omega) ?_
      ((conv => whnf); repeat first | (refine Br.no ?_; conv => whnf) | (refine Br.yes ?_; conv => whnf) | (refine Pick.draw rfl (by kernel_rfl) ?_; conv => whnf) | (refine Pick.drawM (by kernel_rfl) ?_; conv => whnf) | (refine CallC.r ?_; conv => whnf))
      refine Pick.mk [0, 3, 4, 6, 7, 8, 9] trivial ?_
      ((conv => whnf); repeat first | (refine Br.no ?_; conv => whnf) | (refine Br.yes ?_; conv => whnf) | (refine Pick.draw rfl (by kernel_rfl) ?_; conv => whnf) | (refine Pick.drawM (by kernel_rfl) ?_; conv => whnf) | (refine CallC.r ?_; conv => whnf))
      refine LoopL.over (fun (i : Nat) => [(9, .one (.c (.int .i64 ((i : Int)))))]) (fun (i : Nat) => [(512, Ob.arr 1 ((kerV m.prime s w c i).map Enc.enc))]) (fun (i : Nat) => s.pv.length - i) (fun (i : Nat) => i ≤ s.pv.length) ?_ 0 (Nat.zero_le _) (by rw [hcol]; simp only [kerV, List.range_zero, List.foldl_nil, List.map_set, List.map_replicate]; rfl)
      intro i hi ih2
      ((conv => whnf); repeat first | (refine Br.no ?_; conv => whnf) | (refine Br.yes ?_; conv => whnf) | (refine Pick.draw rfl (by kernel_rfl) ?_; conv => whnf) | (refine Pick.drawM (by kernel_rfl) ?_; conv => whnf) | (refine CallC.r ?_; conv => whnf))
      refine Br.mk (fun h3 => ?_) (fun h3 => ?_) <;> ((conv => whnf); repeat first | (refine Br.no ?_; conv => whnf) | (refine Br.yes ?_; conv => whnf) | (refine Pick.draw rfl (by kernel_rfl) ?_; conv => whnf) | (refine Pick.drawM (by kernel_rfl) ?_; conv => whnf) | (refine CallC.r ?_; conv => whnf))
      · simp [pvI_len] at h3
        have h4 : i < (pvI s).length := by rw [pvI_len]; exact h3
        have hpi : (pvI s)[i] = ((s.pv[i] : Nat) : Int) := by simp [pvI]
        have hpw := hpb _ (List.getElem_mem h3)
        have hir : i < r := by omega
        have hiw := hwp i hir
        have hic := ij_lt hir h
        have hel := oks.el i c hir h
        refine Pick.ix (xs := pvI s) h4 ?_
        rw [hpi]
        ((conv => whnf); repeat first | (refine Br.no ?_; conv => whnf) | (refine Br.yes ?_; conv => whnf) | (refine Pick.draw rfl (by kernel_rfl) ?_; conv => whnf) | (refine Pick.drawM (by kernel_rfl) ?_; conv => whnf) | (refine CallC.r ?_; conv => whnf))
        refine Pick.at64 (z := ((i * w : Nat) : Int)) (by rw [hcol]; push_cast; rfl) (by omega) ?_
        ((conv => whnf); repeat first | (refine Br.no ?_; conv => whnf) | (refine Br.yes ?_; conv => whnf) | (refine Pick.draw rfl (by kernel_rfl) ?_; conv => whnf) | (refine Pick.drawM (by kernel_rfl) ?_; conv => whnf) | (refine CallC.r ?_; conv => whnf))
        refine Pick.at64 (z := ((i * w + c : Nat) : Int)) (by push_cast; rfl) (by omega) ?_
        ((conv => whnf); repeat first | (refine Br.no ?_; conv => whnf) | (refine Br.yes ?_; conv => whnf) | (refine Pick.draw rfl (by kernel_rfl) ?_; conv => whnf) | (refine Pick.drawM (by kernel_rfl) ?_; conv => whnf) | (refine CallC.r ?_; conv => whnf))
        refine Side.mk (by rw [hgl]; omega) ?_
        ((conv => whnf); repeat first | (refine Br.no ?_; conv => whnf) | (refine Br.yes ?_; conv => whnf) | (refine Pick.draw rfl (by kernel_rfl) ?_; conv => whnf) | (refine Pick.drawM (by kernel_rfl) ?_; conv => whnf) | (refine CallC.r ?_; conv => whnf))
        refine Pick.rg (i := i) (j := c) (x := s.f i c) hir h (by omega) rfl ?_
        ((conv => whnf); repeat first | (refine Br.no ?_; conv => whnf) | (refine Br.yes ?_; conv => whnf) | (refine Pick.draw rfl (by kernel_rfl) ?_; conv => whnf) | (refine Pick.drawM (by kernel_rfl) ?_; conv => whnf) | (refine CallC.r ?_; conv => whnf))
        refine Pick.w64 (by omega) ?_
        ((conv => whnf); repeat first | (refine Br.no ?_; conv => whnf) | (refine Br.yes ?_; conv => whnf) | (refine Pick.draw rfl (by kernel_rfl) ?_; conv => whnf) | (refine Pick.drawM (by kernel_rfl) ?_; conv => whnf) | (refine CallC.r ?_; conv => whnf))
        refine Pick.mk _ (s_l03Mod (0 - s.f i c) m.prime hp (by omega)) ?_
        ((conv => whnf); repeat first | (refine Br.no ?_; conv => whnf) | (refine Br.yes ?_; conv => whnf) | (refine Pick.draw rfl (by kernel_rfl) ?_; conv => whnf) | (refine Pick.drawM (by kernel_rfl) ?_; conv => whnf) | (refine CallC.r ?_; conv => whnf))
        refine Side.mk (by rw [List.length_map, kerV_len]; omega) ?_
        ((conv => whnf); repeat first | (refine Br.no ?_; conv => whnf) | (refine Br.yes ?_; conv => whnf) | (refine Pick.draw rfl (by kernel_rfl) ?_; conv => whnf) | (refine Pick.drawM (by kernel_rfl) ?_; conv => whnf) | (refine CallC.r ?_; conv => whnf))
        have hset : ∀ (n : Nat) (y : List CV), n = s.pv[i] → y = Enc.enc ((0 - s.f i c) % m.prime) → ((kerV m.prime s w c i).map (Enc.enc (α := Int))).set n y = (kerV m.prime s w c (i + 1)).map Enc.enc := fun n y e1 e2 => by
          rw [e1, e2, kerV_succ, List.map_set, getD_lt _ _ h3]
        rw [hset]
        rotate_left
        · rfl
        · rfl
        refine Pick.at64 (z := (i + 1 : Nat)) (by simp) (by omega) ?_
        ((conv => whnf); repeat first | (refine Br.no ?_; conv => whnf) | (refine Br.yes ?_; conv => whnf) | (refine Pick.draw rfl (by kernel_rfl) ?_; conv => whnf) | (refine Pick.drawM (by kernel_rfl) ?_; conv => whnf) | (refine CallC.r ?_; conv => whnf))
        exact ih2 (i + 1) (by omega) (by omega)
      · simp [pvI_len] at h3
        obtain rfl : s.pv.length = i := by omega
        refine Pick.mk false trivial ?_
        ((conv => whnf); repeat first | (refine Br.no ?_; conv => whnf) | (refine Br.yes ?_; conv => whnf) | (refine Pick.draw rfl (by kernel_rfl) ?_; conv => whnf) | (refine Pick.drawM (by kernel_rfl) ?_; conv => whnf) | (refine CallC.r ?_; conv => whnf))
        have hkl := kerUp_len m.prime s w c
        refine Side.mk (by rw [List.length_map]; simp; omega) ?_
        ((conv => whnf); repeat first | (refine Br.no ?_; conv => whnf) | (refine Br.yes ?_; conv => whnf) | (refine Pick.draw rfl (by kernel_rfl) ?_; conv => whnf) | (refine Pick.drawM (by kernel_rfl) ?_; conv => whnf) | (refine CallC.r ?_; conv => whnf))
        refine Pick.at64 (z := (c + 1 : Nat)) (by simp) (by omega) ?_
        ((conv => whnf); repeat first | (refine Br.no ?_; conv => whnf) | (refine Br.yes ?_; conv => whnf) | (refine Pick.draw rfl (by kernel_rfl) ?_; conv => whnf) | (refine Pick.drawM (by kernel_rfl) ?_; conv => whnf) | (refine CallC.r ?_; conv => whnf))
        have hn := ih (c + 1) (by omega) (by omega)
        rw [kerUp, if_neg (by rw [h2]; simp), List.map_append] at hn
        exact hn
  · simp [hcol] at h
    obtain rfl : w = c := by omega
    exact ResOK.same rfl
end Go.Proofs.Ytaplnfcnajpmgaa.Pi
