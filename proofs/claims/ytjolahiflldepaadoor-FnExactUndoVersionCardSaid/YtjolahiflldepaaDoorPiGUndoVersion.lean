/- What the law FnExactUndoVersion answers, the size of whose arguments it looks at first: true. The statement is drawn from it in the next text. -/
import Derived.Test.YtjolahiflldepaaDoorPiFUndo
import Derived.Test.YtjolahiflldepaaDoorPiM4
namespace Go.Proofs.YtjolahiflldepaaDoor.Pi
open Go
set_option maxRecDepth 10000
set_option linter.unusedVariables false

theorem undoOf_wt (xs : List Version) (n : Int) (h2 : Enc.wt xs ≤ 1048576) : Enc.wt (undoOf xs n).1 ≤ 4194304 := by
  have h0 : Enc.wt ([] : List Version) = 0 := by rw [wt_list]; rfl
  have hst : Enc.wt (stV xs (up xs n)) ≤ 1048576 := by
    unfold stV
    split
    · rw [wt_list]; simp
    · split
      · rename_i v hv
        obtain ⟨hi, rfl⟩ := List.getElem?_eq_some_iff.1 hv
        have hw := wt_get xs _ hi
        have hw2 : Enc.wt xs[(up xs n - 1).toNat] = Enc.wt xs[(up xs n - 1).toNat].number + Enc.wt xs[(up xs n - 1).toNat].parent + Enc.wt xs[(up xs n - 1).toNat].memo + Enc.wt xs[(up xs n - 1).toNat].state := rfl
        omega
      · rw [wt_list]; simp
  have hm : (undoMemo n.toNat).size ≤ 7 := by
    have := decB_size n.toNat
    show ((ByteArray.mk #[117, 110, 100, 111, 32]) ++ decB n.toNat).size ≤ 7
    rw [ByteArray.size_append]
    show 5 + (decB n.toNat).size ≤ 7
    omega
  unfold undoOf added
  repeat' split
  all_goals first
    | (simp only [h0]; omega)
    | skip
  simp only [wt_append]
  have : Enc.wt [(⟨xs.length + 1, n, undoMemo n.toNat, stV xs (up xs n)⟩ : Version)] = 1 + (Enc.wt (undoMemo n.toNat) + Enc.wt (stV xs (up xs n))) := by
    have : Enc.wt (⟨xs.length + 1, n, undoMemo n.toNat, stV xs (up xs n)⟩ : Version) = 0 + 0 + Enc.wt (undoMemo n.toNat) + Enc.wt (stV xs (up xs n)) := rfl
    rw [wt_list]; simp only [List.length_cons, List.length_nil, List.map_cons, List.map_nil, List.sum_cons, List.sum_nil, this]; omega
  have h4 : Enc.wt (undoMemo n.toNat) = (undoMemo n.toNat).size := rfl
  omega

theorem sat_law (xs : List Version) (n : Int) (o_xs : Enc.ok xs) (o_n : Enc.ok n) : Sat Tryd.prog 5 [(false, Enc.enc xs), (false, [.int .i64 n])] (.one (.c (.bool true)), []) := by
  refine Sat.intro tok mixed Tryd.func5 rfl rfl ?_
  ((conv => whnf); repeat first | (refine Br.no ?_; conv => whnf) | (refine Br.yes ?_; conv => whnf) | (refine Pick.draw rfl (by kernel_rfl) ?_; conv => whnf) | (refine Pick.drawM (by kernel_rfl) ?_; conv => whnf) | (refine CallC.r ?_; conv => whnf))
  have hz := z_VersionS xs 1048576 o_xs (by omega) (by omega)
  have hq1 := szR_or 1048576 (Enc.wt xs)
  generalize szR 1048576 (Enc.wt xs) = q1 at hz hq1
  refine Pick.mk _ hz ?_
  ((conv => whnf); repeat first | (refine Br.no ?_; conv => whnf) | (refine Br.yes ?_; conv => whnf) | (refine Pick.draw rfl (by kernel_rfl) ?_; conv => whnf) | (refine Pick.drawM (by kernel_rfl) ?_; conv => whnf) | (refine CallC.r ?_; conv => whnf))
  refine Br.mk (fun g1 => ?_) (fun g1 => ?_) <;> ((conv => whnf); repeat first | (refine Br.no ?_; conv => whnf) | (refine Br.yes ?_; conv => whnf) | (refine Pick.draw rfl (by kernel_rfl) ?_; conv => whnf) | (refine Pick.drawM (by kernel_rfl) ?_; conv => whnf) | (refine CallC.r ?_; conv => whnf))
  · exact ResOK.same rfl
  simp at g1
  have hb_xs : Enc.wt xs ≤ 1048576 := by omega
  have hc_xs := cntwt_VersionS xs
  have hl_xs := lenwt_VersionS xs
  have hr1 := undoOf_wt xs n hb_xs
  have hr2 := cntwt_VersionS (undoOf xs n).1
  have hr3 := lenwt_VersionS (undoOf xs n).1
  refine Pick.mk _ (c_VersionS xs hb_xs) ?_
  ((conv => whnf); repeat first | (refine Br.no ?_; conv => whnf) | (refine Br.yes ?_; conv => whnf) | (refine Pick.draw rfl (by kernel_rfl) ?_; conv => whnf) | (refine Pick.drawM (by kernel_rfl) ?_; conv => whnf) | (refine CallC.r ?_; conv => whnf))
  refine Pick.mk _ (s_spec_UndoVersion xs o_xs hb_xs n) ?_
  ((conv => whnf); repeat first | (refine Br.no ?_; conv => whnf) | (refine Br.yes ?_; conv => whnf) | (refine Pick.draw rfl (by kernel_rfl) ?_; conv => whnf) | (refine Pick.drawM (by kernel_rfl) ?_; conv => whnf) | (refine CallC.r ?_; conv => whnf))
  refine Pick.mk _ (d_VersionS xs hb_xs) ?_
  ((conv => whnf); repeat first | (refine Br.no ?_; conv => whnf) | (refine Br.yes ?_; conv => whnf) | (refine Pick.draw rfl (by kernel_rfl) ?_; conv => whnf) | (refine Pick.drawM (by kernel_rfl) ?_; conv => whnf) | (refine CallC.r ?_; conv => whnf))
  refine Pick.mk false trivial ?_
  ((conv => whnf); repeat first | (refine Br.no ?_; conv => whnf) | (refine Br.yes ?_; conv => whnf) | (refine Pick.draw rfl (by kernel_rfl) ?_; conv => whnf) | (refine Pick.drawM (by kernel_rfl) ?_; conv => whnf) | (refine CallC.r ?_; conv => whnf))
  refine Pick.mk _ (s_impl_UndoVersion xs o_xs hb_xs n) ?_
  ((conv => whnf); repeat first | (refine Br.no ?_; conv => whnf) | (refine Br.yes ?_; conv => whnf) | (refine Pick.draw rfl (by kernel_rfl) ?_; conv => whnf) | (refine Pick.drawM (by kernel_rfl) ?_; conv => whnf) | (refine CallC.r ?_; conv => whnf))
  refine Pick.mk false trivial ?_
  ((conv => whnf); repeat first | (refine Br.no ?_; conv => whnf) | (refine Br.yes ?_; conv => whnf) | (refine Pick.draw rfl (by kernel_rfl) ?_; conv => whnf) | (refine Pick.drawM (by kernel_rfl) ?_; conv => whnf) | (refine CallC.r ?_; conv => whnf))
  refine Pick.mk _ (e_VersionS (undoOf xs n).1 (by omega)) ?_
  ((conv => whnf); repeat first | (refine Br.no ?_; conv => whnf) | (refine Br.yes ?_; conv => whnf) | (refine Pick.draw rfl (by kernel_rfl) ?_; conv => whnf) | (refine Pick.drawM (by kernel_rfl) ?_; conv => whnf) | (refine CallC.r ?_; conv => whnf))
  repeat (refine Br.mk (fun h => absurd h (by first | (simp; done) | (simp <;> omega))) (fun _ => ?_); ((conv => whnf); repeat first | (refine Br.no ?_; conv => whnf) | (refine Br.yes ?_; conv => whnf) | (refine Pick.draw rfl (by kernel_rfl) ?_; conv => whnf) | (refine Pick.drawM (by kernel_rfl) ?_; conv => whnf) | (refine CallC.r ?_; conv => whnf)))
  refine Pick.mk _ (c_VersionS xs hb_xs) ?_
  ((conv => whnf); repeat first | (refine Br.no ?_; conv => whnf) | (refine Br.yes ?_; conv => whnf) | (refine Pick.draw rfl (by kernel_rfl) ?_; conv => whnf) | (refine Pick.drawM (by kernel_rfl) ?_; conv => whnf) | (refine CallC.r ?_; conv => whnf))
  refine Pick.mk false trivial ?_
  ((conv => whnf); repeat first | (refine Br.no ?_; conv => whnf) | (refine Br.yes ?_; conv => whnf) | (refine Pick.draw rfl (by kernel_rfl) ?_; conv => whnf) | (refine Pick.drawM (by kernel_rfl) ?_; conv => whnf) | (refine CallC.r ?_; conv => whnf))
  refine Pick.mk _ (e_VersionS xs (by omega)) ?_
  ((conv => whnf); repeat first | (refine Br.no ?_; conv => whnf) | (refine Br.yes ?_; conv => whnf) | (refine Pick.draw rfl (by kernel_rfl) ?_; conv => whnf) | (refine Pick.drawM (by kernel_rfl) ?_; conv => whnf) | (refine CallC.r ?_; conv => whnf))
  refine Pick.mk true trivial ?_
  ((conv => whnf); repeat first | (refine Br.no ?_; conv => whnf) | (refine Br.yes ?_; conv => whnf) | (refine Pick.draw rfl (by kernel_rfl) ?_; conv => whnf) | (refine Pick.drawM (by kernel_rfl) ?_; conv => whnf) | (refine CallC.r ?_; conv => whnf))
  refine Pick.mk _ (m_VersionS true xs (1) (by omega) (by omega) (by omega) (bigwt_VersionS xs (by omega))) ?_
  ((conv => whnf); repeat first | (refine Br.no ?_; conv => whnf) | (refine Br.yes ?_; conv => whnf) | (refine Pick.draw rfl (by kernel_rfl) ?_; conv => whnf) | (refine Pick.drawM (by kernel_rfl) ?_; conv => whnf) | (refine CallC.r ?_; conv => whnf))
  refine Side.mk (by simp [mkL_length]) ?_
  ((conv => whnf); repeat first | (refine Br.no ?_; conv => whnf) | (refine Br.yes ?_; conv => whnf) | (refine Pick.draw rfl (by kernel_rfl) ?_; conv => whnf) | (refine Pick.drawM (by kernel_rfl) ?_; conv => whnf) | (refine CallC.r ?_; conv => whnf))
  repeat (refine Br.mk (fun h => absurd h (by first | (simp; done) | (simp <;> omega))) (fun _ => ?_); ((conv => whnf); repeat first | (refine Br.no ?_; conv => whnf) | (refine Br.yes ?_; conv => whnf) | (refine Pick.draw rfl (by kernel_rfl) ?_; conv => whnf) | (refine Pick.drawM (by kernel_rfl) ?_; conv => whnf) | (refine CallC.r ?_; conv => whnf)))
  refine Pick.mk false trivial ?_
  ((conv => whnf); repeat first | (refine Br.no ?_; conv => whnf) | (refine Br.yes ?_; conv => whnf) | (refine Pick.draw rfl (by kernel_rfl) ?_; conv => whnf) | (refine Pick.drawM (by kernel_rfl) ?_; conv => whnf) | (refine CallC.r ?_; conv => whnf))
  refine Pick.mk _ (e_VersionS (undoOf xs n).1 (by omega)) ?_
  ((conv => whnf); repeat first | (refine Br.no ?_; conv => whnf) | (refine Br.yes ?_; conv => whnf) | (refine Pick.draw rfl (by kernel_rfl) ?_; conv => whnf) | (refine Pick.drawM (by kernel_rfl) ?_; conv => whnf) | (refine CallC.r ?_; conv => whnf))
  repeat (refine Br.mk (fun h => absurd h (by first | (simp; done) | (simp <;> omega))) (fun _ => ?_); ((conv => whnf); repeat first | (refine Br.no ?_; conv => whnf) | (refine Br.yes ?_; conv => whnf) | (refine Pick.draw rfl (by kernel_rfl) ?_; conv => whnf) | (refine Pick.drawM (by kernel_rfl) ?_; conv => whnf) | (refine CallC.r ?_; conv => whnf)))
  refine Pick.mk true trivial ?_
  ((conv => whnf); repeat first | (refine Br.no ?_; conv => whnf) | (refine Br.yes ?_; conv => whnf) | (refine Pick.draw rfl (by kernel_rfl) ?_; conv => whnf) | (refine Pick.drawM (by kernel_rfl) ?_; conv => whnf) | (refine CallC.r ?_; conv => whnf))
  refine Pick.mk _ (m_VersionS true (undoOf xs n).1 (1) (by omega) (by omega) (by omega) (bigwt_VersionS (undoOf xs n).1 (by omega))) ?_
  ((conv => whnf); repeat first | (refine Br.no ?_; conv => whnf) | (refine Br.yes ?_; conv => whnf) | (refine Pick.draw rfl (by kernel_rfl) ?_; conv => whnf) | (refine Pick.drawM (by kernel_rfl) ?_; conv => whnf) | (refine CallC.r ?_; conv => whnf))
  refine Side.mk (by simp [mkL_length]) ?_
  ((conv => whnf); repeat first | (refine Br.no ?_; conv => whnf) | (refine Br.yes ?_; conv => whnf) | (refine Pick.draw rfl (by kernel_rfl) ?_; conv => whnf) | (refine Pick.drawM (by kernel_rfl) ?_; conv => whnf) | (refine CallC.r ?_; conv => whnf))
  refine Pick.mk false trivial ?_
  ((conv => whnf); repeat first | (refine Br.no ?_; conv => whnf) | (refine Br.yes ?_; conv => whnf) | (refine Pick.draw rfl (by kernel_rfl) ?_; conv => whnf) | (refine Pick.drawM (by kernel_rfl) ?_; conv => whnf) | (refine CallC.r ?_; conv => whnf))
  refine Pick.mk _ (h_VersionS (undoOf xs n).1 (1) (by omega) (by omega) (by omega) (bigwt_VersionS (undoOf xs n).1 (by omega))) ?_
  ((conv => whnf); repeat first | (refine Br.no ?_; conv => whnf) | (refine Br.yes ?_; conv => whnf) | (refine Pick.draw rfl (by kernel_rfl) ?_; conv => whnf) | (refine Pick.drawM (by kernel_rfl) ?_; conv => whnf) | (refine CallC.r ?_; conv => whnf))
  repeat (refine Br.mk (fun h => absurd h (by first | (simp; done) | (simp <;> omega))) (fun _ => ?_); ((conv => whnf); repeat first | (refine Br.no ?_; conv => whnf) | (refine Br.yes ?_; conv => whnf) | (refine Pick.draw rfl (by kernel_rfl) ?_; conv => whnf) | (refine Pick.drawM (by kernel_rfl) ?_; conv => whnf) | (refine CallC.r ?_; conv => whnf)))
  repeat (refine Br.mk (fun h => absurd h (by first | (simp; done) | (simp <;> omega))) (fun _ => ?_); ((conv => whnf); repeat first | (refine Br.no ?_; conv => whnf) | (refine Br.yes ?_; conv => whnf) | (refine Pick.draw rfl (by kernel_rfl) ?_; conv => whnf) | (refine Pick.drawM (by kernel_rfl) ?_; conv => whnf) | (refine CallC.r ?_; conv => whnf)))
  refine Pick.mk _ (c_VersionS xs hb_xs) ?_
  ((conv => whnf); repeat first | (refine Br.no ?_; conv => whnf) | (refine Br.yes ?_; conv => whnf) | (refine Pick.draw rfl (by kernel_rfl) ?_; conv => whnf) | (refine Pick.drawM (by kernel_rfl) ?_; conv => whnf) | (refine CallC.r ?_; conv => whnf))
  refine Pick.mk _ (s_impl_UndoVersion xs o_xs hb_xs n) ?_
  ((conv => whnf); repeat first | (refine Br.no ?_; conv => whnf) | (refine Br.yes ?_; conv => whnf) | (refine Pick.draw rfl (by kernel_rfl) ?_; conv => whnf) | (refine Pick.drawM (by kernel_rfl) ?_; conv => whnf) | (refine CallC.r ?_; conv => whnf))
  refine Pick.mk false trivial ?_
  ((conv => whnf); repeat first | (refine Br.no ?_; conv => whnf) | (refine Br.yes ?_; conv => whnf) | (refine Pick.draw rfl (by kernel_rfl) ?_; conv => whnf) | (refine Pick.drawM (by kernel_rfl) ?_; conv => whnf) | (refine CallC.r ?_; conv => whnf))
  refine Pick.mk _ (e_VersionS (undoOf xs n).1 (by omega)) ?_
  ((conv => whnf); repeat first | (refine Br.no ?_; conv => whnf) | (refine Br.yes ?_; conv => whnf) | (refine Pick.draw rfl (by kernel_rfl) ?_; conv => whnf) | (refine Pick.drawM (by kernel_rfl) ?_; conv => whnf) | (refine CallC.r ?_; conv => whnf))
  repeat (refine Br.mk (fun h => absurd h (by first | (simp; done) | (simp <;> omega))) (fun _ => ?_); ((conv => whnf); repeat first | (refine Br.no ?_; conv => whnf) | (refine Br.yes ?_; conv => whnf) | (refine Pick.draw rfl (by kernel_rfl) ?_; conv => whnf) | (refine Pick.drawM (by kernel_rfl) ?_; conv => whnf) | (refine CallC.r ?_; conv => whnf)))
  refine Pick.mk false trivial ?_
  ((conv => whnf); repeat first | (refine Br.no ?_; conv => whnf) | (refine Br.yes ?_; conv => whnf) | (refine Pick.draw rfl (by kernel_rfl) ?_; conv => whnf) | (refine Pick.drawM (by kernel_rfl) ?_; conv => whnf) | (refine CallC.r ?_; conv => whnf))
  refine Pick.mk _ (h_VersionS (undoOf xs n).1 (1) (by omega) (by omega) (by omega) (bigwt_VersionS (undoOf xs n).1 (by omega))) ?_
  ((conv => whnf); repeat first | (refine Br.no ?_; conv => whnf) | (refine Br.yes ?_; conv => whnf) | (refine Pick.draw rfl (by kernel_rfl) ?_; conv => whnf) | (refine Pick.drawM (by kernel_rfl) ?_; conv => whnf) | (refine CallC.r ?_; conv => whnf))
  repeat (refine Br.mk (fun h => absurd h (by first | (simp; done) | (simp <;> omega))) (fun _ => ?_); ((conv => whnf); repeat first | (refine Br.no ?_; conv => whnf) | (refine Br.yes ?_; conv => whnf) | (refine Pick.draw rfl (by kernel_rfl) ?_; conv => whnf) | (refine Pick.drawM (by kernel_rfl) ?_; conv => whnf) | (refine CallC.r ?_; conv => whnf)))
  repeat (refine Br.mk (fun h => absurd h (by first | (simp; done) | (simp <;> omega))) (fun _ => ?_); ((conv => whnf); repeat first | (refine Br.no ?_; conv => whnf) | (refine Br.yes ?_; conv => whnf) | (refine Pick.draw rfl (by kernel_rfl) ?_; conv => whnf) | (refine Pick.drawM (by kernel_rfl) ?_; conv => whnf) | (refine CallC.r ?_; conv => whnf)))
  exact ResOK.same rfl

end Go.Proofs.YtjolahiflldepaaDoor.Pi
