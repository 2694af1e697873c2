/- What the row's condition on the package's variables gives. No statement of the seat is proved here. -/
import Derived.Test.YtnafogjagbhdbaaDoorPiGlue
import Derived.Test.YtnafogjagbhdbaaDoorRows
import Derived.LaidMore
import Derived.Stop.Joined
import Derived.Lib.LaidTab
import Derived.Lib.ItoaNum
import Derived.OpenShut
namespace Go.Proofs.YtnafogjagbhdbaaDoor.Pi
open Go
set_option maxRecDepth 10000

/-- The variables that the row lists. -/
def laidD {H : Type} : List (String × DataW H) := [("math/bits.deBruijn32tab", Rows.laid_math_bits_deBruijn32tab), ("math/bits.deBruijn64tab", Rows.laid_math_bits_deBruijn64tab), ("internal/strconv.uint64pow10", Rows.laid_internal_strconv_uint64pow10)]
theorem laid_in {W : World} (h : laidMetH Tryd.prog laidD W) : LaidIn (fun _ => False) W := by
  rw [MakeChecks.laidMetH_plain _ _ _ (by kernel_rfl)] at h
  obtain ⟨ps, ⟨g0, t0, cs0, f0, p0, q0, hg0, ht0, hv0, hd0, ⟨g1, t1, cs1, f1, p1, q1, hg1, ht1, hv1, hd1, ⟨g2, t2, cs2, f2, p2, q2, hg2, ht2, hv2, hd2, _, _⟩, _⟩, _⟩, _, _⟩ := h
  have hg : Tryd.prog.globalNamed "internal/strconv.uint64pow10" = some powG := by kernel_rfl
  have hty : (Tryd.prog.globals[powG]?).map (·.type) = some 101 := by kernel_rfl
  obtain rfl := Option.some.inj (hg.symm.trans hg2)
  obtain rfl := Option.some.inj (hty.symm.trans ht2)
  have e := Lib.cells_of_tab (k := .u64) (zs := Lib.pow10Tab) Tryd.underlying101 Tryd.underlying94 (by kernel_rfl) (by kernel_rfl) (show DataW.trod _ _ W _ _ _ _ _ _ = some (Lib.tabData .u64 Lib.pow10Tab, _) from hd2)
  intro p hp
  obtain rfl := List.mem_singleton.1 hp
  have hw : ∃ T fr, W.heap[powG]? = some (.cells cs2 T fr) := by
    simp only [World.var?, hg, Option.bind_some] at hv2
    split at hv2
    · rename_i c T fr hc
      cases hv2
      exact ⟨T, fr, hc⟩
    · cases hv2
  obtain ⟨T, fr, hw⟩ := hw
  refine ⟨fun h => h, ?_, T, fr, ?_⟩
  · show powG < W.heap.size
    rcases Nat.lt_or_ge powG W.heap.size with h | h
    · exact h
    · rw [Array.getElem?_eq_none h] at hw; cases hw
  · have e2 : cs2 = (Lib.pow10Tab.map fun z => Value.int .u64 z).toArray := by apply Array.ext'; simpa using e
    rw [hw, e2]
end Go.Proofs.YtnafogjagbhdbaaDoor.Pi
