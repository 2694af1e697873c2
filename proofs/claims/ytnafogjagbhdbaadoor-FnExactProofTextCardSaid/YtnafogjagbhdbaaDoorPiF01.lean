/- What the functions ProofName answer, the program's and the reference's. No statement of the seat is proved here. -/
import Derived.Test.YtnafogjagbhdbaaDoorPiL
namespace Go.Proofs.YtnafogjagbhdbaaDoor.Pi
open Go
set_option maxRecDepth 10000
set_option linter.unusedVariables false

theorem s_impl_within (a b c : Int) : Sat Tryd.prog 31 [(false, [.int .i64 a]), (false, [.int .i64 b]), (false, [.int .i64 c])] (.one (.c (.bool (decide (b ≤ a) && decide (a ≤ c)))), []) := by
  refine Sat.intro tok mixed Tryd.func31 rfl rfl ?_
  conv => whnf
  repeat' first | (refine Br.mk (fun _ => ?_) (fun _ => ?_) <;> conv => whnf)
  all_goals refine ResOK.same ?_
  all_goals simp_all
  all_goals omega

def nameOf : Int → ByteArray
  | 1 => ⟨#[115, 111, 108, 118, 101, 100]⟩
  | 2 => ⟨#[117, 110, 115, 111, 108, 118, 101, 100]⟩
  | 3 => ⟨#[107, 101, 114, 110, 101, 108]⟩
  | 4 => ⟨#[105, 110, 106, 101, 99, 116, 105, 118, 101]⟩
  | 5 => ⟨#[97, 116, 45, 108, 101, 97, 115, 116]⟩
  | 6 => ⟨#[97, 116, 45, 109, 111, 115, 116]⟩
  | _ => ⟨#[]⟩
def names : List (List CV) := [1, 2, 3, 4, 5, 6].map fun k => [CV.str (nameOf k)]

theorem s_impl_proofNames : Sat Tryd.prog 32 [] (.one (.rs 0), [(0, .arr 1 names)]) := by
  refine Sat.intro tok mixed Tryd.func32 rfl rfl ?_
  conv => whnf
  exact ResOK.same rfl
theorem s_spec_l26Name (k : Int) : Sat Tryd.prog 25 [(false, [.int .i64 k])] (.one (.c (.str (nameOf k))), []) := by
  refine Sat.intro tok mixed Tryd.func25 rfl rfl ?_
  conv => whnf
  repeat' first | (refine Br.mk (fun _ => ?_) (fun _ => ?_) <;> conv => whnf)
  all_goals exact ResOK.same (by simp_all [nameOf])
theorem s_impl_ProofName (k : Int) (h1 : -9223372036854775808 ≤ k) (h2 : k ≤ 9223372036854775807) : Sat Tryd.prog 16 [(false, [.int .i64 k])] (.one (.c (.str (nameOf k))), []) := by
  refine Sat.intro tok mixed Tryd.func16 rfl rfl ?_
  conv => whnf
  refine Pick.mk _ (s_impl_within _ _ _) ?_
  conv => whnf
  refine Br.mk (fun h => ?_) (fun h => ?_) <;> conv => whnf
  · refine ResOK.same ?_
    have : nameOf k = ⟨#[]⟩ := by
      unfold nameOf
      split <;> first | (simp at h; done) | rfl
    rw [this]
  · simp at h
    refine Pick.mk _ s_impl_proofNames ?_
    conv => whnf
    refine Pick.w64 (by omega) ?_
    conv => whnf
    refine Side.mk (by simp [names]; omega) ?_
    conv => whnf
    have hc : k = 1 ∨ k = 2 ∨ k = 3 ∨ k = 4 ∨ k = 5 ∨ k = 6 := by omega
    refine Pick.mk [CV.str (nameOf k)] (by rcases hc with rfl | rfl | rfl | rfl | rfl | rfl <;> rfl) ?_
    conv => whnf
    exact ResOK.same rfl

end Go.Proofs.YtnafogjagbhdbaaDoor.Pi
