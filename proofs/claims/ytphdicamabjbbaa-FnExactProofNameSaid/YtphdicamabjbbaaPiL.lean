/- Small helps for the walks. No statement of the seat is proved here. -/
import Derived.Test.YtphdicamabjbbaaPiTok
import Derived.Test.YtphdicamabjbbaaPiGlue
namespace Go.Proofs.Ytphdicamabjbbaa.Pi
open Go Go.RowKit
set_option linter.unusedVariables false

theorem LoopL.step {B : St → (Ex → St → Prop) → Prop} {live : List Nat} {Q : Ex → St → Prop} {s : St}
    (h : B s fun e s' => match e with | .normal => cleanK live s' (LoopL B live Q) | e => Q e s') : LoopL B live Q s :=
  .mk s _ h (fun s' s'' hk hR => hR _ hk) (fun e s' hne hk => by
    cases e with
    | normal => exact absurd rfl hne
    | exit i => exact hk
    | ret => exact hk)

theorem Pick.w64 {n : Int} {K : Int → Prop} (h0 : -9223372036854775808 ≤ n ∧ n ≤ 9223372036854775807) (h : K n) : Pick (fun z => IntKind.i64.wrap n = z) K :=
  ⟨n, wrap_i64 (by omega) (by omega), h⟩

end Go.Proofs.Ytphdicamabjbbaa.Pi
