/- The law FnExactSameTold holds. -/
import Derived.Test.YtcbkmmhkccnamaaGreatFnExactSameToldLift
namespace Go.Proofs.YtcbkmmhkccnamaaGreat
namespace FnExactSameTold
open Go Go.Proofs.YtcbkmmhkccnamaaGreat.Rf Go.ChangeShapes Go.WideShapes Go.ChangeAt Go.RowKit
set_option linter.unusedSimpArgs false
set_option linter.unusedVariables false
set_option maxRecDepth 100000
theorem holds : Rows.FnExactSameToldSaid :=
  OpenClaim.holds_of_wide 6 Tryz.f6 rfl rfl rfl rfl rfl rfl rfl ⟨rfl, rfl, rfl, rfl, rfl⟩ rfl rfl rfl rfl rfl (by kernel_rfl) Tryz.func6 (by kernel_rfl)
    (of_decide_eq_true (by kernel_rfl)) (by unfold Func.isWrapper; first | (rw [if_pos (by decide +kernel)]; kernel_rfl) | (rw [if_neg (by decide +kernel)]; exact ⟨rfl, rfl⟩))
    (fun os started H enc _ => lifted os started H enc)
#print axioms holds
end FnExactSameTold
end Go.Proofs.YtcbkmmhkccnamaaGreat
