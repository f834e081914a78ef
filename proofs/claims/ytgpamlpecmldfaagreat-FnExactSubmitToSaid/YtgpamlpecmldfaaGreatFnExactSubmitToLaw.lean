/- The law FnExactSubmitTo holds. -/
import Derived.Test.YtgpamlpecmldfaaGreatFnExactSubmitToLift
namespace Go.Proofs.YtgpamlpecmldfaaGreat
namespace FnExactSubmitTo
open Go Go.Proofs.YtgpamlpecmldfaaGreat.Rf Go.ChangeShapes Go.WideShapes Go.ChangeAt Go.RowKit
set_option linter.unusedSimpArgs false
set_option linter.unusedVariables false
set_option maxRecDepth 100000
theorem holds : Rows.FnExactSubmitToSaid :=
  OpenClaim.holds_of_wide 5 Tryz.f5 rfl rfl rfl rfl rfl rfl rfl ⟨rfl, rfl, rfl, rfl, rfl⟩ rfl rfl rfl rfl rfl (by kernel_rfl) Tryz.func5 (by kernel_rfl)
    (of_decide_eq_true (by kernel_rfl)) (by unfold Func.isWrapper; first | (rw [if_pos (by decide +kernel)]; kernel_rfl) | (rw [if_neg (by decide +kernel)]; exact ⟨rfl, rfl⟩))
    (fun os started H enc _ => lifted os started H enc)
#print axioms holds
end FnExactSubmitTo
end Go.Proofs.YtgpamlpecmldfaaGreat
