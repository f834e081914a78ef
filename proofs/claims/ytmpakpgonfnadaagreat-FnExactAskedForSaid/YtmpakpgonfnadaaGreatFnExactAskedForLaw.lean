/- The law FnExactAskedFor holds. -/
import Derived.Test.YtmpakpgonfnadaaGreatFnExactAskedForLift
namespace Go.Proofs.YtmpakpgonfnadaaGreat
namespace FnExactAskedFor
open Go Go.Proofs.YtmpakpgonfnadaaGreat.Rf Go.ChangeShapes Go.WideShapes Go.ChangeAt Go.RowKit
set_option linter.unusedSimpArgs false
set_option linter.unusedVariables false
set_option maxRecDepth 100000
theorem holds : Rows.FnExactAskedForSaid :=
  OpenClaim.holds_of_wide 4 Tryz.f4 rfl rfl rfl rfl rfl rfl rfl ⟨rfl, rfl, rfl, rfl, rfl⟩ rfl rfl rfl rfl rfl (by kernel_rfl) Tryz.func4 (by kernel_rfl)
    (of_decide_eq_true (by kernel_rfl)) (by unfold Func.isWrapper; first | (rw [if_pos (by decide +kernel)]; kernel_rfl) | (rw [if_neg (by decide +kernel)]; exact ⟨rfl, rfl⟩))
    (fun os started H enc _ => lifted os started H enc)
#print axioms holds
end FnExactAskedFor
end Go.Proofs.YtmpakpgonfnadaaGreat
