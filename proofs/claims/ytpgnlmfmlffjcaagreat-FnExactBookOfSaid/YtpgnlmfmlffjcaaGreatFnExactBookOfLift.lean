/- The law FnExactBookOf: it answers true for all arguments, and does not panic. No conditions. -/
import Derived.Test.YtpgnlmfmlffjcaaGreatRows
import Derived.Test.YtpgnlmfmlffjcaaGreatFnExactBookOfPu
import Derived.ProofKit
namespace Go.Proofs.YtpgnlmfmlffjcaaGreat
namespace FnExactBookOf
open Go Go.Proofs.YtpgnlmfmlffjcaaGreat.Rf Go.ChangeShapes Go.WideShapes Go.ChangeAt Go.RowKit
set_option linter.unusedSimpArgs false
set_option linter.unusedVariables false
set_option maxRecDepth 100000
theorem own : ownKnob Tryz.prog.godebug = none := by kernel_rfl
theorem laidOut : laidOutB Tryz.prog = true := by kernel_rfl
theorem spec_is (H : Type) (ds : List (DataW H)) (h : ds.length = Tryz.f9.params.size) : Rows.fnExactBookOfSpec.fn H ds = { results := [.lit (.bool true)], args := ds, vars := [] } := by
  obtain ⟨d0, r0, rfl⟩ : ∃ d r, ds = d :: r := by cases ds with
    | nil => cases h
    | cons d r => exact ⟨d, r, rfl⟩
  obtain rfl : r0 = [] := by cases r0 with
    | nil => rfl
    | cons d r => cases h
  rfl
theorem lifted (os : Os) (started : os.Started) (H : Type) (enc : TypeId × Value → H) :
    ReturnsInHanded {} Tryz.checked os 9 .any (Rows.fnExactBookOfSpec.pre6 enc Tryz.prog Tryz.f9 Rows.fnExactBookOfRow.domain false) (Rows.fnExactBookOfSpec.post enc Tryz.prog Tryz.f9 false true false false) :=
  Ha1 (C := Tryz.checked) (s := sg0) own laidOut contract Tryz.func9 (by kernel_rfl) rfl (by kernel_rfl) rfl rfl hpure (by kernel_rfl) rfl (by kernel_rfl) rfl spec_is (by kernel_rfl) os started H enc
    (ChangeSpec.witness6 (enc := enc) (C := Tryz.checked) false ⟨#[], #[.agg #[.int .i64 0, .slice none 0 0]], []⟩ 8 (by kernel_rfl) (by kernel_rfl) (by kernel_rfl) (by kernel_rfl))
end FnExactBookOf
end Go.Proofs.YtpgnlmfmlffjcaaGreat
