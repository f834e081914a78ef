/- The law FnExactSafeIn: it answers true for all arguments, and does not panic. No conditions. -/
import Derived.Test.YtcbkmmhkccnamaaGreatRows
import Derived.Test.YtcbkmmhkccnamaaGreatFnExactSafeInPu
import Derived.ProofKit
namespace Go.Proofs.YtcbkmmhkccnamaaGreat
namespace FnExactSafeIn
open Go Go.Proofs.YtcbkmmhkccnamaaGreat.Rf Go.ChangeShapes Go.WideShapes Go.ChangeAt Go.RowKit
set_option linter.unusedSimpArgs false
set_option linter.unusedVariables false
set_option maxRecDepth 100000
theorem own : ownKnob Tryz.prog.godebug = none := by kernel_rfl
theorem laidOut : laidOutB Tryz.prog = true := by kernel_rfl
theorem spec_is (H : Type) (ds : List (DataW H)) (h : ds.length = Tryz.f7.params.size) : Rows.fnExactSafeInSpec.fn H ds = { results := [.lit (.bool true)], args := ds, vars := [] } := by
  obtain ⟨d0, r0, rfl⟩ : ∃ d r, ds = d :: r := by cases ds with
    | nil => cases h
    | cons d r => exact ⟨d, r, rfl⟩
  obtain rfl : r0 = [] := by cases r0 with
    | nil => rfl
    | cons d r => cases h
  rfl
theorem lifted (os : Os) (started : os.Started) (H : Type) (enc : TypeId × Value → H) :
    ReturnsInHanded {} Tryz.checked os 7 .any (Rows.fnExactSafeInSpec.pre6 enc Tryz.prog Tryz.f7 Rows.fnExactSafeInRow.domain false) (Rows.fnExactSafeInSpec.post enc Tryz.prog Tryz.f7 false true false false) :=
  Xaz (C := Tryz.checked) (s := sg0) own laidOut contract Tryz.func7 (by kernel_rfl) rfl (by kernel_rfl) rfl rfl hpure (by kernel_rfl) rfl (by kernel_rfl) rfl spec_is (by kernel_rfl) os started H enc
    (ChangeSpec.witness6 (enc := enc) (C := Tryz.checked) false ⟨#[], #[.agg #[.slice none 0 0, .slice none 0 0, .slice none 0 0]], []⟩ 8 (by kernel_rfl) (by kernel_rfl) (by kernel_rfl) (by kernel_rfl))
end FnExactSafeIn
end Go.Proofs.YtcbkmmhkccnamaaGreat
