/- The law FnLeads: it answers true for all arguments, and does not panic. No conditions. -/
import Derived.Test.YtgpamlpecmldfaaGreatRows
import Derived.Test.YtgpamlpecmldfaaGreatFnLeadsPu
import Derived.ProofKit
namespace Go.Proofs.YtgpamlpecmldfaaGreat
namespace FnLeads
open Go Go.Proofs.YtgpamlpecmldfaaGreat.Rf Go.ChangeShapes Go.WideShapes Go.ChangeAt Go.RowKit
set_option linter.unusedSimpArgs false
set_option linter.unusedVariables false
set_option maxRecDepth 100000
theorem own : ownKnob Tryz.prog.godebug = none := by kernel_rfl
theorem laidOut : laidOutB Tryz.prog = true := by kernel_rfl
theorem spec_is (H : Type) (ds : List (DataW H)) (h : ds.length = Tryz.f7.params.size) : Rows.fnLeadsSpec.fn H ds = { results := [.lit (.bool true)], args := ds, vars := [] } := by
  obtain ⟨d0, r0, rfl⟩ : ∃ d r, ds = d :: r := by cases ds with
    | nil => cases h
    | cons d r => exact ⟨d, r, rfl⟩
  obtain ⟨d1, r1, rfl⟩ : ∃ d r, r0 = d :: r := by cases r0 with
    | nil => cases h
    | cons d r => exact ⟨d, r, rfl⟩
  obtain rfl : r1 = [] := by cases r1 with
    | nil => rfl
    | cons d r => cases h
  rfl
theorem lifted (os : Os) (started : os.Started) (H : Type) (enc : TypeId × Value → H) :
    ReturnsInHanded {} Tryz.checked os 7 .any (Rows.fnLeadsSpec.pre6 enc Tryz.prog Tryz.f7 Rows.fnLeadsRow.domain false) (Rows.fnLeadsSpec.post enc Tryz.prog Tryz.f7 false true false false) :=
  Vau (C := Tryz.checked) (s := sg0) own laidOut contract Tryz.func7 (by kernel_rfl) rfl (by kernel_rfl) rfl rfl hpure (by kernel_rfl) rfl (by kernel_rfl) rfl spec_is (by kernel_rfl) os started H enc
    (ChangeSpec.witness6 (enc := enc) (C := Tryz.checked) false ⟨#[], #[.slice none 0 0, .slice none 0 0], []⟩ 8 (by kernel_rfl) (by kernel_rfl) (by kernel_rfl) (by kernel_rfl))
end FnLeads
end Go.Proofs.YtgpamlpecmldfaaGreat
