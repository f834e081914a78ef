/- The law FnExactSameOrders: it answers true for all arguments, and does not panic. No conditions. -/
import Derived.Test.YtgbjmmkjlhjbbaaRows
import Derived.Test.YtgbjmmkjlhjbbaaFnExactSameOrdersPu
import Derived.ProofKit
namespace Go.Proofs.Ytgbjmmkjlhjbbaa
namespace FnExactSameOrders
open Go Go.Proofs.Ytgbjmmkjlhjbbaa.Rf Go.ChangeShapes Go.WideShapes Go.ChangeAt Go.RowKit
set_option linter.unusedSimpArgs false
set_option linter.unusedVariables false
set_option maxRecDepth 100000
theorem own : ownKnob Try.prog.godebug = none := by kernel_rfl
theorem laidOut : laidOutB Try.prog = true := by kernel_rfl
theorem spec_is (H : Type) (ds : List (DataW H)) (h : ds.length = Try.f3.params.size) : Rows.fnExactSameOrdersSpec.fn H ds = { results := [.lit (.bool true)], args := ds, vars := [] } := by
  obtain ⟨d0, r0, rfl⟩ : ∃ d r, ds = d :: r := by cases ds with
    | nil => cases h
    | cons d r => exact ⟨d, r, rfl⟩
  obtain ⟨d1, r1, rfl⟩ : ∃ d r, r0 = d :: r := by cases r0 with
    | nil => cases h
    | cons d r => exact ⟨d, r, rfl⟩
  obtain ⟨d2, r2, rfl⟩ : ∃ d r, r1 = d :: r := by cases r1 with
    | nil => cases h
    | cons d r => exact ⟨d, r, rfl⟩
  obtain rfl : r2 = [] := by cases r2 with
    | nil => rfl
    | cons d r => cases h
  rfl
theorem lifted (os : Os) (started : os.Started) (H : Type) (enc : TypeId × Value → H) :
    ReturnsInHanded {} Try.checked os 3 .any (Rows.fnExactSameOrdersSpec.pre6 enc Try.prog Try.f3 Rows.fnExactSameOrdersRow.domain false) (Rows.fnExactSameOrdersSpec.post enc Try.prog Try.f3 false true false false) :=
  law_lifted (C := Try.checked) (s := sg0) own laidOut contract Try.func3 (by kernel_rfl) rfl (by kernel_rfl) rfl rfl hpure (by kernel_rfl) rfl (by kernel_rfl) rfl spec_is (by kernel_rfl) os started H enc
    (ChangeSpec.witness6 (enc := enc) (C := Try.checked) false ⟨#[], #[.slice none 0 0, .slice none 0 0, .agg #[.int .i64 0, .slice none 0 0]], []⟩ 8 (by kernel_rfl) (by kernel_rfl) (by kernel_rfl) (by kernel_rfl))
theorem holds : Rows.FnExactSameOrdersSaid :=
  OpenClaim.holds_of_wide 3 Try.f3 rfl rfl rfl rfl rfl rfl rfl ⟨rfl, rfl, rfl, rfl, rfl⟩ rfl rfl rfl rfl rfl (by kernel_rfl) Try.func3 (by kernel_rfl)
    (of_decide_eq_true (by kernel_rfl)) (by unfold Func.isWrapper; first | (rw [if_pos (by decide +kernel)]; kernel_rfl) | (rw [if_neg (by decide +kernel)]; exact ⟨rfl, rfl⟩))
    (fun os started H enc _ => lifted os started H enc)
#print axioms holds
end FnExactSameOrders
end Go.Proofs.Ytgbjmmkjlhjbbaa
