/- The law FnExactSetRow: it answers true for all arguments, and does not panic. No conditions. -/
import Derived.Test.YtacfmplofkjonaaRows
import Derived.Test.YtacfmplofkjonaaFnExactSetRowPu
import Derived.ProofKit
namespace Go.Proofs.Ytacfmplofkjonaa
namespace FnExactSetRow
open Go Go.Proofs.Ytacfmplofkjonaa.Rf Go.ChangeShapes Go.WideShapes Go.ChangeAt Go.RowKit
set_option linter.unusedSimpArgs false
set_option linter.unusedVariables false
set_option maxRecDepth 100000
theorem own : ownKnob Try.prog.godebug = none := by kernel_rfl
theorem laidOut : laidOutB Try.prog = true := by kernel_rfl
theorem spec_is (H : Type) (ds : List (DataW H)) (h : ds.length = Try.f14.params.size) : Rows.fnExactSetRowSpec.fn H ds = { results := [.lit (.bool true)], args := ds, vars := [] } := by
  obtain ⟨d0, r0, rfl⟩ : ∃ d r, ds = d :: r := by cases ds with
    | nil => cases h
    | cons d r => exact ⟨d, r, rfl⟩
  obtain ⟨d1, r1, rfl⟩ : ∃ d r, r0 = d :: r := by cases r0 with
    | nil => cases h
    | cons d r => exact ⟨d, r, rfl⟩
  obtain ⟨d2, r2, rfl⟩ : ∃ d r, r1 = d :: r := by cases r1 with
    | nil => cases h
    | cons d r => exact ⟨d, r, rfl⟩
  obtain ⟨d3, r3, rfl⟩ : ∃ d r, r2 = d :: r := by cases r2 with
    | nil => cases h
    | cons d r => exact ⟨d, r, rfl⟩
  obtain rfl : r3 = [] := by cases r3 with
    | nil => rfl
    | cons d r => cases h
  rfl
theorem lifted (os : Os) (started : os.Started) (H : Type) (enc : TypeId × Value → H) :
    ReturnsInHanded {} Try.checked os 14 .any (Rows.fnExactSetRowSpec.pre6 enc Try.prog Try.f14 Rows.fnExactSetRowRow.domain false) (Rows.fnExactSetRowSpec.post enc Try.prog Try.f14 false true false false) :=
  law_lifted (C := Try.checked) (s := sg0) own laidOut contract Try.func14 (by kernel_rfl) rfl (by kernel_rfl) rfl rfl hpure (by kernel_rfl) rfl (by kernel_rfl) rfl spec_is (by kernel_rfl) os started H enc
    (ChangeSpec.witness6 (enc := enc) (C := Try.checked) false ⟨#[], #[.agg #[.int .i64 0, .slice none 0 0], .int .i64 0, .int .i64 0, .agg #[.int .i64 0, .int .i64 0, .int .i64 0, .int .i64 0, .int .i64 0, .int .i64 0, .int .i64 0, .int .i64 0, .int .i64 0, .slice none 0 0]], []⟩ 8 (by kernel_rfl) (by kernel_rfl) (by kernel_rfl) (by kernel_rfl))
theorem holds : Rows.FnExactSetRowSaid :=
  OpenClaim.holds_of_wide 14 Try.f14 rfl rfl rfl rfl rfl rfl rfl ⟨rfl, rfl, rfl, rfl, rfl⟩ rfl rfl rfl rfl rfl (by kernel_rfl) Try.func14 (by kernel_rfl)
    (of_decide_eq_true (by kernel_rfl)) (by unfold Func.isWrapper; first | (rw [if_pos (by decide +kernel)]; kernel_rfl) | (rw [if_neg (by decide +kernel)]; exact ⟨rfl, rfl⟩))
    (fun os started H enc _ => lifted os started H enc)
#print axioms holds
end FnExactSetRow
end Go.Proofs.Ytacfmplofkjonaa
