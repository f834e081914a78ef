/- The law FnTables: it answers true for all arguments, and does not panic. No conditions. -/
import Derived.Test.YtjoebpmeeampfaaRows
import Derived.Test.YtjoebpmeeampfaaFnTablesPu
import Derived.ProofKit
namespace Go.Proofs.Ytjoebpmeeampfaa
namespace FnTables
open Go Go.Proofs.Ytjoebpmeeampfaa.Rf Go.ChangeShapes Go.WideShapes Go.ChangeAt Go.RowKit
set_option linter.unusedSimpArgs false
set_option linter.unusedVariables false
set_option maxRecDepth 100000
theorem own : ownKnob Try.prog.godebug = none := by kernel_rfl
theorem laidOut : laidOutB Try.prog = true := by kernel_rfl
theorem spec_is (H : Type) (ds : List (DataW H)) (h : ds.length = Try.f8.params.size) : Rows.fnTablesSpec.fn H ds = { results := [.lit (.bool true)], args := ds, vars := [] } := by
  obtain ⟨d0, r0, rfl⟩ : ∃ d r, ds = d :: r := by cases ds with
    | nil => cases h
    | cons d r => exact ⟨d, r, rfl⟩
  obtain ⟨d1, r1, rfl⟩ : ∃ d r, r0 = d :: r := by cases r0 with
    | nil => cases h
    | cons d r => exact ⟨d, r, rfl⟩
  obtain rfl : r1 = [] := by cases r1 with
    | nil => rfl
    | cons d r => cases h
  rfl
theorem lifted (os : Os) (started : os.Started) (H : Type) (enc : TypeId × Value → H) :
    ReturnsInHanded {} Try.checked os 8 .any (Rows.fnTablesSpec.pre6 enc Try.prog Try.f8 Rows.fnTablesRow.domain false) (Rows.fnTablesSpec.post enc Try.prog Try.f8 false true false false) :=
  law_lifted (C := Try.checked) (s := sg0) own laidOut contract Try.func8 (by kernel_rfl) rfl (by kernel_rfl) rfl rfl hpure (by kernel_rfl) rfl (by kernel_rfl) rfl spec_is (by kernel_rfl) os started H enc
    (ChangeSpec.witness6 (enc := enc) (C := Try.checked) false ⟨#[], #[.slice none 0 0, .slice none 0 0], []⟩ 8 (by kernel_rfl) (by kernel_rfl) (by kernel_rfl) (by kernel_rfl))
end FnTables
end Go.Proofs.Ytjoebpmeeampfaa
