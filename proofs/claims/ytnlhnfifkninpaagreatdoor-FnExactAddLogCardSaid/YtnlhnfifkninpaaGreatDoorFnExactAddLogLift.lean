/- The law FnExactAddLog: it answers true for all arguments, and does not panic. No conditions. -/
import Derived.Test.YtnlhnfifkninpaaGreatDoorRows
import Derived.Test.YtnlhnfifkninpaaGreatDoorFnExactAddLogPu
import Derived.ProofKit
import Derived.OpenShut
import Derived.LaidMore
import Derived.Lay
namespace Go.Proofs.YtnlhnfifkninpaaGreatDoor
namespace FnExactAddLog
open Go Go.Proofs.YtnlhnfifkninpaaGreatDoor.Rf Go.ChangeShapes Go.WideShapes Go.ChangeAt Go.RowKit
set_option linter.unusedSimpArgs false
set_option linter.unusedVariables false
set_option maxRecDepth 100000
theorem own : ownKnob Tryz.prog.godebug = none := by kernel_rfl
theorem laidOut : laidOutB Tryz.prog = true := by kernel_rfl
theorem spec_is (H : Type) (ds : List (DataW H)) (h : ds.length = Tryz.f3.params.size) : Rows.fnExactAddLogSpec.fn H ds = { results := [.lit (.bool true)], args := ds, vars := [] } := by
  obtain ⟨d0, r0, rfl⟩ : ∃ d r, ds = d :: r := by cases ds with
    | nil => cases h
    | cons d r => exact ⟨d, r, rfl⟩
  obtain ⟨d1, r1, rfl⟩ : ∃ d r, r0 = d :: r := by cases r0 with
    | nil => cases h
    | cons d r => exact ⟨d, r, rfl⟩
  obtain ⟨d2, r2, rfl⟩ : ∃ d r, r1 = d :: r := by cases r1 with
    | nil => cases h
    | cons d r => exact ⟨d, r, rfl⟩
  obtain ⟨d3, r3, rfl⟩ : ∃ d r, r2 = d :: r := by cases r2 with
    | nil => cases h
    | cons d r => exact ⟨d, r, rfl⟩
  obtain ⟨d4, r4, rfl⟩ : ∃ d r, r3 = d :: r := by cases r3 with
    | nil => cases h
    | cons d r => exact ⟨d, r, rfl⟩
  obtain rfl : r4 = [] := by cases r4 with
    | nil => rfl
    | cons d r => cases h
  rfl
theorem lifted (os : Os) (started : os.Started) (H : Type) (enc : TypeId × Value → H) :
    ReturnsInHanded {} Tryz.checked os 3 .any (fun w args => (Rows.fnExactAddLogSpec.pre enc Tryz.prog Tryz.f3 Rows.fnExactAddLogRow.domain false w args ∧ laidMetH Tryz.prog Rows.fnExactAddLogRow.laid w) ∧ sizedMet enc Tryz.prog Tryz.f3 (OpenSpec.ofChange Rows.fnExactAddLogSpec) false w args)
      (Rows.fnExactAddLogSpec.post enc Tryz.prog Tryz.f3 false true false false) :=
  law_laidX (C := Tryz.checked) (XG := pow10X Tryz.prog) (X := fun w _ => laidMetH Tryz.prog Rows.fnExactAddLogRow.laid w) (s := sg0) (fun _ _ _ hh h => h.of_heap hh) own laidOut (fun w _ h => pow_of (by rw [MakeChecks.laidMetH_plain _ _ _ (by kernel_rfl)] at h; exact h) (List.mem_of_getElem? (i := 2) (by kernel_rfl))) contract Tryz.func3 (by kernel_rfl) rfl (by kernel_rfl) rfl rfl hpure (by kernel_rfl) rfl (by kernel_rfl) rfl spec_is (by kernel_rfl) os started H enc
    (ChangeSpec.witness_shaped (enc := enc) (C := Tryz.checked) (os := os) (X := fun w _ => laidMetH Tryz.prog Rows.fnExactAddLogRow.laid w) false (World.laidAll Tryz.prog os Rows.fnExactAddLogRow.laid) #[.int .i64 0, .string ⟨#[]⟩, .int .i64 0, .int .i64 0, .agg #[.int .i64 0, .int .i64 0, .int .i64 0, .int .i64 0, .int .i64 0, .int .i64 0, .int .i64 0, .int .i64 0, .int .i64 0, .slice none 0 0]] 8 (World.laidAll_os _ _ _)
      (World.shaped_of_ZipB (by kernel_rfl) (by kernel_rfl)) (by kernel_rfl) (by kernel_rfl) (by kernel_rfl)
      (by rw [MakeChecks.laidMetH_plain _ _ _ (by kernel_rfl)]; exact laidMet_laidAll _ (by kernel_rfl) (by kernel_rfl)))
end FnExactAddLog
end Go.Proofs.YtnlhnfifkninpaaGreatDoor
