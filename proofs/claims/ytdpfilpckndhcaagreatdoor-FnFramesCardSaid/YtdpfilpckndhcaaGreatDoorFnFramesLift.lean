/- The law FnFrames: it answers true for all arguments, and does not panic. No conditions. -/
import Derived.Test.YtdpfilpckndhcaaGreatDoorRows
import Derived.Test.YtdpfilpckndhcaaGreatDoorFnFramesPu
import Derived.ProofKit
import Derived.OpenShut
import Derived.LaidMore
import Derived.Lay
namespace Go.Proofs.YtdpfilpckndhcaaGreatDoor
namespace FnFrames
open Go Go.Proofs.YtdpfilpckndhcaaGreatDoor.Rf Go.ChangeShapes Go.WideShapes Go.ChangeAt Go.RowKit
set_option linter.unusedSimpArgs false
set_option linter.unusedVariables false
set_option maxRecDepth 100000
theorem own : ownKnob Tryz.prog.godebug = none := by kernel_rfl
theorem laidOut : laidOutB Tryz.prog = true := by kernel_rfl
theorem spec_is (H : Type) (ds : List (DataW H)) (h : ds.length = Tryz.f5.params.size) : Rows.fnFramesSpec.fn H ds = { results := [.lit (.bool true)], args := ds, vars := [] } := by
  obtain ⟨d0, r0, rfl⟩ : ∃ d r, ds = d :: r := by cases ds with
    | nil => cases h
    | cons d r => exact ⟨d, r, rfl⟩
  obtain ⟨d1, r1, rfl⟩ : ∃ d r, r0 = d :: r := by cases r0 with
    | nil => cases h
    | cons d r => exact ⟨d, r, rfl⟩
  obtain rfl : r1 = [] := by cases r1 with
    | nil => rfl
    | cons d r => cases h
  rfl
theorem lifted (os : Os) (started : os.Started) (H : Type) (enc : TypeId × Value → H) :
    ReturnsInHanded {} Tryz.checked os 5 .any (fun w args => (Rows.fnFramesSpec.pre enc Tryz.prog Tryz.f5 Rows.fnFramesRow.domain false w args ∧ laidMetH Tryz.prog Rows.fnFramesRow.laid w) ∧ sizedMet enc Tryz.prog Tryz.f5 (OpenSpec.ofChange Rows.fnFramesSpec) false w args)
      (Rows.fnFramesSpec.post enc Tryz.prog Tryz.f5 false true false false) :=
  Pa2 (C := Tryz.checked) (XG := vH Tryz.prog) (X := fun w _ => laidMetH Tryz.prog Rows.fnFramesRow.laid w) (s := sg0) (fun _ _ _ hh h => h.of_heap hh) own laidOut (fun w _ h => Zad (by rw [MakeChecks.laidMetH_plain _ _ _ (by kernel_rfl)] at h; exact h) (List.mem_of_getElem? (i := 2) (by kernel_rfl))) contract Tryz.func5 (by kernel_rfl) rfl (by kernel_rfl) rfl rfl hpure (by kernel_rfl) rfl (by kernel_rfl) rfl spec_is (by kernel_rfl) os started H enc
    (ChangeSpec.witness_shaped (enc := enc) (C := Tryz.checked) (os := os) (X := fun w _ => laidMetH Tryz.prog Rows.fnFramesRow.laid w) false (World.laidAll Tryz.prog os Rows.fnFramesRow.laid) #[.slice none 0 0, .slice none 0 0] 8 (World.laidAll_os _ _ _)
      (World.shaped_of_ZipB (by kernel_rfl) (by kernel_rfl)) (by kernel_rfl) (by kernel_rfl) (by kernel_rfl)
      (by rw [MakeChecks.laidMetH_plain _ _ _ (by kernel_rfl)]; exact laidMet_laidAll _ (by kernel_rfl) (by kernel_rfl)))
end FnFrames
end Go.Proofs.YtdpfilpckndhcaaGreatDoor
