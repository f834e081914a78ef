/- The law FnExactLogOf: it answers true for all arguments, and does not panic. No conditions. -/
import Derived.Test.YtnlhnfifkninpaaDoorRows
import Derived.Test.YtnlhnfifkninpaaDoorFnExactLogOfPu
import Derived.ProofKit
import Derived.OpenShut
import Derived.LaidMore
import Derived.Lay
namespace Go.Proofs.YtnlhnfifkninpaaDoor
namespace FnExactLogOf
open Go Go.Proofs.YtnlhnfifkninpaaDoor.Rf Go.ChangeShapes Go.WideShapes Go.ChangeAt Go.RowKit
set_option linter.unusedSimpArgs false
set_option linter.unusedVariables false
set_option maxRecDepth 100000
theorem own : ownKnob Tryd.prog.godebug = none := by kernel_rfl
theorem laidOut : laidOutB Tryd.prog = true := by kernel_rfl
theorem spec_is (H : Type) (ds : List (DataW H)) (h : ds.length = Tryd.f5.params.size) : Rows.fnExactLogOfSpec.fn H ds = { results := [.lit (.bool true)], args := ds, vars := [] } := by
  obtain ⟨d0, r0, rfl⟩ : ∃ d r, ds = d :: r := by cases ds with
    | nil => cases h
    | cons d r => exact ⟨d, r, rfl⟩
  obtain rfl : r0 = [] := by cases r0 with
    | nil => rfl
    | cons d r => cases h
  rfl
theorem lifted (os : Os) (started : os.Started) (H : Type) (enc : TypeId × Value → H) :
    ReturnsInHanded {} Tryd.checked os 5 .any (fun w args => (Rows.fnExactLogOfSpec.pre enc Tryd.prog Tryd.f5 Rows.fnExactLogOfRow.domain false w args ∧ laidMetH Tryd.prog Rows.fnExactLogOfRow.laid w) ∧ sizedMet enc Tryd.prog Tryd.f5 (OpenSpec.ofChange Rows.fnExactLogOfSpec) false w args)
      (Rows.fnExactLogOfSpec.post enc Tryd.prog Tryd.f5 false true false false) :=
  law_laidX (C := Tryd.checked) (XG := pow10X Tryd.prog) (X := fun w _ => laidMetH Tryd.prog Rows.fnExactLogOfRow.laid w) (s := sg0) (fun _ _ _ hh h => h.of_heap hh) own laidOut (fun w _ h => pow_of (by rw [MakeChecks.laidMetH_plain _ _ _ (by kernel_rfl)] at h; exact h) (List.mem_of_getElem? (i := 2) (by kernel_rfl))) contract Tryd.func5 (by kernel_rfl) rfl (by kernel_rfl) rfl rfl hpure (by kernel_rfl) rfl (by kernel_rfl) rfl spec_is (by kernel_rfl) os started H enc
    (ChangeSpec.witness_shaped (enc := enc) (C := Tryd.checked) (os := os) (X := fun w _ => laidMetH Tryd.prog Rows.fnExactLogOfRow.laid w) false (World.laidAll Tryd.prog os Rows.fnExactLogOfRow.laid) #[.agg #[.int .i64 0, .slice none 0 0]] 8 (World.laidAll_os _ _ _)
      (World.shaped_of_ZipB (by kernel_rfl) (by kernel_rfl)) (by kernel_rfl) (by kernel_rfl) (by kernel_rfl)
      (by rw [MakeChecks.laidMetH_plain _ _ _ (by kernel_rfl)]; exact laidMet_laidAll _ (by kernel_rfl) (by kernel_rfl)))
end FnExactLogOf
end Go.Proofs.YtnlhnfifkninpaaDoor
