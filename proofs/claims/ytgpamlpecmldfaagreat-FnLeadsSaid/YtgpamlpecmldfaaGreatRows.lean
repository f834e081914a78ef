/-
  No cell of these rows narrows 'for every input' (looked for: loops, veiled, ifaces, maps, wideKeys, modest, calm, conditions, laid).
  DERIVED. THE GIVEN ROWS OF THIS SEAT. 6 by the template 'for every input the law returns true; each argument reads behind the call as it read before'; 0 by the template 'total and deterministic' (their statements: YtgpamlpecmldfaaGreatTotals.lean).
  GIVEN WITH THE SEED: the statements are not yours to turn. If you find one false, say at which input.
  Laid BY PROGRAM, IN A SANDBOX (cutbox-rows.mjs): the forced cells as the released guide's own fill.sh prints them over the translation f6ee7c7eef593198… (all of the seat's roots in one cut). By AI agents, Wed Nov 11 2026. No macro, syntax, notation, axiom, sorry.
-/
import Derived.Test.YtgpamlpecmldfaaGreatChecked
import GoSem.Claim
import GoSem.ClaimJoined
import GoSem.ClaimMapViews
import Derived.JoinedTies
import Derived.KernelRfl
namespace Go.Proofs.YtgpamlpecmldfaaGreat
/- THE CELL 'sum', in the pinned program and in every row, IS THE sha256 OF THE DUMP (.gsa) THAT YtgpamlpecmldfaaGreatProg.lean LOADS. Nothing in Lean hashes anything: it is a label: what it is worth is what the hold of that sum in a sandbox is worth. -/
noncomputable def Tryz.pinned : Pinned := { name := "ytgpamlpecmldfaagreat", sum := "f6ee7c7eef593198475082f65d9cf80ce42e00b071b76f903b6f098cd0dc8e9a", checked := Tryz.checked }
namespace Rows
def none {H : Type} : Left H := { results := [], args := [] }

/-- 'laws.FnExactHurryAt': WHATEVER THE INPUT: true; the input reads as it did. -/
def fnExactHurryAtSpec : ChangeSpec := { name := "fnExactHurryAt", fn := fun _ => fun
  | [d1, d2, d3] => { results := [.lit (.bool true)], args := [d1, d2, d3] }
  | _ => none }
def fnExactHurryAtRow : OpenClaim := { program := "ytgpamlpecmldfaagreat", sum := "f6ee7c7eef593198475082f65d9cf80ce42e00b071b76f903b6f098cd0dc8e9a", func := "loop.example/g00698/laws.FnExactHurryAt", spec := "fnExactHurryAt", inPlace := ["slices.overlaps[loop.example/g00698/impl.Lead]"], unfollowed := true, recurses := true, apart := false }
def FnExactHurryAtSaid : Prop := fnExactHurryAtRow.holds Tryz.pinned (OpenSpec.ofChange fnExactHurryAtSpec)

/-- ITS FALSE NEIGHBOUR: 'it returns false'. Refute it at one input. -/
def fnExactHurryAtWrong : ChangeSpec := { name := "fnExactHurryAt", fn := fun _ => fun
  | [d1, d2, d3] => { results := [.lit (.bool false)], args := [d1, d2, d3] }
  | _ => none }
def FnExactHurryAtWrongFalsely : Prop := fnExactHurryAtRow.holds Tryz.pinned (OpenSpec.ofChange fnExactHurryAtWrong)

/-- 'laws.FnExactRecoverAt': WHATEVER THE INPUT: true; the input reads as it did. -/
def fnExactRecoverAtSpec : ChangeSpec := { name := "fnExactRecoverAt", fn := fun _ => fun
  | [d1, d2, d3] => { results := [.lit (.bool true)], args := [d1, d2, d3] }
  | _ => none }
def fnExactRecoverAtRow : OpenClaim := { program := "ytgpamlpecmldfaagreat", sum := "f6ee7c7eef593198475082f65d9cf80ce42e00b071b76f903b6f098cd0dc8e9a", func := "loop.example/g00698/laws.FnExactRecoverAt", spec := "fnExactRecoverAt", inPlace := ["slices.overlaps[loop.example/g00698/impl.Lead]"], unfollowed := true, recurses := true, apart := false }
def FnExactRecoverAtSaid : Prop := fnExactRecoverAtRow.holds Tryz.pinned (OpenSpec.ofChange fnExactRecoverAtSpec)

/-- ITS FALSE NEIGHBOUR: 'it returns false'. Refute it at one input. -/
def fnExactRecoverAtWrong : ChangeSpec := { name := "fnExactRecoverAt", fn := fun _ => fun
  | [d1, d2, d3] => { results := [.lit (.bool false)], args := [d1, d2, d3] }
  | _ => none }
def FnExactRecoverAtWrongFalsely : Prop := fnExactRecoverAtRow.holds Tryz.pinned (OpenSpec.ofChange fnExactRecoverAtWrong)

/-- 'laws.FnExactSubmitTo': WHATEVER THE INPUT: true; the input reads as it did. -/
def fnExactSubmitToSpec : ChangeSpec := { name := "fnExactSubmitTo", fn := fun _ => fun
  | [d1, d2] => { results := [.lit (.bool true)], args := [d1, d2] }
  | _ => none }
def fnExactSubmitToRow : OpenClaim := { program := "ytgpamlpecmldfaagreat", sum := "f6ee7c7eef593198475082f65d9cf80ce42e00b071b76f903b6f098cd0dc8e9a", func := "loop.example/g00698/laws.FnExactSubmitTo", spec := "fnExactSubmitTo", inPlace := ["slices.overlaps[loop.example/g00698/impl.Lead]"], unfollowed := true, recurses := true, apart := false }
def FnExactSubmitToSaid : Prop := fnExactSubmitToRow.holds Tryz.pinned (OpenSpec.ofChange fnExactSubmitToSpec)

/-- ITS FALSE NEIGHBOUR: 'it returns false'. Refute it at one input. -/
def fnExactSubmitToWrong : ChangeSpec := { name := "fnExactSubmitTo", fn := fun _ => fun
  | [d1, d2] => { results := [.lit (.bool false)], args := [d1, d2] }
  | _ => none }
def FnExactSubmitToWrongFalsely : Prop := fnExactSubmitToRow.holds Tryz.pinned (OpenSpec.ofChange fnExactSubmitToWrong)

/-- 'laws.FnExactTakeMsg': WHATEVER THE INPUT: true; the input reads as it did. -/
def fnExactTakeMsgSpec : ChangeSpec := { name := "fnExactTakeMsg", fn := fun _ => fun
  | [d1, d2] => { results := [.lit (.bool true)], args := [d1, d2] }
  | _ => none }
def fnExactTakeMsgRow : OpenClaim := { program := "ytgpamlpecmldfaagreat", sum := "f6ee7c7eef593198475082f65d9cf80ce42e00b071b76f903b6f098cd0dc8e9a", func := "loop.example/g00698/laws.FnExactTakeMsg", spec := "fnExactTakeMsg", inPlace := ["slices.overlaps[int]", "slices.overlaps[loop.example/g00698/impl.Lead]"], unfollowed := true, recurses := true, apart := false }
def FnExactTakeMsgSaid : Prop := fnExactTakeMsgRow.holds Tryz.pinned (OpenSpec.ofChange fnExactTakeMsgSpec)

/-- ITS FALSE NEIGHBOUR: 'it returns false'. Refute it at one input. -/
def fnExactTakeMsgWrong : ChangeSpec := { name := "fnExactTakeMsg", fn := fun _ => fun
  | [d1, d2] => { results := [.lit (.bool false)], args := [d1, d2] }
  | _ => none }
def FnExactTakeMsgWrongFalsely : Prop := fnExactTakeMsgRow.holds Tryz.pinned (OpenSpec.ofChange fnExactTakeMsgWrong)

/-- 'laws.FnLeads': WHATEVER THE INPUT: true; the input reads as it did. -/
def fnLeadsSpec : ChangeSpec := { name := "fnLeads", fn := fun _ => fun
  | [d1, d2] => { results := [.lit (.bool true)], args := [d1, d2] }
  | _ => none }
def fnLeadsRow : OpenClaim := { program := "ytgpamlpecmldfaagreat", sum := "f6ee7c7eef593198475082f65d9cf80ce42e00b071b76f903b6f098cd0dc8e9a", func := "loop.example/g00698/laws.FnLeads", spec := "fnLeads", inPlace := ["slices.overlaps[loop.example/g00698/impl.Lead]"], unfollowed := true, recurses := true, apart := false }
def FnLeadsSaid : Prop := fnLeadsRow.holds Tryz.pinned (OpenSpec.ofChange fnLeadsSpec)

/-- ITS FALSE NEIGHBOUR: 'it returns false'. Refute it at one input. -/
def fnLeadsWrong : ChangeSpec := { name := "fnLeads", fn := fun _ => fun
  | [d1, d2] => { results := [.lit (.bool false)], args := [d1, d2] }
  | _ => none }
def FnLeadsWrongFalsely : Prop := fnLeadsRow.holds Tryz.pinned (OpenSpec.ofChange fnLeadsWrong)

/-- 'laws.FnTake': WHATEVER THE INPUT: true; the input reads as it did. -/
def fnTakeSpec : ChangeSpec := { name := "fnTake", fn := fun _ => fun
  | [d1, d2] => { results := [.lit (.bool true)], args := [d1, d2] }
  | _ => none }
def fnTakeRow : OpenClaim := { program := "ytgpamlpecmldfaagreat", sum := "f6ee7c7eef593198475082f65d9cf80ce42e00b071b76f903b6f098cd0dc8e9a", func := "loop.example/g00698/laws.FnTake", spec := "fnTake", inPlace := ["slices.overlaps[int]", "slices.overlaps[loop.example/g00698/impl.Lead]"], unfollowed := true, recurses := true, apart := false }
def FnTakeSaid : Prop := fnTakeRow.holds Tryz.pinned (OpenSpec.ofChange fnTakeSpec)

/-- ITS FALSE NEIGHBOUR: 'it returns false'. Refute it at one input. -/
def fnTakeWrong : ChangeSpec := { name := "fnTake", fn := fun _ => fun
  | [d1, d2] => { results := [.lit (.bool false)], args := [d1, d2] }
  | _ => none }
def FnTakeWrongFalsely : Prop := fnTakeRow.holds Tryz.pinned (OpenSpec.ofChange fnTakeWrong)

/- THE SECOND FORM. 'bulk': how many values and letters a reading holds, each counted each time it is reached (what is shared counts as often as it is met; a slice's spare places count too). A statement '..UptoSaid' is the law's where the arguments, and the package variables that the reading takes, are together of bulk at most 1048576: NARROWER than '..Said'. Prove '..Said' where nothing that the law and all that it calls make is longer than what came in: it says more and counts as full. Else prove '..UptoSaid'. A law counts once. -/
mutual
def uptoBulk {H : Type} : DataW H → Nat
  | .lit (.string bytes) => bytes.length + 1
  | .lit _ => 1
  | .nil => 1
  | .ptr d => uptoBulk d + 1
  | .slice elems spare => uptoBulkAll elems + uptoBulkAll spare + 1
  | .agg parts => uptoBulkAll parts + 1
  | .iface _ d => uptoBulk d + 1
  | .map entries => uptoBulkEntries entries + 1
  | .held _ => 1
def uptoBulkAll {H : Type} : List (DataW H) → Nat
  | [] => 0
  | d :: r => uptoBulk d + uptoBulkAll r
def uptoBulkEntries {H : Type} : List (Lit × DataW H) → Nat
  | [] => 0
  | x :: r => uptoBulkEntry x + uptoBulkEntries r
def uptoBulkEntry {H : Type} : Lit × DataW H → Nat
  | (.string bytes, d) => bytes.length + uptoBulk d + 1
  | (_, d) => uptoBulk d + 1
 end
def uptoSmall : (H : Type) → List (DataW H) → Bool := fun _ ds => decide (uptoBulkAll ds ≤ 1048576)
def OpenSpec.upto (s : _root_.Go.ChangeSpec) : _root_.Go.OpenSpec := { _root_.Go.OpenSpec.ofChange s with cond := some uptoSmall }

/-- 'laws.FnExactHurryAt', WHERE WHAT IT READS IS OF BULK AT MOST 1048576: true; the input reads as it did. -/
def fnExactHurryAtUptoRow : OpenClaim := { program := "ytgpamlpecmldfaagreat", sum := "f6ee7c7eef593198475082f65d9cf80ce42e00b071b76f903b6f098cd0dc8e9a", func := "loop.example/g00698/laws.FnExactHurryAt", spec := "fnExactHurryAt", inPlace := ["slices.overlaps[loop.example/g00698/impl.Lead]"], unfollowed := true, recurses := true, apart := false, narrowed := true }
def FnExactHurryAtUptoSaid : Prop := fnExactHurryAtUptoRow.holds Tryz.pinned (OpenSpec.upto fnExactHurryAtSpec)

/-- 'laws.FnExactRecoverAt', WHERE WHAT IT READS IS OF BULK AT MOST 1048576: true; the input reads as it did. -/
def fnExactRecoverAtUptoRow : OpenClaim := { program := "ytgpamlpecmldfaagreat", sum := "f6ee7c7eef593198475082f65d9cf80ce42e00b071b76f903b6f098cd0dc8e9a", func := "loop.example/g00698/laws.FnExactRecoverAt", spec := "fnExactRecoverAt", inPlace := ["slices.overlaps[loop.example/g00698/impl.Lead]"], unfollowed := true, recurses := true, apart := false, narrowed := true }
def FnExactRecoverAtUptoSaid : Prop := fnExactRecoverAtUptoRow.holds Tryz.pinned (OpenSpec.upto fnExactRecoverAtSpec)

/-- 'laws.FnExactSubmitTo', WHERE WHAT IT READS IS OF BULK AT MOST 1048576: true; the input reads as it did. -/
def fnExactSubmitToUptoRow : OpenClaim := { program := "ytgpamlpecmldfaagreat", sum := "f6ee7c7eef593198475082f65d9cf80ce42e00b071b76f903b6f098cd0dc8e9a", func := "loop.example/g00698/laws.FnExactSubmitTo", spec := "fnExactSubmitTo", inPlace := ["slices.overlaps[loop.example/g00698/impl.Lead]"], unfollowed := true, recurses := true, apart := false, narrowed := true }
def FnExactSubmitToUptoSaid : Prop := fnExactSubmitToUptoRow.holds Tryz.pinned (OpenSpec.upto fnExactSubmitToSpec)

/-- 'laws.FnExactTakeMsg', WHERE WHAT IT READS IS OF BULK AT MOST 1048576: true; the input reads as it did. -/
def fnExactTakeMsgUptoRow : OpenClaim := { program := "ytgpamlpecmldfaagreat", sum := "f6ee7c7eef593198475082f65d9cf80ce42e00b071b76f903b6f098cd0dc8e9a", func := "loop.example/g00698/laws.FnExactTakeMsg", spec := "fnExactTakeMsg", inPlace := ["slices.overlaps[int]", "slices.overlaps[loop.example/g00698/impl.Lead]"], unfollowed := true, recurses := true, apart := false, narrowed := true }
def FnExactTakeMsgUptoSaid : Prop := fnExactTakeMsgUptoRow.holds Tryz.pinned (OpenSpec.upto fnExactTakeMsgSpec)

/-- 'laws.FnLeads', WHERE WHAT IT READS IS OF BULK AT MOST 1048576: true; the input reads as it did. -/
def fnLeadsUptoRow : OpenClaim := { program := "ytgpamlpecmldfaagreat", sum := "f6ee7c7eef593198475082f65d9cf80ce42e00b071b76f903b6f098cd0dc8e9a", func := "loop.example/g00698/laws.FnLeads", spec := "fnLeads", inPlace := ["slices.overlaps[loop.example/g00698/impl.Lead]"], unfollowed := true, recurses := true, apart := false, narrowed := true }
def FnLeadsUptoSaid : Prop := fnLeadsUptoRow.holds Tryz.pinned (OpenSpec.upto fnLeadsSpec)

/-- 'laws.FnTake', WHERE WHAT IT READS IS OF BULK AT MOST 1048576: true; the input reads as it did. -/
def fnTakeUptoRow : OpenClaim := { program := "ytgpamlpecmldfaagreat", sum := "f6ee7c7eef593198475082f65d9cf80ce42e00b071b76f903b6f098cd0dc8e9a", func := "loop.example/g00698/laws.FnTake", spec := "fnTake", inPlace := ["slices.overlaps[int]", "slices.overlaps[loop.example/g00698/impl.Lead]"], unfollowed := true, recurses := true, apart := false, narrowed := true }
def FnTakeUptoSaid : Prop := fnTakeUptoRow.holds Tryz.pinned (OpenSpec.upto fnTakeSpec)

end Rows
end Go.Proofs.YtgpamlpecmldfaaGreat
