/-
  No cell of these rows narrows 'for every input' (looked for: loops, veiled, ifaces, maps, wideKeys, modest, calm, conditions, laid).
  DERIVED. THE GIVEN ROWS OF THIS SEAT. 6 by the template 'for every input the law returns true; each argument reads behind the call as it read before'; 0 by the template 'total and deterministic' (their statements: YtmpakpgonfnadaaGreatTotals.lean).
  GIVEN WITH THE SEED: the statements are not yours to turn. If you find one false, say at which input.
  Laid BY PROGRAM, IN A SANDBOX (cutbox-rows.mjs): the forced cells as the released guide's own fill.sh prints them over the translation 6a2d277d8d114cb5… (all of the seat's roots in one cut). By AI agents, Wed Nov 11 2026. No macro, syntax, notation, axiom, sorry.
-/
import Derived.Test.YtmpakpgonfnadaaGreatChecked
import GoSem.Claim
import GoSem.ClaimJoined
import GoSem.ClaimMapViews
import Derived.JoinedTies
import Derived.KernelRfl
namespace Go.Proofs.YtmpakpgonfnadaaGreat
/- THE CELL 'sum', in the pinned program and in every row, IS THE sha256 OF THE DUMP (.gsa) THAT YtmpakpgonfnadaaGreatProg.lean LOADS. Nothing in Lean hashes anything: it is a label: what it is worth is what the hold of that sum in a sandbox is worth. -/
noncomputable def Tryz.pinned : Pinned := { name := "ytmpakpgonfnadaagreat", sum := "6a2d277d8d114cb5d1189d6a47e49fbfea67a6838929adb76f674d0de5de4e17", checked := Tryz.checked }
namespace Rows
def none {H : Type} : Left H := { results := [], args := [] }

/-- 'laws.FnExactGoodNet': WHATEVER THE INPUT: true; the input reads as it did. -/
def fnExactGoodNetSpec : ChangeSpec := { name := "fnExactGoodNet", fn := fun _ => fun
  | [d] => { results := [.lit (.bool true)], args := [d] }
  | _ => none }
def fnExactGoodNetRow : OpenClaim := { program := "ytmpakpgonfnadaagreat", sum := "6a2d277d8d114cb5d1189d6a47e49fbfea67a6838929adb76f674d0de5de4e17", func := "loop.example/g00698/laws.FnExactGoodNet", spec := "fnExactGoodNet", unfollowed := true, recurses := true, apart := false }
def FnExactGoodNetSaid : Prop := fnExactGoodNetRow.holds Tryz.pinned (OpenSpec.ofChange fnExactGoodNetSpec)

/-- ITS FALSE NEIGHBOUR: 'it returns false'. Refute it at one input. -/
def fnExactGoodNetWrong : ChangeSpec := { name := "fnExactGoodNet", fn := fun _ => fun
  | [d] => { results := [.lit (.bool false)], args := [d] }
  | _ => none }
def FnExactGoodNetWrongFalsely : Prop := fnExactGoodNetRow.holds Tryz.pinned (OpenSpec.ofChange fnExactGoodNetWrong)

/-- 'laws.FnExactAskedFor': WHATEVER THE INPUT: true; the input reads as it did. -/
def fnExactAskedForSpec : ChangeSpec := { name := "fnExactAskedFor", fn := fun _ => fun
  | [d] => { results := [.lit (.bool true)], args := [d] }
  | _ => none }
def fnExactAskedForRow : OpenClaim := { program := "ytmpakpgonfnadaagreat", sum := "6a2d277d8d114cb5d1189d6a47e49fbfea67a6838929adb76f674d0de5de4e17", func := "loop.example/g00698/laws.FnExactAskedFor", spec := "fnExactAskedFor", unfollowed := true, recurses := true, apart := false }
def FnExactAskedForSaid : Prop := fnExactAskedForRow.holds Tryz.pinned (OpenSpec.ofChange fnExactAskedForSpec)

/-- ITS FALSE NEIGHBOUR: 'it returns false'. Refute it at one input. -/
def fnExactAskedForWrong : ChangeSpec := { name := "fnExactAskedFor", fn := fun _ => fun
  | [d] => { results := [.lit (.bool false)], args := [d] }
  | _ => none }
def FnExactAskedForWrongFalsely : Prop := fnExactAskedForRow.holds Tryz.pinned (OpenSpec.ofChange fnExactAskedForWrong)

/-- 'laws.FnExactAgreeIn': WHATEVER THE INPUT: true; the input reads as it did. -/
def fnExactAgreeInSpec : ChangeSpec := { name := "fnExactAgreeIn", fn := fun _ => fun
  | [d] => { results := [.lit (.bool true)], args := [d] }
  | _ => none }
def fnExactAgreeInRow : OpenClaim := { program := "ytmpakpgonfnadaagreat", sum := "6a2d277d8d114cb5d1189d6a47e49fbfea67a6838929adb76f674d0de5de4e17", func := "loop.example/g00698/laws.FnExactAgreeIn", spec := "fnExactAgreeIn", unfollowed := true, recurses := true, apart := false }
def FnExactAgreeInSaid : Prop := fnExactAgreeInRow.holds Tryz.pinned (OpenSpec.ofChange fnExactAgreeInSpec)

/-- ITS FALSE NEIGHBOUR: 'it returns false'. Refute it at one input. -/
def fnExactAgreeInWrong : ChangeSpec := { name := "fnExactAgreeIn", fn := fun _ => fun
  | [d] => { results := [.lit (.bool false)], args := [d] }
  | _ => none }
def FnExactAgreeInWrongFalsely : Prop := fnExactAgreeInRow.holds Tryz.pinned (OpenSpec.ofChange fnExactAgreeInWrong)

/-- 'laws.FnExactCrashOf': WHATEVER THE INPUT: true; the input reads as it did. -/
def fnExactCrashOfSpec : ChangeSpec := { name := "fnExactCrashOf", fn := fun _ => fun
  | [d] => { results := [.lit (.bool true)], args := [d] }
  | _ => none }
def fnExactCrashOfRow : OpenClaim := { program := "ytmpakpgonfnadaagreat", sum := "6a2d277d8d114cb5d1189d6a47e49fbfea67a6838929adb76f674d0de5de4e17", func := "loop.example/g00698/laws.FnExactCrashOf", spec := "fnExactCrashOf", unfollowed := true, recurses := true, apart := false }
def FnExactCrashOfSaid : Prop := fnExactCrashOfRow.holds Tryz.pinned (OpenSpec.ofChange fnExactCrashOfSpec)

/-- ITS FALSE NEIGHBOUR: 'it returns false'. Refute it at one input. -/
def fnExactCrashOfWrong : ChangeSpec := { name := "fnExactCrashOf", fn := fun _ => fun
  | [d] => { results := [.lit (.bool false)], args := [d] }
  | _ => none }
def FnExactCrashOfWrongFalsely : Prop := fnExactCrashOfRow.holds Tryz.pinned (OpenSpec.ofChange fnExactCrashOfWrong)

/-- 'laws.FnExactBagFor': WHATEVER THE INPUT: true; the input reads as it did. -/
def fnExactBagForSpec : ChangeSpec := { name := "fnExactBagFor", fn := fun _ => fun
  | [d1, d2] => { results := [.lit (.bool true)], args := [d1, d2] }
  | _ => none }
def fnExactBagForRow : OpenClaim := { program := "ytmpakpgonfnadaagreat", sum := "6a2d277d8d114cb5d1189d6a47e49fbfea67a6838929adb76f674d0de5de4e17", func := "loop.example/g00698/laws.FnExactBagFor", spec := "fnExactBagFor", unfollowed := true, recurses := true, apart := false }
def FnExactBagForSaid : Prop := fnExactBagForRow.holds Tryz.pinned (OpenSpec.ofChange fnExactBagForSpec)

/-- ITS FALSE NEIGHBOUR: 'it returns false'. Refute it at one input. -/
def fnExactBagForWrong : ChangeSpec := { name := "fnExactBagFor", fn := fun _ => fun
  | [d1, d2] => { results := [.lit (.bool false)], args := [d1, d2] }
  | _ => none }
def FnExactBagForWrongFalsely : Prop := fnExactBagForRow.holds Tryz.pinned (OpenSpec.ofChange fnExactBagForWrong)

/-- 'laws.FnExactSettledOf': WHATEVER THE INPUT: true; the input reads as it did. -/
def fnExactSettledOfSpec : ChangeSpec := { name := "fnExactSettledOf", fn := fun _ => fun
  | [d] => { results := [.lit (.bool true)], args := [d] }
  | _ => none }
def fnExactSettledOfRow : OpenClaim := { program := "ytmpakpgonfnadaagreat", sum := "6a2d277d8d114cb5d1189d6a47e49fbfea67a6838929adb76f674d0de5de4e17", func := "loop.example/g00698/laws.FnExactSettledOf", spec := "fnExactSettledOf", unfollowed := true, recurses := true, apart := false }
def FnExactSettledOfSaid : Prop := fnExactSettledOfRow.holds Tryz.pinned (OpenSpec.ofChange fnExactSettledOfSpec)

/-- ITS FALSE NEIGHBOUR: 'it returns false'. Refute it at one input. -/
def fnExactSettledOfWrong : ChangeSpec := { name := "fnExactSettledOf", fn := fun _ => fun
  | [d] => { results := [.lit (.bool false)], args := [d] }
  | _ => none }
def FnExactSettledOfWrongFalsely : Prop := fnExactSettledOfRow.holds Tryz.pinned (OpenSpec.ofChange fnExactSettledOfWrong)

/- THE SECOND FORM. 'bulk': how many values and letters a reading holds, each counted each time it is reached (what is shared counts as often as it is met; a slice's spare places count too). A statement '..UptoSaid' is the law's where the arguments, and the package variables that the reading takes, are together of bulk at most 1048576: NARROWER than '..Said'. Prove '..Said' where nothing that the law and all that it calls make is longer than what came in: it says more and counts as full. Else prove '..UptoSaid'. A law counts once. -/
mutual
def uptoBulk {H : Type} : DataW H → Nat
  | .lit (.string bytes) => bytes.length + 1
  | .lit _ => 1
  | .nil => 1
  | .ptr d => uptoBulk d + 1
  | .slice elems spare => uptoBulkAll elems + uptoBulkAll spare + 1
  | .agg parts => uptoBulkAll parts + 1
  | .iface _ d => uptoBulk d + 1
  | .map entries => uptoBulkEntries entries + 1
  | .held _ => 1
def uptoBulkAll {H : Type} : List (DataW H) → Nat
  | [] => 0
  | d :: r => uptoBulk d + uptoBulkAll r
def uptoBulkEntries {H : Type} : List (Lit × DataW H) → Nat
  | [] => 0
  | x :: r => uptoBulkEntry x + uptoBulkEntries r
def uptoBulkEntry {H : Type} : Lit × DataW H → Nat
  | (.string bytes, d) => bytes.length + uptoBulk d + 1
  | (_, d) => uptoBulk d + 1
 end
def uptoSmall : (H : Type) → List (DataW H) → Bool := fun _ ds => decide (uptoBulkAll ds ≤ 1048576)
def OpenSpec.upto (s : _root_.Go.ChangeSpec) : _root_.Go.OpenSpec := { _root_.Go.OpenSpec.ofChange s with cond := some uptoSmall }

/-- 'laws.FnExactGoodNet', WHERE WHAT IT READS IS OF BULK AT MOST 1048576: true; the input reads as it did. -/
def fnExactGoodNetUptoRow : OpenClaim := { program := "ytmpakpgonfnadaagreat", sum := "6a2d277d8d114cb5d1189d6a47e49fbfea67a6838929adb76f674d0de5de4e17", func := "loop.example/g00698/laws.FnExactGoodNet", spec := "fnExactGoodNet", unfollowed := true, recurses := true, apart := false, narrowed := true }
def FnExactGoodNetUptoSaid : Prop := fnExactGoodNetUptoRow.holds Tryz.pinned (OpenSpec.upto fnExactGoodNetSpec)

/-- 'laws.FnExactAskedFor', WHERE WHAT IT READS IS OF BULK AT MOST 1048576: true; the input reads as it did. -/
def fnExactAskedForUptoRow : OpenClaim := { program := "ytmpakpgonfnadaagreat", sum := "6a2d277d8d114cb5d1189d6a47e49fbfea67a6838929adb76f674d0de5de4e17", func := "loop.example/g00698/laws.FnExactAskedFor", spec := "fnExactAskedFor", unfollowed := true, recurses := true, apart := false, narrowed := true }
def FnExactAskedForUptoSaid : Prop := fnExactAskedForUptoRow.holds Tryz.pinned (OpenSpec.upto fnExactAskedForSpec)

/-- 'laws.FnExactAgreeIn', WHERE WHAT IT READS IS OF BULK AT MOST 1048576: true; the input reads as it did. -/
def fnExactAgreeInUptoRow : OpenClaim := { program := "ytmpakpgonfnadaagreat", sum := "6a2d277d8d114cb5d1189d6a47e49fbfea67a6838929adb76f674d0de5de4e17", func := "loop.example/g00698/laws.FnExactAgreeIn", spec := "fnExactAgreeIn", unfollowed := true, recurses := true, apart := false, narrowed := true }
def FnExactAgreeInUptoSaid : Prop := fnExactAgreeInUptoRow.holds Tryz.pinned (OpenSpec.upto fnExactAgreeInSpec)

/-- 'laws.FnExactCrashOf', WHERE WHAT IT READS IS OF BULK AT MOST 1048576: true; the input reads as it did. -/
def fnExactCrashOfUptoRow : OpenClaim := { program := "ytmpakpgonfnadaagreat", sum := "6a2d277d8d114cb5d1189d6a47e49fbfea67a6838929adb76f674d0de5de4e17", func := "loop.example/g00698/laws.FnExactCrashOf", spec := "fnExactCrashOf", unfollowed := true, recurses := true, apart := false, narrowed := true }
def FnExactCrashOfUptoSaid : Prop := fnExactCrashOfUptoRow.holds Tryz.pinned (OpenSpec.upto fnExactCrashOfSpec)

/-- 'laws.FnExactBagFor', WHERE WHAT IT READS IS OF BULK AT MOST 1048576: true; the input reads as it did. -/
def fnExactBagForUptoRow : OpenClaim := { program := "ytmpakpgonfnadaagreat", sum := "6a2d277d8d114cb5d1189d6a47e49fbfea67a6838929adb76f674d0de5de4e17", func := "loop.example/g00698/laws.FnExactBagFor", spec := "fnExactBagFor", unfollowed := true, recurses := true, apart := false, narrowed := true }
def FnExactBagForUptoSaid : Prop := fnExactBagForUptoRow.holds Tryz.pinned (OpenSpec.upto fnExactBagForSpec)

/-- 'laws.FnExactSettledOf', WHERE WHAT IT READS IS OF BULK AT MOST 1048576: true; the input reads as it did. -/
def fnExactSettledOfUptoRow : OpenClaim := { program := "ytmpakpgonfnadaagreat", sum := "6a2d277d8d114cb5d1189d6a47e49fbfea67a6838929adb76f674d0de5de4e17", func := "loop.example/g00698/laws.FnExactSettledOf", spec := "fnExactSettledOf", unfollowed := true, recurses := true, apart := false, narrowed := true }
def FnExactSettledOfUptoSaid : Prop := fnExactSettledOfUptoRow.holds Tryz.pinned (OpenSpec.upto fnExactSettledOfSpec)

end Rows
end Go.Proofs.YtmpakpgonfnadaaGreat
