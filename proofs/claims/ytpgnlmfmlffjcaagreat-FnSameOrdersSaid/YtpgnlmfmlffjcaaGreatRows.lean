/-
  No cell of these rows narrows 'for every input' (looked for: loops, veiled, ifaces, maps, wideKeys, modest, calm, conditions, laid).
  DERIVED. THE GIVEN ROWS OF THIS SEAT. 7 by the template 'for every input the law returns true; each argument reads behind the call as it read before'; 0 by the template 'total and deterministic' (their statements: YtpgnlmfmlffjcaaGreatTotals.lean).
  GIVEN WITH THE SEED: the statements are not yours to turn. If you find one false, say at which input.
  Laid BY PROGRAM, IN A SANDBOX (cutbox-rows.mjs): the forced cells as the released guide's own fill.sh prints them over the translation 4772d9938a2907ec… (all of the seat's roots in one cut). By AI agents, Wed Nov 11 2026. No macro, syntax, notation, axiom, sorry.
-/
import Derived.Test.YtpgnlmfmlffjcaaGreatChecked
import GoSem.Claim
import GoSem.ClaimJoined
import GoSem.ClaimMapViews
import Derived.JoinedTies
import Derived.KernelRfl
namespace Go.Proofs.YtpgnlmfmlffjcaaGreat
/- THE CELL 'sum', in the pinned program and in every row, IS THE sha256 OF THE DUMP (.gsa) THAT YtpgnlmfmlffjcaaGreatProg.lean LOADS. Nothing in Lean hashes anything: it is a label: what it is worth is what the hold of that sum in a sandbox is worth. -/
noncomputable def Tryz.pinned : Pinned := { name := "ytpgnlmfmlffjcaagreat", sum := "4772d9938a2907ec23ba4c0ab3c2049d9a5d5081c43d3fcfe953cc53ffbfd339", checked := Tryz.checked }
namespace Rows
def none {H : Type} : Left H := { results := [], args := [] }

/-- 'laws.FnExactBlockersOf': WHATEVER THE INPUT: true; the input reads as it did. -/
def fnExactBlockersOfSpec : ChangeSpec := { name := "fnExactBlockersOf", fn := fun _ => fun
  | [d1, d2, d3] => { results := [.lit (.bool true)], args := [d1, d2, d3] }
  | _ => none }
def fnExactBlockersOfRow : OpenClaim := { program := "ytpgnlmfmlffjcaagreat", sum := "4772d9938a2907ec23ba4c0ab3c2049d9a5d5081c43d3fcfe953cc53ffbfd339", func := "loop.example/g00698/laws.FnExactBlockersOf", spec := "fnExactBlockersOf", unfollowed := true, recurses := true, apart := false }
def FnExactBlockersOfSaid : Prop := fnExactBlockersOfRow.holds Tryz.pinned (OpenSpec.ofChange fnExactBlockersOfSpec)

/-- ITS FALSE NEIGHBOUR: 'it returns false'. Refute it at one input. -/
def fnExactBlockersOfWrong : ChangeSpec := { name := "fnExactBlockersOf", fn := fun _ => fun
  | [d1, d2, d3] => { results := [.lit (.bool false)], args := [d1, d2, d3] }
  | _ => none }
def FnExactBlockersOfWrongFalsely : Prop := fnExactBlockersOfRow.holds Tryz.pinned (OpenSpec.ofChange fnExactBlockersOfWrong)

/-- 'laws.FnExactReadyIn': WHATEVER THE INPUT: true; the input reads as it did. -/
def fnExactReadyInSpec : ChangeSpec := { name := "fnExactReadyIn", fn := fun _ => fun
  | [d] => { results := [.lit (.bool true)], args := [d] }
  | _ => none }
def fnExactReadyInRow : OpenClaim := { program := "ytpgnlmfmlffjcaagreat", sum := "4772d9938a2907ec23ba4c0ab3c2049d9a5d5081c43d3fcfe953cc53ffbfd339", func := "loop.example/g00698/laws.FnExactReadyIn", spec := "fnExactReadyIn", unfollowed := true, recurses := true, apart := false }
def FnExactReadyInSaid : Prop := fnExactReadyInRow.holds Tryz.pinned (OpenSpec.ofChange fnExactReadyInSpec)

/-- ITS FALSE NEIGHBOUR: 'it returns false'. Refute it at one input. -/
def fnExactReadyInWrong : ChangeSpec := { name := "fnExactReadyIn", fn := fun _ => fun
  | [d] => { results := [.lit (.bool false)], args := [d] }
  | _ => none }
def FnExactReadyInWrongFalsely : Prop := fnExactReadyInRow.holds Tryz.pinned (OpenSpec.ofChange fnExactReadyInWrong)

/-- 'laws.FnExactOrderIn': WHATEVER THE INPUT: true; the input reads as it did. -/
def fnExactOrderInSpec : ChangeSpec := { name := "fnExactOrderIn", fn := fun _ => fun
  | [d] => { results := [.lit (.bool true)], args := [d] }
  | _ => none }
def fnExactOrderInRow : OpenClaim := { program := "ytpgnlmfmlffjcaagreat", sum := "4772d9938a2907ec23ba4c0ab3c2049d9a5d5081c43d3fcfe953cc53ffbfd339", func := "loop.example/g00698/laws.FnExactOrderIn", spec := "fnExactOrderIn", unfollowed := true, recurses := true, apart := false }
def FnExactOrderInSaid : Prop := fnExactOrderInRow.holds Tryz.pinned (OpenSpec.ofChange fnExactOrderInSpec)

/-- ITS FALSE NEIGHBOUR: 'it returns false'. Refute it at one input. -/
def fnExactOrderInWrong : ChangeSpec := { name := "fnExactOrderIn", fn := fun _ => fun
  | [d] => { results := [.lit (.bool false)], args := [d] }
  | _ => none }
def FnExactOrderInWrongFalsely : Prop := fnExactOrderInRow.holds Tryz.pinned (OpenSpec.ofChange fnExactOrderInWrong)

/-- 'laws.FnReady': WHATEVER THE INPUT: true; the input reads as it did. -/
def fnReadySpec : ChangeSpec := { name := "fnReady", fn := fun _ => fun
  | [d1, d2] => { results := [.lit (.bool true)], args := [d1, d2] }
  | _ => none }
def fnReadyRow : OpenClaim := { program := "ytpgnlmfmlffjcaagreat", sum := "4772d9938a2907ec23ba4c0ab3c2049d9a5d5081c43d3fcfe953cc53ffbfd339", func := "loop.example/g00698/laws.FnReady", spec := "fnReady", unfollowed := true, recurses := true, apart := false }
def FnReadySaid : Prop := fnReadyRow.holds Tryz.pinned (OpenSpec.ofChange fnReadySpec)

/-- ITS FALSE NEIGHBOUR: 'it returns false'. Refute it at one input. -/
def fnReadyWrong : ChangeSpec := { name := "fnReady", fn := fun _ => fun
  | [d1, d2] => { results := [.lit (.bool false)], args := [d1, d2] }
  | _ => none }
def FnReadyWrongFalsely : Prop := fnReadyRow.holds Tryz.pinned (OpenSpec.ofChange fnReadyWrong)

/-- 'laws.FnSameOrders': WHATEVER THE INPUT: true; the input reads as it did. -/
def fnSameOrdersSpec : ChangeSpec := { name := "fnSameOrders", fn := fun _ => fun
  | [d1, d2] => { results := [.lit (.bool true)], args := [d1, d2] }
  | _ => none }
def fnSameOrdersRow : OpenClaim := { program := "ytpgnlmfmlffjcaagreat", sum := "4772d9938a2907ec23ba4c0ab3c2049d9a5d5081c43d3fcfe953cc53ffbfd339", func := "loop.example/g00698/laws.FnSameOrders", spec := "fnSameOrders", unfollowed := true, recurses := true, apart := false }
def FnSameOrdersSaid : Prop := fnSameOrdersRow.holds Tryz.pinned (OpenSpec.ofChange fnSameOrdersSpec)

/-- ITS FALSE NEIGHBOUR: 'it returns false'. Refute it at one input. -/
def fnSameOrdersWrong : ChangeSpec := { name := "fnSameOrders", fn := fun _ => fun
  | [d1, d2] => { results := [.lit (.bool false)], args := [d1, d2] }
  | _ => none }
def FnSameOrdersWrongFalsely : Prop := fnSameOrdersRow.holds Tryz.pinned (OpenSpec.ofChange fnSameOrdersWrong)

/-- 'laws.FnExactToldOf': WHATEVER THE INPUT: true; the input reads as it did. -/
def fnExactToldOfSpec : ChangeSpec := { name := "fnExactToldOf", fn := fun _ => fun
  | [d1, d2, d3] => { results := [.lit (.bool true)], args := [d1, d2, d3] }
  | _ => none }
def fnExactToldOfRow : OpenClaim := { program := "ytpgnlmfmlffjcaagreat", sum := "4772d9938a2907ec23ba4c0ab3c2049d9a5d5081c43d3fcfe953cc53ffbfd339", func := "loop.example/g00698/laws.FnExactToldOf", spec := "fnExactToldOf", unfollowed := true, recurses := true, apart := false }
def FnExactToldOfSaid : Prop := fnExactToldOfRow.holds Tryz.pinned (OpenSpec.ofChange fnExactToldOfSpec)

/-- ITS FALSE NEIGHBOUR: 'it returns false'. Refute it at one input. -/
def fnExactToldOfWrong : ChangeSpec := { name := "fnExactToldOf", fn := fun _ => fun
  | [d1, d2, d3] => { results := [.lit (.bool false)], args := [d1, d2, d3] }
  | _ => none }
def FnExactToldOfWrongFalsely : Prop := fnExactToldOfRow.holds Tryz.pinned (OpenSpec.ofChange fnExactToldOfWrong)

/-- 'laws.FnExactBookOf': WHATEVER THE INPUT: true; the input reads as it did. -/
def fnExactBookOfSpec : ChangeSpec := { name := "fnExactBookOf", fn := fun _ => fun
  | [d] => { results := [.lit (.bool true)], args := [d] }
  | _ => none }
def fnExactBookOfRow : OpenClaim := { program := "ytpgnlmfmlffjcaagreat", sum := "4772d9938a2907ec23ba4c0ab3c2049d9a5d5081c43d3fcfe953cc53ffbfd339", func := "loop.example/g00698/laws.FnExactBookOf", spec := "fnExactBookOf", unfollowed := true, recurses := true, apart := false }
def FnExactBookOfSaid : Prop := fnExactBookOfRow.holds Tryz.pinned (OpenSpec.ofChange fnExactBookOfSpec)

/-- ITS FALSE NEIGHBOUR: 'it returns false'. Refute it at one input. -/
def fnExactBookOfWrong : ChangeSpec := { name := "fnExactBookOf", fn := fun _ => fun
  | [d] => { results := [.lit (.bool false)], args := [d] }
  | _ => none }
def FnExactBookOfWrongFalsely : Prop := fnExactBookOfRow.holds Tryz.pinned (OpenSpec.ofChange fnExactBookOfWrong)

/- THE SECOND FORM. 'bulk': how many values and letters a reading holds, each counted each time it is reached (what is shared counts as often as it is met; a slice's spare places count too). A statement '..UptoSaid' is the law's where the arguments, and the package variables that the reading takes, are together of bulk at most 1048576: NARROWER than '..Said'. Prove '..Said' where nothing that the law and all that it calls make is longer than what came in: it says more and counts as full. Else prove '..UptoSaid'. A law counts once. -/
mutual
def uptoBulk {H : Type} : DataW H → Nat
  | .lit (.string bytes) => bytes.length + 1
  | .lit _ => 1
  | .nil => 1
  | .ptr d => uptoBulk d + 1
  | .slice elems spare => uptoBulkAll elems + uptoBulkAll spare + 1
  | .agg parts => uptoBulkAll parts + 1
  | .iface _ d => uptoBulk d + 1
  | .map entries => uptoBulkEntries entries + 1
  | .held _ => 1
def uptoBulkAll {H : Type} : List (DataW H) → Nat
  | [] => 0
  | d :: r => uptoBulk d + uptoBulkAll r
def uptoBulkEntries {H : Type} : List (Lit × DataW H) → Nat
  | [] => 0
  | x :: r => uptoBulkEntry x + uptoBulkEntries r
def uptoBulkEntry {H : Type} : Lit × DataW H → Nat
  | (.string bytes, d) => bytes.length + uptoBulk d + 1
  | (_, d) => uptoBulk d + 1
 end
def uptoSmall : (H : Type) → List (DataW H) → Bool := fun _ ds => decide (uptoBulkAll ds ≤ 1048576)
def OpenSpec.upto (s : _root_.Go.ChangeSpec) : _root_.Go.OpenSpec := { _root_.Go.OpenSpec.ofChange s with cond := some uptoSmall }

/-- 'laws.FnExactBlockersOf', WHERE WHAT IT READS IS OF BULK AT MOST 1048576: true; the input reads as it did. -/
def fnExactBlockersOfUptoRow : OpenClaim := { program := "ytpgnlmfmlffjcaagreat", sum := "4772d9938a2907ec23ba4c0ab3c2049d9a5d5081c43d3fcfe953cc53ffbfd339", func := "loop.example/g00698/laws.FnExactBlockersOf", spec := "fnExactBlockersOf", unfollowed := true, recurses := true, apart := false, narrowed := true }
def FnExactBlockersOfUptoSaid : Prop := fnExactBlockersOfUptoRow.holds Tryz.pinned (OpenSpec.upto fnExactBlockersOfSpec)

/-- 'laws.FnExactReadyIn', WHERE WHAT IT READS IS OF BULK AT MOST 1048576: true; the input reads as it did. -/
def fnExactReadyInUptoRow : OpenClaim := { program := "ytpgnlmfmlffjcaagreat", sum := "4772d9938a2907ec23ba4c0ab3c2049d9a5d5081c43d3fcfe953cc53ffbfd339", func := "loop.example/g00698/laws.FnExactReadyIn", spec := "fnExactReadyIn", unfollowed := true, recurses := true, apart := false, narrowed := true }
def FnExactReadyInUptoSaid : Prop := fnExactReadyInUptoRow.holds Tryz.pinned (OpenSpec.upto fnExactReadyInSpec)

/-- 'laws.FnExactOrderIn', WHERE WHAT IT READS IS OF BULK AT MOST 1048576: true; the input reads as it did. -/
def fnExactOrderInUptoRow : OpenClaim := { program := "ytpgnlmfmlffjcaagreat", sum := "4772d9938a2907ec23ba4c0ab3c2049d9a5d5081c43d3fcfe953cc53ffbfd339", func := "loop.example/g00698/laws.FnExactOrderIn", spec := "fnExactOrderIn", unfollowed := true, recurses := true, apart := false, narrowed := true }
def FnExactOrderInUptoSaid : Prop := fnExactOrderInUptoRow.holds Tryz.pinned (OpenSpec.upto fnExactOrderInSpec)

/-- 'laws.FnReady', WHERE WHAT IT READS IS OF BULK AT MOST 1048576: true; the input reads as it did. -/
def fnReadyUptoRow : OpenClaim := { program := "ytpgnlmfmlffjcaagreat", sum := "4772d9938a2907ec23ba4c0ab3c2049d9a5d5081c43d3fcfe953cc53ffbfd339", func := "loop.example/g00698/laws.FnReady", spec := "fnReady", unfollowed := true, recurses := true, apart := false, narrowed := true }
def FnReadyUptoSaid : Prop := fnReadyUptoRow.holds Tryz.pinned (OpenSpec.upto fnReadySpec)

/-- 'laws.FnSameOrders', WHERE WHAT IT READS IS OF BULK AT MOST 1048576: true; the input reads as it did. -/
def fnSameOrdersUptoRow : OpenClaim := { program := "ytpgnlmfmlffjcaagreat", sum := "4772d9938a2907ec23ba4c0ab3c2049d9a5d5081c43d3fcfe953cc53ffbfd339", func := "loop.example/g00698/laws.FnSameOrders", spec := "fnSameOrders", unfollowed := true, recurses := true, apart := false, narrowed := true }
def FnSameOrdersUptoSaid : Prop := fnSameOrdersUptoRow.holds Tryz.pinned (OpenSpec.upto fnSameOrdersSpec)

/-- 'laws.FnExactToldOf', WHERE WHAT IT READS IS OF BULK AT MOST 1048576: true; the input reads as it did. -/
def fnExactToldOfUptoRow : OpenClaim := { program := "ytpgnlmfmlffjcaagreat", sum := "4772d9938a2907ec23ba4c0ab3c2049d9a5d5081c43d3fcfe953cc53ffbfd339", func := "loop.example/g00698/laws.FnExactToldOf", spec := "fnExactToldOf", unfollowed := true, recurses := true, apart := false, narrowed := true }
def FnExactToldOfUptoSaid : Prop := fnExactToldOfUptoRow.holds Tryz.pinned (OpenSpec.upto fnExactToldOfSpec)

/-- 'laws.FnExactBookOf', WHERE WHAT IT READS IS OF BULK AT MOST 1048576: true; the input reads as it did. -/
def fnExactBookOfUptoRow : OpenClaim := { program := "ytpgnlmfmlffjcaagreat", sum := "4772d9938a2907ec23ba4c0ab3c2049d9a5d5081c43d3fcfe953cc53ffbfd339", func := "loop.example/g00698/laws.FnExactBookOf", spec := "fnExactBookOf", unfollowed := true, recurses := true, apart := false, narrowed := true }
def FnExactBookOfUptoSaid : Prop := fnExactBookOfUptoRow.holds Tryz.pinned (OpenSpec.upto fnExactBookOfSpec)

end Rows
end Go.Proofs.YtpgnlmfmlffjcaaGreat
