/-
  No cell of these rows narrows 'for every input' (looked for: loops, veiled, ifaces, maps, wideKeys, modest, calm, conditions, laid).
  DERIVED. THE GIVEN ROWS OF THIS SEAT. 6 by the template 'for every input the law returns true; each argument reads behind the call as it read before'; 0 by the template 'total and deterministic' (their statements: YtjoebpmeeampfaaTotals.lean).
  GIVEN WITH THE SEED: the statements are not yours to turn. If you find one false, say at which input.
  Laid BY PROGRAM, IN A SANDBOX (cutbox-rows.mjs): the forced cells as the released guide's own fill.sh prints them over the translation 7257eb5f5f538cf4… (all of the seat's roots in one cut). By AI agents, Wed Nov 11 2026. No macro, syntax, notation, axiom, sorry.
-/
import Derived.Test.YtjoebpmeeampfaaChecked
import GoSem.Claim
import GoSem.ClaimJoined
import GoSem.ClaimMapViews
import Derived.JoinedTies
import Derived.KernelRfl
namespace Go.Proofs.Ytjoebpmeeampfaa
/- THE CELL 'sum', in the pinned program and in every row, IS THE sha256 OF THE DUMP (.gsa) THAT YtjoebpmeeampfaaProg.lean LOADS. Nothing in Lean hashes anything: it is a label: what it is worth is what the hold of that sum in a sandbox is worth. -/
noncomputable def Try.pinned : Pinned := { name := "ytjoebpmeeampfaa", sum := "7257eb5f5f538cf481a3a5373281efac7d9bf6567155f6c0ce117c99ba01bb5b", checked := Try.checked }
namespace Rows
def none {H : Type} : Left H := { results := [], args := [] }

/-- 'laws.FnExactNewClerk': WHATEVER THE INPUT: true; the input reads as it did. -/
def fnExactNewClerkSpec : ChangeSpec := { name := "fnExactNewClerk", fn := fun _ => fun
  | [] => { results := [.lit (.bool true)], args := [] }
  | _ => none }
def fnExactNewClerkRow : OpenClaim := { program := "ytjoebpmeeampfaa", sum := "7257eb5f5f538cf481a3a5373281efac7d9bf6567155f6c0ce117c99ba01bb5b", func := "loop.example/g00698/laws.FnExactNewClerk", spec := "fnExactNewClerk", apart := false }
def FnExactNewClerkSaid : Prop := fnExactNewClerkRow.holds Try.pinned (OpenSpec.ofChange fnExactNewClerkSpec)

/-- ITS FALSE NEIGHBOUR: 'it returns false'. Refute it at one input. -/
def fnExactNewClerkWrong : ChangeSpec := { name := "fnExactNewClerk", fn := fun _ => fun
  | [] => { results := [.lit (.bool false)], args := [] }
  | _ => none }
def FnExactNewClerkWrongFalsely : Prop := fnExactNewClerkRow.holds Try.pinned (OpenSpec.ofChange fnExactNewClerkWrong)

/-- 'laws.FnExactOnceOf': WHATEVER THE INPUT: true; the input reads as it did. -/
def fnExactOnceOfSpec : ChangeSpec := { name := "fnExactOnceOf", fn := fun _ => fun
  | [d] => { results := [.lit (.bool true)], args := [d] }
  | _ => none }
def fnExactOnceOfRow : OpenClaim := { program := "ytjoebpmeeampfaa", sum := "7257eb5f5f538cf481a3a5373281efac7d9bf6567155f6c0ce117c99ba01bb5b", func := "loop.example/g00698/laws.FnExactOnceOf", spec := "fnExactOnceOf", unfollowed := true, recurses := true, apart := false }
def FnExactOnceOfSaid : Prop := fnExactOnceOfRow.holds Try.pinned (OpenSpec.ofChange fnExactOnceOfSpec)

/-- ITS FALSE NEIGHBOUR: 'it returns false'. Refute it at one input. -/
def fnExactOnceOfWrong : ChangeSpec := { name := "fnExactOnceOf", fn := fun _ => fun
  | [d] => { results := [.lit (.bool false)], args := [d] }
  | _ => none }
def FnExactOnceOfWrongFalsely : Prop := fnExactOnceOfRow.holds Try.pinned (OpenSpec.ofChange fnExactOnceOfWrong)

/-- 'laws.FnExactPlayAsks': WHATEVER THE INPUT: true; the input reads as it did. -/
def fnExactPlayAsksSpec : ChangeSpec := { name := "fnExactPlayAsks", fn := fun _ => fun
  | [d] => { results := [.lit (.bool true)], args := [d] }
  | _ => none }
def fnExactPlayAsksRow : OpenClaim := { program := "ytjoebpmeeampfaa", sum := "7257eb5f5f538cf481a3a5373281efac7d9bf6567155f6c0ce117c99ba01bb5b", func := "loop.example/g00698/laws.FnExactPlayAsks", spec := "fnExactPlayAsks", unfollowed := true, recurses := true, apart := false }
def FnExactPlayAsksSaid : Prop := fnExactPlayAsksRow.holds Try.pinned (OpenSpec.ofChange fnExactPlayAsksSpec)

/-- ITS FALSE NEIGHBOUR: 'it returns false'. Refute it at one input. -/
def fnExactPlayAsksWrong : ChangeSpec := { name := "fnExactPlayAsks", fn := fun _ => fun
  | [d] => { results := [.lit (.bool false)], args := [d] }
  | _ => none }
def FnExactPlayAsksWrongFalsely : Prop := fnExactPlayAsksRow.holds Try.pinned (OpenSpec.ofChange fnExactPlayAsksWrong)

/-- 'laws.FnOnce': WHATEVER THE INPUT: true; the input reads as it did. -/
def fnOnceSpec : ChangeSpec := { name := "fnOnce", fn := fun _ => fun
  | [d1, d2] => { results := [.lit (.bool true)], args := [d1, d2] }
  | _ => none }
def fnOnceRow : OpenClaim := { program := "ytjoebpmeeampfaa", sum := "7257eb5f5f538cf481a3a5373281efac7d9bf6567155f6c0ce117c99ba01bb5b", func := "loop.example/g00698/laws.FnOnce", spec := "fnOnce", unfollowed := true, recurses := true, apart := false }
def FnOnceSaid : Prop := fnOnceRow.holds Try.pinned (OpenSpec.ofChange fnOnceSpec)

/-- ITS FALSE NEIGHBOUR: 'it returns false'. Refute it at one input. -/
def fnOnceWrong : ChangeSpec := { name := "fnOnce", fn := fun _ => fun
  | [d1, d2] => { results := [.lit (.bool false)], args := [d1, d2] }
  | _ => none }
def FnOnceWrongFalsely : Prop := fnOnceRow.holds Try.pinned (OpenSpec.ofChange fnOnceWrong)

/-- 'laws.FnChoose': WHATEVER THE INPUT: true; the input reads as it did. -/
def fnChooseSpec : ChangeSpec := { name := "fnChoose", fn := fun _ => fun
  | [d1, d2] => { results := [.lit (.bool true)], args := [d1, d2] }
  | _ => none }
def fnChooseRow : OpenClaim := { program := "ytjoebpmeeampfaa", sum := "7257eb5f5f538cf481a3a5373281efac7d9bf6567155f6c0ce117c99ba01bb5b", func := "loop.example/g00698/laws.FnChoose", spec := "fnChoose", unfollowed := true, recurses := true, apart := false }
def FnChooseSaid : Prop := fnChooseRow.holds Try.pinned (OpenSpec.ofChange fnChooseSpec)

/-- ITS FALSE NEIGHBOUR: 'it returns false'. Refute it at one input. -/
def fnChooseWrong : ChangeSpec := { name := "fnChoose", fn := fun _ => fun
  | [d1, d2] => { results := [.lit (.bool false)], args := [d1, d2] }
  | _ => none }
def FnChooseWrongFalsely : Prop := fnChooseRow.holds Try.pinned (OpenSpec.ofChange fnChooseWrong)

/-- 'laws.FnTables': WHATEVER THE INPUT: true; the input reads as it did. -/
def fnTablesSpec : ChangeSpec := { name := "fnTables", fn := fun _ => fun
  | [d1, d2] => { results := [.lit (.bool true)], args := [d1, d2] }
  | _ => none }
def fnTablesRow : OpenClaim := { program := "ytjoebpmeeampfaa", sum := "7257eb5f5f538cf481a3a5373281efac7d9bf6567155f6c0ce117c99ba01bb5b", func := "loop.example/g00698/laws.FnTables", spec := "fnTables", unfollowed := true, recurses := true, apart := false }
def FnTablesSaid : Prop := fnTablesRow.holds Try.pinned (OpenSpec.ofChange fnTablesSpec)

/-- ITS FALSE NEIGHBOUR: 'it returns false'. Refute it at one input. -/
def fnTablesWrong : ChangeSpec := { name := "fnTables", fn := fun _ => fun
  | [d1, d2] => { results := [.lit (.bool false)], args := [d1, d2] }
  | _ => none }
def FnTablesWrongFalsely : Prop := fnTablesRow.holds Try.pinned (OpenSpec.ofChange fnTablesWrong)

/- THE SECOND FORM. 'bulk': how many values and letters a reading holds, each counted each time it is reached (what is shared counts as often as it is met; a slice's spare places count too). A statement '..UptoSaid' is the law's where the arguments, and the package variables that the reading takes, are together of bulk at most 1048576: NARROWER than '..Said'. Prove '..Said' where nothing that the law and all that it calls make is longer than what came in: it says more and counts as full. Else prove '..UptoSaid'. A law counts once. -/
mutual
def uptoBulk {H : Type} : DataW H → Nat
  | .lit (.string bytes) => bytes.length + 1
  | .lit _ => 1
  | .nil => 1
  | .ptr d => uptoBulk d + 1
  | .slice elems spare => uptoBulkAll elems + uptoBulkAll spare + 1
  | .agg parts => uptoBulkAll parts + 1
  | .iface _ d => uptoBulk d + 1
  | .map entries => uptoBulkEntries entries + 1
  | .held _ => 1
def uptoBulkAll {H : Type} : List (DataW H) → Nat
  | [] => 0
  | d :: r => uptoBulk d + uptoBulkAll r
def uptoBulkEntries {H : Type} : List (Lit × DataW H) → Nat
  | [] => 0
  | x :: r => uptoBulkEntry x + uptoBulkEntries r
def uptoBulkEntry {H : Type} : Lit × DataW H → Nat
  | (.string bytes, d) => bytes.length + uptoBulk d + 1
  | (_, d) => uptoBulk d + 1
 end
def uptoSmall : (H : Type) → List (DataW H) → Bool := fun _ ds => decide (uptoBulkAll ds ≤ 1048576)
def OpenSpec.upto (s : _root_.Go.ChangeSpec) : _root_.Go.OpenSpec := { _root_.Go.OpenSpec.ofChange s with cond := some uptoSmall }

/-- 'laws.FnExactNewClerk', WHERE WHAT IT READS IS OF BULK AT MOST 1048576: true; the input reads as it did. -/
def fnExactNewClerkUptoRow : OpenClaim := { program := "ytjoebpmeeampfaa", sum := "7257eb5f5f538cf481a3a5373281efac7d9bf6567155f6c0ce117c99ba01bb5b", func := "loop.example/g00698/laws.FnExactNewClerk", spec := "fnExactNewClerk", apart := false, narrowed := true }
def FnExactNewClerkUptoSaid : Prop := fnExactNewClerkUptoRow.holds Try.pinned (OpenSpec.upto fnExactNewClerkSpec)

/-- 'laws.FnExactOnceOf', WHERE WHAT IT READS IS OF BULK AT MOST 1048576: true; the input reads as it did. -/
def fnExactOnceOfUptoRow : OpenClaim := { program := "ytjoebpmeeampfaa", sum := "7257eb5f5f538cf481a3a5373281efac7d9bf6567155f6c0ce117c99ba01bb5b", func := "loop.example/g00698/laws.FnExactOnceOf", spec := "fnExactOnceOf", unfollowed := true, recurses := true, apart := false, narrowed := true }
def FnExactOnceOfUptoSaid : Prop := fnExactOnceOfUptoRow.holds Try.pinned (OpenSpec.upto fnExactOnceOfSpec)

/-- 'laws.FnExactPlayAsks', WHERE WHAT IT READS IS OF BULK AT MOST 1048576: true; the input reads as it did. -/
def fnExactPlayAsksUptoRow : OpenClaim := { program := "ytjoebpmeeampfaa", sum := "7257eb5f5f538cf481a3a5373281efac7d9bf6567155f6c0ce117c99ba01bb5b", func := "loop.example/g00698/laws.FnExactPlayAsks", spec := "fnExactPlayAsks", unfollowed := true, recurses := true, apart := false, narrowed := true }
def FnExactPlayAsksUptoSaid : Prop := fnExactPlayAsksUptoRow.holds Try.pinned (OpenSpec.upto fnExactPlayAsksSpec)

/-- 'laws.FnOnce', WHERE WHAT IT READS IS OF BULK AT MOST 1048576: true; the input reads as it did. -/
def fnOnceUptoRow : OpenClaim := { program := "ytjoebpmeeampfaa", sum := "7257eb5f5f538cf481a3a5373281efac7d9bf6567155f6c0ce117c99ba01bb5b", func := "loop.example/g00698/laws.FnOnce", spec := "fnOnce", unfollowed := true, recurses := true, apart := false, narrowed := true }
def FnOnceUptoSaid : Prop := fnOnceUptoRow.holds Try.pinned (OpenSpec.upto fnOnceSpec)

/-- 'laws.FnChoose', WHERE WHAT IT READS IS OF BULK AT MOST 1048576: true; the input reads as it did. -/
def fnChooseUptoRow : OpenClaim := { program := "ytjoebpmeeampfaa", sum := "7257eb5f5f538cf481a3a5373281efac7d9bf6567155f6c0ce117c99ba01bb5b", func := "loop.example/g00698/laws.FnChoose", spec := "fnChoose", unfollowed := true, recurses := true, apart := false, narrowed := true }
def FnChooseUptoSaid : Prop := fnChooseUptoRow.holds Try.pinned (OpenSpec.upto fnChooseSpec)

/-- 'laws.FnTables', WHERE WHAT IT READS IS OF BULK AT MOST 1048576: true; the input reads as it did. -/
def fnTablesUptoRow : OpenClaim := { program := "ytjoebpmeeampfaa", sum := "7257eb5f5f538cf481a3a5373281efac7d9bf6567155f6c0ce117c99ba01bb5b", func := "loop.example/g00698/laws.FnTables", spec := "fnTables", unfollowed := true, recurses := true, apart := false, narrowed := true }
def FnTablesUptoSaid : Prop := fnTablesUptoRow.holds Try.pinned (OpenSpec.upto fnTablesSpec)

end Rows
end Go.Proofs.Ytjoebpmeeampfaa
