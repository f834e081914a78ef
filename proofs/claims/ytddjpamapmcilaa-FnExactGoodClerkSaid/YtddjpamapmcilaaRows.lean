/-
  No cell of these rows narrows 'for every input' (looked for: loops, veiled, ifaces, maps, wideKeys, modest, calm, conditions, laid).
  DERIVED. THE GIVEN ROWS OF THIS SEAT. 5 by the template 'for every input the law returns true; each argument reads behind the call as it read before'; 0 by the template 'total and deterministic' (their statements: YtddjpamapmcilaaTotals.lean).
  GIVEN WITH THE SEED: the statements are not yours to turn. If you find one false, say at which input.
  Laid BY PROGRAM, IN A SANDBOX (cutbox-rows.mjs): the forced cells as the released guide's own fill.sh prints them over the translation 8856d4bfa8a8011c… (all of the seat's roots in one cut). By AI agents, Wed Nov 11 2026. No macro, syntax, notation, axiom, sorry.
-/
import Derived.Test.YtddjpamapmcilaaChecked
import GoSem.Claim
import GoSem.ClaimJoined
import GoSem.ClaimMapViews
import Derived.JoinedTies
import Derived.KernelRfl
namespace Go.Proofs.Ytddjpamapmcilaa
/- THE CELL 'sum', in the pinned program and in every row, IS THE sha256 OF THE DUMP (.gsa) THAT YtddjpamapmcilaaProg.lean LOADS. Nothing in Lean hashes anything: it is a label: what it is worth is what the hold of that sum in a sandbox is worth. -/
noncomputable def Try.pinned : Pinned := { name := "ytddjpamapmcilaa", sum := "8856d4bfa8a8011c85ac87d3e26c13fa2b4c95911a037873056af4aeef039d3e", checked := Try.checked }
namespace Rows
def none {H : Type} : Left H := { results := [], args := [] }

/-- 'laws.FnExactSameClerk': WHATEVER THE INPUT: true; the input reads as it did. -/
def fnExactSameClerkSpec : ChangeSpec := { name := "fnExactSameClerk", fn := fun _ => fun
  | [d1, d2] => { results := [.lit (.bool true)], args := [d1, d2] }
  | _ => none }
def fnExactSameClerkRow : OpenClaim := { program := "ytddjpamapmcilaa", sum := "8856d4bfa8a8011c85ac87d3e26c13fa2b4c95911a037873056af4aeef039d3e", func := "loop.example/g00698/laws.FnExactSameClerk", spec := "fnExactSameClerk", apart := false }
def FnExactSameClerkSaid : Prop := fnExactSameClerkRow.holds Try.pinned (OpenSpec.ofChange fnExactSameClerkSpec)

/-- ITS FALSE NEIGHBOUR: 'it returns false'. Refute it at one input. -/
def fnExactSameClerkWrong : ChangeSpec := { name := "fnExactSameClerk", fn := fun _ => fun
  | [d1, d2] => { results := [.lit (.bool false)], args := [d1, d2] }
  | _ => none }
def FnExactSameClerkWrongFalsely : Prop := fnExactSameClerkRow.holds Try.pinned (OpenSpec.ofChange fnExactSameClerkWrong)

/-- 'laws.FnExactNewClerk': WHATEVER THE INPUT: true; the input reads as it did. -/
def fnExactNewClerkSpec : ChangeSpec := { name := "fnExactNewClerk", fn := fun _ => fun
  | [] => { results := [.lit (.bool true)], args := [] }
  | _ => none }
def fnExactNewClerkRow : OpenClaim := { program := "ytddjpamapmcilaa", sum := "8856d4bfa8a8011c85ac87d3e26c13fa2b4c95911a037873056af4aeef039d3e", func := "loop.example/g00698/laws.FnExactNewClerk", spec := "fnExactNewClerk", apart := false }
def FnExactNewClerkSaid : Prop := fnExactNewClerkRow.holds Try.pinned (OpenSpec.ofChange fnExactNewClerkSpec)

/-- ITS FALSE NEIGHBOUR: 'it returns false'. Refute it at one input. -/
def fnExactNewClerkWrong : ChangeSpec := { name := "fnExactNewClerk", fn := fun _ => fun
  | [] => { results := [.lit (.bool false)], args := [] }
  | _ => none }
def FnExactNewClerkWrongFalsely : Prop := fnExactNewClerkRow.holds Try.pinned (OpenSpec.ofChange fnExactNewClerkWrong)

/-- 'laws.FnExactGoodClerk': WHATEVER THE INPUT: true; the input reads as it did. -/
def fnExactGoodClerkSpec : ChangeSpec := { name := "fnExactGoodClerk", fn := fun _ => fun
  | [d] => { results := [.lit (.bool true)], args := [d] }
  | _ => none }
def fnExactGoodClerkRow : OpenClaim := { program := "ytddjpamapmcilaa", sum := "8856d4bfa8a8011c85ac87d3e26c13fa2b4c95911a037873056af4aeef039d3e", func := "loop.example/g00698/laws.FnExactGoodClerk", spec := "fnExactGoodClerk", unfollowed := true, recurses := true, apart := false }
def FnExactGoodClerkSaid : Prop := fnExactGoodClerkRow.holds Try.pinned (OpenSpec.ofChange fnExactGoodClerkSpec)

/-- ITS FALSE NEIGHBOUR: 'it returns false'. Refute it at one input. -/
def fnExactGoodClerkWrong : ChangeSpec := { name := "fnExactGoodClerk", fn := fun _ => fun
  | [d] => { results := [.lit (.bool false)], args := [d] }
  | _ => none }
def FnExactGoodClerkWrongFalsely : Prop := fnExactGoodClerkRow.holds Try.pinned (OpenSpec.ofChange fnExactGoodClerkWrong)

/-- 'laws.FnExactGoodMsg': WHATEVER THE INPUT: true; the input reads as it did. -/
def fnExactGoodMsgSpec : ChangeSpec := { name := "fnExactGoodMsg", fn := fun _ => fun
  | [d1, d2] => { results := [.lit (.bool true)], args := [d1, d2] }
  | _ => none }
def fnExactGoodMsgRow : OpenClaim := { program := "ytddjpamapmcilaa", sum := "8856d4bfa8a8011c85ac87d3e26c13fa2b4c95911a037873056af4aeef039d3e", func := "loop.example/g00698/laws.FnExactGoodMsg", spec := "fnExactGoodMsg", unfollowed := true, recurses := true, apart := false }
def FnExactGoodMsgSaid : Prop := fnExactGoodMsgRow.holds Try.pinned (OpenSpec.ofChange fnExactGoodMsgSpec)

/-- ITS FALSE NEIGHBOUR: 'it returns false'. Refute it at one input. -/
def fnExactGoodMsgWrong : ChangeSpec := { name := "fnExactGoodMsg", fn := fun _ => fun
  | [d1, d2] => { results := [.lit (.bool false)], args := [d1, d2] }
  | _ => none }
def FnExactGoodMsgWrongFalsely : Prop := fnExactGoodMsgRow.holds Try.pinned (OpenSpec.ofChange fnExactGoodMsgWrong)

/-- 'laws.FnChoose': WHATEVER THE INPUT: true; the input reads as it did. -/
def fnChooseSpec : ChangeSpec := { name := "fnChoose", fn := fun _ => fun
  | [d1, d2] => { results := [.lit (.bool true)], args := [d1, d2] }
  | _ => none }
def fnChooseRow : OpenClaim := { program := "ytddjpamapmcilaa", sum := "8856d4bfa8a8011c85ac87d3e26c13fa2b4c95911a037873056af4aeef039d3e", func := "loop.example/g00698/laws.FnChoose", spec := "fnChoose", unfollowed := true, recurses := true, apart := false }
def FnChooseSaid : Prop := fnChooseRow.holds Try.pinned (OpenSpec.ofChange fnChooseSpec)

/-- ITS FALSE NEIGHBOUR: 'it returns false'. Refute it at one input. -/
def fnChooseWrong : ChangeSpec := { name := "fnChoose", fn := fun _ => fun
  | [d1, d2] => { results := [.lit (.bool false)], args := [d1, d2] }
  | _ => none }
def FnChooseWrongFalsely : Prop := fnChooseRow.holds Try.pinned (OpenSpec.ofChange fnChooseWrong)

/- THE SECOND FORM. 'bulk': how many values and letters a reading holds, each counted each time it is reached (what is shared counts as often as it is met; a slice's spare places count too). A statement '..UptoSaid' is the law's where the arguments, and the package variables that the reading takes, are together of bulk at most 1048576: NARROWER than '..Said'. Prove '..Said' where nothing that the law and all that it calls make is longer than what came in: it says more and counts as full. Else prove '..UptoSaid'. A law counts once. -/
mutual
def uptoBulk {H : Type} : DataW H → Nat
  | .lit (.string bytes) => bytes.length + 1
  | .lit _ => 1
  | .nil => 1
  | .ptr d => uptoBulk d + 1
  | .slice elems spare => uptoBulkAll elems + uptoBulkAll spare + 1
  | .agg parts => uptoBulkAll parts + 1
  | .iface _ d => uptoBulk d + 1
  | .map entries => uptoBulkEntries entries + 1
  | .held _ => 1
def uptoBulkAll {H : Type} : List (DataW H) → Nat
  | [] => 0
  | d :: r => uptoBulk d + uptoBulkAll r
def uptoBulkEntries {H : Type} : List (Lit × DataW H) → Nat
  | [] => 0
  | x :: r => uptoBulkEntry x + uptoBulkEntries r
def uptoBulkEntry {H : Type} : Lit × DataW H → Nat
  | (.string bytes, d) => bytes.length + uptoBulk d + 1
  | (_, d) => uptoBulk d + 1
 end
def uptoSmall : (H : Type) → List (DataW H) → Bool := fun _ ds => decide (uptoBulkAll ds ≤ 1048576)
def OpenSpec.upto (s : _root_.Go.ChangeSpec) : _root_.Go.OpenSpec := { _root_.Go.OpenSpec.ofChange s with cond := some uptoSmall }

/-- 'laws.FnExactSameClerk', WHERE WHAT IT READS IS OF BULK AT MOST 1048576: true; the input reads as it did. -/
def fnExactSameClerkUptoRow : OpenClaim := { program := "ytddjpamapmcilaa", sum := "8856d4bfa8a8011c85ac87d3e26c13fa2b4c95911a037873056af4aeef039d3e", func := "loop.example/g00698/laws.FnExactSameClerk", spec := "fnExactSameClerk", apart := false, narrowed := true }
def FnExactSameClerkUptoSaid : Prop := fnExactSameClerkUptoRow.holds Try.pinned (OpenSpec.upto fnExactSameClerkSpec)

/-- 'laws.FnExactNewClerk', WHERE WHAT IT READS IS OF BULK AT MOST 1048576: true; the input reads as it did. -/
def fnExactNewClerkUptoRow : OpenClaim := { program := "ytddjpamapmcilaa", sum := "8856d4bfa8a8011c85ac87d3e26c13fa2b4c95911a037873056af4aeef039d3e", func := "loop.example/g00698/laws.FnExactNewClerk", spec := "fnExactNewClerk", apart := false, narrowed := true }
def FnExactNewClerkUptoSaid : Prop := fnExactNewClerkUptoRow.holds Try.pinned (OpenSpec.upto fnExactNewClerkSpec)

/-- 'laws.FnExactGoodClerk', WHERE WHAT IT READS IS OF BULK AT MOST 1048576: true; the input reads as it did. -/
def fnExactGoodClerkUptoRow : OpenClaim := { program := "ytddjpamapmcilaa", sum := "8856d4bfa8a8011c85ac87d3e26c13fa2b4c95911a037873056af4aeef039d3e", func := "loop.example/g00698/laws.FnExactGoodClerk", spec := "fnExactGoodClerk", unfollowed := true, recurses := true, apart := false, narrowed := true }
def FnExactGoodClerkUptoSaid : Prop := fnExactGoodClerkUptoRow.holds Try.pinned (OpenSpec.upto fnExactGoodClerkSpec)

/-- 'laws.FnExactGoodMsg', WHERE WHAT IT READS IS OF BULK AT MOST 1048576: true; the input reads as it did. -/
def fnExactGoodMsgUptoRow : OpenClaim := { program := "ytddjpamapmcilaa", sum := "8856d4bfa8a8011c85ac87d3e26c13fa2b4c95911a037873056af4aeef039d3e", func := "loop.example/g00698/laws.FnExactGoodMsg", spec := "fnExactGoodMsg", unfollowed := true, recurses := true, apart := false, narrowed := true }
def FnExactGoodMsgUptoSaid : Prop := fnExactGoodMsgUptoRow.holds Try.pinned (OpenSpec.upto fnExactGoodMsgSpec)

/-- 'laws.FnChoose', WHERE WHAT IT READS IS OF BULK AT MOST 1048576: true; the input reads as it did. -/
def fnChooseUptoRow : OpenClaim := { program := "ytddjpamapmcilaa", sum := "8856d4bfa8a8011c85ac87d3e26c13fa2b4c95911a037873056af4aeef039d3e", func := "loop.example/g00698/laws.FnChoose", spec := "fnChoose", unfollowed := true, recurses := true, apart := false, narrowed := true }
def FnChooseUptoSaid : Prop := fnChooseUptoRow.holds Try.pinned (OpenSpec.upto fnChooseSpec)

end Rows
end Go.Proofs.Ytddjpamapmcilaa
