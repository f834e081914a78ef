/-
  No cell of these rows narrows 'for every input' (looked for: loops, veiled, ifaces, maps, wideKeys, modest, calm, conditions, laid).
  DERIVED. THE GIVEN ROWS OF THIS SEAT. 12 by the template 'for every input the law returns true; each argument reads behind the call as it read before'; 0 by the template 'total and deterministic' (their statements: YtacfmplofkjonaaTotals.lean).
  GIVEN WITH THE SEED: the statements are not yours to turn. If you find one false, say at which input.
  Laid BY PROGRAM, IN A SANDBOX (cutbox-rows.mjs): the forced cells as the released guide's own fill.sh prints them over the translation f7f8d7098bc162fb… (all of the seat's roots in one cut). By AI agents, Wed Nov 11 2026. No macro, syntax, notation, axiom, sorry.
-/
import Derived.Test.YtacfmplofkjonaaChecked
import GoSem.Claim
import GoSem.ClaimJoined
import GoSem.ClaimMapViews
import Derived.JoinedTies
import Derived.KernelRfl
namespace Go.Proofs.Ytacfmplofkjonaa
/- THE CELL 'sum', in the pinned program and in every row, IS THE sha256 OF THE DUMP (.gsa) THAT YtacfmplofkjonaaProg.lean LOADS. Nothing in Lean hashes anything: it is a label: what it is worth is what the hold of that sum in a sandbox is worth. -/
noncomputable def Try.pinned : Pinned := { name := "ytacfmplofkjonaa", sum := "f7f8d7098bc162fbfb72caceb7359fd92341492fd7d7bfd30e32e8d8fdf4e9bb", checked := Try.checked }
namespace Rows
def none {H : Type} : Left H := { results := [], args := [] }

/-- 'laws.FnExactNewClerk': WHATEVER THE INPUT: true; the input reads as it did. -/
def fnExactNewClerkSpec : ChangeSpec := { name := "fnExactNewClerk", fn := fun _ => fun
  | [] => { results := [.lit (.bool true)], args := [] }
  | _ => none }
def fnExactNewClerkRow : OpenClaim := { program := "ytacfmplofkjonaa", sum := "f7f8d7098bc162fbfb72caceb7359fd92341492fd7d7bfd30e32e8d8fdf4e9bb", func := "loop.example/g00698/laws.FnExactNewClerk", spec := "fnExactNewClerk", apart := false }
def FnExactNewClerkSaid : Prop := fnExactNewClerkRow.holds Try.pinned (OpenSpec.ofChange fnExactNewClerkSpec)

/-- ITS FALSE NEIGHBOUR: 'it returns false'. Refute it at one input. -/
def fnExactNewClerkWrong : ChangeSpec := { name := "fnExactNewClerk", fn := fun _ => fun
  | [] => { results := [.lit (.bool false)], args := [] }
  | _ => none }
def FnExactNewClerkWrongFalsely : Prop := fnExactNewClerkRow.holds Try.pinned (OpenSpec.ofChange fnExactNewClerkWrong)

/-- 'laws.FnExactGoodMsg': WHATEVER THE INPUT: true; the input reads as it did. -/
def fnExactGoodMsgSpec : ChangeSpec := { name := "fnExactGoodMsg", fn := fun _ => fun
  | [d1, d2] => { results := [.lit (.bool true)], args := [d1, d2] }
  | _ => none }
def fnExactGoodMsgRow : OpenClaim := { program := "ytacfmplofkjonaa", sum := "f7f8d7098bc162fbfb72caceb7359fd92341492fd7d7bfd30e32e8d8fdf4e9bb", func := "loop.example/g00698/laws.FnExactGoodMsg", spec := "fnExactGoodMsg", unfollowed := true, recurses := true, apart := false }
def FnExactGoodMsgSaid : Prop := fnExactGoodMsgRow.holds Try.pinned (OpenSpec.ofChange fnExactGoodMsgSpec)

/-- ITS FALSE NEIGHBOUR: 'it returns false'. Refute it at one input. -/
def fnExactGoodMsgWrong : ChangeSpec := { name := "fnExactGoodMsg", fn := fun _ => fun
  | [d1, d2] => { results := [.lit (.bool false)], args := [d1, d2] }
  | _ => none }
def FnExactGoodMsgWrongFalsely : Prop := fnExactGoodMsgRow.holds Try.pinned (OpenSpec.ofChange fnExactGoodMsgWrong)

/-- 'laws.FnChoose': WHATEVER THE INPUT: true; the input reads as it did. -/
def fnChooseSpec : ChangeSpec := { name := "fnChoose", fn := fun _ => fun
  | [d1, d2] => { results := [.lit (.bool true)], args := [d1, d2] }
  | _ => none }
def fnChooseRow : OpenClaim := { program := "ytacfmplofkjonaa", sum := "f7f8d7098bc162fbfb72caceb7359fd92341492fd7d7bfd30e32e8d8fdf4e9bb", func := "loop.example/g00698/laws.FnChoose", spec := "fnChoose", unfollowed := true, recurses := true, apart := false }
def FnChooseSaid : Prop := fnChooseRow.holds Try.pinned (OpenSpec.ofChange fnChooseSpec)

/-- ITS FALSE NEIGHBOUR: 'it returns false'. Refute it at one input. -/
def fnChooseWrong : ChangeSpec := { name := "fnChoose", fn := fun _ => fun
  | [d1, d2] => { results := [.lit (.bool false)], args := [d1, d2] }
  | _ => none }
def FnChooseWrongFalsely : Prop := fnChooseRow.holds Try.pinned (OpenSpec.ofChange fnChooseWrong)

/-- 'laws.FnExactOnceOf': WHATEVER THE INPUT: true; the input reads as it did. -/
def fnExactOnceOfSpec : ChangeSpec := { name := "fnExactOnceOf", fn := fun _ => fun
  | [d] => { results := [.lit (.bool true)], args := [d] }
  | _ => none }
def fnExactOnceOfRow : OpenClaim := { program := "ytacfmplofkjonaa", sum := "f7f8d7098bc162fbfb72caceb7359fd92341492fd7d7bfd30e32e8d8fdf4e9bb", func := "loop.example/g00698/laws.FnExactOnceOf", spec := "fnExactOnceOf", unfollowed := true, recurses := true, apart := false }
def FnExactOnceOfSaid : Prop := fnExactOnceOfRow.holds Try.pinned (OpenSpec.ofChange fnExactOnceOfSpec)

/-- ITS FALSE NEIGHBOUR: 'it returns false'. Refute it at one input. -/
def fnExactOnceOfWrong : ChangeSpec := { name := "fnExactOnceOf", fn := fun _ => fun
  | [d] => { results := [.lit (.bool false)], args := [d] }
  | _ => none }
def FnExactOnceOfWrongFalsely : Prop := fnExactOnceOfRow.holds Try.pinned (OpenSpec.ofChange fnExactOnceOfWrong)

/-- 'laws.FnExactServeAsk': WHATEVER THE INPUT: true; the input reads as it did. -/
def fnExactServeAskSpec : ChangeSpec := { name := "fnExactServeAsk", fn := fun _ => fun
  | [d1, d2] => { results := [.lit (.bool true)], args := [d1, d2] }
  | _ => none }
def fnExactServeAskRow : OpenClaim := { program := "ytacfmplofkjonaa", sum := "f7f8d7098bc162fbfb72caceb7359fd92341492fd7d7bfd30e32e8d8fdf4e9bb", func := "loop.example/g00698/laws.FnExactServeAsk", spec := "fnExactServeAsk", unfollowed := true, recurses := true, apart := false }
def FnExactServeAskSaid : Prop := fnExactServeAskRow.holds Try.pinned (OpenSpec.ofChange fnExactServeAskSpec)

/-- ITS FALSE NEIGHBOUR: 'it returns false'. Refute it at one input. -/
def fnExactServeAskWrong : ChangeSpec := { name := "fnExactServeAsk", fn := fun _ => fun
  | [d1, d2] => { results := [.lit (.bool false)], args := [d1, d2] }
  | _ => none }
def FnExactServeAskWrongFalsely : Prop := fnExactServeAskRow.holds Try.pinned (OpenSpec.ofChange fnExactServeAskWrong)

/-- 'laws.FnExactNextBallot': WHATEVER THE INPUT: true; the input reads as it did. -/
def fnExactNextBallotSpec : ChangeSpec := { name := "fnExactNextBallot", fn := fun _ => fun
  | [d1, d2, d3, d4] => { results := [.lit (.bool true)], args := [d1, d2, d3, d4] }
  | _ => none }
def fnExactNextBallotRow : OpenClaim := { program := "ytacfmplofkjonaa", sum := "f7f8d7098bc162fbfb72caceb7359fd92341492fd7d7bfd30e32e8d8fdf4e9bb", func := "loop.example/g00698/laws.FnExactNextBallot", spec := "fnExactNextBallot", unfollowed := true, recurses := true, apart := false }
def FnExactNextBallotSaid : Prop := fnExactNextBallotRow.holds Try.pinned (OpenSpec.ofChange fnExactNextBallotSpec)

/-- ITS FALSE NEIGHBOUR: 'it returns false'. Refute it at one input. -/
def fnExactNextBallotWrong : ChangeSpec := { name := "fnExactNextBallot", fn := fun _ => fun
  | [d1, d2, d3, d4] => { results := [.lit (.bool false)], args := [d1, d2, d3, d4] }
  | _ => none }
def FnExactNextBallotWrongFalsely : Prop := fnExactNextBallotRow.holds Try.pinned (OpenSpec.ofChange fnExactNextBallotWrong)

/-- 'laws.FnExactPlayAsks': WHATEVER THE INPUT: true; the input reads as it did. -/
def fnExactPlayAsksSpec : ChangeSpec := { name := "fnExactPlayAsks", fn := fun _ => fun
  | [d] => { results := [.lit (.bool true)], args := [d] }
  | _ => none }
def fnExactPlayAsksRow : OpenClaim := { program := "ytacfmplofkjonaa", sum := "f7f8d7098bc162fbfb72caceb7359fd92341492fd7d7bfd30e32e8d8fdf4e9bb", func := "loop.example/g00698/laws.FnExactPlayAsks", spec := "fnExactPlayAsks", unfollowed := true, recurses := true, apart := false }
def FnExactPlayAsksSaid : Prop := fnExactPlayAsksRow.holds Try.pinned (OpenSpec.ofChange fnExactPlayAsksSpec)

/-- ITS FALSE NEIGHBOUR: 'it returns false'. Refute it at one input. -/
def fnExactPlayAsksWrong : ChangeSpec := { name := "fnExactPlayAsks", fn := fun _ => fun
  | [d] => { results := [.lit (.bool false)], args := [d] }
  | _ => none }
def FnExactPlayAsksWrongFalsely : Prop := fnExactPlayAsksRow.holds Try.pinned (OpenSpec.ofChange fnExactPlayAsksWrong)

/-- 'laws.FnExactChooseOf': WHATEVER THE INPUT: true; the input reads as it did. -/
def fnExactChooseOfSpec : ChangeSpec := { name := "fnExactChooseOf", fn := fun _ => fun
  | [d1, d2] => { results := [.lit (.bool true)], args := [d1, d2] }
  | _ => none }
def fnExactChooseOfRow : OpenClaim := { program := "ytacfmplofkjonaa", sum := "f7f8d7098bc162fbfb72caceb7359fd92341492fd7d7bfd30e32e8d8fdf4e9bb", func := "loop.example/g00698/laws.FnExactChooseOf", spec := "fnExactChooseOf", unfollowed := true, recurses := true, apart := false }
def FnExactChooseOfSaid : Prop := fnExactChooseOfRow.holds Try.pinned (OpenSpec.ofChange fnExactChooseOfSpec)

/-- ITS FALSE NEIGHBOUR: 'it returns false'. Refute it at one input. -/
def fnExactChooseOfWrong : ChangeSpec := { name := "fnExactChooseOf", fn := fun _ => fun
  | [d1, d2] => { results := [.lit (.bool false)], args := [d1, d2] }
  | _ => none }
def FnExactChooseOfWrongFalsely : Prop := fnExactChooseOfRow.holds Try.pinned (OpenSpec.ofChange fnExactChooseOfWrong)

/-- 'laws.FnExactRowAt': WHATEVER THE INPUT: true; the input reads as it did. -/
def fnExactRowAtSpec : ChangeSpec := { name := "fnExactRowAt", fn := fun _ => fun
  | [d1, d2, d3] => { results := [.lit (.bool true)], args := [d1, d2, d3] }
  | _ => none }
def fnExactRowAtRow : OpenClaim := { program := "ytacfmplofkjonaa", sum := "f7f8d7098bc162fbfb72caceb7359fd92341492fd7d7bfd30e32e8d8fdf4e9bb", func := "loop.example/g00698/laws.FnExactRowAt", spec := "fnExactRowAt", unfollowed := true, recurses := true, apart := false }
def FnExactRowAtSaid : Prop := fnExactRowAtRow.holds Try.pinned (OpenSpec.ofChange fnExactRowAtSpec)

/-- ITS FALSE NEIGHBOUR: 'it returns false'. Refute it at one input. -/
def fnExactRowAtWrong : ChangeSpec := { name := "fnExactRowAt", fn := fun _ => fun
  | [d1, d2, d3] => { results := [.lit (.bool false)], args := [d1, d2, d3] }
  | _ => none }
def FnExactRowAtWrongFalsely : Prop := fnExactRowAtRow.holds Try.pinned (OpenSpec.ofChange fnExactRowAtWrong)

/-- 'laws.FnTables': WHATEVER THE INPUT: true; the input reads as it did. -/
def fnTablesSpec : ChangeSpec := { name := "fnTables", fn := fun _ => fun
  | [d1, d2] => { results := [.lit (.bool true)], args := [d1, d2] }
  | _ => none }
def fnTablesRow : OpenClaim := { program := "ytacfmplofkjonaa", sum := "f7f8d7098bc162fbfb72caceb7359fd92341492fd7d7bfd30e32e8d8fdf4e9bb", func := "loop.example/g00698/laws.FnTables", spec := "fnTables", unfollowed := true, recurses := true, apart := false }
def FnTablesSaid : Prop := fnTablesRow.holds Try.pinned (OpenSpec.ofChange fnTablesSpec)

/-- ITS FALSE NEIGHBOUR: 'it returns false'. Refute it at one input. -/
def fnTablesWrong : ChangeSpec := { name := "fnTables", fn := fun _ => fun
  | [d1, d2] => { results := [.lit (.bool false)], args := [d1, d2] }
  | _ => none }
def FnTablesWrongFalsely : Prop := fnTablesRow.holds Try.pinned (OpenSpec.ofChange fnTablesWrong)

/-- 'laws.FnExactDepsHold': WHATEVER THE INPUT: true; the input reads as it did. -/
def fnExactDepsHoldSpec : ChangeSpec := { name := "fnExactDepsHold", fn := fun _ => fun
  | [d] => { results := [.lit (.bool true)], args := [d] }
  | _ => none }
def fnExactDepsHoldRow : OpenClaim := { program := "ytacfmplofkjonaa", sum := "f7f8d7098bc162fbfb72caceb7359fd92341492fd7d7bfd30e32e8d8fdf4e9bb", func := "loop.example/g00698/laws.FnExactDepsHold", spec := "fnExactDepsHold", unfollowed := true, recurses := true, apart := false }
def FnExactDepsHoldSaid : Prop := fnExactDepsHoldRow.holds Try.pinned (OpenSpec.ofChange fnExactDepsHoldSpec)

/-- ITS FALSE NEIGHBOUR: 'it returns false'. Refute it at one input. -/
def fnExactDepsHoldWrong : ChangeSpec := { name := "fnExactDepsHold", fn := fun _ => fun
  | [d] => { results := [.lit (.bool false)], args := [d] }
  | _ => none }
def FnExactDepsHoldWrongFalsely : Prop := fnExactDepsHoldRow.holds Try.pinned (OpenSpec.ofChange fnExactDepsHoldWrong)

/-- 'laws.FnExactSetRow': WHATEVER THE INPUT: true; the input reads as it did. -/
def fnExactSetRowSpec : ChangeSpec := { name := "fnExactSetRow", fn := fun _ => fun
  | [d1, d2, d3, d4] => { results := [.lit (.bool true)], args := [d1, d2, d3, d4] }
  | _ => none }
def fnExactSetRowRow : OpenClaim := { program := "ytacfmplofkjonaa", sum := "f7f8d7098bc162fbfb72caceb7359fd92341492fd7d7bfd30e32e8d8fdf4e9bb", func := "loop.example/g00698/laws.FnExactSetRow", spec := "fnExactSetRow", unfollowed := true, recurses := true, apart := false }
def FnExactSetRowSaid : Prop := fnExactSetRowRow.holds Try.pinned (OpenSpec.ofChange fnExactSetRowSpec)

/-- ITS FALSE NEIGHBOUR: 'it returns false'. Refute it at one input. -/
def fnExactSetRowWrong : ChangeSpec := { name := "fnExactSetRow", fn := fun _ => fun
  | [d1, d2, d3, d4] => { results := [.lit (.bool false)], args := [d1, d2, d3, d4] }
  | _ => none }
def FnExactSetRowWrongFalsely : Prop := fnExactSetRowRow.holds Try.pinned (OpenSpec.ofChange fnExactSetRowWrong)

/- THE SECOND FORM. 'bulk': how many values and letters a reading holds, each counted each time it is reached (what is shared counts as often as it is met; a slice's spare places count too). A statement '..UptoSaid' is the law's where the arguments, and the package variables that the reading takes, are together of bulk at most 1048576: NARROWER than '..Said'. Prove '..Said' where nothing that the law and all that it calls make is longer than what came in: it says more and counts as full. Else prove '..UptoSaid'. A law counts once. -/
mutual
def uptoBulk {H : Type} : DataW H → Nat
  | .lit (.string bytes) => bytes.length + 1
  | .lit _ => 1
  | .nil => 1
  | .ptr d => uptoBulk d + 1
  | .slice elems spare => uptoBulkAll elems + uptoBulkAll spare + 1
  | .agg parts => uptoBulkAll parts + 1
  | .iface _ d => uptoBulk d + 1
  | .map entries => uptoBulkEntries entries + 1
  | .held _ => 1
def uptoBulkAll {H : Type} : List (DataW H) → Nat
  | [] => 0
  | d :: r => uptoBulk d + uptoBulkAll r
def uptoBulkEntries {H : Type} : List (Lit × DataW H) → Nat
  | [] => 0
  | x :: r => uptoBulkEntry x + uptoBulkEntries r
def uptoBulkEntry {H : Type} : Lit × DataW H → Nat
  | (.string bytes, d) => bytes.length + uptoBulk d + 1
  | (_, d) => uptoBulk d + 1
 end
def uptoSmall : (H : Type) → List (DataW H) → Bool := fun _ ds => decide (uptoBulkAll ds ≤ 1048576)
def OpenSpec.upto (s : _root_.Go.ChangeSpec) : _root_.Go.OpenSpec := { _root_.Go.OpenSpec.ofChange s with cond := some uptoSmall }

/-- 'laws.FnExactNewClerk', WHERE WHAT IT READS IS OF BULK AT MOST 1048576: true; the input reads as it did. -/
def fnExactNewClerkUptoRow : OpenClaim := { program := "ytacfmplofkjonaa", sum := "f7f8d7098bc162fbfb72caceb7359fd92341492fd7d7bfd30e32e8d8fdf4e9bb", func := "loop.example/g00698/laws.FnExactNewClerk", spec := "fnExactNewClerk", apart := false, narrowed := true }
def FnExactNewClerkUptoSaid : Prop := fnExactNewClerkUptoRow.holds Try.pinned (OpenSpec.upto fnExactNewClerkSpec)

/-- 'laws.FnExactGoodMsg', WHERE WHAT IT READS IS OF BULK AT MOST 1048576: true; the input reads as it did. -/
def fnExactGoodMsgUptoRow : OpenClaim := { program := "ytacfmplofkjonaa", sum := "f7f8d7098bc162fbfb72caceb7359fd92341492fd7d7bfd30e32e8d8fdf4e9bb", func := "loop.example/g00698/laws.FnExactGoodMsg", spec := "fnExactGoodMsg", unfollowed := true, recurses := true, apart := false, narrowed := true }
def FnExactGoodMsgUptoSaid : Prop := fnExactGoodMsgUptoRow.holds Try.pinned (OpenSpec.upto fnExactGoodMsgSpec)

/-- 'laws.FnChoose', WHERE WHAT IT READS IS OF BULK AT MOST 1048576: true; the input reads as it did. -/
def fnChooseUptoRow : OpenClaim := { program := "ytacfmplofkjonaa", sum := "f7f8d7098bc162fbfb72caceb7359fd92341492fd7d7bfd30e32e8d8fdf4e9bb", func := "loop.example/g00698/laws.FnChoose", spec := "fnChoose", unfollowed := true, recurses := true, apart := false, narrowed := true }
def FnChooseUptoSaid : Prop := fnChooseUptoRow.holds Try.pinned (OpenSpec.upto fnChooseSpec)

/-- 'laws.FnExactOnceOf', WHERE WHAT IT READS IS OF BULK AT MOST 1048576: true; the input reads as it did. -/
def fnExactOnceOfUptoRow : OpenClaim := { program := "ytacfmplofkjonaa", sum := "f7f8d7098bc162fbfb72caceb7359fd92341492fd7d7bfd30e32e8d8fdf4e9bb", func := "loop.example/g00698/laws.FnExactOnceOf", spec := "fnExactOnceOf", unfollowed := true, recurses := true, apart := false, narrowed := true }
def FnExactOnceOfUptoSaid : Prop := fnExactOnceOfUptoRow.holds Try.pinned (OpenSpec.upto fnExactOnceOfSpec)

/-- 'laws.FnExactServeAsk', WHERE WHAT IT READS IS OF BULK AT MOST 1048576: true; the input reads as it did. -/
def fnExactServeAskUptoRow : OpenClaim := { program := "ytacfmplofkjonaa", sum := "f7f8d7098bc162fbfb72caceb7359fd92341492fd7d7bfd30e32e8d8fdf4e9bb", func := "loop.example/g00698/laws.FnExactServeAsk", spec := "fnExactServeAsk", unfollowed := true, recurses := true, apart := false, narrowed := true }
def FnExactServeAskUptoSaid : Prop := fnExactServeAskUptoRow.holds Try.pinned (OpenSpec.upto fnExactServeAskSpec)

/-- 'laws.FnExactNextBallot', WHERE WHAT IT READS IS OF BULK AT MOST 1048576: true; the input reads as it did. -/
def fnExactNextBallotUptoRow : OpenClaim := { program := "ytacfmplofkjonaa", sum := "f7f8d7098bc162fbfb72caceb7359fd92341492fd7d7bfd30e32e8d8fdf4e9bb", func := "loop.example/g00698/laws.FnExactNextBallot", spec := "fnExactNextBallot", unfollowed := true, recurses := true, apart := false, narrowed := true }
def FnExactNextBallotUptoSaid : Prop := fnExactNextBallotUptoRow.holds Try.pinned (OpenSpec.upto fnExactNextBallotSpec)

/-- 'laws.FnExactPlayAsks', WHERE WHAT IT READS IS OF BULK AT MOST 1048576: true; the input reads as it did. -/
def fnExactPlayAsksUptoRow : OpenClaim := { program := "ytacfmplofkjonaa", sum := "f7f8d7098bc162fbfb72caceb7359fd92341492fd7d7bfd30e32e8d8fdf4e9bb", func := "loop.example/g00698/laws.FnExactPlayAsks", spec := "fnExactPlayAsks", unfollowed := true, recurses := true, apart := false, narrowed := true }
def FnExactPlayAsksUptoSaid : Prop := fnExactPlayAsksUptoRow.holds Try.pinned (OpenSpec.upto fnExactPlayAsksSpec)

/-- 'laws.FnExactChooseOf', WHERE WHAT IT READS IS OF BULK AT MOST 1048576: true; the input reads as it did. -/
def fnExactChooseOfUptoRow : OpenClaim := { program := "ytacfmplofkjonaa", sum := "f7f8d7098bc162fbfb72caceb7359fd92341492fd7d7bfd30e32e8d8fdf4e9bb", func := "loop.example/g00698/laws.FnExactChooseOf", spec := "fnExactChooseOf", unfollowed := true, recurses := true, apart := false, narrowed := true }
def FnExactChooseOfUptoSaid : Prop := fnExactChooseOfUptoRow.holds Try.pinned (OpenSpec.upto fnExactChooseOfSpec)

/-- 'laws.FnExactRowAt', WHERE WHAT IT READS IS OF BULK AT MOST 1048576: true; the input reads as it did. -/
def fnExactRowAtUptoRow : OpenClaim := { program := "ytacfmplofkjonaa", sum := "f7f8d7098bc162fbfb72caceb7359fd92341492fd7d7bfd30e32e8d8fdf4e9bb", func := "loop.example/g00698/laws.FnExactRowAt", spec := "fnExactRowAt", unfollowed := true, recurses := true, apart := false, narrowed := true }
def FnExactRowAtUptoSaid : Prop := fnExactRowAtUptoRow.holds Try.pinned (OpenSpec.upto fnExactRowAtSpec)

/-- 'laws.FnTables', WHERE WHAT IT READS IS OF BULK AT MOST 1048576: true; the input reads as it did. -/
def fnTablesUptoRow : OpenClaim := { program := "ytacfmplofkjonaa", sum := "f7f8d7098bc162fbfb72caceb7359fd92341492fd7d7bfd30e32e8d8fdf4e9bb", func := "loop.example/g00698/laws.FnTables", spec := "fnTables", unfollowed := true, recurses := true, apart := false, narrowed := true }
def FnTablesUptoSaid : Prop := fnTablesUptoRow.holds Try.pinned (OpenSpec.upto fnTablesSpec)

/-- 'laws.FnExactDepsHold', WHERE WHAT IT READS IS OF BULK AT MOST 1048576: true; the input reads as it did. -/
def fnExactDepsHoldUptoRow : OpenClaim := { program := "ytacfmplofkjonaa", sum := "f7f8d7098bc162fbfb72caceb7359fd92341492fd7d7bfd30e32e8d8fdf4e9bb", func := "loop.example/g00698/laws.FnExactDepsHold", spec := "fnExactDepsHold", unfollowed := true, recurses := true, apart := false, narrowed := true }
def FnExactDepsHoldUptoSaid : Prop := fnExactDepsHoldUptoRow.holds Try.pinned (OpenSpec.upto fnExactDepsHoldSpec)

/-- 'laws.FnExactSetRow', WHERE WHAT IT READS IS OF BULK AT MOST 1048576: true; the input reads as it did. -/
def fnExactSetRowUptoRow : OpenClaim := { program := "ytacfmplofkjonaa", sum := "f7f8d7098bc162fbfb72caceb7359fd92341492fd7d7bfd30e32e8d8fdf4e9bb", func := "loop.example/g00698/laws.FnExactSetRow", spec := "fnExactSetRow", unfollowed := true, recurses := true, apart := false, narrowed := true }
def FnExactSetRowUptoSaid : Prop := fnExactSetRowUptoRow.holds Try.pinned (OpenSpec.upto fnExactSetRowSpec)

end Rows
end Go.Proofs.Ytacfmplofkjonaa
