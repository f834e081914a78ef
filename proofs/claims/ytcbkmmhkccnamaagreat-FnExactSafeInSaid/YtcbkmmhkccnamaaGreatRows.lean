/-
  No cell of these rows narrows 'for every input' (looked for: loops, veiled, ifaces, maps, wideKeys, modest, calm, conditions, laid).
  DERIVED. THE GIVEN ROWS OF THIS SEAT. 5 by the template 'for every input the law returns true; each argument reads behind the call as it read before'; 0 by the template 'total and deterministic' (their statements: YtcbkmmhkccnamaaGreatTotals.lean).
  GIVEN WITH THE SEED: the statements are not yours to turn. If you find one false, say at which input.
  Laid BY PROGRAM, IN A SANDBOX (cutbox-rows.mjs): the forced cells as the released guide's own fill.sh prints them over the translation b3241cd2f9b8f586… (all of the seat's roots in one cut). By AI agents, Wed Nov 11 2026. No macro, syntax, notation, axiom, sorry.
-/
import Derived.Test.YtcbkmmhkccnamaaGreatChecked
import GoSem.Claim
import GoSem.ClaimJoined
import GoSem.ClaimMapViews
import Derived.JoinedTies
import Derived.KernelRfl
namespace Go.Proofs.YtcbkmmhkccnamaaGreat
/- THE CELL 'sum', in the pinned program and in every row, IS THE sha256 OF THE DUMP (.gsa) THAT YtcbkmmhkccnamaaGreatProg.lean LOADS. Nothing in Lean hashes anything: it is a label: what it is worth is what the hold of that sum in a sandbox is worth. -/
noncomputable def Tryz.pinned : Pinned := { name := "ytcbkmmhkccnamaagreat", sum := "b3241cd2f9b8f58624b04b8760981107f217c0b4238f9e076f25c43d4b6ccacf", checked := Tryz.checked }
namespace Rows
def none {H : Type} : Left H := { results := [], args := [] }

/-- 'laws.FnExactFinishedIn': WHATEVER THE INPUT: true; the input reads as it did. -/
def fnExactFinishedInSpec : ChangeSpec := { name := "fnExactFinishedIn", fn := fun _ => fun
  | [d1, d2] => { results := [.lit (.bool true)], args := [d1, d2] }
  | _ => none }
def fnExactFinishedInRow : OpenClaim := { program := "ytcbkmmhkccnamaagreat", sum := "b3241cd2f9b8f58624b04b8760981107f217c0b4238f9e076f25c43d4b6ccacf", func := "loop.example/g00698/laws.FnExactFinishedIn", spec := "fnExactFinishedIn", unfollowed := true, recurses := true, apart := false }
def FnExactFinishedInSaid : Prop := fnExactFinishedInRow.holds Tryz.pinned (OpenSpec.ofChange fnExactFinishedInSpec)

/-- ITS FALSE NEIGHBOUR: 'it returns false'. Refute it at one input. -/
def fnExactFinishedInWrong : ChangeSpec := { name := "fnExactFinishedIn", fn := fun _ => fun
  | [d1, d2] => { results := [.lit (.bool false)], args := [d1, d2] }
  | _ => none }
def FnExactFinishedInWrongFalsely : Prop := fnExactFinishedInRow.holds Tryz.pinned (OpenSpec.ofChange fnExactFinishedInWrong)

/-- 'laws.FnExactFirstOpen': WHATEVER THE INPUT: true; the input reads as it did. -/
def fnExactFirstOpenSpec : ChangeSpec := { name := "fnExactFirstOpen", fn := fun _ => fun
  | [d1, d2] => { results := [.lit (.bool true)], args := [d1, d2] }
  | _ => none }
def fnExactFirstOpenRow : OpenClaim := { program := "ytcbkmmhkccnamaagreat", sum := "b3241cd2f9b8f58624b04b8760981107f217c0b4238f9e076f25c43d4b6ccacf", func := "loop.example/g00698/laws.FnExactFirstOpen", spec := "fnExactFirstOpen", unfollowed := true, recurses := true, apart := false }
def FnExactFirstOpenSaid : Prop := fnExactFirstOpenRow.holds Tryz.pinned (OpenSpec.ofChange fnExactFirstOpenSpec)

/-- ITS FALSE NEIGHBOUR: 'it returns false'. Refute it at one input. -/
def fnExactFirstOpenWrong : ChangeSpec := { name := "fnExactFirstOpen", fn := fun _ => fun
  | [d1, d2] => { results := [.lit (.bool false)], args := [d1, d2] }
  | _ => none }
def FnExactFirstOpenWrongFalsely : Prop := fnExactFirstOpenRow.holds Tryz.pinned (OpenSpec.ofChange fnExactFirstOpenWrong)

/-- 'laws.FnExactOrdersAgree': WHATEVER THE INPUT: true; the input reads as it did. -/
def fnExactOrdersAgreeSpec : ChangeSpec := { name := "fnExactOrdersAgree", fn := fun _ => fun
  | [d] => { results := [.lit (.bool true)], args := [d] }
  | _ => none }
def fnExactOrdersAgreeRow : OpenClaim := { program := "ytcbkmmhkccnamaagreat", sum := "b3241cd2f9b8f58624b04b8760981107f217c0b4238f9e076f25c43d4b6ccacf", func := "loop.example/g00698/laws.FnExactOrdersAgree", spec := "fnExactOrdersAgree", unfollowed := true, recurses := true, apart := false }
def FnExactOrdersAgreeSaid : Prop := fnExactOrdersAgreeRow.holds Tryz.pinned (OpenSpec.ofChange fnExactOrdersAgreeSpec)

/-- ITS FALSE NEIGHBOUR: 'it returns false'. Refute it at one input. -/
def fnExactOrdersAgreeWrong : ChangeSpec := { name := "fnExactOrdersAgree", fn := fun _ => fun
  | [d] => { results := [.lit (.bool false)], args := [d] }
  | _ => none }
def FnExactOrdersAgreeWrongFalsely : Prop := fnExactOrdersAgreeRow.holds Tryz.pinned (OpenSpec.ofChange fnExactOrdersAgreeWrong)

/-- 'laws.FnExactSameTold': WHATEVER THE INPUT: true; the input reads as it did. -/
def fnExactSameToldSpec : ChangeSpec := { name := "fnExactSameTold", fn := fun _ => fun
  | [d] => { results := [.lit (.bool true)], args := [d] }
  | _ => none }
def fnExactSameToldRow : OpenClaim := { program := "ytcbkmmhkccnamaagreat", sum := "b3241cd2f9b8f58624b04b8760981107f217c0b4238f9e076f25c43d4b6ccacf", func := "loop.example/g00698/laws.FnExactSameTold", spec := "fnExactSameTold", unfollowed := true, recurses := true, apart := false }
def FnExactSameToldSaid : Prop := fnExactSameToldRow.holds Tryz.pinned (OpenSpec.ofChange fnExactSameToldSpec)

/-- ITS FALSE NEIGHBOUR: 'it returns false'. Refute it at one input. -/
def fnExactSameToldWrong : ChangeSpec := { name := "fnExactSameTold", fn := fun _ => fun
  | [d] => { results := [.lit (.bool false)], args := [d] }
  | _ => none }
def FnExactSameToldWrongFalsely : Prop := fnExactSameToldRow.holds Tryz.pinned (OpenSpec.ofChange fnExactSameToldWrong)

/-- 'laws.FnExactSafeIn': WHATEVER THE INPUT: true; the input reads as it did. -/
def fnExactSafeInSpec : ChangeSpec := { name := "fnExactSafeIn", fn := fun _ => fun
  | [d] => { results := [.lit (.bool true)], args := [d] }
  | _ => none }
def fnExactSafeInRow : OpenClaim := { program := "ytcbkmmhkccnamaagreat", sum := "b3241cd2f9b8f58624b04b8760981107f217c0b4238f9e076f25c43d4b6ccacf", func := "loop.example/g00698/laws.FnExactSafeIn", spec := "fnExactSafeIn", unfollowed := true, recurses := true, apart := false }
def FnExactSafeInSaid : Prop := fnExactSafeInRow.holds Tryz.pinned (OpenSpec.ofChange fnExactSafeInSpec)

/-- ITS FALSE NEIGHBOUR: 'it returns false'. Refute it at one input. -/
def fnExactSafeInWrong : ChangeSpec := { name := "fnExactSafeIn", fn := fun _ => fun
  | [d] => { results := [.lit (.bool false)], args := [d] }
  | _ => none }
def FnExactSafeInWrongFalsely : Prop := fnExactSafeInRow.holds Tryz.pinned (OpenSpec.ofChange fnExactSafeInWrong)

/- THE SECOND FORM. 'bulk': how many values and letters a reading holds, each counted each time it is reached (what is shared counts as often as it is met; a slice's spare places count too). A statement '..UptoSaid' is the law's where the arguments, and the package variables that the reading takes, are together of bulk at most 1048576: NARROWER than '..Said'. Prove '..Said' where nothing that the law and all that it calls make is longer than what came in: it says more and counts as full. Else prove '..UptoSaid'. A law counts once. -/
mutual
def uptoBulk {H : Type} : DataW H → Nat
  | .lit (.string bytes) => bytes.length + 1
  | .lit _ => 1
  | .nil => 1
  | .ptr d => uptoBulk d + 1
  | .slice elems spare => uptoBulkAll elems + uptoBulkAll spare + 1
  | .agg parts => uptoBulkAll parts + 1
  | .iface _ d => uptoBulk d + 1
  | .map entries => uptoBulkEntries entries + 1
  | .held _ => 1
def uptoBulkAll {H : Type} : List (DataW H) → Nat
  | [] => 0
  | d :: r => uptoBulk d + uptoBulkAll r
def uptoBulkEntries {H : Type} : List (Lit × DataW H) → Nat
  | [] => 0
  | x :: r => uptoBulkEntry x + uptoBulkEntries r
def uptoBulkEntry {H : Type} : Lit × DataW H → Nat
  | (.string bytes, d) => bytes.length + uptoBulk d + 1
  | (_, d) => uptoBulk d + 1
 end
def uptoSmall : (H : Type) → List (DataW H) → Bool := fun _ ds => decide (uptoBulkAll ds ≤ 1048576)
def OpenSpec.upto (s : _root_.Go.ChangeSpec) : _root_.Go.OpenSpec := { _root_.Go.OpenSpec.ofChange s with cond := some uptoSmall }

/-- 'laws.FnExactFinishedIn', WHERE WHAT IT READS IS OF BULK AT MOST 1048576: true; the input reads as it did. -/
def fnExactFinishedInUptoRow : OpenClaim := { program := "ytcbkmmhkccnamaagreat", sum := "b3241cd2f9b8f58624b04b8760981107f217c0b4238f9e076f25c43d4b6ccacf", func := "loop.example/g00698/laws.FnExactFinishedIn", spec := "fnExactFinishedIn", unfollowed := true, recurses := true, apart := false, narrowed := true }
def FnExactFinishedInUptoSaid : Prop := fnExactFinishedInUptoRow.holds Tryz.pinned (OpenSpec.upto fnExactFinishedInSpec)

/-- 'laws.FnExactFirstOpen', WHERE WHAT IT READS IS OF BULK AT MOST 1048576: true; the input reads as it did. -/
def fnExactFirstOpenUptoRow : OpenClaim := { program := "ytcbkmmhkccnamaagreat", sum := "b3241cd2f9b8f58624b04b8760981107f217c0b4238f9e076f25c43d4b6ccacf", func := "loop.example/g00698/laws.FnExactFirstOpen", spec := "fnExactFirstOpen", unfollowed := true, recurses := true, apart := false, narrowed := true }
def FnExactFirstOpenUptoSaid : Prop := fnExactFirstOpenUptoRow.holds Tryz.pinned (OpenSpec.upto fnExactFirstOpenSpec)

/-- 'laws.FnExactOrdersAgree', WHERE WHAT IT READS IS OF BULK AT MOST 1048576: true; the input reads as it did. -/
def fnExactOrdersAgreeUptoRow : OpenClaim := { program := "ytcbkmmhkccnamaagreat", sum := "b3241cd2f9b8f58624b04b8760981107f217c0b4238f9e076f25c43d4b6ccacf", func := "loop.example/g00698/laws.FnExactOrdersAgree", spec := "fnExactOrdersAgree", unfollowed := true, recurses := true, apart := false, narrowed := true }
def FnExactOrdersAgreeUptoSaid : Prop := fnExactOrdersAgreeUptoRow.holds Tryz.pinned (OpenSpec.upto fnExactOrdersAgreeSpec)

/-- 'laws.FnExactSameTold', WHERE WHAT IT READS IS OF BULK AT MOST 1048576: true; the input reads as it did. -/
def fnExactSameToldUptoRow : OpenClaim := { program := "ytcbkmmhkccnamaagreat", sum := "b3241cd2f9b8f58624b04b8760981107f217c0b4238f9e076f25c43d4b6ccacf", func := "loop.example/g00698/laws.FnExactSameTold", spec := "fnExactSameTold", unfollowed := true, recurses := true, apart := false, narrowed := true }
def FnExactSameToldUptoSaid : Prop := fnExactSameToldUptoRow.holds Tryz.pinned (OpenSpec.upto fnExactSameToldSpec)

/-- 'laws.FnExactSafeIn', WHERE WHAT IT READS IS OF BULK AT MOST 1048576: true; the input reads as it did. -/
def fnExactSafeInUptoRow : OpenClaim := { program := "ytcbkmmhkccnamaagreat", sum := "b3241cd2f9b8f58624b04b8760981107f217c0b4238f9e076f25c43d4b6ccacf", func := "loop.example/g00698/laws.FnExactSafeIn", spec := "fnExactSafeIn", unfollowed := true, recurses := true, apart := false, narrowed := true }
def FnExactSafeInUptoSaid : Prop := fnExactSafeInUptoRow.holds Tryz.pinned (OpenSpec.upto fnExactSafeInSpec)

end Rows
end Go.Proofs.YtcbkmmhkccnamaaGreat
