/-
  DERIVED. GIVEN WITH THE SEED: THE CARDS: each row of YtnlhnfifkninpaaGreatDoorRows.lean that lists a variable, with what it lists TIED to the program's text (the seventh form; the later family's looks); each row that meets fmt, with fmt's text TOLD by the authors' own Lean function (tested against real Go, not proved from fmt's source: count such statements apart). THE CARD IS WHAT COUNTS. Prove the row's statement (the work); the ties are given (YtnlhnfifkninpaaGreatDoorTie.lean); close each card by the builder's one call (the guide's Derived/Test/ToyasCard.lean, 'card_holds'). Laid BY PROGRAM, IN A SANDBOX (cutbox-door.mjs). By AI agents, Wed Nov 11 2026. No macro, syntax, notation, axiom, sorry.
-/
import Derived.Test.YtnlhnfifkninpaaGreatDoorRows
import GoSem.ClaimSeven
namespace Go.Proofs.YtnlhnfifkninpaaGreatDoor
namespace Rows

/-- THE TIED CARD OF 'laws.FnExactAddLog'. -/
def fnExactAddLogCard : Claim7 := { stood := { row := fnExactAddLogRow, standIns := [], harness := (true, "12061314ebbcaaebbeb6f6ce5c7748a0e1ae4555e97461aae151f16b74fab5e5"), looks := false }, kinds := [], alts := [], laidByText := true, laidKinds := [.data, .data, .data, .data, .pinned], laidTests := true, laidLooks := .later }
def FnExactAddLogCardSaid : Prop := Claim7.holds Tryz.pinned (.plain (OpenSpec.ofChange fnExactAddLogSpec)) fnExactAddLogCard

/-- THE SECOND FORM's CARD OF 'laws.FnExactAddLog'. -/
def fnExactAddLogUptoCard : Claim7 := { stood := { row := fnExactAddLogUptoRow, standIns := [], harness := (true, "12061314ebbcaaebbeb6f6ce5c7748a0e1ae4555e97461aae151f16b74fab5e5"), looks := false }, kinds := [], alts := [], laidByText := true, laidKinds := [.data, .data, .data, .data, .pinned], laidTests := true, laidLooks := .later }
def FnExactAddLogUptoCardSaid : Prop := Claim7.holds Tryz.pinned (.plain (OpenSpec.upto fnExactAddLogSpec)) fnExactAddLogUptoCard
end Rows
end Go.Proofs.YtnlhnfifkninpaaGreatDoor
