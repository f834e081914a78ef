/-
  DERIVED. GIVEN WITH THE SEED: THE CARDS: each row of YtdpfilpckndhcaaGreatDoorRows.lean that lists a variable, with what it lists TIED to the program's text (the seventh form; the later family's looks); each row that meets fmt, with fmt's text TOLD by the authors' own Lean function (tested against real Go, not proved from fmt's source: count such statements apart). THE CARD IS WHAT COUNTS. Prove the row's statement (the work); the ties are given (YtdpfilpckndhcaaGreatDoorTie.lean); close each card by the builder's one call (the guide's Derived/Test/ToyasCard.lean, 'card_holds'). Laid BY PROGRAM, IN A SANDBOX (cutbox-door.mjs). By AI agents, Wed Nov 11 2026. No macro, syntax, notation, axiom, sorry.
-/
import Derived.Test.YtdpfilpckndhcaaGreatDoorRows
import GoSem.ClaimSeven
namespace Go.Proofs.YtdpfilpckndhcaaGreatDoor
namespace Rows

/-- THE TIED CARD OF 'laws.FnMsgs'. -/
def fnMsgsCard : Claim7 := { stood := { row := fnMsgsRow, standIns := [], harness := (true, "b75122bb54f0817f7b736e676332f8c8cb69c6e643743af4b85e028e425d77dd"), looks := false }, kinds := [], alts := [], laidByText := true, laidKinds := [.data, .data, .data, .data, .pinned], laidTests := true, laidLooks := .later }
def FnMsgsCardSaid : Prop := Claim7.holds Tryz.pinned (.plain (OpenSpec.ofChange fnMsgsSpec)) fnMsgsCard

/-- THE TIED CARD OF 'laws.FnLog'. -/
def fnLogCard : Claim7 := { stood := { row := fnLogRow, standIns := [], harness := (true, "b75122bb54f0817f7b736e676332f8c8cb69c6e643743af4b85e028e425d77dd"), looks := false }, kinds := [], alts := [], laidByText := true, laidKinds := [.data, .data, .data, .data, .pinned], laidTests := true, laidLooks := .later }
def FnLogCardSaid : Prop := Claim7.holds Tryz.pinned (.plain (OpenSpec.ofChange fnLogSpec)) fnLogCard

/-- THE TIED CARD OF 'laws.FnFrames'. -/
def fnFramesCard : Claim7 := { stood := { row := fnFramesRow, standIns := [], harness := (true, "b75122bb54f0817f7b736e676332f8c8cb69c6e643743af4b85e028e425d77dd"), looks := false }, kinds := [], alts := [], laidByText := true, laidKinds := [.data, .data, .data, .data, .pinned], laidTests := true, laidLooks := .later }
def FnFramesCardSaid : Prop := Claim7.holds Tryz.pinned (.plain (OpenSpec.ofChange fnFramesSpec)) fnFramesCard

/-- THE SECOND FORM's CARD OF 'laws.FnMsgs'. -/
def fnMsgsUptoCard : Claim7 := { stood := { row := fnMsgsUptoRow, standIns := [], harness := (true, "b75122bb54f0817f7b736e676332f8c8cb69c6e643743af4b85e028e425d77dd"), looks := false }, kinds := [], alts := [], laidByText := true, laidKinds := [.data, .data, .data, .data, .pinned], laidTests := true, laidLooks := .later }
def FnMsgsUptoCardSaid : Prop := Claim7.holds Tryz.pinned (.plain (OpenSpec.upto fnMsgsSpec)) fnMsgsUptoCard

/-- THE SECOND FORM's CARD OF 'laws.FnLog'. -/
def fnLogUptoCard : Claim7 := { stood := { row := fnLogUptoRow, standIns := [], harness := (true, "b75122bb54f0817f7b736e676332f8c8cb69c6e643743af4b85e028e425d77dd"), looks := false }, kinds := [], alts := [], laidByText := true, laidKinds := [.data, .data, .data, .data, .pinned], laidTests := true, laidLooks := .later }
def FnLogUptoCardSaid : Prop := Claim7.holds Tryz.pinned (.plain (OpenSpec.upto fnLogSpec)) fnLogUptoCard

/-- THE SECOND FORM's CARD OF 'laws.FnFrames'. -/
def fnFramesUptoCard : Claim7 := { stood := { row := fnFramesUptoRow, standIns := [], harness := (true, "b75122bb54f0817f7b736e676332f8c8cb69c6e643743af4b85e028e425d77dd"), looks := false }, kinds := [], alts := [], laidByText := true, laidKinds := [.data, .data, .data, .data, .pinned], laidTests := true, laidLooks := .later }
def FnFramesUptoCardSaid : Prop := Claim7.holds Tryz.pinned (.plain (OpenSpec.upto fnFramesSpec)) fnFramesUptoCard
end Rows
end Go.Proofs.YtdpfilpckndhcaaGreatDoor
