/-
  DERIVED. GIVEN WITH THE SEED: THE CARDS: each row of YtnlhnfifkninpaaDoorRows.lean that lists a variable, with what it lists TIED to the program's text (the seventh form; the later family's looks); each row that meets fmt, with fmt's text TOLD by the authors' own Lean function (tested against real Go, not proved from fmt's source: count such statements apart). THE CARD IS WHAT COUNTS. Prove the row's statement (the work); the ties are given (YtnlhnfifkninpaaDoorTie.lean); close each card by the builder's one call (the guide's Derived/Test/ToyasCard.lean, 'card_holds'). Laid BY PROGRAM, IN A SANDBOX (cutbox-door.mjs). By AI agents, Wed Nov 11 2026. No macro, syntax, notation, axiom, sorry.
-/
import Derived.Test.YtnlhnfifkninpaaDoorRows
import GoSem.ClaimSeven
namespace Go.Proofs.YtnlhnfifkninpaaDoor
namespace Rows

/-- THE TIED CARD OF 'laws.FnExactRowText'. -/
def fnExactRowTextCard : Claim7 := { stood := { row := fnExactRowTextRow, standIns := [], harness := (true, "f2ec5808c613660ba0279a59b86d43edbdd721eaaf266ab35cecbc0a89a1ea4d"), looks := false }, kinds := [], alts := [], laidByText := true, laidKinds := [.data, .data, .data], laidTests := true, laidLooks := .later }
def FnExactRowTextCardSaid : Prop := Claim7.holds Tryd.pinned (.plain (OpenSpec.ofChange fnExactRowTextSpec)) fnExactRowTextCard

/-- THE TIED CARD OF 'laws.FnExactMsgText'. -/
def fnExactMsgTextCard : Claim7 := { stood := { row := fnExactMsgTextRow, standIns := [], harness := (true, "f2ec5808c613660ba0279a59b86d43edbdd721eaaf266ab35cecbc0a89a1ea4d"), looks := false }, kinds := [], alts := [], laidByText := true, laidKinds := [.data, .data, .data], laidTests := true, laidLooks := .later }
def FnExactMsgTextCardSaid : Prop := Claim7.holds Tryd.pinned (.plain (OpenSpec.ofChange fnExactMsgTextSpec)) fnExactMsgTextCard

/-- THE TIED CARD OF 'laws.FnExactLogOf'. -/
def fnExactLogOfCard : Claim7 := { stood := { row := fnExactLogOfRow, standIns := [], harness := (true, "f2ec5808c613660ba0279a59b86d43edbdd721eaaf266ab35cecbc0a89a1ea4d"), looks := false }, kinds := [], alts := [], laidByText := true, laidKinds := [.data, .data, .data], laidTests := true, laidLooks := .later }
def FnExactLogOfCardSaid : Prop := Claim7.holds Tryd.pinned (.plain (OpenSpec.ofChange fnExactLogOfSpec)) fnExactLogOfCard

/-- THE TIED CARD OF 'laws.FnExactReadRow'. -/
def fnExactReadRowCard : Claim7 := { stood := { row := fnExactReadRowRow, standIns := [], harness := (true, "f2ec5808c613660ba0279a59b86d43edbdd721eaaf266ab35cecbc0a89a1ea4d"), looks := false }, kinds := [], alts := [], laidByText := true, laidKinds := [.data, .pinned], laidTests := true, laidLooks := .later }
def FnExactReadRowCardSaid : Prop := Claim7.holds Tryd.pinned (.plain (OpenSpec.ofChange fnExactReadRowSpec)) fnExactReadRowCard

/-- THE TIED CARD OF 'laws.FnExactReadMsg'. -/
def fnExactReadMsgCard : Claim7 := { stood := { row := fnExactReadMsgRow, standIns := [], harness := (true, "f2ec5808c613660ba0279a59b86d43edbdd721eaaf266ab35cecbc0a89a1ea4d"), looks := false }, kinds := [], alts := [], laidByText := true, laidKinds := [.data, .pinned], laidTests := true, laidLooks := .later }
def FnExactReadMsgCardSaid : Prop := Claim7.holds Tryd.pinned (.plain (OpenSpec.ofChange fnExactReadMsgSpec)) fnExactReadMsgCard

/-- THE TIED CARD OF 'laws.FnExactFoldLog'. -/
def fnExactFoldLogCard : Claim7 := { stood := { row := fnExactFoldLogRow, standIns := [], harness := (true, "f2ec5808c613660ba0279a59b86d43edbdd721eaaf266ab35cecbc0a89a1ea4d"), looks := false }, kinds := [], alts := [], laidByText := true, laidKinds := [.data, .pinned], laidTests := true, laidLooks := .later }
def FnExactFoldLogCardSaid : Prop := Claim7.holds Tryd.pinned (.plain (OpenSpec.ofChange fnExactFoldLogSpec)) fnExactFoldLogCard

/-- THE SECOND FORM's CARD OF 'laws.FnExactRowText'. -/
def fnExactRowTextUptoCard : Claim7 := { stood := { row := fnExactRowTextUptoRow, standIns := [], harness := (true, "f2ec5808c613660ba0279a59b86d43edbdd721eaaf266ab35cecbc0a89a1ea4d"), looks := false }, kinds := [], alts := [], laidByText := true, laidKinds := [.data, .data, .data], laidTests := true, laidLooks := .later }
def FnExactRowTextUptoCardSaid : Prop := Claim7.holds Tryd.pinned (.plain (OpenSpec.upto fnExactRowTextSpec)) fnExactRowTextUptoCard

/-- THE SECOND FORM's CARD OF 'laws.FnExactMsgText'. -/
def fnExactMsgTextUptoCard : Claim7 := { stood := { row := fnExactMsgTextUptoRow, standIns := [], harness := (true, "f2ec5808c613660ba0279a59b86d43edbdd721eaaf266ab35cecbc0a89a1ea4d"), looks := false }, kinds := [], alts := [], laidByText := true, laidKinds := [.data, .data, .data], laidTests := true, laidLooks := .later }
def FnExactMsgTextUptoCardSaid : Prop := Claim7.holds Tryd.pinned (.plain (OpenSpec.upto fnExactMsgTextSpec)) fnExactMsgTextUptoCard

/-- THE SECOND FORM's CARD OF 'laws.FnExactLogOf'. -/
def fnExactLogOfUptoCard : Claim7 := { stood := { row := fnExactLogOfUptoRow, standIns := [], harness := (true, "f2ec5808c613660ba0279a59b86d43edbdd721eaaf266ab35cecbc0a89a1ea4d"), looks := false }, kinds := [], alts := [], laidByText := true, laidKinds := [.data, .data, .data], laidTests := true, laidLooks := .later }
def FnExactLogOfUptoCardSaid : Prop := Claim7.holds Tryd.pinned (.plain (OpenSpec.upto fnExactLogOfSpec)) fnExactLogOfUptoCard

/-- THE SECOND FORM's CARD OF 'laws.FnExactReadRow'. -/
def fnExactReadRowUptoCard : Claim7 := { stood := { row := fnExactReadRowUptoRow, standIns := [], harness := (true, "f2ec5808c613660ba0279a59b86d43edbdd721eaaf266ab35cecbc0a89a1ea4d"), looks := false }, kinds := [], alts := [], laidByText := true, laidKinds := [.data, .pinned], laidTests := true, laidLooks := .later }
def FnExactReadRowUptoCardSaid : Prop := Claim7.holds Tryd.pinned (.plain (OpenSpec.upto fnExactReadRowSpec)) fnExactReadRowUptoCard

/-- THE SECOND FORM's CARD OF 'laws.FnExactReadMsg'. -/
def fnExactReadMsgUptoCard : Claim7 := { stood := { row := fnExactReadMsgUptoRow, standIns := [], harness := (true, "f2ec5808c613660ba0279a59b86d43edbdd721eaaf266ab35cecbc0a89a1ea4d"), looks := false }, kinds := [], alts := [], laidByText := true, laidKinds := [.data, .pinned], laidTests := true, laidLooks := .later }
def FnExactReadMsgUptoCardSaid : Prop := Claim7.holds Tryd.pinned (.plain (OpenSpec.upto fnExactReadMsgSpec)) fnExactReadMsgUptoCard

/-- THE SECOND FORM's CARD OF 'laws.FnExactFoldLog'. -/
def fnExactFoldLogUptoCard : Claim7 := { stood := { row := fnExactFoldLogUptoRow, standIns := [], harness := (true, "f2ec5808c613660ba0279a59b86d43edbdd721eaaf266ab35cecbc0a89a1ea4d"), looks := false }, kinds := [], alts := [], laidByText := true, laidKinds := [.data, .pinned], laidTests := true, laidLooks := .later }
def FnExactFoldLogUptoCardSaid : Prop := Claim7.holds Tryd.pinned (.plain (OpenSpec.upto fnExactFoldLogSpec)) fnExactFoldLogUptoCard
end Rows
end Go.Proofs.YtnlhnfifkninpaaDoor
