/-
  DERIVED. GIVEN WITH THE SEED: THE CARDS: each row of YtfcnfkedoihpoaaDoorRows.lean that lists a variable, with what it lists TIED to the program's text (the seventh form; the later family's looks); each row that meets fmt, with fmt's text TOLD by the authors' own Lean function (tested against real Go, not proved from fmt's source: count such statements apart). THE CARD IS WHAT COUNTS. Prove the row's statement (the work); the ties are given (YtfcnfkedoihpoaaDoorTie.lean); close each card by the builder's one call (the guide's Derived/Test/ToyasCard.lean, 'card_holds'). Laid BY PROGRAM, IN A SANDBOX (cutbox-door.mjs). By AI agents, Wed Nov 11 2026. No macro, syntax, notation, axiom, sorry.
-/
import Derived.Test.YtfcnfkedoihpoaaDoorRows
import GoSem.ClaimSeven
namespace Go.Proofs.YtfcnfkedoihpoaaDoor
namespace Rows

/-- THE TIED CARD OF 'mantraplaw02.PercentBytes'. -/
def percentBytesCard : Claim7 := { stood := { row := percentBytesRow, standIns := [], harness := (true, "5822e3b047f1f4493e55e433346ead3d93ed6e90d9ee6bcc3bf2c83a22499913"), looks := true }, kinds := [], alts := [], laidByText := true, laidKinds := [.data, .pinned, .pinned], laidTests := true, laidLooks := .later }
def PercentBytesCardSaid : Prop := Claim7.holds Tryd.pinned (.plain (OpenSpec.ofChange percentBytesSpec)) percentBytesCard

/-- THE TIED CARD OF 'mantraplaw04.FourShort'. -/
def fourShortCard : Claim7 := { stood := { row := fourShortRow, standIns := [], harness := (true, "5822e3b047f1f4493e55e433346ead3d93ed6e90d9ee6bcc3bf2c83a22499913"), looks := true }, kinds := [], alts := [], laidByText := true, laidKinds := [.data, .data, .data], laidTests := true, laidLooks := .later }
def FourShortCardSaid : Prop := Claim7.holds Tryd.pinned (.plain (OpenSpec.ofChange fourShortSpec)) fourShortCard

/-- THE TIED CARD OF 'mantraplaw04.FourReads'. -/
def fourReadsCard : Claim7 := { stood := { row := fourReadsRow, standIns := [], harness := (true, "5822e3b047f1f4493e55e433346ead3d93ed6e90d9ee6bcc3bf2c83a22499913"), looks := true }, kinds := [], alts := [], laidByText := true, laidKinds := [.data, .data, .data, .sentinel, .sentinel], laidTests := true, laidLooks := .later }
def FourReadsCardSaid : Prop := Claim7.holds Tryd.pinned (.plain (OpenSpec.ofChange fourReadsSpec)) fourReadsCard

/-- THE TIED CARD OF 'mantraplaw04.FourStrict'. -/
def fourStrictCard : Claim7 := { stood := { row := fourStrictRow, standIns := [], harness := (true, "5822e3b047f1f4493e55e433346ead3d93ed6e90d9ee6bcc3bf2c83a22499913"), looks := true }, kinds := [], alts := [], laidByText := true, laidKinds := [.data, .data, .data, .sentinel, .sentinel], laidTests := true, laidLooks := .later }
def FourStrictCardSaid : Prop := Claim7.holds Tryd.pinned (.plain (OpenSpec.ofChange fourStrictSpec)) fourStrictCard

/-- THE TIED CARD OF 'mantraplaw04.FourWrites'. -/
def fourWritesCard : Claim7 := { stood := { row := fourWritesRow, standIns := [], harness := (true, "5822e3b047f1f4493e55e433346ead3d93ed6e90d9ee6bcc3bf2c83a22499913"), looks := true }, kinds := [], alts := [], laidByText := true, laidKinds := [.data, .data, .data, .sentinel, .sentinel], laidTests := true, laidLooks := .later }
def FourWritesCardSaid : Prop := Claim7.holds Tryd.pinned (.plain (OpenSpec.ofChange fourWritesSpec)) fourWritesCard

/-- THE TIED CARD OF 'mantraplaw05.SixOf'. -/
def sixOfCard : Claim7 := { stood := { row := sixOfRow, standIns := [], harness := (true, "5822e3b047f1f4493e55e433346ead3d93ed6e90d9ee6bcc3bf2c83a22499913"), looks := true }, kinds := [], alts := [], laidByText := true, laidKinds := [.data, .data, .data, .sentinel, .sentinel], laidTests := true, laidLooks := .later }
def SixOfCardSaid : Prop := Claim7.holds Tryd.pinned (.plain (OpenSpec.ofChange sixOfSpec)) sixOfCard

/-- THE SECOND FORM's CARD OF 'mantraplaw02.PercentBytes'. -/
def percentBytesUptoCard : Claim7 := { stood := { row := percentBytesUptoRow, standIns := [], harness := (true, "5822e3b047f1f4493e55e433346ead3d93ed6e90d9ee6bcc3bf2c83a22499913"), looks := true }, kinds := [], alts := [], laidByText := true, laidKinds := [.data, .pinned, .pinned], laidTests := true, laidLooks := .later }
def PercentBytesUptoCardSaid : Prop := Claim7.holds Tryd.pinned (.plain (OpenSpec.upto percentBytesSpec)) percentBytesUptoCard

/-- THE SECOND FORM's CARD OF 'mantraplaw04.FourShort'. -/
def fourShortUptoCard : Claim7 := { stood := { row := fourShortUptoRow, standIns := [], harness := (true, "5822e3b047f1f4493e55e433346ead3d93ed6e90d9ee6bcc3bf2c83a22499913"), looks := true }, kinds := [], alts := [], laidByText := true, laidKinds := [.data, .data, .data], laidTests := true, laidLooks := .later }
def FourShortUptoCardSaid : Prop := Claim7.holds Tryd.pinned (.plain (OpenSpec.upto fourShortSpec)) fourShortUptoCard

/-- THE SECOND FORM's CARD OF 'mantraplaw04.FourReads'. -/
def fourReadsUptoCard : Claim7 := { stood := { row := fourReadsUptoRow, standIns := [], harness := (true, "5822e3b047f1f4493e55e433346ead3d93ed6e90d9ee6bcc3bf2c83a22499913"), looks := true }, kinds := [], alts := [], laidByText := true, laidKinds := [.data, .data, .data, .sentinel, .sentinel], laidTests := true, laidLooks := .later }
def FourReadsUptoCardSaid : Prop := Claim7.holds Tryd.pinned (.plain (OpenSpec.upto fourReadsSpec)) fourReadsUptoCard

/-- THE SECOND FORM's CARD OF 'mantraplaw04.FourStrict'. -/
def fourStrictUptoCard : Claim7 := { stood := { row := fourStrictUptoRow, standIns := [], harness := (true, "5822e3b047f1f4493e55e433346ead3d93ed6e90d9ee6bcc3bf2c83a22499913"), looks := true }, kinds := [], alts := [], laidByText := true, laidKinds := [.data, .data, .data, .sentinel, .sentinel], laidTests := true, laidLooks := .later }
def FourStrictUptoCardSaid : Prop := Claim7.holds Tryd.pinned (.plain (OpenSpec.upto fourStrictSpec)) fourStrictUptoCard

/-- THE SECOND FORM's CARD OF 'mantraplaw04.FourWrites'. -/
def fourWritesUptoCard : Claim7 := { stood := { row := fourWritesUptoRow, standIns := [], harness := (true, "5822e3b047f1f4493e55e433346ead3d93ed6e90d9ee6bcc3bf2c83a22499913"), looks := true }, kinds := [], alts := [], laidByText := true, laidKinds := [.data, .data, .data, .sentinel, .sentinel], laidTests := true, laidLooks := .later }
def FourWritesUptoCardSaid : Prop := Claim7.holds Tryd.pinned (.plain (OpenSpec.upto fourWritesSpec)) fourWritesUptoCard

/-- THE SECOND FORM's CARD OF 'mantraplaw05.SixOf'. -/
def sixOfUptoCard : Claim7 := { stood := { row := sixOfUptoRow, standIns := [], harness := (true, "5822e3b047f1f4493e55e433346ead3d93ed6e90d9ee6bcc3bf2c83a22499913"), looks := true }, kinds := [], alts := [], laidByText := true, laidKinds := [.data, .data, .data, .sentinel, .sentinel], laidTests := true, laidLooks := .later }
def SixOfUptoCardSaid : Prop := Claim7.holds Tryd.pinned (.plain (OpenSpec.upto sixOfSpec)) sixOfUptoCard
end Rows
end Go.Proofs.YtfcnfkedoihpoaaDoor
