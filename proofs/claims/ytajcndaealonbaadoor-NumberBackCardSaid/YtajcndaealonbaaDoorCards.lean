/-
  DERIVED. GIVEN WITH THE SEED: THE CARDS: each row of YtajcndaealonbaaDoorRows.lean that lists a variable, with what it lists TIED to the program's text (the seventh form; the later family's looks); each row that meets fmt, with fmt's text TOLD by the authors' own Lean function (tested against real Go, not proved from fmt's source: count such statements apart). THE CARD IS WHAT COUNTS. Prove the row's statement (the work); the ties are given (YtajcndaealonbaaDoorTie.lean); close each card by the builder's one call (the guide's Derived/Test/ToyasCard.lean, 'card_holds'). Laid BY PROGRAM, IN A SANDBOX (cutbox-door.mjs). By AI agents, Wed Nov 11 2026. No macro, syntax, notation, axiom, sorry.
-/
import Derived.Test.YtajcndaealonbaaDoorRows
import GoSem.ClaimSeven
namespace Go.Proofs.YtajcndaealonbaaDoor
namespace Rows

/-- THE TIED CARD OF 'mantraplaw02.PercentBytes'. -/
def percentBytesCard : Claim7 := { stood := { row := percentBytesRow, standIns := [], harness := (true, "ee28126ce422ee0f937c89cee1905a7832b379c89d3c4feb93c92f48b900ee1b"), looks := true }, kinds := [], alts := [], laidByText := true, laidKinds := [.data, .pinned, .pinned], laidTests := true, laidLooks := .later }
def PercentBytesCardSaid : Prop := Claim7.holds Tryd.pinned (.plain (OpenSpec.ofChange percentBytesSpec)) percentBytesCard

/-- THE TIED CARD OF 'mantraplaw04.FourShort'. -/
def fourShortCard : Claim7 := { stood := { row := fourShortRow, standIns := [], harness := (true, "ee28126ce422ee0f937c89cee1905a7832b379c89d3c4feb93c92f48b900ee1b"), looks := true }, kinds := [], alts := [], laidByText := true, laidKinds := [.data, .data, .data], laidTests := true, laidLooks := .later }
def FourShortCardSaid : Prop := Claim7.holds Tryd.pinned (.plain (OpenSpec.ofChange fourShortSpec)) fourShortCard

/-- THE TIED CARD OF 'mantraplaw03.NumberReads'. -/
def numberReadsCard : Claim7 := { stood := { row := numberReadsRow, standIns := [], harness := (true, "ee28126ce422ee0f937c89cee1905a7832b379c89d3c4feb93c92f48b900ee1b"), looks := true }, kinds := [], alts := [], laidByText := true, laidKinds := [.data, .data, .data, .sentinel, .sentinel], laidTests := true, laidLooks := .later }
def NumberReadsCardSaid : Prop := Claim7.holds Tryd.pinned (.plain (OpenSpec.ofChange numberReadsSpec)) numberReadsCard

/-- THE TIED CARD OF 'mantraplaw03.NumberBack'. -/
def numberBackCard : Claim7 := { stood := { row := numberBackRow, standIns := [], harness := (true, "ee28126ce422ee0f937c89cee1905a7832b379c89d3c4feb93c92f48b900ee1b"), looks := true }, kinds := [], alts := [], laidByText := true, laidKinds := [.data, .data, .data, .sentinel, .sentinel], laidTests := true, laidLooks := .later }
def NumberBackCardSaid : Prop := Claim7.holds Tryd.pinned (.plain (OpenSpec.ofChange numberBackSpec)) numberBackCard

/-- THE TIED CARD OF 'mantraplaw04.FourReads'. -/
def fourReadsCard : Claim7 := { stood := { row := fourReadsRow, standIns := [], harness := (true, "ee28126ce422ee0f937c89cee1905a7832b379c89d3c4feb93c92f48b900ee1b"), looks := true }, kinds := [], alts := [], laidByText := true, laidKinds := [.data, .data, .data, .sentinel, .sentinel], laidTests := true, laidLooks := .later }
def FourReadsCardSaid : Prop := Claim7.holds Tryd.pinned (.plain (OpenSpec.ofChange fourReadsSpec)) fourReadsCard

/-- THE TIED CARD OF 'mantraplaw04.FourStrict'. -/
def fourStrictCard : Claim7 := { stood := { row := fourStrictRow, standIns := [], harness := (true, "ee28126ce422ee0f937c89cee1905a7832b379c89d3c4feb93c92f48b900ee1b"), looks := true }, kinds := [], alts := [], laidByText := true, laidKinds := [.data, .data, .data, .sentinel, .sentinel], laidTests := true, laidLooks := .later }
def FourStrictCardSaid : Prop := Claim7.holds Tryd.pinned (.plain (OpenSpec.ofChange fourStrictSpec)) fourStrictCard

/-- THE TIED CARD OF 'mantraplaw04.FourWrites'. -/
def fourWritesCard : Claim7 := { stood := { row := fourWritesRow, standIns := [], harness := (true, "ee28126ce422ee0f937c89cee1905a7832b379c89d3c4feb93c92f48b900ee1b"), looks := true }, kinds := [], alts := [], laidByText := true, laidKinds := [.data, .data, .data, .sentinel, .sentinel], laidTests := true, laidLooks := .later }
def FourWritesCardSaid : Prop := Claim7.holds Tryd.pinned (.plain (OpenSpec.ofChange fourWritesSpec)) fourWritesCard

/-- THE TIED CARD OF 'mantraplaw05.SixOf'. -/
def sixOfCard : Claim7 := { stood := { row := sixOfRow, standIns := [], harness := (true, "ee28126ce422ee0f937c89cee1905a7832b379c89d3c4feb93c92f48b900ee1b"), looks := true }, kinds := [], alts := [], laidByText := true, laidKinds := [.data, .data, .data, .sentinel, .sentinel], laidTests := true, laidLooks := .later }
def SixOfCardSaid : Prop := Claim7.holds Tryd.pinned (.plain (OpenSpec.ofChange sixOfSpec)) sixOfCard

/-- THE SECOND FORM's CARD OF 'mantraplaw02.PercentBytes'. -/
def percentBytesUptoCard : Claim7 := { stood := { row := percentBytesUptoRow, standIns := [], harness := (true, "ee28126ce422ee0f937c89cee1905a7832b379c89d3c4feb93c92f48b900ee1b"), looks := true }, kinds := [], alts := [], laidByText := true, laidKinds := [.data, .pinned, .pinned], laidTests := true, laidLooks := .later }
def PercentBytesUptoCardSaid : Prop := Claim7.holds Tryd.pinned (.plain (OpenSpec.upto percentBytesSpec)) percentBytesUptoCard

/-- THE SECOND FORM's CARD OF 'mantraplaw04.FourShort'. -/
def fourShortUptoCard : Claim7 := { stood := { row := fourShortUptoRow, standIns := [], harness := (true, "ee28126ce422ee0f937c89cee1905a7832b379c89d3c4feb93c92f48b900ee1b"), looks := true }, kinds := [], alts := [], laidByText := true, laidKinds := [.data, .data, .data], laidTests := true, laidLooks := .later }
def FourShortUptoCardSaid : Prop := Claim7.holds Tryd.pinned (.plain (OpenSpec.upto fourShortSpec)) fourShortUptoCard

/-- THE SECOND FORM's CARD OF 'mantraplaw03.NumberReads'. -/
def numberReadsUptoCard : Claim7 := { stood := { row := numberReadsUptoRow, standIns := [], harness := (true, "ee28126ce422ee0f937c89cee1905a7832b379c89d3c4feb93c92f48b900ee1b"), looks := true }, kinds := [], alts := [], laidByText := true, laidKinds := [.data, .data, .data, .sentinel, .sentinel], laidTests := true, laidLooks := .later }
def NumberReadsUptoCardSaid : Prop := Claim7.holds Tryd.pinned (.plain (OpenSpec.upto numberReadsSpec)) numberReadsUptoCard

/-- THE SECOND FORM's CARD OF 'mantraplaw03.NumberBack'. -/
def numberBackUptoCard : Claim7 := { stood := { row := numberBackUptoRow, standIns := [], harness := (true, "ee28126ce422ee0f937c89cee1905a7832b379c89d3c4feb93c92f48b900ee1b"), looks := true }, kinds := [], alts := [], laidByText := true, laidKinds := [.data, .data, .data, .sentinel, .sentinel], laidTests := true, laidLooks := .later }
def NumberBackUptoCardSaid : Prop := Claim7.holds Tryd.pinned (.plain (OpenSpec.upto numberBackSpec)) numberBackUptoCard

/-- THE SECOND FORM's CARD OF 'mantraplaw04.FourReads'. -/
def fourReadsUptoCard : Claim7 := { stood := { row := fourReadsUptoRow, standIns := [], harness := (true, "ee28126ce422ee0f937c89cee1905a7832b379c89d3c4feb93c92f48b900ee1b"), looks := true }, kinds := [], alts := [], laidByText := true, laidKinds := [.data, .data, .data, .sentinel, .sentinel], laidTests := true, laidLooks := .later }
def FourReadsUptoCardSaid : Prop := Claim7.holds Tryd.pinned (.plain (OpenSpec.upto fourReadsSpec)) fourReadsUptoCard

/-- THE SECOND FORM's CARD OF 'mantraplaw04.FourStrict'. -/
def fourStrictUptoCard : Claim7 := { stood := { row := fourStrictUptoRow, standIns := [], harness := (true, "ee28126ce422ee0f937c89cee1905a7832b379c89d3c4feb93c92f48b900ee1b"), looks := true }, kinds := [], alts := [], laidByText := true, laidKinds := [.data, .data, .data, .sentinel, .sentinel], laidTests := true, laidLooks := .later }
def FourStrictUptoCardSaid : Prop := Claim7.holds Tryd.pinned (.plain (OpenSpec.upto fourStrictSpec)) fourStrictUptoCard

/-- THE SECOND FORM's CARD OF 'mantraplaw04.FourWrites'. -/
def fourWritesUptoCard : Claim7 := { stood := { row := fourWritesUptoRow, standIns := [], harness := (true, "ee28126ce422ee0f937c89cee1905a7832b379c89d3c4feb93c92f48b900ee1b"), looks := true }, kinds := [], alts := [], laidByText := true, laidKinds := [.data, .data, .data, .sentinel, .sentinel], laidTests := true, laidLooks := .later }
def FourWritesUptoCardSaid : Prop := Claim7.holds Tryd.pinned (.plain (OpenSpec.upto fourWritesSpec)) fourWritesUptoCard

/-- THE SECOND FORM's CARD OF 'mantraplaw05.SixOf'. -/
def sixOfUptoCard : Claim7 := { stood := { row := sixOfUptoRow, standIns := [], harness := (true, "ee28126ce422ee0f937c89cee1905a7832b379c89d3c4feb93c92f48b900ee1b"), looks := true }, kinds := [], alts := [], laidByText := true, laidKinds := [.data, .data, .data, .sentinel, .sentinel], laidTests := true, laidLooks := .later }
def SixOfUptoCardSaid : Prop := Claim7.holds Tryd.pinned (.plain (OpenSpec.upto sixOfSpec)) sixOfUptoCard
end Rows
end Go.Proofs.YtajcndaealonbaaDoor
