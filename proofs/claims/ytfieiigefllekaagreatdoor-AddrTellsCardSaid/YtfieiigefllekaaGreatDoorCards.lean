/-
  DERIVED. GIVEN WITH THE SEED: THE CARDS: each row of YtfieiigefllekaaGreatDoorRows.lean that lists a variable, with what it lists TIED to the program's text (the seventh form; the later family's looks); each row that meets fmt, with fmt's text TOLD by the authors' own Lean function (tested against real Go, not proved from fmt's source: count such statements apart). THE CARD IS WHAT COUNTS. Prove the row's statement (the work); the ties are given (YtfieiigefllekaaGreatDoorTie.lean); close each card by the builder's one call (the guide's Derived/Test/ToyasCard.lean, 'card_holds'). Laid BY PROGRAM, IN A SANDBOX (cutbox-door.mjs). By AI agents, Wed Nov 11 2026. No macro, syntax, notation, axiom, sorry.
-/
import Derived.Test.YtfieiigefllekaaGreatDoorRows
import GoSem.ClaimSeven
namespace Go.Proofs.YtfieiigefllekaaGreatDoor
namespace Rows

/-- THE TIED CARD OF 'mantraplaw05.SixReads'. -/
def sixReadsCard : Claim7 := { stood := { row := sixReadsRow, standIns := [], harness := (true, "914b2d62d44e711cd654b514939df0e725ab82df95a0765d5bc943f3efb0900e"), looks := true }, kinds := [], alts := [], laidByText := true, laidKinds := [.data, .data, .data, .sentinel, .sentinel], laidTests := true, laidLooks := .later }
def SixReadsCardSaid : Prop := Claim7.holds Tryz.pinned (.plain (OpenSpec.ofChange sixReadsSpec)) sixReadsCard

/-- THE TIED CARD OF 'mantraplaw05.SixWrites'. -/
def sixWritesCard : Claim7 := { stood := { row := sixWritesRow, standIns := [], harness := (true, "914b2d62d44e711cd654b514939df0e725ab82df95a0765d5bc943f3efb0900e"), looks := true }, kinds := [], alts := [], laidByText := true, laidKinds := [.data, .data, .data, .sentinel, .sentinel], laidTests := true, laidLooks := .later }
def SixWritesCardSaid : Prop := Claim7.holds Tryz.pinned (.plain (OpenSpec.ofChange sixWritesSpec)) sixWritesCard

/-- THE TIED CARD OF 'mantraplaw06.AddrReads'. -/
def addrReadsCard : Claim7 := { stood := { row := addrReadsRow, standIns := [], harness := (true, "914b2d62d44e711cd654b514939df0e725ab82df95a0765d5bc943f3efb0900e"), looks := true }, kinds := [], alts := [], laidByText := true, laidKinds := [.data, .data, .data, .sentinel, .sentinel], laidTests := true, laidLooks := .later }
def AddrReadsCardSaid : Prop := Claim7.holds Tryz.pinned (.plain (OpenSpec.ofChange addrReadsSpec)) addrReadsCard

/-- THE TIED CARD OF 'mantraplaw06.AddrEmbeds'. -/
def addrEmbedsCard : Claim7 := { stood := { row := addrEmbedsRow, standIns := [], harness := (true, "914b2d62d44e711cd654b514939df0e725ab82df95a0765d5bc943f3efb0900e"), looks := true }, kinds := [], alts := [], laidByText := true, laidKinds := [.data, .data, .data, .sentinel, .sentinel], laidTests := true, laidLooks := .later }
def AddrEmbedsCardSaid : Prop := Claim7.holds Tryz.pinned (.plain (OpenSpec.ofChange addrEmbedsSpec)) addrEmbedsCard

/-- THE TIED CARD OF 'mantraplaw06.AddrOrder'. -/
def addrOrderCard : Claim7 := { stood := { row := addrOrderRow, standIns := [], harness := (true, "914b2d62d44e711cd654b514939df0e725ab82df95a0765d5bc943f3efb0900e"), looks := true }, kinds := [], alts := [], laidByText := true, laidKinds := [.data, .data, .data, .sentinel, .sentinel], laidTests := true, laidLooks := .later }
def AddrOrderCardSaid : Prop := Claim7.holds Tryz.pinned (.plain (OpenSpec.ofChange addrOrderSpec)) addrOrderCard

/-- THE TIED CARD OF 'mantraplaw07.PrefixReads'. -/
def prefixReadsCard : Claim7 := { stood := { row := prefixReadsRow, standIns := [], harness := (true, "914b2d62d44e711cd654b514939df0e725ab82df95a0765d5bc943f3efb0900e"), looks := true }, kinds := [], alts := [], laidByText := true, laidKinds := [.data, .data, .data, .sentinel, .sentinel], laidTests := true, laidLooks := .later }
def PrefixReadsCardSaid : Prop := Claim7.holds Tryz.pinned (.plain (OpenSpec.ofChange prefixReadsSpec)) prefixReadsCard

/-- THE TIED CARD OF 'mantraplaw06.AddrNone'. -/
def addrNoneCard : Claim7 := { stood := { row := addrNoneRow, standIns := [], harness := (true, "914b2d62d44e711cd654b514939df0e725ab82df95a0765d5bc943f3efb0900e"), looks := true }, kinds := [], alts := [], laidByText := true, laidKinds := [.data, .data, .data, .sentinel, .sentinel], laidTests := true, laidLooks := .later }
def AddrNoneCardSaid : Prop := Claim7.holds Tryz.pinned (.plain (OpenSpec.ofChange addrNoneSpec)) addrNoneCard

/-- THE TIED CARD OF 'mantraplaw07.PrefixHalves'. -/
def prefixHalvesCard : Claim7 := { stood := { row := prefixHalvesRow, standIns := [], harness := (true, "914b2d62d44e711cd654b514939df0e725ab82df95a0765d5bc943f3efb0900e"), looks := true }, kinds := [], alts := [], laidByText := true, laidKinds := [.data, .data, .data, .sentinel, .sentinel], laidTests := true, laidLooks := .later }
def PrefixHalvesCardSaid : Prop := Claim7.holds Tryz.pinned (.plain (OpenSpec.ofChange prefixHalvesSpec)) prefixHalvesCard

/-- THE TIED CARD OF 'mantraplaw07.PrefixNests'. -/
def prefixNestsCard : Claim7 := { stood := { row := prefixNestsRow, standIns := [], harness := (true, "914b2d62d44e711cd654b514939df0e725ab82df95a0765d5bc943f3efb0900e"), looks := true }, kinds := [], alts := [], laidByText := true, laidKinds := [.data, .data, .data, .sentinel, .sentinel], laidTests := true, laidLooks := .later }
def PrefixNestsCardSaid : Prop := Claim7.holds Tryz.pinned (.plain (OpenSpec.ofChange prefixNestsSpec)) prefixNestsCard

/-- THE TIED CARD OF 'mantraplaw06.AddrTells'. -/
def addrTellsCard : Claim7 := { stood := { row := addrTellsRow, standIns := [], harness := (true, "914b2d62d44e711cd654b514939df0e725ab82df95a0765d5bc943f3efb0900e"), looks := true }, kinds := [], alts := [], laidByText := true, laidKinds := [.data, .data, .data, .sentinel, .sentinel], laidTests := true, laidLooks := .later }
def AddrTellsCardSaid : Prop := Claim7.holds Tryz.pinned (.plain (OpenSpec.ofChange addrTellsSpec)) addrTellsCard

/-- THE TIED CARD OF 'mantraplaw07.PrefixTells'. -/
def prefixTellsCard : Claim7 := { stood := { row := prefixTellsRow, standIns := [], harness := (true, "914b2d62d44e711cd654b514939df0e725ab82df95a0765d5bc943f3efb0900e"), looks := true }, kinds := [], alts := [], laidByText := true, laidKinds := [.data, .data, .data, .sentinel, .sentinel], laidTests := true, laidLooks := .later }
def PrefixTellsCardSaid : Prop := Claim7.holds Tryz.pinned (.plain (OpenSpec.ofChange prefixTellsSpec)) prefixTellsCard

/-- THE SECOND FORM's CARD OF 'mantraplaw05.SixReads'. -/
def sixReadsUptoCard : Claim7 := { stood := { row := sixReadsUptoRow, standIns := [], harness := (true, "914b2d62d44e711cd654b514939df0e725ab82df95a0765d5bc943f3efb0900e"), looks := true }, kinds := [], alts := [], laidByText := true, laidKinds := [.data, .data, .data, .sentinel, .sentinel], laidTests := true, laidLooks := .later }
def SixReadsUptoCardSaid : Prop := Claim7.holds Tryz.pinned (.plain (OpenSpec.upto sixReadsSpec)) sixReadsUptoCard

/-- THE SECOND FORM's CARD OF 'mantraplaw05.SixWrites'. -/
def sixWritesUptoCard : Claim7 := { stood := { row := sixWritesUptoRow, standIns := [], harness := (true, "914b2d62d44e711cd654b514939df0e725ab82df95a0765d5bc943f3efb0900e"), looks := true }, kinds := [], alts := [], laidByText := true, laidKinds := [.data, .data, .data, .sentinel, .sentinel], laidTests := true, laidLooks := .later }
def SixWritesUptoCardSaid : Prop := Claim7.holds Tryz.pinned (.plain (OpenSpec.upto sixWritesSpec)) sixWritesUptoCard

/-- THE SECOND FORM's CARD OF 'mantraplaw06.AddrReads'. -/
def addrReadsUptoCard : Claim7 := { stood := { row := addrReadsUptoRow, standIns := [], harness := (true, "914b2d62d44e711cd654b514939df0e725ab82df95a0765d5bc943f3efb0900e"), looks := true }, kinds := [], alts := [], laidByText := true, laidKinds := [.data, .data, .data, .sentinel, .sentinel], laidTests := true, laidLooks := .later }
def AddrReadsUptoCardSaid : Prop := Claim7.holds Tryz.pinned (.plain (OpenSpec.upto addrReadsSpec)) addrReadsUptoCard

/-- THE SECOND FORM's CARD OF 'mantraplaw06.AddrEmbeds'. -/
def addrEmbedsUptoCard : Claim7 := { stood := { row := addrEmbedsUptoRow, standIns := [], harness := (true, "914b2d62d44e711cd654b514939df0e725ab82df95a0765d5bc943f3efb0900e"), looks := true }, kinds := [], alts := [], laidByText := true, laidKinds := [.data, .data, .data, .sentinel, .sentinel], laidTests := true, laidLooks := .later }
def AddrEmbedsUptoCardSaid : Prop := Claim7.holds Tryz.pinned (.plain (OpenSpec.upto addrEmbedsSpec)) addrEmbedsUptoCard

/-- THE SECOND FORM's CARD OF 'mantraplaw06.AddrOrder'. -/
def addrOrderUptoCard : Claim7 := { stood := { row := addrOrderUptoRow, standIns := [], harness := (true, "914b2d62d44e711cd654b514939df0e725ab82df95a0765d5bc943f3efb0900e"), looks := true }, kinds := [], alts := [], laidByText := true, laidKinds := [.data, .data, .data, .sentinel, .sentinel], laidTests := true, laidLooks := .later }
def AddrOrderUptoCardSaid : Prop := Claim7.holds Tryz.pinned (.plain (OpenSpec.upto addrOrderSpec)) addrOrderUptoCard

/-- THE SECOND FORM's CARD OF 'mantraplaw07.PrefixReads'. -/
def prefixReadsUptoCard : Claim7 := { stood := { row := prefixReadsUptoRow, standIns := [], harness := (true, "914b2d62d44e711cd654b514939df0e725ab82df95a0765d5bc943f3efb0900e"), looks := true }, kinds := [], alts := [], laidByText := true, laidKinds := [.data, .data, .data, .sentinel, .sentinel], laidTests := true, laidLooks := .later }
def PrefixReadsUptoCardSaid : Prop := Claim7.holds Tryz.pinned (.plain (OpenSpec.upto prefixReadsSpec)) prefixReadsUptoCard

/-- THE SECOND FORM's CARD OF 'mantraplaw06.AddrNone'. -/
def addrNoneUptoCard : Claim7 := { stood := { row := addrNoneUptoRow, standIns := [], harness := (true, "914b2d62d44e711cd654b514939df0e725ab82df95a0765d5bc943f3efb0900e"), looks := true }, kinds := [], alts := [], laidByText := true, laidKinds := [.data, .data, .data, .sentinel, .sentinel], laidTests := true, laidLooks := .later }
def AddrNoneUptoCardSaid : Prop := Claim7.holds Tryz.pinned (.plain (OpenSpec.upto addrNoneSpec)) addrNoneUptoCard

/-- THE SECOND FORM's CARD OF 'mantraplaw07.PrefixHalves'. -/
def prefixHalvesUptoCard : Claim7 := { stood := { row := prefixHalvesUptoRow, standIns := [], harness := (true, "914b2d62d44e711cd654b514939df0e725ab82df95a0765d5bc943f3efb0900e"), looks := true }, kinds := [], alts := [], laidByText := true, laidKinds := [.data, .data, .data, .sentinel, .sentinel], laidTests := true, laidLooks := .later }
def PrefixHalvesUptoCardSaid : Prop := Claim7.holds Tryz.pinned (.plain (OpenSpec.upto prefixHalvesSpec)) prefixHalvesUptoCard

/-- THE SECOND FORM's CARD OF 'mantraplaw07.PrefixNests'. -/
def prefixNestsUptoCard : Claim7 := { stood := { row := prefixNestsUptoRow, standIns := [], harness := (true, "914b2d62d44e711cd654b514939df0e725ab82df95a0765d5bc943f3efb0900e"), looks := true }, kinds := [], alts := [], laidByText := true, laidKinds := [.data, .data, .data, .sentinel, .sentinel], laidTests := true, laidLooks := .later }
def PrefixNestsUptoCardSaid : Prop := Claim7.holds Tryz.pinned (.plain (OpenSpec.upto prefixNestsSpec)) prefixNestsUptoCard

/-- THE SECOND FORM's CARD OF 'mantraplaw06.AddrTells'. -/
def addrTellsUptoCard : Claim7 := { stood := { row := addrTellsUptoRow, standIns := [], harness := (true, "914b2d62d44e711cd654b514939df0e725ab82df95a0765d5bc943f3efb0900e"), looks := true }, kinds := [], alts := [], laidByText := true, laidKinds := [.data, .data, .data, .sentinel, .sentinel], laidTests := true, laidLooks := .later }
def AddrTellsUptoCardSaid : Prop := Claim7.holds Tryz.pinned (.plain (OpenSpec.upto addrTellsSpec)) addrTellsUptoCard

/-- THE SECOND FORM's CARD OF 'mantraplaw07.PrefixTells'. -/
def prefixTellsUptoCard : Claim7 := { stood := { row := prefixTellsUptoRow, standIns := [], harness := (true, "914b2d62d44e711cd654b514939df0e725ab82df95a0765d5bc943f3efb0900e"), looks := true }, kinds := [], alts := [], laidByText := true, laidKinds := [.data, .data, .data, .sentinel, .sentinel], laidTests := true, laidLooks := .later }
def PrefixTellsUptoCardSaid : Prop := Claim7.holds Tryz.pinned (.plain (OpenSpec.upto prefixTellsSpec)) prefixTellsUptoCard
end Rows
end Go.Proofs.YtfieiigefllekaaGreatDoor
