/-
  DERIVED. GIVEN WITH THE SEED: THE CARDS: each row of YtplehdcnnaamkaaGreatDoorRows.lean that lists a variable, with what it lists TIED to the program's text (the seventh form; the later family's looks); each row that meets fmt, with fmt's text TOLD by the authors' own Lean function (tested against real Go, not proved from fmt's source: count such statements apart). THE CARD IS WHAT COUNTS. Prove the row's statement (the work); the ties are given (YtplehdcnnaamkaaGreatDoorTie.lean); close each card by the builder's one call (the guide's Derived/Test/ToyasCard.lean, 'card_holds'). Laid BY PROGRAM, IN A SANDBOX (cutbox-door.mjs). By AI agents, Wed Nov 11 2026. No macro, syntax, notation, axiom, sorry.
-/
import Derived.Test.YtplehdcnnaamkaaGreatDoorRows
import GoSem.ClaimSeven
namespace Go.Proofs.YtplehdcnnaamkaaGreatDoor
namespace Rows

/-- THE TIED CARD OF 'mantraplaw07.PrefixReads'. -/
def prefixReadsCard : Claim7 := { stood := { row := prefixReadsRow, standIns := [], harness := (true, "e94968a4ec5c9876dc9fbc9dc95729717dcbe9095c336673da1400891fee16f9"), looks := true }, kinds := [], alts := [], laidByText := true, laidKinds := [.data, .data, .data, .sentinel, .sentinel], laidTests := true, laidLooks := .later }
def PrefixReadsCardSaid : Prop := Claim7.holds Tryz.pinned (.plain (OpenSpec.ofChange prefixReadsSpec)) prefixReadsCard

/-- THE TIED CARD OF 'mantraplaw07.PrefixHalves'. -/
def prefixHalvesCard : Claim7 := { stood := { row := prefixHalvesRow, standIns := [], harness := (true, "e94968a4ec5c9876dc9fbc9dc95729717dcbe9095c336673da1400891fee16f9"), looks := true }, kinds := [], alts := [], laidByText := true, laidKinds := [.data, .data, .data, .sentinel, .sentinel], laidTests := true, laidLooks := .later }
def PrefixHalvesCardSaid : Prop := Claim7.holds Tryz.pinned (.plain (OpenSpec.ofChange prefixHalvesSpec)) prefixHalvesCard

/-- THE TIED CARD OF 'mantraplaw07.PrefixNests'. -/
def prefixNestsCard : Claim7 := { stood := { row := prefixNestsRow, standIns := [], harness := (true, "e94968a4ec5c9876dc9fbc9dc95729717dcbe9095c336673da1400891fee16f9"), looks := true }, kinds := [], alts := [], laidByText := true, laidKinds := [.data, .data, .data, .sentinel, .sentinel], laidTests := true, laidLooks := .later }
def PrefixNestsCardSaid : Prop := Claim7.holds Tryz.pinned (.plain (OpenSpec.ofChange prefixNestsSpec)) prefixNestsCard

/-- THE TIED CARD OF 'mantraplaw07.PrefixTells'. -/
def prefixTellsCard : Claim7 := { stood := { row := prefixTellsRow, standIns := [], harness := (true, "e94968a4ec5c9876dc9fbc9dc95729717dcbe9095c336673da1400891fee16f9"), looks := true }, kinds := [], alts := [], laidByText := true, laidKinds := [.data, .data, .data, .sentinel, .sentinel], laidTests := true, laidLooks := .later }
def PrefixTellsCardSaid : Prop := Claim7.holds Tryz.pinned (.plain (OpenSpec.ofChange prefixTellsSpec)) prefixTellsCard

/-- THE TIED CARD OF 'mantraplaw08.TrieLongest'. -/
def trieLongestCard : Claim7 := { stood := { row := trieLongestRow, standIns := [], harness := (true, "e94968a4ec5c9876dc9fbc9dc95729717dcbe9095c336673da1400891fee16f9"), looks := true }, kinds := [], alts := [], laidByText := true, laidKinds := [.data, .data, .data, .sentinel, .sentinel], laidTests := true, laidLooks := .later }
def TrieLongestCardSaid : Prop := Claim7.holds Tryz.pinned (.plain (OpenSpec.ofChange trieLongestSpec)) trieLongestCard

/-- THE TIED CARD OF 'mantraplaw08.TrieBack'. -/
def trieBackCard : Claim7 := { stood := { row := trieBackRow, standIns := [], harness := (true, "e94968a4ec5c9876dc9fbc9dc95729717dcbe9095c336673da1400891fee16f9"), looks := true }, kinds := [], alts := [], laidByText := true, laidKinds := [.data, .data, .data, .sentinel, .sentinel], laidTests := true, laidLooks := .later }
def TrieBackCardSaid : Prop := Claim7.holds Tryz.pinned (.plain (OpenSpec.ofChange trieBackSpec)) trieBackCard

/-- THE TIED CARD OF 'mantraplaw08.TriePlays'. -/
def triePlaysCard : Claim7 := { stood := { row := triePlaysRow, standIns := [], harness := (true, "e94968a4ec5c9876dc9fbc9dc95729717dcbe9095c336673da1400891fee16f9"), looks := true }, kinds := [], alts := [], laidByText := true, laidKinds := [.data, .data, .data, .sentinel, .sentinel], laidTests := true, laidLooks := .later }
def TriePlaysCardSaid : Prop := Claim7.holds Tryz.pinned (.plain (OpenSpec.ofChange triePlaysSpec)) triePlaysCard

/-- THE TIED CARD OF 'mantraplaw08.TrieNone'. -/
def trieNoneCard : Claim7 := { stood := { row := trieNoneRow, standIns := [], harness := (true, "e94968a4ec5c9876dc9fbc9dc95729717dcbe9095c336673da1400891fee16f9"), looks := true }, kinds := [], alts := [], laidByText := true, laidKinds := [.data, .data, .data, .sentinel, .sentinel], laidTests := true, laidLooks := .later }
def TrieNoneCardSaid : Prop := Claim7.holds Tryz.pinned (.plain (OpenSpec.ofChange trieNoneSpec)) trieNoneCard

/-- THE TIED CARD OF 'mantraplaw09.SpecialRows'. -/
def specialRowsCard : Claim7 := { stood := { row := specialRowsRow, standIns := [], harness := (true, "e94968a4ec5c9876dc9fbc9dc95729717dcbe9095c336673da1400891fee16f9"), looks := true }, kinds := [], alts := [], laidByText := true, laidKinds := [.data, .data, .data, .sentinel, .sentinel], laidTests := true, laidLooks := .later }
def SpecialRowsCardSaid : Prop := Claim7.holds Tryz.pinned (.plain (OpenSpec.ofChange specialRowsSpec)) specialRowsCard

/-- THE TIED CARD OF 'mantraplaw09.SpecialNames'. -/
def specialNamesCard : Claim7 := { stood := { row := specialNamesRow, standIns := [], harness := (true, "e94968a4ec5c9876dc9fbc9dc95729717dcbe9095c336673da1400891fee16f9"), looks := true }, kinds := [], alts := [], laidByText := true, laidKinds := [.data, .data, .data, .sentinel, .sentinel], laidTests := true, laidLooks := .later }
def SpecialNamesCardSaid : Prop := Claim7.holds Tryz.pinned (.plain (OpenSpec.ofChange specialNamesSpec)) specialNamesCard

/-- THE TIED CARD OF 'mantraplaw09.SpecialNamed'. -/
def specialNamedCard : Claim7 := { stood := { row := specialNamedRow, standIns := [], harness := (true, "e94968a4ec5c9876dc9fbc9dc95729717dcbe9095c336673da1400891fee16f9"), looks := true }, kinds := [], alts := [], laidByText := true, laidKinds := [.data, .data, .data, .sentinel, .sentinel], laidTests := true, laidLooks := .later }
def SpecialNamedCardSaid : Prop := Claim7.holds Tryz.pinned (.plain (OpenSpec.ofChange specialNamedSpec)) specialNamedCard

/-- THE TIED CARD OF 'mantraplaw05.SixSame'. -/
def sixSameCard : Claim7 := { stood := { row := sixSameRow, standIns := [], harness := (true, "e94968a4ec5c9876dc9fbc9dc95729717dcbe9095c336673da1400891fee16f9"), looks := true }, kinds := [], alts := [], laidByText := true, laidKinds := [.data, .data, .data, .data, .sentinel, .sentinel, .pinned, .pinned], laidTests := true, laidLooks := .later }
def SixSameCardSaid : Prop := Claim7.holds Tryz.pinned (.plain (OpenSpec.ofChange sixSameSpec)) sixSameCard

/-- THE SECOND FORM's CARD OF 'mantraplaw07.PrefixReads'. -/
def prefixReadsUptoCard : Claim7 := { stood := { row := prefixReadsUptoRow, standIns := [], harness := (true, "e94968a4ec5c9876dc9fbc9dc95729717dcbe9095c336673da1400891fee16f9"), looks := true }, kinds := [], alts := [], laidByText := true, laidKinds := [.data, .data, .data, .sentinel, .sentinel], laidTests := true, laidLooks := .later }
def PrefixReadsUptoCardSaid : Prop := Claim7.holds Tryz.pinned (.plain (OpenSpec.upto prefixReadsSpec)) prefixReadsUptoCard

/-- THE SECOND FORM's CARD OF 'mantraplaw07.PrefixHalves'. -/
def prefixHalvesUptoCard : Claim7 := { stood := { row := prefixHalvesUptoRow, standIns := [], harness := (true, "e94968a4ec5c9876dc9fbc9dc95729717dcbe9095c336673da1400891fee16f9"), looks := true }, kinds := [], alts := [], laidByText := true, laidKinds := [.data, .data, .data, .sentinel, .sentinel], laidTests := true, laidLooks := .later }
def PrefixHalvesUptoCardSaid : Prop := Claim7.holds Tryz.pinned (.plain (OpenSpec.upto prefixHalvesSpec)) prefixHalvesUptoCard

/-- THE SECOND FORM's CARD OF 'mantraplaw07.PrefixNests'. -/
def prefixNestsUptoCard : Claim7 := { stood := { row := prefixNestsUptoRow, standIns := [], harness := (true, "e94968a4ec5c9876dc9fbc9dc95729717dcbe9095c336673da1400891fee16f9"), looks := true }, kinds := [], alts := [], laidByText := true, laidKinds := [.data, .data, .data, .sentinel, .sentinel], laidTests := true, laidLooks := .later }
def PrefixNestsUptoCardSaid : Prop := Claim7.holds Tryz.pinned (.plain (OpenSpec.upto prefixNestsSpec)) prefixNestsUptoCard

/-- THE SECOND FORM's CARD OF 'mantraplaw07.PrefixTells'. -/
def prefixTellsUptoCard : Claim7 := { stood := { row := prefixTellsUptoRow, standIns := [], harness := (true, "e94968a4ec5c9876dc9fbc9dc95729717dcbe9095c336673da1400891fee16f9"), looks := true }, kinds := [], alts := [], laidByText := true, laidKinds := [.data, .data, .data, .sentinel, .sentinel], laidTests := true, laidLooks := .later }
def PrefixTellsUptoCardSaid : Prop := Claim7.holds Tryz.pinned (.plain (OpenSpec.upto prefixTellsSpec)) prefixTellsUptoCard

/-- THE SECOND FORM's CARD OF 'mantraplaw08.TrieLongest'. -/
def trieLongestUptoCard : Claim7 := { stood := { row := trieLongestUptoRow, standIns := [], harness := (true, "e94968a4ec5c9876dc9fbc9dc95729717dcbe9095c336673da1400891fee16f9"), looks := true }, kinds := [], alts := [], laidByText := true, laidKinds := [.data, .data, .data, .sentinel, .sentinel], laidTests := true, laidLooks := .later }
def TrieLongestUptoCardSaid : Prop := Claim7.holds Tryz.pinned (.plain (OpenSpec.upto trieLongestSpec)) trieLongestUptoCard

/-- THE SECOND FORM's CARD OF 'mantraplaw08.TrieBack'. -/
def trieBackUptoCard : Claim7 := { stood := { row := trieBackUptoRow, standIns := [], harness := (true, "e94968a4ec5c9876dc9fbc9dc95729717dcbe9095c336673da1400891fee16f9"), looks := true }, kinds := [], alts := [], laidByText := true, laidKinds := [.data, .data, .data, .sentinel, .sentinel], laidTests := true, laidLooks := .later }
def TrieBackUptoCardSaid : Prop := Claim7.holds Tryz.pinned (.plain (OpenSpec.upto trieBackSpec)) trieBackUptoCard

/-- THE SECOND FORM's CARD OF 'mantraplaw08.TriePlays'. -/
def triePlaysUptoCard : Claim7 := { stood := { row := triePlaysUptoRow, standIns := [], harness := (true, "e94968a4ec5c9876dc9fbc9dc95729717dcbe9095c336673da1400891fee16f9"), looks := true }, kinds := [], alts := [], laidByText := true, laidKinds := [.data, .data, .data, .sentinel, .sentinel], laidTests := true, laidLooks := .later }
def TriePlaysUptoCardSaid : Prop := Claim7.holds Tryz.pinned (.plain (OpenSpec.upto triePlaysSpec)) triePlaysUptoCard

/-- THE SECOND FORM's CARD OF 'mantraplaw08.TrieNone'. -/
def trieNoneUptoCard : Claim7 := { stood := { row := trieNoneUptoRow, standIns := [], harness := (true, "e94968a4ec5c9876dc9fbc9dc95729717dcbe9095c336673da1400891fee16f9"), looks := true }, kinds := [], alts := [], laidByText := true, laidKinds := [.data, .data, .data, .sentinel, .sentinel], laidTests := true, laidLooks := .later }
def TrieNoneUptoCardSaid : Prop := Claim7.holds Tryz.pinned (.plain (OpenSpec.upto trieNoneSpec)) trieNoneUptoCard

/-- THE SECOND FORM's CARD OF 'mantraplaw09.SpecialRows'. -/
def specialRowsUptoCard : Claim7 := { stood := { row := specialRowsUptoRow, standIns := [], harness := (true, "e94968a4ec5c9876dc9fbc9dc95729717dcbe9095c336673da1400891fee16f9"), looks := true }, kinds := [], alts := [], laidByText := true, laidKinds := [.data, .data, .data, .sentinel, .sentinel], laidTests := true, laidLooks := .later }
def SpecialRowsUptoCardSaid : Prop := Claim7.holds Tryz.pinned (.plain (OpenSpec.upto specialRowsSpec)) specialRowsUptoCard

/-- THE SECOND FORM's CARD OF 'mantraplaw09.SpecialNames'. -/
def specialNamesUptoCard : Claim7 := { stood := { row := specialNamesUptoRow, standIns := [], harness := (true, "e94968a4ec5c9876dc9fbc9dc95729717dcbe9095c336673da1400891fee16f9"), looks := true }, kinds := [], alts := [], laidByText := true, laidKinds := [.data, .data, .data, .sentinel, .sentinel], laidTests := true, laidLooks := .later }
def SpecialNamesUptoCardSaid : Prop := Claim7.holds Tryz.pinned (.plain (OpenSpec.upto specialNamesSpec)) specialNamesUptoCard

/-- THE SECOND FORM's CARD OF 'mantraplaw09.SpecialNamed'. -/
def specialNamedUptoCard : Claim7 := { stood := { row := specialNamedUptoRow, standIns := [], harness := (true, "e94968a4ec5c9876dc9fbc9dc95729717dcbe9095c336673da1400891fee16f9"), looks := true }, kinds := [], alts := [], laidByText := true, laidKinds := [.data, .data, .data, .sentinel, .sentinel], laidTests := true, laidLooks := .later }
def SpecialNamedUptoCardSaid : Prop := Claim7.holds Tryz.pinned (.plain (OpenSpec.upto specialNamedSpec)) specialNamedUptoCard

/-- THE SECOND FORM's CARD OF 'mantraplaw05.SixSame'. -/
def sixSameUptoCard : Claim7 := { stood := { row := sixSameUptoRow, standIns := [], harness := (true, "e94968a4ec5c9876dc9fbc9dc95729717dcbe9095c336673da1400891fee16f9"), looks := true }, kinds := [], alts := [], laidByText := true, laidKinds := [.data, .data, .data, .data, .sentinel, .sentinel, .pinned, .pinned], laidTests := true, laidLooks := .later }
def SixSameUptoCardSaid : Prop := Claim7.holds Tryz.pinned (.plain (OpenSpec.upto sixSameSpec)) sixSameUptoCard
end Rows
end Go.Proofs.YtplehdcnnaamkaaGreatDoor
