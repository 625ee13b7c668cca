/-
  No cell of these rows narrows 'for every input' (looked for: loops, veiled, ifaces, maps, wideKeys, modest, calm, conditions, laid).
  DERIVED. THE GIVEN ROWS OF THIS SEAT. 4 by the template 'for every input the law returns true; each argument reads behind the call as it read before'; 0 by the template 'total and deterministic' (their statements: YtajcndaealonbaaTotals.lean).
  GIVEN WITH THE SEED: the statements are not yours to turn. If you find one false, say at which input.
  Laid BY PROGRAM, IN A SANDBOX (cutbox-rows.mjs): the forced cells as the released guide's own fill.sh prints them over the translation ba2e5d761602a076… (all of the seat's roots in one cut). By AI agents, Wed Nov 11 2026. No macro, syntax, notation, axiom, sorry.
-/
import Derived.Test.YtajcndaealonbaaChecked
import GoSem.Claim
import GoSem.ClaimJoined
import GoSem.ClaimMapViews
import Derived.JoinedTies
import Derived.KernelRfl
namespace Go.Proofs.Ytajcndaealonbaa
/- THE CELL 'sum', in the pinned program and in every row, IS THE sha256 OF THE DUMP (.gsa) THAT YtajcndaealonbaaProg.lean LOADS. Nothing in Lean hashes anything: it is a label: what it is worth is what the hold of that sum in a sandbox is worth. -/
noncomputable def Try.pinned : Pinned := { name := "ytajcndaealonbaa", sum := "ba2e5d761602a076840719dce10d67a21f2eeb80623be275256bc4cf09450d3f", checked := Try.checked }
namespace Rows
def none {H : Type} : Left H := { results := [], args := [] }

/-- 'mantraplaw02.PercentWrites': WHATEVER THE INPUT: true; the input reads as it did. -/
def percentWritesSpec : ChangeSpec := { name := "percentWrites", fn := fun _ => fun
  | [d1, d2, d3, d4] => { results := [.lit (.bool true)], args := [d1, d2, d3, d4] }
  | _ => none }
def percentWritesRow : OpenClaim := { program := "ytajcndaealonbaa", sum := "ba2e5d761602a076840719dce10d67a21f2eeb80623be275256bc4cf09450d3f", func := "mantrap/mantraplaw02.PercentWrites", spec := "percentWrites", inPlace := ["internal/abi.NoEscape"], apart := false }
def PercentWritesSaid : Prop := percentWritesRow.holds Try.pinned (OpenSpec.ofChange percentWritesSpec)

/-- ITS FALSE NEIGHBOUR: 'it returns false'. Refute it at one input. -/
def percentWritesWrong : ChangeSpec := { name := "percentWrites", fn := fun _ => fun
  | [d1, d2, d3, d4] => { results := [.lit (.bool false)], args := [d1, d2, d3, d4] }
  | _ => none }
def PercentWritesWrongFalsely : Prop := percentWritesRow.holds Try.pinned (OpenSpec.ofChange percentWritesWrong)

/-- 'mantraplaw02.PercentReads': WHATEVER THE INPUT: true; the input reads as it did. -/
def percentReadsSpec : ChangeSpec := { name := "percentReads", fn := fun _ => fun
  | [d] => { results := [.lit (.bool true)], args := [d] }
  | _ => none }
def percentReadsRow : OpenClaim := { program := "ytajcndaealonbaa", sum := "ba2e5d761602a076840719dce10d67a21f2eeb80623be275256bc4cf09450d3f", func := "mantrap/mantraplaw02.PercentReads", spec := "percentReads", inPlace := ["internal/abi.NoEscape"], apart := false }
def PercentReadsSaid : Prop := percentReadsRow.holds Try.pinned (OpenSpec.ofChange percentReadsSpec)

/-- ITS FALSE NEIGHBOUR: 'it returns false'. Refute it at one input. -/
def percentReadsWrong : ChangeSpec := { name := "percentReads", fn := fun _ => fun
  | [d] => { results := [.lit (.bool false)], args := [d] }
  | _ => none }
def PercentReadsWrongFalsely : Prop := percentReadsRow.holds Try.pinned (OpenSpec.ofChange percentReadsWrong)

/-- 'mantraplaw03.NumberEnds': WHATEVER THE INPUT: true; the input reads as it did. -/
def numberEndsSpec : ChangeSpec := { name := "numberEnds", fn := fun _ => fun
  | [d1, d2] => { results := [.lit (.bool true)], args := [d1, d2] }
  | _ => none }
def numberEndsRow : OpenClaim := { program := "ytajcndaealonbaa", sum := "ba2e5d761602a076840719dce10d67a21f2eeb80623be275256bc4cf09450d3f", func := "mantrap/mantraplaw03.NumberEnds", spec := "numberEnds", inPlace := ["internal/abi.NoEscape", "internal/bytealg.IndexByteString"], apart := false }
def NumberEndsSaid : Prop := numberEndsRow.holds Try.pinned (OpenSpec.ofChange numberEndsSpec)

/-- ITS FALSE NEIGHBOUR: 'it returns false'. Refute it at one input. -/
def numberEndsWrong : ChangeSpec := { name := "numberEnds", fn := fun _ => fun
  | [d1, d2] => { results := [.lit (.bool false)], args := [d1, d2] }
  | _ => none }
def NumberEndsWrongFalsely : Prop := numberEndsRow.holds Try.pinned (OpenSpec.ofChange numberEndsWrong)

/-- 'mantraplaw02.PercentBack': WHATEVER THE INPUT: true; the input reads as it did. -/
def percentBackSpec : ChangeSpec := { name := "percentBack", fn := fun _ => fun
  | [d1, d2] => { results := [.lit (.bool true)], args := [d1, d2] }
  | _ => none }
def percentBackRow : OpenClaim := { program := "ytajcndaealonbaa", sum := "ba2e5d761602a076840719dce10d67a21f2eeb80623be275256bc4cf09450d3f", func := "mantrap/mantraplaw02.PercentBack", spec := "percentBack", inPlace := ["internal/abi.NoEscape", "internal/bytealg.IndexByteString", "internal/bytealg.IndexString"], named := ["internal/bytealg.MaxLen"], apart := false }
def PercentBackSaid : Prop := percentBackRow.holds Try.pinned (OpenSpec.ofChange percentBackSpec)

/-- ITS FALSE NEIGHBOUR: 'it returns false'. Refute it at one input. -/
def percentBackWrong : ChangeSpec := { name := "percentBack", fn := fun _ => fun
  | [d1, d2] => { results := [.lit (.bool false)], args := [d1, d2] }
  | _ => none }
def PercentBackWrongFalsely : Prop := percentBackRow.holds Try.pinned (OpenSpec.ofChange percentBackWrong)

/- THE SECOND FORM. 'bulk': how many values and letters a reading holds, each counted each time it is reached (what is shared counts as often as it is met; a slice's spare places count too). A statement '..UptoSaid' is the law's where the arguments, and the package variables that the reading takes, are together of bulk at most 1048576: NARROWER than '..Said'. Prove '..Said' where nothing that the law and all that it calls make is longer than what came in: it says more and counts as full. Else prove '..UptoSaid'. A law counts once. -/
mutual
def uptoBulk {H : Type} : DataW H → Nat
  | .lit (.string bytes) => bytes.length + 1
  | .lit _ => 1
  | .nil => 1
  | .ptr d => uptoBulk d + 1
  | .slice elems spare => uptoBulkAll elems + uptoBulkAll spare + 1
  | .agg parts => uptoBulkAll parts + 1
  | .iface _ d => uptoBulk d + 1
  | .map entries => uptoBulkEntries entries + 1
  | .held _ => 1
def uptoBulkAll {H : Type} : List (DataW H) → Nat
  | [] => 0
  | d :: r => uptoBulk d + uptoBulkAll r
def uptoBulkEntries {H : Type} : List (Lit × DataW H) → Nat
  | [] => 0
  | x :: r => uptoBulkEntry x + uptoBulkEntries r
def uptoBulkEntry {H : Type} : Lit × DataW H → Nat
  | (.string bytes, d) => bytes.length + uptoBulk d + 1
  | (_, d) => uptoBulk d + 1
 end
def uptoSmall : (H : Type) → List (DataW H) → Bool := fun _ ds => decide (uptoBulkAll ds ≤ 1048576)
def OpenSpec.upto (s : _root_.Go.ChangeSpec) : _root_.Go.OpenSpec := { _root_.Go.OpenSpec.ofChange s with cond := some uptoSmall }

/-- 'mantraplaw02.PercentWrites', WHERE WHAT IT READS IS OF BULK AT MOST 1048576: true; the input reads as it did. -/
def percentWritesUptoRow : OpenClaim := { program := "ytajcndaealonbaa", sum := "ba2e5d761602a076840719dce10d67a21f2eeb80623be275256bc4cf09450d3f", func := "mantrap/mantraplaw02.PercentWrites", spec := "percentWrites", inPlace := ["internal/abi.NoEscape"], apart := false, narrowed := true }
def PercentWritesUptoSaid : Prop := percentWritesUptoRow.holds Try.pinned (OpenSpec.upto percentWritesSpec)

/-- 'mantraplaw02.PercentReads', WHERE WHAT IT READS IS OF BULK AT MOST 1048576: true; the input reads as it did. -/
def percentReadsUptoRow : OpenClaim := { program := "ytajcndaealonbaa", sum := "ba2e5d761602a076840719dce10d67a21f2eeb80623be275256bc4cf09450d3f", func := "mantrap/mantraplaw02.PercentReads", spec := "percentReads", inPlace := ["internal/abi.NoEscape"], apart := false, narrowed := true }
def PercentReadsUptoSaid : Prop := percentReadsUptoRow.holds Try.pinned (OpenSpec.upto percentReadsSpec)

/-- 'mantraplaw03.NumberEnds', WHERE WHAT IT READS IS OF BULK AT MOST 1048576: true; the input reads as it did. -/
def numberEndsUptoRow : OpenClaim := { program := "ytajcndaealonbaa", sum := "ba2e5d761602a076840719dce10d67a21f2eeb80623be275256bc4cf09450d3f", func := "mantrap/mantraplaw03.NumberEnds", spec := "numberEnds", inPlace := ["internal/abi.NoEscape", "internal/bytealg.IndexByteString"], apart := false, narrowed := true }
def NumberEndsUptoSaid : Prop := numberEndsUptoRow.holds Try.pinned (OpenSpec.upto numberEndsSpec)

/-- 'mantraplaw02.PercentBack', WHERE WHAT IT READS IS OF BULK AT MOST 1048576: true; the input reads as it did. -/
def percentBackUptoRow : OpenClaim := { program := "ytajcndaealonbaa", sum := "ba2e5d761602a076840719dce10d67a21f2eeb80623be275256bc4cf09450d3f", func := "mantrap/mantraplaw02.PercentBack", spec := "percentBack", inPlace := ["internal/abi.NoEscape", "internal/bytealg.IndexByteString", "internal/bytealg.IndexString"], named := ["internal/bytealg.MaxLen"], apart := false, narrowed := true }
def PercentBackUptoSaid : Prop := percentBackUptoRow.holds Try.pinned (OpenSpec.upto percentBackSpec)

end Rows
end Go.Proofs.Ytajcndaealonbaa
