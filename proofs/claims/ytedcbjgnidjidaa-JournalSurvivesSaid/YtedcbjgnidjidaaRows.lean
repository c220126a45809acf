/-
  No cell of these rows narrows 'for every input' (looked for: loops, veiled, ifaces, maps, wideKeys, modest, calm, conditions, laid).
  DERIVED. THE GIVEN ROWS OF THIS SEAT. 14 by the template 'for every input the law returns true; each argument reads behind the call as it read before'; 0 by the template 'total and deterministic' (their statements: YtedcbjgnidjidaaTotals.lean).
  GIVEN WITH THE SEED: the statements are not yours to turn. If you find one false, say at which input.
  Laid BY PROGRAM, IN A SANDBOX (cutbox-rows.mjs): the forced cells as the released guide's own fill.sh prints them over the translation ec040eaf63674789… (all of the seat's roots in one cut). By AI agents, Wed Nov 11 2026. No macro, syntax, notation, axiom, sorry.
-/
import Derived.Test.YtedcbjgnidjidaaChecked
import GoSem.Claim
import GoSem.ClaimJoined
import GoSem.ClaimMapViews
import Derived.JoinedTies
import Derived.KernelRfl
namespace Go.Proofs.Ytedcbjgnidjidaa
/- THE CELL 'sum', in the pinned program and in every row, IS THE sha256 OF THE DUMP (.gsa) THAT YtedcbjgnidjidaaProg.lean LOADS. Nothing in Lean hashes anything: it is a label: what it is worth is what the hold of that sum in a sandbox is worth. -/
noncomputable def Try.pinned : Pinned := { name := "ytedcbjgnidjidaa", sum := "ec040eaf63674789fb630711ac312c51c036e3b80deebb9a00462e1a43ab6ede", checked := Try.checked }
namespace Rows
def none {H : Type} : Left H := { results := [], args := [] }

/-- 'additivelaw51.FlashNews': WHATEVER THE INPUT: true; the input reads as it did. -/
def flashNewsSpec : ChangeSpec := { name := "flashNews", fn := fun _ => fun
  | [d] => { results := [.lit (.bool true)], args := [d] }
  | _ => none }
def flashNewsRow : OpenClaim := { program := "ytedcbjgnidjidaa", sum := "ec040eaf63674789fb630711ac312c51c036e3b80deebb9a00462e1a43ab6ede", func := "additive/additivelaw51.FlashNews", spec := "flashNews", apart := false }
def FlashNewsSaid : Prop := flashNewsRow.holds Try.pinned (OpenSpec.ofChange flashNewsSpec)

/-- ITS FALSE NEIGHBOUR: 'it returns false'. Refute it at one input. -/
def flashNewsWrong : ChangeSpec := { name := "flashNews", fn := fun _ => fun
  | [d] => { results := [.lit (.bool false)], args := [d] }
  | _ => none }
def FlashNewsWrongFalsely : Prop := flashNewsRow.holds Try.pinned (OpenSpec.ofChange flashNewsWrong)

/-- 'additivelaw51.FlashReads': WHATEVER THE INPUT: true; the input reads as it did. -/
def flashReadsSpec : ChangeSpec := { name := "flashReads", fn := fun _ => fun
  | [d] => { results := [.lit (.bool true)], args := [d] }
  | _ => none }
def flashReadsRow : OpenClaim := { program := "ytedcbjgnidjidaa", sum := "ec040eaf63674789fb630711ac312c51c036e3b80deebb9a00462e1a43ab6ede", func := "additive/additivelaw51.FlashReads", spec := "flashReads", apart := false }
def FlashReadsSaid : Prop := flashReadsRow.holds Try.pinned (OpenSpec.ofChange flashReadsSpec)

/-- ITS FALSE NEIGHBOUR: 'it returns false'. Refute it at one input. -/
def flashReadsWrong : ChangeSpec := { name := "flashReads", fn := fun _ => fun
  | [d] => { results := [.lit (.bool false)], args := [d] }
  | _ => none }
def FlashReadsWrongFalsely : Prop := flashReadsRow.holds Try.pinned (OpenSpec.ofChange flashReadsWrong)

/-- 'additivelaw51.FlashWrites': WHATEVER THE INPUT: true; the input reads as it did. -/
def flashWritesSpec : ChangeSpec := { name := "flashWrites", fn := fun _ => fun
  | [d] => { results := [.lit (.bool true)], args := [d] }
  | _ => none }
def flashWritesRow : OpenClaim := { program := "ytedcbjgnidjidaa", sum := "ec040eaf63674789fb630711ac312c51c036e3b80deebb9a00462e1a43ab6ede", func := "additive/additivelaw51.FlashWrites", spec := "flashWrites", apart := false }
def FlashWritesSaid : Prop := flashWritesRow.holds Try.pinned (OpenSpec.ofChange flashWritesSpec)

/-- ITS FALSE NEIGHBOUR: 'it returns false'. Refute it at one input. -/
def flashWritesWrong : ChangeSpec := { name := "flashWrites", fn := fun _ => fun
  | [d] => { results := [.lit (.bool false)], args := [d] }
  | _ => none }
def FlashWritesWrongFalsely : Prop := flashWritesRow.holds Try.pinned (OpenSpec.ofChange flashWritesWrong)

/-- 'additivelaw51.FlashFails': WHATEVER THE INPUT: true; the input reads as it did. -/
def flashFailsSpec : ChangeSpec := { name := "flashFails", fn := fun _ => fun
  | [d] => { results := [.lit (.bool true)], args := [d] }
  | _ => none }
def flashFailsRow : OpenClaim := { program := "ytedcbjgnidjidaa", sum := "ec040eaf63674789fb630711ac312c51c036e3b80deebb9a00462e1a43ab6ede", func := "additive/additivelaw51.FlashFails", spec := "flashFails", apart := false }
def FlashFailsSaid : Prop := flashFailsRow.holds Try.pinned (OpenSpec.ofChange flashFailsSpec)

/-- ITS FALSE NEIGHBOUR: 'it returns false'. Refute it at one input. -/
def flashFailsWrong : ChangeSpec := { name := "flashFails", fn := fun _ => fun
  | [d] => { results := [.lit (.bool false)], args := [d] }
  | _ => none }
def FlashFailsWrongFalsely : Prop := flashFailsRow.holds Try.pinned (OpenSpec.ofChange flashFailsWrong)

/-- 'additivelaw51.FlashTorn': WHATEVER THE INPUT: true; the input reads as it did. -/
def flashTornSpec : ChangeSpec := { name := "flashTorn", fn := fun _ => fun
  | [d] => { results := [.lit (.bool true)], args := [d] }
  | _ => none }
def flashTornRow : OpenClaim := { program := "ytedcbjgnidjidaa", sum := "ec040eaf63674789fb630711ac312c51c036e3b80deebb9a00462e1a43ab6ede", func := "additive/additivelaw51.FlashTorn", spec := "flashTorn", apart := false }
def FlashTornSaid : Prop := flashTornRow.holds Try.pinned (OpenSpec.ofChange flashTornSpec)

/-- ITS FALSE NEIGHBOUR: 'it returns false'. Refute it at one input. -/
def flashTornWrong : ChangeSpec := { name := "flashTorn", fn := fun _ => fun
  | [d] => { results := [.lit (.bool false)], args := [d] }
  | _ => none }
def FlashTornWrongFalsely : Prop := flashTornRow.holds Try.pinned (OpenSpec.ofChange flashTornWrong)

/-- 'additivelaw51.FlashCounts': WHATEVER THE INPUT: true; the input reads as it did. -/
def flashCountsSpec : ChangeSpec := { name := "flashCounts", fn := fun _ => fun
  | [d] => { results := [.lit (.bool true)], args := [d] }
  | _ => none }
def flashCountsRow : OpenClaim := { program := "ytedcbjgnidjidaa", sum := "ec040eaf63674789fb630711ac312c51c036e3b80deebb9a00462e1a43ab6ede", func := "additive/additivelaw51.FlashCounts", spec := "flashCounts", apart := false }
def FlashCountsSaid : Prop := flashCountsRow.holds Try.pinned (OpenSpec.ofChange flashCountsSpec)

/-- ITS FALSE NEIGHBOUR: 'it returns false'. Refute it at one input. -/
def flashCountsWrong : ChangeSpec := { name := "flashCounts", fn := fun _ => fun
  | [d] => { results := [.lit (.bool false)], args := [d] }
  | _ => none }
def FlashCountsWrongFalsely : Prop := flashCountsRow.holds Try.pinned (OpenSpec.ofChange flashCountsWrong)

/-- 'additivelaw52.JournalRecords': WHATEVER THE INPUT: true; the input reads as it did. -/
def journalRecordsSpec : ChangeSpec := { name := "journalRecords", fn := fun _ => fun
  | [d] => { results := [.lit (.bool true)], args := [d] }
  | _ => none }
def journalRecordsRow : OpenClaim := { program := "ytedcbjgnidjidaa", sum := "ec040eaf63674789fb630711ac312c51c036e3b80deebb9a00462e1a43ab6ede", func := "additive/additivelaw52.JournalRecords", spec := "journalRecords", unfollowed := true, recurses := true, apart := false }
def JournalRecordsSaid : Prop := journalRecordsRow.holds Try.pinned (OpenSpec.ofChange journalRecordsSpec)

/-- ITS FALSE NEIGHBOUR: 'it returns false'. Refute it at one input. -/
def journalRecordsWrong : ChangeSpec := { name := "journalRecords", fn := fun _ => fun
  | [d] => { results := [.lit (.bool false)], args := [d] }
  | _ => none }
def JournalRecordsWrongFalsely : Prop := journalRecordsRow.holds Try.pinned (OpenSpec.ofChange journalRecordsWrong)

/-- 'additivelaw52.JournalDecodes': WHATEVER THE INPUT: true; the input reads as it did. -/
def journalDecodesSpec : ChangeSpec := { name := "journalDecodes", fn := fun _ => fun
  | [d] => { results := [.lit (.bool true)], args := [d] }
  | _ => none }
def journalDecodesRow : OpenClaim := { program := "ytedcbjgnidjidaa", sum := "ec040eaf63674789fb630711ac312c51c036e3b80deebb9a00462e1a43ab6ede", func := "additive/additivelaw52.JournalDecodes", spec := "journalDecodes", unfollowed := true, recurses := true, apart := false }
def JournalDecodesSaid : Prop := journalDecodesRow.holds Try.pinned (OpenSpec.ofChange journalDecodesSpec)

/-- ITS FALSE NEIGHBOUR: 'it returns false'. Refute it at one input. -/
def journalDecodesWrong : ChangeSpec := { name := "journalDecodes", fn := fun _ => fun
  | [d] => { results := [.lit (.bool false)], args := [d] }
  | _ => none }
def JournalDecodesWrongFalsely : Prop := journalDecodesRow.holds Try.pinned (OpenSpec.ofChange journalDecodesWrong)

/-- 'additivelaw52.JournalRoundTrips': WHATEVER THE INPUT: true; the input reads as it did. -/
def journalRoundTripsSpec : ChangeSpec := { name := "journalRoundTrips", fn := fun _ => fun
  | [d1, d2] => { results := [.lit (.bool true)], args := [d1, d2] }
  | _ => none }
def journalRoundTripsRow : OpenClaim := { program := "ytedcbjgnidjidaa", sum := "ec040eaf63674789fb630711ac312c51c036e3b80deebb9a00462e1a43ab6ede", func := "additive/additivelaw52.JournalRoundTrips", spec := "journalRoundTrips", unfollowed := true, recurses := true, apart := false }
def JournalRoundTripsSaid : Prop := journalRoundTripsRow.holds Try.pinned (OpenSpec.ofChange journalRoundTripsSpec)

/-- ITS FALSE NEIGHBOUR: 'it returns false'. Refute it at one input. -/
def journalRoundTripsWrong : ChangeSpec := { name := "journalRoundTrips", fn := fun _ => fun
  | [d1, d2] => { results := [.lit (.bool false)], args := [d1, d2] }
  | _ => none }
def JournalRoundTripsWrongFalsely : Prop := journalRoundTripsRow.holds Try.pinned (OpenSpec.ofChange journalRoundTripsWrong)

/-- 'additivelaw52.JournalDamage': WHATEVER THE INPUT: true; the input reads as it did. -/
def journalDamageSpec : ChangeSpec := { name := "journalDamage", fn := fun _ => fun
  | [d1, d2, d3] => { results := [.lit (.bool true)], args := [d1, d2, d3] }
  | _ => none }
def journalDamageRow : OpenClaim := { program := "ytedcbjgnidjidaa", sum := "ec040eaf63674789fb630711ac312c51c036e3b80deebb9a00462e1a43ab6ede", func := "additive/additivelaw52.JournalDamage", spec := "journalDamage", unfollowed := true, recurses := true, apart := false }
def JournalDamageSaid : Prop := journalDamageRow.holds Try.pinned (OpenSpec.ofChange journalDamageSpec)

/-- ITS FALSE NEIGHBOUR: 'it returns false'. Refute it at one input. -/
def journalDamageWrong : ChangeSpec := { name := "journalDamage", fn := fun _ => fun
  | [d1, d2, d3] => { results := [.lit (.bool false)], args := [d1, d2, d3] }
  | _ => none }
def JournalDamageWrongFalsely : Prop := journalDamageRow.holds Try.pinned (OpenSpec.ofChange journalDamageWrong)

/-- 'additivelaw52.JournalReads': WHATEVER THE INPUT: true; the input reads as it did. -/
def journalReadsSpec : ChangeSpec := { name := "journalReads", fn := fun _ => fun
  | [d] => { results := [.lit (.bool true)], args := [d] }
  | _ => none }
def journalReadsRow : OpenClaim := { program := "ytedcbjgnidjidaa", sum := "ec040eaf63674789fb630711ac312c51c036e3b80deebb9a00462e1a43ab6ede", func := "additive/additivelaw52.JournalReads", spec := "journalReads", unfollowed := true, recurses := true, apart := false }
def JournalReadsSaid : Prop := journalReadsRow.holds Try.pinned (OpenSpec.ofChange journalReadsSpec)

/-- ITS FALSE NEIGHBOUR: 'it returns false'. Refute it at one input. -/
def journalReadsWrong : ChangeSpec := { name := "journalReads", fn := fun _ => fun
  | [d] => { results := [.lit (.bool false)], args := [d] }
  | _ => none }
def JournalReadsWrongFalsely : Prop := journalReadsRow.holds Try.pinned (OpenSpec.ofChange journalReadsWrong)

/-- 'additivelaw52.JournalAppends': WHATEVER THE INPUT: true; the input reads as it did. -/
def journalAppendsSpec : ChangeSpec := { name := "journalAppends", fn := fun _ => fun
  | [d1, d2] => { results := [.lit (.bool true)], args := [d1, d2] }
  | _ => none }
def journalAppendsRow : OpenClaim := { program := "ytedcbjgnidjidaa", sum := "ec040eaf63674789fb630711ac312c51c036e3b80deebb9a00462e1a43ab6ede", func := "additive/additivelaw52.JournalAppends", spec := "journalAppends", unfollowed := true, recurses := true, apart := false }
def JournalAppendsSaid : Prop := journalAppendsRow.holds Try.pinned (OpenSpec.ofChange journalAppendsSpec)

/-- ITS FALSE NEIGHBOUR: 'it returns false'. Refute it at one input. -/
def journalAppendsWrong : ChangeSpec := { name := "journalAppends", fn := fun _ => fun
  | [d1, d2] => { results := [.lit (.bool false)], args := [d1, d2] }
  | _ => none }
def JournalAppendsWrongFalsely : Prop := journalAppendsRow.holds Try.pinned (OpenSpec.ofChange journalAppendsWrong)

/-- 'additivelaw52.JournalWindow': WHATEVER THE INPUT: true; the input reads as it did. -/
def journalWindowSpec : ChangeSpec := { name := "journalWindow", fn := fun _ => fun
  | [d1, d2] => { results := [.lit (.bool true)], args := [d1, d2] }
  | _ => none }
def journalWindowRow : OpenClaim := { program := "ytedcbjgnidjidaa", sum := "ec040eaf63674789fb630711ac312c51c036e3b80deebb9a00462e1a43ab6ede", func := "additive/additivelaw52.JournalWindow", spec := "journalWindow", unfollowed := true, recurses := true, apart := false }
def JournalWindowSaid : Prop := journalWindowRow.holds Try.pinned (OpenSpec.ofChange journalWindowSpec)

/-- ITS FALSE NEIGHBOUR: 'it returns false'. Refute it at one input. -/
def journalWindowWrong : ChangeSpec := { name := "journalWindow", fn := fun _ => fun
  | [d1, d2] => { results := [.lit (.bool false)], args := [d1, d2] }
  | _ => none }
def JournalWindowWrongFalsely : Prop := journalWindowRow.holds Try.pinned (OpenSpec.ofChange journalWindowWrong)

/-- 'additivelaw52.JournalSurvives': WHATEVER THE INPUT: true; the input reads as it did. -/
def journalSurvivesSpec : ChangeSpec := { name := "journalSurvives", fn := fun _ => fun
  | [d1, d2] => { results := [.lit (.bool true)], args := [d1, d2] }
  | _ => none }
def journalSurvivesRow : OpenClaim := { program := "ytedcbjgnidjidaa", sum := "ec040eaf63674789fb630711ac312c51c036e3b80deebb9a00462e1a43ab6ede", func := "additive/additivelaw52.JournalSurvives", spec := "journalSurvives", unfollowed := true, recurses := true, apart := false }
def JournalSurvivesSaid : Prop := journalSurvivesRow.holds Try.pinned (OpenSpec.ofChange journalSurvivesSpec)

/-- ITS FALSE NEIGHBOUR: 'it returns false'. Refute it at one input. -/
def journalSurvivesWrong : ChangeSpec := { name := "journalSurvives", fn := fun _ => fun
  | [d1, d2] => { results := [.lit (.bool false)], args := [d1, d2] }
  | _ => none }
def JournalSurvivesWrongFalsely : Prop := journalSurvivesRow.holds Try.pinned (OpenSpec.ofChange journalSurvivesWrong)

/- THE SECOND FORM. 'bulk': how many values and letters a reading holds, each counted each time it is reached (what is shared counts as often as it is met; a slice's spare places count too). A statement '..UptoSaid' is the law's where the arguments, and the package variables that the reading takes, are together of bulk at most 1048576: NARROWER than '..Said'. Prove '..Said' where nothing that the law and all that it calls make is longer than what came in: it says more and counts as full. Else prove '..UptoSaid'. A law counts once. -/
mutual
def uptoBulk {H : Type} : DataW H → Nat
  | .lit (.string bytes) => bytes.length + 1
  | .lit _ => 1
  | .nil => 1
  | .ptr d => uptoBulk d + 1
  | .slice elems spare => uptoBulkAll elems + uptoBulkAll spare + 1
  | .agg parts => uptoBulkAll parts + 1
  | .iface _ d => uptoBulk d + 1
  | .map entries => uptoBulkEntries entries + 1
  | .held _ => 1
def uptoBulkAll {H : Type} : List (DataW H) → Nat
  | [] => 0
  | d :: r => uptoBulk d + uptoBulkAll r
def uptoBulkEntries {H : Type} : List (Lit × DataW H) → Nat
  | [] => 0
  | x :: r => uptoBulkEntry x + uptoBulkEntries r
def uptoBulkEntry {H : Type} : Lit × DataW H → Nat
  | (.string bytes, d) => bytes.length + uptoBulk d + 1
  | (_, d) => uptoBulk d + 1
 end
def uptoSmall : (H : Type) → List (DataW H) → Bool := fun _ ds => decide (uptoBulkAll ds ≤ 1048576)
def OpenSpec.upto (s : _root_.Go.ChangeSpec) : _root_.Go.OpenSpec := { _root_.Go.OpenSpec.ofChange s with cond := some uptoSmall }

/-- 'additivelaw51.FlashNews', WHERE WHAT IT READS IS OF BULK AT MOST 1048576: true; the input reads as it did. -/
def flashNewsUptoRow : OpenClaim := { program := "ytedcbjgnidjidaa", sum := "ec040eaf63674789fb630711ac312c51c036e3b80deebb9a00462e1a43ab6ede", func := "additive/additivelaw51.FlashNews", spec := "flashNews", apart := false, narrowed := true }
def FlashNewsUptoSaid : Prop := flashNewsUptoRow.holds Try.pinned (OpenSpec.upto flashNewsSpec)

/-- 'additivelaw51.FlashReads', WHERE WHAT IT READS IS OF BULK AT MOST 1048576: true; the input reads as it did. -/
def flashReadsUptoRow : OpenClaim := { program := "ytedcbjgnidjidaa", sum := "ec040eaf63674789fb630711ac312c51c036e3b80deebb9a00462e1a43ab6ede", func := "additive/additivelaw51.FlashReads", spec := "flashReads", apart := false, narrowed := true }
def FlashReadsUptoSaid : Prop := flashReadsUptoRow.holds Try.pinned (OpenSpec.upto flashReadsSpec)

/-- 'additivelaw51.FlashWrites', WHERE WHAT IT READS IS OF BULK AT MOST 1048576: true; the input reads as it did. -/
def flashWritesUptoRow : OpenClaim := { program := "ytedcbjgnidjidaa", sum := "ec040eaf63674789fb630711ac312c51c036e3b80deebb9a00462e1a43ab6ede", func := "additive/additivelaw51.FlashWrites", spec := "flashWrites", apart := false, narrowed := true }
def FlashWritesUptoSaid : Prop := flashWritesUptoRow.holds Try.pinned (OpenSpec.upto flashWritesSpec)

/-- 'additivelaw51.FlashFails', WHERE WHAT IT READS IS OF BULK AT MOST 1048576: true; the input reads as it did. -/
def flashFailsUptoRow : OpenClaim := { program := "ytedcbjgnidjidaa", sum := "ec040eaf63674789fb630711ac312c51c036e3b80deebb9a00462e1a43ab6ede", func := "additive/additivelaw51.FlashFails", spec := "flashFails", apart := false, narrowed := true }
def FlashFailsUptoSaid : Prop := flashFailsUptoRow.holds Try.pinned (OpenSpec.upto flashFailsSpec)

/-- 'additivelaw51.FlashTorn', WHERE WHAT IT READS IS OF BULK AT MOST 1048576: true; the input reads as it did. -/
def flashTornUptoRow : OpenClaim := { program := "ytedcbjgnidjidaa", sum := "ec040eaf63674789fb630711ac312c51c036e3b80deebb9a00462e1a43ab6ede", func := "additive/additivelaw51.FlashTorn", spec := "flashTorn", apart := false, narrowed := true }
def FlashTornUptoSaid : Prop := flashTornUptoRow.holds Try.pinned (OpenSpec.upto flashTornSpec)

/-- 'additivelaw51.FlashCounts', WHERE WHAT IT READS IS OF BULK AT MOST 1048576: true; the input reads as it did. -/
def flashCountsUptoRow : OpenClaim := { program := "ytedcbjgnidjidaa", sum := "ec040eaf63674789fb630711ac312c51c036e3b80deebb9a00462e1a43ab6ede", func := "additive/additivelaw51.FlashCounts", spec := "flashCounts", apart := false, narrowed := true }
def FlashCountsUptoSaid : Prop := flashCountsUptoRow.holds Try.pinned (OpenSpec.upto flashCountsSpec)

/-- 'additivelaw52.JournalRecords', WHERE WHAT IT READS IS OF BULK AT MOST 1048576: true; the input reads as it did. -/
def journalRecordsUptoRow : OpenClaim := { program := "ytedcbjgnidjidaa", sum := "ec040eaf63674789fb630711ac312c51c036e3b80deebb9a00462e1a43ab6ede", func := "additive/additivelaw52.JournalRecords", spec := "journalRecords", unfollowed := true, recurses := true, apart := false, narrowed := true }
def JournalRecordsUptoSaid : Prop := journalRecordsUptoRow.holds Try.pinned (OpenSpec.upto journalRecordsSpec)

/-- 'additivelaw52.JournalDecodes', WHERE WHAT IT READS IS OF BULK AT MOST 1048576: true; the input reads as it did. -/
def journalDecodesUptoRow : OpenClaim := { program := "ytedcbjgnidjidaa", sum := "ec040eaf63674789fb630711ac312c51c036e3b80deebb9a00462e1a43ab6ede", func := "additive/additivelaw52.JournalDecodes", spec := "journalDecodes", unfollowed := true, recurses := true, apart := false, narrowed := true }
def JournalDecodesUptoSaid : Prop := journalDecodesUptoRow.holds Try.pinned (OpenSpec.upto journalDecodesSpec)

/-- 'additivelaw52.JournalRoundTrips', WHERE WHAT IT READS IS OF BULK AT MOST 1048576: true; the input reads as it did. -/
def journalRoundTripsUptoRow : OpenClaim := { program := "ytedcbjgnidjidaa", sum := "ec040eaf63674789fb630711ac312c51c036e3b80deebb9a00462e1a43ab6ede", func := "additive/additivelaw52.JournalRoundTrips", spec := "journalRoundTrips", unfollowed := true, recurses := true, apart := false, narrowed := true }
def JournalRoundTripsUptoSaid : Prop := journalRoundTripsUptoRow.holds Try.pinned (OpenSpec.upto journalRoundTripsSpec)

/-- 'additivelaw52.JournalDamage', WHERE WHAT IT READS IS OF BULK AT MOST 1048576: true; the input reads as it did. -/
def journalDamageUptoRow : OpenClaim := { program := "ytedcbjgnidjidaa", sum := "ec040eaf63674789fb630711ac312c51c036e3b80deebb9a00462e1a43ab6ede", func := "additive/additivelaw52.JournalDamage", spec := "journalDamage", unfollowed := true, recurses := true, apart := false, narrowed := true }
def JournalDamageUptoSaid : Prop := journalDamageUptoRow.holds Try.pinned (OpenSpec.upto journalDamageSpec)

/-- 'additivelaw52.JournalReads', WHERE WHAT IT READS IS OF BULK AT MOST 1048576: true; the input reads as it did. -/
def journalReadsUptoRow : OpenClaim := { program := "ytedcbjgnidjidaa", sum := "ec040eaf63674789fb630711ac312c51c036e3b80deebb9a00462e1a43ab6ede", func := "additive/additivelaw52.JournalReads", spec := "journalReads", unfollowed := true, recurses := true, apart := false, narrowed := true }
def JournalReadsUptoSaid : Prop := journalReadsUptoRow.holds Try.pinned (OpenSpec.upto journalReadsSpec)

/-- 'additivelaw52.JournalAppends', WHERE WHAT IT READS IS OF BULK AT MOST 1048576: true; the input reads as it did. -/
def journalAppendsUptoRow : OpenClaim := { program := "ytedcbjgnidjidaa", sum := "ec040eaf63674789fb630711ac312c51c036e3b80deebb9a00462e1a43ab6ede", func := "additive/additivelaw52.JournalAppends", spec := "journalAppends", unfollowed := true, recurses := true, apart := false, narrowed := true }
def JournalAppendsUptoSaid : Prop := journalAppendsUptoRow.holds Try.pinned (OpenSpec.upto journalAppendsSpec)

/-- 'additivelaw52.JournalWindow', WHERE WHAT IT READS IS OF BULK AT MOST 1048576: true; the input reads as it did. -/
def journalWindowUptoRow : OpenClaim := { program := "ytedcbjgnidjidaa", sum := "ec040eaf63674789fb630711ac312c51c036e3b80deebb9a00462e1a43ab6ede", func := "additive/additivelaw52.JournalWindow", spec := "journalWindow", unfollowed := true, recurses := true, apart := false, narrowed := true }
def JournalWindowUptoSaid : Prop := journalWindowUptoRow.holds Try.pinned (OpenSpec.upto journalWindowSpec)

/-- 'additivelaw52.JournalSurvives', WHERE WHAT IT READS IS OF BULK AT MOST 1048576: true; the input reads as it did. -/
def journalSurvivesUptoRow : OpenClaim := { program := "ytedcbjgnidjidaa", sum := "ec040eaf63674789fb630711ac312c51c036e3b80deebb9a00462e1a43ab6ede", func := "additive/additivelaw52.JournalSurvives", spec := "journalSurvives", unfollowed := true, recurses := true, apart := false, narrowed := true }
def JournalSurvivesUptoSaid : Prop := journalSurvivesUptoRow.holds Try.pinned (OpenSpec.upto journalSurvivesSpec)

end Rows
end Go.Proofs.Ytedcbjgnidjidaa
