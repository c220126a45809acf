/-
  No cell of these rows narrows 'for every input' (looked for: loops, veiled, ifaces, maps, wideKeys, modest, calm, conditions, laid).
  DERIVED. THE GIVEN ROWS OF THIS SEAT. 5 by the template 'for every input the law returns true; each argument reads behind the call as it read before'; 0 by the template 'total and deterministic' (their statements: YtahpclonmobkiaaTotals.lean).
  GIVEN WITH THE SEED: the statements are not yours to turn. If you find one false, say at which input.
  Laid BY PROGRAM, IN A SANDBOX (cutbox-rows.mjs): the forced cells as the released guide's own fill.sh prints them over the translation 3fb8dda120292052… (all of the seat's roots in one cut). By AI agents, Wed Nov 11 2026. No macro, syntax, notation, axiom, sorry.
-/
import Derived.Test.YtahpclonmobkiaaChecked
import GoSem.Claim
import GoSem.ClaimJoined
import GoSem.ClaimMapViews
import Derived.JoinedTies
import Derived.KernelRfl
namespace Go.Proofs.Ytahpclonmobkiaa
/- THE CELL 'sum', in the pinned program and in every row, IS THE sha256 OF THE DUMP (.gsa) THAT YtahpclonmobkiaaProg.lean LOADS. Nothing in Lean hashes anything: it is a label: what it is worth is what the hold of that sum in a sandbox is worth. -/
noncomputable def Try.pinned : Pinned := { name := "ytahpclonmobkiaa", sum := "3fb8dda120292052ff22b594a0ff13bb65b120411ce8a70bb283a7e6f16d379f", checked := Try.checked }
namespace Rows
def none {H : Type} : Left H := { results := [], args := [] }

/-- 'additivelaw12.HolesFans': WHATEVER THE INPUT: true; the input reads as it did. -/
def holesFansSpec : ChangeSpec := { name := "holesFans", fn := fun _ => fun
  | [d] => { results := [.lit (.bool true)], args := [d] }
  | _ => none }
def holesFansRow : OpenClaim := { program := "ytahpclonmobkiaa", sum := "3fb8dda120292052ff22b594a0ff13bb65b120411ce8a70bb283a7e6f16d379f", func := "additive/additivelaw12.HolesFans", spec := "holesFans", unfollowed := true, recurses := true, plainKeys := false, apart := false }
def HolesFansSaid : Prop := holesFansRow.holds Try.pinned (OpenSpec.ofChange holesFansSpec)

/-- ITS FALSE NEIGHBOUR: 'it returns false'. Refute it at one input. -/
def holesFansWrong : ChangeSpec := { name := "holesFans", fn := fun _ => fun
  | [d] => { results := [.lit (.bool false)], args := [d] }
  | _ => none }
def HolesFansWrongFalsely : Prop := holesFansRow.holds Try.pinned (OpenSpec.ofChange holesFansWrong)

/-- 'additivelaw12.HolesFills': WHATEVER THE INPUT: true; the input reads as it did. -/
def holesFillsSpec : ChangeSpec := { name := "holesFills", fn := fun _ => fun
  | [d] => { results := [.lit (.bool true)], args := [d] }
  | _ => none }
def holesFillsRow : OpenClaim := { program := "ytahpclonmobkiaa", sum := "3fb8dda120292052ff22b594a0ff13bb65b120411ce8a70bb283a7e6f16d379f", func := "additive/additivelaw12.HolesFills", spec := "holesFills", unfollowed := true, recurses := true, plainKeys := false, apart := false }
def HolesFillsSaid : Prop := holesFillsRow.holds Try.pinned (OpenSpec.ofChange holesFillsSpec)

/-- ITS FALSE NEIGHBOUR: 'it returns false'. Refute it at one input. -/
def holesFillsWrong : ChangeSpec := { name := "holesFills", fn := fun _ => fun
  | [d] => { results := [.lit (.bool false)], args := [d] }
  | _ => none }
def HolesFillsWrongFalsely : Prop := holesFillsRow.holds Try.pinned (OpenSpec.ofChange holesFillsWrong)

/-- 'additivelaw12.HolesLoops': WHATEVER THE INPUT: true; the input reads as it did. -/
def holesLoopsSpec : ChangeSpec := { name := "holesLoops", fn := fun _ => fun
  | [d] => { results := [.lit (.bool true)], args := [d] }
  | _ => none }
def holesLoopsRow : OpenClaim := { program := "ytahpclonmobkiaa", sum := "3fb8dda120292052ff22b594a0ff13bb65b120411ce8a70bb283a7e6f16d379f", func := "additive/additivelaw12.HolesLoops", spec := "holesLoops", unfollowed := true, recurses := true, plainKeys := false, apart := false }
def HolesLoopsSaid : Prop := holesLoopsRow.holds Try.pinned (OpenSpec.ofChange holesLoopsSpec)

/-- ITS FALSE NEIGHBOUR: 'it returns false'. Refute it at one input. -/
def holesLoopsWrong : ChangeSpec := { name := "holesLoops", fn := fun _ => fun
  | [d] => { results := [.lit (.bool false)], args := [d] }
  | _ => none }
def HolesLoopsWrongFalsely : Prop := holesLoopsRow.holds Try.pinned (OpenSpec.ofChange holesLoopsWrong)

/-- 'additivelaw12.HolesClose': WHATEVER THE INPUT: true; the input reads as it did. -/
def holesCloseSpec : ChangeSpec := { name := "holesClose", fn := fun _ => fun
  | [d] => { results := [.lit (.bool true)], args := [d] }
  | _ => none }
def holesCloseRow : OpenClaim := { program := "ytahpclonmobkiaa", sum := "3fb8dda120292052ff22b594a0ff13bb65b120411ce8a70bb283a7e6f16d379f", func := "additive/additivelaw12.HolesClose", spec := "holesClose", unfollowed := true, recurses := true, plainKeys := false, apart := false }
def HolesCloseSaid : Prop := holesCloseRow.holds Try.pinned (OpenSpec.ofChange holesCloseSpec)

/-- ITS FALSE NEIGHBOUR: 'it returns false'. Refute it at one input. -/
def holesCloseWrong : ChangeSpec := { name := "holesClose", fn := fun _ => fun
  | [d] => { results := [.lit (.bool false)], args := [d] }
  | _ => none }
def HolesCloseWrongFalsely : Prop := holesCloseRow.holds Try.pinned (OpenSpec.ofChange holesCloseWrong)

/-- 'additivelaw12.HolesKeeps': WHATEVER THE INPUT: true; the input reads as it did. -/
def holesKeepsSpec : ChangeSpec := { name := "holesKeeps", fn := fun _ => fun
  | [d] => { results := [.lit (.bool true)], args := [d] }
  | _ => none }
def holesKeepsRow : OpenClaim := { program := "ytahpclonmobkiaa", sum := "3fb8dda120292052ff22b594a0ff13bb65b120411ce8a70bb283a7e6f16d379f", func := "additive/additivelaw12.HolesKeeps", spec := "holesKeeps", unfollowed := true, recurses := true, plainKeys := false, apart := false }
def HolesKeepsSaid : Prop := holesKeepsRow.holds Try.pinned (OpenSpec.ofChange holesKeepsSpec)

/-- ITS FALSE NEIGHBOUR: 'it returns false'. Refute it at one input. -/
def holesKeepsWrong : ChangeSpec := { name := "holesKeeps", fn := fun _ => fun
  | [d] => { results := [.lit (.bool false)], args := [d] }
  | _ => none }
def HolesKeepsWrongFalsely : Prop := holesKeepsRow.holds Try.pinned (OpenSpec.ofChange holesKeepsWrong)

/- THE SECOND FORM. 'bulk': how many values and letters a reading holds, each counted each time it is reached (what is shared counts as often as it is met; a slice's spare places count too). A statement '..UptoSaid' is the law's where the arguments, and the package variables that the reading takes, are together of bulk at most 1048576: NARROWER than '..Said'. Prove '..Said' where nothing that the law and all that it calls make is longer than what came in: it says more and counts as full. Else prove '..UptoSaid'. A law counts once. -/
mutual
def uptoBulk {H : Type} : DataW H → Nat
  | .lit (.string bytes) => bytes.length + 1
  | .lit _ => 1
  | .nil => 1
  | .ptr d => uptoBulk d + 1
  | .slice elems spare => uptoBulkAll elems + uptoBulkAll spare + 1
  | .agg parts => uptoBulkAll parts + 1
  | .iface _ d => uptoBulk d + 1
  | .map entries => uptoBulkEntries entries + 1
  | .held _ => 1
def uptoBulkAll {H : Type} : List (DataW H) → Nat
  | [] => 0
  | d :: r => uptoBulk d + uptoBulkAll r
def uptoBulkEntries {H : Type} : List (Lit × DataW H) → Nat
  | [] => 0
  | x :: r => uptoBulkEntry x + uptoBulkEntries r
def uptoBulkEntry {H : Type} : Lit × DataW H → Nat
  | (.string bytes, d) => bytes.length + uptoBulk d + 1
  | (_, d) => uptoBulk d + 1
 end
def uptoSmall : (H : Type) → List (DataW H) → Bool := fun _ ds => decide (uptoBulkAll ds ≤ 1048576)
def OpenSpec.upto (s : _root_.Go.ChangeSpec) : _root_.Go.OpenSpec := { _root_.Go.OpenSpec.ofChange s with cond := some uptoSmall }

/-- 'additivelaw12.HolesFans', WHERE WHAT IT READS IS OF BULK AT MOST 1048576: true; the input reads as it did. -/
def holesFansUptoRow : OpenClaim := { program := "ytahpclonmobkiaa", sum := "3fb8dda120292052ff22b594a0ff13bb65b120411ce8a70bb283a7e6f16d379f", func := "additive/additivelaw12.HolesFans", spec := "holesFans", unfollowed := true, recurses := true, plainKeys := false, apart := false, narrowed := true }
def HolesFansUptoSaid : Prop := holesFansUptoRow.holds Try.pinned (OpenSpec.upto holesFansSpec)

/-- 'additivelaw12.HolesFills', WHERE WHAT IT READS IS OF BULK AT MOST 1048576: true; the input reads as it did. -/
def holesFillsUptoRow : OpenClaim := { program := "ytahpclonmobkiaa", sum := "3fb8dda120292052ff22b594a0ff13bb65b120411ce8a70bb283a7e6f16d379f", func := "additive/additivelaw12.HolesFills", spec := "holesFills", unfollowed := true, recurses := true, plainKeys := false, apart := false, narrowed := true }
def HolesFillsUptoSaid : Prop := holesFillsUptoRow.holds Try.pinned (OpenSpec.upto holesFillsSpec)

/-- 'additivelaw12.HolesLoops', WHERE WHAT IT READS IS OF BULK AT MOST 1048576: true; the input reads as it did. -/
def holesLoopsUptoRow : OpenClaim := { program := "ytahpclonmobkiaa", sum := "3fb8dda120292052ff22b594a0ff13bb65b120411ce8a70bb283a7e6f16d379f", func := "additive/additivelaw12.HolesLoops", spec := "holesLoops", unfollowed := true, recurses := true, plainKeys := false, apart := false, narrowed := true }
def HolesLoopsUptoSaid : Prop := holesLoopsUptoRow.holds Try.pinned (OpenSpec.upto holesLoopsSpec)

/-- 'additivelaw12.HolesClose', WHERE WHAT IT READS IS OF BULK AT MOST 1048576: true; the input reads as it did. -/
def holesCloseUptoRow : OpenClaim := { program := "ytahpclonmobkiaa", sum := "3fb8dda120292052ff22b594a0ff13bb65b120411ce8a70bb283a7e6f16d379f", func := "additive/additivelaw12.HolesClose", spec := "holesClose", unfollowed := true, recurses := true, plainKeys := false, apart := false, narrowed := true }
def HolesCloseUptoSaid : Prop := holesCloseUptoRow.holds Try.pinned (OpenSpec.upto holesCloseSpec)

/-- 'additivelaw12.HolesKeeps', WHERE WHAT IT READS IS OF BULK AT MOST 1048576: true; the input reads as it did. -/
def holesKeepsUptoRow : OpenClaim := { program := "ytahpclonmobkiaa", sum := "3fb8dda120292052ff22b594a0ff13bb65b120411ce8a70bb283a7e6f16d379f", func := "additive/additivelaw12.HolesKeeps", spec := "holesKeeps", unfollowed := true, recurses := true, plainKeys := false, apart := false, narrowed := true }
def HolesKeepsUptoSaid : Prop := holesKeepsUptoRow.holds Try.pinned (OpenSpec.upto holesKeepsSpec)

end Rows
end Go.Proofs.Ytahpclonmobkiaa
