/-
  No cell of these rows narrows 'for every input' (looked for: loops, veiled, ifaces, maps, wideKeys, modest, calm, conditions, laid).
  DERIVED. THE GIVEN ROWS OF THIS SEAT. 5 by the template 'for every input the law returns true; each argument reads behind the call as it read before'; 0 by the template 'total and deterministic' (their statements: YtjagplonneednaaTotals.lean).
  GIVEN WITH THE SEED: the statements are not yours to turn. If you find one false, say at which input.
  Laid BY PROGRAM, IN A SANDBOX (cutbox-rows.mjs): the forced cells as the released guide's own fill.sh prints them over the translation 1b34157277e6e5f2… (all of the seat's roots in one cut). By AI agents, Wed Nov 11 2026. No macro, syntax, notation, axiom, sorry.
-/
import Derived.Test.YtjagplonneednaaChecked
import GoSem.Claim
import GoSem.ClaimJoined
import GoSem.ClaimMapViews
import Derived.JoinedTies
import Derived.KernelRfl
namespace Go.Proofs.Ytjagplonneednaa
/- THE CELL 'sum', in the pinned program and in every row, IS THE sha256 OF THE DUMP (.gsa) THAT YtjagplonneednaaProg.lean LOADS. Nothing in Lean hashes anything: it is a label: what it is worth is what the hold of that sum in a sandbox is worth. -/
noncomputable def Try.pinned : Pinned := { name := "ytjagplonneednaa", sum := "1b34157277e6e5f294ec5a9ca841cad9d05f8ddd682dd0db63aba44663dca03f", checked := Try.checked }
namespace Rows
def none {H : Type} : Left H := { results := [], args := [] }

/-- 'spoorlaw06.ManifestPuts': WHATEVER THE INPUT: true; the input reads as it did. -/
def manifestPutsSpec : ChangeSpec := { name := "manifestPuts", fn := fun _ => fun
  | [d1, d2] => { results := [.lit (.bool true)], args := [d1, d2] }
  | _ => none }
def manifestPutsRow : OpenClaim := { program := "ytjagplonneednaa", sum := "1b34157277e6e5f294ec5a9ca841cad9d05f8ddd682dd0db63aba44663dca03f", func := "spoor/spoorlaw06.ManifestPuts", spec := "manifestPuts", unfollowed := true, recurses := true, apart := false }
def ManifestPutsSaid : Prop := manifestPutsRow.holds Try.pinned (OpenSpec.ofChange manifestPutsSpec)

/-- ITS FALSE NEIGHBOUR: 'it returns false'. Refute it at one input. -/
def manifestPutsWrong : ChangeSpec := { name := "manifestPuts", fn := fun _ => fun
  | [d1, d2] => { results := [.lit (.bool false)], args := [d1, d2] }
  | _ => none }
def ManifestPutsWrongFalsely : Prop := manifestPutsRow.holds Try.pinned (OpenSpec.ofChange manifestPutsWrong)

/-- 'spoorlaw06.ManifestLoads': WHATEVER THE INPUT: true; the input reads as it did. -/
def manifestLoadsSpec : ChangeSpec := { name := "manifestLoads", fn := fun _ => fun
  | [d1, d2] => { results := [.lit (.bool true)], args := [d1, d2] }
  | _ => none }
def manifestLoadsRow : OpenClaim := { program := "ytjagplonneednaa", sum := "1b34157277e6e5f294ec5a9ca841cad9d05f8ddd682dd0db63aba44663dca03f", func := "spoor/spoorlaw06.ManifestLoads", spec := "manifestLoads", unfollowed := true, recurses := true, apart := false }
def ManifestLoadsSaid : Prop := manifestLoadsRow.holds Try.pinned (OpenSpec.ofChange manifestLoadsSpec)

/-- ITS FALSE NEIGHBOUR: 'it returns false'. Refute it at one input. -/
def manifestLoadsWrong : ChangeSpec := { name := "manifestLoads", fn := fun _ => fun
  | [d1, d2] => { results := [.lit (.bool false)], args := [d1, d2] }
  | _ => none }
def ManifestLoadsWrongFalsely : Prop := manifestLoadsRow.holds Try.pinned (OpenSpec.ofChange manifestLoadsWrong)

/-- 'spoorlaw06.ManifestBack': WHATEVER THE INPUT: true; the input reads as it did. -/
def manifestBackSpec : ChangeSpec := { name := "manifestBack", fn := fun _ => fun
  | [d1, d2] => { results := [.lit (.bool true)], args := [d1, d2] }
  | _ => none }
def manifestBackRow : OpenClaim := { program := "ytjagplonneednaa", sum := "1b34157277e6e5f294ec5a9ca841cad9d05f8ddd682dd0db63aba44663dca03f", func := "spoor/spoorlaw06.ManifestBack", spec := "manifestBack", unfollowed := true, recurses := true, apart := false }
def ManifestBackSaid : Prop := manifestBackRow.holds Try.pinned (OpenSpec.ofChange manifestBackSpec)

/-- ITS FALSE NEIGHBOUR: 'it returns false'. Refute it at one input. -/
def manifestBackWrong : ChangeSpec := { name := "manifestBack", fn := fun _ => fun
  | [d1, d2] => { results := [.lit (.bool false)], args := [d1, d2] }
  | _ => none }
def ManifestBackWrongFalsely : Prop := manifestBackRow.holds Try.pinned (OpenSpec.ofChange manifestBackWrong)

/-- 'spoorlaw06.ManifestTorn': WHATEVER THE INPUT: true; the input reads as it did. -/
def manifestTornSpec : ChangeSpec := { name := "manifestTorn", fn := fun _ => fun
  | [d1, d2, d3] => { results := [.lit (.bool true)], args := [d1, d2, d3] }
  | _ => none }
def manifestTornRow : OpenClaim := { program := "ytjagplonneednaa", sum := "1b34157277e6e5f294ec5a9ca841cad9d05f8ddd682dd0db63aba44663dca03f", func := "spoor/spoorlaw06.ManifestTorn", spec := "manifestTorn", unfollowed := true, recurses := true, apart := false }
def ManifestTornSaid : Prop := manifestTornRow.holds Try.pinned (OpenSpec.ofChange manifestTornSpec)

/-- ITS FALSE NEIGHBOUR: 'it returns false'. Refute it at one input. -/
def manifestTornWrong : ChangeSpec := { name := "manifestTorn", fn := fun _ => fun
  | [d1, d2, d3] => { results := [.lit (.bool false)], args := [d1, d2, d3] }
  | _ => none }
def ManifestTornWrongFalsely : Prop := manifestTornRow.holds Try.pinned (OpenSpec.ofChange manifestTornWrong)

/-- 'spoorlaw06.ManifestTurns': WHATEVER THE INPUT: true; the input reads as it did. -/
def manifestTurnsSpec : ChangeSpec := { name := "manifestTurns", fn := fun _ => fun
  | [d1, d2, d3, d4, d5] => { results := [.lit (.bool true)], args := [d1, d2, d3, d4, d5] }
  | _ => none }
def manifestTurnsRow : OpenClaim := { program := "ytjagplonneednaa", sum := "1b34157277e6e5f294ec5a9ca841cad9d05f8ddd682dd0db63aba44663dca03f", func := "spoor/spoorlaw06.ManifestTurns", spec := "manifestTurns", unfollowed := true, recurses := true, apart := false }
def ManifestTurnsSaid : Prop := manifestTurnsRow.holds Try.pinned (OpenSpec.ofChange manifestTurnsSpec)

/-- ITS FALSE NEIGHBOUR: 'it returns false'. Refute it at one input. -/
def manifestTurnsWrong : ChangeSpec := { name := "manifestTurns", fn := fun _ => fun
  | [d1, d2, d3, d4, d5] => { results := [.lit (.bool false)], args := [d1, d2, d3, d4, d5] }
  | _ => none }
def ManifestTurnsWrongFalsely : Prop := manifestTurnsRow.holds Try.pinned (OpenSpec.ofChange manifestTurnsWrong)

/- THE SECOND FORM. 'bulk': how many values and letters a reading holds, each counted each time it is reached (what is shared counts as often as it is met; a slice's spare places count too). A statement '..UptoSaid' is the law's where the arguments, and the package variables that the reading takes, are together of bulk at most 1048576: NARROWER than '..Said'. Prove '..Said' where nothing that the law and all that it calls make is longer than what came in: it says more and counts as full. Else prove '..UptoSaid'. A law counts once. -/
mutual
def uptoBulk {H : Type} : DataW H → Nat
  | .lit (.string bytes) => bytes.length + 1
  | .lit _ => 1
  | .nil => 1
  | .ptr d => uptoBulk d + 1
  | .slice elems spare => uptoBulkAll elems + uptoBulkAll spare + 1
  | .agg parts => uptoBulkAll parts + 1
  | .iface _ d => uptoBulk d + 1
  | .map entries => uptoBulkEntries entries + 1
  | .held _ => 1
def uptoBulkAll {H : Type} : List (DataW H) → Nat
  | [] => 0
  | d :: r => uptoBulk d + uptoBulkAll r
def uptoBulkEntries {H : Type} : List (Lit × DataW H) → Nat
  | [] => 0
  | x :: r => uptoBulkEntry x + uptoBulkEntries r
def uptoBulkEntry {H : Type} : Lit × DataW H → Nat
  | (.string bytes, d) => bytes.length + uptoBulk d + 1
  | (_, d) => uptoBulk d + 1
 end
def uptoSmall : (H : Type) → List (DataW H) → Bool := fun _ ds => decide (uptoBulkAll ds ≤ 1048576)
def OpenSpec.upto (s : _root_.Go.ChangeSpec) : _root_.Go.OpenSpec := { _root_.Go.OpenSpec.ofChange s with cond := some uptoSmall }

/-- 'spoorlaw06.ManifestPuts', WHERE WHAT IT READS IS OF BULK AT MOST 1048576: true; the input reads as it did. -/
def manifestPutsUptoRow : OpenClaim := { program := "ytjagplonneednaa", sum := "1b34157277e6e5f294ec5a9ca841cad9d05f8ddd682dd0db63aba44663dca03f", func := "spoor/spoorlaw06.ManifestPuts", spec := "manifestPuts", unfollowed := true, recurses := true, apart := false, narrowed := true }
def ManifestPutsUptoSaid : Prop := manifestPutsUptoRow.holds Try.pinned (OpenSpec.upto manifestPutsSpec)

/-- 'spoorlaw06.ManifestLoads', WHERE WHAT IT READS IS OF BULK AT MOST 1048576: true; the input reads as it did. -/
def manifestLoadsUptoRow : OpenClaim := { program := "ytjagplonneednaa", sum := "1b34157277e6e5f294ec5a9ca841cad9d05f8ddd682dd0db63aba44663dca03f", func := "spoor/spoorlaw06.ManifestLoads", spec := "manifestLoads", unfollowed := true, recurses := true, apart := false, narrowed := true }
def ManifestLoadsUptoSaid : Prop := manifestLoadsUptoRow.holds Try.pinned (OpenSpec.upto manifestLoadsSpec)

/-- 'spoorlaw06.ManifestBack', WHERE WHAT IT READS IS OF BULK AT MOST 1048576: true; the input reads as it did. -/
def manifestBackUptoRow : OpenClaim := { program := "ytjagplonneednaa", sum := "1b34157277e6e5f294ec5a9ca841cad9d05f8ddd682dd0db63aba44663dca03f", func := "spoor/spoorlaw06.ManifestBack", spec := "manifestBack", unfollowed := true, recurses := true, apart := false, narrowed := true }
def ManifestBackUptoSaid : Prop := manifestBackUptoRow.holds Try.pinned (OpenSpec.upto manifestBackSpec)

/-- 'spoorlaw06.ManifestTorn', WHERE WHAT IT READS IS OF BULK AT MOST 1048576: true; the input reads as it did. -/
def manifestTornUptoRow : OpenClaim := { program := "ytjagplonneednaa", sum := "1b34157277e6e5f294ec5a9ca841cad9d05f8ddd682dd0db63aba44663dca03f", func := "spoor/spoorlaw06.ManifestTorn", spec := "manifestTorn", unfollowed := true, recurses := true, apart := false, narrowed := true }
def ManifestTornUptoSaid : Prop := manifestTornUptoRow.holds Try.pinned (OpenSpec.upto manifestTornSpec)

/-- 'spoorlaw06.ManifestTurns', WHERE WHAT IT READS IS OF BULK AT MOST 1048576: true; the input reads as it did. -/
def manifestTurnsUptoRow : OpenClaim := { program := "ytjagplonneednaa", sum := "1b34157277e6e5f294ec5a9ca841cad9d05f8ddd682dd0db63aba44663dca03f", func := "spoor/spoorlaw06.ManifestTurns", spec := "manifestTurns", unfollowed := true, recurses := true, apart := false, narrowed := true }
def ManifestTurnsUptoSaid : Prop := manifestTurnsUptoRow.holds Try.pinned (OpenSpec.upto manifestTurnsSpec)

end Rows
end Go.Proofs.Ytjagplonneednaa
