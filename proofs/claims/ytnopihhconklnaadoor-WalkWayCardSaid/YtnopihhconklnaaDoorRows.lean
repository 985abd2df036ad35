/-
  NARROWER THAN 'FOR EVERY INPUT', by the rows' own cells (each row's printed sentence says how): WalkGoes: laid · WalkOn: laid · WalkRound: laid · WalkWay: laid.
  DERIVED. THE GIVEN ROWS OF THIS SEAT. 4 by the template 'for every input the law returns true; each argument reads behind the call as it read before'; 0 by the template 'total and deterministic' (their statements: YtnopihhconklnaaDoorTotals.lean).
  GIVEN WITH THE SEED: the statements are not yours to turn. If you find one false, say at which input.
  Laid BY PROGRAM, IN A SANDBOX (cutbox-rows.mjs): the forced cells as the released guide's own fill.sh prints them over the translation ebb8571629beef78… (all of the seat's roots in one cut). By AI agents, Wed Nov 11 2026. No macro, syntax, notation, axiom, sorry.
-/
import Derived.Test.YtnopihhconklnaaDoorChecked
import GoSem.Claim
import GoSem.ClaimJoined
import GoSem.ClaimMapViews
import Derived.JoinedTies
import Derived.KernelRfl
namespace Go.Proofs.YtnopihhconklnaaDoor
/- THE CELL 'sum', in the pinned program and in every row, IS THE sha256 OF THE DUMP (.gsa) THAT YtnopihhconklnaaDoorProg.lean LOADS. Nothing in Lean hashes anything: it is a label: what it is worth is what the hold of that sum in a sandbox is worth. -/
noncomputable def Tryd.pinned : Pinned := { name := "ytnopihhconklnaadoor", sum := "ebb8571629beef789372caa381abb789f08442997baecdb52b234108ae3cfcfb", checked := Tryd.checked }
namespace Rows
def none {H : Type} : Left H := { results := [], args := [] }

/- WHAT THE LISTED PACKAGE-LEVEL VARIABLES READ AS WHEN THE CALL BEGINS. Each datum BY PROGRAM (the guide's laid-datum.mjs) off the statement by which the dump's own 'gosem.cut.vars' lays the variable. In a bare row this is a premise. The card (YtnopihhconklnaaDoorCards.lean) ties it to the program's text. -/
def laid_spoor_walk_kinds {H : Type} : DataW H := .agg [.lit (.int .u8 3), .lit (.int .u8 4), .lit (.int .u8 1), .lit (.int .u8 2)]

/-- 'spoorlaw23.WalkGoes': WHATEVER THE INPUT: true; the input reads as it did. -/
def walkGoesSpec : ChangeSpec := { name := "walkGoes", fn := fun _ => fun
  | [d1, d2, d3, d4, d5] => { results := [.lit (.bool true)], args := [d1, d2, d3, d4, d5] }
  | _ => none }
def walkGoesRow : OpenClaim := { program := "ytnopihhconklnaadoor", sum := "ebb8571629beef789372caa381abb789f08442997baecdb52b234108ae3cfcfb", func := "spoor/spoorlaw23.WalkGoes", spec := "walkGoes", unfollowed := true, recurses := true, named := ["spoor/walk.kinds"], apart := false, laid := [("spoor/walk.kinds", laid_spoor_walk_kinds)] }
def WalkGoesSaid : Prop := walkGoesRow.holds Tryd.pinned (OpenSpec.ofChange walkGoesSpec)

/-- ITS FALSE NEIGHBOUR: 'it returns false'. Refute it at one input. -/
def walkGoesWrong : ChangeSpec := { name := "walkGoes", fn := fun _ => fun
  | [d1, d2, d3, d4, d5] => { results := [.lit (.bool false)], args := [d1, d2, d3, d4, d5] }
  | _ => none }
def WalkGoesWrongFalsely : Prop := walkGoesRow.holds Tryd.pinned (OpenSpec.ofChange walkGoesWrong)

/-- 'spoorlaw23.WalkOn': WHATEVER THE INPUT: true; the input reads as it did. -/
def walkOnSpec : ChangeSpec := { name := "walkOn", fn := fun _ => fun
  | [d1, d2, d3, d4] => { results := [.lit (.bool true)], args := [d1, d2, d3, d4] }
  | _ => none }
def walkOnRow : OpenClaim := { program := "ytnopihhconklnaadoor", sum := "ebb8571629beef789372caa381abb789f08442997baecdb52b234108ae3cfcfb", func := "spoor/spoorlaw23.WalkOn", spec := "walkOn", unfollowed := true, recurses := true, named := ["spoor/walk.kinds"], apart := false, laid := [("spoor/walk.kinds", laid_spoor_walk_kinds)] }
def WalkOnSaid : Prop := walkOnRow.holds Tryd.pinned (OpenSpec.ofChange walkOnSpec)

/-- ITS FALSE NEIGHBOUR: 'it returns false'. Refute it at one input. -/
def walkOnWrong : ChangeSpec := { name := "walkOn", fn := fun _ => fun
  | [d1, d2, d3, d4] => { results := [.lit (.bool false)], args := [d1, d2, d3, d4] }
  | _ => none }
def WalkOnWrongFalsely : Prop := walkOnRow.holds Tryd.pinned (OpenSpec.ofChange walkOnWrong)

/-- 'spoorlaw23.WalkRound': WHATEVER THE INPUT: true; the input reads as it did. -/
def walkRoundSpec : ChangeSpec := { name := "walkRound", fn := fun _ => fun
  | [d1, d2, d3, d4] => { results := [.lit (.bool true)], args := [d1, d2, d3, d4] }
  | _ => none }
def walkRoundRow : OpenClaim := { program := "ytnopihhconklnaadoor", sum := "ebb8571629beef789372caa381abb789f08442997baecdb52b234108ae3cfcfb", func := "spoor/spoorlaw23.WalkRound", spec := "walkRound", unfollowed := true, recurses := true, named := ["spoor/walk.kinds"], apart := false, laid := [("spoor/walk.kinds", laid_spoor_walk_kinds)] }
def WalkRoundSaid : Prop := walkRoundRow.holds Tryd.pinned (OpenSpec.ofChange walkRoundSpec)

/-- ITS FALSE NEIGHBOUR: 'it returns false'. Refute it at one input. -/
def walkRoundWrong : ChangeSpec := { name := "walkRound", fn := fun _ => fun
  | [d1, d2, d3, d4] => { results := [.lit (.bool false)], args := [d1, d2, d3, d4] }
  | _ => none }
def WalkRoundWrongFalsely : Prop := walkRoundRow.holds Tryd.pinned (OpenSpec.ofChange walkRoundWrong)

/-- 'spoorlaw23.WalkWay': WHATEVER THE INPUT: true; the input reads as it did. -/
def walkWaySpec : ChangeSpec := { name := "walkWay", fn := fun _ => fun
  | [d1, d2, d3, d4] => { results := [.lit (.bool true)], args := [d1, d2, d3, d4] }
  | _ => none }
def walkWayRow : OpenClaim := { program := "ytnopihhconklnaadoor", sum := "ebb8571629beef789372caa381abb789f08442997baecdb52b234108ae3cfcfb", func := "spoor/spoorlaw23.WalkWay", spec := "walkWay", unfollowed := true, recurses := true, named := ["spoor/walk.kinds"], apart := false, laid := [("spoor/walk.kinds", laid_spoor_walk_kinds)] }
def WalkWaySaid : Prop := walkWayRow.holds Tryd.pinned (OpenSpec.ofChange walkWaySpec)

/-- ITS FALSE NEIGHBOUR: 'it returns false'. Refute it at one input. -/
def walkWayWrong : ChangeSpec := { name := "walkWay", fn := fun _ => fun
  | [d1, d2, d3, d4] => { results := [.lit (.bool false)], args := [d1, d2, d3, d4] }
  | _ => none }
def WalkWayWrongFalsely : Prop := walkWayRow.holds Tryd.pinned (OpenSpec.ofChange walkWayWrong)

/- THE SECOND FORM. 'bulk': how many values and letters a reading holds, each counted each time it is reached (what is shared counts as often as it is met; a slice's spare places count too). A statement '..UptoSaid' is the law's where the arguments, and the package variables that the reading takes, are together of bulk at most 1048576: NARROWER than '..Said'. Prove '..Said' where nothing that the law and all that it calls make is longer than what came in: it says more and counts as full. Else prove '..UptoSaid'. A law counts once. -/
mutual
def uptoBulk {H : Type} : DataW H → Nat
  | .lit (.string bytes) => bytes.length + 1
  | .lit _ => 1
  | .nil => 1
  | .ptr d => uptoBulk d + 1
  | .slice elems spare => uptoBulkAll elems + uptoBulkAll spare + 1
  | .agg parts => uptoBulkAll parts + 1
  | .iface _ d => uptoBulk d + 1
  | .map entries => uptoBulkEntries entries + 1
  | .held _ => 1
def uptoBulkAll {H : Type} : List (DataW H) → Nat
  | [] => 0
  | d :: r => uptoBulk d + uptoBulkAll r
def uptoBulkEntries {H : Type} : List (Lit × DataW H) → Nat
  | [] => 0
  | x :: r => uptoBulkEntry x + uptoBulkEntries r
def uptoBulkEntry {H : Type} : Lit × DataW H → Nat
  | (.string bytes, d) => bytes.length + uptoBulk d + 1
  | (_, d) => uptoBulk d + 1
 end
def uptoSmall : (H : Type) → List (DataW H) → Bool := fun _ ds => decide (uptoBulkAll ds ≤ 1048576)
def OpenSpec.upto (s : _root_.Go.ChangeSpec) : _root_.Go.OpenSpec := { _root_.Go.OpenSpec.ofChange s with cond := some uptoSmall }

/-- 'spoorlaw23.WalkGoes', WHERE WHAT IT READS IS OF BULK AT MOST 1048576: true; the input reads as it did. -/
def walkGoesUptoRow : OpenClaim := { program := "ytnopihhconklnaadoor", sum := "ebb8571629beef789372caa381abb789f08442997baecdb52b234108ae3cfcfb", func := "spoor/spoorlaw23.WalkGoes", spec := "walkGoes", unfollowed := true, recurses := true, named := ["spoor/walk.kinds"], apart := false, laid := [("spoor/walk.kinds", laid_spoor_walk_kinds)], narrowed := true }
def WalkGoesUptoSaid : Prop := walkGoesUptoRow.holds Tryd.pinned (OpenSpec.upto walkGoesSpec)

/-- 'spoorlaw23.WalkOn', WHERE WHAT IT READS IS OF BULK AT MOST 1048576: true; the input reads as it did. -/
def walkOnUptoRow : OpenClaim := { program := "ytnopihhconklnaadoor", sum := "ebb8571629beef789372caa381abb789f08442997baecdb52b234108ae3cfcfb", func := "spoor/spoorlaw23.WalkOn", spec := "walkOn", unfollowed := true, recurses := true, named := ["spoor/walk.kinds"], apart := false, laid := [("spoor/walk.kinds", laid_spoor_walk_kinds)], narrowed := true }
def WalkOnUptoSaid : Prop := walkOnUptoRow.holds Tryd.pinned (OpenSpec.upto walkOnSpec)

/-- 'spoorlaw23.WalkRound', WHERE WHAT IT READS IS OF BULK AT MOST 1048576: true; the input reads as it did. -/
def walkRoundUptoRow : OpenClaim := { program := "ytnopihhconklnaadoor", sum := "ebb8571629beef789372caa381abb789f08442997baecdb52b234108ae3cfcfb", func := "spoor/spoorlaw23.WalkRound", spec := "walkRound", unfollowed := true, recurses := true, named := ["spoor/walk.kinds"], apart := false, laid := [("spoor/walk.kinds", laid_spoor_walk_kinds)], narrowed := true }
def WalkRoundUptoSaid : Prop := walkRoundUptoRow.holds Tryd.pinned (OpenSpec.upto walkRoundSpec)

/-- 'spoorlaw23.WalkWay', WHERE WHAT IT READS IS OF BULK AT MOST 1048576: true; the input reads as it did. -/
def walkWayUptoRow : OpenClaim := { program := "ytnopihhconklnaadoor", sum := "ebb8571629beef789372caa381abb789f08442997baecdb52b234108ae3cfcfb", func := "spoor/spoorlaw23.WalkWay", spec := "walkWay", unfollowed := true, recurses := true, named := ["spoor/walk.kinds"], apart := false, laid := [("spoor/walk.kinds", laid_spoor_walk_kinds)], narrowed := true }
def WalkWayUptoSaid : Prop := walkWayUptoRow.holds Tryd.pinned (OpenSpec.upto walkWaySpec)

end Rows
end Go.Proofs.YtnopihhconklnaaDoor
