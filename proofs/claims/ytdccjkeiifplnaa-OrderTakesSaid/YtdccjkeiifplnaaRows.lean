/-
  No cell of these rows narrows 'for every input' (looked for: loops, veiled, ifaces, maps, wideKeys, modest, calm, conditions, laid).
  DERIVED. THE GIVEN ROWS OF THIS SEAT. 4 by the template 'for every input the law returns true; each argument reads behind the call as it read before'; 0 by the template 'total and deterministic' (their statements: YtdccjkeiifplnaaTotals.lean).
  GIVEN WITH THE SEED: the statements are not yours to turn. If you find one false, say at which input.
  Laid BY PROGRAM, IN A SANDBOX (cutbox-rows.mjs): the forced cells as the released guide's own fill.sh prints them over the translation a522fdaa77d281bd… (all of the seat's roots in one cut). By AI agents, Wed Nov 11 2026. No macro, syntax, notation, axiom, sorry.
-/
import Derived.Test.YtdccjkeiifplnaaChecked
import GoSem.Claim
import GoSem.ClaimJoined
import GoSem.ClaimMapViews
import Derived.JoinedTies
import Derived.KernelRfl
namespace Go.Proofs.Ytdccjkeiifplnaa
/- THE CELL 'sum', in the pinned program and in every row, IS THE sha256 OF THE DUMP (.gsa) THAT YtdccjkeiifplnaaProg.lean LOADS. Nothing in Lean hashes anything: it is a label: what it is worth is what the hold of that sum in a sandbox is worth. -/
noncomputable def Try.pinned : Pinned := { name := "ytdccjkeiifplnaa", sum := "a522fdaa77d281bdc93bf50f6d71f6ee11945b59b1c6e99b437dd56728230f58", checked := Try.checked }
namespace Rows
def none {H : Type} : Left H := { results := [], args := [] }

/-- 'spoorlaw14.OrderTakes': WHATEVER THE INPUT: true; the input reads as it did. -/
def orderTakesSpec : ChangeSpec := { name := "orderTakes", fn := fun _ => fun
  | [d1, d2, d3] => { results := [.lit (.bool true)], args := [d1, d2, d3] }
  | _ => none }
def orderTakesRow : OpenClaim := { program := "ytdccjkeiifplnaa", sum := "a522fdaa77d281bdc93bf50f6d71f6ee11945b59b1c6e99b437dd56728230f58", func := "spoor/spoorlaw14.OrderTakes", spec := "orderTakes", inPlace := ["slices.overlaps[spoor/api.Seat]"], unfollowed := true, recurses := true, apart := false }
def OrderTakesSaid : Prop := orderTakesRow.holds Try.pinned (OpenSpec.ofChange orderTakesSpec)

/-- ITS FALSE NEIGHBOUR: 'it returns false'. Refute it at one input. -/
def orderTakesWrong : ChangeSpec := { name := "orderTakes", fn := fun _ => fun
  | [d1, d2, d3] => { results := [.lit (.bool false)], args := [d1, d2, d3] }
  | _ => none }
def OrderTakesWrongFalsely : Prop := orderTakesRow.holds Try.pinned (OpenSpec.ofChange orderTakesWrong)

/-- 'spoorlaw14.OrderOwn': WHATEVER THE INPUT: true; the input reads as it did. -/
def orderOwnSpec : ChangeSpec := { name := "orderOwn", fn := fun _ => fun
  | [d1, d2, d3] => { results := [.lit (.bool true)], args := [d1, d2, d3] }
  | _ => none }
def orderOwnRow : OpenClaim := { program := "ytdccjkeiifplnaa", sum := "a522fdaa77d281bdc93bf50f6d71f6ee11945b59b1c6e99b437dd56728230f58", func := "spoor/spoorlaw14.OrderOwn", spec := "orderOwn", inPlace := ["slices.overlaps[spoor/api.Seat]"], unfollowed := true, recurses := true, apart := false }
def OrderOwnSaid : Prop := orderOwnRow.holds Try.pinned (OpenSpec.ofChange orderOwnSpec)

/-- ITS FALSE NEIGHBOUR: 'it returns false'. Refute it at one input. -/
def orderOwnWrong : ChangeSpec := { name := "orderOwn", fn := fun _ => fun
  | [d1, d2, d3] => { results := [.lit (.bool false)], args := [d1, d2, d3] }
  | _ => none }
def OrderOwnWrongFalsely : Prop := orderOwnRow.holds Try.pinned (OpenSpec.ofChange orderOwnWrong)

/-- 'spoorlaw14.OrderOnce': WHATEVER THE INPUT: true; the input reads as it did. -/
def orderOnceSpec : ChangeSpec := { name := "orderOnce", fn := fun _ => fun
  | [d1, d2, d3] => { results := [.lit (.bool true)], args := [d1, d2, d3] }
  | _ => none }
def orderOnceRow : OpenClaim := { program := "ytdccjkeiifplnaa", sum := "a522fdaa77d281bdc93bf50f6d71f6ee11945b59b1c6e99b437dd56728230f58", func := "spoor/spoorlaw14.OrderOnce", spec := "orderOnce", inPlace := ["slices.overlaps[spoor/api.Seat]"], unfollowed := true, recurses := true, apart := false }
def OrderOnceSaid : Prop := orderOnceRow.holds Try.pinned (OpenSpec.ofChange orderOnceSpec)

/-- ITS FALSE NEIGHBOUR: 'it returns false'. Refute it at one input. -/
def orderOnceWrong : ChangeSpec := { name := "orderOnce", fn := fun _ => fun
  | [d1, d2, d3] => { results := [.lit (.bool false)], args := [d1, d2, d3] }
  | _ => none }
def OrderOnceWrongFalsely : Prop := orderOnceRow.holds Try.pinned (OpenSpec.ofChange orderOnceWrong)

/-- 'spoorlaw14.OrderLater': WHATEVER THE INPUT: true; the input reads as it did. -/
def orderLaterSpec : ChangeSpec := { name := "orderLater", fn := fun _ => fun
  | [d1, d2, d3, d4] => { results := [.lit (.bool true)], args := [d1, d2, d3, d4] }
  | _ => none }
def orderLaterRow : OpenClaim := { program := "ytdccjkeiifplnaa", sum := "a522fdaa77d281bdc93bf50f6d71f6ee11945b59b1c6e99b437dd56728230f58", func := "spoor/spoorlaw14.OrderLater", spec := "orderLater", inPlace := ["slices.overlaps[spoor/api.Seat]"], unfollowed := true, recurses := true, apart := false }
def OrderLaterSaid : Prop := orderLaterRow.holds Try.pinned (OpenSpec.ofChange orderLaterSpec)

/-- ITS FALSE NEIGHBOUR: 'it returns false'. Refute it at one input. -/
def orderLaterWrong : ChangeSpec := { name := "orderLater", fn := fun _ => fun
  | [d1, d2, d3, d4] => { results := [.lit (.bool false)], args := [d1, d2, d3, d4] }
  | _ => none }
def OrderLaterWrongFalsely : Prop := orderLaterRow.holds Try.pinned (OpenSpec.ofChange orderLaterWrong)

/- THE SECOND FORM. 'bulk': how many values and letters a reading holds, each counted each time it is reached (what is shared counts as often as it is met; a slice's spare places count too). A statement '..UptoSaid' is the law's where the arguments, and the package variables that the reading takes, are together of bulk at most 1048576: NARROWER than '..Said'. Prove '..Said' where nothing that the law and all that it calls make is longer than what came in: it says more and counts as full. Else prove '..UptoSaid'. A law counts once. -/
mutual
def uptoBulk {H : Type} : DataW H → Nat
  | .lit (.string bytes) => bytes.length + 1
  | .lit _ => 1
  | .nil => 1
  | .ptr d => uptoBulk d + 1
  | .slice elems spare => uptoBulkAll elems + uptoBulkAll spare + 1
  | .agg parts => uptoBulkAll parts + 1
  | .iface _ d => uptoBulk d + 1
  | .map entries => uptoBulkEntries entries + 1
  | .held _ => 1
def uptoBulkAll {H : Type} : List (DataW H) → Nat
  | [] => 0
  | d :: r => uptoBulk d + uptoBulkAll r
def uptoBulkEntries {H : Type} : List (Lit × DataW H) → Nat
  | [] => 0
  | x :: r => uptoBulkEntry x + uptoBulkEntries r
def uptoBulkEntry {H : Type} : Lit × DataW H → Nat
  | (.string bytes, d) => bytes.length + uptoBulk d + 1
  | (_, d) => uptoBulk d + 1
 end
def uptoSmall : (H : Type) → List (DataW H) → Bool := fun _ ds => decide (uptoBulkAll ds ≤ 1048576)
def OpenSpec.upto (s : _root_.Go.ChangeSpec) : _root_.Go.OpenSpec := { _root_.Go.OpenSpec.ofChange s with cond := some uptoSmall }

/-- 'spoorlaw14.OrderTakes', WHERE WHAT IT READS IS OF BULK AT MOST 1048576: true; the input reads as it did. -/
def orderTakesUptoRow : OpenClaim := { program := "ytdccjkeiifplnaa", sum := "a522fdaa77d281bdc93bf50f6d71f6ee11945b59b1c6e99b437dd56728230f58", func := "spoor/spoorlaw14.OrderTakes", spec := "orderTakes", inPlace := ["slices.overlaps[spoor/api.Seat]"], unfollowed := true, recurses := true, apart := false, narrowed := true }
def OrderTakesUptoSaid : Prop := orderTakesUptoRow.holds Try.pinned (OpenSpec.upto orderTakesSpec)

/-- 'spoorlaw14.OrderOwn', WHERE WHAT IT READS IS OF BULK AT MOST 1048576: true; the input reads as it did. -/
def orderOwnUptoRow : OpenClaim := { program := "ytdccjkeiifplnaa", sum := "a522fdaa77d281bdc93bf50f6d71f6ee11945b59b1c6e99b437dd56728230f58", func := "spoor/spoorlaw14.OrderOwn", spec := "orderOwn", inPlace := ["slices.overlaps[spoor/api.Seat]"], unfollowed := true, recurses := true, apart := false, narrowed := true }
def OrderOwnUptoSaid : Prop := orderOwnUptoRow.holds Try.pinned (OpenSpec.upto orderOwnSpec)

/-- 'spoorlaw14.OrderOnce', WHERE WHAT IT READS IS OF BULK AT MOST 1048576: true; the input reads as it did. -/
def orderOnceUptoRow : OpenClaim := { program := "ytdccjkeiifplnaa", sum := "a522fdaa77d281bdc93bf50f6d71f6ee11945b59b1c6e99b437dd56728230f58", func := "spoor/spoorlaw14.OrderOnce", spec := "orderOnce", inPlace := ["slices.overlaps[spoor/api.Seat]"], unfollowed := true, recurses := true, apart := false, narrowed := true }
def OrderOnceUptoSaid : Prop := orderOnceUptoRow.holds Try.pinned (OpenSpec.upto orderOnceSpec)

/-- 'spoorlaw14.OrderLater', WHERE WHAT IT READS IS OF BULK AT MOST 1048576: true; the input reads as it did. -/
def orderLaterUptoRow : OpenClaim := { program := "ytdccjkeiifplnaa", sum := "a522fdaa77d281bdc93bf50f6d71f6ee11945b59b1c6e99b437dd56728230f58", func := "spoor/spoorlaw14.OrderLater", spec := "orderLater", inPlace := ["slices.overlaps[spoor/api.Seat]"], unfollowed := true, recurses := true, apart := false, narrowed := true }
def OrderLaterUptoSaid : Prop := orderLaterUptoRow.holds Try.pinned (OpenSpec.upto orderLaterSpec)

end Rows
end Go.Proofs.Ytdccjkeiifplnaa
