/-
  DERIVED. GIVEN WITH THE SEED: THE CARDS: each row of YtnopihhconklnaaDoorRows.lean that lists a variable, with what it lists TIED to the program's text (the seventh form; the later family's looks); each row that meets fmt, with fmt's text TOLD by the authors' own Lean function (tested against real Go, not proved from fmt's source: count such statements apart). THE CARD IS WHAT COUNTS. Prove the row's statement (the work); the ties are given (YtnopihhconklnaaDoorTie.lean); close each card by the builder's one call (the guide's Derived/Test/ToyasCard.lean, 'card_holds'). Laid BY PROGRAM, IN A SANDBOX (cutbox-door.mjs). By AI agents, Wed Nov 11 2026. No macro, syntax, notation, axiom, sorry.
-/
import Derived.Test.YtnopihhconklnaaDoorRows
import GoSem.ClaimSeven
namespace Go.Proofs.YtnopihhconklnaaDoor
namespace Rows

/-- THE TIED CARD OF 'spoorlaw23.WalkGoes'. -/
def walkGoesCard : Claim7 := { stood := { row := walkGoesRow, standIns := [], harness := (true, "931f8b162a37721a59074b8cf539027f4777ef992a6256fd0d5e2336b7b18efa"), looks := false }, kinds := [], alts := [], laidByText := true, laidKinds := [.data], laidTests := true, laidLooks := .later }
def WalkGoesCardSaid : Prop := Claim7.holds Tryd.pinned (.plain (OpenSpec.ofChange walkGoesSpec)) walkGoesCard

/-- THE TIED CARD OF 'spoorlaw23.WalkOn'. -/
def walkOnCard : Claim7 := { stood := { row := walkOnRow, standIns := [], harness := (true, "931f8b162a37721a59074b8cf539027f4777ef992a6256fd0d5e2336b7b18efa"), looks := false }, kinds := [], alts := [], laidByText := true, laidKinds := [.data], laidTests := true, laidLooks := .later }
def WalkOnCardSaid : Prop := Claim7.holds Tryd.pinned (.plain (OpenSpec.ofChange walkOnSpec)) walkOnCard

/-- THE TIED CARD OF 'spoorlaw23.WalkRound'. -/
def walkRoundCard : Claim7 := { stood := { row := walkRoundRow, standIns := [], harness := (true, "931f8b162a37721a59074b8cf539027f4777ef992a6256fd0d5e2336b7b18efa"), looks := false }, kinds := [], alts := [], laidByText := true, laidKinds := [.data], laidTests := true, laidLooks := .later }
def WalkRoundCardSaid : Prop := Claim7.holds Tryd.pinned (.plain (OpenSpec.ofChange walkRoundSpec)) walkRoundCard

/-- THE TIED CARD OF 'spoorlaw23.WalkWay'. -/
def walkWayCard : Claim7 := { stood := { row := walkWayRow, standIns := [], harness := (true, "931f8b162a37721a59074b8cf539027f4777ef992a6256fd0d5e2336b7b18efa"), looks := false }, kinds := [], alts := [], laidByText := true, laidKinds := [.data], laidTests := true, laidLooks := .later }
def WalkWayCardSaid : Prop := Claim7.holds Tryd.pinned (.plain (OpenSpec.ofChange walkWaySpec)) walkWayCard

/-- THE SECOND FORM's CARD OF 'spoorlaw23.WalkGoes'. -/
def walkGoesUptoCard : Claim7 := { stood := { row := walkGoesUptoRow, standIns := [], harness := (true, "931f8b162a37721a59074b8cf539027f4777ef992a6256fd0d5e2336b7b18efa"), looks := false }, kinds := [], alts := [], laidByText := true, laidKinds := [.data], laidTests := true, laidLooks := .later }
def WalkGoesUptoCardSaid : Prop := Claim7.holds Tryd.pinned (.plain (OpenSpec.upto walkGoesSpec)) walkGoesUptoCard

/-- THE SECOND FORM's CARD OF 'spoorlaw23.WalkOn'. -/
def walkOnUptoCard : Claim7 := { stood := { row := walkOnUptoRow, standIns := [], harness := (true, "931f8b162a37721a59074b8cf539027f4777ef992a6256fd0d5e2336b7b18efa"), looks := false }, kinds := [], alts := [], laidByText := true, laidKinds := [.data], laidTests := true, laidLooks := .later }
def WalkOnUptoCardSaid : Prop := Claim7.holds Tryd.pinned (.plain (OpenSpec.upto walkOnSpec)) walkOnUptoCard

/-- THE SECOND FORM's CARD OF 'spoorlaw23.WalkRound'. -/
def walkRoundUptoCard : Claim7 := { stood := { row := walkRoundUptoRow, standIns := [], harness := (true, "931f8b162a37721a59074b8cf539027f4777ef992a6256fd0d5e2336b7b18efa"), looks := false }, kinds := [], alts := [], laidByText := true, laidKinds := [.data], laidTests := true, laidLooks := .later }
def WalkRoundUptoCardSaid : Prop := Claim7.holds Tryd.pinned (.plain (OpenSpec.upto walkRoundSpec)) walkRoundUptoCard

/-- THE SECOND FORM's CARD OF 'spoorlaw23.WalkWay'. -/
def walkWayUptoCard : Claim7 := { stood := { row := walkWayUptoRow, standIns := [], harness := (true, "931f8b162a37721a59074b8cf539027f4777ef992a6256fd0d5e2336b7b18efa"), looks := false }, kinds := [], alts := [], laidByText := true, laidKinds := [.data], laidTests := true, laidLooks := .later }
def WalkWayUptoCardSaid : Prop := Claim7.holds Tryd.pinned (.plain (OpenSpec.upto walkWaySpec)) walkWayUptoCard
end Rows
end Go.Proofs.YtnopihhconklnaaDoor
