/-
  DERIVED. GIVEN WITH THE SEED: THE CARDS: each row of YtclgoilfclmibaaGreatDoorRows.lean that lists a variable, with what it lists TIED to the program's text (the seventh form; the later family's looks); each row that meets fmt, with fmt's text TOLD by the authors' own Lean function (tested against real Go, not proved from fmt's source: count such statements apart). THE CARD IS WHAT COUNTS. Prove the row's statement (the work); the ties are given (YtclgoilfclmibaaGreatDoorTie.lean); close each card by the builder's one call (the guide's Derived/Test/ToyasCard.lean, 'card_holds'). Laid BY PROGRAM, IN A SANDBOX (cutbox-door.mjs). By AI agents, Wed Nov 11 2026. No macro, syntax, notation, axiom, sorry.
-/
import Derived.Test.YtclgoilfclmibaaGreatDoorRows
import GoSem.ClaimSeven
namespace Go.Proofs.YtclgoilfclmibaaGreatDoor
namespace Rows

/-- THE TIED CARD OF 'zeitnotlaw08.PoolNews'. -/
def poolNewsCard : Claim7 := { stood := { row := poolNewsRow, standIns := [], harness := (true, "2c2810b4c55f51aa8414b531ccf2e286df4cb300c2350b4b13d44098c020feef"), looks := false }, kinds := [], alts := [], laidByText := true, laidKinds := [.data, .pinned], laidTests := true, laidLooks := .later }
def PoolNewsCardSaid : Prop := Claim7.holds Tryz.pinned (.plain (OpenSpec.ofChange poolNewsSpec)) poolNewsCard

/-- THE TIED CARD OF 'zeitnotlaw08.PoolSelects'. -/
def poolSelectsCard : Claim7 := { stood := { row := poolSelectsRow, standIns := [], harness := (true, "2c2810b4c55f51aa8414b531ccf2e286df4cb300c2350b4b13d44098c020feef"), looks := false }, kinds := [], alts := [], laidByText := true, laidKinds := [.data, .pinned], laidTests := true, laidLooks := .later }
def PoolSelectsCardSaid : Prop := Claim7.holds Tryz.pinned (.plain (OpenSpec.ofChange poolSelectsSpec)) poolSelectsCard

/-- THE TIED CARD OF 'zeitnotlaw08.PoolDecodes'. -/
def poolDecodesCard : Claim7 := { stood := { row := poolDecodesRow, standIns := [], harness := (true, "2c2810b4c55f51aa8414b531ccf2e286df4cb300c2350b4b13d44098c020feef"), looks := false }, kinds := [], alts := [], laidByText := true, laidKinds := [.data, .pinned], laidTests := true, laidLooks := .later }
def PoolDecodesCardSaid : Prop := Claim7.holds Tryz.pinned (.plain (OpenSpec.ofChange poolDecodesSpec)) poolDecodesCard

/-- THE SECOND FORM's CARD OF 'zeitnotlaw08.PoolNews'. -/
def poolNewsUptoCard : Claim7 := { stood := { row := poolNewsUptoRow, standIns := [], harness := (true, "2c2810b4c55f51aa8414b531ccf2e286df4cb300c2350b4b13d44098c020feef"), looks := false }, kinds := [], alts := [], laidByText := true, laidKinds := [.data, .pinned], laidTests := true, laidLooks := .later }
def PoolNewsUptoCardSaid : Prop := Claim7.holds Tryz.pinned (.plain (OpenSpec.upto poolNewsSpec)) poolNewsUptoCard

/-- THE SECOND FORM's CARD OF 'zeitnotlaw08.PoolSelects'. -/
def poolSelectsUptoCard : Claim7 := { stood := { row := poolSelectsUptoRow, standIns := [], harness := (true, "2c2810b4c55f51aa8414b531ccf2e286df4cb300c2350b4b13d44098c020feef"), looks := false }, kinds := [], alts := [], laidByText := true, laidKinds := [.data, .pinned], laidTests := true, laidLooks := .later }
def PoolSelectsUptoCardSaid : Prop := Claim7.holds Tryz.pinned (.plain (OpenSpec.upto poolSelectsSpec)) poolSelectsUptoCard

/-- THE SECOND FORM's CARD OF 'zeitnotlaw08.PoolDecodes'. -/
def poolDecodesUptoCard : Claim7 := { stood := { row := poolDecodesUptoRow, standIns := [], harness := (true, "2c2810b4c55f51aa8414b531ccf2e286df4cb300c2350b4b13d44098c020feef"), looks := false }, kinds := [], alts := [], laidByText := true, laidKinds := [.data, .pinned], laidTests := true, laidLooks := .later }
def PoolDecodesUptoCardSaid : Prop := Claim7.holds Tryz.pinned (.plain (OpenSpec.upto poolDecodesSpec)) poolDecodesUptoCard
end Rows
end Go.Proofs.YtclgoilfclmibaaGreatDoor
