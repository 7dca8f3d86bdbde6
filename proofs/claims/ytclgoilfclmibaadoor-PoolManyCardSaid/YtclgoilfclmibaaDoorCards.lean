/-
  DERIVED. GIVEN WITH THE SEED: THE CARDS: each row of YtclgoilfclmibaaDoorRows.lean that lists a variable, with what it lists TIED to the program's text (the seventh form; the later family's looks); each row that meets fmt, with fmt's text TOLD by the authors' own Lean function (tested against real Go, not proved from fmt's source: count such statements apart). THE CARD IS WHAT COUNTS. Prove the row's statement (the work); the ties are given (YtclgoilfclmibaaDoorTie.lean); close each card by the builder's one call (the guide's Derived/Test/ToyasCard.lean, 'card_holds'). Laid BY PROGRAM, IN A SANDBOX (cutbox-door.mjs). By AI agents, Wed Nov 11 2026. No macro, syntax, notation, axiom, sorry.
-/
import Derived.Test.YtclgoilfclmibaaDoorRows
import GoSem.ClaimSeven
namespace Go.Proofs.YtclgoilfclmibaaDoor
namespace Rows

/-- THE TIED CARD OF 'zeitnotlaw08.PoolMany'. -/
def poolManyCard : Claim7 := { stood := { row := poolManyRow, standIns := [], harness := (true, "6e3fac1aa15cda725c7ce4c7b3675626fdfc3b9c69e10660e2c79d8a2cdd2d08"), looks := false }, kinds := [], alts := [], laidByText := true, laidKinds := [.data, .pinned], laidTests := true, laidLooks := .later }
def PoolManyCardSaid : Prop := Claim7.holds Tryd.pinned (.plain (OpenSpec.ofChange poolManySpec)) poolManyCard

/-- THE TIED CARD OF 'zeitnotlaw08.PoolNil'. -/
def poolNilCard : Claim7 := { stood := { row := poolNilRow, standIns := [], harness := (true, "6e3fac1aa15cda725c7ce4c7b3675626fdfc3b9c69e10660e2c79d8a2cdd2d08"), looks := false }, kinds := [], alts := [], laidByText := true, laidKinds := [.data, .pinned], laidTests := true, laidLooks := .later }
def PoolNilCardSaid : Prop := Claim7.holds Tryd.pinned (.plain (OpenSpec.ofChange poolNilSpec)) poolNilCard

/-- THE TIED CARD OF 'zeitnotlaw08.PoolHolds'. -/
def poolHoldsCard : Claim7 := { stood := { row := poolHoldsRow, standIns := [], harness := (true, "6e3fac1aa15cda725c7ce4c7b3675626fdfc3b9c69e10660e2c79d8a2cdd2d08"), looks := false }, kinds := [], alts := [], laidByText := true, laidKinds := [.data, .pinned], laidTests := true, laidLooks := .later }
def PoolHoldsCardSaid : Prop := Claim7.holds Tryd.pinned (.plain (OpenSpec.ofChange poolHoldsSpec)) poolHoldsCard

/-- THE SECOND FORM's CARD OF 'zeitnotlaw08.PoolMany'. -/
def poolManyUptoCard : Claim7 := { stood := { row := poolManyUptoRow, standIns := [], harness := (true, "6e3fac1aa15cda725c7ce4c7b3675626fdfc3b9c69e10660e2c79d8a2cdd2d08"), looks := false }, kinds := [], alts := [], laidByText := true, laidKinds := [.data, .pinned], laidTests := true, laidLooks := .later }
def PoolManyUptoCardSaid : Prop := Claim7.holds Tryd.pinned (.plain (OpenSpec.upto poolManySpec)) poolManyUptoCard

/-- THE SECOND FORM's CARD OF 'zeitnotlaw08.PoolNil'. -/
def poolNilUptoCard : Claim7 := { stood := { row := poolNilUptoRow, standIns := [], harness := (true, "6e3fac1aa15cda725c7ce4c7b3675626fdfc3b9c69e10660e2c79d8a2cdd2d08"), looks := false }, kinds := [], alts := [], laidByText := true, laidKinds := [.data, .pinned], laidTests := true, laidLooks := .later }
def PoolNilUptoCardSaid : Prop := Claim7.holds Tryd.pinned (.plain (OpenSpec.upto poolNilSpec)) poolNilUptoCard

/-- THE SECOND FORM's CARD OF 'zeitnotlaw08.PoolHolds'. -/
def poolHoldsUptoCard : Claim7 := { stood := { row := poolHoldsUptoRow, standIns := [], harness := (true, "6e3fac1aa15cda725c7ce4c7b3675626fdfc3b9c69e10660e2c79d8a2cdd2d08"), looks := false }, kinds := [], alts := [], laidByText := true, laidKinds := [.data, .pinned], laidTests := true, laidLooks := .later }
def PoolHoldsUptoCardSaid : Prop := Claim7.holds Tryd.pinned (.plain (OpenSpec.upto poolHoldsSpec)) poolHoldsUptoCard
end Rows
end Go.Proofs.YtclgoilfclmibaaDoor
