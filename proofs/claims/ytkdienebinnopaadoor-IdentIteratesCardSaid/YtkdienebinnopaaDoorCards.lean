/-
  DERIVED. GIVEN WITH THE SEED: THE CARDS: each row of YtkdienebinnopaaDoorRows.lean that lists a variable, with what it lists TIED to the program's text (the seventh form; the later family's looks); each row that meets fmt, with fmt's text TOLD by the authors' own Lean function (tested against real Go, not proved from fmt's source: count such statements apart). THE CARD IS WHAT COUNTS. Prove the row's statement (the work); the ties are given (YtkdienebinnopaaDoorTie.lean); close each card by the builder's one call (the guide's Derived/Test/ToyasCard.lean, 'card_holds'). Laid BY PROGRAM, IN A SANDBOX (cutbox-door.mjs). By AI agents, Wed Nov 11 2026. No macro, syntax, notation, axiom, sorry.
-/
import Derived.Test.YtkdienebinnopaaDoorRows
import GoSem.ClaimSeven
namespace Go.Proofs.YtkdienebinnopaaDoor
namespace Rows

/-- THE TIED CARD OF 'zeitnotlaw03.IdentFills'. -/
def identFillsCard : Claim7 := { stood := { row := identFillsRow, standIns := [], harness := (true, "048f45a2c4fb00416b8fed000c7e70d70f2346de6498b81f3c0fbdc98b7e51d2"), looks := false }, kinds := [], alts := [], laidByText := true, laidKinds := [.data], laidTests := true, laidLooks := .later }
def IdentFillsCardSaid : Prop := Claim7.holds Tryd.pinned (.plain (OpenSpec.ofChange identFillsSpec)) identFillsCard

/-- THE TIED CARD OF 'zeitnotlaw03.IdentHolds'. -/
def identHoldsCard : Claim7 := { stood := { row := identHoldsRow, standIns := [], harness := (true, "048f45a2c4fb00416b8fed000c7e70d70f2346de6498b81f3c0fbdc98b7e51d2"), looks := false }, kinds := [], alts := [], laidByText := true, laidKinds := [.data], laidTests := true, laidLooks := .later }
def IdentHoldsCardSaid : Prop := Claim7.holds Tryd.pinned (.plain (OpenSpec.ofChange identHoldsSpec)) identHoldsCard

/-- THE TIED CARD OF 'zeitnotlaw03.IdentPlays'. -/
def identPlaysCard : Claim7 := { stood := { row := identPlaysRow, standIns := [], harness := (true, "048f45a2c4fb00416b8fed000c7e70d70f2346de6498b81f3c0fbdc98b7e51d2"), looks := false }, kinds := [], alts := [], laidByText := true, laidKinds := [.data], laidTests := true, laidLooks := .later }
def IdentPlaysCardSaid : Prop := Claim7.holds Tryd.pinned (.plain (OpenSpec.ofChange identPlaysSpec)) identPlaysCard

/-- THE TIED CARD OF 'zeitnotlaw03.IdentIterates'. -/
def identIteratesCard : Claim7 := { stood := { row := identIteratesRow, standIns := [], harness := (true, "048f45a2c4fb00416b8fed000c7e70d70f2346de6498b81f3c0fbdc98b7e51d2"), looks := false }, kinds := [], alts := [], laidByText := true, laidKinds := [.data], laidTests := true, laidLooks := .later }
def IdentIteratesCardSaid : Prop := Claim7.holds Tryd.pinned (.plain (OpenSpec.ofChange identIteratesSpec)) identIteratesCard

/-- THE TIED CARD OF 'zeitnotlaw03.IdentNil'. -/
def identNilCard : Claim7 := { stood := { row := identNilRow, standIns := [], harness := (true, "048f45a2c4fb00416b8fed000c7e70d70f2346de6498b81f3c0fbdc98b7e51d2"), looks := false }, kinds := [], alts := [], laidByText := true, laidKinds := [.data], laidTests := true, laidLooks := .later }
def IdentNilCardSaid : Prop := Claim7.holds Tryd.pinned (.plain (OpenSpec.ofChange identNilSpec)) identNilCard

/-- THE SECOND FORM's CARD OF 'zeitnotlaw03.IdentFills'. -/
def identFillsUptoCard : Claim7 := { stood := { row := identFillsUptoRow, standIns := [], harness := (true, "048f45a2c4fb00416b8fed000c7e70d70f2346de6498b81f3c0fbdc98b7e51d2"), looks := false }, kinds := [], alts := [], laidByText := true, laidKinds := [.data], laidTests := true, laidLooks := .later }
def IdentFillsUptoCardSaid : Prop := Claim7.holds Tryd.pinned (.plain (OpenSpec.upto identFillsSpec)) identFillsUptoCard

/-- THE SECOND FORM's CARD OF 'zeitnotlaw03.IdentHolds'. -/
def identHoldsUptoCard : Claim7 := { stood := { row := identHoldsUptoRow, standIns := [], harness := (true, "048f45a2c4fb00416b8fed000c7e70d70f2346de6498b81f3c0fbdc98b7e51d2"), looks := false }, kinds := [], alts := [], laidByText := true, laidKinds := [.data], laidTests := true, laidLooks := .later }
def IdentHoldsUptoCardSaid : Prop := Claim7.holds Tryd.pinned (.plain (OpenSpec.upto identHoldsSpec)) identHoldsUptoCard

/-- THE SECOND FORM's CARD OF 'zeitnotlaw03.IdentPlays'. -/
def identPlaysUptoCard : Claim7 := { stood := { row := identPlaysUptoRow, standIns := [], harness := (true, "048f45a2c4fb00416b8fed000c7e70d70f2346de6498b81f3c0fbdc98b7e51d2"), looks := false }, kinds := [], alts := [], laidByText := true, laidKinds := [.data], laidTests := true, laidLooks := .later }
def IdentPlaysUptoCardSaid : Prop := Claim7.holds Tryd.pinned (.plain (OpenSpec.upto identPlaysSpec)) identPlaysUptoCard

/-- THE SECOND FORM's CARD OF 'zeitnotlaw03.IdentIterates'. -/
def identIteratesUptoCard : Claim7 := { stood := { row := identIteratesUptoRow, standIns := [], harness := (true, "048f45a2c4fb00416b8fed000c7e70d70f2346de6498b81f3c0fbdc98b7e51d2"), looks := false }, kinds := [], alts := [], laidByText := true, laidKinds := [.data], laidTests := true, laidLooks := .later }
def IdentIteratesUptoCardSaid : Prop := Claim7.holds Tryd.pinned (.plain (OpenSpec.upto identIteratesSpec)) identIteratesUptoCard

/-- THE SECOND FORM's CARD OF 'zeitnotlaw03.IdentNil'. -/
def identNilUptoCard : Claim7 := { stood := { row := identNilUptoRow, standIns := [], harness := (true, "048f45a2c4fb00416b8fed000c7e70d70f2346de6498b81f3c0fbdc98b7e51d2"), looks := false }, kinds := [], alts := [], laidByText := true, laidKinds := [.data], laidTests := true, laidLooks := .later }
def IdentNilUptoCardSaid : Prop := Claim7.holds Tryd.pinned (.plain (OpenSpec.upto identNilSpec)) identNilUptoCard
end Rows
end Go.Proofs.YtkdienebinnopaaDoor
