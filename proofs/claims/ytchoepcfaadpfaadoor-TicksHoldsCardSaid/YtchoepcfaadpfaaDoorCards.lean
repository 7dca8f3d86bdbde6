/-
  DERIVED. GIVEN WITH THE SEED: THE CARDS: each row of YtchoepcfaadpfaaDoorRows.lean that lists a variable, with what it lists TIED to the program's text (the seventh form; the later family's looks); each row that meets fmt, with fmt's text TOLD by the authors' own Lean function (tested against real Go, not proved from fmt's source: count such statements apart). THE CARD IS WHAT COUNTS. Prove the row's statement (the work); the ties are given (YtchoepcfaadpfaaDoorTie.lean); close each card by the builder's one call (the guide's Derived/Test/ToyasCard.lean, 'card_holds'). Laid BY PROGRAM, IN A SANDBOX (cutbox-door.mjs). By AI agents, Wed Nov 11 2026. No macro, syntax, notation, axiom, sorry.
-/
import Derived.Test.YtchoepcfaadpfaaDoorRows
import GoSem.ClaimSeven
namespace Go.Proofs.YtchoepcfaadpfaaDoor
namespace Rows

/-- THE TIED CARD OF 'zeitnotlaw11.TicksAdds'. -/
def ticksAddsCard : Claim7 := { stood := { row := ticksAddsRow, standIns := [], harness := (true, "e73b1022ca702316ccc79ff8ccac71123c8fcfb916ca0146cdb9b64e7613e653"), looks := true }, kinds := [], alts := [], laidByText := true, laidKinds := [.data, .data, .data, .sentinel, .sentinel], laidTests := true, laidLooks := .later }
def TicksAddsCardSaid : Prop := Claim7.holds Tryd.pinned (.plain (OpenSpec.ofChange ticksAddsSpec)) ticksAddsCard

/-- THE TIED CARD OF 'zeitnotlaw11.TicksDue'. -/
def ticksDueCard : Claim7 := { stood := { row := ticksDueRow, standIns := [], harness := (true, "e73b1022ca702316ccc79ff8ccac71123c8fcfb916ca0146cdb9b64e7613e653"), looks := true }, kinds := [], alts := [], laidByText := true, laidKinds := [.data, .data, .data, .sentinel, .sentinel], laidTests := true, laidLooks := .later }
def TicksDueCardSaid : Prop := Claim7.holds Tryd.pinned (.plain (OpenSpec.ofChange ticksDueSpec)) ticksDueCard

/-- THE TIED CARD OF 'zeitnotlaw11.TicksFirst'. -/
def ticksFirstCard : Claim7 := { stood := { row := ticksFirstRow, standIns := [], harness := (true, "e73b1022ca702316ccc79ff8ccac71123c8fcfb916ca0146cdb9b64e7613e653"), looks := true }, kinds := [], alts := [], laidByText := true, laidKinds := [.data, .data, .data, .sentinel, .sentinel], laidTests := true, laidLooks := .later }
def TicksFirstCardSaid : Prop := Claim7.holds Tryd.pinned (.plain (OpenSpec.ofChange ticksFirstSpec)) ticksFirstCard

/-- THE TIED CARD OF 'zeitnotlaw11.TicksTexts'. -/
def ticksTextsCard : Claim7 := { stood := { row := ticksTextsRow, standIns := [], harness := (true, "e73b1022ca702316ccc79ff8ccac71123c8fcfb916ca0146cdb9b64e7613e653"), looks := true }, kinds := [], alts := [], laidByText := true, laidKinds := [.data, .data, .data, .sentinel, .sentinel], laidTests := true, laidLooks := .later }
def TicksTextsCardSaid : Prop := Claim7.holds Tryd.pinned (.plain (OpenSpec.ofChange ticksTextsSpec)) ticksTextsCard

/-- THE TIED CARD OF 'zeitnotlaw11.TicksHolds'. -/
def ticksHoldsCard : Claim7 := { stood := { row := ticksHoldsRow, standIns := [], harness := (true, "e73b1022ca702316ccc79ff8ccac71123c8fcfb916ca0146cdb9b64e7613e653"), looks := true }, kinds := [], alts := [], laidByText := true, laidKinds := [.data, .data, .data, .sentinel, .sentinel], laidTests := true, laidLooks := .later }
def TicksHoldsCardSaid : Prop := Claim7.holds Tryd.pinned (.plain (OpenSpec.ofChange ticksHoldsSpec)) ticksHoldsCard

/-- THE SECOND FORM's CARD OF 'zeitnotlaw11.TicksAdds'. -/
def ticksAddsUptoCard : Claim7 := { stood := { row := ticksAddsUptoRow, standIns := [], harness := (true, "e73b1022ca702316ccc79ff8ccac71123c8fcfb916ca0146cdb9b64e7613e653"), looks := true }, kinds := [], alts := [], laidByText := true, laidKinds := [.data, .data, .data, .sentinel, .sentinel], laidTests := true, laidLooks := .later }
def TicksAddsUptoCardSaid : Prop := Claim7.holds Tryd.pinned (.plain (OpenSpec.upto ticksAddsSpec)) ticksAddsUptoCard

/-- THE SECOND FORM's CARD OF 'zeitnotlaw11.TicksDue'. -/
def ticksDueUptoCard : Claim7 := { stood := { row := ticksDueUptoRow, standIns := [], harness := (true, "e73b1022ca702316ccc79ff8ccac71123c8fcfb916ca0146cdb9b64e7613e653"), looks := true }, kinds := [], alts := [], laidByText := true, laidKinds := [.data, .data, .data, .sentinel, .sentinel], laidTests := true, laidLooks := .later }
def TicksDueUptoCardSaid : Prop := Claim7.holds Tryd.pinned (.plain (OpenSpec.upto ticksDueSpec)) ticksDueUptoCard

/-- THE SECOND FORM's CARD OF 'zeitnotlaw11.TicksFirst'. -/
def ticksFirstUptoCard : Claim7 := { stood := { row := ticksFirstUptoRow, standIns := [], harness := (true, "e73b1022ca702316ccc79ff8ccac71123c8fcfb916ca0146cdb9b64e7613e653"), looks := true }, kinds := [], alts := [], laidByText := true, laidKinds := [.data, .data, .data, .sentinel, .sentinel], laidTests := true, laidLooks := .later }
def TicksFirstUptoCardSaid : Prop := Claim7.holds Tryd.pinned (.plain (OpenSpec.upto ticksFirstSpec)) ticksFirstUptoCard

/-- THE SECOND FORM's CARD OF 'zeitnotlaw11.TicksTexts'. -/
def ticksTextsUptoCard : Claim7 := { stood := { row := ticksTextsUptoRow, standIns := [], harness := (true, "e73b1022ca702316ccc79ff8ccac71123c8fcfb916ca0146cdb9b64e7613e653"), looks := true }, kinds := [], alts := [], laidByText := true, laidKinds := [.data, .data, .data, .sentinel, .sentinel], laidTests := true, laidLooks := .later }
def TicksTextsUptoCardSaid : Prop := Claim7.holds Tryd.pinned (.plain (OpenSpec.upto ticksTextsSpec)) ticksTextsUptoCard

/-- THE SECOND FORM's CARD OF 'zeitnotlaw11.TicksHolds'. -/
def ticksHoldsUptoCard : Claim7 := { stood := { row := ticksHoldsUptoRow, standIns := [], harness := (true, "e73b1022ca702316ccc79ff8ccac71123c8fcfb916ca0146cdb9b64e7613e653"), looks := true }, kinds := [], alts := [], laidByText := true, laidKinds := [.data, .data, .data, .sentinel, .sentinel], laidTests := true, laidLooks := .later }
def TicksHoldsUptoCardSaid : Prop := Claim7.holds Tryd.pinned (.plain (OpenSpec.upto ticksHoldsSpec)) ticksHoldsUptoCard
end Rows
end Go.Proofs.YtchoepcfaadpfaaDoor
