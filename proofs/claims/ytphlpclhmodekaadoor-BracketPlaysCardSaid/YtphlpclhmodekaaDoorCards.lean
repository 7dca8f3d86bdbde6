/-
  DERIVED. GIVEN WITH THE SEED: THE CARDS: each row of YtphlpclhmodekaaDoorRows.lean that lists a variable, with what it lists TIED to the program's text (the seventh form; the later family's looks); each row that meets fmt, with fmt's text TOLD by the authors' own Lean function (tested against real Go, not proved from fmt's source: count such statements apart). THE CARD IS WHAT COUNTS. Prove the row's statement (the work); the ties are given (YtphlpclhmodekaaDoorTie.lean); close each card by the builder's one call (the guide's Derived/Test/ToyasCard.lean, 'card_holds'). Laid BY PROGRAM, IN A SANDBOX (cutbox-door.mjs). By AI agents, Wed Nov 11 2026. No macro, syntax, notation, axiom, sorry.
-/
import Derived.Test.YtphlpclhmodekaaDoorRows
import GoSem.ClaimSeven
namespace Go.Proofs.YtphlpclhmodekaaDoor
namespace Rows

/-- THE TIED CARD OF 'zeitnotlaw42.BracketHolds'. -/
def bracketHoldsCard : Claim7 := { stood := { row := bracketHoldsRow, standIns := [], harness := (true, "dda0f8b389b7e329eb5d4c87b180c874ce1ddc34d442a8d92c33405718d4b29b"), looks := true }, kinds := [], alts := [], laidByText := true, laidKinds := [.data, .data, .data], laidTests := true, laidLooks := .later }
def BracketHoldsCardSaid : Prop := Claim7.holds Tryd.pinned (.plain (OpenSpec.ofChange bracketHoldsSpec)) bracketHoldsCard

/-- THE TIED CARD OF 'zeitnotlaw42.BracketNew'. -/
def bracketNewCard : Claim7 := { stood := { row := bracketNewRow, standIns := [], harness := (true, "dda0f8b389b7e329eb5d4c87b180c874ce1ddc34d442a8d92c33405718d4b29b"), looks := true }, kinds := [], alts := [], laidByText := true, laidKinds := [.data, .data, .data], laidTests := true, laidLooks := .later }
def BracketNewCardSaid : Prop := Claim7.holds Tryd.pinned (.plain (OpenSpec.ofChange bracketNewSpec)) bracketNewCard

/-- THE TIED CARD OF 'zeitnotlaw42.BracketNone'. -/
def bracketNoneCard : Claim7 := { stood := { row := bracketNoneRow, standIns := [], harness := (true, "dda0f8b389b7e329eb5d4c87b180c874ce1ddc34d442a8d92c33405718d4b29b"), looks := true }, kinds := [], alts := [], laidByText := true, laidKinds := [.data, .data, .data], laidTests := true, laidLooks := .later }
def BracketNoneCardSaid : Prop := Claim7.holds Tryd.pinned (.plain (OpenSpec.ofChange bracketNoneSpec)) bracketNoneCard

/-- THE TIED CARD OF 'zeitnotlaw42.BracketReads'. -/
def bracketReadsCard : Claim7 := { stood := { row := bracketReadsRow, standIns := [], harness := (true, "dda0f8b389b7e329eb5d4c87b180c874ce1ddc34d442a8d92c33405718d4b29b"), looks := true }, kinds := [], alts := [], laidByText := true, laidKinds := [.data, .data, .data, .sentinel, .sentinel], laidTests := true, laidLooks := .later }
def BracketReadsCardSaid : Prop := Claim7.holds Tryd.pinned (.plain (OpenSpec.ofChange bracketReadsSpec)) bracketReadsCard

/-- THE TIED CARD OF 'zeitnotlaw42.BracketPlays'. -/
def bracketPlaysCard : Claim7 := { stood := { row := bracketPlaysRow, standIns := [], harness := (true, "dda0f8b389b7e329eb5d4c87b180c874ce1ddc34d442a8d92c33405718d4b29b"), looks := true }, kinds := [], alts := [], laidByText := true, laidKinds := [.data, .data, .data, .sentinel, .sentinel], laidTests := true, laidLooks := .later }
def BracketPlaysCardSaid : Prop := Claim7.holds Tryd.pinned (.plain (OpenSpec.ofChange bracketPlaysSpec)) bracketPlaysCard

/-- THE SECOND FORM's CARD OF 'zeitnotlaw42.BracketHolds'. -/
def bracketHoldsUptoCard : Claim7 := { stood := { row := bracketHoldsUptoRow, standIns := [], harness := (true, "dda0f8b389b7e329eb5d4c87b180c874ce1ddc34d442a8d92c33405718d4b29b"), looks := true }, kinds := [], alts := [], laidByText := true, laidKinds := [.data, .data, .data], laidTests := true, laidLooks := .later }
def BracketHoldsUptoCardSaid : Prop := Claim7.holds Tryd.pinned (.plain (OpenSpec.upto bracketHoldsSpec)) bracketHoldsUptoCard

/-- THE SECOND FORM's CARD OF 'zeitnotlaw42.BracketNew'. -/
def bracketNewUptoCard : Claim7 := { stood := { row := bracketNewUptoRow, standIns := [], harness := (true, "dda0f8b389b7e329eb5d4c87b180c874ce1ddc34d442a8d92c33405718d4b29b"), looks := true }, kinds := [], alts := [], laidByText := true, laidKinds := [.data, .data, .data], laidTests := true, laidLooks := .later }
def BracketNewUptoCardSaid : Prop := Claim7.holds Tryd.pinned (.plain (OpenSpec.upto bracketNewSpec)) bracketNewUptoCard

/-- THE SECOND FORM's CARD OF 'zeitnotlaw42.BracketNone'. -/
def bracketNoneUptoCard : Claim7 := { stood := { row := bracketNoneUptoRow, standIns := [], harness := (true, "dda0f8b389b7e329eb5d4c87b180c874ce1ddc34d442a8d92c33405718d4b29b"), looks := true }, kinds := [], alts := [], laidByText := true, laidKinds := [.data, .data, .data], laidTests := true, laidLooks := .later }
def BracketNoneUptoCardSaid : Prop := Claim7.holds Tryd.pinned (.plain (OpenSpec.upto bracketNoneSpec)) bracketNoneUptoCard

/-- THE SECOND FORM's CARD OF 'zeitnotlaw42.BracketReads'. -/
def bracketReadsUptoCard : Claim7 := { stood := { row := bracketReadsUptoRow, standIns := [], harness := (true, "dda0f8b389b7e329eb5d4c87b180c874ce1ddc34d442a8d92c33405718d4b29b"), looks := true }, kinds := [], alts := [], laidByText := true, laidKinds := [.data, .data, .data, .sentinel, .sentinel], laidTests := true, laidLooks := .later }
def BracketReadsUptoCardSaid : Prop := Claim7.holds Tryd.pinned (.plain (OpenSpec.upto bracketReadsSpec)) bracketReadsUptoCard

/-- THE SECOND FORM's CARD OF 'zeitnotlaw42.BracketPlays'. -/
def bracketPlaysUptoCard : Claim7 := { stood := { row := bracketPlaysUptoRow, standIns := [], harness := (true, "dda0f8b389b7e329eb5d4c87b180c874ce1ddc34d442a8d92c33405718d4b29b"), looks := true }, kinds := [], alts := [], laidByText := true, laidKinds := [.data, .data, .data, .sentinel, .sentinel], laidTests := true, laidLooks := .later }
def BracketPlaysUptoCardSaid : Prop := Claim7.holds Tryd.pinned (.plain (OpenSpec.upto bracketPlaysSpec)) bracketPlaysUptoCard
end Rows
end Go.Proofs.YtphlpclhmodekaaDoor
