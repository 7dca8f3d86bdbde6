/-
  DERIVED. GIVEN WITH THE SEED: THE CARDS: each row of YtogfjegedfaekaaDoorRows.lean that lists a variable, with what it lists TIED to the program's text (the seventh form; the later family's looks); each row that meets fmt, with fmt's text TOLD by the authors' own Lean function (tested against real Go, not proved from fmt's source: count such statements apart). THE CARD IS WHAT COUNTS. Prove the row's statement (the work); the ties are given (YtogfjegedfaekaaDoorTie.lean); close each card by the builder's one call (the guide's Derived/Test/ToyasCard.lean, 'card_holds'). Laid BY PROGRAM, IN A SANDBOX (cutbox-door.mjs). By AI agents, Wed Nov 11 2026. No macro, syntax, notation, axiom, sorry.
-/
import Derived.Test.YtogfjegedfaekaaDoorRows
import GoSem.ClaimSeven
namespace Go.Proofs.YtogfjegedfaekaaDoor
namespace Rows

/-- THE TIED CARD OF 'zeitnotlaw05.ManaSums'. -/
def manaSumsCard : Claim7 := { stood := { row := manaSumsRow, standIns := [], harness := (true, "943603c0b1b360f9ebd7328a42b6172286ba39c5c5629de5695f93f4cb9044ba"), looks := true }, kinds := [], alts := [], laidByText := true, laidKinds := [.data, .data, .data, .data, .sentinel, .sentinel, .pinned], laidTests := true, laidLooks := .later }
def ManaSumsCardSaid : Prop := Claim7.holds Tryd.pinned (.plain (OpenSpec.ofChange manaSumsSpec)) manaSumsCard

/-- THE TIED CARD OF 'zeitnotlaw05.ManaPays'. -/
def manaPaysCard : Claim7 := { stood := { row := manaPaysRow, standIns := [], harness := (true, "943603c0b1b360f9ebd7328a42b6172286ba39c5c5629de5695f93f4cb9044ba"), looks := true }, kinds := [], alts := [], laidByText := true, laidKinds := [.data, .data, .data, .data, .sentinel, .sentinel, .pinned], laidTests := true, laidLooks := .later }
def ManaPaysCardSaid : Prop := Claim7.holds Tryd.pinned (.plain (OpenSpec.ofChange manaPaysSpec)) manaPaysCard

/-- THE TIED CARD OF 'zeitnotlaw05.ManaParses'. -/
def manaParsesCard : Claim7 := { stood := { row := manaParsesRow, standIns := [], harness := (true, "943603c0b1b360f9ebd7328a42b6172286ba39c5c5629de5695f93f4cb9044ba"), looks := true }, kinds := [], alts := [], laidByText := true, laidKinds := [.data, .data, .data, .data, .sentinel, .sentinel, .pinned], laidTests := true, laidLooks := .later }
def ManaParsesCardSaid : Prop := Claim7.holds Tryd.pinned (.plain (OpenSpec.ofChange manaParsesSpec)) manaParsesCard

/-- THE TIED CARD OF 'zeitnotlaw05.ManaHolds'. -/
def manaHoldsCard : Claim7 := { stood := { row := manaHoldsRow, standIns := [], harness := (true, "943603c0b1b360f9ebd7328a42b6172286ba39c5c5629de5695f93f4cb9044ba"), looks := true }, kinds := [], alts := [], laidByText := true, laidKinds := [.data, .data, .data, .data, .sentinel, .sentinel, .pinned], laidTests := true, laidLooks := .later }
def ManaHoldsCardSaid : Prop := Claim7.holds Tryd.pinned (.plain (OpenSpec.ofChange manaHoldsSpec)) manaHoldsCard

/-- THE TIED CARD OF 'zeitnotlaw05.ManaTexts'. -/
def manaTextsCard : Claim7 := { stood := { row := manaTextsRow, standIns := [], harness := (true, "943603c0b1b360f9ebd7328a42b6172286ba39c5c5629de5695f93f4cb9044ba"), looks := true }, kinds := [], alts := [], laidByText := true, laidKinds := [.data, .data, .data, .data, .sentinel, .sentinel, .pinned], laidTests := true, laidLooks := .later }
def ManaTextsCardSaid : Prop := Claim7.holds Tryd.pinned (.plain (OpenSpec.ofChange manaTextsSpec)) manaTextsCard

/-- THE SECOND FORM's CARD OF 'zeitnotlaw05.ManaSums'. -/
def manaSumsUptoCard : Claim7 := { stood := { row := manaSumsUptoRow, standIns := [], harness := (true, "943603c0b1b360f9ebd7328a42b6172286ba39c5c5629de5695f93f4cb9044ba"), looks := true }, kinds := [], alts := [], laidByText := true, laidKinds := [.data, .data, .data, .data, .sentinel, .sentinel, .pinned], laidTests := true, laidLooks := .later }
def ManaSumsUptoCardSaid : Prop := Claim7.holds Tryd.pinned (.plain (OpenSpec.upto manaSumsSpec)) manaSumsUptoCard

/-- THE SECOND FORM's CARD OF 'zeitnotlaw05.ManaPays'. -/
def manaPaysUptoCard : Claim7 := { stood := { row := manaPaysUptoRow, standIns := [], harness := (true, "943603c0b1b360f9ebd7328a42b6172286ba39c5c5629de5695f93f4cb9044ba"), looks := true }, kinds := [], alts := [], laidByText := true, laidKinds := [.data, .data, .data, .data, .sentinel, .sentinel, .pinned], laidTests := true, laidLooks := .later }
def ManaPaysUptoCardSaid : Prop := Claim7.holds Tryd.pinned (.plain (OpenSpec.upto manaPaysSpec)) manaPaysUptoCard

/-- THE SECOND FORM's CARD OF 'zeitnotlaw05.ManaParses'. -/
def manaParsesUptoCard : Claim7 := { stood := { row := manaParsesUptoRow, standIns := [], harness := (true, "943603c0b1b360f9ebd7328a42b6172286ba39c5c5629de5695f93f4cb9044ba"), looks := true }, kinds := [], alts := [], laidByText := true, laidKinds := [.data, .data, .data, .data, .sentinel, .sentinel, .pinned], laidTests := true, laidLooks := .later }
def ManaParsesUptoCardSaid : Prop := Claim7.holds Tryd.pinned (.plain (OpenSpec.upto manaParsesSpec)) manaParsesUptoCard

/-- THE SECOND FORM's CARD OF 'zeitnotlaw05.ManaHolds'. -/
def manaHoldsUptoCard : Claim7 := { stood := { row := manaHoldsUptoRow, standIns := [], harness := (true, "943603c0b1b360f9ebd7328a42b6172286ba39c5c5629de5695f93f4cb9044ba"), looks := true }, kinds := [], alts := [], laidByText := true, laidKinds := [.data, .data, .data, .data, .sentinel, .sentinel, .pinned], laidTests := true, laidLooks := .later }
def ManaHoldsUptoCardSaid : Prop := Claim7.holds Tryd.pinned (.plain (OpenSpec.upto manaHoldsSpec)) manaHoldsUptoCard

/-- THE SECOND FORM's CARD OF 'zeitnotlaw05.ManaTexts'. -/
def manaTextsUptoCard : Claim7 := { stood := { row := manaTextsUptoRow, standIns := [], harness := (true, "943603c0b1b360f9ebd7328a42b6172286ba39c5c5629de5695f93f4cb9044ba"), looks := true }, kinds := [], alts := [], laidByText := true, laidKinds := [.data, .data, .data, .data, .sentinel, .sentinel, .pinned], laidTests := true, laidLooks := .later }
def ManaTextsUptoCardSaid : Prop := Claim7.holds Tryd.pinned (.plain (OpenSpec.upto manaTextsSpec)) manaTextsUptoCard
end Rows
end Go.Proofs.YtogfjegedfaekaaDoor
