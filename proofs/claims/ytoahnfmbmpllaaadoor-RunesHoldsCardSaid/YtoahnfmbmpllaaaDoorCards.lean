/-
  DERIVED. GIVEN WITH THE SEED: THE CARDS: each row of YtoahnfmbmpllaaaDoorRows.lean that lists a variable, with what it lists TIED to the program's text (the seventh form; the later family's looks); each row that meets fmt, with fmt's text TOLD by the authors' own Lean function (tested against real Go, not proved from fmt's source: count such statements apart). THE CARD IS WHAT COUNTS. Prove the row's statement (the work); the ties are given (YtoahnfmbmpllaaaDoorTie.lean); close each card by the builder's one call (the guide's Derived/Test/ToyasCard.lean, 'card_holds'). Laid BY PROGRAM, IN A SANDBOX (cutbox-door.mjs). By AI agents, Wed Nov 11 2026. No macro, syntax, notation, axiom, sorry.
-/
import Derived.Test.YtoahnfmbmpllaaaDoorRows
import GoSem.ClaimSeven
namespace Go.Proofs.YtoahnfmbmpllaaaDoor
namespace Rows

/-- THE TIED CARD OF 'zeitnotlaw10.RunesFits'. -/
def runesFitsCard : Claim7 := { stood := { row := runesFitsRow, standIns := [], harness := (true, "65e6094eea607dfad026db7cd347ace064d5eef582e2bea27b4da5a80d4ee053"), looks := false }, kinds := [], alts := [], laidByText := true, laidKinds := [.data, .widerDeep, .widerDeep, .data, .pinned], laidTests := true, laidLooks := .later }
def RunesFitsCardSaid : Prop := Claim7.holds Tryd.pinned (.plain (OpenSpec.ofChange runesFitsSpec)) runesFitsCard

/-- THE TIED CARD OF 'zeitnotlaw10.RunesHolds'. -/
def runesHoldsCard : Claim7 := { stood := { row := runesHoldsRow, standIns := [], harness := (true, "65e6094eea607dfad026db7cd347ace064d5eef582e2bea27b4da5a80d4ee053"), looks := false }, kinds := [], alts := [], laidByText := true, laidKinds := [.data, .widerDeep, .widerDeep, .data, .pinned], laidTests := true, laidLooks := .later }
def RunesHoldsCardSaid : Prop := Claim7.holds Tryd.pinned (.plain (OpenSpec.ofChange runesHoldsSpec)) runesHoldsCard

/-- THE SECOND FORM's CARD OF 'zeitnotlaw10.RunesFits'. -/
def runesFitsUptoCard : Claim7 := { stood := { row := runesFitsUptoRow, standIns := [], harness := (true, "65e6094eea607dfad026db7cd347ace064d5eef582e2bea27b4da5a80d4ee053"), looks := false }, kinds := [], alts := [], laidByText := true, laidKinds := [.data, .widerDeep, .widerDeep, .data, .pinned], laidTests := true, laidLooks := .later }
def RunesFitsUptoCardSaid : Prop := Claim7.holds Tryd.pinned (.plain (OpenSpec.upto runesFitsSpec)) runesFitsUptoCard

/-- THE SECOND FORM's CARD OF 'zeitnotlaw10.RunesHolds'. -/
def runesHoldsUptoCard : Claim7 := { stood := { row := runesHoldsUptoRow, standIns := [], harness := (true, "65e6094eea607dfad026db7cd347ace064d5eef582e2bea27b4da5a80d4ee053"), looks := false }, kinds := [], alts := [], laidByText := true, laidKinds := [.data, .widerDeep, .widerDeep, .data, .pinned], laidTests := true, laidLooks := .later }
def RunesHoldsUptoCardSaid : Prop := Claim7.holds Tryd.pinned (.plain (OpenSpec.upto runesHoldsSpec)) runesHoldsUptoCard
end Rows
end Go.Proofs.YtoahnfmbmpllaaaDoor
