/-
  NARROWER THAN 'FOR EVERY INPUT', by the rows' own cells (each row's printed sentence says how): RunesFits: laid · RunesHolds: laid.
  DERIVED. THE GIVEN ROWS OF THIS SEAT. 2 by the template 'for every input the law returns true; each argument reads behind the call as it read before'; 0 by the template 'total and deterministic' (their statements: YtoahnfmbmpllaaaDoorTotals.lean).
  GIVEN WITH THE SEED: the statements are not yours to turn. If you find one false, say at which input.
  Laid BY PROGRAM, IN A SANDBOX (cutbox-rows.mjs): the forced cells as the released guide's own fill.sh prints them over the translation 62579b7cde005fd2… (all of the seat's roots in one cut). By AI agents, Wed Nov 11 2026. No macro, syntax, notation, axiom, sorry.
-/
import Derived.Test.YtoahnfmbmpllaaaDoorChecked
import GoSem.PinnedTables
import GoSem.Claim
import GoSem.ClaimJoined
import GoSem.ClaimMapViews
import Derived.JoinedTies
import Derived.KernelRfl
namespace Go.Proofs.YtoahnfmbmpllaaaDoor
/- THE CELL 'sum', in the pinned program and in every row, IS THE sha256 OF THE DUMP (.gsa) THAT YtoahnfmbmpllaaaDoorProg.lean LOADS. Nothing in Lean hashes anything: it is a label: what it is worth is what the hold of that sum in a sandbox is worth. -/
noncomputable def Tryd.pinned : Pinned := { name := "ytoahnfmbmpllaaadoor", sum := "62579b7cde005fd2021193ac69db9d8ed6d66f34d07f2425b0ddac3bc1203be4", checked := Tryd.checked }
namespace Rows
def none {H : Type} : Left H := { results := [], args := [] }

/- WHAT THE LISTED PACKAGE-LEVEL VARIABLES READ AS WHEN THE CALL BEGINS. Each datum BY PROGRAM (the guide's laid-datum.mjs) off the statement by which the dump's own 'gosem.cut.vars' lays the variable. In a bare row this is a premise. The card (YtoahnfmbmpllaaaDoorCards.lean) ties it to the program's text. -/
def laid_unicode_utf8_acceptRanges {H : Type} : DataW H := .agg [.agg [.lit (.int .u8 128), .lit (.int .u8 191)], .agg [.lit (.int .u8 160), .lit (.int .u8 191)], .agg [.lit (.int .u8 128), .lit (.int .u8 159)], .agg [.lit (.int .u8 144), .lit (.int .u8 191)], .agg [.lit (.int .u8 128), .lit (.int .u8 143)], .agg [.lit (.int .u8 0), .lit (.int .u8 0)], .agg [.lit (.int .u8 0), .lit (.int .u8 0)], .agg [.lit (.int .u8 0), .lit (.int .u8 0)], .agg [.lit (.int .u8 0), .lit (.int .u8 0)], .agg [.lit (.int .u8 0), .lit (.int .u8 0)], .agg [.lit (.int .u8 0), .lit (.int .u8 0)], .agg [.lit (.int .u8 0), .lit (.int .u8 0)], .agg [.lit (.int .u8 0), .lit (.int .u8 0)], .agg [.lit (.int .u8 0), .lit (.int .u8 0)], .agg [.lit (.int .u8 0), .lit (.int .u8 0)], .agg [.lit (.int .u8 0), .lit (.int .u8 0)]]
def laid_zeitnot_runes_letters {H : Type} : DataW H := .slice [.agg [.lit (.int .i32 65), .lit (.int .i32 90)], .agg [.lit (.int .i32 97), .lit (.int .i32 122)], .agg [.lit (.int .i32 192), .lit (.int .i32 214)], .agg [.lit (.int .i32 216), .lit (.int .i32 246)], .agg [.lit (.int .i32 248), .lit (.int .i32 255)], .agg [.lit (.int .i32 913), .lit (.int .i32 929)], .agg [.lit (.int .i32 931), .lit (.int .i32 937)], .agg [.lit (.int .i32 945), .lit (.int .i32 969)], .agg [.lit (.int .i32 19968), .lit (.int .i32 40959)]] []
def laid_zeitnot_runes_wide {H : Type} : DataW H := .slice [.agg [.lit (.int .i32 4352), .lit (.int .i32 4447)], .agg [.lit (.int .i32 11904), .lit (.int .i32 42191)], .agg [.lit (.int .i32 44032), .lit (.int .i32 55203)], .agg [.lit (.int .i32 65280), .lit (.int .i32 65376)]] []
def laid_zeitnot_runes_folds {H : Type} : DataW H := .slice [.lit (.string [97]), .lit (.string [97]), .lit (.string [97]), .lit (.string [97]), .lit (.string [97]), .lit (.string [97]), .lit (.string [97, 101]), .lit (.string [99]), .lit (.string [101]), .lit (.string [101]), .lit (.string [101]), .lit (.string [101]), .lit (.string [105]), .lit (.string [105]), .lit (.string [105]), .lit (.string [105]), .lit (.string [100]), .lit (.string [110]), .lit (.string [111]), .lit (.string [111]), .lit (.string [111]), .lit (.string [111]), .lit (.string [111]), .lit (.string [195, 151]), .lit (.string [111]), .lit (.string [117]), .lit (.string [117]), .lit (.string [117]), .lit (.string [117]), .lit (.string [121]), .lit (.string [116, 104]), .lit (.string [115, 115])] []
/-- One of Go's own tables, pinned by name: the form's constant. -/
def laid_unicode_utf8_first : DataW Unit := Go.Pinned.utf8First

/-- 'zeitnotlaw10.RunesFits': WHATEVER THE INPUT: true; the input reads as it did. -/
def runesFitsSpec : ChangeSpec := { name := "runesFits", fn := fun _ => fun
  | [d1, d2] => { results := [.lit (.bool true)], args := [d1, d2] }
  | _ => none }
def runesFitsRow : OpenClaim := { program := "ytoahnfmbmpllaaadoor", sum := "62579b7cde005fd2021193ac69db9d8ed6d66f34d07f2425b0ddac3bc1203be4", func := "zeitnot/zeitnotlaw10.RunesFits", spec := "runesFits", inPlace := ["internal/bytealg.IndexByteString", "internal/bytealg.IndexString", "internal/abi.NoEscape", "internal/bytealg.MakeNoZero"], unfollowed := true, recurses := true, named := ["unicode/utf8.first", "unicode/utf8.acceptRanges", "internal/bytealg.MaxLen", "zeitnot/runes.letters", "zeitnot/runes.folds", "zeitnot/runes.wide"], apart := false, laid := [("unicode/utf8.acceptRanges", laid_unicode_utf8_acceptRanges), ("zeitnot/runes.letters", laid_zeitnot_runes_letters), ("zeitnot/runes.wide", laid_zeitnot_runes_wide), ("zeitnot/runes.folds", laid_zeitnot_runes_folds), ("unicode/utf8.first", laid_unicode_utf8_first)] }
def RunesFitsSaid : Prop := runesFitsRow.holds Tryd.pinned (OpenSpec.ofChange runesFitsSpec)

/-- ITS FALSE NEIGHBOUR: 'it returns false'. Refute it at one input. -/
def runesFitsWrong : ChangeSpec := { name := "runesFits", fn := fun _ => fun
  | [d1, d2] => { results := [.lit (.bool false)], args := [d1, d2] }
  | _ => none }
def RunesFitsWrongFalsely : Prop := runesFitsRow.holds Tryd.pinned (OpenSpec.ofChange runesFitsWrong)

/-- 'zeitnotlaw10.RunesHolds': WHATEVER THE INPUT: true; the input reads as it did. -/
def runesHoldsSpec : ChangeSpec := { name := "runesHolds", fn := fun _ => fun
  | [d1, d2, d3, d4] => { results := [.lit (.bool true)], args := [d1, d2, d3, d4] }
  | _ => none }
def runesHoldsRow : OpenClaim := { program := "ytoahnfmbmpllaaadoor", sum := "62579b7cde005fd2021193ac69db9d8ed6d66f34d07f2425b0ddac3bc1203be4", func := "zeitnot/zeitnotlaw10.RunesHolds", spec := "runesHolds", inPlace := ["internal/bytealg.IndexByteString", "internal/bytealg.IndexString", "internal/abi.NoEscape", "internal/bytealg.MakeNoZero"], unfollowed := true, recurses := true, named := ["unicode/utf8.first", "unicode/utf8.acceptRanges", "internal/bytealg.MaxLen", "zeitnot/runes.letters", "zeitnot/runes.folds", "zeitnot/runes.wide"], apart := false, laid := [("unicode/utf8.acceptRanges", laid_unicode_utf8_acceptRanges), ("zeitnot/runes.letters", laid_zeitnot_runes_letters), ("zeitnot/runes.wide", laid_zeitnot_runes_wide), ("zeitnot/runes.folds", laid_zeitnot_runes_folds), ("unicode/utf8.first", laid_unicode_utf8_first)] }
def RunesHoldsSaid : Prop := runesHoldsRow.holds Tryd.pinned (OpenSpec.ofChange runesHoldsSpec)

/-- ITS FALSE NEIGHBOUR: 'it returns false'. Refute it at one input. -/
def runesHoldsWrong : ChangeSpec := { name := "runesHolds", fn := fun _ => fun
  | [d1, d2, d3, d4] => { results := [.lit (.bool false)], args := [d1, d2, d3, d4] }
  | _ => none }
def RunesHoldsWrongFalsely : Prop := runesHoldsRow.holds Tryd.pinned (OpenSpec.ofChange runesHoldsWrong)

/- THE SECOND FORM. 'bulk': how many values and letters a reading holds, each counted each time it is reached (what is shared counts as often as it is met; a slice's spare places count too). A statement '..UptoSaid' is the law's where the arguments, and the package variables that the reading takes, are together of bulk at most 1048576: NARROWER than '..Said'. Prove '..Said' where nothing that the law and all that it calls make is longer than what came in: it says more and counts as full. Else prove '..UptoSaid'. A law counts once. -/
mutual
def uptoBulk {H : Type} : DataW H → Nat
  | .lit (.string bytes) => bytes.length + 1
  | .lit _ => 1
  | .nil => 1
  | .ptr d => uptoBulk d + 1
  | .slice elems spare => uptoBulkAll elems + uptoBulkAll spare + 1
  | .agg parts => uptoBulkAll parts + 1
  | .iface _ d => uptoBulk d + 1
  | .map entries => uptoBulkEntries entries + 1
  | .held _ => 1
def uptoBulkAll {H : Type} : List (DataW H) → Nat
  | [] => 0
  | d :: r => uptoBulk d + uptoBulkAll r
def uptoBulkEntries {H : Type} : List (Lit × DataW H) → Nat
  | [] => 0
  | x :: r => uptoBulkEntry x + uptoBulkEntries r
def uptoBulkEntry {H : Type} : Lit × DataW H → Nat
  | (.string bytes, d) => bytes.length + uptoBulk d + 1
  | (_, d) => uptoBulk d + 1
 end
def uptoSmall : (H : Type) → List (DataW H) → Bool := fun _ ds => decide (uptoBulkAll ds ≤ 1048576)
def OpenSpec.upto (s : _root_.Go.ChangeSpec) : _root_.Go.OpenSpec := { _root_.Go.OpenSpec.ofChange s with cond := some uptoSmall }

/-- 'zeitnotlaw10.RunesFits', WHERE WHAT IT READS IS OF BULK AT MOST 1048576: true; the input reads as it did. -/
def runesFitsUptoRow : OpenClaim := { program := "ytoahnfmbmpllaaadoor", sum := "62579b7cde005fd2021193ac69db9d8ed6d66f34d07f2425b0ddac3bc1203be4", func := "zeitnot/zeitnotlaw10.RunesFits", spec := "runesFits", inPlace := ["internal/bytealg.IndexByteString", "internal/bytealg.IndexString", "internal/abi.NoEscape", "internal/bytealg.MakeNoZero"], unfollowed := true, recurses := true, named := ["unicode/utf8.first", "unicode/utf8.acceptRanges", "internal/bytealg.MaxLen", "zeitnot/runes.letters", "zeitnot/runes.folds", "zeitnot/runes.wide"], apart := false, laid := [("unicode/utf8.acceptRanges", laid_unicode_utf8_acceptRanges), ("zeitnot/runes.letters", laid_zeitnot_runes_letters), ("zeitnot/runes.wide", laid_zeitnot_runes_wide), ("zeitnot/runes.folds", laid_zeitnot_runes_folds), ("unicode/utf8.first", laid_unicode_utf8_first)], narrowed := true }
def RunesFitsUptoSaid : Prop := runesFitsUptoRow.holds Tryd.pinned (OpenSpec.upto runesFitsSpec)

/-- 'zeitnotlaw10.RunesHolds', WHERE WHAT IT READS IS OF BULK AT MOST 1048576: true; the input reads as it did. -/
def runesHoldsUptoRow : OpenClaim := { program := "ytoahnfmbmpllaaadoor", sum := "62579b7cde005fd2021193ac69db9d8ed6d66f34d07f2425b0ddac3bc1203be4", func := "zeitnot/zeitnotlaw10.RunesHolds", spec := "runesHolds", inPlace := ["internal/bytealg.IndexByteString", "internal/bytealg.IndexString", "internal/abi.NoEscape", "internal/bytealg.MakeNoZero"], unfollowed := true, recurses := true, named := ["unicode/utf8.first", "unicode/utf8.acceptRanges", "internal/bytealg.MaxLen", "zeitnot/runes.letters", "zeitnot/runes.folds", "zeitnot/runes.wide"], apart := false, laid := [("unicode/utf8.acceptRanges", laid_unicode_utf8_acceptRanges), ("zeitnot/runes.letters", laid_zeitnot_runes_letters), ("zeitnot/runes.wide", laid_zeitnot_runes_wide), ("zeitnot/runes.folds", laid_zeitnot_runes_folds), ("unicode/utf8.first", laid_unicode_utf8_first)], narrowed := true }
def RunesHoldsUptoSaid : Prop := runesHoldsUptoRow.holds Tryd.pinned (OpenSpec.upto runesHoldsSpec)

end Rows
end Go.Proofs.YtoahnfmbmpllaaaDoor
