/-
  Mana: from the rows' listed variables to what the walks ask; and the cards' last facts.
-/
import Derived.Test.YtogfjegedfaekaaDoorWalkU
import Derived.Test.YtogfjegedfaekaaDoorTie
import Derived.Test.YtogfjegedfaekaaDoorCards
import Derived.ProofKit
import Derived.LaidMore
import Derived.Lay
import Derived.OpenShut
import Derived.Carry
import Derived.Stop.Joined
import Derived.Stop.LaidErr
import Derived.SevenTiedAt
set_option linter.unusedVariables false
set_option linter.unusedSimpArgs false
namespace Go.Proofs.YtogfjegedfaekaaDoor
open Go.ChangeShapes Go.WideShapes Go.ChangeAt Go.RowKit Go.Zn

theorem own : ownKnob Tryd.prog.godebug = none := by kernel_rfl
theorem laidOut : laidOutB Tryd.prog = true := by kernel_rfl
def errSyn : String := "strconv.ErrSyntax"
def errRng : String := "strconv.ErrRange"
theorem gSyn : Tryd.prog.globalNamed errSyn = some 0 := by kernel_rfl
theorem tSyn : (Tryd.prog.globals[0]?).map (·.type) = some 63 := by kernel_rfl
theorem gRng : Tryd.prog.globalNamed errRng = some 1 := by kernel_rfl
theorem tRng : (Tryd.prog.globals[1]?).map (·.type) = some 63 := by kernel_rfl
theorem star : "*" ++ "errors.errorString" = "*errors.errorString" := by decide
theorem row133 (u : TypeId) (h : Tryd.prog.typeName? 3 u = some "*errors.errorString") : u = 133 :=
  typeName_ptr_named (nm := "errors.errorString") (by rw [star]; kernel_rfl) (by kernel_rfl) (by decide) u (by rw [star]; exact h)
theorem cells135 : Tryd.prog.cellsOf 135 = 1 := by kernel_rfl
theorem cells9 : Tryd.prog.cellsOf 9 = 1 := by kernel_rfl
def theLaid : List (String × DataW Unit) := Rows.manaSumsRow.laid
theorem of_laid {W : World} (h0 : laidMetH Tryd.prog theLaid W) : Errs W := by
  have h : laidMet Tryd.prog theLaid W := by
    rw [MakeChecks.laidMetH_plain _ _ _ (by kernel_rfl)] at h0
    exact h0
  have hr := h.tail.tail.tail.tail
  have hs := hr.tail
  obtain ⟨a0, s0, hv0, -, -, -⟩ := laid_sentinel hr gRng tRng Tryd.underlying63 row133 Tryd.underlying133 Tryd.underlying135 rfl rfl Tryd.underlying9 cells135 cells9
  obtain ⟨a1, s1, hv1, -, -, -⟩ := laid_sentinel hs gSyn tSyn Tryd.underlying63 row133 Tryd.underlying133 Tryd.underlying135 rfl rfl Tryd.underlying9 cells135 cells9
  have h1 : W.cell? ⟨0, 0, none⟩ = _ := World.var?_cell gSyn hv1 0
  have h2 : W.cell? ⟨1, 0, none⟩ = _ := World.var?_cell gRng hv0 0
  exact ⟨⟨_, h1, .inr ⟨_, _, rfl⟩⟩, ⟨_, h2, .inr ⟨_, _, rfl⟩⟩⟩
theorem all_met (os : Os) (args : Array Value) : laidMetH Tryd.prog theLaid ((World.laidAll Tryd.prog os theLaid).forCall (fun _ _ => 0) ⟨#[], args, []⟩).memory := by
  rw [MakeChecks.laidMetH_plain _ _ _ (by kernel_rfl)]
  exact laidMet_laidAll _ (by kernel_rfl) (by kernel_rfl)
theorem i64_of_wf {x : Int} (h : (Lit.int .i64 x).wf = true) : x ≤ 9223372036854775807 := by
  simp [Lit.wf, IntKind.wrap, IntKind.signed, IntKind.bits, IntKind.min, IntKind.max] at h
  omega
theorem no_stand {P : Program} {ts : Array TypeId} (h : (ts.toList.all fun t => !P.wantsStandIn t) = true) (j : Nat) (t : TypeId) (ht : ts[j]? = some t) : P.wantsStandIn t = false := by
  have h1 : t ∈ ts.toList := by
    rw [← Array.getElem?_toList] at ht
    exact List.mem_of_getElem? ht
  simpa using List.all_eq_true.1 h t h1
theorem row_ints {P : Program} (hu3 : P.underlying 3 = some (.int .i64)) {W : World} {base : Nat} {t : TypeId} {n : Nat} {cs : Array Value} (hts : P.cellTypes P.depth t = some (List.replicate n 3)) (hn : cs.size = n) (h : Row.okWide P W .any base t cs) (i : Nat) (hi : i < n) : ∃ x, cs[i]? = some (.int .i64 x) := by
  obtain ⟨ts, h1, _, h2⟩ := h
  rw [hts] at h1
  obtain rfl := (Option.some.inj h1).symm
  obtain ⟨v, hv⟩ : ∃ v, cs[i]? = some v := ⟨_, Array.getElem?_eq_getElem (by omega)⟩
  obtain ⟨u, hu, hc⟩ := h2 i v hv
  have hm : u ∈ List.replicate n (3 : TypeId) := List.mem_of_getElem? hu
  obtain ⟨_, rfl⟩ := List.mem_replicate.1 hm
  have h3 : Value.okWide P W .any base 3 v := by
    simp only [Value.okWide, hu3]
    exact hc
  obtain ⟨x, rfl⟩ := okWide_int hu3 h3
  exact ⟨x, hv⟩
theorem ok_array {P : Program} {t e : TypeId} {n : Nat} (hu : P.underlying t = some (.array n e)) {W : World} {base : Nat} {v : Value} (h : Value.okWide P W .any base t v) : ∃ cs, v = .agg cs ∧ cs.size = P.cellsOf t ∧ Row.okWide P W .any base t cs := by
  simp only [Value.okWide, hu] at h
  exact h
theorem ok_struct {P : Program} {t : TypeId} {fs : Array Field} (hu : P.underlying t = some (.struct fs)) {W : World} {base : Nat} {v : Value} (h : Value.okWide P W .any base t v) : ∃ cs, v = .agg cs ∧ cs.size = P.cellsOf t ∧ Row.okWide P W .any base t cs := by
  simp only [Value.okWide, hu] at h
  exact h
set_option maxRecDepth 100000 in
theorem mana_of {W : World} {base : Nat} {v : Value} (h : Value.okWide Tryd.prog W .any base 23 v) : ∃ a b c d, v = .agg #[.int .i64 a, .int .i64 b, .int .i64 c, .int .i64 d] := by
  obtain ⟨cs, rfl, hs, hr⟩ := ok_array Tryd.underlying23 h
  have hs4 : cs.size = 4 := hs.trans (by kernel_rfl)
  have k := row_ints Tryd.underlying3 (n := 4) (by kernel_rfl) hs4 hr
  obtain ⟨a, ha⟩ := k 0 (by decide)
  obtain ⟨b, hb⟩ := k 1 (by decide)
  obtain ⟨c, hc⟩ := k 2 (by decide)
  obtain ⟨d, hd⟩ := k 3 (by decide)
  obtain ⟨l⟩ := cs
  match l, hs4 with
  | [x0, x1, x2, x3], _ =>
    obtain rfl := Option.some.inj ha
    obtain rfl := Option.some.inj hb
    obtain rfl := Option.some.inj hc
    obtain rfl := Option.some.inj hd
    exact ⟨a, b, c, d, rfl⟩
set_option maxRecDepth 100000 in
theorem cost_of {W : World} {base : Nat} {v : Value} (h : Value.okWide Tryd.prog W .any base 25 v) : ∃ a b c d g, v = .agg #[.int .i64 a, .int .i64 b, .int .i64 c, .int .i64 d, .int .i64 g] := by
  obtain ⟨cs, rfl, hs, hr⟩ := ok_struct Tryd.underlying25 h
  have hs4 : cs.size = 5 := hs.trans (by kernel_rfl)
  have k := row_ints Tryd.underlying3 (n := 5) (by kernel_rfl) hs4 hr
  obtain ⟨a, ha⟩ := k 0 (by decide)
  obtain ⟨b, hb⟩ := k 1 (by decide)
  obtain ⟨c, hc⟩ := k 2 (by decide)
  obtain ⟨d, hd⟩ := k 3 (by decide)
  obtain ⟨g, hg⟩ := k 4 (by decide)
  obtain ⟨l⟩ := cs
  match l, hs4 with
  | [x0, x1, x2, x3, x4], _ =>
    obtain rfl := Option.some.inj ha
    obtain rfl := Option.some.inj hb
    obtain rfl := Option.some.inj hc
    obtain rfl := Option.some.inj hd
    obtain rfl := Option.some.inj hg
    exact ⟨a, b, c, d, g, rfl⟩
end Go.Proofs.YtogfjegedfaekaaDoor
