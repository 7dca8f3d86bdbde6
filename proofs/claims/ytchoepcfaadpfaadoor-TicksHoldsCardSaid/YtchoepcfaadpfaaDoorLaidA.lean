/-
  Ticks: from the rows' listed variables to what the walks ask; and the card's last fact.
-/
import Derived.Test.YtchoepcfaadpfaaDoorWalkG
import Derived.Test.YtchoepcfaadpfaaDoorTie
import Derived.Test.YtchoepcfaadpfaaDoorCards
import Derived.ProofKit
import Derived.LaidMore
import Derived.OpenShut
import Derived.Carry
import Derived.Stop.Joined
import Derived.Stop.LaidErr
import Derived.SevenTiedAt
namespace Go.Proofs.YtchoepcfaadpfaaDoor
open Go.ChangeShapes Go.WideShapes Go.ChangeAt Go.RowKit Go.Zn

theorem own : ownKnob Tryd.prog.godebug = none := by kernel_rfl
theorem laidOut : laidOutB Tryd.prog = true := by kernel_rfl
theorem gPow : Tryd.prog.globalNamed Tryd.powName = some 0 := by kernel_rfl
theorem tPow : (Tryd.prog.globals[0]?).map (·.type) = some 67 := by kernel_rfl
theorem gSyn : Tryd.prog.globalNamed errSyn = some 1 := by kernel_rfl
theorem tSyn : (Tryd.prog.globals[1]?).map (·.type) = some 45 := by kernel_rfl
theorem gRng : Tryd.prog.globalNamed errRng = some 2 := by kernel_rfl
theorem tRng : (Tryd.prog.globals[2]?).map (·.type) = some 45 := by kernel_rfl
theorem star : "*" ++ "errors.errorString" = "*errors.errorString" := by decide
theorem row78 (u : TypeId) (h : Tryd.prog.typeName? 3 u = some "*errors.errorString") : u = 78 :=
  typeName_ptr_named (nm := "errors.errorString") (by rw [star]; kernel_rfl) (by kernel_rfl) (by decide) u (by rw [star]; exact h)
theorem cells80 : Tryd.prog.cellsOf 80 = 1 := by kernel_rfl
theorem cells9 : Tryd.prog.cellsOf 9 = 1 := by kernel_rfl
theorem cells22 : Tryd.prog.cellsOf 22 = 1 := by kernel_rfl
theorem cells67 : Tryd.prog.cellsOf 67 = 20 := by kernel_rfl
def theLaid : List (String × DataW Unit) := Rows.ticksAddsRow.laid
theorem of_laid {W : World} (h0 : laidMetH Tryd.prog theLaid W) : Laid W := by
  have h : laidMet Tryd.prog theLaid W := by
    rw [MakeChecks.laidMetH_plain _ _ _ (by kernel_rfl)] at h0
    exact h0
  have h1 := h.tail.tail
  have e : [(Tryd.powName, (Rows.laid_internal_strconv_uint64pow10 : DataW Unit)), (errRng, Rows.laid_strconv_ErrRange), (errSyn, Rows.laid_strconv_ErrSyntax)] = (Tryd.powName, Lib.tabData .u64 Lib.pow10Tab) :: [(errRng, Rows.laid_strconv_ErrRange), (errSyn, Rows.laid_strconv_ErrSyntax)] := by rfl
  have hp : laidMet Tryd.prog ((Tryd.powName, Lib.tabData .u64 Lib.pow10Tab) :: [(errRng, Rows.laid_strconv_ErrRange), (errSyn, Rows.laid_strconv_ErrSyntax)]) W := by rw [← e]; exact h1
  have hr : laidMet Tryd.prog [(errRng, (Rows.laid_strconv_ErrRange : DataW Unit)), (errSyn, Rows.laid_strconv_ErrSyntax)] W := h1.tail
  have hs : laidMet Tryd.prog [(errSyn, (Rows.laid_strconv_ErrSyntax : DataW Unit))] W := h1.tail.tail
  obtain ⟨a0, s0, hv0, -, -, -⟩ := laid_sentinel hr gRng tRng Tryd.underlying45 row78 Tryd.underlying78 Tryd.underlying80 rfl rfl Tryd.underlying9 cells80 cells9
  obtain ⟨a1, s1, hv1, -, -, -⟩ := laid_sentinel hs gSyn tSyn Tryd.underlying45 row78 Tryd.underlying78 Tryd.underlying80 rfl rfl Tryd.underlying9 cells80 cells9
  exact ⟨Lib.tabIs_of_head gPow tPow Tryd.underlying67 Tryd.underlying22 cells22 cells67 hp, ⟨_, _, hv1⟩, ⟨_, _, hv0⟩⟩
theorem door_met (os : Os) (args : Array Value) : laidMetH Tryd.prog theLaid ((World.doorLaid Tryd.prog 400 os).forCall (fun _ _ => 0) ⟨#[], args, []⟩).memory :=
  laidMetH_of_parts3 (fuel := 8) (laidMet_of_run' 8 (by kernel_rfl) (by kernel_rfl)) (by kernel_rfl) (by kernel_rfl)
theorem tm_of_wf {x : Int} (h : (Lit.int .u64 x).wf = true) : Tm x := by
  simp [Lit.wf, IntKind.wrap, IntKind.signed, IntKind.bits, IntKind.min, IntKind.max] at h
  unfold Tm
  omega
theorem no_stand {P : Program} {ts : Array TypeId} (h : (ts.toList.all fun t => !P.wantsStandIn t) = true) (j : Nat) (t : TypeId) (ht : ts[j]? = some t) : P.wantsStandIn t = false := by
  have h1 : t ∈ ts.toList := by
    rw [← Array.getElem?_toList] at ht
    exact List.mem_of_getElem? ht
  simpa using List.all_eq_true.1 h t h1
end Go.Proofs.YtchoepcfaadpfaaDoor
