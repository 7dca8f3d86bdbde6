/-
  Ident: from the rows' listed variable to what the walks ask; and the card's last fact.
-/
import Derived.Test.YtkdienebinnopaaDoorWalkG
import Derived.Test.YtkdienebinnopaaDoorTie
import Derived.Test.YtkdienebinnopaaDoorCards
import Derived.ProofKit
import Derived.LaidMore
import Derived.Lib.LaidTab
import Derived.OpenShut
import Derived.Carry
import Derived.Stop.Joined
import Derived.Stop.LaidErr
import Derived.SevenTiedAt
namespace Go.Proofs.YtkdienebinnopaaDoor
open Go.ChangeShapes Go.WideShapes Go.ChangeAt Go.RowKit Go.Zn

theorem own : ownKnob Tryd.prog.godebug = none := by kernel_rfl
theorem laidOut : laidOutB Tryd.prog = true := by kernel_rfl
def tabName : String := (Rows.identFillsRow.laid.map (fun x => x.1)).getD 0 default
theorem gTab : Tryd.prog.globalNamed tabName = some 0 := by kernel_rfl
theorem tTab : (Tryd.prog.globals[0]?).map (·.type) = some 71 := by kernel_rfl
theorem cells5 : Tryd.prog.cellsOf 5 = 1 := by kernel_rfl
theorem cells71 : Tryd.prog.cellsOf 71 = 64 := by kernel_rfl
theorem under71 : Tryd.prog.underlying 71 = some (.array 64 5) := Tryd.underlying71
theorem under5 : Tryd.prog.underlying 5 = some (.int .u8) := Tryd.underlying5
def tabZ : List Int := Lib.deBruijn64tab.map Int.ofNat
def theLaid : List (String × DataW Unit) := Rows.identFillsRow.laid
theorem theLaid_is : theLaid = [(tabName, Lib.tabData .u8 tabZ)] := by rfl
theorem of_laid {W : World} (h0 : laidMetH Tryd.prog theLaid W) : Laid W := by
  have h : laidMet Tryd.prog theLaid W := by
    rw [MakeChecks.laidMetH_plain _ _ _ (by kernel_rfl)] at h0
    exact h0
  rw [theLaid_is] at h
  have ht := Lib.tabIs_of_head gTab tTab under71 under5 cells5 cells71 h
  intro j hj
  have hz : j < tabZ.length := by simpa [tabZ] using hj
  have e := ht.cell gTab j hz
  rw [e]
  simp [tabZ, List.getD_eq_getElem?_getD, List.getElem?_eq_getElem hj]
theorem door_met (os : Os) (args : Array Value) : laidMetH Tryd.prog theLaid ((World.doorLaid Tryd.prog 400 os).forCall (fun _ _ => 0) ⟨#[], args, []⟩).memory :=
  laidMetH_of_parts3 (fuel := 8) (laidMet_of_run' 8 (by kernel_rfl) (by kernel_rfl)) (by kernel_rfl) (by kernel_rfl)
theorem no_stand {P : Program} {ts : Array TypeId} (h : (ts.toList.all fun t => !P.wantsStandIn t) = true) (j : Nat) (t : TypeId) (ht : ts[j]? = some t) : P.wantsStandIn t = false := by
  have h1 : t ∈ ts.toList := by
    rw [← Array.getElem?_toList] at ht
    exact List.mem_of_getElem? ht
  simpa using List.all_eq_true.1 h t h1
end Go.Proofs.YtkdienebinnopaaDoor
