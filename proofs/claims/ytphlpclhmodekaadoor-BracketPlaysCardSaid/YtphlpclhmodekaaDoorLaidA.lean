/-
  Bracket: the cards' last facts; bytes that come in.
-/
import Derived.Test.YtphlpclhmodekaaDoorLib
import Derived.Test.YtphlpclhmodekaaDoorTie
import Derived.Test.YtphlpclhmodekaaDoorCards
import Derived.ProofKit
import Derived.LaidMore
import Derived.Lay
import Derived.OpenShut
import Derived.Carry
import Derived.Deep.Slices
import Derived.SevenTiedAt
set_option linter.unusedVariables false
set_option linter.unusedSimpArgs false
namespace Go.Proofs.YtphlpclhmodekaaDoor
open Go.ChangeShapes Go.WideShapes Go.ChangeAt Go.RowKit Go.Zn Go.Deep

theorem own : ownKnob Tryd.prog.godebug = none := by kernel_rfl
theorem laidOut : laidOutB Tryd.prog = true := by kernel_rfl
def theLaid : List (String × DataW Unit) := Rows.bracketHoldsRow.laid
theorem of_laid {W : World} (h0 : laidMetH Tryd.prog theLaid W) : True := trivial
theorem all_met (os : Os) (args : Array Value) : laidMetH Tryd.prog theLaid ((World.laidAll Tryd.prog os theLaid).forCall (fun _ _ => 0) ⟨#[], args, []⟩).memory := by
  rw [MakeChecks.laidMetH_plain _ _ _ (by kernel_rfl)]
  exact laidMet_laidAll _ (by kernel_rfl) (by kernel_rfl)
theorem i64_of_wf {x : Int} (h : (Lit.int .i64 x).wf = true) : -9223372036854775808 ≤ x ∧ x ≤ 9223372036854775807 := by
  simp [Lit.wf, IntKind.wrap, IntKind.signed, IntKind.bits, IntKind.min, IntKind.max] at h
  omega
theorem no_stand {P : Program} {ts : Array TypeId} (h : (ts.toList.all fun t => !P.wantsStandIn t) = true) (j : Nat) (t : TypeId) (ht : ts[j]? = some t) : P.wantsStandIn t = false := by
  have h1 : t ∈ ts.toList := by
    rw [← Array.getElem?_toList] at ht
    exact List.mem_of_getElem? ht
  simpa using List.all_eq_true.1 h t h1
theorem cells5 : Tryd.prog.cellsOf 5 = 1 := by kernel_rfl
def toBs (zs : List Int) : List UInt8 := zs.map fun z => UInt8.ofNat z.toNat
theorem bts_toBs : ∀ (zs : List Int), (∀ z ∈ zs, 0 ≤ z ∧ z ≤ 255) → bts (toBs zs) = zs.map (Value.int .u8)
  | [], _ => rfl
  | z :: zs, h => by
    have hz := h z (by simp)
    have e1 : (((UInt8.ofNat z.toNat).toNat : Nat) : Int) = z := by
      rw [UInt8.toNat_ofNat']
      omega
    simp only [toBs, bts, List.map_cons, e1]
    congr 1
    exact bts_toBs zs (fun z hz => h z (by simp [hz]))
section
variable {H : Type} {enc : TypeId × Value → H}
/-- bytes, opened -/
theorem bytes_open {W : World} {fuel : Nat} {v : Value} {x : DataW H × List MemPlace} (h : DataW.trod enc Tryd.prog W 0 (fun _ => true) true fuel 22 [v] = some x) : ∃ bs : List UInt8, Rd W (fun _ => True) 1 v bs.length (bts bs) := by
  rcases open_ints Tryd.underlying22 Tryd.underlying5 cells5 h with ⟨hcs, hx⟩ | ⟨a, len, cap, zs, hcs, _, hl, hm, hz, hx, hcell, hwz⟩
  · cases hcs
    exact ⟨[], rd_nil _ _ _⟩
  · cases hcs
    have hz' : zs.length = cap := by simpa using hz
    by_cases hc0 : cap = 0
    · subst hc0
      obtain rfl : len = 0 := by omega
      exact ⟨[], rd_bare _ _ _ _⟩
    · obtain ⟨b, off, sp⟩ := a
      have hsp : sp = none := by
        have := World.cell?_spot (hcell 0 (by omega))
        simpa [Addr.add] using this
      subst hsp
      have hw : ∀ z ∈ zs.take len, 0 ≤ z ∧ z ≤ 255 := fun z hz1 => by
        have := hwz z (List.mem_of_mem_take hz1)
        simp [Lit.wf, IntKind.wrap, IntKind.signed, IntKind.bits, IntKind.min, IntKind.max] at this
        omega
      have hlen : (toBs (zs.take len)).length = len := by simp [toBs]; omega
      refine ⟨toBs (zs.take len), by rw [hlen, bts_toBs _ hw, List.length_map, List.length_take]; omega, by rw [hlen]; omega, .inr ⟨b, off, cap, by rw [hlen], by rw [hlen]; exact hl, fun _ => trivial, fun j u hj => ?_⟩⟩
      rw [bts_toBs _ hw, List.getElem?_map, List.getElem?_take] at hj
      by_cases hjl : j < len
      · rw [if_pos hjl] at hj
        have := hcell j (by omega)
        rw [Addr.add_lit] at this
        rw [this]
        rw [List.getD_eq_getElem?_getD]
        have hjz : j < zs.length := by omega
        rw [List.getElem?_eq_getElem hjz] at hj ⊢
        exact hj
      · rw [if_neg hjl] at hj
        cases hj
end
end Go.Proofs.YtphlpclhmodekaaDoor
