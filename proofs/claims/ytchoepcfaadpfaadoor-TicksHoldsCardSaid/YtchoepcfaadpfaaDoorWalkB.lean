/-
  Ticks: the texts: FormatUint, Text of the program and of the reference.
-/
import Derived.Test.YtchoepcfaadpfaaDoorWalkA
import Derived.Test.YtchoepcfaadpfaaDoorShelf
import Derived.Test.YtchoepcfaadpfaaDoorL
import Derived.Lib.ItoaMem
import Derived.WalkSmall
namespace Go.Proofs.YtchoepcfaadpfaaDoor
open Go.RowKit Go.Zn Go.Sort Go.Lib

/-- what the listed variables give: the table of powers, the two errors -/
def errSyn : String := (Rows.ticksAddsRow.laid.map (fun x => x.1)).getD 4 default
def errRng : String := (Rows.ticksAddsRow.laid.map (fun x => x.1)).getD 3 default
structure Laid (w : World) : Prop where
  tab : TabIs Tryd.prog w Tryd.powName .u64 pow10Tab
  syn : ∃ tp p, w.var? Tryd.prog errSyn = some #[.iface tp p]
  rng : ∃ tp p, w.var? Tryd.prog errRng = some #[.iface tp p]
theorem var_kept {w w' : World} {n : String} {cs : Array Value} (h : w.var? Tryd.prog n = some cs) (hk : Kept No w w') : w'.var? Tryd.prog n = some cs := by
  unfold World.var? at h ⊢
  cases hg : Tryd.prog.globalNamed n with
  | none => rw [hg] at h; cases h
  | some g =>
    rw [hg] at h
    simp only [Option.bind_some] at h ⊢
    cases hb : w.heap[g]? with
    | none => rw [hb] at h; cases h
    | some o => rw [hk.obj hb (not_no _)]; rw [hb] at h; exact h
theorem Laid.kept {w w' : World} (h : Laid w) (hk : Kept No w w') : Laid w' := by
  obtain ⟨h1, ⟨a, b, h2⟩, ⟨c, d, h3⟩⟩ := h
  exact ⟨var_kept h1 hk, ⟨a, b, var_kept h2 hk⟩, ⟨c, d, var_kept h3 hk⟩⟩

theorem kept_grow (w : World) (k : Nat) (os : Array Obj) : Kept No w (grow (w.drewN k) os) := by
  refine ⟨rfl, rfl, rfl, ?_, fun i hi _ => ?_⟩
  · simp [grow]
  · simp [grow, Array.getElem?_append, hi]
theorem holds_zero0 (w : World) (T : TypeId) (nd : Nat) (hs : nd ≤ 24) : Holds (fun (b : UInt8) => Value.int .u8 (b.toNat : Int)) (w.alloc (.cells zeros24 T)) w.heap.size 0 (Array.replicate nd (0 : UInt8)) := fun j hj => by
  have hj' : j < nd := by simpa using hj
  refine ⟨?_, World.frozen?_alloc_new _ _ _ _⟩
  rw [World.cell?_alloc_new, zeros24_at _ (by omega), getElem!_pos _ j hj]
  simp
set_option maxHeartbeats 1600000 in
set_option maxRecDepth 100000 in
theorem fmt_any (u : Nat) (hu : u < 18446744073709551616) (w : World) (hl : Laid w) :
    Calls Tryd.prog 29 #[.int .u64 u, .int .i64 10] w fun e w' => e = .returned (.string ⟨(decDigits u).toArray⟩) ∧ Kept No w w' := by
  by_cases hs : u < 100
  · clear hl
    go_enter Tryd.func29, Tryd.ntmps29
    go_wp2_with (go_at_call 33; refine (Tryd.internal_strconv_small u hs _).mono ?_; rintro e w' ⟨rfl, rfl⟩)
    go_ret
    exact ⟨rfl, Kept.refl _ _⟩
  · have hu1 : 1 ≤ u := by omega
    have hnd20 : nDigits u ≤ 20 := nDigits_le20 u hu
    have hb3 : nDigits u ≤ 23 := by omega
    have hal : Tryd.prog.arrayLen 51 = 24 := by kernel_rfl
    have hsl1 : ∀ W, (Instr.sliceAt 51 (.pointer (some ⟨w.heap.size, 0, none⟩)) none (some (.int .i64 (nDigits u : Int))) none).run Tryd.prog W = .ok (.slice (some ⟨w.heap.size, 0, none⟩) (nDigits u) 24) W := fun W => by
      rw [run_sliceAt_array_h W 51 ⟨w.heap.size, 0, none⟩ (by simp [Program.elem, Tryd.underlying51, hal]) .i64 (nDigits u : Int) (by omega) (by rw [hal]; omega)]
      go_simp
    have hH0 := holds_zero0 w 51 (nDigits u) (by omega)
    have hfmt := Tryd.internal_strconv_formatBase10 w.heap.size 0 24 u (Array.replicate (nDigits u) 0) (w.alloc (.cells zeros24 51)) hH0 (by rw [Array.size_replicate]; exact lt_pow_nDigits u) hu (by rw [Array.size_replicate]; omega)
    rw [Array.size_replicate] at hfmt
    have HH0 := Lib.hid hH0
    have HL := Lib.hid (hl.kept ((Kept.refl No w).alloc (.cells zeros24 51)))
    clear hH0 hal hl
    go_enter Tryd.func29, Tryd.ntmps29
    go_wp2_with (go_at_call 34; refine (Tryd.internal_strconv_numDigits u hu1 hu _ HL.out.tab).mono ?_; rintro e w' ⟨rfl, rfl⟩)
    go_at_call 35
    refine hfmt.mono ?_
    rintro e w' ⟨rfl, k, v', dk, rfl, hF⟩
    have hcv : (convert 54 9 (.slice (some ⟨w.heap.size, 0, none⟩) (nDigits u) 24)).run Tryd.prog ((putRow (fun (b : UInt8) => Value.int .u8 (b.toNat : Int)) (w.alloc (.cells zeros24 51)) w.heap.size 0 dk).drewN k) = .ok (.string ⟨(decDigits u).toArray⟩) ((putRow (fun (b : UInt8) => Value.int .u8 (b.toNat : Int)) (w.alloc (.cells zeros24 51)) w.heap.size 0 dk).drewN k) := by
      have h := run_convert_bytes_back (P := Tryd.prog) ((putRow (fun (b : UInt8) => Value.int .u8 (b.toNat : Int)) (w.alloc (.cells zeros24 51)) w.heap.size 0 dk).drewN k) 54 9 5 ⟨w.heap.size, 0, none⟩ 24 (decDigits u) Tryd.underlying54 Tryd.underlying5 Tryd.underlying9 (fun j hj => by
        rw [row_is_numeral hF j hj, add_plain, World.cell?_drewN]
        exact cell?_putRow (fun (b : UInt8) => Value.int .u8 (b.toNat : Int)) _ w.heap.size 0 _ dk HH0.out (by rw [hF.size, Array.size_replicate]) j (by rw [hF.size]; rw [decDigits_length] at hj; exact hj))
      rw [decDigits_length] at h
      exact h
    have HW : Hid (Kept No w ((putRow (fun (b : UInt8) => Value.int .u8 (b.toNat : Int)) (w.alloc (.cells zeros24 51)) w.heap.size 0 dk).drewN k)) := by
      obtain ⟨os', _, e⟩ := putRow_grow_new (fun (b : UInt8) => Value.int .u8 (b.toNat : Int)) w #[.cells zeros24 51] w.heap.size 0 dk (Nat.le_refl _)
      rw [alloc_eq_grow, e]
      exact kept_grow w k os'
    clear hF
    go_wp2
    go_ret
    exact ⟨rfl, HW.out⟩
theorem fmt_pub (u : Nat) (hu : u < 18446744073709551616) (w : World) (hl : Laid w) :
    Calls Tryd.prog 25 #[.int .u64 u, .int .i64 10] w fun e w' => e = .returned (.string ⟨(decDigits u).toArray⟩) ∧ Kept No w w' := by
  have HL := Lib.hid hl
  clear hl
  go_enter Tryd.func25, Tryd.ntmps25
  go_wp2_with (go_at_call 29; refine (fmt_any u hu _ HL.out).mono ?_; rintro e w' ⟨rfl, hk⟩)
  go_ret
  exact ⟨rfl, hk⟩
end Go.Proofs.YtchoepcfaadpfaaDoor
