/-
  Ident: the small walks: zero, the counts of bits, bit, check.
-/
import Derived.Test.YtkdienebinnopaaDoorRows
import Derived.Test.YtkdienebinnopaaDoorLib
import Derived.Test.YtkdienebinnopaaDoorL
import Derived.Test.YtkdienebinnopaaDoorShelf
import Derived.Laws.BitsAllLaws
import Derived.Laws.Bits128
import Derived.Deep.QuietTactic
import Derived.BigQuiet
import Derived.IntWalk
namespace Go.Proofs.YtkdienebinnopaaDoor
open Go.RowKit Go.Zn

theorem f1_le (n : Nat) : f1 8 n ≤ 12297829382473034410 := by
  have h1 : n / 2 &&& msk 85 8 ≤ msk 85 8 := Nat.and_le_right
  have h2 : n &&& msk 85 8 ≤ msk 85 8 := Nat.and_le_right
  have e : msk 85 8 = 6148914691236517205 := by decide
  unfold f1
  omega
theorem f2_le (n : Nat) : f2 8 n ≤ 7378697629483820646 := by
  have h1 : n / 4 &&& msk 51 8 ≤ msk 51 8 := Nat.and_le_right
  have h2 : n &&& msk 51 8 ≤ msk 51 8 := Nat.and_le_right
  have e : msk 51 8 = 3689348814741910323 := by decide
  unfold f2
  omega
theorem f3_le (n : Nat) : f3 8 n ≤ 1085102592571150095 := by
  have h2 : (n / 16 + n) &&& msk 15 8 ≤ msk 15 8 := Nat.and_le_right
  have e : msk 15 8 = 1085102592571150095 := by decide
  unfold f3
  omega
/-- what the library reckons, step by step -/
structure Ones (x : Int) (y1 y2 y3 y4 y5 y6 r : Int) : Prop where
  b1 : 0 ≤ y1 ∧ y1 ≤ 18446744073709551615
  b2 : 0 ≤ y2 ∧ y2 ≤ 18446744073709551615
  b3 : 0 ≤ y3 ∧ y3 ≤ 18446744073709551615
  b4 : 0 ≤ y4 ∧ y4 ≤ 18446744073709551615
  b5 : 0 ≤ y5 ∧ y5 ≤ 18446744073709551615
  b6 : 0 ≤ y6 ∧ y6 ≤ 9223372036854775807
  r1 : IntKind.u64.wrap (bits .and .u64 (x / 2) 6148914691236517205 + bits .and .u64 x 6148914691236517205) = y1
  r2 : IntKind.u64.wrap (bits .and .u64 (y1 / 4) 3689348814741910323 + bits .and .u64 y1 3689348814741910323) = y2
  r3 : bits .and .u64 (IntKind.u64.wrap (y2 / 16 + y2)) 1085102592571150095 = y3
  r4 : IntKind.u64.wrap (y3 + y3 / 256) = y4
  r5 : IntKind.u64.wrap (y4 + y4 / 65536) = y5
  r6 : IntKind.u64.wrap (y5 + y5 / 4294967296) = y6
  r7 : bits .and .i64 y6 127 = r
theorem ones_steps (n : Nat) (hn : n < 18446744073709551616) : ∃ y1 y2 y3 y4 y5 y6, Ones n y1 y2 y3 y4 y5 y6 (popb n 64 : Nat) := by
  obtain ⟨x1, hx1⟩ : ∃ x1, f1 8 n = x1 := ⟨_, rfl⟩
  obtain ⟨x2, hx2⟩ : ∃ x2, f2 8 x1 = x2 := ⟨_, rfl⟩
  obtain ⟨x3, hx3⟩ : ∃ x3, f3 8 x2 = x3 := ⟨_, rfl⟩
  obtain ⟨x4, hx4⟩ : ∃ x4, x3 + x3 / 256 = x4 := ⟨_, rfl⟩
  obtain ⟨x5, hx5⟩ : ∃ x5, x4 + x4 / 65536 = x5 := ⟨_, rfl⟩
  obtain ⟨x6, hx6⟩ : ∃ x6, x5 + x5 / 4294967296 = x6 := ⟨_, rfl⟩
  obtain ⟨hp, l4, l5, l6⟩ := ones_law n hn x3 x4 x5 x6 (by rw [hx1, hx2, hx3]) hx4 hx5 hx6
  have l1 : x1 ≤ 12297829382473034410 := by rw [← hx1]; exact f1_le n
  have l2 : x2 ≤ 7378697629483820646 := by rw [← hx2]; exact f2_le x1
  have l3 : x3 ≤ 1085102592571150095 := by rw [← hx3]; exact f3_le x2
  refine ⟨x1, x2, x3, x4, x5, x6, ⟨by omega, by omega⟩, ⟨by omega, by omega⟩, ⟨by omega, by omega⟩, ⟨by omega, by omega⟩, ⟨by omega, by omega⟩, ⟨by omega, by omega⟩, ?_, ?_, ?_, ?_, ?_, ?_, ?_⟩
  · have e1 : bits .and .u64 ((n : Int) / 2) 6148914691236517205 = ((n / 2 &&& 6148914691236517205 : Nat) : Int) := u64_and_nat (n / 2) 6148914691236517205 (by omega) (by omega)
    have e2 : bits .and .u64 (n : Int) 6148914691236517205 = ((n &&& 6148914691236517205 : Nat) : Int) := u64_and_nat n 6148914691236517205 (by omega) (by omega)
    have e3 : (n / 2 &&& 6148914691236517205) + (n &&& 6148914691236517205) = x1 := hx1
    rw [e1, e2, IntKind.wrap_u64]
    omega
  · have e1 : bits .and .u64 ((x1 : Int) / 4) 3689348814741910323 = ((x1 / 4 &&& 3689348814741910323 : Nat) : Int) := u64_and_nat (x1 / 4) 3689348814741910323 (by omega) (by omega)
    have e2 : bits .and .u64 (x1 : Int) 3689348814741910323 = ((x1 &&& 3689348814741910323 : Nat) : Int) := u64_and_nat x1 3689348814741910323 (by omega) (by omega)
    have e3 : (x1 / 4 &&& 3689348814741910323) + (x1 &&& 3689348814741910323) = x2 := hx2
    rw [e1, e2, IntKind.wrap_u64]
    omega
  · have e0 : IntKind.u64.wrap ((x2 : Int) / 16 + x2) = ((x2 / 16 + x2 : Nat) : Int) := by rw [IntKind.wrap_u64]; omega
    have e1 : bits .and .u64 ((x2 / 16 + x2 : Nat) : Int) 1085102592571150095 = (((x2 / 16 + x2) &&& 1085102592571150095 : Nat) : Int) := u64_and_nat (x2 / 16 + x2) 1085102592571150095 (by omega) (by omega)
    have e3 : (x2 / 16 + x2) &&& 1085102592571150095 = x3 := hx3
    rw [e0, e1, e3]
  · rw [IntKind.wrap_u64]; omega
  · rw [IntKind.wrap_u64]; omega
  · rw [IntKind.wrap_u64]; omega
  · rw [i64_and127]; omega
set_option maxHeartbeats 400000 in
theorem ones_any (x : Int) (n : Nat) (hx : x = n) (hn : n < 18446744073709551616) (w : World) :
    Calls Tryd.prog 25 #[.int .u64 x] w fun e w' => e = .returned (.int .i64 (popb n 64 : Nat)) ∧ w = w' := by
  have h0 : 0 ≤ x := by omega
  have h1 : x ≤ 18446744073709551615 := by omega
  obtain ⟨y1, y2, y3, y4, y5, y6, ho⟩ := ones_steps n hn
  rw [← hx] at ho
  obtain ⟨r, hr⟩ : ∃ r : Int, ((popb n 64 : Nat) : Int) = r := ⟨_, rfl⟩
  rw [hr] at ho ⊢
  obtain ⟨⟨_, _⟩, ⟨_, _⟩, ⟨_, _⟩, ⟨_, _⟩, ⟨_, _⟩, ⟨_, _⟩, r1, r2, r3, r4, r5, r6, r7⟩ := ho
  clear hr hx hn
  go_enter Tryd.func25, Tryd.ntmps25
  go_wp2_with fail
  go_ret
  exact ⟨rfl, rfl⟩
def nwo (most : Nat) : Nat := (most + 63) / 64
/-- ids as they lie: the object in b, its words in tb -/
structure Ids (w : World) (b tb most : Nat) (t : Nat → Bool) : Prop where
  m1 : 1 ≤ most
  m2 : most ≤ 4096
  ne : b ≠ tb
  obj : ∃ c, nwo most ≤ c ∧ w.heap[b]? = some (.cells #[.int .i64 (most : Nat), .slice (some ⟨tb, 0, none⟩) (nwo most) c] 54 (0, 0))
  ws : ∃ cs : Array Value, w.heap[tb]? = some (.cells cs 58 (0, 0)) ∧ ∀ i, i < nwo most → cs[i]? = some (.int .u64 (wd t i : Nat))
  only : ∀ id, t id = true → 1 ≤ id ∧ id ≤ most
theorem Ids.kept {S : Nat → Prop} {w w' : World} {b tb most : Nat} {t : Nat → Bool} (h : Ids w b tb most t) (hk : Kept S w w') (hb : ∀ i, i < w.heap.size → ¬ S i) : Ids w' b tb most t := by
  obtain ⟨h1, h2, h3, ⟨c, h4, h5⟩, ⟨cs, h6, h7⟩, h8⟩ := h
  exact ⟨h1, h2, h3, ⟨c, h4, hk.obj h5 (hb _ (obj_lt h5))⟩, ⟨cs, hk.obj h6 (hb _ (obj_lt h6)), h7⟩, h8⟩
theorem Ids.no {w w' : World} {b tb most : Nat} {t : Nat → Bool} (h : Ids w b tb most t) (hk : Kept No w w') : Ids w' b tb most t := h.kept hk (fun _ _ => not_no _)
theorem Ids.drewN {w : World} {b tb most : Nat} {t : Nat → Bool} (h : Ids w b tb most t) (q : Nat) : Ids (w.drewN q) b tb most t := h.no ((Kept.refl No w).drewN q)
theorem Ids.lt {w : World} {b tb most : Nat} {t : Nat → Bool} (h : Ids w b tb most t) : b < w.heap.size ∧ tb < w.heap.size := by
  obtain ⟨h1, h2, h3, ⟨c, h4, h5⟩, ⟨cs, h6, h7⟩, h8⟩ := h
  exact ⟨obj_lt h5, obj_lt h6⟩
theorem Ids.c0 {w : World} {b tb most : Nat} {t : Nat → Bool} (h : Ids w b tb most t) : w.cell? ⟨b, 0, none⟩ = some (.int .i64 (most : Nat)) := by
  obtain ⟨c, _, h5⟩ := h.obj
  exact obj_cell h5 0
theorem Ids.c1 {w : World} {b tb most : Nat} {t : Nat → Bool} (h : Ids w b tb most t) : ∃ c, w.cell? ⟨b, 1, none⟩ = some (.slice (some ⟨tb, 0, none⟩) (nwo most) c) := by
  obtain ⟨c, _, h5⟩ := h.obj
  exact ⟨c, obj_cell h5 1⟩
theorem Ids.word {w : World} {b tb most : Nat} {t : Nat → Bool} (h : Ids w b tb most t) {i : Nat} (hi : i < nwo most) : w.cell? ⟨tb, i, none⟩ = some (.int .u64 (wd t i : Nat)) := by
  obtain ⟨cs, h6, h7⟩ := h.ws
  rw [obj_cell h6]; exact h7 i hi
theorem Ids.free {w : World} {b tb most : Nat} {t : Nat → Bool} (h : Ids w b tb most t) (i : Nat) : w.frozen? ⟨tb, i, none⟩ = false := by
  obtain ⟨cs, h6, h7⟩ := h.ws
  exact obj_free h6 i
/-- one word is written -/
theorem Ids.put {w : World} {b tb most i j : Nat} {t : Nat → Bool} {v : Bool} (h : Ids w b tb most t) (hj : j < 64) (hid : 64 * i + j + 1 ≤ most) {x : Int} (hx : x = (wd (put t (64 * i + j + 1) v) i : Nat)) :
    Ids (w.setCell ⟨tb, i, none⟩ (.int .u64 x)) b tb most (YtkdienebinnopaaDoor.put t (64 * i + j + 1) v) := by
  obtain ⟨h1, h2, h3, ⟨c, h4, h5⟩, ⟨cs, h6, h7⟩, h8⟩ := h
  refine ⟨h1, h2, h3, ⟨c, h4, obj_setCell h5 _ h3⟩, ⟨_, obj_store h6 i _, fun k hk => ?_⟩, fun id hi => ?_⟩
  · by_cases e : k = i
    · subst e
      rw [Array.getElem?_setIfInBounds_self_of_lt (by have := (Array.getElem?_eq_some_iff.1 (h7 k hk)).1; exact this), hx]
    · rw [Array.getElem?_setIfInBounds_ne (fun h => e h.symm), h7 k hk, wd_other t i j k v hj e]
  · by_cases e : id = 64 * i + j + 1
    · omega
    · have : YtkdienebinnopaaDoor.put t (64 * i + j + 1) v id = t id := by unfold YtkdienebinnopaaDoor.put; rw [if_neg e]
      rw [this] at hi
      exact h8 id hi

set_option maxHeartbeats 400000 in
theorem zero_no {w : World} {b tb most : Nat} {t : Nat → Bool} (h : Ids w b tb most t) : Calls Tryd.prog 24 #[.pointer (some ⟨b, 0, none⟩)] w fun e w' => e = .returned (.bool false) ∧ w = w' := by
  have c0 := h.c0
  have hz : ((most : Int) == 0) = false := by have := h.m1; rw [beq_eq_false_iff_ne]; omega
  clear h
  go_enter Tryd.func24, Tryd.ntmps24
  go_wp2
  go_ret
  exact ⟨rfl, rfl⟩
theorem zero_nil (w : World) : Calls Tryd.prog 24 #[.pointer none] w fun e w' => e = .returned (.bool true) ∧ w = w' := by
  go_enter Tryd.func24, Tryd.ntmps24
  go_wp2
  go_ret
  exact ⟨rfl, rfl⟩
theorem zero_zero (b : Nat) (w : World) (c0 : w.cell? ⟨b, 0, none⟩ = some (.int .i64 0)) : Calls Tryd.prog 24 #[.pointer (some ⟨b, 0, none⟩)] w fun e w' => e = .returned (.bool true) ∧ w = w' := by
  go_enter Tryd.func24, Tryd.ntmps24
  go_wp2
  go_ret
  exact ⟨rfl, rfl⟩
def BitPost (tb i j : Nat) (w : World) (e : Ending) (w' : World) : Prop := ∃ (B : Int) (q : Nat), B = (2 ^ j : Nat) ∧ e = .returned (.tuple #[.pointer (some ⟨tb, i, none⟩), .int .u64 B]) ∧ w' = w.drewN q
set_option maxHeartbeats 400000 in
theorem bit_any {w : World} {b tb most : Nat} {t : Nat → Bool} (h : Ids w b tb most t) (id : Int) (i j : Nat) (hj : j < 64) (hid : id = (64 * i + j + 1 : Nat)) (hm : 64 * i + j + 1 ≤ most) :
    Calls Tryd.prog 35 #[.pointer (some ⟨b, 0, none⟩), .int .i64 id] w (BitPost tb i j w) := by
  obtain ⟨c, c1⟩ := h.c1
  have hm2 := h.m2
  have h1 : 1 ≤ id := by omega
  have h2 : id ≤ 4096 := by omega
  obtain ⟨nw, hnw⟩ : ∃ nw, nwo most = nw := ⟨_, rfl⟩
  have hnw1 : (id - 1) / 64 < nw := by rw [← hnw]; unfold nwo; omega
  have hnw2 : nw ≤ 64 := by rw [← hnw]; unfold nwo; omega
  rw [hnw] at c1
  have HID := Lib.hid hid
  have HJ := Lib.hid hj
  clear h hid hm hnw hj
  go_enter Tryd.func35, Tryd.ntmps35
  go_wp2_with fail
  go_quiet (fail)
  go_wp2_with fail
  go_ret2
  have hid := HID.out
  have hj := HJ.out
  have e1 : ((id - 1) / 64).toNat = i := by omega
  have e2 : ((id - 1) % 64).toNat = j := by omega
  refine ⟨IntKind.u64.wrap (2 ^ j), _, ?_, ?_, rfl⟩
  · have hp : 2 ^ j < 2 ^ 64 := Nat.pow_lt_pow_right (by decide) hj
    have e3 : ((2 : Int) ^ j) = ((2 ^ j : Nat) : Int) := by simp
    rw [IntKind.wrap_u64, e3]
    generalize 2 ^ j = P at hp
    omega
  · show Ending.returned (Value.tuple #[Value.pointer (some ⟨tb, ((id - 1) / 64).toNat, none⟩), Value.int IntKind.u64 (IntKind.u64.wrap (2 ^ ((id - 1) % 64).toNat))]) = _
    rw [e1, e2]
theorem bit_split (id : Int) (h1 : 1 ≤ id) : ∃ i j : Nat, j < 64 ∧ id = (64 * i + j + 1 : Nat) := ⟨((id - 1) / 64).toNat, ((id - 1) % 64).toNat, by omega, by omega⟩
theorem check_zero {w : World} {p : Value} (id : Int) (hz : Calls Tryd.prog 24 #[p] w fun e w' => e = .returned (.bool true) ∧ w = w') :
    Calls Tryd.prog 26 #[p, .int .i64 id] w fun e w' => e = .returned (.tuple #[.pointer none, .int .u64 0, .int .i64 1]) ∧ w = w' := by
  have HZ := Lib.hid hz
  clear hz
  go_enter Tryd.func26, Tryd.ntmps26
  go_wp2_with fail
  refine HZ.out.mono ?_
  rintro e w' ⟨rfl, rfl⟩
  go_wp2_with fail
  go_ret3
  exact ⟨rfl, rfl⟩
set_option maxHeartbeats 400000 in
theorem check_out {w : World} {b tb most : Nat} {t : Nat → Bool} (h : Ids w b tb most t) (id : Int) (ho : id < 1 ∨ most < id) :
    Calls Tryd.prog 26 #[.pointer (some ⟨b, 0, none⟩), .int .i64 id] w fun e w' => e = .returned (.tuple #[.pointer none, .int .u64 0, .int .i64 2]) ∧ w = w' := by
  have c0 := h.c0
  have H := Lib.hid h
  by_cases h1 : id < 1
  · have d1 : decide (id < 1) = true := by simp; exact h1
    clear h ho h1
    go_enter Tryd.func26, Tryd.ntmps26
    go_wp2_with fail
    refine (zero_no H.out).mono ?_
    rintro e w' ⟨rfl, rfl⟩
    go_wp2_with fail
    go_ret3
    exact ⟨rfl, rfl⟩
  · have d1 : decide (id < 1) = false := by simp; omega
    have d2 : decide ((most : Int) < id) = true := by simp; omega
    clear h ho h1
    go_enter Tryd.func26, Tryd.ntmps26
    go_wp2_with fail
    refine (zero_no H.out).mono ?_
    rintro e w' ⟨rfl, rfl⟩
    go_wp2_with fail
    go_ret3
    exact ⟨rfl, rfl⟩
def CheckPost (tb i j : Nat) (w : World) (e : Ending) (w' : World) : Prop := ∃ (B : Int) (q : Nat), B = (2 ^ j : Nat) ∧ e = .returned (.tuple #[.pointer (some ⟨tb, i, none⟩), .int .u64 B, .int .i64 0]) ∧ w' = w.drewN q
set_option maxHeartbeats 400000 in
theorem check_ok {w : World} {b tb most : Nat} {t : Nat → Bool} (h : Ids w b tb most t) (id : Int) (i j : Nat) (hj : j < 64) (hid : id = (64 * i + j + 1 : Nat)) (hm : 64 * i + j + 1 ≤ most) :
    Calls Tryd.prog 26 #[.pointer (some ⟨b, 0, none⟩), .int .i64 id] w (CheckPost tb i j w) := by
  have c0 := h.c0
  have H := Lib.hid h
  have d1 : decide (id < 1) = false := by simp; omega
  have d2 : decide ((most : Int) < id) = false := by simp; omega
  have HJ := Lib.hid hj
  have HID := Lib.hid hid
  have HM := Lib.hid hm
  clear h hj hid hm
  go_enter Tryd.func26, Tryd.ntmps26
  go_wp2_with fail
  refine (zero_no H.out).mono ?_
  rintro e w' ⟨rfl, rfl⟩
  go_wp2_with fail
  refine (bit_any H.out id i j HJ.out HID.out HM.out).mono ?_
  rintro e w' ⟨B, q, hB, rfl, rfl⟩
  have HB := Lib.hid hB
  clear hB
  go_wp2_with fail
  go_ret3
  exact ⟨B, q, HB.out, rfl, rfl⟩
end Go.Proofs.YtkdienebinnopaaDoor
