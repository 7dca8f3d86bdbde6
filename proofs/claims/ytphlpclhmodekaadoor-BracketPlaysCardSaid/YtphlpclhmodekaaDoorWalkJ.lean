/-
  Bracket: New.
-/
import Derived.Test.YtphlpclhmodekaaDoorWalkI
set_option linter.unusedVariables false
set_option linter.unusedSimpArgs false
namespace Go.Proofs.YtphlpclhmodekaaDoor
open Go.RowKit Go.Zn
attribute [local go_sem] Oper.semAt_some

/-- a block that is becoming a bracket -/
structure B0 (k E : Nat) (f : Nat → Nat) (b : Nat) (w : World) : Prop where
  z : Sz k E
  hb : w.heap[b]? = some (.cells (cellsB E (2 ^ k) f).toArray 46 (0, 0))
theorem B0.ent {k E : Nat} {f : Nat → Nat} {b : Nat} {w : World} (h : B0 k E f b w) : w.cell? ⟨b, 0, none⟩ = some (.int .i64 (E : Nat)) := by rw [obj_cell h.hb 0]; rfl
theorem B0.size {k E : Nat} {f : Nat → Nat} {b : Nat} {w : World} (h : B0 k E f b w) : w.cell? ⟨b, 1, none⟩ = some (.int .i64 ((2 ^ k : Nat) : Int)) := by rw [obj_cell h.hb 1]; rfl
theorem B0.to {k E : Nat} {f : Nat → Nat} {b : Nat} {S : Nat → Prop} {w w' : World} (h : B0 k E f b w) (hk : Kept S w w') (hn : ¬ S b) : B0 k E f b w' := ⟨h.z, hk.obj h.hb hn⟩
theorem B0.put {k E : Nat} {f : Nat → Nat} {b : Nat} {w : World} (h : B0 k E f b w) {m v : Nat} (hm : m + 1 < 2 ^ k) : B0 k E (upd f m v) b (w.setCell ⟨b, 2 + m, none⟩ (.int .i8 (v : Nat))) := by
  have := h.z.le
  refine ⟨h.z, ?_⟩
  rw [obj_store h.hb (2 + m) _, List.setIfInBounds_toArray, cellsB_set _ _ _ (by omega)]
theorem B0.won {k E : Nat} {f : Nat → Nat} {b : Nat} {w : World} (h : B0 k E f b w) {m : Nat} (hm : m + 1 < 2 ^ k) : w.cell? ⟨b, 2 + m, none⟩ = some (.int .i8 (f m : Nat)) := by
  have := h.z.le
  rw [obj_cell h.hb (2 + m), List.getElem?_toArray, cellsB_won _ _ _ (by omega)]

theorem entrant0 {k E : Nat} {f : Nat → Nat} {b : Nat} {w : World} (hB : B0 k E f b w) {p : Nat} (hp : p < 2 ^ k) : Calls Tryd.prog 48 #[.pointer (some ⟨b, 0, none⟩), .int .i64 (p : Nat)] w fun e w' => e = .returned (.int .i64 (ent k E p)) ∧ w' = w := by
  have hc := fun w => seed_any k p w hB.z.six hp
  have c0 := hB.ent
  have c1 := hB.size
  have HB := Lib.hid hB
  obtain ⟨x, hx⟩ : ∃ x, seedK k p = x := ⟨_, rfl⟩
  obtain ⟨S, hS⟩ : ∃ S, 2 ^ k = S := ⟨_, rfl⟩
  have he : ent k E p = if x < E then (x : Int) else -2 := by unfold ent; rw [hx]
  rw [hx, hS] at hc
  rw [hS] at c1
  have HC := Lib.hid hc
  clear hc hB hp hx hS
  by_cases hlt : x < E
  · have q1 : decide (x < E) = true := decide_eq_true hlt
    have HR := Lib.hid (show ent k E p = (x : Int) by rw [he, if_pos hlt])
    clear hlt he
    go_enter Tryd.func48, Tryd.ntmps48
    go_wp2_with fail
    refine (HC.out _).mono ?_
    rintro e w1 ⟨rfl, hk⟩
    have hk := hk.symm
    subst hk
    have hk := Kept.refl No w
    have c0 := hk.cell c0 (not_no _)
    have HK := Lib.hid hk
    clear hk
    go_wp2_with fail
    go_ret
    exact ⟨by rw [HR.out]; rfl, rfl⟩
  · have q1 : decide (x < E) = false := decide_eq_false hlt
    have HR := Lib.hid (show ent k E p = -2 by rw [he, if_neg hlt])
    clear hlt he
    go_enter Tryd.func48, Tryd.ntmps48
    go_wp2_with fail
    refine (HC.out _).mono ?_
    rintro e w1 ⟨rfl, hk⟩
    have hk := hk.symm
    subst hk
    have hk := Kept.refl No w
    have c0 := hk.cell c0 (not_no _)
    have HK := Lib.hid hk
    clear hk
    go_wp2_with fail
    go_ret
    exact ⟨by rw [HR.out]; rfl, rfl⟩

theorem seats0 {k E : Nat} {f : Nat → Nat} {b : Nat} {w : World} (hB : B0 k E f b w) {m : Nat} (h2 : 2 * m < 2 ^ k) : Calls Tryd.prog 29 #[.pointer (some ⟨b, 0, none⟩), .int .i64 (m : Nat)] w fun e w' => e = .returned (.tuple #[.int .i64 (ent k E (2 * m)), .int .i64 (ent k E (2 * m + 1))]) ∧ w' = w := by
  have hle := hB.z.le
  have c1 := hB.size
  obtain ⟨H, hH, _⟩ := hB.z.pow
  have q0 : IntKind.i64.wrap (2 * (m : Int)) = 2 * (m : Int) := IntWalk.i64_in _ (by omega)
  have q0' : wrap64 (2 * (m : Int)) = 2 * (m : Int) := IntWalk.wrap64_in _ (by omega)
  have q1 : IntKind.i64.wrap (2 * (m : Int) + 1) = 2 * (m : Int) + 1 := IntWalk.i64_in _ (by omega)
  rw [hH] at c1
  have q2 : wrap64 (((2 * H : Nat) : Int) / 2) = H := (IntWalk.wrap64_in _ (by omega)).trans (by omega)
  have q2' : wrap64 ((2 * (H : Int)) / 2) = H := (IntWalk.wrap64_in _ (by omega)).trans (by omega)
  have hlt : decide (m < H) = true := decide_eq_true (by omega)
  have HA := Lib.hid (fun w (hB : B0 k E f b w) => (show Calls Tryd.prog 48 #[.pointer (some ⟨b, 0, none⟩), .int .i64 (2 * (m : Int))] w fun e w' => e = .returned (.int .i64 (ent k E (2 * m))) ∧ w' = w from entrant0 hB (p := 2 * m) (by omega)))
  have HC := Lib.hid (fun w (hB : B0 k E f b w) => (show Calls Tryd.prog 48 #[.pointer (some ⟨b, 0, none⟩), .int .i64 (2 * (m : Int) + 1)] w fun e w' => e = .returned (.int .i64 (ent k E (2 * m + 1))) ∧ w' = w from entrant0 hB (p := 2 * m + 1) (by omega)))
  have HB := Lib.hid hB
  clear hB hH h2 hle
  go_enter Tryd.func29, Tryd.ntmps29
  go_wp2_with fail
  refine (HA.out _ HB.out).mono ?_
  rintro e w1 ⟨rfl, hk⟩
  have hk := hk.symm
  subst hk
  have hk := Kept.refl No w
  have HB1 := Lib.hid (HB.out.to hk (not_no _))
  have HK := Lib.hid hk
  clear hk
  go_wp2_with fail
  refine (HC.out _ HB1.out).mono ?_
  rintro e w2 ⟨rfl, hk⟩
  have hk := hk.symm
  subst hk
  have hk := Kept.refl No w
  have HK2 := Lib.hid (HK.out.and hk)
  clear hk
  go_wp2_with fail
  go_ret2
  exact ⟨rfl, rfl⟩
theorem bye0 {k E : Nat} {f : Nat → Nat} {b : Nat} {w : World} (hB : B0 k E f b w) {m : Nat} (h2 : 2 * m < 2 ^ k) : Calls Tryd.prog 28 #[.pointer (some ⟨b, 0, none⟩), .int .i64 (m : Nat)] w fun e w' => e = .returned (.bool (byeF k E m)) ∧ w' = w := by
  have hle := hB.z.le
  have c1 := hB.size
  obtain ⟨H, hH, _⟩ := hB.z.pow
  rw [hH] at c1
  have q2 : wrap64 ((2 * (H : Int)) / 2) = H := (IntWalk.wrap64_in _ (by omega)).trans (by omega)
  have hbs : byeF k E m = (decide ((ent k E (2 * m), ent k E (2 * m + 1)).1 = -2) || decide ((ent k E (2 * m), ent k E (2 * m + 1)).2 = -2)) := by simp [byeF, h2]
  have hs := fun w (hB : B0 k E f b w) => seats0 hB h2
  obtain ⟨⟨x, y⟩, hxy⟩ : ∃ s, (ent k E (2 * m), ent k E (2 * m + 1)) = s := ⟨_, rfl⟩
  rw [hxy] at hbs
  have HS := Lib.hid (fun w (hB : B0 k E f b w) => (show Calls Tryd.prog 29 #[.pointer (some ⟨b, 0, none⟩), .int .i64 (m : Nat)] w fun e w' => e = .returned (.tuple #[.int .i64 x, .int .i64 y]) ∧ w' = w by have := hs w hB; obtain ⟨e1, e2⟩ := Prod.mk.inj hxy; rw [e1, e2] at this; exact this))
  clear hs
  have HB := Lib.hid hB
  have q3 : decide (H ≤ m) = false := decide_eq_false (by omega)
  obtain ⟨R, hR⟩ : ∃ R, byeF k E m = R := ⟨_, rfl⟩
  rw [hR] at hbs
  rw [hR]
  clear hB hle hH h2 hR hxy
  by_cases hx : x = -2
  · have HR := Lib.hid (show R = true by rw [hbs]; simp [hx])
    clear hbs
    go_enter Tryd.func28, Tryd.ntmps28
    go_wp2_with fail
    refine (HS.out _ HB.out).mono ?_
    rintro e w1 ⟨rfl, hk⟩
    have hk := hk.symm
    subst hk
    have hk := Kept.refl No w
    have HK := Lib.hid hk
    clear hk
    go_wp2_with fail
    go_ret
    exact ⟨by rw [HR.out]; rfl, rfl⟩
  · have q4 : (x == -2) = false := by simpa using hx
    by_cases hy : y = -2
    · have HR := Lib.hid (show R = true by rw [hbs]; simp [hy])
      clear hbs hx
      go_enter Tryd.func28, Tryd.ntmps28
      go_wp2_with fail
      refine (HS.out _ HB.out).mono ?_
      rintro e w1 ⟨rfl, hk⟩
      have hk := hk.symm
      subst hk
      have hk := Kept.refl No w
      have HK := Lib.hid hk
      clear hk
      go_wp2_with fail
      go_ret
      exact ⟨by rw [HR.out]; rfl, rfl⟩
    · have q5 : (y == -2) = false := by simpa using hy
      have HR := Lib.hid (show R = false by rw [hbs]; simp [hx, hy])
      clear hbs hx hy
      go_enter Tryd.func28, Tryd.ntmps28
      go_wp2_with fail
      refine (HS.out _ HB.out).mono ?_
      rintro e w1 ⟨rfl, hk⟩
      have hk := hk.symm
      subst hk
      have hk := Kept.refl No w
      have HK := Lib.hid hk
      clear hk
      go_wp2_with fail
      go_ret
      exact ⟨by rw [HR.out]; rfl, rfl⟩

/-- the first i matches are as in a new bracket -/
def upTo (k E i : Nat) : Nat → Nat := fun m => if m < i then freshF k E m else 0
theorem upTo_zero (k E : Nat) : upTo k E 0 = fun _ => 0 := by funext m; simp [upTo]
theorem upTo_bye {k E i : Nat} (hz : Sz k E) (h : byeF k E i = true) : upTo k E (i + 1) = upd (upTo k E i) i 1 := by
  funext m
  unfold upTo upd
  by_cases e : m = i
  · subst e; rw [if_pos (by omega), if_pos rfl, freshF_eq hz, if_pos h]
  · rw [if_neg e]
    by_cases l : m < i
    · rw [if_pos (by omega)]; exact (if_pos l).symm
    · rw [if_neg (by omega)]; exact (if_neg l).symm
theorem sz_unique {j k E : Nat} (h : Sz j E) (g : Sz k E) : j = k := by
  have a1 := h.lo
  have a2 := h.hi
  have b1 := g.lo
  have b2 := g.hi
  by_cases e : j = k
  · exact e
  · by_cases l : j < k
    · have := pow_le' (show j + 1 ≤ k by omega)
      have e : 2 ^ (j + 1) = 2 * 2 ^ j := by omega
      omega
    · have := pow_le' (show k + 1 ≤ j by omega)
      have e : 2 ^ (k + 1) = 2 * 2 ^ k := by omega
      omega
theorem upTo_not {k E i : Nat} (hz : Sz k E) (h : byeF k E i = false) : upTo k E (i + 1) = upTo k E i := by
  funext m
  unfold upTo
  by_cases e : m = i
  · subst e; rw [if_pos (by omega), if_neg (by omega), freshF_eq hz, h]; rfl
  · by_cases l : m < i
    · rw [if_pos (by omega), if_pos l]
    · rw [if_neg (by omega), if_neg l]
theorem upTo_all {k E i : Nat} (hz : Sz k E) (h : 2 * i = 2 ^ k) : upTo k E i = freshF k E := by
  funext m
  unfold upTo
  by_cases l : m < i
  · rw [if_pos l]
  · rw [if_neg l, freshF_eq hz, if_neg]
    rw [byeF_iff hz]
    omega
theorem cells_new (E : Nat) : (Tryd.zeroCells46.setIfInBounds 0 (.int .i64 (E : Nat))).setIfInBounds 1 (.int .i64 2) = (cellsB E (2 ^ 1) (fun _ => 0)).toArray := by rfl
/-- a new bracket -/
def NewPost (k E : Nat) (w0 : World) (e : Ending) (w' : World) : Prop :=
  ∃ b, e = .returned (.tuple #[.pointer (some ⟨b, 0, none⟩), .int .i64 0]) ∧ w0.heap.size ≤ b ∧ BS k E (freshF k E) b w' ∧ Kept No w0 w'

theorem new_out {E : Int} (hE : E < 2 ∨ 64 < E) (w : World) : Calls Tryd.prog 9 #[.int .i64 E] w fun e w' => e = .returned (.tuple #[.pointer none, .int .i64 2]) ∧ w' = w := by
  by_cases h1 : E < 2
  · have q1 : decide (E < 2) = true := decide_eq_true h1
    clear h1 hE
    go_enter Tryd.func9, Tryd.ntmps9
    go_wp2_with fail
    go_ret2
    exact ⟨rfl, rfl⟩
  · have q1 : decide (E < 2) = false := decide_eq_false h1
    have q2 : decide (64 < E) = true := decide_eq_true (by omega)
    clear h1 hE
    go_enter Tryd.func9, Tryd.ntmps9
    go_wp2_with fail
    go_ret2
    exact ⟨rfl, rfl⟩

set_option maxRecDepth 100000 in
theorem new_in {k E : Nat} (hz : Sz k E) (w : World) : Calls Tryd.prog 9 #[.int .i64 (E : Nat)] w (NewPost k E w) := by
  have hE2 : 2 ≤ E := by have := hz.lo; have := pow_le' hz.one; omega
  have hE64 : E ≤ 64 := by have := hz.hi; have := hz.le; omega
  have q1 : decide ((E : Int) < 2) = false := decide_eq_false (by omega)
  have q2 : decide (64 < (E : Int)) = false := decide_eq_false (by omega)
  have HE := Lib.hid (And.intro hE2 hE64)
  have HZ := Lib.hid hz
  have HCN := Lib.hid (cells_new E)
  clear hz hE2 hE64
  go_enter Tryd.func9, Tryd.ntmps9
  go_wp2_with fail
  go_loopw [] (fun wr => ∃ j : Nat, 1 ≤ j ∧ j ≤ 6 ∧ 2 ^ j < 2 * E ∧ wr.heap[w.heap.size]? = some (.cells (cellsB E (2 ^ j) (fun _ => 0)).toArray 46 (0, 0)) ∧ Kept No w wr) (fun wr => 64 - (match wr.cell? ⟨w.heap.size, 1, none⟩ with | some v => (intOf v).toNat | none => 0))
  case atStart => exact ⟨1, by decide, by decide, by have := HE.out; omega, by rw [← HCN.out]; exact heap_alloc_new w _, (Kept.refl No w).alloc _⟩
  case round =>
    obtain ⟨j, hj1, hj6, hjE, hb, hk⟩ := hrel
    have hb6 := pow_le' hj6
    have hp := Nat.one_le_two_pow (n := j)
    obtain ⟨S, hS⟩ : ∃ S, 2 ^ j = S := ⟨_, rfl⟩
    rw [hS] at hb hjE hb6 hp
    have c1 : wr.cell? ⟨w.heap.size, 1, none⟩ = some (.int .i64 (S : Nat)) := by rw [obj_cell hb 1]; rfl
    have y1 := obj_free hb 1
    have HB := Lib.hid hb
    have HK := Lib.hid hk
    have HS := Lib.hid hS
    have HJ := Lib.hid (And.intro hj1 (And.intro hj6 hjE))
    have q3 : IntKind.i64.wrap ((S : Int) * 2) = (S : Int) * 2 := IntWalk.i64_in _ (by omega)
    clear hb hk hS hj1 hj6 hjE
    by_cases hlt : S < E
    · have q4 : decide (S < E) = true := decide_eq_true hlt
      have HLT := Lib.hid hlt
      have hle : S < 64 := by have := HE.out; omega
      have HP := Lib.hid (show (wr.setCell ⟨w.heap.size, 1, none⟩ (.int .i64 ((S : Int) * 2))).heap[w.heap.size]? = some (.cells (cellsB E (2 * S) (fun _ => 0)).toArray 46 (0, 0)) by
        rw [obj_store HB.out 1 _, List.setIfInBounds_toArray, show ((S : Int) * 2) = ((2 * S : Nat) : Int) by omega]
        rfl)
      clear hlt
      go_wp2_with fail
      have hc2 := obj_cell HP.out 1
      obtain ⟨a1, a2, a3⟩ := HJ.out
      have hS2 : 2 ^ (j + 1) = 2 * S := by have := HS.out; omega
      refine ⟨⟨j + 1, by omega, ?_, by rw [hS2]; have := HLT.out; omega, by rw [hS2]; exact HP.out, HK.out.setCell (fun hk => by simp at hk) _⟩, ?_⟩
      · by_cases e : j = 6
        · rw [e] at hS2; omega
        · omega
      · rw [hc2, c1]
        show 64 - (((2 * S : Nat) : Int)).toNat < 64 - ((S : Nat) : Int).toNat
        omega
    · have q4 : decide (S < E) = false := decide_eq_false hlt
      obtain ⟨a1, a2, a3⟩ := HJ.out
      have hjk : j = k := sz_unique ⟨a1, a2, by rw [HS.out]; exact a3, by rw [HS.out]; omega⟩ HZ.out
      subst hjk
      have HB1 := Lib.hid (show B0 j E (upTo j E 0) w.heap.size wr from ⟨HZ.out, by rw [HS.out, upTo_zero]; exact HB.out⟩)
      obtain ⟨H, hH, hH1, hH2, _⟩ := HZ.out.pow
      have hSH : S = 2 * H := by have := HS.out; omega
      subst hSH
      have HH := Lib.hid hH
      have q5 : wrap64 (2 * (H : Int) / 2) = (H : Int) := (IntWalk.wrap64_in _ (by omega)).trans (by omega)
      have q4' : decide (2 * (H : Int) < (E : Int)) = false := decide_eq_false (by omega)
      clear hlt hH a1 a2 a3 hp hb6
      go_wp2_with fail
      go_loopw [35] (fun iv wz => ∃ i : Nat, iv = .int .i64 (i : Nat) ∧ i ≤ H ∧ B0 j E (upTo j E i) w.heap.size wz ∧ Kept No w wz) (fun iv _ => H - (intOf iv).toNat)
      case atStart => exact ⟨0, rfl, Nat.zero_le _, HB1.out, HK.out⟩
      case round =>
        obtain ⟨i, rfl, hi, hb, hk⟩ := hrel
        by_cases hlt : i < H
        · have q6 : decide (i < H) = true := decide_eq_true hlt
          have h2 : 2 * i < 2 ^ j := by have := HH.out; omega
          have hi63 : i < 63 := by omega
          have HBY := Lib.hid (bye0 hb h2)
          have HST := Lib.hid (seats0 hb h2)
          have ym := obj_free hb.hb (2 + i)
          have cm := hb.won (m := i) (by have := HH.out; omega)
          have HPU := Lib.hid (hb.put (m := i) (v := 1) (by have := HH.out; omega))
          have q7 : (ent j E (2 * i) == -2) = false := by have := ent_even HZ.out i; simp; omega
          have HB2 := Lib.hid hb
          have HK2 := Lib.hid hk
          have HLT := Lib.hid hlt
          clear hb hk hi hlt h2
          cases hby : byeF j E i
          · rw [hby] at HBY
            have HU := Lib.hid (upTo_not HZ.out hby)
            clear hby
            go_wp2_with fail
            refine HBY.out.mono ?_
            rintro x w1 ⟨rfl, hk⟩
            have hk := hk.symm
            subst hk
            go_wp2_with fail
            have := HLT.out
            exact ⟨⟨i + 1, by go_num, by omega, by rw [HU.out]; exact HB2.out, HK2.out⟩, by simp [intOf]; omega⟩
          · rw [hby] at HBY
            have HU := Lib.hid (upTo_bye HZ.out hby)
            clear hby
            go_wp2_with fail
            refine HBY.out.mono ?_
            rintro x w1 ⟨rfl, hk⟩
            have hk := hk.symm
            subst hk
            go_wp2_with fail
            refine HST.out.mono ?_
            rintro x w1 ⟨rfl, hk⟩
            have hk := hk.symm
            subst hk
            go_wp2_with fail
            have := HLT.out
            exact ⟨⟨i + 1, by go_num, by omega, by rw [HU.out]; exact HPU.out, HK2.out.setCell (fun hk => by simp at hk) _⟩, by simp [intOf]; omega⟩
        · have q6 : decide (i < H) = false := decide_eq_false hlt
          have hiH : i = H := by omega
          subst hiH
          rw [upTo_all HZ.out HH.out.symm] at hb
          have HB3 := Lib.hid (show BS j E (freshF j E) w.heap.size wr from ⟨HZ.out, WF.fresh HZ.out, hb.hb⟩)
          have HK2 := Lib.hid hk
          clear hb hk hi hlt
          go_wp2_with fail
          go_ret2
          exact ⟨w.heap.size, rfl, Nat.le_refl _, HB3.out, HK2.out⟩
end Go.Proofs.YtphlpclhmodekaaDoor
