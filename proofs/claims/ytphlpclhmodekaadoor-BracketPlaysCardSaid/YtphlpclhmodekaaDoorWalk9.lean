/-
  Bracket: the walk of BracketPlays.
-/
import Derived.Test.YtphlpclhmodekaaDoorWalk8
import Derived.Deep.RegionHeld3
set_option linter.unusedVariables false
set_option linter.unusedSimpArgs false
namespace Go.Proofs.YtphlpclhmodekaaDoor
open Go.RowKit Go.Zn
attribute [local go_sem] Oper.semAt_some

/-- the calls that come in -/
def Acts (w : World) (v : Value) (L : Nat) (X : Nat → Int × Int × Int) : Prop :=
  (L = 0 ∧ ∃ ad cap, v = .slice ad 0 cap) ∨ ∃ b off cap, v = .slice (some ⟨b, off, none⟩) L cap ∧ ∀ i, i < L →
    w.cell? ⟨b, off + i * 3, none⟩ = some (.int .i64 (X i).1) ∧ w.cell? ⟨b, off + i * 3 + 1, none⟩ = some (.int .i64 (X i).2.1) ∧ w.cell? ⟨b, off + i * 3 + 2, none⟩ = some (.int .i64 (X i).2.2)
theorem Acts.slice {w : World} {v : Value} {L : Nat} {X : Nat → Int × Int × Int} (h : Acts w v L X) : ∃ ad cap, v = .slice ad L cap := by
  obtain ⟨rfl, ad, cap, rfl⟩ | ⟨b, off, cap, rfl, _⟩ := h
  · exact ⟨_, _, rfl⟩
  · exact ⟨_, _, rfl⟩
theorem Acts.at {w w' : World} {v : Value} {L j : Nat} {X : Nat → Int × Int × Int} (h : Acts w v L X) (hk : Kept No w w') (hj : j < L) :
    ∃ b off cap x y z, v = .slice (some ⟨b, off, none⟩) L cap ∧ w'.cell? ⟨b, off + j * 3, none⟩ = some (.int .i64 x) ∧ w'.cell? ⟨b, off + j * 3 + 1, none⟩ = some (.int .i64 y) ∧ w'.cell? ⟨b, off + j * 3 + 2, none⟩ = some (.int .i64 z) := by
  rcases h with ⟨h, _⟩ | ⟨b, off, cap, rfl, hx⟩
  · omega
  · obtain ⟨h1, h2, h3⟩ := hx j hj
    exact ⟨b, off, cap, _, _, _, rfl, hk.cell h1 (not_no _), hk.cell h2 (not_no _), hk.cell h3 (not_no _)⟩
theorem plays_out {E : Int} {n : Nat} {ad : Option Addr} {cap : Nat} (h : E < 2 ∨ 20 < E ∨ 60 < n) (w : World) : Calls Tryd.prog 7 #[.int .i64 E, .slice ad n cap] w fun e w' => e = .returned (.bool true) ∧ Kept No w w' := by
  have HKN := Lib.hid (known_any w)
  by_cases h1 : E < 2
  · have q1 : decide (E < 2) = true := decide_eq_true h1
    clear h1 h
    go_enter Tryd.func7, Tryd.ntmps7
    go_wp2_with fail
    refine HKN.out.mono ?_
    rintro e w1 ⟨rfl, hk⟩
    have HK := Lib.hid hk
    clear hk
    go_wp2_with fail
    go_ret
    exact ⟨rfl, HK.out⟩
  · have q1 : decide (E < 2) = false := decide_eq_false h1
    by_cases h2 : 20 < E
    · have q2 : decide (20 < E) = true := decide_eq_true h2
      clear h1 h h2
      go_enter Tryd.func7, Tryd.ntmps7
      go_wp2_with fail
      refine HKN.out.mono ?_
      rintro e w1 ⟨rfl, hk⟩
      have HK := Lib.hid hk
      clear hk
      go_wp2_with fail
      go_ret
      exact ⟨rfl, HK.out⟩
    · have q2 : decide (20 < E) = false := decide_eq_false h2
      have q3 : decide (60 < n) = true := decide_eq_true (by omega)
      have q3' : decide ((60 : Int) < (n : Int)) = true := decide_eq_true (by omega)
      clear h1 h h2
      go_enter Tryd.func7, Tryd.ntmps7
      go_wp2_with fail
      refine HKN.out.mono ?_
      rintro e w1 ⟨rfl, hk⟩
      have HK := Lib.hid hk
      clear hk
      go_wp2_with fail
      go_ret
      exact ⟨rfl, HK.out⟩
/-- in a run -/
structure RS (k E : Nat) (f : Nat → Nat) (b g r cap : Nat) (w0 w : World) : Prop where
  bm : AS k E f b g r cap w
  lob : w0.heap.size ≤ b
  lor : w0.heap.size ≤ r
  kept : Kept No w0 w
theorem RS.no {k E : Nat} {f : Nat → Nat} {b g r cap : Nat} {w0 w w' : World} (h : RS k E f b g r cap w0 w) (hk : Kept No w w') : RS k E f b g r cap w0 w' := ⟨h.bm.no hk, h.lob, h.lor, h.kept.and hk⟩
def PlRel (k E g r cap L : Nat) (w0 : World) (bv iv : Value) (wr : World) : Prop :=
  ∃ (i b : Nat) (f : Nat → Nat), bv = .pointer (some ⟨b, 0, none⟩) ∧ iv = .int .i64 (i : Nat) ∧ i ≤ L ∧ RS k E f b g r cap w0 wr
def PlStep (k E g r cap : Nat) (w0 : World) (e : Ending) (w' : World) : Prop :=
  ∃ f b, e = .returned (.tuple #[.pointer (some ⟨b, 0, none⟩), .bool true]) ∧ RS k E f b g r cap w0 w'
theorem RS.step {k E : Nat} {f : Nat → Nat} {b g r cap : Nat} {w0 w : World} (h : RS k E f b g r cap w0 w) (hE : Errs w0) (x y z : Int) : Calls Tryd.prog 26 #[.pointer (some ⟨b, 0, none⟩), .pointer (some ⟨g, 0, none⟩), .agg #[.int .i64 x, .int .i64 y, .int .i64 z]] w (PlStep k E g r cap w0) :=
  (step_any h.bm (hE.no h.kept) x y z).mono fun e w' ⟨f', b', he, ha, hk, hb⟩ => ⟨f', b', he, ⟨ha, by have := h.lob; have := h.kept.size; omega, h.lor, h.kept.new hk fun i hi => by have := h.lob; have := h.lor; omega⟩⟩
set_option maxHeartbeats 4000000 in
theorem plays_in {k E : Nat} (hz : Sz k E) (hE20 : E ≤ 20) {L : Nat} (hL : L ≤ 60) {v : Value} {X : Nat → Int × Int × Int} {w : World} (hE : Errs w) (harg : Acts w v L X) : Calls Tryd.prog 7 #[.int .i64 (E : Nat), v] w fun e w' => e = .returned (.bool true) ∧ Kept No w w' := by
  obtain ⟨ad, cap0, rfl⟩ := harg.slice
  have hE2 := hz.e64.1
  have q1 : decide ((E : Int) < 2) = false := decide_eq_false (by omega)
  have q2 : decide (20 < (E : Int)) = false := decide_eq_false (by omega)
  have q3 : decide (60 < L) = false := decide_eq_false (by omega)
  have q3' : decide ((60 : Int) < (L : Int)) = false := decide_eq_false (by omega)
  have HN := Lib.hid (new_in hz w)
  have HF := Lib.hid (fun w => fresh_any hz w)
  have HE := Lib.hid hE
  have HA := Lib.hid harg
  have HL := Lib.hid hL
  clear hz hE20 hE2 hL hE harg
  go_enter Tryd.func7, Tryd.ntmps7
  go_wp2_with fail
  refine HN.out.mono ?_
  rintro e w1 ⟨b, rfl, hwb, hb, hk⟩
  have HB1 := Lib.hid hb
  have HK1 := Lib.hid hk
  have HWB := Lib.hid hwb
  clear hb hk hwb
  go_wp2_with fail
  refine (HF.out _).mono ?_
  rintro e w2 ⟨g, r, cap, rfl, hg, hr, hms, hk⟩
  have HR2 := Lib.hid (show RS k E (freshF k E) b g r cap w w2 from ⟨⟨HB1.out.to hk (not_no _), hms⟩, HWB.out, by have := HK1.out.size; omega, HK1.out.and hk⟩)
  clear hg hr hms hk
  go_wp2_with fail
  go_loopw [5, 8] (fun bv iv wr => PlRel k E g r cap L w bv iv wr) (fun _ iv _ => L - (intOf iv).toNat)
  case atStart => exact ⟨0, b, _, rfl, rfl, Nat.zero_le _, HR2.out⟩
  case round =>
    clear HR2 HB1 HK1 HWB
    obtain ⟨j, b3, f3, rfl, rfl, hj, hr3⟩ := hrel
    have HR3 := Lib.hid hr3
    have HJ := Lib.hid hj
    have hjL : (j : Int) ≤ 60 := by have := HL.out; omega
    clear hr3 hj
    by_cases hlt : j < L
    · have d3 : decide (j < L) = true := decide_eq_true hlt
      have d3' : decide ((j : Int) < (L : Int)) = true := decide_eq_true (by omega)
      obtain ⟨ab, off, cap', x, y, z, hv, g1, g2, g3⟩ := HA.out.at HR3.out.kept hlt
      cases hv
      have HLT := Lib.hid hlt
      have hjn : (0 : Int) ≤ (j : Int) := by omega
      have hjl : (j : Int) < (L : Int) := by omega
      have q4 : IntKind.i64.wrap ((j : Int) + 1) = (j : Int) + 1 := IntWalk.i64_in _ (by omega)
      clear hlt
      go_wp2_with fail
      refine (HR3.out.step HE.out x y z).mono ?_
      rintro e w4 ⟨f4, b4, rfl, hr4⟩
      have HR4 := Lib.hid hr4
      clear hr4 g1 g2 g3
      go_wp2_with fail
      refine (alike_any HR4.out.bm).mono ?_
      rintro e w5 ⟨rfl, hk⟩
      have HR5 := Lib.hid (HR4.out.no hk)
      clear hk
      go_wp2_with fail
      have q1 := HLT.out
      exact ⟨⟨j + 1, b4, f4, rfl, by go_num, by omega, HR5.out⟩, by simp [intOf]; omega⟩
    · have d3 : decide (j < L) = false := decide_eq_false hlt
      have d3' : decide ((j : Int) < (L : Int)) = false := decide_eq_false (by omega)
      clear hlt
      go_wp2_with fail
      refine (known_any _).mono ?_
      rintro e w' ⟨rfl, hk⟩
      have HK := Lib.hid (HR3.out.kept.and hk)
      clear hk
      go_wp2_with fail
      go_ret
      exact ⟨rfl, HK.out⟩
end Go.Proofs.YtphlpclhmodekaaDoor
