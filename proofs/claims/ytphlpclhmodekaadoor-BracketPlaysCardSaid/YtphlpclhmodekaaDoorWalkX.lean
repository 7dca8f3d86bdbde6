/-
  Bracket, the document's model: text.
-/
import Derived.Test.YtphlpclhmodekaaDoorWalkW
set_option linter.unusedVariables false
set_option linter.unusedSimpArgs false
namespace Go.Proofs.YtphlpclhmodekaaDoor
open Go.RowKit Go.Zn
attribute [local go_sem] Oper.semAt_some

def dgt (n : Nat) : UInt8 := UInt8.ofNat (48 + n % 10)
/-- behind some of the digits -/
def DS (E n : Nat) (l : List UInt8) : Prop := (n = E ∧ l = []) ∨ (10 ≤ E ∧ n = E / 10 ∧ l = [dgt E]) ∨ (n = 0 ∧ l = Lib.decDigits E)
theorem DS.step {E n : Nat} {l : List UInt8} (hE : E ≤ 64) (h0 : 0 < n) (h : DS E n l) : DS E (n / 10) (dgt n :: l) := by
  rcases h with ⟨h1, h2⟩ | ⟨h1, h2, h3⟩ | ⟨h1, _⟩
  · subst h1 h2
    by_cases h10 : n < 10
    · right; right
      refine ⟨by omega, ?_⟩
      rw [Lib.decDigits_one h10]
      unfold dgt
      rw [show n % 10 = n by omega]
    · right; left
      exact ⟨by omega, rfl, rfl⟩
  · right; right
    refine ⟨by omega, ?_⟩
    rw [Lib.decDigits_two (by omega) (by omega), h3]
    unfold dgt
    rw [h2, show E / 10 % 10 = E / 10 by omega]
  · omega
theorem DS.end {E : Nat} {l : List UInt8} (hE : 2 ≤ E) (h : DS E 0 l) : l = Lib.decDigits E := by
  rcases h with ⟨h1, h2⟩ | ⟨h1, h2, h3⟩ | ⟨_, h⟩
  · omega
  · omega
  · exact h
theorem DS.len {E n : Nat} {l : List UInt8} (hE : E ≤ 64) (h : DS E n l) : l.length ≤ 2 := by
  rcases h with ⟨h1, h2⟩ | ⟨h1, h2, h3⟩ | ⟨_, h⟩
  · rw [h2]; simp
  · rw [h3]; simp
  · rw [h]; exact dec_len E (by omega)
theorem dgt_val (n : Nat) : (((dgt n).toNat : Nat) : Int) = 48 + (n : Int) % 10 := by
  unfold dgt
  rw [UInt8.toNat_ofNat']
  omega
def TXD (k E : Nat) (f : Nat → Nat) (g r cap : Nat) (w0 : World) (ov nv : Value) (wr : World) : Prop :=
  ∃ (n : Nat) (l : List UInt8) (s : ByteArray), nv = .int .i64 (n : Nat) ∧ ov = .string s ∧ s = strOf l ∧ DS E n l ∧ n ≤ 64 ∧ MS k E f g r cap wr ∧ Kept No w0 wr
def TXC (k E : Nat) (f : Nat → Nat) (g r cap S : Nat) (w0 : World) (ov iv : Value) (wr : World) : Prop :=
  ∃ (j : Nat) (s : ByteArray), iv = .int .i64 (j : Nat) ∧ j + 1 ≤ S ∧ ov = .string s ∧ s = strOf (Lib.decDigits E ++ [58] ++ chsF k E f j) ∧ MS k E f g r cap wr ∧ Kept No w0 wr
set_option maxRecDepth 100000 in
set_option maxHeartbeats 8000000 in
theorem textM_any {k E : Nat} {f : Nat → Nat} {g r cap : Nat} {w : World} (hM : MS k E f g r cap w) (hwf : WF k E f) : Calls Tryd.prog 25 #[.pointer (some ⟨g, 0, none⟩)] w fun e w' => e = .returned (.string (strOf (textF k E f))) ∧ Kept No w w' := by
  have hE2 : 2 ≤ E := by have := hM.z.lo; have := pow_le' hM.z.one; omega
  have hE64 : E ≤ 64 := by have := hM.z.hi; have := hM.z.le; omega
  have hle := hM.z.le
  have HBY := Lib.hid (fun w (hM : MS k E f g r cap w) m (hm : m + 1 < 2 ^ k) => byeM_any hM hwf hm)
  have HWN := Lib.hid (fun w (hM : MS k E f g r cap w) m (hm : m + 1 < 2 ^ k) => hM.won m hm)
  have HF := Lib.hid hM.le
  have hp := Nat.one_le_two_pow (n := k)
  obtain ⟨S, hS⟩ : ∃ S, 2 ^ k = S := ⟨_, rfl⟩
  have HRW := Lib.hid (fun w (hM : MS k E f g r cap w) => (show w.cell? ⟨g, 2, none⟩ = some (.slice (some ⟨r, 0, none⟩) (S - 1) cap) by rw [← hS]; exact hM.row))
  have htx : textF k E f = Lib.decDigits E ++ [58] ++ chsF k E f (S - 1) := by unfold textF; rw [hS]
  rw [hS] at hle hp HBY HWN
  have HTX := Lib.hid htx
  have HM := Lib.hid hM
  have c0 := hM.ent
  have HE := Lib.hid (And.intro hE2 hE64)
  clear hM hwf hS htx
  go_enter Tryd.func25, Tryd.ntmps25
  go_wp2_with fail
  go_loopw [3, 4] (fun ov nv wr => TXD k E f g r cap w ov nv wr) (fun _ nv _ => (intOf nv).toNat)
  case atStart => exact ⟨E, [], _, rfl, rfl, rfl, .inl ⟨rfl, rfl⟩, hE64, HM.out, Kept.refl No w⟩
  case round =>
    obtain ⟨n, l, s, rfl, rfl, hs, hd, hn64, hm, hk⟩ := hrel
    have HD := Lib.hid hd
    have HMR := Lib.hid hm
    have HK := Lib.hid hk
    have hsz : s.size ≤ 2 := by rw [hs, strOf_size]; exact hd.len hE64
    have HSS := Lib.hid hs
    clear hd hm hk hs
    by_cases h0 : 0 < n
    · have d1 : decide (0 < n) = true := decide_eq_true h0
      have d1' : decide (0 < (n : Int)) = true := decide_eq_true (by omega)
      have H0 := Lib.hid h0
      have q1 : wrap64 ((n : Int) / 10) = (n : Int) / 10 := IntWalk.wrap64_in _ (by omega)
      have q2 : IntKind.i64.wrap (48 + (n : Int) % 10) = 48 + (n : Int) % 10 := IntWalk.i64_in _ (by omega)
      have hl2 := HD.out.len hE64
      have hT : (convert 22 9 (.slice (some ⟨wr.heap.size, 0, none⟩) 1 1)).run Tryd.prog (wr.alloc (.cells #[.int .u8 (48 + (n : Int) % 10)] 5)) = .ok (.string (strOf [dgt n])) (wr.alloc (.cells #[.int .u8 (48 + (n : Int) % 10)] 5)) :=
        run_string_rd Tryd.underlying22 Tryd.underlying5 Tryd.underlying9 (l := [dgt n]) (by
          have := rd_new1 wr (.int .u8 (48 + (n : Int) % 10)) 5
          rw [← dgt_val n] at this ⊢
          exact this)
      have ht1 : (strOf [dgt n]).size ≤ 1 := by rw [strOf_size]; simp
      have HAP := Lib.hid (show strOf [dgt n] ++ s = strOf (dgt n :: l) by rw [HSS.out, strOf_app]; rfl)
      obtain ⟨T, hTT⟩ : ∃ T, strOf [dgt n] = T := ⟨_, rfl⟩
      rw [hTT] at hT ht1 HAP
      have HDN := Lib.hid (HD.out.step hE64 h0)
      clear h0 hTT
      go_wp2_with fail
      have h0 := H0.out
      exact ⟨⟨n / 10, dgt n :: l, _, by go_num, rfl, HAP.out, HDN.out, by omega, HMR.out.no ((Kept.refl No wr).alloc _), HK.out.alloc _⟩, by simp [intOf]; omega⟩
    · have hn0 : n = 0 := by omega
      subst hn0
      have hl := HD.out.end HE.out.1
      have HST := Lib.hid (show s ++ { data := #[58] } = strOf (Lib.decDigits E ++ [58] ++ chsF k E f 0) by
        rw [HSS.out, hl, show ({ data := #[58] } : ByteArray) = strOf [58] from rfl, strOf_app]
        simp [chsF])
      clear h0 hl hn64
      go_wp2_with fail
      go_loopw [3, 5] (fun ov iv wz => TXC k E f g r cap S w ov iv wz) (fun _ iv _ => S - (intOf iv).toNat)
      case atStart => exact ⟨0, _, rfl, by omega, rfl, HST.out, HMR.out, HK.out⟩
      case round =>
        clear HST HSS hsz
        obtain ⟨j, s2, rfl, hj, rfl, hs, hm, hk⟩ := hrel
        have hsz : s2.size ≤ 100 := by
          have := dec_len E (by omega)
          rw [hs, strOf_size]
          simp only [List.length_append, List.length_cons, List.length_nil, chsF_len]
          omega
        have HSS := Lib.hid hs
        have HMR := Lib.hid hm
        have HK := Lib.hid hk
        have cr := HRW.out _ hm
        clear hs hm hk
        by_cases hlt : j + 1 < S
        · have d1 : decide (j < S - 1) = true := decide_eq_true (by omega)
          have d1' : decide ((j : Int) < ((S - 1 : Nat) : Int)) = true := decide_eq_true (by omega)
          have q4 : IntKind.i64.wrap ((j : Int) + 1) = (j : Int) + 1 := IntWalk.i64_in _ (by omega)
          have hb0 : (0 : Int) ≤ (j : Int) := by omega
          have hb1 : (j : Int) < ((S - 1 : Nat) : Int) := by omega
          have hb2 : j < S - 1 := by omega
          have HJ := Lib.hid hlt
          clear hlt hj
          cases hby : byeF k E j
          · have HC := Lib.hid (show Calls Tryd.prog 46 #[.pointer (some ⟨g, 0, none⟩), .int .i64 (j : Nat)] wr fun e w' => e = .returned (.bool false) ∧ Kept No wr w' from hby ▸ HBY.out wr HMR.out j HJ.out)
            have hfj := HF.out j
            have HBYE := Lib.hid hby
            obtain ⟨d, hd⟩ : ∃ d, f j = d := ⟨_, rfl⟩
            rw [hd] at hfj
            have HD := Lib.hid hd
            clear hby hd
            obtain rfl | rfl | rfl : d = 0 ∨ d = 1 ∨ d = 2 := by omega
            · have HCH := Lib.hid (show chF k E f j = 46 by unfold chF; rw [HBYE.out, HD.out]; rfl)
              go_wp2_with fail
              refine HC.out.mono ?_
              rintro e w1 ⟨rfl, hk⟩
              have HM1 := Lib.hid (HMR.out.no hk)
              have HK1 := Lib.hid (HK.out.and hk)
              have cr1 := HRW.out _ HM1.out
              have cm := HWN.out _ HM1.out j HJ.out
              rw [HD.out] at cm
              clear hk
              have HREL := Lib.hid (show TXC k E f g r cap S w (.string (s2 ++ { data := #[46] })) (.int .i64 ((j + 1 : Nat) : Int)) w1 from ⟨j + 1, _, rfl, by have := HJ.out; omega, rfl, by rw [HSS.out, show ({ data := #[46] } : ByteArray) = strOf [46] from rfl, strOf_app, chsF_succ, HCH.out, List.append_assoc], HM1.out, HK1.out⟩)
              go_wp2_with fail
              have hj := HJ.out
              go_roundw
              case rel => first | exact HREL.out | ((repeat apply Exists.intro); exact ⟨HREL.out, rfl⟩)
              case measure => simp [intOf]; omega
            · have HCH := Lib.hid (show chF k E f j = 48 by unfold chF; rw [HBYE.out, HD.out]; rfl)
              go_wp2_with fail
              refine HC.out.mono ?_
              rintro e w1 ⟨rfl, hk⟩
              have HM1 := Lib.hid (HMR.out.no hk)
              have HK1 := Lib.hid (HK.out.and hk)
              have cr1 := HRW.out _ HM1.out
              have cm := HWN.out _ HM1.out j HJ.out
              rw [HD.out] at cm
              clear hk
              have HREL := Lib.hid (show TXC k E f g r cap S w (.string (s2 ++ { data := #[48] })) (.int .i64 ((j + 1 : Nat) : Int)) w1 from ⟨j + 1, _, rfl, by have := HJ.out; omega, rfl, by rw [HSS.out, show ({ data := #[48] } : ByteArray) = strOf [48] from rfl, strOf_app, chsF_succ, HCH.out, List.append_assoc], HM1.out, HK1.out⟩)
              go_wp2_with fail
              have hj := HJ.out
              go_roundw
              case rel => first | exact HREL.out | ((repeat apply Exists.intro); exact ⟨HREL.out, rfl⟩)
              case measure => simp [intOf]; omega
            · have HCH := Lib.hid (show chF k E f j = 49 by unfold chF; rw [HBYE.out, HD.out]; rfl)
              go_wp2_with fail
              refine HC.out.mono ?_
              rintro e w1 ⟨rfl, hk⟩
              have HM1 := Lib.hid (HMR.out.no hk)
              have HK1 := Lib.hid (HK.out.and hk)
              have cr1 := HRW.out _ HM1.out
              have cm := HWN.out _ HM1.out j HJ.out
              rw [HD.out] at cm
              clear hk
              have HREL := Lib.hid (show TXC k E f g r cap S w (.string (s2 ++ { data := #[49] })) (.int .i64 ((j + 1 : Nat) : Int)) w1 from ⟨j + 1, _, rfl, by have := HJ.out; omega, rfl, by rw [HSS.out, show ({ data := #[49] } : ByteArray) = strOf [49] from rfl, strOf_app, chsF_succ, HCH.out, List.append_assoc], HM1.out, HK1.out⟩)
              go_wp2_with fail
              have hj := HJ.out
              go_roundw
              case rel => first | exact HREL.out | ((repeat apply Exists.intro); exact ⟨HREL.out, rfl⟩)
              case measure => simp [intOf]; omega
          · have HC := Lib.hid (show Calls Tryd.prog 46 #[.pointer (some ⟨g, 0, none⟩), .int .i64 (j : Nat)] wr fun e w' => e = .returned (.bool true) ∧ Kept No wr w' from hby ▸ HBY.out wr HMR.out j HJ.out)
            have HCH := Lib.hid (show chF k E f j = 45 by unfold chF; rw [hby]; rfl)
            clear hby
            go_wp2_with fail
            refine HC.out.mono ?_
            rintro e w1 ⟨rfl, hk⟩
            have HM1 := Lib.hid (HMR.out.no hk)
            have HK1 := Lib.hid (HK.out.and hk)
            have cr1 := HRW.out _ HM1.out
            clear hk
            have HREL := Lib.hid (show TXC k E f g r cap S w (.string (s2 ++ { data := #[45] })) (.int .i64 ((j + 1 : Nat) : Int)) w1 from ⟨j + 1, _, rfl, by have := HJ.out; omega, rfl, by rw [HSS.out, show ({ data := #[45] } : ByteArray) = strOf [45] from rfl, strOf_app, chsF_succ, HCH.out, List.append_assoc], HM1.out, HK1.out⟩)
            go_wp2_with fail
            have hj := HJ.out
            go_roundw
            case rel => first | exact HREL.out | ((repeat apply Exists.intro); exact ⟨HREL.out, rfl⟩)
            case measure => simp [intOf]; omega
        · have d1 : decide (j < S - 1) = false := decide_eq_false (by omega)
          have d1' : decide ((j : Int) < ((S - 1 : Nat) : Int)) = false := decide_eq_false (by omega)
          have hjS : j = S - 1 := by omega
          have HJ := Lib.hid hjS
          clear hlt hj hjS
          go_wp2_with fail
          go_ret
          exact ⟨by rw [HTX.out, ← HJ.out, ← HSS.out]; rfl, HK.out⟩
end Go.Proofs.YtphlpclhmodekaaDoor
