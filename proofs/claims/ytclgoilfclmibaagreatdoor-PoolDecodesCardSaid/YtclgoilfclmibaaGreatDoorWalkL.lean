/-
  Pool: which strings may be names.
-/
import Derived.Test.YtclgoilfclmibaaGreatDoorWalkK
import Derived.Test.YtclgoilfclmibaaGreatDoorShelf
import Derived.Lib.ConvBytes
set_option linter.unusedVariables false
set_option linter.unusedSimpArgs false
namespace Go.Proofs.YtclgoilfclmibaaGreatDoor
open Go.RowKit Go.Zn
attribute [local go_sem] Oper.semAt_some

theorem kept_bytes (w : World) (e : TypeId) (s : ByteArray) : Kept No w (Lib.bytesWorld w e s) :=
  ⟨rfl, rfl, rfl, by rw [Lib.bytesWorld_size]; omega, fun k hk _ => Lib.bytesWorld_at_old w e s k hk⟩
theorem strOf_size (l : List UInt8) : (strOf l).size = l.length := by simp [strOf, ByteArray.size]
theorem strOf_list (l : List UInt8) : (strOf l).data.toList = l := by simp [strOf]
theorem strOf_toList (l : List UInt8) : (strOf l).toList = l := by rw [ByteArray.toList_eq]; exact strOf_list l
theorem trim_any {l : List UInt8} (hl : l.length ≤ 1000000) (w : World) : Calls Tryz.prog 71 #[.string (strOf l), .string { data := #[32] }] w fun e w' => e = .returned (.string (strOf (Lib.trimB l 32))) ∧ Kept No w w' := by
  have hsz := strOf_size l
  refine (Tryz.strings_Trim_one (strOf l) 32 (by decide) w (by omega)).mono fun e w' ⟨he, hw⟩ => ⟨he.trans (by rw [strOf_list]; rfl), ?_⟩
  rcases hw with rfl | rfl
  · exact Kept.refl No _
  · exact (Kept.refl No _).drew
def okB (b : UInt8) : Bool := decide (32 ≤ b.toNat) && decide (b.toNat ≤ 126)
def namedB (l : List UInt8) : Bool := inB l.length 1 32 && (Lib.trimB l 32 == l) && l.all okB
def NmRel (l : List UInt8) (w0 : World) (iv : Value) (wr : World) : Prop := ∃ i : Nat, iv = .int .i64 (i : Nat) ∧ i ≤ l.length ∧ (l.take i).all okB = true ∧ wr = w0
theorem all_no {l : List UInt8} {i : Nat} {b : UInt8} (hi : l[i]? = some b) (h : okB b = false) : l.all okB = false := by
  rw [List.all_eq_false]
  exact ⟨b, List.mem_of_getElem? hi, by simp [h]⟩
set_option maxRecDepth 100000 in
theorem named_any {l : List UInt8} (hl : l.length ≤ 1000000) (w : World) : Calls Tryz.prog 49 #[.string (strOf l)] w fun x w' => x = .returned (.bool (namedB l)) ∧ Kept No w w' := by
  have hsz := strOf_size l
  have hR : namedB l = (inB l.length 1 32 && (Lib.trimB l 32 == l) && l.all okB) := rfl
  have HW := Lib.hid (fun w' => cwithin_any (l.length : Nat) 1 32 w')
  have HT := Lib.hid (fun w' => trim_any hl w')
  have HK0 := Lib.hid (Kept.refl No w)
  obtain ⟨b1, h1⟩ : ∃ b, inB l.length 1 32 = b := ⟨_, rfl⟩
  rw [h1] at hR HW
  cases b1
  · have HR := Lib.hid hR
    clear hR h1
    go_enter Tryz.func49, Tryz.ntmps49
    go_wp2_with fail
    refine (HW.out _).mono ?_
    rintro x w1 ⟨rfl, rfl⟩
    go_wp2_with fail
    go_ret
    exact ⟨by rw [HR.out]; rfl, HK0.out⟩
  have hle : l.length ≤ 32 := by
    have : decide ((l.length : Int) ≤ 32) = true := by
      unfold inB at h1
      exact (Bool.and_eq_true _ _ ▸ h1 : _ ∧ _).2
    have := of_decide_eq_true this
    omega
  by_cases h2 : Lib.trimB l 32 = l
  case neg =>
    have e5 : ((strOf (Lib.trimB l 32)).toList == (strOf l).toList) = false := by rw [strOf_toList, strOf_toList, beq_eq_false_iff_ne]; exact h2
    have HR := Lib.hid (show namedB l = false by rw [hR, show (Lib.trimB l 32 == l) = false from by rw [beq_eq_false_iff_ne]; exact h2]; rfl)
    clear hR h1 h2 hle
    go_enter Tryz.func49, Tryz.ntmps49
    go_wp2_with fail
    refine (HW.out _).mono ?_
    rintro x w1 ⟨rfl, rfl⟩
    go_wp2_with fail
    refine (HT.out _).mono ?_
    rintro x w1 ⟨rfl, hk⟩
    have HK := Lib.hid hk
    clear hk
    go_wp2_with fail
    go_ret
    exact ⟨by rw [HR.out]; rfl, HK.out⟩
  have e5 : ((strOf (Lib.trimB l 32)).toList == (strOf l).toList) = true := by rw [h2]; simp
  have HR := Lib.hid (show namedB l = l.all okB by rw [hR, h2]; simp)
  clear hR h1 h2
  have HCV := Lib.hid fun w' => Lib.run_convert_string_bytes (P := Tryz.prog) w' 9 51 5 (strOf l) (u := .string) Tryz.underlying9 Tryz.underlying51 Tryz.underlying5
  go_enter Tryz.func49, Tryz.ntmps49
  go_wp2_with fail
  refine (HW.out _).mono ?_
  rintro x w1 ⟨rfl, rfl⟩
  go_wp2_with fail
  refine (HT.out _).mono ?_
  rintro x w1 ⟨rfl, hk⟩
  have hk5 := hk.and (kept_bytes w1 5 (strOf l))
  have HC := Lib.hid (fun (j : Nat) (hj : j < l.length) => Lib.bytesWorld_cell w1 5 (strOf l) j (by omega))
  have hcv := HCV.out w1
  obtain ⟨w5, hw5⟩ : ∃ w5, Lib.bytesWorld w1 5 (strOf l) = w5 := ⟨_, rfl⟩
  obtain ⟨g, hg⟩ : ∃ g, w1.heap.size = g := ⟨_, rfl⟩
  obtain ⟨cp, hcp⟩ : ∃ c, grownCap w1 (strOf l).size 0 5 = c := ⟨_, rfl⟩
  rw [hw5, hg, hcp] at hcv
  rw [hw5] at hk5 HC
  rw [hg] at HC
  have HK5 := Lib.hid hk5
  clear hk hk5 hw5 hg hcp
  obtain ⟨n, hn⟩ : ∃ n, l.length = n := ⟨_, rfl⟩
  have HN := Lib.hid hn
  rw [hn] at hsz hle
  rw [hsz] at hcv
  clear hn hl
  go_wp2_with fail
  go_loopw [18] (fun iv wr => NmRel l w5 iv wr) (fun iv _ => n - (intOf iv).toNat)
  case atStart => exact ⟨0, rfl, Nat.zero_le _, rfl, rfl⟩
  case round =>
    obtain ⟨i, rfl, hi, hf, rfl⟩ := hrel
    rw [HN.out] at hi
    have HF := Lib.hid hf
    by_cases hlt : i < n
    · have hil : i < l.length := by rw [HN.out]; exact hlt
      obtain ⟨b, hb⟩ : ∃ b, l[i]? = some b := ⟨_, List.getElem?_eq_getElem hil⟩
      have c0 : wr.cell? ⟨g, i, none⟩ = some (.int .u8 (b.toNat : Nat)) := by
        have := HC.out i hil
        rw [strOf_list, List.getD_eq_getElem?_getD, hb] at this
        exact this
      have HT2 := Lib.hid (show l.take (i + 1) = l.take i ++ [b] by rw [List.take_add_one, hb]; rfl)
      have HNO := Lib.hid (fun h => all_no hb h)
      have hbl := b.toNat_lt
      have hok : okB b = (decide (32 ≤ b.toNat) && decide (b.toNat ≤ 126)) := rfl
      obtain ⟨y, hy⟩ : ∃ y, b.toNat = y := ⟨_, rfl⟩
      rw [hy] at c0 hbl hok
      have d1 : decide (i < n) = true := decide_eq_true hlt
      have hi0 : (0 : Int) ≤ (i : Int) := by omega
      have hin : (i : Int) < (n : Int) := by omega
      have q4 : IntKind.i64.wrap ((i : Int) + 1) = (i : Int) + 1 := IntWalk.i64_in _ (by omega)
      have HI := Lib.hid hlt
      clear hf hlt hil hb hy
      by_cases h1 : y < 32
      · have d2 : decide (y < 32) = true := decide_eq_true h1
        have d2' : decide ((y : Int) < 32) = true := decide_eq_true (by omega)
        have HO := Lib.hid (HNO.out (by rw [hok, decide_eq_false (show ¬ 32 ≤ y by omega)]; rfl))
        clear hok h1
        go_wp2_with fail
        go_ret
        exact ⟨by rw [HR.out, HO.out]; rfl, HK5.out⟩
      · have d2 : decide (y < 32) = false := decide_eq_false h1
        have d2' : decide ((y : Int) < 32) = false := decide_eq_false (by omega)
        by_cases h3 : 126 < y
        · have d3 : decide (126 < y) = true := decide_eq_true h3
          have d3' : decide (126 < (y : Int)) = true := decide_eq_true (by omega)
          have HO := Lib.hid (HNO.out (by rw [hok, decide_eq_false (show ¬ y ≤ 126 by omega)]; simp))
          clear hok h1 h3
          go_wp2_with fail
          go_ret
          exact ⟨by rw [HR.out, HO.out]; rfl, HK5.out⟩
        · have d3 : decide (126 < y) = false := decide_eq_false h3
          have d3' : decide (126 < (y : Int)) = false := decide_eq_false (by omega)
          have HO := Lib.hid (show (l.take (i + 1)).all okB = true by
            rw [HT2.out, List.all_append, HF.out, List.all_cons, hok, decide_eq_true (show 32 ≤ y by omega), decide_eq_true (show y ≤ 126 by omega)]; rfl)
          clear hok h1 h3
          go_wp2_with fail
          have hI := HI.out
          exact ⟨⟨i + 1, by go_num, by rw [HN.out]; omega, HO.out, rfl⟩, by simp [intOf]; omega⟩
    · have d1 : decide (i < n) = false := decide_eq_false hlt
      have HO := Lib.hid (show l.all okB = true by
        have := HF.out
        rw [List.take_of_length_le (by rw [HN.out]; omega)] at this
        exact this)
      clear hf hlt
      go_wp2_with fail
      go_ret
      exact ⟨by rw [HR.out, HO.out]; rfl, HK5.out⟩
end Go.Proofs.YtclgoilfclmibaaGreatDoor
