/-
  Pool: sums of bytes, numbers as bytes and back.
-/
import Derived.Test.YtclgoilfclmibaaDoorPe
import Derived.Laws.BitsAllLaws
set_option linter.unusedVariables false
set_option linter.unusedSimpArgs false
namespace Go.Proofs.YtclgoilfclmibaaDoor
open Go Go.RowKit Go.Zn
attribute [local go_sem] Oper.semAt_some

theorem u32_mod (n : Int) : IntKind.u32.wrap n = n % 4294967296 := IntKind.wrap_u32' n
theorem sumS_snoc (n : Nat) (b : List UInt8) (x : UInt8) : sumS n (b ++ [x]) = (31 * sumS n b + x.toNat) % 4294967296 := by rw [sumS_app]; rfl
def SumRel (l : List UInt8) (w : World) (nv iv : Value) (wr : World) : Prop := ∃ i : Nat, iv = .int .i64 (i : Nat) ∧ i ≤ l.length ∧ nv = .int .u32 (sumF (l.take i) : Nat) ∧ wr = w
set_option maxRecDepth 100000 in
theorem psum_any {l : List UInt8} (hl : l.length ≤ 1000000) {w : World} {B : Nat → Prop} {v : Value} (hv : Rd w B 1 v l.length (bts l)) : Calls Tryd.prog 21 #[v] w fun e w' => e = .returned (.int .u32 (sumF l : Nat)) ∧ w' = w := by
  obtain ⟨ad, cap, rfl⟩ := rd_slice hv
  obtain ⟨n, hn⟩ : ∃ n, l.length = n := ⟨_, rfl⟩
  have HN := Lib.hid hn
  have HV := Lib.hid hv
  rw [hn] at hl ⊢
  rw [hn] at HV
  clear hv hn
  go_enter Tryd.func21, Tryd.ntmps21
  go_wp2_with fail
  go_loopw [3, 8] (fun nv iv wr => SumRel l w nv iv wr) (fun _ iv _ => n - (intOf iv).toNat)
  case atStart => exact ⟨0, rfl, Nat.zero_le _, rfl, rfl⟩
  case round =>
    obtain ⟨i, rfl, hi, rfl, rfl⟩ := hrel
    rw [HN.out] at hi
    by_cases hlt : i < n
    · have hil : i < l.length := by rw [HN.out]; exact hlt
      obtain ⟨_, _, ⟨_, h0⟩ | ⟨b, off, c1, he, _, _, hc⟩⟩ := HV.out
      · omega
      have g1 : wr.cell? ⟨b, off + i, none⟩ = some (.int .u8 (l[i]).toNat) := hc i _ (by rw [bts_get, List.getElem?_eq_getElem hil]; rfl)
      cases he
      have HT := Lib.hid (show sumF (l.take (i + 1)) = (31 * sumF (l.take i) + (l[i]).toNat) % 4294967296 by rw [List.take_add_one, List.getElem?_eq_getElem hil]; exact sumS_snoc _ _ _)
      have hx := (l[i]).toNat_lt
      obtain ⟨x, hxx⟩ : ∃ x, (l[i]).toNat = x := ⟨_, rfl⟩
      have hs := sumF_lt (l.take i)
      obtain ⟨s, hss⟩ : ∃ s, sumF (l.take i) = s := ⟨_, rfl⟩
      rw [hxx] at g1 HT hx
      rw [hss] at HT hs ⊢
      have d1 : decide (i < n) = true := decide_eq_true hlt
      have hi0 : (0 : Int) ≤ (i : Int) := by omega
      have hin : (i : Int) < (n : Int) := by omega
      have q4 : IntKind.i64.wrap ((i : Int) + 1) = (i : Int) + 1 := IntWalk.i64_in _ (by omega)
      have q5 : (x : Int) % 4294967296 = (x : Int) := by omega
      have HI := Lib.hid hlt
      clear hlt hc hxx hss hil hs
      go_wp2_with fail
      have hI := HI.out
      refine ⟨⟨i + 1, by go_num, by rw [HN.out]; omega, ?_, rfl⟩, by simp [intOf]; omega⟩
      rw [HT.out]
      congr 1
      try simp only [u32_mod]
      omega
    · have d1 : decide (i < n) = false := decide_eq_false hlt
      have HR := Lib.hid (show l.take i = l from List.take_of_length_le (by rw [HN.out]; omega))
      clear hlt
      go_wp2_with fail
      go_ret
      exact ⟨by rw [HR.out]; rfl, rfl⟩
theorem or_low {n x : Nat} (hx : x < 256) : (n * 256) ||| x = n * 256 + x := nat_join 8 _ _ (by omega) (by omega)
theorem getF_snoc (b : List UInt8) (x : UInt8) : getF (b ++ [x]) = getF b * 256 + x.toNat := by unfold getF; rw [List.foldl_append]; rfl
theorem getF_lt : ∀ (b : List UInt8) (k : Nat), b.length ≤ k → getF b < 256 ^ k := by
  intro b k h
  have : ∀ (b : List UInt8) (a m : Nat), a < m → b.foldl (fun n x => n * 256 + x.toNat) a < m * 256 ^ b.length := by
    intro b
    induction b with
    | nil => intro a m h; simpa using h
    | cons x b ih =>
      intro a m h
      have hx := x.toNat_lt
      have := ih (a * 256 + x.toNat) (m * 256) (by omega)
      rw [List.length_cons, Nat.pow_succ, Nat.mul_comm (256 ^ b.length) 256, ← Nat.mul_assoc]
      exact this
  have h1 := this b 0 1 (by decide)
  rw [Nat.one_mul] at h1
  exact Nat.lt_of_lt_of_le h1 (Nat.pow_le_pow_right (by decide) h)
def GetRel (l : List UInt8) (w : World) (nv iv : Value) (wr : World) : Prop := ∃ i : Nat, iv = .int .i64 (i : Nat) ∧ i ≤ l.length ∧ nv = .int .u32 (getF (l.take i) : Nat) ∧ wr = w
set_option maxRecDepth 100000 in
theorem get_any {l : List UInt8} (hl : l.length ≤ 4) {w : World} {B : Nat → Prop} {v : Value} (hv : Rd w B 1 v l.length (bts l)) : Calls Tryd.prog 34 #[v] w fun e w' => e = .returned (.int .u32 (getF l : Nat)) ∧ w' = w := by
  obtain ⟨ad, cap, rfl⟩ := rd_slice hv
  obtain ⟨n, hn⟩ : ∃ n, l.length = n := ⟨_, rfl⟩
  have HN := Lib.hid hn
  have HV := Lib.hid hv
  rw [hn] at hl ⊢
  rw [hn] at HV
  clear hv hn
  go_enter Tryd.func34, Tryd.ntmps34
  go_wp2_with fail
  go_loopw [3, 8] (fun nv iv wr => GetRel l w nv iv wr) (fun _ iv _ => n - (intOf iv).toNat)
  case atStart => exact ⟨0, rfl, Nat.zero_le _, rfl, rfl⟩
  case round =>
    obtain ⟨i, rfl, hi, rfl, rfl⟩ := hrel
    rw [HN.out] at hi
    by_cases hlt : i < n
    · have hil : i < l.length := by rw [HN.out]; exact hlt
      obtain ⟨_, _, ⟨_, h0⟩ | ⟨b, off, c1, he, _, _, hc⟩⟩ := HV.out
      · omega
      have g1 : wr.cell? ⟨b, off + i, none⟩ = some (.int .u8 (l[i]).toNat) := hc i _ (by rw [bts_get, List.getElem?_eq_getElem hil]; rfl)
      cases he
      have HT := Lib.hid (show getF (l.take (i + 1)) = getF (l.take i) * 256 + (l[i]).toNat by rw [List.take_add_one, List.getElem?_eq_getElem hil]; exact getF_snoc _ _)
      have hx := (l[i]).toNat_lt
      obtain ⟨x, hxx⟩ : ∃ x, (l[i]).toNat = x := ⟨_, rfl⟩
      have hs := getF_lt (l.take i) 3 (by rw [List.length_take]; omega)
      obtain ⟨s, hss⟩ : ∃ s, getF (l.take i) = s := ⟨_, rfl⟩
      rw [hxx] at g1 HT hx
      rw [hss] at HT hs ⊢
      have d1 : decide (i < n) = true := decide_eq_true hlt
      have hi0 : (0 : Int) ≤ (i : Int) := by omega
      have hin : (i : Int) < (n : Int) := by omega
      have q4 : IntKind.i64.wrap ((i : Int) + 1) = (i : Int) + 1 := IntWalk.i64_in _ (by omega)
      have HO := Lib.hid (show bits .or .u32 ((s : Int) * 256) (x : Int) = ((s * 256 + x : Nat) : Int) by
        rw [show ((s : Int) * 256) = ((s * 256 : Nat) : Int) by omega, u32_or_nat _ _ (by omega) (by omega), or_low hx])
      have HI := Lib.hid hlt
      have HS := Lib.hid hs
      clear hlt hc hxx hss hil hs
      go_wp2_with fail
      have hI := HI.out
      refine ⟨⟨i + 1, by go_num, by rw [HN.out]; omega, ?_, rfl⟩, by simp [intOf]; omega⟩
      rw [HT.out]
      congr 1
      have hs3 := HS.out
      rw [show (s : Int) * 256 % 4294967296 = (s : Int) * 256 by omega]
      exact HO.out
    · have d1 : decide (i < n) = false := decide_eq_false hlt
      have HR := Lib.hid (show l.take i = l from List.take_of_length_le (by rw [HN.out]; omega))
      clear hlt
      go_wp2_with fail
      go_ret
      exact ⟨by rw [HR.out]; rfl, rfl⟩
end Go.Proofs.YtclgoilfclmibaaDoor
