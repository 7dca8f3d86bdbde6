/-
  Pool: the document's sums of bytes and words of four bytes.
-/
import Derived.Test.YtclgoilfclmibaaDoorSa
set_option linter.unusedVariables false
set_option linter.unusedSimpArgs false
namespace Go.Proofs.YtclgoilfclmibaaDoor
open Go Go.RowKit Go.Zn
attribute [local go_sem] Oper.semAt_some

def RSumRel (l : List UInt8) (w : World) (nv iv : Value) (wr : World) : Prop := ∃ i : Nat, iv = .int .i64 (i : Nat) ∧ i ≤ l.length ∧ nv = .int .u64 (sumF (l.take i) : Nat) ∧ wr = w
set_option maxRecDepth 100000 in
theorem rsum_any {l : List UInt8} (hl : l.length ≤ 1000000) {w : World} {B : Nat → Prop} {v : Value} (hv : Rd w B 1 v l.length (bts l)) : Calls Tryd.prog 24 #[v] w fun e w' => e = .returned (.int .u32 (sumF l : Nat)) ∧ w' = w := by
  obtain ⟨ad, cap, rfl⟩ := rd_slice hv
  obtain ⟨n, hn⟩ : ∃ n, l.length = n := ⟨_, rfl⟩
  have HN := Lib.hid hn
  have HV := Lib.hid hv
  rw [hn] at hl ⊢
  rw [hn] at HV
  clear hv hn
  go_enter Tryd.func24, Tryd.ntmps24
  go_wp2_with fail
  go_loopw [3, 4] (fun nv iv wr => RSumRel l w nv iv wr) (fun _ iv _ => n - (intOf iv).toNat)
  case atStart => exact ⟨0, rfl, Nat.zero_le _, rfl, rfl⟩
  case round =>
    obtain ⟨i, rfl, hi, rfl, rfl⟩ := hrel
    rw [HN.out] at hi
    by_cases hlt : i < n
    · have hil : i < l.length := by rw [HN.out]; exact hlt
      obtain ⟨_, _, ⟨_, h0⟩ | ⟨b, off, c1, he, _, _, hc⟩⟩ := HV.out
      · omega
      have g1 : wr.cell? ⟨b, off + i, none⟩ = some (.int .u8 (l[i]).toNat) := hc i _ (by rw [bts_get, List.getElem?_eq_getElem hil]; rfl)
      cases he
      have HT := Lib.hid (show sumF (l.take (i + 1)) = (31 * sumF (l.take i) + (l[i]).toNat) % 4294967296 by rw [List.take_add_one, List.getElem?_eq_getElem hil]; exact sumS_snoc _ _ _)
      have hx := (l[i]).toNat_lt
      obtain ⟨x, hxx⟩ : ∃ x, (l[i]).toNat = x := ⟨_, rfl⟩
      have hs := sumF_lt (l.take i)
      obtain ⟨s, hss⟩ : ∃ s, sumF (l.take i) = s := ⟨_, rfl⟩
      rw [hxx] at g1 HT hx
      rw [hss] at HT hs ⊢
      have d1 : decide (i < n) = true := decide_eq_true hlt
      have hi0 : (0 : Int) ≤ (i : Int) := by omega
      have hin : (i : Int) < (n : Int) := by omega
      have q4 : IntKind.i64.wrap ((i : Int) + 1) = (i : Int) + 1 := IntWalk.i64_in _ (by omega)
      have q5 : IntKind.u64.wrap (x : Int) = (x : Int) := by exact IntWalk.u64_in _ (by omega)
      have q6 : IntKind.u64.wrap (31 * (s : Int)) = 31 * (s : Int) := by exact IntWalk.u64_in _ (by omega)
      have q7 : IntKind.u64.wrap (31 * (s : Int) + (x : Int)) = 31 * (s : Int) + (x : Int) := by exact IntWalk.u64_in _ (by omega)
      have HI := Lib.hid hlt
      clear hlt hc hxx hss hil hs
      go_wp2_with fail
      have hI := HI.out
      refine ⟨⟨i + 1, by go_num, by rw [HN.out]; omega, ?_, rfl⟩, by simp [intOf]; omega⟩
      rw [HT.out]
      congr 1
    · have d1 : decide (i < n) = false := decide_eq_false hlt
      have HR := Lib.hid (show l.take i = l from List.take_of_length_le (by rw [HN.out]; omega))
      have hsl := sumF_lt (l.take i)
      obtain ⟨s, hss⟩ : ∃ s, sumF (l.take i) = s := ⟨_, rfl⟩
      have HS := Lib.hid hss
      rw [hss] at hsl ⊢
      have q5 : IntKind.u32.wrap (s : Int) = (s : Int) := by rw [u32_mod]; omega
      clear hlt hss hsl
      go_wp2_with fail
      go_ret
      exact ⟨by rw [← HS.out, HR.out]; rfl, rfl⟩
theorem own_b4 (w : World) {x y z u : Int} {b0 b1 b2 b3 : UInt8} (h0 : x = (b0.toNat : Int)) (h1 : y = (b1.toNat : Int)) (h2 : z = (b2.toNat : Int)) (h3 : u = (b3.toNat : Int)) {base : Nat} (hb : base ≤ w.heap.size) : BRow (w.alloc (.cells #[.int .u8 x, .int .u8 y, .int .u8 z, .int .u8 u] 5)) base (.slice (some ⟨w.heap.size, 0, none⟩) 4 4) [b0, b1, b2, b3] := by
  subst h0 h1 h2 h3
  exact ⟨rfl, .inr ⟨w.heap.size, 4, _, rfl, hb, heap_alloc_new w _, Nat.le_refl _, by simp [maxLen], rfl, rfl⟩⟩
theorem own_b2 (w : World) {x y : Int} {b0 b1 : UInt8} (h0 : x = (b0.toNat : Int)) (h1 : y = (b1.toNat : Int)) {base : Nat} (hb : base ≤ w.heap.size) : BRow (w.alloc (.cells #[.int .u8 x, .int .u8 y] 5)) base (.slice (some ⟨w.heap.size, 0, none⟩) 2 2) [b0, b1] := by
  subst h0 h1
  exact ⟨rfl, .inr ⟨w.heap.size, 2, _, rfl, hb, heap_alloc_new w _, Nat.le_refl _, by simp [maxLen], rfl, rfl⟩⟩
set_option maxRecDepth 100000 in
theorem rword_any {n : Nat} (hn : n < 4294967296) (w : World) : Calls Tryd.prog 23 #[.int .u32 (n : Nat)] w (RowPost (be4 n) w) := by
  have HN := Lib.hid hn
  clear hn
  go_enter Tryd.func23, Tryd.ntmps23
  go_wp2_with fail
  go_ret
  have h := HN.out
  refine ⟨_, rfl, own_b4 w ?_ ?_ ?_ ?_ (Nat.le_refl _), (Kept.refl No w).alloc _⟩
  all_goals
    rw [bt_nat] <;> omega
end Go.Proofs.YtclgoilfclmibaaDoor
