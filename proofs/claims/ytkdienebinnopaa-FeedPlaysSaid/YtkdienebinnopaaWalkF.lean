/-
  The reference: Same, Since, Range, Ack.
-/
import Derived.Test.YtkdienebinnopaaWalkE
namespace Go.Proofs.Ytkdienebinnopaa
open Go.RowKit Go.Zn

/-- Events that read. -/
def REv (w : World) (B : Nat → Prop) (v : Value) (l : List (Nat × List UInt8)) : Prop :=
  ∃ ds : List Value, ds.length = l.length ∧ Rd w B 2 v l.length (evc l ds) ∧ ∀ (i : Nat) (e : Nat × List UInt8) (d : Value), l[i]? = some e → ds[i]? = some d → Rd w B 1 d e.2.length (bts e.2)
theorem REv.kept {S B : Nat → Prop} {w w' : World} {v : Value} {l : List (Nat × List UInt8)} (h : REv w B v l) (hk : Kept S w w') (hB : ∀ b, b < w.heap.size → B b → ¬ S b) : REv w' B v l := by
  obtain ⟨ds, h1, h2, h3⟩ := h
  exact ⟨ds, h1, h2.kept hk hB, fun i e d hi hd => (h3 i e d hi hd).kept hk hB⟩
theorem REv.mono {B C : Nat → Prop} {w : World} {v : Value} {l : List (Nat × List UInt8)} (h : REv w B v l) (hB : ∀ b, b < w.heap.size → B b → C b) : REv w C v l := by
  obtain ⟨ds, h1, h2, h3⟩ := h
  exact ⟨ds, h1, h2.mono hB, fun i e d hi hd => (h3 i e d hi hd).mono hB⟩
theorem EvsOwn.rd {w : World} {base : Nat} {v : Value} {l : List (Nat × List UInt8)} (h : EvsOwn w base v l) : REv w (fun k => base ≤ k) v l := by
  obtain ⟨ds, h1, h2, h3⟩ := h
  exact ⟨ds, h1, rd_owned h2, fun i e d hi hd => rd_owned (h3 i e d hi hd)⟩
theorem REv.slice {w : World} {B : Nat → Prop} {v : Value} {l : List (Nat × List UInt8)} (h : REv w B v l) : ∃ ad cap, v = .slice ad l.length cap := by
  obtain ⟨ds, h1, h2, h3⟩ := h
  exact rd_slice h2
/-- one event of them: its cells -/
theorem REv.at {w : World} {B : Nat → Prop} {ad : Option Addr} {n cap : Nat} {l : List (Nat × List UInt8)} (h : REv w B (.slice ad n cap) l) {i : Nat} (hi : i < l.length) :
    ∃ (b off : Nat) (e : Nat × List UInt8) (dd : Option Addr) (dc : Nat), ad = some ⟨b, off, none⟩ ∧ l[i]? = some e ∧ w.cell? ⟨b, off + i * 2, none⟩ = some (.int .u32 (e.1 : Nat)) ∧ w.cell? ⟨b, off + i * 2 + 1, none⟩ = some (.slice dd e.2.length dc) ∧ Rd w B 1 (.slice dd e.2.length dc) e.2.length (bts e.2) := by
  obtain ⟨ds, h1, ⟨hl, hm, hv⟩, h3⟩ := h
  rcases hv with ⟨hv, hn⟩ | ⟨b, off, cap', hv, hc, hb, hcell⟩
  · omega
  · cases hv
    have e1 := List.getElem?_eq_getElem hi
    have e2 := List.getElem?_eq_getElem (show i < ds.length by omega)
    obtain ⟨g1, g2⟩ := evc_get l ds i _ _ e1 e2
    have hr := h3 i _ _ e1 e2
    obtain ⟨dd, dc, hd⟩ := rd_slice hr
    refine ⟨b, off, l[i], dd, dc, rfl, e1, ?_, ?_, by rw [← hd]; exact hr⟩
    · have := hcell _ _ g1; rwa [Nat.mul_comm 2 i] at this
    · have := hcell _ _ g2; rw [hd] at this; rwa [Nat.mul_comm 2 i, ← Nat.add_assoc] at this

def SameRel (n : Nat) (w : World) (i : Value) (wr : World) : Prop := ∃ j q : Nat, i = .int .i64 j ∧ j ≤ n ∧ wr = w.drewN q
set_option maxRecDepth 100000 in
set_option maxHeartbeats 800000 in
theorem same_any (w : World) (B C : Nat → Prop) (v v' : Value) (l : List (Nat × List UInt8)) (h : REv w B v l) (h' : REv w C v' l) (hlen : l.length ≤ 4000000000) :
    Calls Try.prog 26 #[v, v'] w fun e w' => e = .returned (.bool true) ∧ ∃ q, w' = w.drewN q := by
  obtain ⟨ad, cap, rfl⟩ := h.slice
  obtain ⟨ad', cap', rfl⟩ := h'.slice
  obtain ⟨n, hn⟩ : ∃ n, l.length = n := ⟨_, rfl⟩
  rw [hn] at h h' ⊢
  have H := Lib.hid h
  have H' := Lib.hid h'
  have HN := Lib.hid hn
  have hne : (n != n) = false := by simp
  have hn9 : (n : Int) ≤ 4000000000 := by omega
  clear h h' hn
  go_enter Try.func26, Try.ntmps26
  go_wp2
  go_loopw [5] (fun i wr => SameRel n w i wr) (fun i _ => n - (intOf i).toNat)
  case atStart => exact ⟨0, 0, rfl, Nat.zero_le _, rfl⟩
  case round =>
    obtain ⟨j, q, rfl, hj, rfl⟩ := hrel
    by_cases hlt : j < n
    · have hd : decide (j < n) = true := by simp; exact hlt
      obtain ⟨b, off, e, dd, dc, rfl, hle, hc1, hc2, hr⟩ := H.out.at (i := j) (by rw [HN.out]; exact hlt)
      obtain ⟨b', off', e', dd', dc', rfl, hle', hc1', hc2', hr'⟩ := H'.out.at (i := j) (by rw [HN.out]; exact hlt)
      rw [hle] at hle'
      obtain rfl : e = e' := by cases hle'; rfl
      have hcv := fun q => run_string_rd Try.underlying36 Try.underlying5 Try.underlying9 (hr.drewN q)
      have hcv' := fun q => run_string_rd Try.underlying36 Try.underlying5 Try.underlying9 (hr'.drewN q)
      have hj0 : (0 : Int) ≤ (j : Int) := by omega
      have hj1 : (j : Int) < (n : Int) := by omega
      have HJ := Lib.hid hlt
      clear hle hle' hr hr' hlt hj
      go_wp2
      go_quiet (fail)
      go_wp2
      exact ⟨⟨j + 1, q + nq, by go_num, HJ.out, rfl⟩, by have := HJ.out; simp [intOf]; omega⟩
    · have hd : decide (j < n) = false := by simp; omega
      clear hlt
      go_wp2
      go_ret
      exact ⟨rfl, _, rfl⟩

/-- a reference's feed, as a value -/
def refV (most : Int) (kv : Value) (last acked lost : Nat) : Value := .agg #[.int .i64 most, kv, .int .u32 last, .int .u32 acked, .int .u32 lost]
def firstOf (l : List (Nat × List UInt8)) : Nat := match l with | [] => 0 | e :: _ => e.1
set_option maxHeartbeats 800000 in
theorem rrange_any (w : World) (B : Nat → Prop) (most : Int) (kv : Value) (last acked lost : Nat) (l : List (Nat × List UInt8)) (h : REv w B kv l) (hlen : l.length ≤ 4000000000) :
    Calls Try.prog 25 #[refV most kv last acked lost] w fun e w' => e = .returned (.tuple #[.int .u32 (firstOf l), .int .u32 last]) ∧ Kept No w w' := by
  obtain ⟨ad, cap, rfl⟩ := h.slice
  unfold refV
  match l, h with
  | [], h =>
    clear h hlen
    go_enter Try.func25, Try.ntmps25
    go_wp2
    go_quiet (fail)
    go_wp2
    go_ret2
    exact ⟨rfl, ((Kept.refl No w).alloc _).drewN _⟩
  | e :: r, h =>
    obtain ⟨b, off, e', dd, dc, rfl, hle, hc1, hc2, hr⟩ := h.at (i := 0) (by simp)
    obtain rfl : e = e' := by simpa using hle
    have hlt := World.block_lt_of_cell? w _ hc1
    simp only [Nat.zero_mul, Nat.add_zero] at hc1
    have hn : ((((e :: r).length : Nat) : Int) == 0) = false := by rw [beq_eq_false_iff_ne]; simp; omega
    obtain ⟨n, hne⟩ : ∃ n, (e :: r).length = n := ⟨_, rfl⟩
    rw [hne] at hn hlen ⊢
    have hn0 : (0 : Int) < (n : Int) := by have := hne; simp at this; omega
    clear hle hr h hne hc2
    have hfe : firstOf (e :: r) = e.1 := rfl
    rw [hfe]
    clear hfe
    have hn9 : (n : Int) ≤ 4000000000 := by omega
    go_enter Try.func25, Try.ntmps25
    go_wp2
    go_quiet (fail)
    go_wp2
    go_ret2
    exact ⟨rfl, ((Kept.refl No w).alloc _).drewN _⟩
end Go.Proofs.Ytkdienebinnopaa
