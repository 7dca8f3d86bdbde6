/-
  Bracket: what BracketHolds carries.
-/
import Derived.Test.YtphlpclhmodekaaDoorWalkM
import Derived.Test.YtphlpclhmodekaaDoorLh
set_option linter.unusedVariables false
set_option linter.unusedSimpArgs false
namespace Go.Proofs.YtphlpclhmodekaaDoor
open Go.RowKit Go.Zn
attribute [local go_sem] Oper.semAt_some

theorem undo_ok {k E : Nat} {f : Nat → Nat} {b : Nat} {w : World} (hB : BS k E f b w) {m : Nat} (hm : m + 1 < 2 ^ k) (hby : byeF k E m = false) (hf : f m ≠ 0) (hx : f (nextF k m) = 0) : Calls Tryd.prog 14 #[.pointer (some ⟨b, 0, none⟩), .int .i64 (m : Nat)] w fun e w' => e = .returned (.int .i64 0) ∧ BS k E (upd f m 0) b w' ∧ Kept (fun i => i = b) w w' := by
  by_cases hl : m + 2 < 2 ^ k
  · exact undo_next hB hm hby hf hl hx
  · exact undo_last hB hm hby hf hl
/-- two brackets: b of any reports, c where the better one wins -/
structure HS (k E : Nat) (f g : Nat → Nat) (b c : Nat) (w0 w : World) : Prop where
  bs : BS k E f b w
  bg : BS k E g c w
  best : Best k E g
  ne : b ≠ c
  lob : w0.heap.size ≤ b
  loc : w0.heap.size ≤ c
  kept : Kept No w0 w
theorem HS.to {k E : Nat} {f g : Nat → Nat} {b c : Nat} {w0 w w' : World} (h : HS k E f g b c w0 w) (hk : Kept No w w') : HS k E f g b c w0 w' :=
  ⟨h.bs.to hk (not_no _), h.bg.to hk (not_no _), h.best, h.ne, h.lob, h.loc, h.kept.and hk⟩
theorem HS.repb {k E : Nat} {f g f' : Nat → Nat} {b c : Nat} {w0 w w' : World} (h : HS k E f g b c w0 w) (hb : BS k E f' b w') (hk : Kept (fun i => i = b) w w') : HS k E f' g b c w0 w' :=
  ⟨hb, h.bg.to hk (fun e => h.ne e.symm), h.best, h.ne, h.lob, h.loc, h.kept.new hk fun i e => by rw [e]; exact h.lob⟩
theorem HS.repc {k E : Nat} {f g g' : Nat → Nat} {b c : Nat} {w0 w w' : World} (h : HS k E f g b c w0 w) (hb : BS k E g' c w') (hg : Best k E g') (hk : Kept (fun i => i = c) w w') : HS k E f g' b c w0 w' :=
  ⟨h.bs.to hk (fun e => h.ne e), hb, hg, h.ne, h.lob, h.loc, h.kept.new hk fun i e => by rw [e]; exact h.loc⟩
def HRel (k E b c : Nat) (w0 : World) (iv : Value) (wr : World) : Prop :=
  ∃ (i : Nat) (f g : Nat → Nat), iv = .int .i64 (i : Nat) ∧ i + 1 ≤ E ∧ cntF f (2 ^ k - 1) + i + 1 = E ∧ cntF g (2 ^ k - 1) + i + 1 = E ∧ HS k E f g b c w0 wr
/-- the cells of a list that was made -/
theorem list_cells {l : List Nat} {w0 w : World} {v : Value} (h : Rd w (fun i => w0.heap.size ≤ i) 1 v l.length (ints l)) (h0 : l ≠ []) : ∃ q off cap, v = .slice (some ⟨q, off, none⟩) l.length cap ∧ ∀ j x, l[j]? = some x → w.cell? ⟨q, off + j, none⟩ = some (.int .i64 (x : Nat)) := by
  rw [ints_eq] at h
  obtain ⟨q, off, cap, hv, _, hx⟩ := rd_cells (l := l.map fun (j : Nat) => (j : Int)) (by simpa using h) (by simpa using h0)
  exact ⟨q, off, cap, by simpa using hv, fun j x hj => hx j x (by simp [hj])⟩
theorem bytes_cells {w : World} {B : Nat → Prop} {v : Value} {l : List UInt8} (h : Rd w B 1 v l.length (bts l)) (h0 : l ≠ []) : ∃ q off cap, v = .slice (some ⟨q, off, none⟩) l.length cap ∧ ∀ j x, l[j]? = some x → w.cell? ⟨q, off + j, none⟩ = some (.int .u8 (x.toNat : Nat)) := by
  obtain ⟨_, hm, h3⟩ := h
  rcases h3 with ⟨_, hn⟩ | ⟨q, off, cap, hv, hc, hb, hx⟩
  · exact (h0 (List.eq_nil_of_length_eq_zero hn)).elim
  · refine ⟨q, off, cap, hv, fun j x hj => hx j _ ?_⟩
    rw [bts_get, hj]
    rfl

set_option maxRecDepth 100000 in
theorem holds_out {E : Int} {pv : Value} {n : Nat} {ad : Option Addr} {cap : Nat} (hpv : pv = .slice ad n cap) (h : E < 2 ∨ 64 < E ∨ 64 < n) (w : World) : Calls Tryd.prog 3 #[.int .i64 E, pv] w fun e w' => e = .returned (.bool true) ∧ Kept No w w' := by
  subst hpv
  have HKN := Lib.hid (known_any w)
  by_cases h1 : E < 2
  · have q1 : decide (E < 2) = true := decide_eq_true h1
    clear h1 h
    go_enter Tryd.func3, Tryd.ntmps3
    go_wp2_with fail
    refine HKN.out.mono ?_
    rintro e w1 ⟨rfl, hk⟩
    have HK := Lib.hid hk
    clear hk
    go_wp2_with fail
    go_ret
    exact ⟨rfl, HK.out⟩
  · have q1 : decide (E < 2) = false := decide_eq_false h1
    by_cases h2 : 64 < E
    · have q2 : decide (64 < E) = true := decide_eq_true h2
      clear h1 h2 h
      go_enter Tryd.func3, Tryd.ntmps3
      go_wp2_with fail
      refine HKN.out.mono ?_
      rintro e w1 ⟨rfl, hk⟩
      have HK := Lib.hid hk
      clear hk
      go_wp2_with fail
      go_ret
      exact ⟨rfl, HK.out⟩
    · have q2 : decide (64 < E) = false := decide_eq_false h2
      have q3 : decide (64 < (n : Int)) = true := decide_eq_true (by omega)
      have q3' : decide (64 < n) = true := decide_eq_true (by omega)
      clear h1 h2 h
      go_enter Tryd.func3, Tryd.ntmps3
      go_wp2_with fail
      refine HKN.out.mono ?_
      rintro e w1 ⟨rfl, hk⟩
      have HK := Lib.hid hk
      clear hk
      go_wp2_with fail
      go_ret
      exact ⟨rfl, HK.out⟩
end Go.Proofs.YtphlpclhmodekaaDoor
