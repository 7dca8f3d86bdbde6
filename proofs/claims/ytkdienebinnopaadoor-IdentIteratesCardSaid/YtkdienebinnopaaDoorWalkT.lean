/-
  IdentIterates: the states between the rounds.
-/
import Derived.Test.YtkdienebinnopaaDoorWalkS
namespace Go.Proofs.YtkdienebinnopaaDoor
open Go.RowKit Go.Zn Go.Shelf
attribute [local go_sem] Oper.semAt_some

/-- the acts' loop: the ids' pointer lies in the box B7 -/
structure IT (w : World) (b tb n : Nat) (t : Nat → Bool) (v : Value) (B7 : Nat) (m : Int) (wr : World) : Prop where
  ps : PS w b tb n t v wr
  b3 : B3 wr w.heap.size (n : Nat) m false
  b7 : wr.heap[B7]? = some (.cells #[.pointer (some ⟨b, 0, none⟩)] 24 (0, 0))
  ne : w.heap.size + 2 < B7
theorem ids_tb {w : World} {b tb n : Nat} {t : Nat → Bool} (h : Ids w b tb n t) {k : Nat} {cs : Array Value} {ty : TypeId} {fz : Nat × Nat} (hk : w.heap[k]? = some (.cells cs ty fz)) (hne : ty ≠ 58) : tb ≠ k := by
  obtain ⟨cs', h6, _⟩ := h.ws
  rintro rfl
  rw [hk] at h6
  cases h6
  exact hne rfl
theorem ids_b {w : World} {b tb n : Nat} {t : Nat → Bool} (h : Ids w b tb n t) {k : Nat} {cs : Array Value} {ty : TypeId} {fz : Nat × Nat} (hk : w.heap[k]? = some (.cells cs ty fz)) (hne : ty ≠ 54) : b ≠ k := by
  obtain ⟨c, _, h6⟩ := h.obj
  rintro rfl
  rw [hk] at h6
  cases h6
  exact hne rfl
theorem rf_ne {w : World} {B : Nat → Prop} {v : Value} {n : Nat} {t : Nat → Bool} (h : Rf w B v n t) {k : Nat} {a : Option Addr} {ty : TypeId} {fz : Nat × Nat} (hk : w.heap[k]? = some (.cells #[.pointer a] ty fz)) : Rf w (fun i => B i ∧ i ≠ k) v n t := by
  obtain ⟨h1, h2, h3 | ⟨b, off, cap, hv, hc, hb, hx⟩⟩ := h
  · exact ⟨h1, h2, .inl h3⟩
  · refine ⟨h1, h2, .inr ⟨b, off, cap, hv, hc, fun h0 => ⟨hb h0, ?_⟩, hx⟩⟩
    rintro rfl
    have hn : 0 < n := by rw [bls_length] at h0; exact h0
    have e := hx 0 _ (bls_get t n 0 hn)
    rw [obj_cell hk] at e
    cases off with
    | zero => simp at e
    | succ o => simp at e
theorem IT.bk {w : World} {b tb n : Nat} {t : Nat → Bool} {v : Value} {B7 : Nat} {m : Int} {wr w1 : World} (h : IT w b tb n t v B7 m wr) (hk : Kept (Bk tb) wr w1) : B3 w1 w.heap.size (n : Nat) m false ∧ w1.heap[B7]? = some (.cells #[.pointer (some ⟨b, 0, none⟩)] 24 (0, 0)) := by
  have i := h.ps.st.ids
  exact ⟨h.b3.kept hk ⟨fun e => ids_tb i h.b3.h0 (by decide) e.symm, fun e => ids_tb i h.b3.h1 (by decide) e.symm, fun e => ids_tb i h.b3.h2 (by decide) e.symm⟩, hk.obj h.b7 (fun e => ids_tb i h.b7 (by decide) e.symm)⟩
theorem IT.put {w : World} {b b2 tb2 n : Nat} {t2 : Nat → Bool} {v2 : Value} {B7 : Nat} {m : Int} {w1 : World} (h3 : B3 w1 w.heap.size (n : Nat) m false) (h7 : w1.heap[B7]? = some (.cells #[.pointer (some ⟨b, 0, none⟩)] 24 (0, 0))) (hne : w.heap.size + 2 < B7) (hp : PS w b2 tb2 n t2 v2 w1) :
    IT w b2 tb2 n t2 v2 B7 m (w1.setCell ⟨B7, 0, none⟩ (.pointer (some ⟨b2, 0, none⟩))) := by
  have hk : Kept (fun i => i = B7) w1 (w1.setCell ⟨B7, 0, none⟩ (.pointer (some ⟨b2, 0, none⟩))) := (Kept.refl (fun i => i = B7) w1).setCell (p := ⟨B7, 0, none⟩) (fun _ => rfl) _
  refine ⟨⟨hp.st.off hk (ids_b hp.st.ids h7 (by decide)) (ids_tb hp.st.ids h7 (by decide)) (by omega), ?_⟩, h3.kept hk ⟨by omega, by omega, by omega⟩, obj_store h7 0 _, hne⟩
  exact (Rd.kept (rf_ne hp.rf h7) hk (fun i _ e h => e.2 h)).mono (fun i _ e => e.1)
def IRel (w : World) (n L B7 : Nat) (m : Int) (v i : Value) (wr : World) : Prop := ∃ (j b tb : Nat) (t : Nat → Bool), i = .int .i64 (j : Nat) ∧ j ≤ L ∧ IT w b tb n t v B7 m wr
/-- the state before and between the rounds of the two loops -/
structure JT (w : World) (b tb n B7 B13 bx N0 : Nat) (m : Int) (l : List Nat) (v13 vx : Value) (wr : World) : Prop where
  st : ∃ t, St w b tb n t wr
  b3 : B3 wr w.heap.size (n : Nat) m false
  b7 : wr.heap[B7]? = some (.cells #[.pointer (some ⟨b, 0, none⟩)] 24 (0, 0))
  b13 : wr.heap[B13]? = some (.cells #[v13] 22 (0, 0))
  cx : wr.cell? ⟨bx, 0, none⟩ = some vx
  r13 : Rd wr (fun i => i ≠ tb ∧ i < N0) 1 v13 l.length (ints l)
  rx : Rd wr (fun i => i ≠ tb ∧ i < N0) 1 vx l.length (ints l)
  ord : w.heap.size + 2 < B7 ∧ B7 < N0 ∧ B13 < N0 ∧ bx < N0 ∧ b < N0 ∧ tb < N0 ∧ bx ≠ tb
  size : N0 ≤ wr.heap.size
theorem JT.new {w : World} {b tb n B7 B13 bx N0 : Nat} {m : Int} {l : List Nat} {v13 vx : Value} {wr w1 : World} (h : JT w b tb n B7 B13 bx N0 m l v13 vx wr) (hk : Kept (fun i => N0 ≤ i) wr w1) : JT w b tb n B7 B13 bx N0 m l v13 vx w1 := by
  obtain ⟨o1, o2, o3, o4, o5, o6, o7⟩ := h.ord
  obtain ⟨t, hs⟩ := h.st
  have hz := hs.kept.size
  exact ⟨⟨t, ⟨hs.ids.off hk (by omega) (by omega), hs.kept.new hk (fun i e => by have : N0 ≤ i := e; omega), hs.new⟩⟩, h.b3.kept hk ⟨by omega, by omega, by omega⟩, hk.obj h.b7 (by omega), hk.obj h.b13 (by omega), hk.cell h.cx (by omega),
    Rd.kept h.r13 hk (fun i _ e g => by have := e.2; have : N0 ≤ i := g; omega), Rd.kept h.rx hk (fun i _ e g => by have := e.2; have : N0 ≤ i := g; omega), h.ord, Nat.le_trans h.size hk.size⟩
theorem JT.bk {w : World} {b tb n B7 B13 bx N0 : Nat} {m : Int} {l : List Nat} {v13 vx : Value} {wr w1 : World} {t : Nat → Bool} (h : JT w b tb n B7 B13 bx N0 m l v13 vx wr) (hs : St w b tb n t w1) (hk : Kept (Bk tb) wr w1) : JT w b tb n B7 B13 bx N0 m l v13 vx w1 := by
  obtain ⟨o1, o2, o3, o4, o5, o6, o7⟩ := h.ord
  obtain ⟨t0, hs0⟩ := h.st
  have i := hs0.ids
  exact ⟨⟨t, hs⟩, h.b3.kept hk ⟨fun e => ids_tb i h.b3.h0 (by decide) e.symm, fun e => ids_tb i h.b3.h1 (by decide) e.symm, fun e => ids_tb i h.b3.h2 (by decide) e.symm⟩, hk.obj h.b7 (fun e => ids_tb i h.b7 (by decide) e.symm), hk.obj h.b13 (fun e => ids_tb i h.b13 (by decide) e.symm),
    hk.cell h.cx (fun e => o7 e), Rd.kept h.r13 hk (fun i _ e g => e.1 g), Rd.kept h.rx hk (fun i _ e g => e.1 g), h.ord, Nat.le_trans h.size hk.size⟩
/-- between two rounds of the loop over the ids -/
structure RI (J : World → Prop) (r : Int) (B15 B16 : Nat) (dd : Option Nat) (pre : Nat) (W : World) : Prop where
  j : J W
  r15 : W.heap[B15]? = some (.cells #[.int .i64 r] 3 (0, 0))
  r16 : W.heap[B16]? = some (.cells #[.int .i64 (pre : Nat)] 3 (0, 0))
  d : ∀ k, dd = some k → W.heap[k]? = some (.deferred (some []))
theorem RI.grown {J : World → Prop} {r : Int} {B15 B16 B : Nat} {dd : Option Nat} {pre : Nat} {W W' : World} {row : Option Nat} (hJ : ∀ W W' row, J W → W.grownBy W' row → (∀ k, row = some k → B ≤ k) → J W') (h : RI J r B15 B16 dd pre W) (hg : W.grownBy W' row) (hr : ∀ k, row = some k → B ≤ k ∧ ∃ o : Obj, W.heap[k]? = some o ∧ o.isCells = false) (hd : ∀ k, dd = some k → k < B) : RI J r B15 B16 dd pre W' := by
  have hc : ∀ (k : Nat) (c : Array Value) (t : TypeId) (fz : Nat × Nat), W.heap[k]? = some (.cells c t fz) → W'.heap[k]? = some (.cells c t fz) := fun k c t fz hk => by
    rw [hg.block k (obj_lt hk) (fun e => by
      obtain ⟨_, o, ho, hcc⟩ := hr k e.symm
      rw [hk] at ho; cases ho; cases hcc)]
    exact hk
  exact ⟨hJ W W' row h.j hg (fun k e => (hr k e).1), hc _ _ _ _ h.r15, hc _ _ _ _ h.r16, fun k e => by
    rw [hg.block k (obj_lt (h.d k e)) (fun e2 => by have := (hr k e2.symm).1; have := hd k e; omega)]
    exact h.d k e⟩
end Go.Proofs.YtkdienebinnopaaDoor
