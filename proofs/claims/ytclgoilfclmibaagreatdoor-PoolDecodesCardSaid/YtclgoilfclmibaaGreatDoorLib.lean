/-
  Small predicates on worlds for the proofs of this seat: what a call keeps ('Kept'), what a slice reads as ('Rd'), and how an owned row reads. No program in sight.
-/
import Derived.WalkKit
import Derived.WalkSpells
import Derived.WalkLawsBesides
import Derived.Lib.Hide
import Derived.Laws.AppendOwnNone
set_option linter.unusedVariables false
set_option linter.unusedSimpArgs false
namespace Go.Zn
open Go Go.RowKit

/-- What was there stays as it was, but for the blocks in S; nothing is taken away. -/
structure Kept (S : Nat → Prop) (w w' : World) : Prop where
  os : w'.os = w.os
  tape : w'.tape = w.tape
  output : w'.output = w.output
  size : w.heap.size ≤ w'.heap.size
  block : ∀ k, k < w.heap.size → ¬ S k → w'.heap[k]? = w.heap[k]?

def No : Nat → Prop := fun _ => False
theorem not_no (k : Nat) : ¬ No k := fun h => h

theorem Kept.refl (S : Nat → Prop) (w : World) : Kept S w w := ⟨rfl, rfl, rfl, Nat.le_refl _, fun _ _ _ => rfl⟩
theorem Kept.trans {S S' T : Nat → Prop} {a b c : World} (h : Kept S a b) (k : Kept S' b c) (h1 : ∀ i, i < a.heap.size → S i → T i) (h2 : ∀ i, i < a.heap.size → S' i → T i) : Kept T a c :=
  ⟨k.os.trans h.os, k.tape.trans h.tape, k.output.trans h.output, Nat.le_trans h.size k.size, fun i hi hn =>
    (k.block i (Nat.lt_of_lt_of_le hi h.size) (fun e => hn (h2 i hi e))).trans (h.block i hi (fun e => hn (h1 i hi e)))⟩
theorem Kept.mono {S T : Nat → Prop} {a b : World} (h : Kept S a b) (h1 : ∀ i, i < a.heap.size → S i → T i) : Kept T a b := h.trans (Kept.refl S b) h1 h1
theorem Kept.any {T : Nat → Prop} {a b : World} (h : Kept No a b) : Kept T a b := h.mono fun _ _ e => e.elim
/-- two steps of one kind -/
theorem Kept.and {S : Nat → Prop} {a b c : World} (h : Kept S a b) (k : Kept S b c) : Kept S a c := h.trans k (fun _ _ e => e) (fun _ _ e => e)
/-- a second step that touches new blocks alone -/
theorem Kept.new {S S' : Nat → Prop} {a b c : World} (h : Kept S a b) (k : Kept S' b c) (h2 : ∀ i, S' i → a.heap.size ≤ i) : Kept S a c :=
  h.trans k (fun _ _ e => e) (fun i hi e => absurd (h2 i e) (by omega))
theorem Kept.drew {S : Nat → Prop} {a b : World} (h : Kept S a b) : Kept S a b.drew := ⟨h.os, h.tape, h.output, h.size, h.block⟩
theorem Kept.drewN {S : Nat → Prop} {a b : World} (h : Kept S a b) (n : Nat) : Kept S a (b.drewN n) := ⟨h.os, h.tape, h.output, h.size, h.block⟩
theorem Kept.of_drew {S : Nat → Prop} {a b : World} (h : Kept S a.drew b) : Kept S a b := ⟨h.os, h.tape, h.output, h.size, h.block⟩
theorem Kept.of_drewN {S : Nat → Prop} {a b : World} {n : Nat} (h : Kept S (a.drewN n) b) : Kept S a b := ⟨h.os, h.tape, h.output, h.size, h.block⟩
theorem Kept.alloc {S : Nat → Prop} {a b : World} (h : Kept S a b) (o : Obj) : Kept S a (b.alloc o) :=
  ⟨h.os, h.tape, h.output, by have := h.size; simp; omega, fun i hi hn => (Below.heap_alloc b o i (by have := h.size; omega)).trans (h.block i hi hn)⟩
theorem Kept.setCell {S : Nat → Prop} {a b : World} (h : Kept S a b) {p : Addr} (hp : p.block < a.heap.size → S p.block) (u : Value) : Kept S a (b.setCell p u) :=
  ⟨h.os, h.tape, h.output, by have := h.size; simp; omega, fun i hi hn => by
    by_cases e : i = p.block
    · subst e; exact absurd (hp hi) hn
    · exact (Below.heap_setCell b p u i e).trans (h.block i hi hn)⟩
theorem Kept.put {S : Nat → Prop} {a b : World} (h : Kept S a b) {p : Addr} (hp : a.heap.size ≤ p.block) (u : Value) : Kept S a (b.setCell p u) := h.setCell (fun hlt => absurd hlt (by omega)) u
theorem Kept.grown {S : Nat → Prop} {a b c : World} {row : Option Nat} (h : Kept S a b) (hg : b.grownBy c row) (hr : ∀ k, row = some k → k < a.heap.size → S k) : Kept S a c :=
  ⟨hg.os.trans h.os, hg.tape.trans h.tape, hg.output.trans h.output, Nat.le_trans h.size hg.size, fun i hi hn =>
    (hg.block i (Nat.lt_of_lt_of_le hi h.size) (fun e => hn (hr i e.symm hi))).trans (h.block i hi hn)⟩
theorem Kept.of_below {w w' : World} (h : Below w.heap.size w w') : Kept No w w' := ⟨h.os, h.tape, h.output, h.size, fun k hk _ => h.block k hk⟩
theorem Kept.below {S : Nat → Prop} {n : Nat} {w w' : World} (h : Kept S w w') (hS : ∀ i, i < w.heap.size → S i → n ≤ i) (hn : n ≤ w.heap.size) : Below n w w' :=
  ⟨h.os, h.tape, h.output, h.size, fun k hk => h.block k (by omega) (fun e => by have := hS k (by omega) e; omega)⟩
theorem Kept.to_below {w w' : World} (h : Kept No w w') : Below w.heap.size w w' := h.below (fun _ _ e => e.elim) (Nat.le_refl _)
theorem Kept.cell {S : Nat → Prop} {w w' : World} (h : Kept S w w') {b o : Nat} {v : Value} (hc : w.cell? ⟨b, o, none⟩ = some v) (hb : ¬ S b) : w'.cell? ⟨b, o, none⟩ = some v := by
  have hlt : b < w.heap.size := block_lt_of_cell hc
  rw [World.cell?_of_block (w := w) (h.block b hlt hb)]; exact hc
theorem Kept.obj {S : Nat → Prop} {w w' : World} (h : Kept S w w') {b : Nat} {o : Obj} (hc : w.heap[b]? = some o) (hb : ¬ S b) : w'.heap[b]? = some o := by
  have hlt : b < w.heap.size := (Array.getElem?_eq_some_iff.1 hc).1
  rw [h.block b hlt hb]; exact hc
theorem Kept.frozen {S : Nat → Prop} {w w' : World} (h : Kept S w w') {b o : Nat} (hlt : b < w.heap.size) (hb : ¬ S b) : w'.frozen? ⟨b, o, none⟩ = w.frozen? ⟨b, o, none⟩ :=
  World.frozen?_of_block (w := w) (h.block b hlt hb)

theorem _root_.Go.World.alloc_at {w : World} {k : Nat} (h : k = w.heap.size) (o : Obj) : (w.alloc o).heap[k]? = some o := by subst h; exact heap_alloc_new w o
theorem obj_lt {w : World} {b : Nat} {o : Obj} (h : w.heap[b]? = some o) : b < w.heap.size := (Array.getElem?_eq_some_iff.1 h).1
theorem obj_alloc {w : World} {b : Nat} {o : Obj} (h : w.heap[b]? = some o) (x : Obj) : (w.alloc x).heap[b]? = some o := (Below.heap_alloc w x b (obj_lt h)).trans h
theorem obj_setCell {w : World} {b : Nat} {o : Obj} (h : w.heap[b]? = some o) {p : Addr} (u : Value) (hp : b ≠ p.block) : (w.setCell p u).heap[b]? = some o := (Below.heap_setCell w p u b hp).trans h
/-- a cell of a block that is known whole, and that it may be written -/
theorem obj_cell {w : World} {b : Nat} {cs : Array Value} {t : TypeId} {fz : Nat × Nat} (h : w.heap[b]? = some (.cells cs t fz)) (j : Nat) : w.cell? ⟨b, j, none⟩ = cs[j]? := cell_of_row w b j cs t fz h
theorem obj_free {w : World} {b : Nat} {cs : Array Value} {t : TypeId} (h : w.heap[b]? = some (.cells cs t (0, 0))) (j : Nat) : w.frozen? ⟨b, j, none⟩ = false := frozen_of_row w b j cs t h
theorem obj_store {w : World} {b : Nat} {cs : Array Value} {t : TypeId} {fz : Nat × Nat} (h : w.heap[b]? = some (.cells cs t fz)) (j : Nat) (u : Value) : (w.setCell ⟨b, j, none⟩ u).heap[b]? = some (.cells (cs.setIfInBounds j u) t fz) := by
  simp [World.setCell, Array.getElem?_modify, h]

/-- A slice value that reads: n elements of so many cells each, the cells xs; the block that it reads is among B. -/
def Rd (w : World) (B : Nat → Prop) (size : Nat) (v : Value) (n : Nat) (xs : List Value) : Prop :=
  xs.length = n * size ∧ n ≤ maxLen ∧
  (((v = .slice none 0 0 ∨ ∃ a, v = .slice (some a) 0 0) ∧ n = 0) ∨
   ∃ b off cap, v = .slice (some ⟨b, off, none⟩) n cap ∧ n ≤ cap ∧ (0 < xs.length → B b) ∧ ∀ j u, xs[j]? = some u → w.cell? ⟨b, off + j, none⟩ = some u)

theorem Rd.kept {S B : Nat → Prop} {w w' : World} {size : Nat} {v : Value} {n : Nat} {xs : List Value} (h : Rd w B size v n xs) (hk : Kept S w w') (hB : ∀ b, b < w.heap.size → B b → ¬ S b) : Rd w' B size v n xs := by
  obtain ⟨h1, h2, h3⟩ := h
  refine ⟨h1, h2, ?_⟩
  rcases h3 with h3 | ⟨b, off, cap, hv, hc, hb, hx⟩
  · exact .inl h3
  · refine .inr ⟨b, off, cap, hv, hc, hb, fun j u hj => ?_⟩
    have hju := hx j u hj
    exact hk.cell hju (hB b (block_lt_of_cell hju) (hb (by have := (List.getElem?_eq_some_iff.1 hj).1; omega)))
theorem Rd.mono {B C : Nat → Prop} {w : World} {size : Nat} {v : Value} {n : Nat} {xs : List Value} (h : Rd w B size v n xs) (hB : ∀ b, b < w.heap.size → B b → C b) : Rd w C size v n xs := by
  obtain ⟨h1, h2, h3⟩ := h
  refine ⟨h1, h2, ?_⟩
  rcases h3 with h3 | ⟨b, off, cap, hv, hc, hb, hx⟩
  · exact .inl h3
  · refine .inr ⟨b, off, cap, hv, hc, fun hp => hB b ?_ (hb hp), hx⟩
    exact block_lt_of_cell (hx 0 xs[0] (List.getElem?_eq_getElem hp))
theorem Rd.both {B C : Nat → Prop} {w : World} {size : Nat} {v : Value} {n : Nat} {xs : List Value} (h : Rd w B size v n xs) (h' : Rd w C size v n xs) : Rd w (fun i => B i ∧ C i) size v n xs := by
  obtain ⟨h1, h2, h3⟩ := h
  refine ⟨h1, h2, ?_⟩
  rcases h3 with h3 | ⟨b, off, cap, hv, hc, hb, hx⟩
  · exact .inl h3
  · obtain ⟨_, _, ⟨hv' | ⟨a, hv'⟩, hn⟩ | ⟨b', off', cap', hv', hc', hb', hx'⟩⟩ := h'
    · rw [hv] at hv'; cases hv'
    · refine .inr ⟨b, off, cap, hv, hc, fun hp => ?_, hx⟩
      subst hn
      omega
    · rw [hv] at hv'
      cases hv'
      exact .inr ⟨b, off, cap, hv, hc, fun hp => ⟨hb hp, hb' hp⟩, hx⟩
theorem Rd.drew {B : Nat → Prop} {w : World} {size : Nat} {v : Value} {n : Nat} {xs : List Value} (h : Rd w B size v n xs) : Rd w.drew B size v n xs := h
theorem Rd.drewN {B : Nat → Prop} {w : World} {size : Nat} {v : Value} {n : Nat} {xs : List Value} (h : Rd w B size v n xs) (m : Nat) : Rd (w.drewN m) B size v n xs := h
theorem Rd.alloc {B : Nat → Prop} {w : World} {size : Nat} {v : Value} {n : Nat} {xs : List Value} (h : Rd w B size v n xs) (o : Obj) : Rd (w.alloc o) B size v n xs :=
  h.kept (S := No) ((Kept.refl No w).alloc o) (fun _ _ _ => not_no _)
theorem rd_nil (w : World) (B : Nat → Prop) (size : Nat) : Rd w B size (.slice none 0 0) 0 [] := ⟨by simp, by simp [maxLen], .inl ⟨.inl rfl, rfl⟩⟩
theorem rd_bare (w : World) (B : Nat → Prop) (size : Nat) (a : Addr) : Rd w B size (.slice (some a) 0 0) 0 [] := ⟨by simp, by simp [maxLen], .inl ⟨.inr ⟨a, rfl⟩, rfl⟩⟩
/-- what the call owns reads -/
theorem rd_owned {w : World} {base e size : Nat} {v : Value} {n : Nat} {xs : List Value} (h : w.ownsRow base e size v n xs) : Rd w (fun k => base ≤ k) size v n xs := by
  obtain ⟨h1, h2⟩ := h
  rcases h2 with ⟨hv, hn⟩ | ⟨g, cap, cur, hv, hg, hh, hnc, hcm, hcs, hx⟩
  · subst hn; exact ⟨h1, by simp [maxLen], .inl ⟨.inl hv, rfl⟩⟩
  · refine ⟨h1, by omega, .inr ⟨g, 0, cap, hv, hnc, fun _ => hg, fun j u hj => ?_⟩⟩
    rw [Nat.zero_add, obj_cell hh, ← Array.getElem?_toList]
    rw [← hx] at hj
    rw [List.getElem?_take] at hj
    split at hj
    · exact hj
    · cases hj
theorem owned_kept {S : Nat → Prop} {w w' : World} {base e size : Nat} {v : Value} {n : Nat} {xs : List Value} (h : w.ownsRow base e size v n xs) (hk : Kept S w w') (hB : ∀ b, b < w.heap.size → v.ownBlock = some b → ¬ S b) : w'.ownsRow base e size v n xs := by
  obtain ⟨h1, h2⟩ := h
  refine ⟨h1, ?_⟩
  rcases h2 with h2 | ⟨g, cap, cur, hv, hg, hh, r⟩
  · exact .inl h2
  · exact .inr ⟨g, cap, cur, hv, hg, hk.obj hh (hB g (obj_lt hh) (by subst hv; rfl)), r⟩
theorem owned_mono {w : World} {base base' e size : Nat} {v : Value} {n : Nat} {xs : List Value} (h : w.ownsRow base e size v n xs) (hb : base' ≤ base) : w.ownsRow base' e size v n xs := by
  obtain ⟨h1, h2⟩ := h
  refine ⟨h1, ?_⟩
  rcases h2 with h2 | ⟨g, cap, cur, hv, hg, hh, r⟩
  · exact .inl h2
  · exact .inr ⟨g, cap, cur, hv, by omega, hh, r⟩
theorem owned_lt {w : World} {base e size : Nat} {v : Value} {n : Nat} {xs : List Value} (h : w.ownsRow base e size v n xs) {b : Nat} (hb : v.ownBlock = some b) : base ≤ b ∧ b < w.heap.size := h.lt b hb

theorem owned_slice {w : World} {base e size : Nat} {v : Value} {n : Nat} {xs : List Value} (h : w.ownsRow base e size v n xs) : ∃ ad cap, v = .slice ad n cap := by
  obtain ⟨h1, ⟨hv, hn⟩ | ⟨g, cap, cur, hv, _⟩⟩ := h
  · subst hn; exact ⟨_, _, hv⟩
  · exact ⟨_, _, hv⟩
theorem rd_slice {w : World} {B : Nat → Prop} {size : Nat} {v : Value} {n : Nat} {xs : List Value} (h : Rd w B size v n xs) : ∃ ad cap, v = .slice ad n cap := by
  obtain ⟨h1, _, ⟨hv | ⟨a, hv⟩, hn⟩ | ⟨b, off, cap, hv, _⟩⟩ := h
  · subst hn; exact ⟨_, _, hv⟩
  · subst hn; exact ⟨_, _, hv⟩
  · exact ⟨_, _, hv⟩
/-- a new block of two cells, read as one element -/
theorem rd_new2 (w : World) (u v : Value) (t : TypeId) : Rd (w.alloc (.cells #[u, v] t)) (fun i => i = w.heap.size) 2 (.slice (some ⟨w.heap.size, 0, none⟩) 1 1) 1 [u, v] :=
  ⟨rfl, by simp [maxLen], .inr ⟨w.heap.size, 0, 1, rfl, Nat.le_refl _, fun _ => rfl, fun j x hj => by
    rw [Nat.zero_add, obj_cell (heap_alloc_new w _)]
    match j, hj with
    | 0, hj => exact hj
    | 1, hj => exact hj⟩⟩
theorem rd_new1 (w : World) (u : Value) (t : TypeId) : Rd (w.alloc (.cells #[u] t)) (fun i => i = w.heap.size) 1 (.slice (some ⟨w.heap.size, 0, none⟩) 1 1) 1 [u] :=
  ⟨rfl, by simp [maxLen], .inr ⟨w.heap.size, 0, 1, rfl, Nat.le_refl _, fun _ => rfl, fun j x hj => by
    rw [Nat.zero_add, obj_cell (heap_alloc_new w _)]
    match j, hj with
    | 0, hj => exact hj⟩⟩
/-- bytes as cells -/
def bts (l : List UInt8) : List Value := l.map fun b => Value.int .u8 b.toNat
@[simp] theorem bts_length (l : List UInt8) : (bts l).length = l.length := by simp [bts]
theorem bts_one (l : List UInt8) : ∀ u ∈ bts l, u.oneCell' = true := by
  intro u hu
  obtain ⟨b, _, rfl⟩ := List.mem_map.1 hu
  rfl
theorem bts_get (l : List UInt8) (j : Nat) : (bts l)[j]? = (l[j]?).map fun b => Value.int .u8 b.toNat := by simp [bts]
theorem bts_append (l r : List UInt8) : bts (l ++ r) = bts l ++ bts r := by simp [bts]

/-- What the program's table says of a slice type: its number, its elements' type, their cells and bytes, their zero. -/
structure SliceOf (P : Program) (t e size bytes : Nat) (z : Value) : Prop where
  ht : P.underlying t = some (.slice e)
  hi : ∃ i, P.info? e = some i ∧ i.zero = some z ∧ i.size = size ∧ i.bytes = bytes
  hz : z.cells.size = size
  hs : 0 < size
  hb : 0 < bytes

theorem small_maxLen {k bytes : Nat} (hb : 0 < bytes) (h : k * bytes ≤ 140737488355328) : k ≤ maxLen := by
  have h1 : k * 1 ≤ k * bytes := Nat.mul_le_mul_left k hb
  unfold maxLen
  omega

/-- 'append(v, x...)': v is the call's own (or nil), x is whatever reads. -/
theorem wpList_append_rd {P : Program} {w : World} {ops : Array Oper} {rest : List Oper} {o : Oper} {a : Act} {Q : Exit → Act → World → Prop} (hgd : o.guard = none) {s x : Operand} {t : TypeId}
    (ho : o.op = .call { callee := .builtin .append, args := #[s, x], argTypes := #[t, t] }) {v xv : Value} (hs : a.eval s = v) (hx : a.eval x = xv)
    {e size bytes : Nat} {z : Value} (ei : SliceOf P t e size bytes z) {base n m : Nat} {xs news : List Value} {B : Nat → Prop}
    (hown : w.ownsRow base e size v n xs) (hsrc : Rd w B size xv m news) (h1 : ∀ u ∈ news, u.oneCell' = true) (hbytes : (n + m) * bytes ≤ 140737488355328) (hbase : base ≤ w.heap.size)
    (h : ∀ v' w', w'.ownsRow base e size v' (n + m) (xs ++ news) → w.grownBy w' v.ownBlock → (v' = .slice none 0 0 ↔ v = .slice none 0 0 ∧ m = 0) → wpList P ops Q rest (a.put o.dst v') w') : wpList P ops Q (o :: rest) a w := by
  obtain ⟨i, hi, hz0, hz1, hz2⟩ := ei.hi
  have hml : n + m ≤ maxLen := small_maxLen ei.hb hbytes
  obtain ⟨hl, hm, hv⟩ := hsrc
  rcases hv with ⟨hv, hm0⟩ | ⟨b, off, cap, hv, hc, hb, hcell⟩
  · subst hm0
    have hnews : news = [] := List.eq_nil_of_length_eq_zero (by rw [hl]; simp)
    subst hnews
    rcases hv with hv | ⟨a0, hv⟩
    · refine wpList_append_own_none hgd s x t ho base e i size ei.ht hi v n xs hs hown (by rw [hx, hv]) ?_
      exact h v w (by simpa using hown) (World.grownBy.refl w _) (by simp)
    · exact wpList_append_own w hgd s x t ho base e i z size bytes ei.ht hi hz0 hz1 hz2 ei.hz ei.hs v n xs hs hown a0 0 0 [] (by rw [hx, hv]) hl (fun j u hj => by simp at hj) h1 hml hbytes hbase h
  · exact wpList_append_own w hgd s x t ho base e i z size bytes ei.ht hi hz0 hz1 hz2 ei.hz ei.hs v n xs hs hown ⟨b, off, none⟩ m cap news (by rw [hx, hv]) hl (fun j u hj => by rw [Addr.add_lit]; exact hcell j u hj) h1 hml hbytes hbase h

/-- the string of some bytes -/
def strOf (l : List UInt8) : ByteArray := ⟨l.toArray⟩
theorem strOf_nums (l : List UInt8) : strOfNums (l.map fun b => (b.toNat : Int)) = strOf l := by
  unfold strOfNums strOf
  congr 2
  rw [List.map_map]
  conv => rhs; rw [← List.map_id l]
  apply List.map_congr_left
  intro b _
  simp
/-- 'string(v)', v bytes that read -/
theorem run_string_rd {P : Program} {src e dst : TypeId} (hs : P.underlying src = some (.slice e)) (he : P.underlying e = some (.int .u8)) (hd : P.underlying dst = some .string) {w : World} {B : Nat → Prop} {v : Value} {n : Nat} {l : List UInt8}
    (h : Rd w B 1 v n (bts l)) : (convert src dst v).run P w = .ok (.string (strOf l)) w := by
  obtain ⟨hl, hm, ⟨hv, hn⟩ | ⟨b, off, cap, hv, hc, hb, hcell⟩⟩ := h
  · subst hn
    have hl0 : l = [] := List.eq_nil_of_length_eq_zero (by simpa using hl)
    subst hl0
    rcases hv with hv | ⟨a, hv⟩
    · subst hv; exact run_convert_bytes_nil w src e hs he 0 0 dst hd
    · subst hv
      rw [run_convert_bytes_string w src dst e _ 0 0 hs he hd]
      exact run_bytesToString w a 0 0 [] (by simpa using run_loadCells_list (P := P) w a [] (fun j v hj => by simp at hj))
  · subst hv
    rw [← strOf_nums]
    refine run_convert_bytes_arg w src e hs he b off n cap _ (by simpa using hl) (fun i hi => ?_) dst hd
    have hi' : i < l.length := by simp at hl; omega
    have := hcell i (.int .u8 l[i].toNat) (by rw [bts_get, List.getElem?_eq_getElem hi']; rfl)
    rw [this]
    simp [hi']
end Go.Zn
