/-
  Ident: the law's own map[int]bool.
-/
import Derived.Test.YtkdienebinnopaaDoorWalkG
import Derived.Maps.Views
import Derived.Maps.OwnSet
import Derived.Maps.Range
import Derived.Maps.RangeWalk
namespace Go.Proofs.YtkdienebinnopaaDoor
open Go.RowKit Go.Zn Go.Shelf

abbrev BM (w : World) (b n : Nat) (D : DataW Unit) : Prop := w.ownsMap Tryd.prog 3 (plainElem Tryd.prog 4) b n D
def Wf (x : Int) : Prop := -9223372036854775808 ≤ x ∧ x ≤ 9223372036854775807
theorem wf_of {x : Int} (h : Wf x) : (Lit.int .i64 x).wf = true := by
  obtain ⟨h1, h2⟩ := h
  simp [Lit.wf, IntKind.wrap, IntKind.signed, IntKind.bits, IntKind.min, IntKind.max]
  omega
theorem of_wf {x : Int} (h : (Lit.int .i64 x).wf = true) : Wf x := by
  simp [Lit.wf, IntKind.wrap, IntKind.signed, IntKind.bits, IntKind.min, IntKind.max] at h
  unfold Wf
  omega
/-- what the map says of each key -/
def Says (D : DataW Unit) (s : Int → Bool) : Prop := Maps.Tidy D ∧ ∀ x, D.atKey (.int .i64 x) (.lit (.bool false)) = .lit (.bool (s x))
def Counts (D : DataW Unit) (s : Int → Bool) (n : Nat) : Prop := (∀ x, Maps.has D (.int .i64 x) = s x) ∧ Maps.size D = n
def mput (s : Int → Bool) (x : Int) (v : Bool) : Int → Bool := fun y => if y = x then v else s y
theorem keyed3 : Maps.Keyed Tryd.prog 3 := Maps.int_keyed Tryd.underlying3
theorem says_none : Says (.map []) (fun _ => false) := ⟨Maps.tidy_empty, fun _ => rfl⟩
theorem counts_none : Counts (.map []) (fun _ => false) 0 := ⟨fun _ => rfl, rfl⟩
theorem isKey (x : Int) : WideAt.IsKeyLit (.int .i64 x) := by unfold WideAt.IsKeyLit; trivial
theorem lit_ne {x y : Int} (h : y ≠ x) : (Lit.int .i64 y) ≠ Lit.int .i64 x := fun e => h (by cases e; rfl)
theorem Says.put {D : DataW Unit} {s : Int → Bool} (h : Says D s) (x : Int) (v : Bool) : Says (D.put (.int .i64 x) (.lit (.bool v))) (mput s x v) := by
  refine ⟨h.1.put (isKey x) _, fun y => ?_⟩
  unfold mput
  by_cases e : y = x
  · subst e; rw [if_pos rfl, Maps.atKey_put_same h.1.isMap (isKey y)]
  · rw [if_neg e, Maps.atKey_put_other (lit_ne e)]; exact h.2 y
theorem Counts.put {D : DataW Unit} {s : Int → Bool} {n : Nat} (ht : Maps.Tidy D) (h : Counts D s n) (x : Int) (hx : s x = false) : Counts (D.put (.int .i64 x) (.lit (.bool true))) (mput s x true) (n + 1) := by
  refine ⟨fun y => ?_, ?_⟩
  · unfold mput
    by_cases e : y = x
    · subst e; rw [if_pos rfl, Maps.has_put_same ht.isMap (isKey y)]
    · rw [if_neg e, Maps.has_put_other (lit_ne e)]; exact h.1 y
  · rw [Maps.size_put ht, h.1 x, hx, h.2]; rfl
theorem zero4 (w : World) : (zeroValue 4).run Tryd.prog w = .ok (.bool false) w := by kernel_rfl
theorem elem_bool_inv {v : Value} {x : Bool} {ps : List MemPlace} (h : plainElem (H := Unit) Tryd.prog 4 v = some (.lit (.bool x), ps)) : v = .bool x := by
  unfold plainElem at h
  rw [Tryd.underlying4] at h
  split at h
  · cases h; rfl
  · rename_i e; cases e
  · rename_i e; cases e
  · cases h
theorem bm_look {w : World} {b n : Nat} {D : DataW Unit} {s : Int → Bool} (h : BM w b n D) (hs : Says D s) (x : Int) (hx : Wf x) :
    (Instr.lookup 30 (.map (some b)) (.int .i64 x) false).run Tryd.prog w = .ok (.bool (s x)) w := by
  obtain ⟨v, ps, hr, hv⟩ := World.ownsMap.lookup h keyed3 Tryd.underlying30 (zero4 w) (plainElem_bool Tryd.underlying4 false) (Maps.keyOf_int_mk Tryd.underlying3 (wf_of hx))
  rw [hs.2 x] at hv
  rw [hr, elem_bool_inv hv]
theorem bm_set {w : World} {b n : Nat} {D : DataW Unit} (h : BM w b n D) (hn : n < maxLen) (x : Int) (hx : Wf x) (v : Bool) :
    ∃ w', (Instr.mapUpdate 30 (.map (some b)) (.int .i64 x) (.bool v)).run Tryd.prog w = .ok () w' ∧ BM w' b (n + 1) (D.put (.int .i64 x) (.lit (.bool v))) ∧ Kept (fun i => i = b) w w' := by
  obtain ⟨w', h1, h2, h3⟩ := World.ownsMap.update h keyed3 Tryd.underlying30 hn (Maps.keyOf_int_mk Tryd.underlying3 (wf_of hx)) (plainElem_bool Tryd.underlying4 v)
  exact ⟨w', h1, h2, (Kept.refl _ w).grown h3 (fun k e _ => by cases e; rfl)⟩
theorem bm_len {w : World} {b n sz : Nat} {D : DataW Unit} {s : Int → Bool} (h : BM w b n D) (hs : Counts D s sz) (ty : TypeId) : (Builtin.len_ #[30] ty #[.map (some b)]).run Tryd.prog w = .ok (.int .i64 sz) w := by
  have := World.ownsMap.len h Tryd.underlying30 ty
  rw [hs.2] at this
  exact this
theorem bm_kept {S : Nat → Prop} {w w' : World} {b n : Nat} {D : DataW Unit} (h : BM w b n D) (hk : Kept S w w') (hb : ¬ S b) : BM w' b n D := by
  obtain ⟨es, clock, h1, h2, h3, h4⟩ := h
  exact ⟨es, clock, hk.obj h1 hb, h2, h3, h4⟩
theorem bm_new (w : World) : BM (w.alloc (.map #[] 0)) w.heap.size 0 (.map []) := World.ownsMap_made w _ _ _
theorem bm_lt {w : World} {b n : Nat} {D : DataW Unit} (h : BM w b n D) : b < w.heap.size := World.ownsMap.lt h
end Go.Proofs.YtkdienebinnopaaDoor
