/-
  Ident: the reference's ids: a slice of bools.
-/
import Derived.Test.YtkdienebinnopaaDoorWalkJ
import Derived.Deep.OwnRows
import Derived.Deep.AppendLies
namespace Go.Proofs.YtkdienebinnopaaDoor
open Go.RowKit Go.Zn Go.Shelf
attribute [local go_sem] Oper.semAt_some

def bls (t : Nat → Bool) (n : Nat) : List Value := (List.range n).map fun i => Value.bool (t (i + 1))
theorem bls_length (t : Nat → Bool) (n : Nat) : (bls t n).length = n := by simp [bls]
theorem bls_one (t : Nat → Bool) (n : Nat) : ∀ u ∈ bls t n, u.oneCell' = true := by
  intro u hu
  obtain ⟨b, _, rfl⟩ := List.mem_map.1 hu
  rfl
theorem bls_get (t : Nat → Bool) (n j : Nat) (h : j < n) : (bls t n)[j]? = some (.bool (t (j + 1))) := by simp [bls, h]
theorem bls_put (t : Nat → Bool) (n i : Nat) (b : Bool) : (bls t n).set i (.bool b) = bls (put t (i + 1) b) n := by
  apply List.ext_getElem?
  intro j
  rw [List.getElem?_set]
  unfold bls put
  by_cases e : i = j
  · subst e
    by_cases hj : i < n
    · simp [hj]
    · simp [hj]
  · rw [if_neg e]
    by_cases hj : j < n
    · have : ¬ j + 1 = i + 1 := by omega
      simp [hj, this]
      omega
    · simp [hj]
def Rf (w : World) (B : Nat → Prop) (v : Value) (n : Nat) (t : Nat → Bool) : Prop := Rd w B 1 v n (bls t n)
def Bn (B : Nat → Prop) (w : World) : Nat → Prop := fun k => B k ∨ w.heap.size ≤ k
theorem Rf.no {w w' : World} {B : Nat → Prop} {v : Value} {n : Nat} {t : Nat → Bool} (h : Rf w B v n t) (hk : Kept No w w') : Rf w' B v n t := Rd.kept h hk (fun _ _ _ => not_no _)
theorem Rf.old {w : World} {B : Nat → Prop} {v : Value} {n : Nat} {t : Nat → Bool} (h : Rf w B v n t) (w0 : World) : Rf w (Bn B w0) v n t := Rd.mono h (fun _ _ e => .inl e)
theorem Rf.at {w : World} {B : Nat → Prop} {v : Value} {n : Nat} {t : Nat → Bool} (h : Rf w B v n t) {i : Nat} (hi : i < n) :
    ∃ b off cap, v = .slice (some ⟨b, off, none⟩) n cap ∧ w.cell? ⟨b, off + i, none⟩ = some (.bool (t (i + 1))) := by
  obtain ⟨_, _, ⟨_, h0⟩ | ⟨b, off, cap, hv, _, _, hc⟩⟩ := h
  · omega
  · exact ⟨b, off, cap, hv, hc i _ (bls_get t n i hi)⟩
theorem ei41 : SliceOf Tryd.prog 41 4 1 1 (.bool false) := ⟨Tryd.underlying41, info_parts (by kernel_rfl), rfl, by decide, by decide⟩
def WithPost (B : Nat → Prop) (t : Nat → Bool) (n : Nat) (w : World) (e : Ending) (w' : World) : Prop := ∃ v, e = .returned v ∧ Rf w' (Bn B w) v n t ∧ Kept No w w'
set_option maxHeartbeats 800000 in
theorem with_any {w : World} {B : Nat → Prop} {v : Value} {n : Nat} {t : Nat → Bool} (h : Rf w B v n t) (i : Nat) (x : Int) (hx : x = (i + 1 : Nat)) (hi : i < n) (hn : n ≤ 4096) (c : Bool) :
    Calls Tryd.prog 36 #[v, .int .i64 x, .bool c] w (WithPost B (put t (i + 1) c) n w) := by
  obtain ⟨ad, cap, rfl⟩ := rd_slice h
  have H := Lib.hid (show Rd w B 1 (.slice ad n cap) n (bls t n) from h)
  have H1 := Lib.hid (bls_one t n)
  have hb : (0 + n) * 1 ≤ 140737488355328 := by omega
  have h1x : 1 ≤ x := by omega
  have h2x : x ≤ 4096 := by omega
  have h3x : x ≤ (n : Int) := by omega
  have HX := Lib.hid hx
  have HI := Lib.hid hi
  clear h hx hi
  go_enter Tryd.func36, Tryd.ntmps36
  go_wp2_with (at_builtin; refine wpList_append_rd rfl rfl rfl rfl ei41 (World.ownsRow_nil w w.heap.size 4 1) H.out H1.out hb (Nat.le_refl _) ?_; intro v1 w1 hown hg _; rw [Nat.zero_add, List.nil_append] at hown; obtain ⟨g, cap1, rfl, hg1, hg2⟩ := World.ownsRow.form hown (by have := HI.out; omega); have hfz := World.ownsRow.frozenAt hown; have hcl : w1.cell? ⟨g, x.toNat - 1, none⟩ = some (.bool (t (i + 1))) := (by have e1 : x.toNat - 1 = i := (by have := HX.out; omega); rw [e1, World.ownsRow.cellAt hown i (by have := HI.out; omega), bls_get t n i HI.out]); have HOWN := Lib.hid hown; have HG := Lib.hid hg; clear hown hg)
  go_ret
  have e1 : x.toNat - 1 = i := by have := HX.out; omega
  obtain ⟨hs1, hg1⟩ := World.ownsRow.stored HOWN.out (x.toNat - 1) (.bool c)
  rw [e1] at hs1 hg1 ⊢
  rw [bls_put] at hs1
  refine ⟨_, rfl, (rd_owned hs1).mono (fun _ _ e => .inr e), ?_⟩
  exact ((Kept.refl No w).grown HG.out (fun k e _ => by cases e)).grown hg1 (fun k e hlt => by cases e; omega)
end Go.Proofs.YtkdienebinnopaaDoor
