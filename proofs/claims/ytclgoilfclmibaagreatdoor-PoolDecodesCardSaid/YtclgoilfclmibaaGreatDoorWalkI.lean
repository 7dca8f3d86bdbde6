/-
  Pool: triggers and cards as they lie; cards that are still.
-/
import Derived.Test.YtclgoilfclmibaaGreatDoorWalkH
set_option linter.unusedVariables false
set_option linter.unusedSimpArgs false
namespace Go.Proofs.YtclgoilfclmibaaGreatDoor
open Go.RowKit Go.Zn
attribute [local go_sem] Oper.semAt_some

/-- triggers as they lie, cell by cell -/
def TrgsC (w : World) (B : Nat → Prop) : List Trg → List Value → Prop
  | [], cs => cs = []
  | t :: l, cs => ∃ v r, cs = .int .i64 t.when :: v :: r ∧ EffsAt w B v t.effs ∧ TrgsC w B l r
def TrgsAt (w : World) (B : Nat → Prop) (v : Value) (l : List Trg) : Prop := ∃ cs, Rd w B 2 v l.length cs ∧ TrgsC w B l cs
theorem TrgsC.no {w w' : World} {B : Nat → Prop} : ∀ {l : List Trg} {cs : List Value}, TrgsC w B l cs → Kept No w w' → TrgsC w' B l cs
  | [], _, h, _ => h
  | _ :: _, _, ⟨v, r, h1, h2, h3⟩, hk => ⟨v, r, h1, h2.no hk, h3.no hk⟩
theorem TrgsAt.no {w w' : World} {B : Nat → Prop} {v : Value} {l : List Trg} (h : TrgsAt w B v l) (hk : Kept No w w') : TrgsAt w' B v l := by
  obtain ⟨cs, h1, h2⟩ := h
  exact ⟨cs, h1.kept hk fun _ _ _ => not_no _, h2.no hk⟩
theorem TrgsC.len {w : World} {B : Nat → Prop} : ∀ {l : List Trg} {cs : List Value}, TrgsC w B l cs → cs.length = l.length * 2
  | [], _, h => by rw [show _ = [] from h]; rfl
  | _ :: l, _, ⟨v, r, h1, h2, h3⟩ => by rw [h1, List.length_cons, List.length_cons, h3.len, List.length_cons]; omega
theorem TrgsC.at {w : World} {B : Nat → Prop} : ∀ {l : List Trg} {cs : List Value}, TrgsC w B l cs → ∀ {i : Nat} {t : Trg}, l[i]? = some t → ∃ v, cs[i * 2]? = some (.int .i64 t.when) ∧ cs[i * 2 + 1]? = some v ∧ EffsAt w B v t.effs
  | [], _, _, i, t, h => by simp at h
  | x :: l, _, ⟨v, r, h1, h2, h3⟩, 0, t, h => by
    obtain rfl : x = t := by simpa using h
    exact ⟨v, by rw [h1]; rfl, by rw [h1]; rfl, h2⟩
  | x :: l, _, ⟨v, r, h1, h2, h3⟩, i + 1, t, h => by
    obtain ⟨v', q1, q2, q3⟩ := h3.at (i := i) (t := t) (by simpa using h)
    refine ⟨v', ?_, ?_, q3⟩
    · rw [h1, show (i + 1) * 2 = i * 2 + 1 + 1 by omega]; simpa using q1
    · rw [h1, show (i + 1) * 2 + 1 = i * 2 + 1 + 1 + 1 by omega]; simpa using q2
theorem TrgsAt.at {w : World} {B : Nat → Prop} {v : Value} {l : List Trg} (h : TrgsAt w B v l) {i : Nat} {t : Trg} (hi : l[i]? = some t) : ∃ b off cap ev, v = .slice (some ⟨b, off, none⟩) l.length cap ∧ l.length ≤ cap ∧
    w.cell? ⟨b, off + i * 2, none⟩ = some (.int .i64 t.when) ∧ w.cell? ⟨b, off + i * 2 + 1, none⟩ = some ev ∧ EffsAt w B ev t.effs := by
  have hlt := (List.getElem?_eq_some_iff.1 hi).1
  obtain ⟨cs, ⟨_, _, ⟨_, h0⟩ | ⟨b, off, cap, he, hle, _, hc⟩⟩, ht⟩ := h
  · omega
  · obtain ⟨ev, q1, q2, q3⟩ := ht.at hi
    exact ⟨b, off, cap, ev, he, hle, hc _ _ q1, by have := hc _ _ q2; rw [← Nat.add_assoc] at this; exact this, q3⟩
theorem TrgsAt.slice {w : World} {B : Nat → Prop} {v : Value} {l : List Trg} (h : TrgsAt w B v l) : ∃ ad cap, v = .slice ad l.length cap := by
  obtain ⟨cs, h1, _⟩ := h
  exact rd_slice h1

/-- the cells of a card; where its effects and triggers lie is told apart -/
def crdCs (c : Crd) (ev tv : Value) : List Value := [.string (strOf c.name), .int .i64 c.kind, .int .i64 c.o0, .int .i64 c.o1, .int .i64 c.o2, .int .i64 c.o3, .int .i64 c.any, .int .i64 c.makes, .int .i64 c.power, .int .i64 c.tough, .int .i64 c.keys, ev, tv, .int .i64 c.rarity]
abbrev crdV (c : Crd) (ev tv : Value) : Value := .agg #[.string (strOf c.name), .int .i64 c.kind, .int .i64 c.o0, .int .i64 c.o1, .int .i64 c.o2, .int .i64 c.o3, .int .i64 c.any, .int .i64 c.makes, .int .i64 c.power, .int .i64 c.tough, .int .i64 c.keys, ev, tv, .int .i64 c.rarity]
/-- what a card's value lies as -/
structure CrdAt (w : World) (B : Nat → Prop) (c : Crd) (ev tv : Value) : Prop where
  effs : EffsAt w B ev c.effs
  trgs : TrgsAt w B tv c.trgs
theorem CrdAt.no {w w' : World} {B : Nat → Prop} {c : Crd} {ev tv : Value} (h : CrdAt w B c ev tv) (hk : Kept No w w') : CrdAt w' B c ev tv := ⟨h.effs.no hk, h.trgs.no hk⟩

def stillB (c : Crd) : Bool := (c.power == 0) && (c.tough == 0) && (c.keys == 0) && decide (c.trgs.length = 0)
set_option maxRecDepth 100000 in
theorem still_any (c : Crd) (ev : Value) (ad : Option Addr) (cap : Nat) (w : World) : Calls Tryz.prog 54 #[crdV c ev (.slice ad c.trgs.length cap)] w fun x w' => x = .returned (.bool (stillB c)) ∧ Kept No w w' := by
  have hR : stillB c = ((c.power == 0) && (c.tough == 0) && (c.keys == 0) && decide (c.trgs.length = 0)) := rfl
  have HK0 := Lib.hid (Kept.refl No w)
  obtain ⟨n, hn⟩ : ∃ n, c.trgs.length = n := ⟨_, rfl⟩
  obtain ⟨b1, h1⟩ : ∃ a, (c.power == 0) = a := ⟨_, rfl⟩
  obtain ⟨b2, h2⟩ : ∃ a, (c.tough == 0) = a := ⟨_, rfl⟩
  obtain ⟨b3, h3⟩ : ∃ a, (c.keys == 0) = a := ⟨_, rfl⟩
  rw [h1, h2, h3, hn] at hR
  rw [hn]
  have hN : ((n : Int) == 0) = decide (n = 0) := by by_cases h : n = 0 <;> simp [h]
  obtain ⟨b4, h4⟩ : ∃ a, decide (n = 0) = a := ⟨_, rfl⟩
  rw [h4] at hR hN
  have HR := Lib.hid hR
  clear hR h4 hn
  cases b1
  · go_enter Tryz.func54, Tryz.ntmps54
    go_wp2_with fail
    go_ret
    exact ⟨by rw [HR.out]; rfl, HK0.out.alloc _⟩
  · cases b2
    · go_enter Tryz.func54, Tryz.ntmps54
      go_wp2_with fail
      go_ret
      exact ⟨by rw [HR.out]; rfl, HK0.out.alloc _⟩
    · cases b3
      · go_enter Tryz.func54, Tryz.ntmps54
        go_wp2_with fail
        go_ret
        exact ⟨by rw [HR.out]; rfl, HK0.out.alloc _⟩
      · go_enter Tryz.func54, Tryz.ntmps54
        go_wp2_with fail
        go_ret
        exact ⟨by rw [HR.out]; rfl, HK0.out.alloc _⟩
end Go.Proofs.YtclgoilfclmibaaGreatDoor
