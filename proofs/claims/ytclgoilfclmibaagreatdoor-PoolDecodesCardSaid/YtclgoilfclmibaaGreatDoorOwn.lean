/-
  Pool: effects, triggers and cards in rows of the call's own; lists of cards as they lie.
-/
import Derived.Test.YtclgoilfclmibaaGreatDoorWalkM
import Derived.Deep.MidRow
import Derived.Laws.Tables
set_option linter.unusedVariables false
set_option linter.unusedSimpArgs false
namespace Go.Proofs.YtclgoilfclmibaaGreatDoor
open Go.RowKit Go.Zn

theorem _root_.Go.Zn.Kept.setRow {S : Nat → Prop} {a b : World} (h : Kept S a b) {g : Nat} (hp : g < a.heap.size → S g) (cs : Array Value) : Kept S a (b.setRow g cs) :=
  ⟨h.os, h.tape, h.output, by have := h.size; simp [World.setRow]; omega, fun i hi hn => by
    by_cases e : i = g
    · subst e; exact absurd (hp hi) hn
    · exact (setRow_other b g i cs e).trans (h.block i hi hn)⟩
/-- a row of one kind of cells -/
def Tag (w : World) (t : TypeId) (k : Nat) : Prop := ∃ cs, w.heap[k]? = some (.cells cs t (0, 0))
theorem Tag.ne {w : World} {t t' : TypeId} {k : Nat} (h : Tag w t k) (hne : t ≠ t') : ¬ Tag w t' k := fun ⟨cs, h2⟩ => by
  obtain ⟨cs1, h1⟩ := h
  rw [h1] at h2
  cases h2
  exact hne rfl
theorem owned_tag {w : World} {base e size : Nat} {v : Value} {n : Nat} {xs : List Value} (h : w.ownsRow base e size v n xs) {k : Nat} (hk : v.ownBlock = some k) : Tag w e k := by
  obtain ⟨_, ⟨hv, _⟩ | ⟨g, cap, cur, hv, _, hh, _⟩⟩ := h
  · subst hv; cases hk
  · subst hv; cases hk; exact ⟨cur, hh⟩
/-- blocks that hold no row of a kind -/
def NoTag (w : World) (t : TypeId) (S : Nat → Prop) : Prop := ∀ k, k < w.heap.size → S k → ¬ Tag w t k
theorem NoTag.no (w : World) (t : TypeId) : NoTag w t No := fun _ _ h => h.elim
theorem NoTag.of_tag {w : World} {t t' : TypeId} (hne : t ≠ t') : NoTag w t' (Tag w t) := fun _ _ h => h.ne hne
theorem NoTag.of_row {w : World} {base e size : Nat} {v : Value} {n : Nat} {xs : List Value} (h : w.ownsRow base e size v n xs) {t' : TypeId} (hne : e ≠ t') : NoTag w t' (fun k => v.ownBlock = some k) := fun _ _ hk => (owned_tag h hk).ne hne
theorem owned_notag {S : Nat → Prop} {w w' : World} {base e size : Nat} {v : Value} {n : Nat} {xs : List Value} (h : w.ownsRow base e size v n xs) (hk : Kept S w w') (hS : NoTag w e S) : w'.ownsRow base e size v n xs :=
  owned_kept h hk fun b hb hv hs => hS b hb hs (owned_tag h hv)

/-- effects in a row of the call's own -/
def OwnE (w : World) (base : Nat) (v : Value) (l : List Eff) : Prop := w.ownsRow base 50 5 v l.length (effsCs l)
def OwnTC (w : World) (base : Nat) : List Trg → List Value → Prop
  | [], cs => cs = []
  | t :: l, cs => ∃ v r, cs = .int .i64 t.when :: v :: r ∧ OwnE w base v t.effs ∧ OwnTC w base l r
def OwnT (w : World) (base : Nat) (v : Value) (l : List Trg) : Prop := ∃ cs, w.ownsRow base 71 2 v l.length cs ∧ OwnTC w base l cs
structure OwnC (w : World) (base : Nat) (c : Crd) (ev tv : Value) : Prop where
  effs : OwnE w base ev c.effs
  trgs : OwnT w base tv c.trgs
def OwnCC (w : World) (base : Nat) : List Crd → List Value → Prop
  | [], cs => cs = []
  | c :: l, cs => ∃ ev tv r, cs = crdCs c ev tv ++ r ∧ OwnC w base c ev tv ∧ OwnCC w base l r
def OwnCs (w : World) (base : Nat) (v : Value) (l : List Crd) : Prop := ∃ cs, w.ownsRow base 46 14 v l.length cs ∧ OwnCC w base l cs
theorem OwnE.kept {S : Nat → Prop} {w w' : World} {base : Nat} {v : Value} {l : List Eff} (h : OwnE w base v l) (hk : Kept S w w') (hS : NoTag w 50 S) : OwnE w' base v l := owned_notag h hk hS
theorem OwnTC.kept {S : Nat → Prop} {w w' : World} {base : Nat} (hk : Kept S w w') (hS : NoTag w 50 S) : ∀ {l : List Trg} {cs : List Value}, OwnTC w base l cs → OwnTC w' base l cs
  | [], _, h => h
  | _ :: _, _, ⟨v, r, h1, h2, h3⟩ => ⟨v, r, h1, h2.kept hk hS, OwnTC.kept hk hS h3⟩
theorem OwnT.kept {S : Nat → Prop} {w w' : World} {base : Nat} {v : Value} {l : List Trg} (h : OwnT w base v l) (hk : Kept S w w') (hS : NoTag w 50 S) (hT : NoTag w 71 S) : OwnT w' base v l := by
  obtain ⟨cs, h1, h2⟩ := h
  exact ⟨cs, owned_notag h1 hk hT, h2.kept hk hS⟩
theorem OwnC.kept {S : Nat → Prop} {w w' : World} {base : Nat} {c : Crd} {ev tv : Value} (h : OwnC w base c ev tv) (hk : Kept S w w') (hS : NoTag w 50 S) (hT : NoTag w 71 S) : OwnC w' base c ev tv := ⟨h.effs.kept hk hS, h.trgs.kept hk hS hT⟩
theorem OwnCC.kept {S : Nat → Prop} {w w' : World} {base : Nat} (hk : Kept S w w') (hS : NoTag w 50 S) (hT : NoTag w 71 S) : ∀ {l : List Crd} {cs : List Value}, OwnCC w base l cs → OwnCC w' base l cs
  | [], _, h => h
  | _ :: _, _, ⟨ev, tv, r, h1, h2, h3⟩ => ⟨ev, tv, r, h1, h2.kept hk hS hT, OwnCC.kept hk hS hT h3⟩
theorem OwnCs.kept {S : Nat → Prop} {w w' : World} {base : Nat} {v : Value} {l : List Crd} (h : OwnCs w base v l) (hk : Kept S w w') (hS : NoTag w 50 S) (hT : NoTag w 71 S) (hC : NoTag w 46 S) : OwnCs w' base v l := by
  obtain ⟨cs, h1, h2⟩ := h
  exact ⟨cs, owned_notag h1 hk hC, h2.kept hk hS hT⟩
theorem OwnE.no {w w' : World} {base : Nat} {v : Value} {l : List Eff} (h : OwnE w base v l) (hk : Kept No w w') : OwnE w' base v l := h.kept hk (.no _ _)
theorem OwnT.no {w w' : World} {base : Nat} {v : Value} {l : List Trg} (h : OwnT w base v l) (hk : Kept No w w') : OwnT w' base v l := h.kept hk (.no _ _) (.no _ _)
theorem OwnC.no {w w' : World} {base : Nat} {c : Crd} {ev tv : Value} (h : OwnC w base c ev tv) (hk : Kept No w w') : OwnC w' base c ev tv := h.kept hk (.no _ _) (.no _ _)
theorem OwnCs.no {w w' : World} {base : Nat} {v : Value} {l : List Crd} (h : OwnCs w base v l) (hk : Kept No w w') : OwnCs w' base v l := h.kept hk (.no _ _) (.no _ _) (.no _ _)
theorem OwnE.mono {w : World} {base base' : Nat} {v : Value} {l : List Eff} (h : OwnE w base v l) (hb : base' ≤ base) : OwnE w base' v l := owned_mono h hb
theorem OwnTC.mono {w : World} {base base' : Nat} (hb : base' ≤ base) : ∀ {l : List Trg} {cs : List Value}, OwnTC w base l cs → OwnTC w base' l cs
  | [], _, h => h
  | _ :: _, _, ⟨v, r, h1, h2, h3⟩ => ⟨v, r, h1, h2.mono hb, OwnTC.mono hb h3⟩
theorem OwnT.mono {w : World} {base base' : Nat} {v : Value} {l : List Trg} (h : OwnT w base v l) (hb : base' ≤ base) : OwnT w base' v l := by
  obtain ⟨cs, h1, h2⟩ := h
  exact ⟨cs, owned_mono h1 hb, h2.mono hb⟩
theorem OwnC.mono {w : World} {base base' : Nat} {c : Crd} {ev tv : Value} (h : OwnC w base c ev tv) (hb : base' ≤ base) : OwnC w base' c ev tv := ⟨h.effs.mono hb, h.trgs.mono hb⟩
theorem OwnE.at {w : World} {base : Nat} {v : Value} {l : List Eff} (h : OwnE w base v l) : EffsAt w (fun k => base ≤ k) v l := rd_owned h
theorem OwnTC.at {w : World} {base : Nat} : ∀ {l : List Trg} {cs : List Value}, OwnTC w base l cs → TrgsC w (fun k => base ≤ k) l cs
  | [], _, h => h
  | _ :: _, _, ⟨v, r, h1, h2, h3⟩ => ⟨v, r, h1, h2.at, OwnTC.at h3⟩
theorem OwnT.at {w : World} {base : Nat} {v : Value} {l : List Trg} (h : OwnT w base v l) : TrgsAt w (fun k => base ≤ k) v l := by
  obtain ⟨cs, h1, h2⟩ := h
  exact ⟨cs, rd_owned h1, h2.at⟩
theorem OwnC.at {w : World} {base : Nat} {c : Crd} {ev tv : Value} (h : OwnC w base c ev tv) : CrdAt w (fun k => base ≤ k) c ev tv := ⟨h.effs.at, h.trgs.at⟩

/- lists of cards as they lie -/
def CrdsC (w : World) (B : Nat → Prop) : List Crd → List Value → Prop
  | [], cs => cs = []
  | c :: l, cs => ∃ ev tv r, cs = crdCs c ev tv ++ r ∧ CrdAt w B c ev tv ∧ CrdsC w B l r
def CrdsAt (w : World) (B : Nat → Prop) (v : Value) (l : List Crd) : Prop := ∃ cs, Rd w B 14 v l.length cs ∧ CrdsC w B l cs
theorem OwnCC.at {w : World} {base : Nat} : ∀ {l : List Crd} {cs : List Value}, OwnCC w base l cs → CrdsC w (fun k => base ≤ k) l cs
  | [], _, h => h
  | _ :: _, _, ⟨ev, tv, r, h1, h2, h3⟩ => ⟨ev, tv, r, h1, h2.at, OwnCC.at h3⟩
theorem OwnCs.at {w : World} {base : Nat} {v : Value} {l : List Crd} (h : OwnCs w base v l) : CrdsAt w (fun k => base ≤ k) v l := by
  obtain ⟨cs, h1, h2⟩ := h
  exact ⟨cs, rd_owned h1, h2.at⟩
theorem EffsAt.kept {S B : Nat → Prop} {w w' : World} {v : Value} {l : List Eff} (h : EffsAt w B v l) (hk : Kept S w w') (hB : ∀ b, b < w.heap.size → B b → ¬ S b) : EffsAt w' B v l := Rd.kept h hk hB
theorem TrgsC.kept {S B : Nat → Prop} {w w' : World} (hk : Kept S w w') (hB : ∀ b, b < w.heap.size → B b → ¬ S b) : ∀ {l : List Trg} {cs : List Value}, TrgsC w B l cs → TrgsC w' B l cs
  | [], _, h => h
  | _ :: _, _, ⟨v, r, h1, h2, h3⟩ => ⟨v, r, h1, h2.kept hk hB, TrgsC.kept hk hB h3⟩
theorem CrdAt.kept {S B : Nat → Prop} {w w' : World} {c : Crd} {ev tv : Value} (h : CrdAt w B c ev tv) (hk : Kept S w w') (hB : ∀ b, b < w.heap.size → B b → ¬ S b) : CrdAt w' B c ev tv := by
  obtain ⟨h1, cs, h2, h3⟩ := h
  exact ⟨h1.kept hk hB, cs, h2.kept hk hB, h3.kept hk hB⟩
theorem CrdsC.kept {S B : Nat → Prop} {w w' : World} (hk : Kept S w w') (hB : ∀ b, b < w.heap.size → B b → ¬ S b) : ∀ {l : List Crd} {cs : List Value}, CrdsC w B l cs → CrdsC w' B l cs
  | [], _, h => h
  | _ :: _, _, ⟨ev, tv, r, h1, h2, h3⟩ => ⟨ev, tv, r, h1, h2.kept hk hB, CrdsC.kept hk hB h3⟩
theorem CrdsAt.kept {S B : Nat → Prop} {w w' : World} {v : Value} {l : List Crd} (h : CrdsAt w B v l) (hk : Kept S w w') (hB : ∀ b, b < w.heap.size → B b → ¬ S b) : CrdsAt w' B v l := by
  obtain ⟨cs, h1, h2⟩ := h
  exact ⟨cs, h1.kept hk hB, h2.kept hk hB⟩
theorem CrdsAt.no {w w' : World} {B : Nat → Prop} {v : Value} {l : List Crd} (h : CrdsAt w B v l) (hk : Kept No w w') : CrdsAt w' B v l := h.kept hk fun _ _ _ => not_no _
theorem EffsAt.mono {B C : Nat → Prop} {w : World} {v : Value} {l : List Eff} (h : EffsAt w B v l) (hB : ∀ b, b < w.heap.size → B b → C b) : EffsAt w C v l := Rd.mono h hB
theorem TrgsC.mono {B C : Nat → Prop} {w : World} (hB : ∀ b, b < w.heap.size → B b → C b) : ∀ {l : List Trg} {cs : List Value}, TrgsC w B l cs → TrgsC w C l cs
  | [], _, h => h
  | _ :: _, _, ⟨v, r, h1, h2, h3⟩ => ⟨v, r, h1, h2.mono hB, TrgsC.mono hB h3⟩
theorem CrdAt.mono {B C : Nat → Prop} {w : World} {c : Crd} {ev tv : Value} (h : CrdAt w B c ev tv) (hB : ∀ b, b < w.heap.size → B b → C b) : CrdAt w C c ev tv := by
  obtain ⟨h1, cs, h2, h3⟩ := h
  exact ⟨h1.mono hB, cs, h2.mono hB, h3.mono hB⟩
theorem CrdsC.mono {B C : Nat → Prop} {w : World} (hB : ∀ b, b < w.heap.size → B b → C b) : ∀ {l : List Crd} {cs : List Value}, CrdsC w B l cs → CrdsC w C l cs
  | [], _, h => h
  | _ :: _, _, ⟨ev, tv, r, h1, h2, h3⟩ => ⟨ev, tv, r, h1, h2.mono hB, CrdsC.mono hB h3⟩
theorem CrdsAt.mono {B C : Nat → Prop} {w : World} {v : Value} {l : List Crd} (h : CrdsAt w B v l) (hB : ∀ b, b < w.heap.size → B b → C b) : CrdsAt w C v l := by
  obtain ⟨cs, h1, h2⟩ := h
  exact ⟨cs, h1.mono hB, h2.mono hB⟩
theorem CrdsAt.slice {w : World} {B : Nat → Prop} {v : Value} {l : List Crd} (h : CrdsAt w B v l) : ∃ ad cap, v = .slice ad l.length cap := by
  obtain ⟨cs, h1, _⟩ := h
  exact rd_slice h1
theorem crdCs_len (c : Crd) (ev tv : Value) : (crdCs c ev tv).length = 14 := rfl
theorem CrdsC.at {w : World} {B : Nat → Prop} : ∀ {l : List Crd} {cs : List Value}, CrdsC w B l cs → ∀ {i : Nat} {c : Crd}, l[i]? = some c → ∃ ev tv, (∀ j, j < 14 → cs[i * 14 + j]? = (crdCs c ev tv)[j]?) ∧ CrdAt w B c ev tv
  | [], _, _, i, c, h => by simp at h
  | x :: l, _, ⟨ev, tv, r, h1, h2, h3⟩, 0, c, h => by
    obtain rfl : x = c := by simpa using h
    exact ⟨ev, tv, fun j hj => by rw [h1, Nat.zero_mul, Nat.zero_add, List.getElem?_append_left (by rw [crdCs_len]; exact hj)], h2⟩
  | x :: l, _, ⟨ev, tv, r, h1, h2, h3⟩, i + 1, c, h => by
    obtain ⟨ev', tv', q1, q2⟩ := h3.at (i := i) (c := c) (by simpa using h)
    refine ⟨ev', tv', fun j hj => ?_, q2⟩
    rw [h1, List.getElem?_append_right (by rw [crdCs_len]; omega), crdCs_len, show (i + 1) * 14 + j - 14 = i * 14 + j by omega]
    exact q1 j hj
theorem CrdsAt.at {w : World} {B : Nat → Prop} {v : Value} {l : List Crd} (h : CrdsAt w B v l) {i : Nat} {c : Crd} (hi : l[i]? = some c) : ∃ b off cap ev tv, v = .slice (some ⟨b, off, none⟩) l.length cap ∧ l.length ≤ cap ∧
    w.rangeAt b (off + i * 14) (crdCs c ev tv) ∧ CrdAt w B c ev tv := by
  have hlt := (List.getElem?_eq_some_iff.1 hi).1
  obtain ⟨cs, ⟨_, _, ⟨_, h0⟩ | ⟨b, off, cap, he, hle, _, hc⟩⟩, ht⟩ := h
  · omega
  · obtain ⟨ev, tv, q1, q2⟩ := ht.at hi
    refine ⟨b, off, cap, ev, tv, he, hle, fun j u hj => ?_, q2⟩
    have hj14 : j < 14 := (List.getElem?_eq_some_iff.1 hj).1
    have := hc (i * 14 + j) u ((q1 j hj14).trans hj)
    rw [← Nat.add_assoc] at this
    exact this
theorem OwnCC.snoc {w : World} {base : Nat} : ∀ {l : List Crd} {cs : List Value}, OwnCC w base l cs → ∀ {c : Crd} {ev tv : Value}, OwnC w base c ev tv → OwnCC w base (l ++ [c]) (cs ++ crdCs c ev tv)
  | [], _, h, c, ev, tv, hc => by
    rw [show _ = [] from h]
    exact ⟨ev, tv, [], by simp, hc, rfl⟩
  | x :: l, _, ⟨ev', tv', r, h1, h2, h3⟩, c, ev, tv, hc => by
    rw [h1, List.append_assoc]
    exact ⟨ev', tv', r ++ crdCs c ev tv, rfl, h2, h3.snoc hc⟩
theorem EffsAt.nil (w : World) (B : Nat → Prop) : EffsAt w B (.slice none 0 0) [] := rd_nil w B 5
theorem TrgsAt.nil (w : World) (B : Nat → Prop) : TrgsAt w B (.slice none 0 0) [] := ⟨[], rd_nil w B 2, rfl⟩
theorem CrdsAt.nil (w : World) (B : Nat → Prop) : CrdsAt w B (.slice none 0 0) [] := ⟨[], rd_nil w B 14, rfl⟩
end Go.Proofs.YtclgoilfclmibaaGreatDoor
