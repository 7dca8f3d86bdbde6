/-
  Bracket: the calls that come in: a slice of structs of three ints, opened to cells.
-/
import Derived.Test.YtphlpclhmodekaaDoorWalk9
import Derived.Test.YtphlpclhmodekaaDoorLaidB
import Derived.Deep.Slices
import Derived.Deep.Fields
set_option linter.unusedVariables false
set_option linter.unusedSimpArgs false
namespace Go.Proofs.YtphlpclhmodekaaDoor
open Go.ChangeShapes Go.WideShapes Go.ChangeAt Go.RowKit Go.Zn Go.Deep

theorem cells60 : Tryd.prog.cellsOf 60 = 3 := by kernel_rfl
section
variable {H : Type} {enc : TypeId × Value → H}
set_option maxRecDepth 100000 in
theorem act_open {W : World} {fuel b off i : Nat} {cs : List Value} {x : DataW H × List MemPlace} (hc : W.cells? 0 ((⟨b, off, none⟩ : Addr).add (i * 3)) 3 = some cs) (h : DataW.trod enc Tryd.prog W 0 (fun _ => true) true fuel 60 cs = some x) :
    ∃ t : Int × Int × Int, W.cell? ⟨b, off + i * 3, none⟩ = some (.int .i64 t.1) ∧ W.cell? ⟨b, off + i * 3 + 1, none⟩ = some (.int .i64 t.2.1) ∧ W.cell? ⟨b, off + i * 3 + 2, none⟩ = some (.int .i64 t.2.2) := by
  obtain ⟨_, hlen, hat⟩ := World.cells?_some hc
  match cs, hlen with
  | [c0, c1, c2], _ =>
    obtain ⟨ys, n, _, _, _, hyl, hf⟩ := DataW.trod_struct Tryd.underlying60 h
    match ys, hyl with
    | [y0, y1, y2], _ =>
      have f0 : DataW.trod enc Tryd.prog W 0 (fun _ => true) true n 3 [c0] = some y0 := hf 0 _ rfl
      have f1 : DataW.trod enc Tryd.prog W 0 (fun _ => true) true n 3 [c1] = some y1 := hf 1 _ rfl
      have f2 : DataW.trod enc Tryd.prog W 0 (fun _ => true) true n 3 [c2] = some y2 := hf 2 _ rfl
      obtain ⟨x0, e0, _, w0⟩ := DataW.trod_int Tryd.underlying3 f0
      obtain ⟨x1, e1, _, w1⟩ := DataW.trod_int Tryd.underlying3 f1
      obtain ⟨x2, e2, _, w2⟩ := DataW.trod_int Tryd.underlying3 f2
      simp at e0 e1 e2
      subst e0; subst e1; subst e2
      have a0 := hat 0 (by omega)
      have a1 := hat 1 (by omega)
      have a2 := hat 2 (by omega)
      simp only [Addr.add_lit] at a0 a1 a2
      exact ⟨(x0, x1, x2), a0, a1, a2⟩
theorem acts_open {W : World} {a0 : Option Addr} {len cap : Nat} {d : DataW H} {ps : List MemPlace} (h : DataW.Trod enc Tryd.prog W 0 (fun _ => true) true 56 (.slice a0 len cap) d ps) :
    ∃ X : Nat → Int × Int × Int, Acts W (.slice a0 len cap) len X := by
  obtain ⟨fuel, hf⟩ := h
  rcases open_slice Tryd.underlying56 hf with ⟨hcs, _⟩ | ⟨a, len', cap', m, n, D, Pl, hcs, _, hl, hm, hmm, _, hi⟩
  · simp [Value.cells] at hcs
    obtain ⟨rfl, rfl, rfl⟩ := hcs
    exact ⟨fun _ => (0, 0, 0), .inl ⟨rfl, _, _, rfl⟩⟩
  · simp [Value.cells] at hcs
    obtain ⟨rfl, rfl, rfl⟩ := hcs
    have hmc : m = cap := by simpa using hmm
    subst hmc
    by_cases h0 : len = 0
    · subst h0
      exact ⟨fun _ => (0, 0, 0), .inl ⟨rfl, _, _, rfl⟩⟩
    · rw [cells60] at hi
      obtain ⟨b, off, sp⟩ := a
      have hsp : sp = none := by
        obtain ⟨cs', hc', ht'⟩ := hi 0 (by omega)
        obtain ⟨_, hl3, hat⟩ := World.cells?_some hc'
        have h1 := hat 0 (by omega)
        rw [List.getElem?_eq_getElem (show 0 < cs'.length by omega)] at h1
        have := World.cell?_spot h1
        simpa [Addr.add] using this
      subst hsp
      have hall : ∀ i, ∃ t : Int × Int × Int, i < len → W.cell? ⟨b, off + i * 3, none⟩ = some (.int .i64 t.1) ∧ W.cell? ⟨b, off + i * 3 + 1, none⟩ = some (.int .i64 t.2.1) ∧ W.cell? ⟨b, off + i * 3 + 2, none⟩ = some (.int .i64 t.2.2) := fun i => by
        by_cases hil : i < len
        · obtain ⟨cs', hc', ht'⟩ := hi i (by omega)
          obtain ⟨t, ht⟩ := act_open hc' ht'
          exact ⟨t, fun _ => ht⟩
        · exact ⟨(0, 0, 0), fun h => absurd h hil⟩
      obtain ⟨F, hF⟩ := Classical.axiomOfChoice hall
      exact ⟨F, .inr ⟨b, off, m, rfl, fun i hi => hF i hi⟩⟩
end
end Go.Proofs.YtphlpclhmodekaaDoor
