/-
  The calls that come in: a slice of structs of an int, a number and bytes: opened to cells. And few.
-/
import Derived.Test.YtkdienebinnopaaWalkK
import Derived.ProofKit
import Derived.OpenShut
import Derived.Deep.Slices
import Derived.Deep.Fields
namespace Go.Proofs.Ytkdienebinnopaa
open Go.ChangeShapes Go.WideShapes Go.ChangeAt Go.RowKit Go.Zn Go.Deep

/-- so many calls lie there: what, number, data -/
def Acts (w : World) (v : Value) (len : Nat) (X : Nat → Int) (N : Nat → Nat) (BS : Nat → List UInt8) : Prop :=
  len ≤ maxLen ∧ ((len = 0 ∧ ∃ ad cap, v = .slice ad 0 cap) ∨ ∃ b off cap, v = .slice (some ⟨b, off, none⟩) len cap ∧ ∀ i, i < len → ∃ d : Value,
    w.cell? ⟨b, off + i * 3, none⟩ = some (.int .i64 (X i)) ∧ w.cell? ⟨b, off + i * 3 + 1, none⟩ = some (.int .u32 (N i : Nat)) ∧ w.cell? ⟨b, off + i * 3 + 2, none⟩ = some d ∧ Rd w (fun _ => True) 1 d (BS i).length (bts (BS i)) ∧ N i < 4294967296)
theorem Acts.kept {w w' : World} {v : Value} {len : Nat} {X : Nat → Int} {N : Nat → Nat} {BS : Nat → List UInt8} (h : Acts w v len X N BS) (hk : Kept No w w') : Acts w' v len X N BS := by
  obtain ⟨hm, h | ⟨b, off, cap, hv, h⟩⟩ := h
  · exact ⟨hm, .inl h⟩
  · refine ⟨hm, .inr ⟨b, off, cap, hv, fun i hi => ?_⟩⟩
    obtain ⟨d, h1, h2, h3, h4, h5⟩ := h i hi
    exact ⟨d, hk.cell h1 (not_no _), hk.cell h2 (not_no _), hk.cell h3 (not_no _), h4.kept hk (fun _ _ _ => not_no _), h5⟩
theorem Acts.slice {w : World} {v : Value} {len : Nat} {X : Nat → Int} {N : Nat → Nat} {BS : Nat → List UInt8} (h : Acts w v len X N BS) : ∃ ad cap, v = .slice ad len cap := by
  obtain ⟨hm, ⟨h0, ad, cap, h⟩ | ⟨b, off, cap, hv, h⟩⟩ := h
  · subst h0; exact ⟨ad, cap, h⟩
  · exact ⟨_, _, hv⟩
theorem Acts.at {w : World} {ad : Option Addr} {len cap : Nat} {X : Nat → Int} {N : Nat → Nat} {BS : Nat → List UInt8} (h : Acts w (.slice ad len cap) len X N BS) {i : Nat} (hi : i < len) :
    ∃ (b off : Nat) (dd : Option Addr) (dc : Nat), ad = some ⟨b, off, none⟩ ∧ w.cell? ⟨b, off + i * 3, none⟩ = some (.int .i64 (X i)) ∧ w.cell? ⟨b, off + i * 3 + 1, none⟩ = some (.int .u32 (N i : Nat)) ∧ w.cell? ⟨b, off + i * 3 + 2, none⟩ = some (.slice dd (BS i).length dc) ∧
      Rd w (fun _ => True) 1 (.slice dd (BS i).length dc) (BS i).length (bts (BS i)) ∧ N i < 4294967296 := by
  obtain ⟨hm, ⟨h0, _⟩ | ⟨b, off, cap, hv, h⟩⟩ := h
  · omega
  · cases hv
    obtain ⟨d, h1, h2, h3, h4, h5⟩ := h i hi
    obtain ⟨dd, dc, rfl⟩ := rd_slice h4
    exact ⟨b, off, dd, dc, rfl, h1, h2, h3, h4, h5⟩

theorem cells5 : Try.prog.cellsOf 5 = 1 := by kernel_rfl
theorem cells45 : Try.prog.cellsOf 45 = 3 := by kernel_rfl
theorem cells3 : Try.prog.cellsOf 3 = 1 := by kernel_rfl
theorem cells29 : Try.prog.cellsOf 29 = 1 := by kernel_rfl
theorem cells36 : Try.prog.cellsOf 36 = 1 := by kernel_rfl
def toBs (zs : List Int) : List UInt8 := zs.map fun z => UInt8.ofNat z.toNat
theorem bts_toBs : ∀ (zs : List Int), (∀ z ∈ zs, 0 ≤ z ∧ z ≤ 255) → bts (toBs zs) = zs.map (Value.int .u8)
  | [], _ => rfl
  | z :: zs, h => by
    have hz := h z (by simp)
    have e1 : (((UInt8.ofNat z.toNat).toNat : Nat) : Int) = z := by
      rw [UInt8.toNat_ofNat']
      omega
    simp only [toBs, bts, List.map_cons, e1]
    congr 1
    exact bts_toBs zs (fun z hz => h z (by simp [hz]))
section
variable {H : Type} {enc : TypeId × Value → H}
/-- bytes, opened -/
theorem bytes_open {W : World} {fuel : Nat} {v : Value} {x : DataW H × List MemPlace} (h : DataW.trod enc Try.prog W 0 (fun _ => true) true fuel 36 [v] = some x) : ∃ bs : List UInt8, Rd W (fun _ => True) 1 v bs.length (bts bs) := by
  rcases open_ints Try.underlying36 Try.underlying5 cells5 h with ⟨hcs, hx⟩ | ⟨a, len, cap, zs, hcs, _, hl, hm, hz, hx, hcell, hwz⟩
  · cases hcs
    exact ⟨[], rd_nil _ _ _⟩
  · cases hcs
    have hz' : zs.length = cap := by simpa using hz
    by_cases hc0 : cap = 0
    · subst hc0
      obtain rfl : len = 0 := by omega
      exact ⟨[], rd_bare _ _ _ _⟩
    · obtain ⟨b, off, sp⟩ := a
      have hsp : sp = none := by
        have := World.cell?_spot (hcell 0 (by omega))
        simpa [Addr.add] using this
      subst hsp
      have hw : ∀ z ∈ zs.take len, 0 ≤ z ∧ z ≤ 255 := fun z hz1 => by
        have := hwz z (List.mem_of_mem_take hz1)
        simp [Lit.wf, IntKind.wrap, IntKind.signed, IntKind.bits, IntKind.min, IntKind.max] at this
        omega
      have hlen : (toBs (zs.take len)).length = len := by simp [toBs]; omega
      refine ⟨toBs (zs.take len), by rw [hlen, bts_toBs _ hw, List.length_map, List.length_take]; omega, by rw [hlen]; omega, .inr ⟨b, off, cap, by rw [hlen], by rw [hlen]; exact hl, fun _ => trivial, fun j u hj => ?_⟩⟩
      rw [bts_toBs _ hw, List.getElem?_map, List.getElem?_take] at hj
      by_cases hjl : j < len
      · rw [if_pos hjl] at hj
        have := hcell j (by omega)
        rw [Addr.add_lit] at this
        rw [this]
        rw [List.getD_eq_getElem?_getD]
        have hjz : j < zs.length := by omega
        rw [List.getElem?_eq_getElem hjz] at hj ⊢
        exact hj
      · rw [if_neg hjl] at hj
        cases hj
/-- a call, opened -/
theorem act_open {W : World} {fuel b off i : Nat} {cs : List Value} {x : DataW H × List MemPlace} (hc : W.cells? 0 ((⟨b, off, none⟩ : Addr).add (i * 3)) 3 = some cs) (h : DataW.trod enc Try.prog W 0 (fun _ => true) true fuel 45 cs = some x) :
    ∃ t : Int × Nat × List UInt8, ∃ d : Value, W.cell? ⟨b, off + i * 3, none⟩ = some (.int .i64 t.1) ∧ W.cell? ⟨b, off + i * 3 + 1, none⟩ = some (.int .u32 (t.2.1 : Nat)) ∧ W.cell? ⟨b, off + i * 3 + 2, none⟩ = some d ∧ Rd W (fun _ => True) 1 d t.2.2.length (bts t.2.2) ∧ t.2.1 < 4294967296 := by
  obtain ⟨_, hlen, hat⟩ := World.cells?_some hc
  match cs, hlen with
  | [c0, c1, c2], _ =>
    obtain ⟨ys, n, _, _, _, hyl, hf⟩ := DataW.trod_struct Try.underlying45 h
    match ys, hyl with
    | [y0, y1, y2], _ =>
      have f0 : DataW.trod enc Try.prog W 0 (fun _ => true) true n 3 [c0] = some y0 := hf 0 _ rfl
      have f1 : DataW.trod enc Try.prog W 0 (fun _ => true) true n 29 [c1] = some y1 := hf 1 _ rfl
      have f2 : DataW.trod enc Try.prog W 0 (fun _ => true) true n 36 [c2] = some y2 := hf 2 _ rfl
      obtain ⟨x0, e0, _, w0⟩ := DataW.trod_int Try.underlying3 f0
      obtain ⟨x1, e1, _, w1⟩ := DataW.trod_int Try.underlying29 f1
      simp at e0 e1
      subst e0; subst e1
      obtain ⟨bs, hbs⟩ := bytes_open (v := c2) f2
      have hw1 : 0 ≤ x1 ∧ x1 < 4294967296 := by
        simp [Lit.wf, IntKind.wrap, IntKind.signed, IntKind.bits, IntKind.min, IntKind.max] at w1
        omega
      obtain ⟨m, rfl⟩ := Int.eq_ofNat_of_zero_le hw1.1
      have a0 := hat 0 (by omega)
      have a1 := hat 1 (by omega)
      have a2 := hat 2 (by omega)
      simp only [Addr.add_lit] at a0 a1 a2
      exact ⟨(x0, m, bs), c2, a0, a1, a2, hbs, show m < 4294967296 by omega⟩
theorem acts_open {W : World} {a0 : Option Addr} {len cap : Nat} {d : DataW H} {ps : List MemPlace} (h : DataW.Trod enc Try.prog W 0 (fun _ => true) true 42 (.slice a0 len cap) d ps) :
    ∃ (X : Nat → Int) (N : Nat → Nat) (BS : Nat → List UInt8), Acts W (.slice a0 len cap) len X N BS := by
  obtain ⟨fuel, hf⟩ := h
  rcases open_slice Try.underlying42 hf with ⟨hcs, _⟩ | ⟨a, len', cap', m, n, D, Pl, hcs, _, hl, hm, hmm, _, hi⟩
  · simp [Value.cells] at hcs
    obtain ⟨rfl, rfl, rfl⟩ := hcs
    exact ⟨fun _ => 0, fun _ => 0, fun _ => [], by simp [maxLen], .inl ⟨rfl, _, _, rfl⟩⟩
  · simp [Value.cells] at hcs
    obtain ⟨rfl, rfl, rfl⟩ := hcs
    have hmc : m = cap := by simpa using hmm
    subst hmc
    by_cases h0 : len = 0
    · subst h0
      exact ⟨fun _ => 0, fun _ => 0, fun _ => [], by simp [maxLen], .inl ⟨rfl, _, _, rfl⟩⟩
    · rw [cells45] at hi
      obtain ⟨b, off, sp⟩ := a
      have hsp : sp = none := by
        obtain ⟨cs', hc', ht'⟩ := hi 0 (by omega)
        obtain ⟨_, hl3, hat⟩ := World.cells?_some hc'
        have h1 := hat 0 (by omega)
        rw [List.getElem?_eq_getElem (show 0 < cs'.length by omega)] at h1
        have := World.cell?_spot h1
        simpa [Addr.add] using this
      subst hsp
      have hall : ∀ i, ∃ t : Int × Nat × List UInt8, i < len → ∃ d : Value, W.cell? ⟨b, off + i * 3, none⟩ = some (.int .i64 t.1) ∧ W.cell? ⟨b, off + i * 3 + 1, none⟩ = some (.int .u32 (t.2.1 : Nat)) ∧ W.cell? ⟨b, off + i * 3 + 2, none⟩ = some d ∧ Rd W (fun _ => True) 1 d t.2.2.length (bts t.2.2) ∧ t.2.1 < 4294967296 := fun i => by
        by_cases hil : i < len
        · obtain ⟨cs', hc', ht'⟩ := hi i (by omega)
          obtain ⟨t, ht⟩ := act_open hc' ht'
          exact ⟨t, fun _ => ht⟩
        · exact ⟨(0, 0, []), fun h => absurd h hil⟩
      obtain ⟨F, hF⟩ := Classical.axiomOfChoice hall
      exact ⟨fun i => (F i).1, fun i => (F i).2.1, fun i => (F i).2.2, by omega, .inr ⟨b, off, m, rfl, fun i hi => hF i hi⟩⟩
end

/-- few -/
def FewPost (len : Nat) (BS : Nat → List UInt8) (w : World) (e : Ending) (w' : World) : Prop := ∃ r : Bool, e = .returned (.bool r) ∧ (r = true → len ≤ 80 ∧ ∀ i, i < len → (BS i).length ≤ 100) ∧ w = w'
def FewRel (len : Nat) (BS : Nat → List UInt8) (i : Value) : Prop := ∃ j : Nat, i = .int .i64 j ∧ j ≤ len ∧ j ≤ 81 ∧ ∀ i, i < j → (BS i).length ≤ 100
set_option maxRecDepth 100000 in
set_option maxHeartbeats 1600000 in
theorem few_any {w : World} {v : Value} {len : Nat} {X : Nat → Int} {N : Nat → Nat} {BS : Nat → List UInt8} (h : Acts w v len X N BS) : Calls Try.prog 15 #[v] w (FewPost len BS w) := by
  obtain ⟨ad, cap, rfl⟩ := h.slice
  have hml : (len : Int) ≤ 9223372036854775807 := by have := h.1; unfold maxLen at this; omega
  have H := Lib.hid h
  clear h
  go_enter Try.func15, Try.ntmps15
  go_wp2_with fail
  go_loop [3] (fun i => FewRel len BS i) (fun i => len - (intOf i).toNat)
  case atStart => exact ⟨0, rfl, Nat.zero_le _, by omega, fun i hi => by omega⟩
  case round =>
    obtain ⟨j, rfl, hj1, hj2, hall⟩ := hrel
    have HA := Lib.hid hall
    have HJ1 := Lib.hid hj1
    have HJ2 := Lib.hid hj2
    clear hall hj1 hj2
    by_cases h1 : j < len
    · have d1 : decide (j < len) = true := by simp; exact h1
      by_cases h2 : j < 81
      · have d2 : decide ((j : Int) < 81) = true := by simp; omega
        obtain ⟨b, off, dd, dc, rfl, _, _, hc, hr, _⟩ := H.out.at h1
        have hj0 : (0 : Int) ≤ (j : Int) := by omega
        have hjl : (j : Int) < (len : Int) := by omega
        have H1 := Lib.hid h1
        have H2 := Lib.hid h2
        by_cases h3 : 100 < (BS j).length
        · have d3 : decide ((100 : Int) < ((BS j).length : Int)) = true := by simp; omega
          generalize hbl : (BS j).length = bl at *
          have HB := Lib.hid hbl
          clear hr h1 h2 h3 hbl
          go_wp2_with fail
          go_ret
          exact ⟨false, rfl, (fun h => by cases h), rfl⟩
        · have d3 : decide ((100 : Int) < ((BS j).length : Int)) = false := by simp; omega
          have H3 := Lib.hid h3
          generalize hbl : (BS j).length = bl at *
          have HB := Lib.hid hbl
          clear hr h1 h2 h3 hbl
          go_wp2_with fail
          go_round
          case rel =>
            have := H1.out
            have := H2.out
            have := HA.out
            have := H3.out
            have := HB.out
            exact ⟨j + 1, by go_num, by omega, by omega, fun i hi => by
              by_cases e : i = j
              · subst e; omega
              · exact HA.out i (by omega)⟩
          case measure => have := H1.out; simp [intOf]; omega
      · have d2 : decide ((j : Int) < 81) = false := by simp; omega
        have d4 : decide ((len : Int) ≤ 80) = false := by simp; omega
        clear h1 h2
        go_wp2_with fail
        go_ret
        exact ⟨false, rfl, (fun h => by cases h), rfl⟩
    · have d1 : decide (j < len) = false := by simp; omega
      have e1 := HJ1.out
      have H1 := Lib.hid h1
      clear h1
      by_cases h4 : len ≤ 80
      · have d4 : decide ((len : Int) ≤ 80) = true := by simp; omega
        have H4 := Lib.hid h4
        clear h4
        go_wp2_with fail
        go_ret
        exact ⟨true, rfl, fun _ => ⟨H4.out, fun i hi => HA.out i (by have := H1.out; omega)⟩, rfl⟩
      · have d4 : decide ((len : Int) ≤ 80) = false := by simp; omega
        clear h4
        go_wp2_with fail
        go_ret
        exact ⟨false, rfl, (fun h => by cases h), rfl⟩
end Go.Proofs.Ytkdienebinnopaa
