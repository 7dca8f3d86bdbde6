/-
  Pool: what a slice of cards, and a slice of bytes, that is handed in lies as.
-/
import Derived.Test.YtclgoilfclmibaaGreatDoorLaidA
set_option linter.unusedVariables false
set_option linter.unusedSimpArgs false
namespace Go.Proofs.YtclgoilfclmibaaGreatDoor
open Go Go.ChangeShapes Go.WideShapes Go.ChangeAt Go.RowKit Go.Zn Go.Deep

section
variable {H : Type} {enc : TypeId × Value → H} {P : Program} {w : World} {base : Nat} {spare : Nat → Bool} {held : Bool} {fuel : Nat} {t : TypeId} {cs : List Value} {x : DataW H × List MemPlace}
theorem fld_at {fs : Array Field} (ht : P.underlying t = some (.struct fs)) (h : DataW.trod enc P w base spare held fuel t cs = some x) {i : Nat} {f : Field} (hf : fs[i]? = some f) :
    ∃ n y, DataW.trod enc P w base spare held n f.type ((cs.drop f.offset).take (P.cellsOf f.type)) = some y := by
  obtain ⟨xs, n, _, _, _, hl, hall⟩ := DataW.trod_struct ht h
  have h1 := hall i f hf
  have hi : i < xs.length := by
    rw [hl]
    exact (Array.getElem?_eq_some_iff.1 hf).1
  rw [List.getElem?_eq_getElem hi] at h1
  exact ⟨n, _, h1⟩
theorem fld_sub {fs : Array Field} (ht : P.underlying t = some (.struct fs)) (h : DataW.trod enc P w base spare held fuel t cs = some x) {i : Nat} {f : Field} (hf : fs[i]? = some f) {k : Nat} (hc : P.cellsOf f.type = k) {sub : List Value} (hs : (cs.drop f.offset).take k = sub) :
    ∃ n y, DataW.trod enc P w base spare held n f.type sub = some y := by
  obtain ⟨n, y, h1⟩ := fld_at ht h hf
  rw [hc, hs] at h1
  exact ⟨n, y, h1⟩
theorem fld_one {fs : Array Field} (ht : P.underlying t = some (.struct fs)) (h : DataW.trod enc P w base spare held fuel t cs = some x) {i : Nat} {f : Field} (hf : fs[i]? = some f) (hc : P.cellsOf f.type = 1) {c : Value} (hcs : cs[f.offset]? = some c) :
    ∃ n y, DataW.trod enc P w base spare held n f.type [c] = some y := by
  obtain ⟨n, y, h1⟩ := fld_at ht h hf
  rw [hc] at h1
  obtain ⟨hlt, he⟩ := List.getElem?_eq_some_iff.1 hcs
  rw [List.drop_eq_getElem_cons hlt, he] at h1
  exact ⟨n, y, h1⟩
theorem fld_int {fs : Array Field} (ht : P.underlying t = some (.struct fs)) (h : DataW.trod enc P w base spare held fuel t cs = some x) {i : Nat} {f : Field} (hf : fs[i]? = some f) {k : IntKind} (hu : P.underlying f.type = some (.int k)) (hc : P.cellsOf f.type = 1) {c : Value} (hcs : cs[f.offset]? = some c) :
    ∃ n, c = .int k n ∧ (Lit.int k n).wf = true := by
  obtain ⟨n, y, h1⟩ := fld_one ht h hf hc hcs
  obtain ⟨z, h2, _, h3⟩ := DataW.trod_int hu h1
  exact ⟨z, by injection h2, h3⟩
theorem fld_str {fs : Array Field} (ht : P.underlying t = some (.struct fs)) (h : DataW.trod enc P w base spare held fuel t cs = some x) {i : Nat} {f : Field} (hf : fs[i]? = some f) (hu : P.underlying f.type = some .string) (hc : P.cellsOf f.type = 1) {c : Value} (hcs : cs[f.offset]? = some c) :
    ∃ s : ByteArray, c = .string s ∧ s.size ≤ maxLen := by
  obtain ⟨n, y, h1⟩ := fld_one ht h hf hc hcs
  obtain ⟨z, h2, _, h3⟩ := DataW.trod_string hu h1
  exact ⟨z, by injection h2, h3⟩
theorem arr_int {n : Nat} {e : TypeId} {k : IntKind} (ht : P.underlying t = some (.array n e)) (hu : P.underlying e = some (.int k)) (hc : P.cellsOf e = 1) (h : DataW.trod enc P w base spare held fuel t cs = some x) {i : Nat} (hi : i < n) {c : Value} (hcs : cs[i]? = some c) :
    ∃ z, c = .int k z := by
  obtain ⟨xs, m, _, _, _, hl, hall⟩ := DataW.trod_array ht h
  have h1 := hall i hi
  rw [List.getElem?_eq_getElem (by omega), hc, Nat.mul_one] at h1
  obtain ⟨hlt, he⟩ := List.getElem?_eq_some_iff.1 hcs
  rw [List.drop_eq_getElem_cons hlt, he] at h1
  obtain ⟨z, h2, _, _⟩ := DataW.trod_int hu h1
  exact ⟨z, by injection h2⟩
end
def All : Nat → Prop := fun _ => True
theorem flat_len' {α : Type} (CS : Nat → List α) (k : Nat) : ∀ (is : List Nat), (∀ i, i ∈ is → (CS i).length = k) → (is.flatMap CS).length = is.length * k
  | [], _ => by simp
  | i :: is, h => by
    rw [List.flatMap_cons, List.length_append, h i (.head _), flat_len' CS k is fun j hj => h j (.tail _ hj), List.length_cons, Nat.succ_mul, Nat.add_comm]
theorem flat_get' {α : Type} (CS : Nat → List α) (k : Nat) (hk : 0 < k) : ∀ (n s : Nat), (∀ i, s ≤ i → i < s + n → (CS i).length = k) → ∀ j, j < n * k → ((List.range' s n).flatMap CS)[j]? = (CS (s + j / k))[j % k]?
  | 0, s, _, j, hj => by omega
  | n + 1, s, h, j, hj => by
    have h0 := h s (Nat.le_refl _) (by omega)
    rw [List.range'_succ, List.flatMap_cons]
    by_cases hjk : j < k
    · rw [List.getElem?_append_left (by omega), Nat.div_eq_of_lt hjk, Nat.mod_eq_of_lt hjk]; rfl
    · rw [List.getElem?_append_right (by omega), h0]
      have hj2 : j - k < n * k := by rw [Nat.succ_mul] at hj; omega
      rw [flat_get' CS k hk n (s + 1) (fun i h1 h2 => h i (by omega) (by omega)) (j - k) hj2]
      have e : j = (j - k) + k := by omega
      have e1 : j / k = (j - k) / k + 1 := by rw [e, Nat.add_div_right _ hk, Nat.add_sub_cancel]
      have e2 : j % k = (j - k) % k := by rw [e, Nat.add_mod_right, Nat.add_sub_cancel]
      rw [e1, e2, show s + 1 + (j - k) / k = s + ((j - k) / k + 1) by omega]
theorem rd_of_slice {H : Type} {enc : TypeId × Value → H} {P : Program} {w : World} {held : Bool} {fuel : Nat} {t e : TypeId} {k : Nat} {v : Value} {x : DataW H × List MemPlace} (ht : P.underlying t = some (.slice e)) (hk : P.cellsOf e = k) (hk0 : 0 < k)
    (h : DataW.trod enc P w 0 (fun _ => true) held fuel t [v] = some x) :
    ∃ (len : Nat) (CS : Nat → List Value), (∀ i, i < len → (CS i).length = k ∧ ∃ n y, DataW.trod enc P w 0 (fun _ => true) held n e (CS i) = some y) ∧ Rd w All k v len ((List.range len).flatMap CS) := by
  rcases open_slice ht h with ⟨hcs, _⟩ | ⟨a, len, cap, m, n, D, Pl, hcs, _, hl, hm, hmm, _, hi⟩
  · obtain rfl : v = .slice none 0 0 := by injection hcs
    exact ⟨0, fun _ => [], fun i hi => by omega, rd_nil _ _ _⟩
  · obtain rfl : v = .slice (some a) len cap := by injection hcs
    obtain rfl : m = cap := by simpa using hmm
    by_cases h0 : m = 0
    · obtain rfl : len = 0 := by omega
      subst h0
      exact ⟨0, fun _ => [], fun i hi => by omega, rd_bare _ _ _ _⟩
    · obtain ⟨CS, hCS⟩ := choose_lt (α := List Value) (p := fun i c => w.cells? 0 (a.add (i * P.cellsOf e)) (P.cellsOf e) = some c ∧ DataW.trod enc P w 0 (fun _ => true) held n e c = some (D i, Pl i)) hi
      obtain ⟨b, off, sp⟩ := a
      rw [hk] at hCS
      have hat : ∀ i, i < m → (CS i).length = k ∧ ∀ j, j < k → w.cell? (Addr.add ⟨b, off, sp⟩ (i * k + j)) = (CS i)[j]? := fun i hi => by
        obtain ⟨h1, _⟩ := hCS i hi
        obtain ⟨_, h2, h3⟩ := World.cells?_some h1
        refine ⟨h2, fun j hj => ?_⟩
        have := h3 j hj
        rw [add_add] at this
        exact this
      have hsp : sp = none := by
        obtain ⟨h1, h2⟩ := hat 0 (by omega)
        have h3 := h2 0 hk0
        rw [List.getElem?_eq_getElem (by omega)] at h3
        have := World.cell?_spot h3
        simpa [Addr.add] using this
      subst hsp
      have hlen : ∀ i, i < len → (CS i).length = k := fun i hi => (hat i (by omega)).1
      refine ⟨len, CS, fun i hi => ⟨hlen i hi, n, _, (hCS i (by omega)).2⟩, ?_, by omega, .inr ⟨b, off, m, rfl, hl, fun _ => trivial, fun j u hj => ?_⟩⟩
      · rw [flat_len' CS k _ fun i hi => hlen i (List.mem_range.1 hi), List.length_range]
      · have hjl := (List.getElem?_eq_some_iff.1 hj).1
        rw [flat_len' CS k _ fun i hi => hlen i (List.mem_range.1 hi), List.length_range] at hjl
        rw [List.range_eq_range', flat_get' CS k hk0 len 0 (fun i _ h2 => hlen i (by omega)) j hjl, Nat.zero_add] at hj
        have hd : j / k < len := Nat.div_lt_of_lt_mul (by rw [Nat.mul_comm]; exact hjl)
        have := (hat (j / k) (by omega)).2 (j % k) (Nat.mod_lt _ hk0)
        rw [hj, show j / k * k + j % k = j by rw [Nat.mul_comm]; exact Nat.div_add_mod j k, Addr.add_lit] at this
        exact this
theorem one3 : Tryz.prog.cellsOf 3 = 1 := by kernel_rfl
theorem one9 : Tryz.prog.cellsOf 9 = 1 := by kernel_rfl
theorem cell_of_len {cs : List Value} {n i : Nat} (h : cs.length = n) (hi : i < n) : ∃ c, cs[i]? = some c := ⟨_, List.getElem?_eq_getElem (by omega)⟩
instance : Inhabited Eff := ⟨⟨0, 0, 0, 0, 0⟩⟩
instance : Inhabited Trg := ⟨⟨0, []⟩⟩
instance : Inhabited Crd := ⟨⟨[], 0, 0, 0, 0, 0, 0, 0, 0, 0, 0, [], [], 0⟩⟩
theorem effs_of {H : Type} {enc : TypeId × Value → H} {w : World} {held : Bool} {fuel : Nat} {v : Value} {x : DataW H × List MemPlace}
    (h : DataW.trod enc Tryz.prog w 0 (fun _ => true) held fuel 43 [v] = some x) : ∃ l : List Eff, EffsAt w All v l := by
  obtain ⟨len, CS, hc, hr⟩ := rd_of_slice Tryz.underlying43 (by kernel_rfl : Tryz.prog.cellsOf 50 = 5) (by decide) h
  obtain ⟨E, hE⟩ := choose_lt (α := Eff) (p := fun i e => CS i = effCs e) (n := len) (fun i hi => by
    obtain ⟨hl, n, y, ht⟩ := hc i hi
    generalize CS i = cs at hl ht
    match cs, hl with
    | [c0, c1, c2, c3, c4], _ =>
      obtain ⟨n0, rfl, _⟩ := fld_int Tryz.underlying50 ht (i := 0) rfl Tryz.underlying47 (by kernel_rfl) rfl
      obtain ⟨n1, rfl, _⟩ := fld_int Tryz.underlying50 ht (i := 1) rfl Tryz.underlying48 (by kernel_rfl) rfl
      obtain ⟨n2, rfl, _⟩ := fld_int Tryz.underlying50 ht (i := 2) rfl Tryz.underlying3 (by kernel_rfl) rfl
      obtain ⟨n3, rfl, _⟩ := fld_int Tryz.underlying50 ht (i := 3) rfl Tryz.underlying3 (by kernel_rfl) rfl
      obtain ⟨n4, rfl, _⟩ := fld_int Tryz.underlying50 ht (i := 4) rfl Tryz.underlying41 (by kernel_rfl) rfl
      exact ⟨⟨n0, n1, n2, n3, n4⟩, rfl⟩)
  refine ⟨(List.range len).map E, ?_⟩
  unfold EffsAt effsCs
  rw [List.length_map, List.length_range, List.flatMap_map]
  rw [flatMap_congr_range hE] at hr
  exact hr
theorem trgsC_of {w : World} {B : Nat → Prop} {CS : Nat → List Value} {T : Nat → Trg} : ∀ (is : List Nat), (∀ i, i ∈ is → ∃ v, CS i = [.int .i64 (T i).when, v] ∧ EffsAt w B v (T i).effs) → TrgsC w B (is.map T) (is.flatMap CS)
  | [], _ => rfl
  | i :: is, h => by
    obtain ⟨v, h1, h2⟩ := h i (.head _)
    exact ⟨v, is.flatMap CS, by rw [List.flatMap_cons, h1]; rfl, h2, trgsC_of is fun j hj => h j (.tail _ hj)⟩
theorem trgs_of {H : Type} {enc : TypeId × Value → H} {w : World} {held : Bool} {fuel : Nat} {v : Value} {x : DataW H × List MemPlace}
    (h : DataW.trod enc Tryz.prog w 0 (fun _ => true) held fuel 44 [v] = some x) : ∃ l : List Trg, TrgsAt w All v l := by
  obtain ⟨len, CS, hc, hr⟩ := rd_of_slice Tryz.underlying44 (by kernel_rfl : Tryz.prog.cellsOf 71 = 2) (by decide) h
  obtain ⟨T, hT⟩ := choose_lt (α := Trg) (p := fun i t => ∃ v, CS i = [.int .i64 t.when, v] ∧ EffsAt w All v t.effs) (n := len) (fun i hi => by
    obtain ⟨hl, n, y, ht⟩ := hc i hi
    generalize CS i = cs at hl ht
    match cs, hl with
    | [c0, c1], _ =>
      obtain ⟨n0, rfl, _⟩ := fld_int Tryz.underlying71 ht (i := 0) rfl Tryz.underlying69 (by kernel_rfl) rfl
      obtain ⟨m, z, h1⟩ := fld_one Tryz.underlying71 ht (i := 1) rfl (by kernel_rfl) rfl
      obtain ⟨l, hl⟩ := effs_of h1
      exact ⟨⟨n0, l⟩, c1, rfl, hl⟩)
  refine ⟨(List.range len).map T, _, ?_, trgsC_of (List.range len) fun i hi => hT i (List.mem_range.1 hi)⟩
  rw [List.length_map, List.length_range]
  exact hr
theorem crdsC_of {w : World} {B : Nat → Prop} {CS : Nat → List Value} {T : Nat → Crd} : ∀ (is : List Nat), (∀ i, i ∈ is → ∃ ev tv, CS i = crdCs (T i) ev tv ∧ CrdAt w B (T i) ev tv) → CrdsC w B (is.map T) (is.flatMap CS)
  | [], _ => rfl
  | i :: is, h => by
    obtain ⟨ev, tv, h1, h2⟩ := h i (.head _)
    exact ⟨ev, tv, is.flatMap CS, by rw [List.flatMap_cons, h1], h2, crdsC_of is fun j hj => h j (.tail _ hj)⟩
set_option maxRecDepth 100000 in
theorem crds_of {H : Type} {enc : TypeId × Value → H} {w : World} {held : Bool} {fuel : Nat} {v : Value} {x : DataW H × List MemPlace}
    (h : DataW.trod enc Tryz.prog w 0 (fun _ => true) held fuel 22 [v] = some x) : ∃ l : List Crd, CrdsAt w All v l ∧ ∀ c ∈ l, -9223372036854775808 ≤ c.keys ∧ c.keys ≤ 9223372036854775807 := by
  obtain ⟨len, CS, hc, hr⟩ := rd_of_slice Tryz.underlying22 (by kernel_rfl : Tryz.prog.cellsOf 46 = 14) (by decide) h
  obtain ⟨T, hT⟩ := choose_lt (α := Crd) (p := fun i c => (∃ ev tv, CS i = crdCs c ev tv ∧ CrdAt w All c ev tv) ∧ -9223372036854775808 ≤ c.keys ∧ c.keys ≤ 9223372036854775807) (n := len) (fun i hi => by
    obtain ⟨hl, n, y, ht⟩ := hc i hi
    generalize CS i = cs at hl ht
    match cs, hl with
    | [c0, c1, c2, c3, c4, c5, c6, c7, c8, c9, c10, c11, c12, c13], _ =>
      obtain ⟨s0, rfl, _⟩ := fld_str Tryz.underlying46 ht (i := 0) rfl Tryz.underlying9 one9 rfl
      obtain ⟨n1, rfl, _⟩ := fld_int Tryz.underlying46 ht (i := 1) rfl Tryz.underlying36 (by kernel_rfl) rfl
      obtain ⟨m2, y2, h2⟩ := fld_sub Tryz.underlying46 ht (i := 2) rfl (k := 5) (by kernel_rfl) (sub := [c2, c3, c4, c5, c6]) rfl
      obtain ⟨a, rfl, _⟩ := fld_int Tryz.underlying40 h2 (i := 1) rfl Tryz.underlying3 one3 rfl
      obtain ⟨m3, y3, h3⟩ := fld_sub Tryz.underlying40 h2 (i := 0) rfl (k := 4) (by kernel_rfl) (sub := [c2, c3, c4, c5]) rfl
      obtain ⟨o0, rfl⟩ := arr_int Tryz.underlying38 Tryz.underlying3 one3 h3 (i := 0) (by decide) rfl
      obtain ⟨o1, rfl⟩ := arr_int Tryz.underlying38 Tryz.underlying3 one3 h3 (i := 1) (by decide) rfl
      obtain ⟨o2, rfl⟩ := arr_int Tryz.underlying38 Tryz.underlying3 one3 h3 (i := 2) (by decide) rfl
      obtain ⟨o3, rfl⟩ := arr_int Tryz.underlying38 Tryz.underlying3 one3 h3 (i := 3) (by decide) rfl
      obtain ⟨mk, rfl, _⟩ := fld_int Tryz.underlying46 ht (i := 3) rfl Tryz.underlying41 (by kernel_rfl) rfl
      obtain ⟨pw, rfl, _⟩ := fld_int Tryz.underlying46 ht (i := 4) rfl Tryz.underlying3 one3 rfl
      obtain ⟨tg, rfl, _⟩ := fld_int Tryz.underlying46 ht (i := 5) rfl Tryz.underlying3 one3 rfl
      obtain ⟨ky, rfl, hky⟩ := fld_int Tryz.underlying46 ht (i := 6) rfl Tryz.underlying42 (by kernel_rfl) rfl
      obtain ⟨m7, y7, h7⟩ := fld_one Tryz.underlying46 ht (i := 7) rfl (by kernel_rfl) rfl
      obtain ⟨m8, y8, h8⟩ := fld_one Tryz.underlying46 ht (i := 8) rfl (by kernel_rfl) rfl
      obtain ⟨rr, rfl, _⟩ := fld_int Tryz.underlying46 ht (i := 9) rfl Tryz.underlying3 one3 rfl
      obtain ⟨el, hel⟩ := effs_of h7
      obtain ⟨tl, htl⟩ := trgs_of h8
      refine ⟨⟨s0.data.toList, n1, o0, o1, o2, o3, a, mk, pw, tg, ky, el, tl, rr⟩, ⟨c11, c12, rfl, ⟨hel, htl⟩⟩, ?_⟩
      have := hky
      simp [Lit.wf, IntKind.min, IntKind.max, IntKind.signed, IntKind.bits] at this
      show -9223372036854775808 ≤ ky ∧ ky ≤ 9223372036854775807
      omega)
  refine ⟨(List.range len).map T, ⟨_, ?_, crdsC_of (List.range len) fun i hi => (hT i (List.mem_range.1 hi)).1⟩, fun c hc => ?_⟩
  · rw [List.length_map, List.length_range]
    exact hr
  · obtain ⟨i, hi, rfl⟩ := List.mem_map.1 hc
    exact (hT i (List.mem_range.1 hi)).2
theorem bytes_of {H : Type} {enc : TypeId × Value → H} {w : World} {held : Bool} {fuel : Nat} {v : Value} {x : DataW H × List MemPlace}
    (h : DataW.trod enc Tryz.prog w 0 (fun _ => true) held fuel 51 [v] = some x) : ∃ l : List UInt8, Rd w All 1 v l.length (bts l) := by
  obtain ⟨len, CS, hc, hr⟩ := rd_of_slice Tryz.underlying51 (by kernel_rfl : Tryz.prog.cellsOf 5 = 1) (by decide) h
  obtain ⟨E, hE⟩ := choose_lt (α := UInt8) (p := fun i e => CS i = [Value.int .u8 e.toNat]) (n := len) (fun i hi => by
    obtain ⟨hl, n, y, ht⟩ := hc i hi
    generalize CS i = cs at hl ht
    match cs, hl with
    | [c0], _ =>
      obtain ⟨z, h2, _, h3⟩ := DataW.trod_int Tryz.underlying5 ht
      obtain rfl : c0 = .int .u8 z := by injection h2
      simp [Lit.wf, IntKind.min, IntKind.max, IntKind.signed, IntKind.bits] at h3
      refine ⟨UInt8.ofNat z.toNat, ?_⟩
      have hz : ((UInt8.ofNat z.toNat).toNat : Int) = z := by
        rw [UInt8.toNat_ofNat']
        omega
      rw [hz])
  refine ⟨(List.range len).map E, ?_⟩
  rw [List.length_map, List.length_range]
  rw [flatMap_congr_range hE] at hr
  have he : (List.range len).flatMap (fun i => [Value.int .u8 (E i).toNat]) = bts ((List.range len).map E) := by
    unfold bts
    rw [List.map_map, List.flatMap_def]
    induction List.range len with
    | nil => rfl
    | cons a l ih => simpa using ih
  rw [he] at hr
  exact hr
end Go.Proofs.YtclgoilfclmibaaGreatDoor
