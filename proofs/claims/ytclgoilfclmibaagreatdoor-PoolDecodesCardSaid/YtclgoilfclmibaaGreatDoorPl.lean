/-
  Pool: pools as they lie; zero, Len, Find.
-/
import Derived.Test.YtclgoilfclmibaaGreatDoorCq
import Derived.Test.YtclgoilfclmibaaGreatDoorN
import Derived.Maps.Views
import Derived.Maps.OwnSet
import Derived.Laws.Cover3
set_option linter.unusedVariables false
set_option linter.unusedSimpArgs false
namespace Go.Proofs.YtclgoilfclmibaaGreatDoor
open Go.RowKit Go.Zn
attribute [local go_sem] Oper.semAt_some

def nmAt (l : List Crd) (s : List UInt8) : Option Nat := l.findIdx? fun c => c.name == s
theorem nmAt_snoc (l : List Crd) (c : Crd) (s : List UInt8) : nmAt (l ++ [c]) s = (nmAt l s).or (if c.name = s then some l.length else none) := by
  unfold nmAt
  rw [List.findIdx?_append]
  congr 1
  by_cases h : c.name = s <;> simp [h]
theorem nmAt_none {l : List Crd} {s : List UInt8} : nmAt l s = none ↔ s ∉ names l := by
  unfold nmAt names
  rw [List.findIdx?_eq_none_iff]
  simp only [List.mem_map, not_exists, not_and, beq_eq_false_iff_ne]
theorem nmAt_lt {l : List Crd} {s : List UInt8} {i : Nat} (h : nmAt l s = some i) : i < l.length := by
  unfold nmAt at h
  exact (List.findIdx?_eq_some_iff_getElem.1 h).1
abbrev NM (w : World) (b n : Nat) (D : DataW Unit) : Prop := w.ownsMap Tryz.prog 9 (plainElem Tryz.prog 3) b n D
structure NSays (D : DataW Unit) (l : List Crd) : Prop where
  tidy : Maps.Tidy D
  has : ∀ s, Maps.has D (.string s) = (nmAt l s).isSome
  at_ : ∀ s i, nmAt l s = some i → D.atKey (.string s) (.lit (.int .i64 0)) = .lit (.int .i64 (i : Nat))
theorem isKeyS (s : List UInt8) : WideAt.IsKeyLit (.string s) := by unfold WideAt.IsKeyLit; trivial
theorem wf_nat {i : Nat} (h : i ≤ 1000000) : (Lit.int .i64 (i : Nat)).wf = true := by
  simp [Lit.wf, IntKind.wrap, IntKind.signed, IntKind.bits, IntKind.min, IntKind.max]
  omega
theorem keyedS : Maps.Keyed Tryz.prog 9 := Maps.string_keyed Tryz.underlying9
theorem zeroI (w : World) : (zeroValue 3).run Tryz.prog w = .ok (.int .i64 0) w := by kernel_rfl
theorem keyS {s : List UInt8} (h : s.length ≤ 1000000) : keyOf Tryz.prog 9 (.string (strOf s)) = some (.string s) := by
  have := Go.WideMaps.keyOf_string_mk (P := Tryz.prog) Tryz.underlying9 (s := strOf s) (by rw [strOf_size]; simp [maxLen]; omega)
  rwa [strOf_list] at this
theorem nsays_nil : NSays (.map []) [] := ⟨Maps.tidy_empty, fun _ => rfl, fun s i h => by cases h⟩
theorem NSays.put {D : DataW Unit} {l : List Crd} (h : NSays D l) {c : Crd} (hc : nmAt l c.name = none) : NSays (D.put (.string c.name) (.lit (.int .i64 (l.length : Nat)))) (l ++ [c]) := by
  have hne : ∀ s, s ≠ c.name → Lit.string s ≠ Lit.string c.name := fun s hs e => hs (by cases e; rfl)
  refine ⟨h.tidy.put (isKeyS _) _, fun s => ?_, fun s i hi => ?_⟩
  · rw [nmAt_snoc]
    by_cases e : s = c.name
    · subst e
      rw [Maps.has_put_same h.tidy.isMap (isKeyS _), hc]
      simp
    · rw [Maps.has_put_other (hne s e), h.has, if_neg (fun h => e h.symm)]
      simp
  · rw [nmAt_snoc] at hi
    by_cases e : s = c.name
    · subst e
      rw [hc] at hi
      simp at hi
      rw [Maps.atKey_put_same h.tidy.isMap (isKeyS _), hi]
    · rw [if_neg (fun h => e h.symm)] at hi
      simp at hi
      rw [Maps.atKey_put_other (hne s e)]
      exact h.at_ s i hi
theorem NM.kept {S : Nat → Prop} {w w' : World} {b n : Nat} {D : DataW Unit} (h : NM w b n D) (hk : Kept S w w') (hb : ¬ S b) : NM w' b n D := by
  obtain ⟨es, clock, h1, h2, h3, h4⟩ := h
  exact ⟨es, clock, hk.obj h1 hb, h2, h3, h4⟩
/-- what a look-up says -/
theorem NM.look {w : World} {b n : Nat} {D : DataW Unit} {l : List Crd} (h : NM w b n D) (hs : NSays D l) {s : List UInt8} (hl : s.length ≤ 1000000) :
    (∃ i, nmAt l s = some i ∧ (Instr.lookup 74 (.map (some b)) (.string (strOf s)) true).run Tryz.prog w = .ok (.tuple #[.int .i64 (i : Nat), .bool true]) w) ∨ (nmAt l s = none ∧ ∃ x, (Instr.lookup 74 (.map (some b)) (.string (strOf s)) true).run Tryz.prog w = .ok (.tuple #[.int .i64 x, .bool false]) w) := by
  obtain ⟨v, ps, hr, hv⟩ := World.ownsMap.look_ok h keyedS Tryz.underlying74 (zeroI w) (plainElem_int Tryz.underlying3 (by decide)) (keyS hl)
  obtain ⟨a, rfl, ha, _⟩ := plainElem_int_inv Tryz.underlying3 hv
  rw [hs.has] at hr
  cases hn : nmAt l s with
  | none => rw [hn] at hr; exact .inr ⟨rfl, a, hr⟩
  | some i =>
    rw [hn] at hr
    rw [hs.at_ s i hn] at ha
    have : a = (i : Nat) := by
      have h1 := DataW.lit.inj (congrArg Prod.fst ha)
      exact (Lit.int.inj h1).2.symm
    subst this
    exact .inl ⟨i, rfl, hr⟩
theorem NM.set {w : World} {b n : Nat} {D : DataW Unit} (h : NM w b n D) (hn : n < maxLen) {s : List UInt8} (hl : s.length ≤ 1000000) {i : Nat} (hi : i ≤ 1000000) :
    ∃ w', (Instr.mapUpdate 74 (.map (some b)) (.string (strOf s)) (.int .i64 (i : Nat))).run Tryz.prog w = .ok () w' ∧ NM w' b (n + 1) (D.put (.string s) (.lit (.int .i64 (i : Nat)))) ∧ Kept (fun k => k = b) w w' := by
  obtain ⟨w', h1, h2, h3⟩ := World.ownsMap.update h keyedS Tryz.underlying74 hn (keyS hl) (plainElem_int Tryz.underlying3 (wf_nat hi))
  exact ⟨w', h1, h2, (Kept.refl _ w).grown h3 (fun k e _ => by cases e; rfl)⟩
/-- a pool as it lies -/
structure PIs (w : World) (B : Nat → Prop) (g m : Nat) (v : Value) (l : List Crd) : Prop where
  obj : w.heap[g]? = some (.cells #[v, .map (some m)] 76 (0, 0))
  cards : CrdsAt w B v l
  nm : ∃ n D, NM w m n D ∧ NSays D l
  hg : B g
  hm : B m
def PoolAt (w : World) (B : Nat → Prop) (p : Value) (l : List Crd) : Prop := ∃ g m v, p = .pointer (some ⟨g, 0, none⟩) ∧ PIs w B g m v l
theorem PIs.kept {S B : Nat → Prop} {w w' : World} {g m : Nat} {v : Value} {l : List Crd} (h : PIs w B g m v l) (hk : Kept S w w') (hB : ∀ b, b < w.heap.size → B b → ¬ S b) : PIs w' B g m v l := by
  obtain ⟨n, D, h1, h2⟩ := h.nm
  exact ⟨hk.obj h.obj (hB _ (obj_lt h.obj) h.hg), h.cards.kept hk hB, ⟨n, D, h1.kept hk (hB _ h1.lt h.hm), h2⟩, h.hg, h.hm⟩
theorem PIs.no {B : Nat → Prop} {w w' : World} {g m : Nat} {v : Value} {l : List Crd} (h : PIs w B g m v l) (hk : Kept No w w') : PIs w' B g m v l := h.kept hk fun _ _ _ => not_no _
theorem PoolAt.kept {S B : Nat → Prop} {w w' : World} {p : Value} {l : List Crd} (h : PoolAt w B p l) (hk : Kept S w w') (hB : ∀ b, b < w.heap.size → B b → ¬ S b) : PoolAt w' B p l := by
  obtain ⟨g, m, v, h1, h2⟩ := h
  exact ⟨g, m, v, h1, h2.kept hk hB⟩
theorem PoolAt.no {B : Nat → Prop} {w w' : World} {p : Value} {l : List Crd} (h : PoolAt w B p l) (hk : Kept No w w') : PoolAt w' B p l := h.kept hk fun _ _ _ => not_no _
theorem PoolAt.mono {B C : Nat → Prop} {w : World} {p : Value} {l : List Crd} (h : PoolAt w B p l) (hB : ∀ b, b < w.heap.size → B b → C b) : PoolAt w C p l := by
  obtain ⟨g, m, v, h1, h2⟩ := h
  obtain ⟨n, D, h3, h4⟩ := h2.nm
  exact ⟨g, m, v, h1, ⟨h2.obj, h2.cards.mono hB, h2.nm, hB _ (obj_lt h2.obj) h2.hg, hB _ h3.lt h2.hm⟩⟩
/-- nil, or a pool that is zero -/
def PZero (w : World) (p : Value) : Prop := p = .pointer none ∨ ∃ g, p = .pointer (some ⟨g, 0, none⟩) ∧ w.heap[g]? = some (.cells #[.slice none 0 0, .map none] 76 (0, 0))
theorem PZero.no {w w' : World} {p : Value} (h : PZero w p) (hk : Kept No w w') : PZero w' p := by
  rcases h with h | ⟨g, h1, h2⟩
  · exact .inl h
  · exact .inr ⟨g, h1, hk.obj h2 (not_no _)⟩
theorem zero_no {w : World} {B : Nat → Prop} {g m : Nat} {v : Value} {l : List Crd} (h : PIs w B g m v l) : Calls Tryz.prog 32 #[.pointer (some ⟨g, 0, none⟩)] w fun e w' => e = .returned (.bool false) ∧ w = w' := by
  have hq := fun w p => run_eql_map_nil (P := Tryz.prog) w 74 9 3 p Tryz.underlying74
  have c1 := obj_cell h.obj 1
  clear h
  go_enter Tryz.func32, Tryz.ntmps32
  go_wp2_with fail
  go_ret
  exact ⟨rfl, rfl⟩
theorem zero_yes {w : World} {p : Value} (h : PZero w p) : Calls Tryz.prog 32 #[p] w fun e w' => e = .returned (.bool true) ∧ w = w' := by
  have hq := fun w p => run_eql_map_nil (P := Tryz.prog) w 74 9 3 p Tryz.underlying74
  rcases h with rfl | ⟨g, rfl, hg⟩
  · go_enter Tryz.func32, Tryz.ntmps32
    go_wp2_with fail
    go_ret
    exact ⟨rfl, rfl⟩
  · have c1 := obj_cell hg 1
    clear hg
    go_enter Tryz.func32, Tryz.ntmps32
    go_wp2_with fail
    go_ret
    exact ⟨rfl, rfl⟩
theorem len_any {w : World} {B : Nat → Prop} {p : Value} {l : List Crd} (h : PoolAt w B p l) : Calls Tryz.prog 29 #[p] w fun e w' => e = .returned (.int .i64 (l.length : Nat)) ∧ w = w' := by
  obtain ⟨g, m, v, rfl, h⟩ := h
  obtain ⟨ad, cap, rfl⟩ := h.cards.slice
  have HZ := Lib.hid (zero_no h)
  have c0 := obj_cell h.obj 0
  clear h
  go_enter Tryz.func29, Tryz.ntmps29
  go_wp2_with fail
  refine HZ.out.mono ?_
  rintro e w' ⟨rfl, rfl⟩
  go_wp2_with fail
  go_ret
  exact ⟨rfl, rfl⟩
theorem len_zero {w : World} {p : Value} (h : PZero w p) : Calls Tryz.prog 29 #[p] w fun e w' => e = .returned (.int .i64 0) ∧ w = w' := by
  have HZ := Lib.hid (zero_yes h)
  clear h
  go_enter Tryz.func29, Tryz.ntmps29
  go_wp2_with fail
  refine HZ.out.mono ?_
  rintro e w' ⟨rfl, rfl⟩
  go_wp2_with fail
  go_ret
  exact ⟨rfl, rfl⟩
/-- what Find says -/
def findV (l : List Crd) (s : List UInt8) : Value := match nmAt l s with
  | some i => .tuple #[.int .i64 (i : Nat), .int .i64 0]
  | none => .tuple #[.int .i64 0, .int .i64 9]
theorem find_any {w : World} {B : Nat → Prop} {p : Value} {l : List Crd} (h : PoolAt w B p l) {s : List UInt8} (hs : s.length ≤ 1000000) : Calls Tryz.prog 31 #[p, .string (strOf s)] w fun e w' => e = .returned (findV l s) ∧ w = w' := by
  obtain ⟨g, m, v, rfl, h⟩ := h
  obtain ⟨n, D, h1, h2⟩ := h.nm
  have HZ := Lib.hid (zero_no h)
  have c1 := obj_cell h.obj 1
  rcases h1.look h2 hs with ⟨i, hi, hr⟩ | ⟨hi, x, hr⟩
  · have HF := Lib.hid (show findV l s = .tuple #[.int .i64 (i : Nat), .int .i64 0] by unfold findV; rw [hi])
    clear h h1 h2 hi
    go_enter Tryz.func31, Tryz.ntmps31
    go_wp2_with fail
    refine HZ.out.mono ?_
    rintro e w' ⟨rfl, rfl⟩
    go_wp2_with fail
    go_ret2
    exact ⟨by rw [HF.out]; rfl, rfl⟩
  · have HF := Lib.hid (show findV l s = .tuple #[.int .i64 0, .int .i64 9] by unfold findV; rw [hi])
    clear h h1 h2 hi
    go_enter Tryz.func31, Tryz.ntmps31
    go_wp2_with fail
    refine HZ.out.mono ?_
    rintro e w' ⟨rfl, rfl⟩
    go_wp2_with fail
    go_ret2
    exact ⟨by rw [HF.out]; rfl, rfl⟩
theorem find_zero {w : World} {p : Value} (h : PZero w p) (s : List UInt8) : Calls Tryz.prog 31 #[p, .string (strOf s)] w fun e w' => e = .returned (.tuple #[.int .i64 0, .int .i64 1]) ∧ w = w' := by
  have HZ := Lib.hid (zero_yes h)
  clear h
  go_enter Tryz.func31, Tryz.ntmps31
  go_wp2_with fail
  refine HZ.out.mono ?_
  rintro e w' ⟨rfl, rfl⟩
  go_wp2_with fail
  go_ret2
  exact ⟨rfl, rfl⟩
end Go.Proofs.YtclgoilfclmibaaGreatDoor
