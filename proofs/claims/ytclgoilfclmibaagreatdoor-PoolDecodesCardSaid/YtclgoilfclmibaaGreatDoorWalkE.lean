/-
  Pool: lists of effects as they lie; which are valid.
-/
import Derived.Test.YtclgoilfclmibaaGreatDoorWalkD
set_option linter.unusedVariables false
set_option linter.unusedSimpArgs false
namespace Go.Proofs.YtclgoilfclmibaaGreatDoor
open Go.RowKit Go.Zn
attribute [local go_sem] Oper.semAt_some

def Any : Nat → Prop := fun _ => True
theorem flat_get {α : Type} (f : α → List Value) (k : Nat) (hf : ∀ a, (f a).length = k) : ∀ (l : List α) (i j : Nat) (a : α), l[i]? = some a → j < k → (l.flatMap f)[i * k + j]? = (f a)[j]?
  | [], i, j, a, h, hj => by simp at h
  | x :: l, 0, j, a, h, hj => by
    obtain rfl : x = a := by simpa using h
    rw [List.flatMap_cons, Nat.zero_mul, Nat.zero_add, List.getElem?_append_left (by rw [hf]; exact hj)]
  | x :: l, i + 1, j, a, h, hj => by
    have h' : l[i]? = some a := by simpa using h
    rw [List.flatMap_cons, List.getElem?_append_right (by rw [hf, Nat.add_mul]; omega), hf, show (i + 1) * k + j - k = i * k + j by rw [Nat.add_mul]; omega]
    exact flat_get f k hf l i j a h' hj
theorem flat_len {α : Type} (f : α → List Value) (k : Nat) (hf : ∀ a, (f a).length = k) : ∀ l : List α, (l.flatMap f).length = l.length * k
  | [] => by simp
  | x :: l => by rw [List.flatMap_cons, List.length_append, hf, flat_len f k hf l, List.length_cons, Nat.add_mul]; omega
def effCs (e : Eff) : List Value := [.int .i64 e.code, .int .i64 e.target, .int .i64 e.n, .int .i64 e.m, .int .i64 e.col]
def effsCs (l : List Eff) : List Value := l.flatMap effCs
theorem effsCs_len (l : List Eff) : (effsCs l).length = l.length * 5 := flat_len effCs 5 (fun _ => rfl) l
theorem effsCs_one (l : List Eff) : ∀ u ∈ effsCs l, u.oneCell' = true := by
  intro u hu
  obtain ⟨e, _, he⟩ := List.mem_flatMap.1 hu
  simp only [effCs, List.mem_cons, List.not_mem_nil, or_false] at he
  rcases he with rfl | rfl | rfl | rfl | rfl <;> rfl
/-- effects as they lie -/
def EffsAt (w : World) (B : Nat → Prop) (v : Value) (l : List Eff) : Prop := Rd w B 5 v l.length (effsCs l)
theorem EffsAt.no {w w' : World} {B : Nat → Prop} {v : Value} {l : List Eff} (h : EffsAt w B v l) (hk : Kept No w w') : EffsAt w' B v l := Rd.kept h hk fun _ _ _ => not_no _
/-- the cells of one of some effects -/
theorem EffsAt.at {w : World} {B : Nat → Prop} {v : Value} {l : List Eff} (h : EffsAt w B v l) {i : Nat} {e : Eff} (hi : l[i]? = some e) : ∃ b off cap, v = .slice (some ⟨b, off, none⟩) l.length cap ∧
    w.cell? ⟨b, off + i * 5, none⟩ = some (.int .i64 e.code) ∧ w.cell? ⟨b, off + i * 5 + 1, none⟩ = some (.int .i64 e.target) ∧ w.cell? ⟨b, off + i * 5 + 2, none⟩ = some (.int .i64 e.n) ∧ w.cell? ⟨b, off + i * 5 + 3, none⟩ = some (.int .i64 e.m) ∧ w.cell? ⟨b, off + i * 5 + 4, none⟩ = some (.int .i64 e.col) := by
  have hlt := (List.getElem?_eq_some_iff.1 hi).1
  obtain ⟨_, _, ⟨_, h0⟩ | ⟨b, off, cap, he, _, _, hc⟩⟩ := h
  · omega
  · have g : ∀ j, j < 5 → (effsCs l)[i * 5 + j]? = (effCs e)[j]? := fun j hj => flat_get effCs 5 (fun _ => rfl) l i j e hi hj
    refine ⟨b, off, cap, he, ?_, ?_, ?_, ?_, ?_⟩
    · have := hc (i * 5 + 0) _ (g 0 (by omega)); rw [← Nat.add_assoc] at this; exact this
    · have := hc (i * 5 + 1) _ (g 1 (by omega)); rw [← Nat.add_assoc] at this; exact this
    · have := hc (i * 5 + 2) _ (g 2 (by omega)); rw [← Nat.add_assoc] at this; exact this
    · have := hc (i * 5 + 3) _ (g 3 (by omega)); rw [← Nat.add_assoc] at this; exact this
    · have := hc (i * 5 + 4) _ (g 4 (by omega)); rw [← Nat.add_assoc] at this; exact this

/-- a function of effects: what it says, nothing that was there is changed -/
def EffK (k : Nat) (p : Eff → Bool) : Prop := ∀ (e : Eff) (w : World), Calls Tryz.prog k #[.agg #[.int .i64 e.code, .int .i64 e.target, .int .i64 e.n, .int .i64 e.m, .int .i64 e.col]] w fun x w' => x = .returned (.bool (p e)) ∧ Kept No w w'
theorem all1_any : EffK 73 (fun e => !evalid e) := by
  intro e w
  have HV := Lib.hid (fun w' => (show Calls Tryz.prog 74 #[.agg #[.int .i64 e.code, .int .i64 e.target, .int .i64 e.n, .int .i64 e.m, .int .i64 e.col]] w' fun x w2 => x = .returned (.bool (evalid e)) ∧ Kept No w' w2 from valid_any e w'))
  have HK0 := Lib.hid (Kept.refl No w)
  obtain ⟨b, hb⟩ : ∃ b, evalid e = b := ⟨_, rfl⟩
  show Calls _ _ _ _ fun x w' => x = .returned (.bool (!evalid e)) ∧ Kept No w w'
  rw [hb] at HV ⊢
  clear hb
  go_enter Tryz.func73, Tryz.ntmps73
  go_wp2_with fail
  refine (HV.out _).mono ?_
  rintro x w1 ⟨rfl, hk⟩
  have HK := Lib.hid ((HK0.out.alloc _).and hk)
  clear hk
  go_wp2_with fail
  go_ret
  exact ⟨rfl, HK.out⟩
def itselfB (e : Eff) : Bool := (e.target == 0) && ((e.code == 8) || (e.code == 9))
theorem itself_any : EffK 57 itselfB := by
  intro e w
  obtain ⟨code, target, n, m, col⟩ := e
  have hR : itselfB ⟨code, target, n, m, col⟩ = ((target == 0) && ((code == 8) || (code == 9))) := rfl
  have HK0 := Lib.hid (Kept.refl No w)
  obtain ⟨a, h1⟩ : ∃ a, (target == 0) = a := ⟨_, rfl⟩
  obtain ⟨b, h2⟩ : ∃ a, (code == 8) = a := ⟨_, rfl⟩
  obtain ⟨c, h3⟩ : ∃ a, (code == 9) = a := ⟨_, rfl⟩
  rw [h1, h2, h3] at hR
  have HR := Lib.hid hR
  clear hR
  cases a
  · go_enter Tryz.func57, Tryz.ntmps57
    go_wp2_with fail
    go_ret
    exact ⟨by rw [HR.out]; rfl, HK0.out.alloc _⟩
  · cases b
    · go_enter Tryz.func57, Tryz.ntmps57
      go_wp2_with fail
      go_ret
      exact ⟨by rw [HR.out]; rfl, HK0.out.alloc _⟩
    · go_enter Tryz.func57, Tryz.ntmps57
      go_wp2_with fail
      go_ret
      exact ⟨by rw [HR.out]; rfl, HK0.out.alloc _⟩
/-- the first place where a function says yes, -1 for none -/
def idxE (p : Eff → Bool) (l : List Eff) : Int := if l.any p then (l.findIdx p : Nat) else -1
theorem idxE_at {p : Eff → Bool} {l : List Eff} {i : Nat} {e : Eff} (hi : l[i]? = some e) (h : (l.take i).any p = false) (he : p e = true) : idxE p l = i := by
  obtain ⟨hil, hie⟩ := List.getElem?_eq_some_iff.1 hi
  have ha : l.any p = true := List.any_eq_true.2 ⟨e, by rw [← hie]; exact List.getElem_mem _, he⟩
  unfold idxE
  rw [if_pos ha]
  congr 1
  refine (List.findIdx_eq hil).2 ⟨by rw [hie]; exact he, fun j hj => ?_⟩
  have := List.any_eq_false.1 h (l[j]'(by omega)) (by
    rw [List.mem_iff_getElem]
    exact ⟨j, by rw [List.length_take]; omega, by rw [List.getElem_take]⟩)
  simpa using this
theorem idxE_no {p : Eff → Bool} {l : List Eff} (h : l.any p = false) : idxE p l = -1 := by unfold idxE; rw [h]; rfl
theorem idxE_ge (p : Eff → Bool) (l : List Eff) : decide (0 ≤ idxE p l) = l.any p := by
  cases h : l.any p
  · rw [idxE_no h]; decide
  · unfold idxE; rw [if_pos h]; exact decide_eq_true (by omega)
def IxRel (p : Eff → Bool) (l : List Eff) (w0 : World) (iv : Value) (wr : World) : Prop := ∃ i : Nat, iv = .int .i64 (i : Nat) ∧ i ≤ l.length ∧ (l.take i).any p = false ∧ Kept No w0 wr
set_option maxRecDepth 100000 in
theorem ixe_any {k : Nat} {p : Eff → Bool} (hp : EffK k p) (eg : ∀ (args : Array Value) (w : World), (callFunc k args).run Tryz.prog w = .ok (.enter k args) w) {l : List Eff} (hl : l.length ≤ 1000000) {w : World} {B : Nat → Prop} {v : Value} (hv : EffsAt w B v l) : Calls Tryz.prog 79 #[v, .func (.func k) #[] #[]] w fun x w' => x = .returned (.int .i64 (idxE p l)) ∧ Kept No w w' := by
  obtain ⟨ad, cap, rfl⟩ := rd_slice hv
  obtain ⟨n, hn⟩ : ∃ n, l.length = n := ⟨_, rfl⟩
  have HN := Lib.hid hn
  have HV := Lib.hid hv
  have HP := Lib.hid hp
  have EG := Lib.hid eg
  rw [hn] at hl ⊢
  rw [hn] at HV
  clear hv hn hp eg
  go_enter Tryz.func79, Tryz.ntmps79
  go_wp2_with fail
  go_loopw [8] (fun iv wr => IxRel p l w iv wr) (fun iv _ => n - (intOf iv).toNat)
  case atStart => exact ⟨0, rfl, Nat.zero_le _, rfl, Kept.refl No w⟩
  case round =>
    obtain ⟨i, rfl, hi, hf, hk⟩ := hrel
    rw [HN.out] at hi
    have HF := Lib.hid hf
    have HK := Lib.hid hk
    by_cases hlt : i < n
    · have hil : i < l.length := by rw [HN.out]; exact hlt
      obtain ⟨e, he⟩ : ∃ e, l[i]? = some e := ⟨_, List.getElem?_eq_getElem hil⟩
      obtain ⟨b, off, c1, hs, g0, g1, g2, g3, g4⟩ := (HV.out.no hk).at he
      have HT := Lib.hid (show l.take (i + 1) = l.take i ++ [e] by rw [List.take_add_one, he]; rfl)
      have HY := Lib.hid (fun hx => idxE_at (p := p) he HF.out hx)
      rw [HN.out] at hs
      cases hs
      have HC := Lib.hid (fun w' => HP.out e w')
      obtain ⟨q, hq⟩ : ∃ q, p e = q := ⟨_, rfl⟩
      rw [hq] at HC HY
      have HQ := Lib.hid hq
      have d1 : decide (i < n) = true := decide_eq_true hlt
      have hi0 : (0 : Int) ≤ (i : Int) := by omega
      have hin : (i : Int) < (n : Int) := by omega
      have q4 : IntKind.i64.wrap ((i : Int) + 1) = (i : Int) + 1 := IntWalk.i64_in _ (by omega)
      have HI := Lib.hid hlt
      clear hf hk hlt hil he hq
      cases q
      · have HR := Lib.hid (show (l.take (i + 1)).any p = false by rw [HT.out, List.any_append, HF.out]; simp [HQ.out])
        go_wp2_with fail
        rw [EG.out]
        refine (HC.out _).mono ?_
        rintro x w1 ⟨rfl, hk⟩
        have HK1 := Lib.hid (HK.out.and hk)
        clear hk
        go_wp2_with fail
        have hI := HI.out
        exact ⟨⟨i + 1, by go_num, by rw [HN.out]; omega, HR.out, HK1.out⟩, by simp [intOf]; omega⟩
      · have HR := Lib.hid (HY.out rfl)
        go_wp2_with fail
        rw [EG.out]
        refine (HC.out _).mono ?_
        rintro x w1 ⟨rfl, hk⟩
        have HK1 := Lib.hid (HK.out.and hk)
        clear hk
        go_wp2_with fail
        go_ret
        exact ⟨by rw [HR.out]; rfl, HK1.out⟩
    · have d1 : decide (i < n) = false := decide_eq_false hlt
      have HR := Lib.hid (show idxE p l = -1 by
        have := HF.out
        rw [List.take_of_length_le (by rw [HN.out]; omega)] at this
        exact idxE_no this)
      clear hf hlt hk
      go_wp2_with fail
      go_ret
      exact ⟨by rw [HR.out]; rfl, HK.out⟩
theorem eg_all1 (args : Array Value) (w : World) : (callFunc 73 args).run Tryz.prog w = .ok (.enter 73 args) w := by kernel_rfl
theorem eg_itself (args : Array Value) (w : World) : (callFunc 57 args).run Tryz.prog w = .ok (.enter 57 args) w := by kernel_rfl
theorem hase_any {k : Nat} {p : Eff → Bool} (hp : EffK k p) (eg : ∀ (args : Array Value) (w : World), (callFunc k args).run Tryz.prog w = .ok (.enter k args) w) {l : List Eff} (hl : l.length ≤ 1000000) {w : World} {B : Nat → Prop} {v : Value} (hv : EffsAt w B v l) : Calls Tryz.prog 56 #[v, .func (.func k) #[] #[]] w fun x w' => x = .returned (.bool (l.any p)) ∧ Kept No w w' := by
  have HC := Lib.hid (ixe_any hp eg hl hv)
  have HR := Lib.hid (idxE_ge p l)
  clear hv hl hp eg
  go_enter Tryz.func56, Tryz.ntmps56
  go_wp2_with fail
  refine HC.out.mono ?_
  rintro e w1 ⟨rfl, hk⟩
  have HK := Lib.hid hk
  clear hk
  go_wp2_with fail
  go_ret
  exact ⟨by rw [← HR.out]; rfl, HK.out⟩
theorem any_not (l : List Eff) : (!l.any fun e => !evalid e) = l.all evalid := by
  induction l with
  | nil => rfl
  | cons x l ih => rw [List.any_cons, List.all_cons, ← ih]; cases evalid x <;> rfl
theorem allE_any {l : List Eff} (hl : l.length ≤ 1000000) {w : World} {B : Nat → Prop} {v : Value} (hv : EffsAt w B v l) : Calls Tryz.prog 52 #[v] w fun x w' => x = .returned (.bool (allE l)) ∧ Kept No w w' := by
  have HC := Lib.hid (hase_any all1_any eg_all1 hl hv)
  have hR : allE l = (decide (l.length ≤ 4) && !l.any fun e => !evalid e) := by rw [any_not]; rfl
  obtain ⟨ad, cap, rfl⟩ := rd_slice hv
  obtain ⟨n, hn⟩ : ∃ n, l.length = n := ⟨_, rfl⟩
  rw [hn] at HC hR ⊢
  obtain ⟨b, hb⟩ : ∃ b, (l.any fun e => !evalid e) = b := ⟨_, rfl⟩
  rw [hb] at HC hR
  have HK0 := Lib.hid (Kept.refl No w)
  by_cases h : n ≤ 4
  · have d1 : decide (n ≤ 4) = true := decide_eq_true h
    have d1' : decide ((n : Int) ≤ 4) = true := decide_eq_true (by omega)
    rw [d1] at hR
    have HR := Lib.hid hR
    clear hv hl h hn hR hb
    go_enter Tryz.func52, Tryz.ntmps52
    go_wp2_with fail
    refine HC.out.mono ?_
    rintro e w1 ⟨rfl, hk⟩
    have HK := Lib.hid hk
    clear hk
    go_wp2_with fail
    go_ret
    exact ⟨by rw [HR.out]; rfl, HK.out⟩
  · have d1 : decide (n ≤ 4) = false := decide_eq_false h
    have d1' : decide ((n : Int) ≤ 4) = false := decide_eq_false (by omega)
    rw [d1] at hR
    have HR := Lib.hid hR
    clear hv hl h hn hR hb
    go_enter Tryz.func52, Tryz.ntmps52
    go_wp2_with fail
    go_ret
    exact ⟨by rw [HR.out]; rfl, HK0.out⟩
end Go.Proofs.YtclgoilfclmibaaGreatDoor
