/-
  Pool: a card out of bytes.
-/
import Derived.Test.YtclgoilfclmibaaGreatDoorDf
import Derived.Deep.RegionHeld
import Derived.Outline
set_option linter.unusedVariables false
set_option linter.unusedSimpArgs false
namespace Go.Proofs.YtclgoilfclmibaaGreatDoor
open Go.RowKit Go.Zn
attribute [local go_sem] Oper.semAt_some

def zC : Crd := ⟨[], 0, 0, 0, 0, 0, 0, 0, 0, 0, 0, [], [], 0⟩
/-- the card under way, the reader's state -/
structure CdS (w : World) (c : Crd) (ev tv : Value) (s : RS) (W : World) : Prop where
  obj : CObj W w.heap.size c ev tv
  rdr : RdrAt W (w.heap.size + 1) (fun k => k < w.heap.size) s
  effs : OwnE W (w.heap.size + 2) ev c.effs
  trgs : OwnT W (w.heap.size + 2) tv c.trgs
  kept : Kept No w W
theorem RdrAt.obj {w : World} {g : Nat} {B : Nat → Prop} : ∀ {s : RS}, RdrAt w g B s → ∃ cs, w.heap[g]? = some (.cells cs 117 (0, 0))
  | some _, ⟨v, h1, _⟩ => ⟨_, h1⟩
  | none, ⟨v, e, h1, _⟩ => ⟨_, h1⟩
theorem CdS.no {w W W' : World} {c : Crd} {ev tv : Value} {s : RS} (h : CdS w c ev tv s W) (hk : Kept No W W') : CdS w c ev tv s W' := ⟨h.obj.no hk, h.rdr.no hk, h.effs.no hk, h.trgs.no hk, h.kept.and hk⟩
theorem CdS.size {w W : World} {c : Crd} {ev tv : Value} {s : RS} (h : CdS w c ev tv s W) : w.heap.size + 2 ≤ W.heap.size := by
  obtain ⟨cs, hc⟩ := h.rdr.obj
  have := obj_lt hc
  omega
/-- the reader alone has gone on -/
theorem CdS.read {w W W' : World} {c : Crd} {ev tv : Value} {s s' : RS} (h : CdS w c ev tv s W) (hr : RdrAt W' (w.heap.size + 1) (fun k => k < w.heap.size) s') (hk : Kept (fun b => b = w.heap.size + 1) W W') : CdS w c ev tv s' W' := by
  obtain ⟨cs, hc⟩ := h.rdr.obj
  exact ⟨hk.obj h.obj (by omega), hr, h.effs.kept hk (.of_obj hc (by decide)), h.trgs.kept hk (.of_obj hc (by decide)) (.of_obj hc (by decide)), h.kept.trans hk (fun _ _ e => e) fun i hi e => by omega⟩
theorem CdS.num {w W : World} {c : Crd} {ev tv : Value} {s s' : RS} {k : Nat} (h : CdS w c ev tv s W) (hq : numF s = (k, s')) : Calls Tryz.prog 64 #[.pointer (some ⟨w.heap.size + 1, 0, none⟩)] W fun e W' => e = .returned (.int .i64 (k : Nat)) ∧ CdS w c ev tv s' W' := by
  refine (number_any (fun b hb => by omega) h.rdr).mono fun e W' ⟨he, hr, hk⟩ => ?_
  rw [hq] at he hr
  exact ⟨he, h.read hr hk⟩
theorem CdS.most {w W : World} {c : Crd} {ev tv : Value} {s s' : RS} {n k : Nat} (hn : n ≤ 1000) (h : CdS w c ev tv s W) (hq : mostF n s = (k, s')) : Calls Tryz.prog 66 #[.pointer (some ⟨w.heap.size + 1, 0, none⟩), .int .i64 (n : Nat)] W fun e W' => e = .returned (.int .i64 (k : Nat)) ∧ CdS w c ev tv s' W' := by
  refine (most_any hn (fun b hb => by omega) h.rdr).mono fun e W' ⟨he, hr, hk⟩ => ?_
  rw [hq] at he hr
  exact ⟨he, h.read hr hk⟩
theorem CdS.take {w W : World} {c : Crd} {ev tv : Value} {s s' : RS} {n : Nat} {l : List UInt8} (hn : n ≤ 1000) (h : CdS w c ev tv s W) (hq : takeF n s = (l, s')) : Calls Tryz.prog 65 #[.pointer (some ⟨w.heap.size + 1, 0, none⟩), .int .i64 (n : Nat)] W fun e W' => ∃ v B, e = .returned v ∧ Rd W' B 1 v n (bts l) ∧ CdS w c ev tv s' W' := by
  refine (take_any hn (fun b hb => by omega) h.rdr).mono fun e W' ⟨v, he, hv, hr, hk⟩ => ?_
  rw [hq] at hv hr
  exact ⟨v, _, he, hv, h.read hr hk⟩
theorem CdS.eff {w W : World} {c : Crd} {ev tv : Value} {s s' : RS} {l : List Eff} (h : CdS w c ev tv s W) (hq : effF s = (l, s')) : Calls Tryz.prog 67 #[.pointer (some ⟨w.heap.size + 1, 0, none⟩)] W fun e W' => ∃ v, e = .returned v ∧ OwnE W' (w.heap.size + 2) v l ∧ CdS w c ev tv s' W' := by
  refine (effects_any (fun b hb => by omega) h.rdr).mono fun e W' ⟨v, he, hv, hr, hk⟩ => ?_
  rw [hq] at hv hr
  exact ⟨v, he, hv.mono h.size, h.read hr hk⟩
theorem CdS.put {w W : World} {c c' : Crd} {ev tv : Value} {s : RS} {j : Nat} {u : Value} (h : CdS w c ev tv s W) (ho : CObj (W.setCell ⟨w.heap.size, j, none⟩ u) w.heap.size c' ev tv) (he : c'.effs = c.effs) (ht : c'.trgs = c.trgs) : CdS w c' ev tv s (W.setCell ⟨w.heap.size, j, none⟩ u) := by
  have hk : Kept (fun b => b = w.heap.size) W (W.setCell ⟨w.heap.size, j, none⟩ u) := (Kept.refl (fun b => b = w.heap.size) W).setCell (p := ⟨w.heap.size, j, none⟩) (fun _ => rfl) u
  exact ⟨ho, h.rdr.kept hk (by omega) (fun b _ hb e => by omega), by rw [he]; exact h.effs.kept hk (.of_obj h.obj (by decide)), by rw [ht]; exact h.trgs.kept hk (.of_obj h.obj (by decide)) (.of_obj h.obj (by decide)), h.kept.setCell (p := ⟨w.heap.size, j, none⟩) (fun hh => absurd hh (Nat.lt_irrefl _)) u⟩
theorem CdS.putE {w W : World} {c : Crd} {ev tv v : Value} {s : RS} {l : List Eff} (h : CdS w c ev tv s W) (hv : OwnE W (w.heap.size + 2) v l) : CdS w { c with effs := l } v tv s (W.setCell ⟨w.heap.size, 11, none⟩ v) := by
  have hk : Kept (fun b => b = w.heap.size) W (W.setCell ⟨w.heap.size, 11, none⟩ v) := (Kept.refl (fun b => b = w.heap.size) W).setCell (p := ⟨w.heap.size, 11, none⟩) (fun _ => rfl) v
  exact ⟨obj_store h.obj 11 v, h.rdr.kept hk (by omega) (fun b _ hb e => by omega), hv.kept hk (.of_obj h.obj (by decide)), h.trgs.kept hk (.of_obj h.obj (by decide)) (.of_obj h.obj (by decide)), h.kept.setCell (p := ⟨w.heap.size, 11, none⟩) (fun hh => absurd hh (Nat.lt_irrefl _)) v⟩
theorem CdS.putT {w W : World} {c : Crd} {ev tv v : Value} {s : RS} {l : List Trg} (h : CdS w c ev tv s W) (hv : OwnT W (w.heap.size + 2) v l) : CdS w { c with trgs := l } ev v s (W.setCell ⟨w.heap.size, 12, none⟩ v) := by
  have hk : Kept (fun b => b = w.heap.size) W (W.setCell ⟨w.heap.size, 12, none⟩ v) := (Kept.refl (fun b => b = w.heap.size) W).setCell (p := ⟨w.heap.size, 12, none⟩) (fun _ => rfl) v
  exact ⟨obj_store h.obj 12 v, h.rdr.kept hk (by omega) (fun b _ hb e => by omega), h.effs.kept hk (.of_obj h.obj (by decide)), hv.kept hk (.of_obj h.obj (by decide)) (.of_obj h.obj (by decide)), h.kept.setCell (p := ⟨w.heap.size, 12, none⟩) (fun hh => absurd hh (Nat.lt_irrefl _)) v⟩
theorem CdS.frozen {w W : World} {c : Crd} {ev tv : Value} {s : RS} (h : CdS w c ev tv s W) (j : Nat) : W.frozen? ⟨w.heap.size, j, none⟩ = false := obj_free h.obj j
def cS (c : Crd) (a0 a1 a2 a3 : Int) : Nat → Crd
  | 0 => c
  | 1 => { c with o0 := a0 }
  | 2 => { c with o0 := a0, o1 := a1 }
  | 3 => { c with o0 := a0, o1 := a1, o2 := a2 }
  | _ => { c with o0 := a0, o1 := a1, o2 := a2, o3 := a3 }
def qS (s4 s5 s6 s7 s8 : RS) : Nat → RS
  | 0 => s4
  | 1 => s5
  | 2 => s6
  | 3 => s7
  | _ => s8
def CdM (w : World) (c : Crd) (a0 a1 a2 a3 : Int) (s4 s5 s6 s7 s8 : RS) (iv : Value) (wr : World) : Prop := ∃ k : Nat, iv = .int .i64 (k : Nat) ∧ k ≤ 4 ∧ CdS w (cS c a0 a1 a2 a3 k) (.slice none 0 0) (.slice none 0 0) (qS s4 s5 s6 s7 s8 k) wr
def CdT (w : World) (c : Crd) (ev : Value) (n : Nat) (q : List Trg × RS) (iv : Value) (wr : World) : Prop := ∃ (i : Nat) (T : List Trg) (s : RS) (tv : Value), iv = .int .i64 (i : Nat) ∧ i ≤ n ∧ T.length = i ∧ q = (T ++ (trgF (n - i) s).1, (trgF (n - i) s).2) ∧ CdS w { c with trgs := T } ev tv s wr
def CDecPost (q : Option (Crd × Nat)) (w : World) (e : Ending) (w' : World) : Prop := match q with
  | some (c, k) => ∃ ev tv, e = .returned (.tuple #[crdV c ev tv, .int .i64 (k : Nat), .int .i64 0]) ∧ OwnC w' w.heap.size c ev tv ∧ Kept No w w'
  | none => ∃ er, e = .returned (.tuple #[crdV zC (.slice none 0 0) (.slice none 0 0), .int .i64 0, .int .i64 er]) ∧ er ≠ 0 ∧ Kept No w w'
theorem results35 {W : World} {tmps : Array Value} {g : Nat} {cs : Array Value} (ht : tmps.getD 2 undef = .pointer (some ⟨g, 0, none⟩)) (hh : W.heap[g]? = some (.cells cs 46 (0, 0))) (hs : cs.size = 14) :
    (results Tryz.f42 tmps).run Tryz.prog W = .ok (.tuple #[.agg cs, tmps.getD 3 undef, tmps.getD 4 undef]) W := by
  have hr : Tryz.f42.results = #[.cell 2 46, .tmp 3, .tmp 4] := rfl
  have hl := run_loadVar_row (P := Tryz.prog) W g 46 46 cs (0, 0) _ hh Tryz.underlying46 rfl (by rw [hs]; kernel_rfl)
  have ht' : tmps[2]?.getD undef = .pointer (some ⟨g, 0, none⟩) := by simpa using ht
  simp only [results, hr]
  simp [Sem.run_bind, Result.andThen, asAddr, ht', hl]
theorem cd_start {b : List UInt8} {w : World} {B : Nat → Prop} {v : Value} (hv : Rd w B 1 v b.length (bts b)) : CdS w zC (.slice none 0 0) (.slice none 0 0) (some b) ((w.alloc (.cells #[.string { data := #[] }, .int .i64 0, .int .i64 0, .int .i64 0, .int .i64 0, .int .i64 0, .int .i64 0, .int .i64 0, .int .i64 0, .int .i64 0, .int .i64 0, .slice none 0 0, .slice none 0 0, .int .i64 0] 46)).alloc (.cells #[v, .int .i64 0] 117)) :=
  ⟨obj_alloc (heap_alloc_new w _) _, ⟨v, heap_alloc2_new w _ _, ((hv.mono (C := fun k => k < w.heap.size) fun b hb _ => hb).alloc _).alloc _⟩, World.ownsRow_nil _ _ _ _, ⟨[], World.ownsRow_nil _ _ _ _, rfl⟩, ((Kept.refl No w).alloc _).alloc _⟩
theorem CdS.app {w W W5 : World} {c : Crd} {ev tv v5 ev2 : Value} {s : RS} {l : List Eff} {x : Nat} {cs : List Value} (h : CdS w c ev tv s W) (htc : OwnTC W (w.heap.size + 2) c.trgs cs) (hrow : W.ownsRow (w.heap.size + 2) 71 2 tv c.trgs.length cs) (hl : OwnE W (w.heap.size + 2) ev2 l)
    (hown : W5.ownsRow (w.heap.size + 2) 71 2 v5 (c.trgs.length + 1) (cs ++ [.int .i64 (x : Nat), ev2])) {o : Obj} (hg : (W.alloc o).grownBy W5 tv.ownBlock) :
    CObj W5 w.heap.size c ev tv ∧ CdS w { c with trgs := c.trgs ++ [⟨x, l⟩] } ev v5 s (W5.setCell ⟨w.heap.size, 12, none⟩ v5) := by
  have hk5 : Kept (fun k => tv.ownBlock = some k) W W5 := ((Kept.refl (fun k => tv.ownBlock = some k) W).alloc o).grown hg fun k e _ => e
  have hb : ∀ k, tv.ownBlock = some k → w.heap.size + 2 ≤ k := fun k e => (hrow.lt k e).1
  have hnE : NoTag W 50 (fun k => tv.ownBlock = some k) := .of_row hrow (by decide)
  have ho5 : CObj W5 w.heap.size c ev tv := hk5.obj h.obj fun e => by have := hb _ e; omega
  have hk6 : Kept (fun b => b = w.heap.size) W5 (W5.setCell ⟨w.heap.size, 12, none⟩ v5) := (Kept.refl (fun b => b = w.heap.size) W5).setCell (p := ⟨w.heap.size, 12, none⟩) (fun _ => rfl) v5
  refine ⟨ho5, obj_store ho5 12 v5, (h.rdr.kept hk5 (fun e => by have := hb _ e; omega) (fun b _ hb2 e => by have := hb _ e; omega)).kept hk6 (by omega) (fun b _ hb2 e => by omega), (h.effs.kept hk5 hnE).kept hk6 (.of_obj ho5 (by decide)), ?_, (h.kept.trans hk5 (fun _ _ e => e) fun i hi e => by have := hb _ e; omega).setCell (p := ⟨w.heap.size, 12, none⟩) (fun hh => absurd hh (Nat.lt_irrefl _)) v5⟩
  refine ⟨cs ++ [.int .i64 (x : Nat), ev2], ?_, ((htc.kept hk5 hnE).snoc (t := ⟨x, l⟩) (hl.kept hk5 hnE)).kept hk6 (.of_obj ho5 (by decide))⟩
  have : (c.trgs ++ [(⟨x, l⟩ : Trg)]).length = c.trgs.length + 1 := by rw [List.length_append]; rfl
  show World.ownsRow _ _ _ _ _ (c.trgs ++ [(⟨x, l⟩ : Trg)]).length _
  rw [this]
  exact owned_kept hown hk6 fun b _ e hs => by have := (hown.lt b e).1; omega
theorem takeF_len (n : Nat) (s : RS) : (takeF n s).1.length = n := by
  rcases s with _ | r
  · simp [takeF]
  · unfold takeF
    simp only
    split
    · simp
    · rw [List.length_take]; omega
theorem effF_le (s : RS) : (effF s).1.length ≤ 4 := by
  rcases s with _ | r
  · exact Nat.zero_le _
  · unfold effF
    simp only
    cases h : edec r with
    | none => exact Nat.zero_le _
    | some p =>
      obtain ⟨l, k⟩ := p
      exact (allE_out (edec_some h).1).1
theorem trgF_le : ∀ (n : Nat) (s : RS), (trgF n s).1.length = n ∧ ∀ t ∈ (trgF n s).1, t.effs.length ≤ 4
  | 0, s => ⟨rfl, fun t ht => by cases ht⟩
  | n + 1, s => by
    obtain ⟨h1, h2⟩ := trgF_le n (effF (numF s).2).2
    refine ⟨by simp only [trgF, List.length_cons, h1], fun t ht => ?_⟩
    simp only [trgF, List.mem_cons] at ht
    rcases ht with rfl | ht
    · exact effF_le _
    · exact h2 t ht
theorem numF_lt (s : RS) : (numF s).1 < 256 := by
  rcases s with _ | _ | ⟨x, r⟩
  · decide
  · decide
  · exact x.toNat_lt
theorem OwnT.slice {w : World} {base : Nat} {v : Value} {l : List Trg} (h : OwnT w base v l) : ∃ ad cap, v = .slice ad l.length cap := by
  obtain ⟨cs, h1, _⟩ := h
  exact owned_slice h1
theorem step_store_row {P : Program} {ops : Array Oper} {o : Oper} {a : Act} {w : World} {K : Act → World → Prop} {Q : Exit → Act → World → Prop} {E : Prop} (hgd : o.guard = none) (ty : TypeId) (x y : Operand) (ho : o.op = .store ty x y)
    (g : Nat) (cells : Array Value) (hx : a.eval x = .pointer (some ⟨g, 0, none⟩)) (hy : a.eval y = .agg cells)
    (t : TypeId) (old : Array Value) (hg : w.heap[g]? = some (.cells old t (0, 0))) (hi : (P.info? ty).map (·.size) = some cells.size)
    (hold : old.size = cells.size) (h1 : cells.all (·.oneCell') = true)
    (h : K (a.put o.dst undef) (w.setRow g cells)) : if Region.wanted o (yielded ops a.tmps) = true then Oper.wp P o a w K Q else E := by
  rw [if_pos (by simp [Region.wanted, hgd])]
  exact wp_store_row ty x y ho g cells hx hy t old hg hi hold h1 h
theorem row_range {w : World} {g : Nat} {c : Crd} {ev tv : Value} (h : CObj w g c ev tv) : w.rangeAt g 0 (crdCs c ev tv) := fun j v hj => by
  rw [Nat.zero_add, obj_cell h, List.getElem?_toArray]
  exact hj
def zCells9 : Array Value := #[.string { data := #[] }, .int .i64 0, .int .i64 0, .int .i64 0, .int .i64 0, .int .i64 0, .int .i64 0, .int .i64 0, .int .i64 0, .int .i64 0, .int .i64 0, .slice none 0 0, .slice none 0 0, .int .i64 0]
theorem zc_all9 : zCells9.all (·.oneCell') = true := by kernel_rfl
theorem zc_all : (#[.string { data := #[] }, .int .i64 0, .int .i64 0, .int .i64 0, .int .i64 0, .int .i64 0, .int .i64 0, .int .i64 0, .int .i64 0, .int .i64 0, .int .i64 0, .slice none 0 0, .slice none 0 0, .int .i64 0] : Array Value).all (·.oneCell') = true := by kernel_rfl
set_option maxRecDepth 100000 in
set_option maxHeartbeats 16000000 in
theorem cdecode_any {b : List UInt8} {w : World} {B : Nat → Prop} {v : Value} (hv : Rd w B 1 v b.length (bts b)) : Calls Tryz.prog 42 #[v] w (CDecPost (cdec b) w) := by
  obtain ⟨⟨k, s1⟩, q1⟩ : ∃ q, numF (some b) = q := ⟨_, rfl⟩
  obtain ⟨⟨ra, s2⟩, q2⟩ : ∃ q, numF s1 = q := ⟨_, rfl⟩
  obtain ⟨⟨nl, s3⟩, q3⟩ : ∃ q, mostF 32 s2 = q := ⟨_, rfl⟩
  obtain ⟨⟨nm, s4⟩, q4⟩ : ∃ q, takeF nl s3 = q := ⟨_, rfl⟩
  obtain ⟨⟨a0, s5⟩, q5⟩ : ∃ q, numF s4 = q := ⟨_, rfl⟩
  obtain ⟨⟨a1, s6⟩, q6⟩ : ∃ q, numF s5 = q := ⟨_, rfl⟩
  obtain ⟨⟨a2, s7⟩, q7⟩ : ∃ q, numF s6 = q := ⟨_, rfl⟩
  obtain ⟨⟨a3, s8⟩, q8⟩ : ∃ q, numF s7 = q := ⟨_, rfl⟩
  obtain ⟨⟨an, s9⟩, q9⟩ : ∃ q, numF s8 = q := ⟨_, rfl⟩
  obtain ⟨⟨mk, s10⟩, q10⟩ : ∃ q, numF s9 = q := ⟨_, rfl⟩
  obtain ⟨⟨po, s11⟩, q11⟩ : ∃ q, numF s10 = q := ⟨_, rfl⟩
  obtain ⟨⟨tu, s12⟩, q12⟩ : ∃ q, numF s11 = q := ⟨_, rfl⟩
  obtain ⟨⟨ky, s13⟩, q13⟩ : ∃ q, numF s12 = q := ⟨_, rfl⟩
  obtain ⟨⟨ef, s14⟩, q14⟩ : ∃ q, effF s13 = q := ⟨_, rfl⟩
  obtain ⟨⟨mn, s15⟩, q15⟩ : ∃ q, mostF 2 s14 = q := ⟨_, rfl⟩
  obtain ⟨⟨tr, s16⟩, q16⟩ : ∃ q, trgF mn s15 = q := ⟨_, rfl⟩
  have hF : crdF b = (⟨nm, k, a0, a1, a2, a3, an, mk, po, tu, ky, ef, tr, ra⟩, s16) := by simp only [crdF, q1, q2, q3, q4, q5, q6, q7, q8, q9, q10, q11, q12, q13, q14, q15, q16]
  have hnl : nl ≤ 32 := by have := mostF_le 32 s2; rw [q3] at this; exact this
  have hmn : mn ≤ 2 := by have := mostF_le 2 s14; rw [q15] at this; exact this
  have Q1 := Lib.hid q1
  have Q2 := Lib.hid q2
  have Q3 := Lib.hid q3
  have Q4 := Lib.hid q4
  have Q5 := Lib.hid q5
  have Q6 := Lib.hid q6
  have Q7 := Lib.hid q7
  have Q8 := Lib.hid q8
  have Q9 := Lib.hid q9
  have Q10 := Lib.hid q10
  have Q11 := Lib.hid q11
  have Q12 := Lib.hid q12
  have Q13 := Lib.hid q13
  have Q14 := Lib.hid q14
  have Q15 := Lib.hid q15
  have Q16 := Lib.hid q16
  have HF := Lib.hid hF
  have HNL := Lib.hid hnl
  have HMN := Lib.hid hmn
  clear q1 q2 q3 q4 q5 q6 q7 q8 q9 q10 q11 q12 q13 q14 q15 q16 hF hnl hmn
  have HS0 := Lib.hid (cd_start hv)
  have HMX := Lib.hid hv.2.1
  obtain ⟨ad, cap, rfl⟩ := rd_slice hv
  obtain ⟨m, hm⟩ : ∃ m, b.length = m := ⟨_, rfl⟩
  have HM := Lib.hid hm
  rw [hm] at HS0 HMX ⊢
  clear hv hm
  go_enter Tryz.func42, Tryz.ntmps42
  go_wp2_with fail
  refine (CdS.num HS0.out Q1.out).mono ?_
  rintro e W1 ⟨rfl, hs⟩
  have HS1 := Lib.hid hs
  clear hs
  go_wp2_with fail
  refine (CdS.num HS1.out Q2.out).mono ?_
  rintro e W2 ⟨rfl, hs⟩
  have HS2 := Lib.hid hs
  obtain ⟨m0, m1, m2, m3, m4, m5, m6, m7, m8, m9, m10, m11, m12, m13⟩ := hs.obj.cells
  have f1 := hs.frozen 1
  have f13 := hs.frozen 13
  have HS2 := Lib.hid (CdS.put (c' := { zC with kind := k, rarity := ra }) (CdS.put (c' := { zC with kind := k }) hs (obj_store hs.obj 1 (.int .i64 (k : Nat))) rfl rfl) (obj_store (obj_store hs.obj 1 (.int .i64 (k : Nat))) 13 (.int .i64 (ra : Nat))) rfl rfl)
  clear hs
  go_wp2_with fail
  refine (CdS.most (by decide) HS2.out Q3.out).mono ?_
  rintro e W3 ⟨rfl, hs⟩
  have HS3 := Lib.hid hs
  clear hs m0 m1 m2 m3 m4 m5 m6 m7 m8 m9 m10 m11 m12 m13 f1 f13
  go_wp2_with fail
  refine (CdS.take (by have := HNL.out; omega) HS3.out Q4.out).mono ?_
  rintro e W4 ⟨v4, B4, rfl, hv4, hs⟩
  have hcv := run_string_rd (P := Tryz.prog) Tryz.underlying51 Tryz.underlying5 Tryz.underlying9 hv4
  obtain ⟨adn, capn, rfl⟩ := rd_slice hv4
  obtain ⟨m0, m1, m2, m3, m4, m5, m6, m7, m8, m9, m10, m11, m12, m13⟩ := hs.obj.cells
  have f0 := hs.frozen 0
  have HS4 := Lib.hid (CdS.put (c' := { zC with kind := k, rarity := ra, name := nm }) hs (obj_store hs.obj 0 (.string (strOf nm))) rfl rfl)
  clear hs hv4 m1 m2 m3 m4 m5 m6 m7 m8 m9 m10 m11 m12 m13
  go_wp2_with fail
  clear m0 f0 hcv
  go_loopw [22] (fun iv wr => CdM w { zC with kind := k, rarity := ra, name := nm } a0 a1 a2 a3 s4 s5 s6 s7 s8 iv wr) (fun iv _ => 4 - (intOf iv).toNat)
  case atStart => exact ⟨0, rfl, by decide, HS4.out⟩
  case round =>
    clear HS4 HS3 HS2 HS1 HS0
    obtain ⟨i, rfl, hi, hs⟩ := hrel
    obtain rfl | rfl | rfl | rfl | rfl : i = 0 ∨ i = 1 ∨ i = 2 ∨ i = 3 ∨ i = 4 := by omega
    · have HS := Lib.hid (show CdS w { zC with kind := k, rarity := ra, name := nm } (.slice none 0 0) (.slice none 0 0) s4 wr from hs)
      clear hs
      go_wp2_with fail
      refine (CdS.num HS.out Q5.out).mono ?_
      rintro e W1 ⟨rfl, hs⟩
      obtain ⟨m0, m1, m2, m3, m4, m5, m6, m7, m8, m9, m10, m11, m12, m13⟩ := hs.obj.cells
      have f0 := hs.frozen 2
      have HS4 := Lib.hid (CdS.put (c' := { zC with kind := k, rarity := ra, name := nm, o0 := a0 }) hs (obj_store hs.obj 2 (.int .i64 (a0 : Nat))) rfl rfl)
      clear hs
      go_wp2_with fail
      exact ⟨⟨1, by go_num, by decide, HS4.out⟩, by simp [intOf]⟩
    · have HS := Lib.hid (show CdS w { zC with kind := k, rarity := ra, name := nm, o0 := a0 } (.slice none 0 0) (.slice none 0 0) s5 wr from hs)
      clear hs
      go_wp2_with fail
      refine (CdS.num HS.out Q6.out).mono ?_
      rintro e W1 ⟨rfl, hs⟩
      obtain ⟨m0, m1, m2, m3, m4, m5, m6, m7, m8, m9, m10, m11, m12, m13⟩ := hs.obj.cells
      have f0 := hs.frozen 3
      have HS4 := Lib.hid (CdS.put (c' := { zC with kind := k, rarity := ra, name := nm, o0 := a0, o1 := a1 }) hs (obj_store hs.obj 3 (.int .i64 (a1 : Nat))) rfl rfl)
      clear hs
      go_wp2_with fail
      exact ⟨⟨2, by go_num, by decide, HS4.out⟩, by simp [intOf]⟩
    · have HS := Lib.hid (show CdS w { zC with kind := k, rarity := ra, name := nm, o0 := a0, o1 := a1 } (.slice none 0 0) (.slice none 0 0) s6 wr from hs)
      clear hs
      go_wp2_with fail
      refine (CdS.num HS.out Q7.out).mono ?_
      rintro e W1 ⟨rfl, hs⟩
      obtain ⟨m0, m1, m2, m3, m4, m5, m6, m7, m8, m9, m10, m11, m12, m13⟩ := hs.obj.cells
      have f0 := hs.frozen 4
      have HS4 := Lib.hid (CdS.put (c' := { zC with kind := k, rarity := ra, name := nm, o0 := a0, o1 := a1, o2 := a2 }) hs (obj_store hs.obj 4 (.int .i64 (a2 : Nat))) rfl rfl)
      clear hs
      go_wp2_with fail
      exact ⟨⟨3, by go_num, by decide, HS4.out⟩, by simp [intOf]⟩
    · have HS := Lib.hid (show CdS w { zC with kind := k, rarity := ra, name := nm, o0 := a0, o1 := a1, o2 := a2 } (.slice none 0 0) (.slice none 0 0) s7 wr from hs)
      clear hs
      go_wp2_with fail
      refine (CdS.num HS.out Q8.out).mono ?_
      rintro e W1 ⟨rfl, hs⟩
      obtain ⟨m0, m1, m2, m3, m4, m5, m6, m7, m8, m9, m10, m11, m12, m13⟩ := hs.obj.cells
      have f0 := hs.frozen 5
      have HS4 := Lib.hid (CdS.put (c' := { zC with kind := k, rarity := ra, name := nm, o0 := a0, o1 := a1, o2 := a2, o3 := a3 }) hs (obj_store hs.obj 5 (.int .i64 (a3 : Nat))) rfl rfl)
      clear hs
      go_wp2_with fail
      exact ⟨⟨4, by go_num, by decide, HS4.out⟩, by simp [intOf]⟩
    · have HS := Lib.hid (show CdS w { zC with kind := k, rarity := ra, name := nm, o0 := a0, o1 := a1, o2 := a2, o3 := a3 } (.slice none 0 0) (.slice none 0 0) s8 wr from hs)
      clear hs
      go_wp2_with fail
      refine (CdS.num HS.out Q9.out).mono ?_
      rintro e W1 ⟨rfl, hs⟩
      have HS1 := Lib.hid hs
      clear hs
      go_wp2_with fail
      refine (CdS.num HS1.out Q10.out).mono ?_
      rintro e W2 ⟨rfl, hs⟩
      obtain ⟨m0, m1, m2, m3, m4, m5, m6, m7, m8, m9, m10, m11, m12, m13⟩ := hs.obj.cells
      have f6 := hs.frozen 6
      have f7 := hs.frozen 7
      have HS2 := Lib.hid (CdS.put (c' := { zC with kind := k, rarity := ra, name := nm, o0 := a0, o1 := a1, o2 := a2, o3 := a3, any := an, makes := mk }) (CdS.put (c' := { zC with kind := k, rarity := ra, name := nm, o0 := a0, o1 := a1, o2 := a2, o3 := a3, any := an }) hs (obj_store hs.obj 6 (.int .i64 (an : Nat))) rfl rfl) (obj_store (obj_store hs.obj 6 (.int .i64 (an : Nat))) 7 (.int .i64 (mk : Nat))) rfl rfl)
      clear hs
      go_wp2_with fail
      refine (CdS.num HS2.out Q11.out).mono ?_
      rintro e W3 ⟨rfl, hs⟩
      have HS3 := Lib.hid hs
      clear hs m0 m1 m2 m3 m4 m5 m6 m7 m8 m9 m10 m11 m12 m13 f6 f7
      go_wp2_with fail
      refine (CdS.num HS3.out Q12.out).mono ?_
      rintro e W4 ⟨rfl, hs⟩
      have HS4 := Lib.hid hs
      clear hs
      go_wp2_with fail
      refine (CdS.num HS4.out Q13.out).mono ?_
      rintro e W5 ⟨rfl, hs⟩
      obtain ⟨m0, m1, m2, m3, m4, m5, m6, m7, m8, m9, m10, m11, m12, m13⟩ := hs.obj.cells
      have f8 := hs.frozen 8
      have f9 := hs.frozen 9
      have f10 := hs.frozen 10
      have HS5 := Lib.hid (CdS.put (c' := { zC with kind := k, rarity := ra, name := nm, o0 := a0, o1 := a1, o2 := a2, o3 := a3, any := an, makes := mk, power := po, tough := tu, keys := ky }) (CdS.put (c' := { zC with kind := k, rarity := ra, name := nm, o0 := a0, o1 := a1, o2 := a2, o3 := a3, any := an, makes := mk, power := po, tough := tu }) (CdS.put (c' := { zC with kind := k, rarity := ra, name := nm, o0 := a0, o1 := a1, o2 := a2, o3 := a3, any := an, makes := mk, power := po }) hs (obj_store hs.obj 8 (.int .i64 (po : Nat))) rfl rfl) (obj_store (obj_store hs.obj 8 (.int .i64 (po : Nat))) 9 (.int .i64 (tu : Nat))) rfl rfl) (obj_store (obj_store (obj_store hs.obj 8 (.int .i64 (po : Nat))) 9 (.int .i64 (tu : Nat))) 10 (.int .i64 (ky : Nat))) rfl rfl)
      clear hs
      go_wp2_with fail
      refine (CdS.eff HS5.out Q14.out).mono ?_
      rintro e W6 ⟨ev, rfl, hown, hs⟩
      obtain ⟨ade, cape, rfl⟩ := owned_slice hown
      clear m0 m1 m2 m3 m4 m5 m6 m7 m8 m9 m10 m11 m12 m13 f8 f9 f10
      obtain ⟨m0, m1, m2, m3, m4, m5, m6, m7, m8, m9, m10, m11, m12, m13⟩ := hs.obj.cells
      have f11 := hs.frozen 11
      have HS6 := Lib.hid (show CdS w { zC with kind := k, rarity := ra, name := nm, o0 := a0, o1 := a1, o2 := a2, o3 := a3, any := an, makes := mk, power := po, tough := tu, keys := ky, effs := ef } _ _ _ _ from CdS.putE hs hown)
      clear hs hown
      go_wp2_with fail
      refine (CdS.most (by decide) HS6.out Q15.out).mono ?_
      rintro e W7 ⟨rfl, hs⟩
      have HS7 := Lib.hid hs
      clear hs m0 m1 m2 m3 m4 m5 m6 m7 m8 m9 m10 m11 m12 m13 f11 HS HS1 HS2 HS3 HS4 HS5 HS6
      go_wp2_with fail
      go_loopw [53] (fun iv wr => CdT w { zC with kind := k, rarity := ra, name := nm, o0 := a0, o1 := a1, o2 := a2, o3 := a3, any := an, makes := mk, power := po, tough := tu, keys := ky, effs := ef } (.slice ade ef.length cape) mn (tr, s16) iv wr) (fun iv _ => mn - (intOf iv).toNat)
      case atStart => exact ⟨0, [], s15, _, rfl, Nat.zero_le _, rfl, by rw [Nat.sub_zero, Q16.out]; rfl, HS7.out⟩
      case round =>
        clear HS7
        obtain ⟨i, T, si, tv, rfl, hi, hT, hq, hs⟩ := hrel
        obtain ⟨adt, capt, rfl⟩ := hs.trgs.slice
        have HS := Lib.hid hs
        have m12 : wr.cell? ⟨w.heap.size, 12, none⟩ = some (.slice adt T.length capt) := obj_cell hs.obj 12
        have f12 := hs.frozen 12
        by_cases hlt : i < mn
        · obtain ⟨⟨x, sa⟩, qa⟩ : ∃ q, numF si = q := ⟨_, rfl⟩
          obtain ⟨⟨l, sb⟩, qb⟩ : ∃ q, effF sa = q := ⟨_, rfl⟩
          have HST := Lib.hid (show (tr, s16) = ((T ++ [⟨x, l⟩]) ++ (trgF (mn - (i + 1)) sb).1, (trgF (mn - (i + 1)) sb).2) by
            rw [hq, show mn - i = (mn - (i + 1)) + 1 by omega]
            simp only [trgF, qa, qb, List.append_assoc]
            rfl)
          have QA := Lib.hid qa
          have QB := Lib.hid qb
          have HTL := Lib.hid hT
          have d1 : decide (i < mn) = true := decide_eq_true hlt
          have hmn2 := HMN.out
          have q4 : IntKind.i64.wrap ((i : Int) + 1) = (i : Int) + 1 := IntWalk.i64_in _ (by omega)
          have HI := Lib.hid (And.intro hlt hmn2)
          clear hs hlt hT hq qa qb hmn2 hi
          go_wp2_with fail
          go_region_law (first | (go_simp; go_at_call 64; (with_reducible refine (CdS.num (HS.out.no ((Kept.refl No wr).drew)) QA.out).mono ?_); rintro e9 W1 ⟨rfl, hs1⟩; have HS1 := Lib.hid hs1; have m12 : W1.cell? ⟨w.heap.size, 12, none⟩ = some (.slice adt T.length capt) := obj_cell hs1.obj 12; have f12 := hs1.frozen 12; clear hs1) | (go_simp; go_at_call 67; (with_reducible refine (CdS.eff HS1.out QB.out).mono ?_); rintro e9 W2 ⟨ev2, rfl, hown2, hs2⟩; obtain ⟨ad2, cp2, rfl⟩ := owned_slice hown2; obtain ⟨cs2, hrow2, htc2⟩ := hs2.trgs; have HS2 := Lib.hid hs2; have HOW2 := Lib.hid hown2; have HROW2 := Lib.hid hrow2; have HTC2 := Lib.hid htc2; have m12 : W2.cell? ⟨w.heap.size, 12, none⟩ = some (.slice adt T.length capt) := obj_cell hs2.obj 12; have f12 := hs2.frozen 12; have hz2 : w.heap.size < W2.heap.size := obj_lt hs2.obj; clear hs2 hown2 hrow2 htc2) | (refine step_append_rdo (v := .slice adt T.length capt) (xv := .slice (some ⟨W2.heap.size, 0, none⟩) 1 1) rfl rfl rfl rfl eiT (owned_kept HROW2.out ((Kept.refl No W2).alloc (.cells #[.int .i64 (x : Nat), .slice ad2 l.length cp2] 71)) fun _ _ _ => not_no _) (rd_new2 W2 _ _ 71) (by intro u hu; simp at hu; rcases hu with rfl | rfl <;> rfl) (by have := HTL.out; have := HI.out; show (T.length + 1) * 32 ≤ _; omega) (by have := HS2.out.size; simp; omega) ?_; intro v5 w5 hown5 hg5 _; obtain ⟨ad5, cp5, rfl⟩ := owned_slice hown5; have hap := CdS.app HS2.out HTC2.out HROW2.out HOW2.out hown5 hg5; have m12 : w5.cell? ⟨w.heap.size, 12, none⟩ = some (.slice adt T.length capt) := obj_cell hap.1 12; have f12 : w5.frozen? ⟨w.heap.size, 12, none⟩ = false := obj_free hap.1 12; have HAP := Lib.hid hap.2; clear hown5 hg5 hap))
          all_goals
            go_wp2_with fail
            have hI := HI.out
            exact ⟨⟨i + 1, T ++ [⟨x, l⟩], sb, _, by go_num, by omega, by rw [List.length_append, HTL.out]; rfl, HST.out, HAP.out⟩, by simp [intOf]; omega⟩
        · have d1 : decide (i < mn) = false := decide_eq_false hlt
          have hin : i = mn := by omega
          rw [hin, Nat.sub_self] at hq
          have hq1 : tr = T := by have := congrArg Prod.fst hq; simpa [trgF] using this
          have hq2 : s16 = si := congrArg Prod.snd hq
          rw [← hq1, ← hq2] at hs
          rw [← hq1] at m12
          have hSm : Sm (crdF b).1 := by
            rw [HF.out]
            have e4 := takeF_len nl s3
            rw [Q4.out] at e4
            have e14 := effF_le s13
            rw [Q14.out] at e14
            have e16 := trgF_le mn s15
            rw [Q16.out] at e16
            have e13 := numF_lt s12
            rw [Q13.out] at e13
            have h32 := HNL.out
            have h2 := HMN.out
            simp only at e4 e14 e16 e13
            exact ⟨by show nm.length ≤ _; omega, by show ef.length ≤ _; omega, by show tr.length ≤ _; omega, fun t ht => by have := e16.2 t ht; omega, by show -9223372036854775808 ≤ (ky : Int); omega, by show (ky : Int) ≤ _; omega⟩
          have hF := HF.out
          rw [hF] at hSm
          have hs : CdS w (⟨nm, k, a0, a1, a2, a3, an, mk, po, tu, ky, ef, tr, ra⟩ : Crd) (.slice ade ef.length cape) (.slice adt tr.length capt) s16 wr := hs
          obtain ⟨cF, hcF⟩ : ∃ cF : Crd, (⟨nm, k, a0, a1, a2, a3, an, mk, po, tu, ky, ef, tr, ra⟩ : Crd) = cF := ⟨_, rfl⟩
          rw [hcF] at hs hSm hF
          have hF2 := hF
          have HF2 := Lib.hid hF
          have HSM := Lib.hid hSm
          have HSE := Lib.hid hs
          clear HS hT hq hq1 hq2 hcF hF hSm m12 f12 hi hlt hin Q1 Q2 Q3 Q4 Q5 Q6 Q7 Q8 Q9 Q10 Q11 Q12 Q13 Q14 Q15 Q16 HF HNL HMN
          rcases s16 with _ | r'
          · have HR := Lib.hid (show cdec b = none by unfold cdec; rw [hF2])
            obtain ⟨vr, er, hg, her, hvr⟩ := hs.rdr
            have c1 := obj_cell hg 1
            have d2 : (er != 0) = true := by simpa using her
            have HER := Lib.hid her
            have H14 := Lib.hid (show (crdCs cF (.slice ade ef.length cape) (.slice adt tr.length capt)).toArray.size = 14 from rfl)
            have HG17 := Lib.hid hg
            have HO17 := Lib.hid hs.obj
            clear hg her hvr hs hF2
            go_wp2_with fail
            refine wp_region_held_drew (S := (fun W' => W'.heap[w.heap.size + 1]? = some (.cells #[vr, .int .i64 er] 117 (0, 0)))) (by kernel_rfl) HG17.out (fun hHeld => ?_)
            refine wpAnyH_take (i := 0) (v := .agg #[.string { data := #[] }, .int .i64 0, .int .i64 0, .int .i64 0, .int .i64 0, .int .i64 0, .int .i64 0, .int .i64 0, .int .i64 0, .int .i64 0, .int .i64 0, .slice none 0 0, .slice none 0 0, .int .i64 0]) rfl (by kernel_rfl) (by kernel_rfl) (by kernel_rfl) (fun _ _ _ h => h) (Or.inl ⟨by rfl, ?_⟩) (by assumption) ?_
            · intro W2 hSw; have s1 := obj_cell hSw 1; go_simp
            simp only [Act.put, List.getElem_toArray, List.getElem_cons_zero, List.getElem_cons_succ, List.setIfInBounds_toArray, List.set_cons_zero, List.set_cons_succ]
            refine wpAnyH_take (i := 1) (v := .pointer (some ⟨w.heap.size + 1, 0, none⟩)) rfl (by kernel_rfl) (by kernel_rfl) (by kernel_rfl) (fun _ _ _ h => h) (Or.inl ⟨by rfl, ?_⟩) (by assumption) ?_
            · intro W2 hSw; have s1 := obj_cell hSw 1; go_simp
            simp only [Act.put, List.getElem_toArray, List.getElem_cons_zero, List.getElem_cons_succ, List.setIfInBounds_toArray, List.set_cons_zero, List.set_cons_succ]
            refine wpAnyH_take (i := 2) (v := .pointer (some ⟨w.heap.size + 1, 0, none⟩)) rfl (by kernel_rfl) (by kernel_rfl) (by kernel_rfl) (fun _ _ _ h => h) (Or.inl ⟨by rfl, ?_⟩) (by assumption) ?_
            · intro W2 hSw; have s1 := obj_cell hSw 1; go_simp
            simp only [Act.put, List.getElem_toArray, List.getElem_cons_zero, List.getElem_cons_succ, List.setIfInBounds_toArray, List.set_cons_zero, List.set_cons_succ]
            refine wpAnyH_take (i := 3) (v := .pointer (some ⟨w.heap.size + 1, 1, none⟩)) rfl (by kernel_rfl) (by kernel_rfl) (by kernel_rfl) (fun _ _ _ h => h) (Or.inl ⟨by rfl, ?_⟩) (by assumption) ?_
            · intro W2 hSw; have s1 := obj_cell hSw 1; go_simp
            simp only [Act.put, List.getElem_toArray, List.getElem_cons_zero, List.getElem_cons_succ, List.setIfInBounds_toArray, List.set_cons_zero, List.set_cons_succ]
            refine wpAnyH_take (i := 4) (v := .int .i64 er) rfl (by kernel_rfl) (by kernel_rfl) (by kernel_rfl) (fun _ _ _ h => h) (Or.inl ⟨by rfl, ?_⟩) (by assumption) ?_
            · intro W2 hSw; have s1 := obj_cell hSw 1; go_simp
            simp only [Act.put, List.getElem_toArray, List.getElem_cons_zero, List.getElem_cons_succ, List.setIfInBounds_toArray, List.set_cons_zero, List.set_cons_succ]
            refine wpAnyH_ready (rs := [5]) (by kernel_rfl) (by simp) ?_
            refine AllReadyH.cons rfl (fun K hK => ?_) AllReadyH.nil
            refine step_store_row rfl 46 _ _ rfl w.heap.size zCells9 rfl rfl 46 _ HO17.out (by kernel_rfl) rfl zc_all9 ?_
            refine hK.out _ _ ((setRow_other wr.drew w.heap.size (w.heap.size + 1) zCells9 (by omega)).trans HG17.out) (fun _ => ?_)
            clear hK K
            simp only [Act.put, List.getElem_toArray, List.getElem_cons_zero, List.getElem_cons_succ, List.setIfInBounds_toArray, List.set_cons_zero, List.set_cons_succ]
            refine wpAnyH_ready (rs := [6]) (by kernel_rfl) (by simp) ?_
            refine AllReadyH.cons rfl (fun K hK => ?_) AllReadyH.nil
            go_simp
            refine hK.out _ _ ((setRow_other wr.drew w.heap.size (w.heap.size + 1) zCells9 (by omega)).trans HG17.out) (fun _ => ?_)
            clear hK K
            refine wpAnyH_ready (rs := [7]) (by kernel_rfl) (by simp) ?_
            refine AllReadyH.cons rfl (fun K hK => ?_) AllReadyH.nil
            go_simp
            refine hK.out _ _ ((setRow_other wr.drew w.heap.size (w.heap.size + 1) zCells9 (by omega)).trans HG17.out) (fun _ => ?_)
            clear hK K
            refine wpAnyH_done (by kernel_rfl) ?_ _
            go_wp2_with fail
            refine bodyPost_ret (results35 rfl (setRow_heap wr.drew _ _ _ _ _ HO17.out) rfl) rfl ?_
            rw [HR.out]
            exact ⟨er, rfl, HER.out, HSE.out.kept.drew.setRow (fun hh => absurd hh (Nat.lt_irrefl _)) _⟩
          · obtain ⟨vr, hg, hrr⟩ := hs.rdr
            obtain ⟨adr, capr, rfl⟩ := rd_slice hrr
            have c1 := obj_cell hg 1
            have HG := Lib.hid hg
            have hb := crdF_some hF2
            have hrl : r'.length ≤ m := by rw [← HM.out, hb, List.length_append]; omega
            obtain ⟨rl, hrl2⟩ : ∃ rl, r'.length = rl := ⟨_, rfl⟩
            rw [hrl2] at hrl HG
            have HRL := Lib.hid hrl2
            have HV := Lib.hid (cvalid_any HSM.out (⟨hs.effs.at, hs.trgs.at⟩ : CrdAt wr _ cF _ _))
            have HOB : wr.heap[w.heap.size]? = some (.cells #[.string (strOf cF.name), .int .i64 cF.kind, .int .i64 cF.o0, .int .i64 cF.o1, .int .i64 cF.o2, .int .i64 cF.o3, .int .i64 cF.any, .int .i64 cF.makes, .int .i64 cF.power, .int .i64 cF.tough, .int .i64 cF.keys, .slice ade ef.length cape, .slice adt tr.length capt, .int .i64 cF.rarity] 46 (0, 0)) := hs.obj
            have HOB2 := Lib.hid HOB
            have HCD := Lib.hid (show cdec b = if cvalid cF then some (cF, m - rl) else none by unfold cdec; rw [hF2, ← HM.out, ← hrl2])
            have q7 : IntKind.i64.wrap ((m : Int) - (rl : Int)) = (m : Int) - (rl : Int) := IntWalk.i64_in _ (by have := HMX.out; unfold maxLen at this; omega)
            clear hg hrr hs hF2 hb hrl2 HOB
            go_wp2_with (with_reducible refine wpList_load_row rfl 46 _ rfl w.heap.size rfl 46 _ (0, 0) _ HOB2.out Tryz.underlying46 rfl (by kernel_rfl) ?_)
            refine HV.out.mono ?_
            rintro e W1 ⟨rfl, hk⟩
            have hob1 := HSE.out.obj.no hk
            have hg1 := hk.obj HG.out (not_no _)
            have HSE1 := Lib.hid (HSE.out.no hk)
            cases hvd : cvalid cF
            · have HR := Lib.hid (show cdec b = none by rw [HCD.out, hvd]; rfl)
              have HOB1 := Lib.hid hob1
              clear hk hob1 hg1 hvd
              go_wp2_with (refine wpList_store_row rfl 46 _ _ rfl w.heap.size #[.string { data := #[] }, .int .i64 0, .int .i64 0, .int .i64 0, .int .i64 0, .int .i64 0, .int .i64 0, .int .i64 0, .int .i64 0, .int .i64 0, .int .i64 0, .slice none 0 0, .slice none 0 0, .int .i64 0] rfl rfl 46 _ HOB1.out (by kernel_rfl) rfl zc_all ?_)
              refine bodyPost_ret (results35 rfl (setRow_heap W1 _ _ _ _ _ HOB1.out) rfl) rfl ?_
              rw [HR.out]
              exact ⟨6, rfl, by decide, HSE1.out.kept.setRow (fun hh => absurd hh (Nat.lt_irrefl _)) _⟩
            · have HR := Lib.hid (show cdec b = some (cF, m - rl) by rw [HCD.out, hvd]; rfl)
              have HRLE := Lib.hid hrl
              have HO20 := Lib.hid hob1
              have HG20 := Lib.hid hg1
              have HALL := Lib.hid (all_oneCell_toArray (crd_one cF (ev := .slice ade ef.length cape) (tv := .slice adt tr.length capt) rfl rfl))
              clear hk hob1 hg1 hvd c1 hrl
              go_wp2_with fail
              refine wp_region_held_drew (S := (fun W' => CObj W' w.heap.size cF (.slice ade ef.length cape) (.slice adt tr.length capt) ∧ W'.heap[w.heap.size + 1]? = some (.cells #[.slice adr rl capr, .int .i64 0] 117 (0, 0)))) (by kernel_rfl) ⟨HO20.out, HG20.out⟩ (fun hHeld => ?_)
              refine wpAnyH_take (i := 0) (v := .agg #[.string (strOf cF.name), .int .i64 cF.kind, .int .i64 cF.o0, .int .i64 cF.o1, .int .i64 cF.o2, .int .i64 cF.o3, .int .i64 cF.any, .int .i64 cF.makes, .int .i64 cF.power, .int .i64 cF.tough, .int .i64 cF.keys, .slice ade ef.length cape, .slice adt tr.length capt, .int .i64 cF.rarity]) rfl (by kernel_rfl) (by kernel_rfl) (by kernel_rfl) (fun _ _ _ h => h) (yieldsIf_load_mid (by rfl) 46 (.tmp 2) rfl w.heap.size 0 rfl (crdCs cF (.slice ade ef.length cape) (.slice adt tr.length capt)) _ (fun W2 hSw => row_range hSw.1) Tryz.underlying46 rfl (by kernel_rfl)) (by assumption) ?_
              simp only [Act.put, List.getElem_toArray, List.getElem_cons_zero, List.getElem_cons_succ, List.setIfInBounds_toArray, List.set_cons_zero, List.set_cons_succ]
              refine wpAnyH_take (i := 1) (v := .slice ad m cap) rfl (by kernel_rfl) (by kernel_rfl) (by kernel_rfl) (fun _ _ _ h => h) (Or.inl ⟨by rfl, ?_⟩) (by assumption) ?_
              · intro W2 hSw; have s0 := obj_cell hSw.2 0; go_simp
              simp only [Act.put, List.getElem_toArray, List.getElem_cons_zero, List.getElem_cons_succ, List.setIfInBounds_toArray, List.set_cons_zero, List.set_cons_succ]
              refine wpAnyH_take (i := 2) (v := .int .i64 (m : Nat)) rfl (by kernel_rfl) (by kernel_rfl) (by kernel_rfl) (fun _ _ _ h => h) (Or.inl ⟨by rfl, ?_⟩) (by assumption) ?_
              · intro W2 hSw; have s0 := obj_cell hSw.2 0; go_simp
              simp only [Act.put, List.getElem_toArray, List.getElem_cons_zero, List.getElem_cons_succ, List.setIfInBounds_toArray, List.set_cons_zero, List.set_cons_succ]
              refine wpAnyH_take (i := 3) (v := .pointer (some ⟨w.heap.size + 1, 0, none⟩)) rfl (by kernel_rfl) (by kernel_rfl) (by kernel_rfl) (fun _ _ _ h => h) (Or.inl ⟨by rfl, ?_⟩) (by assumption) ?_
              · intro W2 hSw; have s0 := obj_cell hSw.2 0; go_simp
              simp only [Act.put, List.getElem_toArray, List.getElem_cons_zero, List.getElem_cons_succ, List.setIfInBounds_toArray, List.set_cons_zero, List.set_cons_succ]
              refine wpAnyH_take (i := 4) (v := .pointer (some ⟨w.heap.size + 1, 0, none⟩)) rfl (by kernel_rfl) (by kernel_rfl) (by kernel_rfl) (fun _ _ _ h => h) (Or.inl ⟨by rfl, ?_⟩) (by assumption) ?_
              · intro W2 hSw; have s0 := obj_cell hSw.2 0; go_simp
              simp only [Act.put, List.getElem_toArray, List.getElem_cons_zero, List.getElem_cons_succ, List.setIfInBounds_toArray, List.set_cons_zero, List.set_cons_succ]
              refine wpAnyH_take (i := 5) (v := .pointer (some ⟨w.heap.size + 1, 0, none⟩)) rfl (by kernel_rfl) (by kernel_rfl) (by kernel_rfl) (fun _ _ _ h => h) (Or.inl ⟨by rfl, ?_⟩) (by assumption) ?_
              · intro W2 hSw; have s0 := obj_cell hSw.2 0; go_simp
              simp only [Act.put, List.getElem_toArray, List.getElem_cons_zero, List.getElem_cons_succ, List.setIfInBounds_toArray, List.set_cons_zero, List.set_cons_succ]
              refine wpAnyH_take (i := 6) (v := .slice adr rl capr) rfl (by kernel_rfl) (by kernel_rfl) (by kernel_rfl) (fun _ _ _ h => h) (Or.inl ⟨by rfl, ?_⟩) (by assumption) ?_
              · intro W2 hSw; have s0 := obj_cell hSw.2 0; go_simp
              simp only [Act.put, List.getElem_toArray, List.getElem_cons_zero, List.getElem_cons_succ, List.setIfInBounds_toArray, List.set_cons_zero, List.set_cons_succ]
              refine wpAnyH_take (i := 7) (v := .int .i64 (rl : Nat)) rfl (by kernel_rfl) (by kernel_rfl) (by kernel_rfl) (fun _ _ _ h => h) (Or.inl ⟨by rfl, ?_⟩) (by assumption) ?_
              · intro W2 hSw; have s0 := obj_cell hSw.2 0; go_simp
              simp only [Act.put, List.getElem_toArray, List.getElem_cons_zero, List.getElem_cons_succ, List.setIfInBounds_toArray, List.set_cons_zero, List.set_cons_succ]
              refine wpAnyH_take (i := 8) (v := .int .i64 ((m : Int) - (rl : Int))) rfl (by kernel_rfl) (by kernel_rfl) (by kernel_rfl) (fun _ _ _ h => h) (Or.inl ⟨by rfl, ?_⟩) (by assumption) ?_
              · intro W2 hSw; have s0 := obj_cell hSw.2 0; go_simp
              simp only [Act.put, List.getElem_toArray, List.getElem_cons_zero, List.getElem_cons_succ, List.setIfInBounds_toArray, List.set_cons_zero, List.set_cons_succ]
              refine wpAnyH_ready (rs := [9]) (by kernel_rfl) (by simp) ?_
              refine AllReadyH.cons rfl (fun K hK => ?_) AllReadyH.nil
              refine step_store_row rfl 46 _ _ rfl w.heap.size (crdCs cF (.slice ade ef.length cape) (.slice adt tr.length capt)).toArray rfl rfl 46 _ HO20.out (by kernel_rfl) rfl HALL.out ?_
              refine hK.out _ _ ⟨setRow_heap W1.drew _ _ _ _ _ HO20.out, (setRow_other W1.drew w.heap.size (w.heap.size + 1) _ (by omega)).trans HG20.out⟩ (fun _ => ?_)
              clear hK K
              simp only [Act.put, List.getElem_toArray, List.getElem_cons_zero, List.getElem_cons_succ, List.setIfInBounds_toArray, List.set_cons_zero, List.set_cons_succ]
              refine wpAnyH_ready (rs := [10]) (by kernel_rfl) (by simp) ?_
              refine AllReadyH.cons rfl (fun K hK => ?_) AllReadyH.nil
              go_simp
              refine hK.out _ _ ⟨setRow_heap W1.drew _ _ _ _ _ HO20.out, (setRow_other W1.drew w.heap.size (w.heap.size + 1) _ (by omega)).trans HG20.out⟩ (fun _ => ?_)
              clear hK K
              refine wpAnyH_ready (rs := [11]) (by kernel_rfl) (by simp) ?_
              refine AllReadyH.cons rfl (fun K hK => ?_) AllReadyH.nil
              go_simp
              refine hK.out _ _ ⟨setRow_heap W1.drew _ _ _ _ _ HO20.out, (setRow_other W1.drew w.heap.size (w.heap.size + 1) _ (by omega)).trans HG20.out⟩ (fun _ => ?_)
              clear hK K
              refine wpAnyH_done (by kernel_rfl) ?_ _
              go_wp2_with fail
              have hkS : Kept (fun k => k = w.heap.size) W1 (W1.drew.setRow w.heap.size (crdCs cF (.slice ade ef.length cape) (.slice adt tr.length capt)).toArray) := ((Kept.refl (fun k => k = w.heap.size) W1).drew).setRow (fun _ => rfl) _
              refine bodyPost_ret (results35 rfl (setRow_heap W1.drew _ _ _ _ _ HO20.out) rfl) rfl ?_
              rw [HR.out]
              refine ⟨.slice ade ef.length cape, .slice adt tr.length capt, ?_, ⟨?_, ?_⟩, HSE1.out.kept.drew.setRow (fun hh => absurd hh (Nat.lt_irrefl _)) _⟩
              · rw [show ((m - rl : Nat) : Int) = (m : Int) - (rl : Int) by have := HRLE.out; omega]; rfl
              · exact (HSE1.out.effs.kept hkS (.of_obj HO20.out (by decide))).mono (by omega)
              · exact (HSE1.out.trgs.kept hkS (.of_obj HO20.out (by decide)) (.of_obj HO20.out (by decide))).mono (by omega)
end Go.Proofs.YtclgoilfclmibaaGreatDoor
