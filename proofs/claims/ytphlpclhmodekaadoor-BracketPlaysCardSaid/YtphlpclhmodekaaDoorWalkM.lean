/-
  Bracket: the examples of the chapter.
-/
import Derived.Test.YtphlpclhmodekaaDoorWalkL
set_option linter.unusedVariables false
set_option linter.unusedSimpArgs false
namespace Go.Proofs.YtphlpclhmodekaaDoor
open Go.RowKit Go.Zn
attribute [local go_sem] Oper.semAt_some

theorem sz5 : Sz 3 5 := ⟨by decide, by decide, by decide, by decide⟩
def k0 : Nat → Nat := freshF 3 5
def k1 : Nat → Nat := upd k0 1 2
def k2 : Nat → Nat := upd k1 4 2
def k3 : Nat → Nat := upd k2 5 1
def k4 : Nat → Nat := upd k3 6 1
def k5 : Nat → Nat := upd k4 6 0
/-- the bracket of the examples -/
structure KS (f : Nat → Nat) (b : Nat) (w0 w : World) : Prop where
  bs : BS 3 5 f b w
  lo : w0.heap.size ≤ b
  kept : Kept No w0 w
theorem KS.to {f : Nat → Nat} {b : Nat} {w0 w w' : World} (h : KS f b w0 w) (hk : Kept No w w') : KS f b w0 w' := ⟨h.bs.to hk (not_no _), h.lo, h.kept.and hk⟩
theorem KS.rep {f g : Nat → Nat} {b : Nat} {w0 w w' : World} (h : KS f b w0 w) (hb : BS 3 5 g b w') (hk : Kept (fun i => i = b) w w') : KS g b w0 w' := ⟨hb, h.lo, h.kept.new hk fun i e => by rw [e]; exact h.lo⟩
theorem kseat {f : Nat → Nat} {b : Nat} {w0 w : World} (h : KS f b w0 w) {m : Nat} (hm : m < 7) {a c : Int} (hs : seatsN 3 5 f 64 m = (a, c)) : Calls Tryd.prog 19 #[.pointer (some ⟨b, 0, none⟩), .int .i64 (m : Nat), .int .i64 a, .int .i64 c, .int .i64 0] w fun e w' => e = .returned (.bool true) ∧ w' = w := by
  rw [seatsN_eq 64 m (by omega)] at hs
  have := seatsL_any (a := a) (c := c) (z := 0) (seats_in h.bs (m := m) (by omega))
  rw [hs] at this
  simpa using this
theorem kopen {f : Nat → Nat} {b : Nat} {w0 w : World} (h : KS f b w0 w) {l : List Nat} (hl : openLN 3 5 f 7 = l) : Calls Tryd.prog 10 #[.pointer (some ⟨b, 0, none⟩)] w (ListPost l w) := by
  have := openl_any h.bs
  rw [show (2 : Nat) ^ 3 - 1 = 7 from rfl, ← openLN_eq (by decide), hl] at this
  exact this
theorem ktext {f : Nat → Nat} {b : Nat} {w0 w : World} (h : KS f b w0 w) {l : List UInt8} (hl : Lib.decDigits 5 ++ [58] ++ chsF 3 5 f 7 = l) : Calls Tryd.prog 12 #[.pointer (some ⟨b, 0, none⟩)] w fun e w' => e = .returned (.string (strOf l)) ∧ Kept No w w' := by
  have := text_any h.bs
  rw [show textF 3 5 f = l from hl] at this
  exact this
theorem kreport {f : Nat → Nat} {b : Nat} {w0 w : World} (h : KS f b w0 w) {m s : Nat} (hm : m < 7) (hs : s ≤ 1) (ho : openN 3 5 f m = true) : Calls Tryd.prog 13 #[.pointer (some ⟨b, 0, none⟩), .int .i64 (m : Nat), .int .i64 (s : Nat)] w fun e w' => e = .returned (.int .i64 0) ∧ KS (upd f m (s + 1)) b w0 w' :=
  (report_open h.bs (by omega) hs (by rw [← openN_eq (by omega)]; exact ho)).mono fun e w' ⟨he, hb, hk⟩ => ⟨he, h.rep hb hk⟩
theorem krank {f : Nat → Nat} {b : Nat} {w0 w : World} (h : KS f b w0 w) {e p : Nat} {n : Int} (he : e < 5) (hp : seedK 3 p = e) (pl : p < 8) (hr : rankN 3 5 f e 64 (p / 2) 0 = n) : Calls Tryd.prog 20 #[.pointer (some ⟨b, 0, none⟩), .int .i64 (e : Nat), .int .i64 n, .int .i64 0] w fun x w' => x = .returned (.bool true) ∧ w' = w := by
  rw [rankN_eq (by decide) 64 _ _ (by omega) (by omega)] at hr
  have := ranksL_any (a := n) (z := 0) (rank_in h.bs he hp pl)
  rw [show rankF 3 5 f e p = n from hr] at this
  simpa using this
theorem kchamp {f : Nat → Nat} {b : Nat} {w0 w : World} (h : KS f b w0 w) {n : Int} (hn : winN 3 5 f 6 = n) : Calls Tryd.prog 11 #[.pointer (some ⟨b, 0, none⟩)] w fun e w' => e = .returned (.int .i64 n) ∧ w' = w := by
  have := champion_any h.bs
  rw [show (2 : Nat) ^ 3 - 2 = 6 from rfl, ← winN_eq (by decide), hn] at this
  exact this
theorem rd_two (w : World) (u v : Value) (t : TypeId) : Rd (w.alloc (.cells #[u, v] t)) (fun i => i = w.heap.size) 1 (.slice (some ⟨w.heap.size, 0, none⟩) 2 2) 2 [u, v] :=
  ⟨rfl, by unfold maxLen; omega, .inr ⟨w.heap.size, 0, 2, rfl, by decide, fun _ => rfl, fun j x hj => by rw [obj_cell (heap_alloc_new w _) (0 + j), Nat.zero_add]; simpa using hj⟩⟩
theorem kints {w w' : World} {B C : Nat → Prop} {u v : Value} {l : List Nat} (hu : Rd w B 1 u l.length (ints l)) (hv : Rd w C 1 v l.length (ints l)) : Calls Tryd.prog 27 #[u, v] w fun e w' => e = .returned (.bool true) ∧ Kept No w w' := by
  rw [ints_eq] at hu hv
  have := ints_any (l := l.map fun (j : Nat) => (j : Int)) (r := l.map fun (j : Nat) => (j : Int)) (by simpa using hu) (by simpa using hv)
  simpa using this
set_option maxRecDepth 100000 in
set_option maxHeartbeats 16000000 in
theorem known_any (w : World) : Calls Tryd.prog 8 #[] w fun e w' => e = .returned (.bool true) ∧ Kept No w w' := by
  have HNEW := Lib.hid (new_in sz5 w)
  go_enter Tryd.func8, Tryd.ntmps8
  go_wp2_with fail
  refine HNEW.out.mono ?_
  rintro e w1 ⟨b, rfl, hlo, hbs, hk⟩
  have H1 := Lib.hid (show KS k0 b w w1 from ⟨hbs, hlo, hk⟩)
  clear hlo hbs hk
  go_wp2_with fail
  refine (kseat (m := 0) (a := 0) (c := (-2)) H1.out (by decide) (by decide +kernel)).mono ?_
  rintro e wz ⟨rfl, hk⟩
  have hk := hk.symm
  subst hk
  go_wp2_with fail
  refine (kseat (m := 1) (a := 3) (c := 4) H1.out (by decide) (by decide +kernel)).mono ?_
  rintro e wz ⟨rfl, hk⟩
  have hk := hk.symm
  subst hk
  go_wp2_with fail
  refine (kseat (m := 3) (a := 2) (c := (-2)) H1.out (by decide) (by decide +kernel)).mono ?_
  rintro e wz ⟨rfl, hk⟩
  have hk := hk.symm
  subst hk
  go_wp2_with fail
  refine (kseat (m := 4) (a := 0) (c := (-1)) H1.out (by decide) (by decide +kernel)).mono ?_
  rintro e wz ⟨rfl, hk⟩
  have hk := hk.symm
  subst hk
  go_wp2_with fail
  refine (kopen (l := [1, 5]) H1.out (by decide +kernel)).mono ?_
  rintro e w2 ⟨v, rfl, hrd, hk⟩
  obtain ⟨ad, cap, rfl⟩ := rd_slice hrd
  have HRD := Lib.hid hrd
  have H2 := Lib.hid (H1.out.to hk)
  have HIN := Lib.hid (show Calls Tryd.prog 27 #[.slice ad 2 cap, .slice (some ⟨w2.heap.size, 0, none⟩) 2 2] (w2.alloc (.cells #[.int .i64 1, .int .i64 5] 3)) fun e w' => e = .returned (.bool true) ∧ Kept No (w2.alloc (.cells #[.int .i64 1, .int .i64 5] 3)) w' from
    kints (w' := w) (l := [1, 5]) (hrd.alloc _) (rd_two _ (.int .i64 1) (.int .i64 5) 3))
  clear hrd hk
  go_wp2_with fail
  refine HIN.out.mono ?_
  rintro e w3 ⟨rfl, hk⟩
  have H3 := Lib.hid (H2.out.to (((Kept.refl No w2).alloc _).and hk))
  clear hk
  go_wp2_with fail
  refine (show Calls Tryd.prog 12 #[.pointer (some ⟨b, 0, none⟩)] w3 fun e w' => e = .returned (.string { data := #[53, 58, 45, 46, 45, 45, 46, 46, 46] }) ∧ Kept No w3 w' from ktext (l := [53, 58, 45, 46, 45, 45, 46, 46, 46]) H3.out (by decide +kernel)).mono ?_
  rintro e w4 ⟨rfl, hk⟩
  have H4 := Lib.hid (H3.out.to hk)
  clear hk
  go_wp2_with fail
  refine (report_shut (m := 0) (s := 0) H4.out.bs (by decide) (by decide) (by rw [← openN_eq (by decide)]; decide +kernel)).mono ?_
  rintro e wz ⟨rfl, hk⟩
  have hk := hk.symm
  subst hk
  go_wp2_with fail
  refine (kreport (m := 1) (s := 1) H4.out (by decide) (by decide) (by decide +kernel)).mono ?_
  rintro e w5 ⟨rfl, hks⟩
  have H5 := Lib.hid (show KS k1 b w w5 from hks)
  clear hks
  go_wp2_with fail
  refine (kseat (m := 4) (a := 0) (c := 4) H5.out (by decide) (by decide +kernel)).mono ?_
  rintro e wz ⟨rfl, hk⟩
  have hk := hk.symm
  subst hk
  go_wp2_with fail
  refine (kreport (m := 4) (s := 1) H5.out (by decide) (by decide) (by decide +kernel)).mono ?_
  rintro e w6 ⟨rfl, hks⟩
  have H6 := Lib.hid (show KS k2 b w w6 from hks)
  clear hks
  go_wp2_with fail
  refine (krank (e := 0) (p := 0) (n := 1) H6.out (by decide) (by decide) (by decide) (by decide +kernel)).mono ?_
  rintro e wz ⟨rfl, hk⟩
  have hk := hk.symm
  subst hk
  go_wp2_with fail
  refine (undo_done (m := 1) H6.out.bs (by decide) (by decide +kernel) (by decide +kernel) (by decide) (by decide +kernel)).mono ?_
  rintro e w7 ⟨rfl, hk⟩
  have H7 := Lib.hid (H6.out.to hk)
  clear hk
  go_wp2_with fail
  refine (kopen (l := [5]) H7.out (by decide +kernel)).mono ?_
  rintro e w8 ⟨v, rfl, hrd, hk⟩
  obtain ⟨ad, cap, rfl⟩ := rd_slice hrd
  have HRD := Lib.hid hrd
  have H8 := Lib.hid (H7.out.to hk)
  have HIN := Lib.hid (show Calls Tryd.prog 27 #[.slice ad 1 cap, .slice (some ⟨w8.heap.size, 0, none⟩) 1 1] (w8.alloc (.cells #[.int .i64 5] 3)) fun e w' => e = .returned (.bool true) ∧ Kept No (w8.alloc (.cells #[.int .i64 5] 3)) w' from
    kints (w' := w) (l := [5]) (hrd.alloc _) (rd_new1 _ (.int .i64 5) 3))
  clear hrd hk
  go_wp2_with fail
  refine HIN.out.mono ?_
  rintro e w9 ⟨rfl, hk⟩
  have H9 := Lib.hid (H8.out.to (((Kept.refl No w8).alloc _).and hk))
  clear hk
  go_wp2_with fail
  refine (show Calls Tryd.prog 12 #[.pointer (some ⟨b, 0, none⟩)] w9 fun e w' => e = .returned (.string { data := #[53, 58, 45, 49, 45, 45, 49, 46, 46] }) ∧ Kept No w9 w' from ktext (l := [53, 58, 45, 49, 45, 45, 49, 46, 46]) H9.out (by decide +kernel)).mono ?_
  rintro e w10 ⟨rfl, hk⟩
  have H10 := Lib.hid (H9.out.to hk)
  clear hk
  go_wp2_with fail
  refine (kreport (m := 5) (s := 0) H10.out (by decide) (by decide) (by decide +kernel)).mono ?_
  rintro e w11 ⟨rfl, hks⟩
  have H11 := Lib.hid (show KS k3 b w w11 from hks)
  clear hks
  go_wp2_with fail
  refine (kreport (m := 6) (s := 0) H11.out (by decide) (by decide) (by decide +kernel)).mono ?_
  rintro e w12 ⟨rfl, hks⟩
  have H12 := Lib.hid (show KS k4 b w w12 from hks)
  clear hks
  go_wp2_with fail
  refine (kchamp (n := 4) H12.out (by decide +kernel)).mono ?_
  rintro e wz ⟨rfl, hk⟩
  have hk := hk.symm
  subst hk
  go_wp2_with fail
  refine (krank (e := 4) (p := 3) (n := 3) H12.out (by decide) (by decide) (by decide) (by decide +kernel)).mono ?_
  rintro e wz ⟨rfl, hk⟩
  have hk := hk.symm
  subst hk
  go_wp2_with fail
  refine (krank (e := 1) (p := 4) (n := 2) H12.out (by decide) (by decide) (by decide) (by decide +kernel)).mono ?_
  rintro e wz ⟨rfl, hk⟩
  have hk := hk.symm
  subst hk
  go_wp2_with fail
  refine (krank (e := 3) (p := 2) (n := 0) H12.out (by decide) (by decide) (by decide) (by decide +kernel)).mono ?_
  rintro e wz ⟨rfl, hk⟩
  have hk := hk.symm
  subst hk
  go_wp2_with fail
  refine (report_arg H12.out.bs 6 2 (by decide) (by decide)).mono ?_
  rintro e wz ⟨rfl, hk⟩
  have hk := hk.symm
  subst hk
  go_wp2_with fail
  refine (undo_last (m := 6) H12.out.bs (by decide) (by decide +kernel) (by decide +kernel) (by decide)).mono ?_
  rintro e w13 ⟨rfl, hbs, hk⟩
  have H13 := Lib.hid (H12.out.rep hbs hk)
  clear hbs hk
  go_wp2_with fail
  refine (kchamp (n := (-1)) H13.out (by decide +kernel)).mono ?_
  rintro e wz ⟨rfl, hk⟩
  have hk := hk.symm
  subst hk
  go_wp2_with fail
  go_ret
  exact ⟨rfl, H13.out.kept⟩
end Go.Proofs.YtphlpclhmodekaaDoor
