/-
  Runes: loops over a string; Width, Fold.
-/
import Derived.Test.YtoahnfmbmpllaaaDoorWalkB
import Derived.Test.YtoahnfmbmpllaaaDoorShelf
import Derived.Lib.OthersKept
set_option linter.unusedVariables false
set_option linter.unusedSimpArgs false
namespace Go.Proofs.YtoahnfmbmpllaaaDoor
open Go.RowKit Go.Zn
attribute [local go_sem] Oper.semAt_some

theorem strOf_size (l : List UInt8) : (strOf l).size = l.length := by simp [strOf, ByteArray.size]
theorem strOf_list (l : List UInt8) : (strOf l).data.toList = l := by simp [strOf]
theorem strOf_app (l r : List UInt8) : strOf l ++ strOf r = strOf (l ++ r) := by
  apply ByteArray.ext
  simp [strOf]
theorem kept_iterAt {w0 w : World} {k : Nat} (hk : Kept No w0 w) (h : w0.heap.size ≤ k) (s : ByteArray) (pos : Nat) : Kept No w0 (w.iterAt k s pos) :=
  ⟨hk.os, hk.tape, hk.output, by rw [Lib.iterAt_size]; exact hk.size, fun j h1 h2 => (Lib.iterAt_other w k j s pos (by omega)).trans (hk.block j h1 h2)⟩
/-- an iterator over l stands at a place -/
structure It (l : List UInt8) (k pos : Nat) (w0 wr : World) : Prop where
  it : wr.heap[k]? = some (.stringIter (strOf l) pos)
  lo : w0.heap.size ≤ k
  kept : Kept No w0 wr
theorem It.lt {l : List UInt8} {k pos : Nat} {w0 wr : World} (h : It l k pos w0 wr) : k < wr.heap.size := obj_lt h.it
theorem It.no {l : List UInt8} {k pos : Nat} {w0 w w' : World} (h : It l k pos w0 w) (hk : Kept No w w') : It l k pos w0 w' := ⟨hk.obj h.it (not_no _), h.lo, h.kept.and hk⟩
theorem It.next {l : List UInt8} {k pos : Nat} {w0 w : World} (h : It l k pos w0 w) (pos' : Nat) : It l k pos' w0 (w.iterAt k (strOf l) pos') :=
  ⟨Lib.iterAt_heap w k _ pos pos' h.it, h.lo, kept_iterAt h.kept h.lo _ _⟩
theorem It.start (l : List UInt8) (w : World) : It l w.heap.size 0 w (w.alloc (.stringIter (strOf l) 0)) := ⟨World.alloc_at rfl _, Nat.le_refl _, (Kept.refl No w).alloc _⟩
theorem It.pos {l : List UInt8} {k pos : Nat} {w0 wr : World} (h : It l k pos w0 wr) : wr.iterPos k = pos := by simp [World.iterPos, h.it]
/-- the runes from a place on -/
def rest (l : List UInt8) (pos : Nat) : List Nat := rns (l.drop pos)
def dec (l : List UInt8) (pos : Nat) : Nat × Nat := Utf8.decode (strOf l) pos
theorem rest_zero (l : List UInt8) : rest l 0 = rns l := by simp [rest]
theorem rest_at {l : List UInt8} {pos : Nat} (h : pos < l.length) : rest l pos = (dec l pos).1 :: rest l (pos + (dec l pos).2) := by
  have := rns_at (strOf l) (pos := pos) (by rw [strOf_size]; exact h)
  rw [strOf_list] at this
  exact this
theorem rest_end {l : List UInt8} {pos : Nat} (h : ¬ pos < l.length) : rest l pos = [] := by
  have := rns_end (strOf l) (pos := pos) (by rw [strOf_size]; exact h)
  rw [strOf_list] at this
  exact this
theorem dec_pos (l : List UInt8) (pos : Nat) : 1 ≤ (dec l pos).2 := Lib.width_pos _ _
theorem dec_scal (l : List UInt8) (pos : Nat) : Scal (dec l pos).1 := by
  unfold dec
  rw [Lib.decode_N]
  exact decodeN_scal _ _ _ _ _

def WdRel (l : List UInt8) (k : Nat) (w0 : World) (nv : Value) (wr : World) : Prop :=
  ∃ (pos n : Nat), nv = .int .i64 (n : Nat) ∧ n + colsL (rest l pos) = widthS l ∧ It l k pos w0 wr
set_option maxHeartbeats 4000000 in
theorem width_any {l : List UInt8} (hl : l.length ≤ 100000) {w : World} (hV : VS w) : Calls Tryd.prog 6 #[.string (strOf l)] w fun e w' => e = .returned (.int .i64 (widthS l : Nat)) ∧ Kept No w w' := by
  have hsz := strOf_size l
  have HL := Lib.hid (Nat.le_trans (widthS_le l) (show 2 * l.length ≤ 200000 by omega))
  have HV := Lib.hid hV
  have HIT := Lib.hid (It.start l w)
  clear hV hl
  go_enter Tryd.func6, Tryd.ntmps6
  go_wp2_with fail
  go_loopw [3] (fun nv wr => WdRel l w.heap.size w nv wr) (fun _ wr => l.length - wr.iterPos w.heap.size)
  case atStart => exact ⟨0, 0, rfl, by rw [rest_zero, Nat.zero_add]; rfl, HIT.out⟩
  case round =>
    obtain ⟨pos, n, rfl, hn, hI⟩ := hrel
    have HI := Lib.hid hI
    have hip := hI.pos
    have hle : n ≤ 200000 := by have := HL.out; omega
    by_cases hp : pos < l.length
    · have hp2 : pos < (strOf l).size := by omega
      have hnx : ∀ ty, (Instr.next (.pointer (some ⟨w.heap.size, 0, none⟩)) true ty).run Tryd.prog wr = _ := fun ty => Lib.run_next_any_at wr w.heap.size (strOf l) pos ty hI.it hp2
      have hd : Utf8.decode (strOf l) pos = dec l pos := rfl
      rw [hd] at hnx
      obtain ⟨d, hdd⟩ : ∃ d, dec l pos = d := ⟨_, rfl⟩
      have hsc : Scal d.1 := by rw [← hdd]; exact dec_scal l pos
      have hdp : 1 ≤ d.2 := by rw [← hdd]; exact dec_pos l pos
      have hra := rest_at hp
      rw [hdd] at hnx hra
      obtain ⟨c, wd⟩ := d
      have hra : rest l pos = c :: rest l (pos + wd) := hra
      have hdp : 1 ≤ wd := hdp
      have HI2 := Lib.hid (HI.out.next (pos + wd))
      have HS := Lib.hid (show n + colR c + colsL (rest l (pos + wd)) = widthS l by
        rw [hra, colsL_cons] at hn
        omega)
      have hcl := colR_le c
      have HC := Lib.hid (columns_any hsc.le (HV.out.no HI2.out.kept))
      obtain ⟨m, hm⟩ : ∃ m, colR c = m := ⟨_, rfl⟩
      rw [hm] at HS HC hcl
      have HP := Lib.hid (And.intro hp hdp)
      have q1 : IntKind.i64.wrap ((n : Int) + (m : Int)) = (n : Int) + (m : Int) := IntWalk.i64_in _ (by omega)
      clear hI hn hd hdd hsc hra hm hp hdp
      go_wp2_with fail
      refine HC.out.mono ?_
      rintro e w1 ⟨rfl, hk⟩
      have HI3 := Lib.hid (HI2.out.no hk)
      clear hk
      go_wp2_with fail
      have hP := HP.out
      have h3 := HI3.out.pos
      refine ⟨⟨pos + wd, n + m, by go_num, HS.out, HI3.out⟩, ?_⟩
      rw [h3, hip]
      omega
    · have hp2 : ¬ pos < (strOf l).size := by omega
      have hnx : ∀ ty, (Instr.next (.pointer (some ⟨w.heap.size, 0, none⟩)) true ty).run Tryd.prog wr = _ := fun ty => Lib.run_next_end_at wr w.heap.size (strOf l) pos ty hI.it hp2
      have HS := Lib.hid (show n = widthS l by rw [rest_end hp, colsL_nil] at hn; omega)
      clear hI hn hp
      go_wp2_with fail
      go_ret
      exact ⟨by rw [← HS.out]; rfl, HI.out.kept⟩
end Go.Proofs.YtoahnfmbmpllaaaDoor
