/- The chapter's examples. (printed by gen_awake19.py) -/
import Derived.Test.YticeionjlknlcaaLowered
import Derived.Test.YticeionjlknlcaaInts06
namespace Go.Proofs.Yticeionjlknlcaa
set_option linter.unusedVariables false
set_option linter.unusedSimpArgs false
open Go.RowKit

def exR : List Ar := [⟨1, 2, 1⟩, ⟨2, 3, 1⟩, ⟨3, 4, 1⟩]
theorem exROk : NetOk 5 0 4 exR := ⟨by omega, by omega, by omega, by omega, by omega, by decide, by simp [exR, ArcOk]⟩
theorem exRGr : Gr 5 0 4 5 6 exR := ⟨exROk, by decide, by decide +kernel⟩
theorem exLow1 : IsLow 0 5 6 exR [1, 0, 1, 0, 1, 0] [5, 5, 5, 5, 0] [5, 3, 2, 1, 0] := by
  refine ⟨rfl, ?_, ?_, fun gs hv hl v hv5 => ?_⟩
  · unfold Vld; decide +kernel
  · unfold LeV; decide +kernel
  · have g1 := hv 0 (by omega) (by decide +kernel) (by decide)
    have g2 := hv 2 (by omega) (by decide +kernel) (by decide)
    have g3 := hv 4 (by omega) (by decide +kernel) (by decide)
    rw [show tl exR 5 0 = 1 by decide +kernel, show hd 5 exR 0 = 2 by decide +kernel] at g1
    rw [show tl exR 5 2 = 2 by decide +kernel, show hd 5 exR 2 = 3 by decide +kernel] at g2
    rw [show tl exR 5 4 = 3 by decide +kernel, show hd 5 exR 4 = 4 by decide +kernel] at g3
    have l0 := hl 0 (by omega)
    have l1 := hl 1 (by omega)
    have l2 := hl 2 (by omega)
    have l3 := hl 3 (by omega)
    have l4 := hl 4 (by omega)
    have hc : v = 0 ∨ v = 1 ∨ v = 2 ∨ v = 3 ∨ v = 4 := by omega
    rw [show ([5, 5, 5, 5, 0] : List Int).getD 0 0 = 5 from rfl] at l0
    rw [show ([5, 5, 5, 5, 0] : List Int).getD 1 0 = 5 from rfl] at l1
    rw [show ([5, 5, 5, 5, 0] : List Int).getD 2 0 = 5 from rfl] at l2
    rw [show ([5, 5, 5, 5, 0] : List Int).getD 3 0 = 5 from rfl] at l3
    rw [show ([5, 5, 5, 5, 0] : List Int).getD 4 0 = 0 from rfl] at l4
    rcases hc with rfl | rfl | rfl | rfl | rfl
    · show gs.getD 0 0 ≤ 5; omega
    · show gs.getD 1 0 ≤ 3; omega
    · show gs.getD 2 0 ≤ 2; omega
    · show gs.getD 3 0 ≤ 1; omega
    · show gs.getD 4 0 ≤ 0; omega
theorem exLow2 : IsLow 0 5 6 exR [1, 0, 1, 0, 1, 0] [5, 1, 5, 5, 0] [5, 1, 2, 1, 0] := by
  refine ⟨rfl, ?_, ?_, fun gs hv hl v hv5 => ?_⟩
  · unfold Vld; decide +kernel
  · unfold LeV; decide +kernel
  · have g1 := hv 0 (by omega) (by decide +kernel) (by decide)
    have g2 := hv 2 (by omega) (by decide +kernel) (by decide)
    have g3 := hv 4 (by omega) (by decide +kernel) (by decide)
    rw [show tl exR 5 0 = 1 by decide +kernel, show hd 5 exR 0 = 2 by decide +kernel] at g1
    rw [show tl exR 5 2 = 2 by decide +kernel, show hd 5 exR 2 = 3 by decide +kernel] at g2
    rw [show tl exR 5 4 = 3 by decide +kernel, show hd 5 exR 4 = 4 by decide +kernel] at g3
    have l0 := hl 0 (by omega)
    have l1 := hl 1 (by omega)
    have l2 := hl 2 (by omega)
    have l3 := hl 3 (by omega)
    have l4 := hl 4 (by omega)
    have hc : v = 0 ∨ v = 1 ∨ v = 2 ∨ v = 3 ∨ v = 4 := by omega
    rw [show ([5, 1, 5, 5, 0] : List Int).getD 0 0 = 5 from rfl] at l0
    rw [show ([5, 1, 5, 5, 0] : List Int).getD 1 0 = 1 from rfl] at l1
    rw [show ([5, 1, 5, 5, 0] : List Int).getD 2 0 = 5 from rfl] at l2
    rw [show ([5, 1, 5, 5, 0] : List Int).getD 3 0 = 5 from rfl] at l3
    rw [show ([5, 1, 5, 5, 0] : List Int).getD 4 0 = 0 from rfl] at l4
    rcases hc with rfl | rfl | rfl | rfl | rfl
    · show gs.getD 0 0 ≤ 5; omega
    · show gs.getD 1 0 ≤ 1; omega
    · show gs.getD 2 0 ≤ 2; omega
    · show gs.getD 3 0 ≤ 1; omega
    · show gs.getD 4 0 ≤ 0; omega
theorem arsNewR (W : World) (ys : List Ar) : Ars (W.alloc (.cells (acells ys).toArray 67)) (some ⟨W.heap.size, 0, none⟩) ys :=
  .inr ⟨W.heap.size, 0, rfl, fun i u hu => by rw [Nat.zero_add, (Blk.new W _ _).cell]; simpa using hu⟩
theorem rdNewR (W : World) (l : List Int) (T : TypeId) : Rd (W.alloc (.cells (lv l).toArray T)) (some ⟨W.heap.size, 0, none⟩) (lv l) := Rd.blk (Blk.new _ _ _)
def LeftExR (w : World) (e : Ending) (w' : World) : Prop := ∃ a3 c3 a4 c4 a5 c5 a6 c6 a7 c7 a8 c8 a9 c9, e = .returned (.tuple #[.agg #[.int .i64 5, .int .i64 0, .int .i64 4, .slice a3 6 c3, .slice a4 6 c4, .slice a5 6 c5, .slice a6 6 c6, .slice a7 6 c7, .slice a8 6 c8], .slice a9 6 c9]) ∧ CsrR w' 5 exR a3 a4 a5 a6 a7 a8 ∧ Rd w' a9 (lv [1, 0, 1, 0, 1, 0]) ∧ Kept w w'
theorem left_exR (g : Nat) (w : World) (h : Ars w (some ⟨g, 0, none⟩) exR) : Calls Try.prog 12 #[.agg #[.int .i64 5, .int .i64 0, .int .i64 4, .slice (some ⟨g, 0, none⟩) 3 3], .slice none 0 0] w (LeftExR w) := by
  refine (Left_ok 5 0 4 (some ⟨g, 0, none⟩) 3 exR none 0 [] w h exROk (.inl rfl) (by simp) (by simp)).mono ?_
  rintro e w' ⟨B, n, m, a3, c3, a4, c4, a5, c5, a6, c6, a7, c7, a8, c8, a9, c9, rfl, hn, hm, hcr, -, hk, -, ho⟩
  have hn3 : n = 5 := by rw [← hn]; rfl
  subst hn3
  have hm4 : m = 6 := by rw [← hm]; exact exRGr.hm
  subst hm4
  obtain ⟨b, c, e1, hr⟩ := Rd.owns ho
  cases e1
  rw [show resAll (wths [] exR) 5 exR = [1, 0, 1, 0, 1, 0] by decide +kernel] at hr
  exact ⟨a3, c3, a4, c4, a5, c5, a6, c6, a7, c7, a8, c8, a9, c9, rfl, hcr, hr, hk⟩
theorem lower_ex1 {a3 a4 a5 a6 a7 a8 a9 : Option Addr} {c3 c4 c5 c6 c7 c8 c9 : Nat} (hb : Nat) (w : World) (hcr : CsrR w 5 exR a3 a4 a5 a6 a7 a8) (hr : Rd w a9 (lv [1, 0, 1, 0, 1, 0])) (hh : Rd w (some ⟨hb, 0, none⟩) (lv [5, 5, 5, 5, 0])) :
    Calls Try.prog 16 #[.agg #[.int .i64 5, .int .i64 0, .int .i64 4, .slice a3 6 c3, .slice a4 6 c4, .slice a5 6 c5, .slice a6 6 c6, .slice a7 6 c7, .slice a8 6 c8], .slice a9 6 c9, .slice (some ⟨hb, 0, none⟩) 5 5] w fun e w' => ∃ a c, e = .returned (.slice a 5 c) ∧ Rd w' a (lv [5, 3, 2, 1, 0]) ∧ Kept w w' := by
  refine (lower_any 5 0 4 5 6 a3 a4 a5 a6 a7 a8 c3 c4 c5 c6 c7 c8 exR a9 c9 [1, 0, 1, 0, 1, 0] (some ⟨hb, 0, none⟩) 5 [5, 5, 5, 5, 0] w exRGr hcr hr hh (by simp) (by simp)).mono ?_
  rintro e w' ⟨a, k, c, L, rfl, hk, hlow, hrd, -, -, hkp⟩
  unfold LowL at hlow
  rw [if_pos (by decide +kernel)] at hlow
  obtain rfl := hlow.unique exLow1
  subst hk
  exact ⟨a, c, rfl, hrd, hkp⟩
theorem lower_ex2 {a3 a4 a5 a6 a7 a8 a9 : Option Addr} {c3 c4 c5 c6 c7 c8 c9 : Nat} (hb : Nat) (w : World) (hcr : CsrR w 5 exR a3 a4 a5 a6 a7 a8) (hr : Rd w a9 (lv [1, 0, 1, 0, 1, 0])) (hh : Rd w (some ⟨hb, 0, none⟩) (lv [5, 1, 5, 5, 0])) :
    Calls Try.prog 16 #[.agg #[.int .i64 5, .int .i64 0, .int .i64 4, .slice a3 6 c3, .slice a4 6 c4, .slice a5 6 c5, .slice a6 6 c6, .slice a7 6 c7, .slice a8 6 c8], .slice a9 6 c9, .slice (some ⟨hb, 0, none⟩) 5 5] w fun e w' => ∃ a c, e = .returned (.slice a 5 c) ∧ Rd w' a (lv [5, 1, 2, 1, 0]) ∧ Kept w w' := by
  refine (lower_any 5 0 4 5 6 a3 a4 a5 a6 a7 a8 c3 c4 c5 c6 c7 c8 exR a9 c9 [1, 0, 1, 0, 1, 0] (some ⟨hb, 0, none⟩) 5 [5, 1, 5, 5, 0] w exRGr hcr hr hh (by simp) (by simp)).mono ?_
  rintro e w' ⟨a, k, c, L, rfl, hk, hlow, hrd, -, -, hkp⟩
  unfold LowL at hlow
  rw [if_pos (by decide +kernel)] at hlow
  obtain rfl := hlow.unique exLow2
  subst hk
  exact ⟨a, c, rfl, hrd, hkp⟩
theorem lowered_ex1 {a3 a4 a5 a6 a7 a8 a9 : Option Addr} {c3 c4 c5 c6 c7 c8 c9 : Nat} (hb : Nat) (w : World) (hcr : CsrR w 5 exR a3 a4 a5 a6 a7 a8) (hr : Rd w a9 (lv [1, 0, 1, 0, 1, 0])) (hh : Rd w (some ⟨hb, 0, none⟩) (lv [5, 5, 5, 5, 0])) :
    Calls Try.prog 18 #[.agg #[.int .i64 5, .int .i64 0, .int .i64 4, .slice a3 6 c3, .slice a4 6 c4, .slice a5 6 c5, .slice a6 6 c6, .slice a7 6 c7, .slice a8 6 c8], .slice a9 6 c9, .slice (some ⟨hb, 0, none⟩) 5 5] w fun e w' => ∃ a c, e = .returned (.slice a 3 c) ∧ Rd w' a (lv [1, 2, 3]) ∧ Kept w w' := by
  refine (lowered_any 5 0 4 5 6 a3 a4 a5 a6 a7 a8 c3 c4 c5 c6 c7 c8 exR a9 c9 [1, 0, 1, 0, 1, 0] (some ⟨hb, 0, none⟩) 5 [5, 5, 5, 5, 0] w exRGr hcr hr hh (by simp) (by simp)).mono ?_
  rintro e w' ⟨a, k, c, L, rfl, hlow, hk, hrd, hkp⟩
  unfold LowL at hlow
  rw [if_pos (by decide +kernel)] at hlow
  obtain rfl := hlow.unique exLow1
  subst hk
  exact ⟨a, c, rfl, hrd, hkp⟩
theorem ints_exR (a a' : Option Addr) (c c' : Nat) (xs : List Int) (n : Nat) (w : World) (hn : xs.length = n) (hm : n ≤ 1000000) (hx : Rd w a (lv xs)) (hy : Rd w a' (lv xs)) :
    Calls Try.prog 15 #[.slice a n c, .slice a' n c'] w fun e w' => e = .returned (.bool true) ∧ Kept w w' := by
  subst hn
  have h1 := ints_same a a' c c' xs xs w hx hy (by omega) (by omega)
  simpa using h1
structure EXR (w : World) (cb : Nat) (a3 a4 a5 a6 a7 a8 a9 : Option Addr) (c3 c4 c5 c6 c7 c8 c9 : Nat) (wr : World) : Prop where
  kp : Kept w wr
  box : Blk wr cb #[.int .i64 5, .int .i64 0, .int .i64 4, .slice a3 6 c3, .slice a4 6 c4, .slice a5 6 c5, .slice a6 6 c6, .slice a7 6 c7, .slice a8 6 c8] 29
  cr : CsrR wr 5 exR a3 a4 a5 a6 a7 a8
  rs : Rd wr a9 (lv [1, 0, 1, 0, 1, 0])
theorem EXR.kept {w : World} {cb : Nat} {a3 a4 a5 a6 a7 a8 a9 : Option Addr} {c3 c4 c5 c6 c7 c8 c9 : Nat} {wr w' : World} (h : EXR w cb a3 a4 a5 a6 a7 a8 a9 c3 c4 c5 c6 c7 c8 c9 wr) (hk : Kept wr w') : EXR w cb a3 a4 a5 a6 a7 a8 a9 c3 c4 c5 c6 c7 c8 c9 w' := ⟨h.kp.trans hk, h.box.kept hk, h.cr.kept hk, h.rs.kept hk⟩
set_option maxRecDepth 100000 in
set_option maxHeartbeats 4000000 in
theorem awake19_any (w : World) : Calls Try.prog 20 #[] w fun e w' => e = .returned (.bool true) ∧ Kept w w' := by
  have HA := Lib.hid ((arsNewR w exR).kept ((Upd.refl (fun _ => False) _).alloc (.cells #[.int .i64 5, .int .i64 0, .int .i64 4, .slice (some ⟨w.heap.size, 0, none⟩) 3 3] 24)))
  have HK := Lib.hid (((Upd.refl (fun _ => False) w).alloc (.cells (acells exR).toArray 67)).alloc (.cells #[.int .i64 5, .int .i64 0, .int .i64 4, .slice (some ⟨w.heap.size, 0, none⟩) 3 3] 24))
  have HL := fun (w : World) (g : Nat) (h : Ars w (some ⟨g, 0, none⟩) exR) => Lib.hid (left_exR g w h)
  go_enter Try.func20, Try.ntmps20
  go_wp2_with fail
  change Calls _ _ _ ((w.alloc (.cells (acells exR).toArray 67)).alloc (.cells #[.int .i64 5, .int .i64 0, .int .i64 4, .slice (some ⟨w.heap.size, 0, none⟩) 3 3] 24)) _
  refine (HL _ _ HA.out).out.mono ?_
  rintro e w1 ⟨a3, c3, a4, c4, a5, c5, a6, c6, a7, c7, a8, c8, a9, c9, rfl, hcr, hrs, hk1⟩
  have hA := (Upd.refl (fun _ => False) w1).alloc (.cells #[.int .i64 5, .int .i64 0, .int .i64 4, .slice a3 6 c3, .slice a4 6 c4, .slice a5 6 c5, .slice a6 6 c6, .slice a7 6 c7, .slice a8 6 c8] 29)
  have X1 : Hid (EXR w w1.heap.size a3 a4 a5 a6 a7 a8 a9 c3 c4 c5 c6 c7 c8 c9 (w1.alloc (.cells #[.int .i64 5, .int .i64 0, .int .i64 4, .slice a3 6 c3, .slice a4 6 c4, .slice a5 6 c5, .slice a6 6 c6, .slice a7 6 c7, .slice a8 6 c8] 29))) := Lib.hid ⟨(HK.out.trans hk1).trans hA, Blk.new _ _ _, hcr.kept hA, hrs.kept hA⟩
  clear hcr hrs hk1 hA HA HK HL
  go_upto_region 3 with (fail)
  generalize (w1.alloc (.cells #[.int .i64 5, .int .i64 0, .int .i64 4, .slice a3 6 c3, .slice a4 6 c4, .slice a5 6 c5, .slice a6 6 c6, .slice a7 6 c7, .slice a8 6 c8] 29)) = W1 at X1 ⊢
  generalize w1.heap.size = cb at X1 ⊢
  have R1 := Lib.hid (rdNewR W1 [5, 5, 5, 5, 0] 3)
  have Y1 := Lib.hid (X1.out.kept ((Upd.refl (fun _ => False) W1).alloc (.cells (lv [5, 5, 5, 5, 0]).toArray 3)))
  have bx := Y1.out.box.cell
  have bx0 := X1.out.box.cell
  have HV := fun (w : World) (b : Nat) (h1 : CsrR w 5 exR a3 a4 a5 a6 a7 a8) (h2 : Rd w a9 (lv [1, 0, 1, 0, 1, 0])) (h3 : Rd w (some ⟨b, 0, none⟩) (lv [5, 5, 5, 5, 0])) => Lib.hid (lower_ex1 (c3 := c3) (c4 := c4) (c5 := c5) (c6 := c6) (c7 := c7) (c8 := c8) (c9 := c9) b w h1 h2 h3)
  go_wp2_with fail
  refine ((HV _ _ Y1.out.cr Y1.out.rs R1.out).out).mono ?_
  rintro e W2 ⟨va, vc, rfl, hv, hk⟩
  have X2 := Lib.hid (Y1.out.kept hk)
  have HVV := Lib.hid hv
  clear hk bx bx0 X1 Y1 R1 HV hv
  have R2 := Lib.hid (rdNewR W2 [5, 3, 2, 1, 0] 3)
  have Y2 := Lib.hid (X2.out.kept ((Upd.refl (fun _ => False) W2).alloc (.cells (lv [5, 3, 2, 1, 0]).toArray 3)))
  have HW := Lib.hid (HVV.out.kept ((Upd.refl (fun _ => False) W2).alloc (.cells (lv [5, 3, 2, 1, 0]).toArray 3)))
  clear HVV
  go_wp2_with fail
  refine (ints_exR va _ vc _ [5, 3, 2, 1, 0] 5 _ rfl (by decide) HW.out R2.out).mono ?_
  rintro e W3 ⟨rfl, hk⟩
  have X3 := Lib.hid (Y2.out.kept hk)
  clear hk X2 Y2 R2 HW
  have R3 := Lib.hid (rdNewR W3 [5, 5, 5, 5, 0] 3)
  have Y3 := Lib.hid (X3.out.kept ((Upd.refl (fun _ => False) W3).alloc (.cells (lv [5, 5, 5, 5, 0]).toArray 3)))
  have bx := Y3.out.box.cell
  have bx0 := X3.out.box.cell
  have HV := fun (w : World) (b : Nat) (h1 : CsrR w 5 exR a3 a4 a5 a6 a7 a8) (h2 : Rd w a9 (lv [1, 0, 1, 0, 1, 0])) (h3 : Rd w (some ⟨b, 0, none⟩) (lv [5, 5, 5, 5, 0])) => Lib.hid (lowered_ex1 (c3 := c3) (c4 := c4) (c5 := c5) (c6 := c6) (c7 := c7) (c8 := c8) (c9 := c9) b w h1 h2 h3)
  go_wp2_with fail
  refine ((HV _ _ Y3.out.cr Y3.out.rs R3.out).out).mono ?_
  rintro e W4 ⟨va, vc, rfl, hv, hk⟩
  have X4 := Lib.hid (Y3.out.kept hk)
  have HVV := Lib.hid hv
  clear hk bx bx0 X3 Y3 R3 HV hv
  have R4 := Lib.hid (rdNewR W4 [1, 2, 3] 3)
  have Y4 := Lib.hid (X4.out.kept ((Upd.refl (fun _ => False) W4).alloc (.cells (lv [1, 2, 3]).toArray 3)))
  have HW := Lib.hid (HVV.out.kept ((Upd.refl (fun _ => False) W4).alloc (.cells (lv [1, 2, 3]).toArray 3)))
  clear HVV
  go_wp2_with fail
  refine (ints_exR va _ vc _ [1, 2, 3] 3 _ rfl (by decide) HW.out R4.out).mono ?_
  rintro e W5 ⟨rfl, hk⟩
  have X5 := Lib.hid (Y4.out.kept hk)
  clear hk X4 Y4 R4 HW
  have R5 := Lib.hid (rdNewR W5 [5, 1, 5, 5, 0] 3)
  have Y5 := Lib.hid (X5.out.kept ((Upd.refl (fun _ => False) W5).alloc (.cells (lv [5, 1, 5, 5, 0]).toArray 3)))
  have bx := Y5.out.box.cell
  have bx0 := X5.out.box.cell
  have HV := fun (w : World) (b : Nat) (h1 : CsrR w 5 exR a3 a4 a5 a6 a7 a8) (h2 : Rd w a9 (lv [1, 0, 1, 0, 1, 0])) (h3 : Rd w (some ⟨b, 0, none⟩) (lv [5, 1, 5, 5, 0])) => Lib.hid (lower_ex2 (c3 := c3) (c4 := c4) (c5 := c5) (c6 := c6) (c7 := c7) (c8 := c8) (c9 := c9) b w h1 h2 h3)
  go_wp2_with fail
  refine ((HV _ _ Y5.out.cr Y5.out.rs R5.out).out).mono ?_
  rintro e W6 ⟨va, vc, rfl, hv, hk⟩
  have X6 := Lib.hid (Y5.out.kept hk)
  have HVV := Lib.hid hv
  clear hk bx bx0 X5 Y5 R5 HV hv
  have R6 := Lib.hid (rdNewR W6 [5, 1, 2, 1, 0] 3)
  have Y6 := Lib.hid (X6.out.kept ((Upd.refl (fun _ => False) W6).alloc (.cells (lv [5, 1, 2, 1, 0]).toArray 3)))
  have HW := Lib.hid (HVV.out.kept ((Upd.refl (fun _ => False) W6).alloc (.cells (lv [5, 1, 2, 1, 0]).toArray 3)))
  clear HVV
  go_wp2_with fail
  refine (ints_exR va _ vc _ [5, 1, 2, 1, 0] 5 _ rfl (by decide) HW.out R6.out).mono ?_
  rintro e W7 ⟨rfl, hk⟩
  have X7 := Lib.hid (Y6.out.kept hk)
  clear hk X6 Y6 R6 HW
  go_wp2_with fail
  go_ret
  exact ⟨rfl, X7.out.kp⟩
end Go.Proofs.Yticeionjlknlcaa
