/- The chapter's examples. (printed by gen_awake20.py) -/
import Derived.Test.YticeionjlknlcaaExact
import Derived.Test.YticeionjlknlcaaRisen
import Derived.Test.YticeionjlknlcaaInts06
import Derived.Test.YticeionjlknlcaaLeft
import Derived.Deep.CutRange
namespace Go.Proofs.Yticeionjlknlcaa
set_option linter.unusedVariables false
set_option linter.unusedSimpArgs false
open Go.RowKit

def exG : List Ar := [⟨0, 1, 1⟩, ⟨1, 2, 1⟩, ⟨2, 3, 1⟩, ⟨1, 3, 0⟩]
theorem exGOk : NetOk 4 0 3 exG := ⟨by omega, by omega, by omega, by omega, by omega, by decide, by simp [exG, ArcOk]⟩
theorem exGGr : Gr 4 0 3 4 8 exG := ⟨exGOk, by decide, by decide +kernel⟩
theorem exGLow : IsLow 0 4 8 exG [1, 0, 1, 0, 0, 1, 0, 0] (allN 4 4 3) [4, 2, 1, 0] := by
  refine ⟨rfl, ?_, ?_, fun gs hv hl v hv5 => ?_⟩
  · unfold Vld; decide +kernel
  · unfold LeV; decide +kernel
  · have g1 := hv 2 (by omega) (by decide +kernel) (by decide)
    have g2 := hv 5 (by omega) (by decide +kernel) (by decide)
    rw [show tl exG 4 2 = 1 by decide +kernel, show hd 4 exG 2 = 2 by decide +kernel] at g1
    rw [show tl exG 4 5 = 2 by decide +kernel, show hd 4 exG 5 = 3 by decide +kernel] at g2
    have l0 := hl 0 (by omega)
    have l3 := hl 3 (by omega)
    have hc : v = 0 ∨ v = 1 ∨ v = 2 ∨ v = 3 := by omega
    rw [show (allN 4 4 3).getD 0 0 = 4 from rfl] at l0
    rw [show (allN 4 4 3).getD 3 0 = 0 from rfl] at l3
    rcases hc with rfl | rfl | rfl | rfl
    · show gs.getD 0 0 ≤ 4; omega
    · show gs.getD 1 0 ≤ 2; omega
    · show gs.getD 2 0 ≤ 1; omega
    · show gs.getD 3 0 ≤ 0; omega
theorem arsNewG (W : World) (ys : List Ar) : Ars (W.alloc (.cells (acells ys).toArray 67)) (some ⟨W.heap.size, 0, none⟩) ys :=
  .inr ⟨W.heap.size, 0, rfl, fun i u hu => by rw [Nat.zero_add, (Blk.new W _ _).cell]; simpa using hu⟩
theorem rdNewG (W : World) (l : List Int) (T : TypeId) : Rd (W.alloc (.cells (lv l).toArray T)) (some ⟨W.heap.size, 0, none⟩) (lv l) := Rd.blk (Blk.new _ _ _)
def LeftExG (w : World) (e : Ending) (w' : World) : Prop := ∃ a3 c3 a4 c4 a5 c5 a6 c6 a7 c7 a8 c8 a9 c9, e = .returned (.tuple #[.agg #[.int .i64 4, .int .i64 0, .int .i64 3, .slice a3 5 c3, .slice a4 8 c4, .slice a5 8 c5, .slice a6 8 c6, .slice a7 8 c7, .slice a8 8 c8], .slice a9 8 c9]) ∧ CsrR w' 4 exG a3 a4 a5 a6 a7 a8 ∧ Rd w' a9 (lv [1, 0, 1, 0, 0, 1, 0, 0]) ∧ Kept w w'
theorem left_exG (g : Nat) (w : World) (h : Ars w (some ⟨g, 0, none⟩) exG) : Calls Try.prog 12 #[.agg #[.int .i64 4, .int .i64 0, .int .i64 3, .slice (some ⟨g, 0, none⟩) 4 4], .slice none 0 0] w (LeftExG w) := by
  refine (Left_ok 4 0 3 (some ⟨g, 0, none⟩) 4 exG none 0 [] w h exGOk (.inl rfl) (by simp) (by simp)).mono ?_
  rintro e w' ⟨B, n, m, a3, c3, a4, c4, a5, c5, a6, c6, a7, c7, a8, c8, a9, c9, rfl, hn, hm, hcr, -, hk, -, ho⟩
  have hn3 : n = 4 := by rw [← hn]; rfl
  subst hn3
  have hm4 : m = 8 := by rw [← hm]; exact exGGr.hm
  subst hm4
  obtain ⟨b, c, e1, hr⟩ := Rd.owns ho
  cases e1
  rw [show resAll (wths [] exG) 4 exG = [1, 0, 1, 0, 0, 1, 0, 0] by decide +kernel] at hr
  exact ⟨a3, c3, a4, c4, a5, c5, a6, c6, a7, c7, a8, c8, a9, c9, rfl, hcr, hr, hk⟩
def ExEndG (w : World) (e : Ending) (w' : World) : Prop := ∃ g, e = .returned (.slice (some ⟨g, 0, none⟩) 4 4) ∧ Rd w' (some ⟨g, 0, none⟩) (lv [4, 2, 1, 0]) ∧ Kept w w'
theorem exact_exG {a3 a4 a5 a6 a7 a8 a9 : Option Addr} {c3 c4 c5 c6 c7 c8 c9 : Nat} (w : World) (hcr : CsrR w 4 exG a3 a4 a5 a6 a7 a8) (hr : Rd w a9 (lv [1, 0, 1, 0, 0, 1, 0, 0])) :
    Calls Try.prog 25 #[.agg #[.int .i64 4, .int .i64 0, .int .i64 3, .slice a3 5 c3, .slice a4 8 c4, .slice a5 8 c5, .slice a6 8 c6, .slice a7 8 c7, .slice a8 8 c8], .slice a9 8 c9, .int .i64 2] w (ExEndG w) := by
  refine (exact_ok 4 0 3 4 8 a3 a4 a5 a6 a7 a8 c3 c4 c5 c6 c7 c8 exG a9 c9 [1, 0, 1, 0, 0, 1, 0, 0] 2 w exGGr rfl hcr hr (by omega) (by omega)).mono ?_
  rintro e w' ⟨g, X, rfl, hX, hB, -, hk⟩
  obtain rfl := hX.unique exGLow
  exact ⟨g, rfl, Rd.blk hB, hk⟩
theorem ints_exG (a a' : Option Addr) (c c' : Nat) (xs : List Int) (n : Nat) (w : World) (hn : xs.length = n) (hm : n ≤ 1000000) (hx : Rd w a (lv xs)) (hy : Rd w a' (lv xs)) :
    Calls Try.prog 15 #[.slice a n c, .slice a' n c'] w fun e w' => e = .returned (.bool true) ∧ Kept w w' := by
  subst hn
  have h1 := ints_same a a' c c' xs xs w hx hy (by omega) (by omega)
  simpa using h1
set_option maxRecDepth 100000 in
set_option maxHeartbeats 4000000 in
theorem awake20_any (w : World) : Calls Try.prog 28 #[] w fun e w' => e = .returned (.bool true) ∧ Kept w w' := by
  have HA := Lib.hid ((arsNewG w exG).kept ((Upd.refl (fun _ => False) _).alloc (.cells #[.int .i64 4, .int .i64 0, .int .i64 3, .slice (some ⟨w.heap.size, 0, none⟩) 4 4] 24)))
  have HK := Lib.hid (((Upd.refl (fun _ => False) w).alloc (.cells (acells exG).toArray 67)).alloc (.cells #[.int .i64 4, .int .i64 0, .int .i64 3, .slice (some ⟨w.heap.size, 0, none⟩) 4 4] 24))
  have HL := fun (w : World) (g : Nat) (h : Ars w (some ⟨g, 0, none⟩) exG) => Lib.hid (left_exG g w h)
  have HR1 := fun w => Lib.hid (show riB 3 6 3 7 = true by decide) |>.out ▸ risen_any 3 6 3 7 w
  have HR2 := fun w => Lib.hid (show riB 2 9 3 7 = true by decide) |>.out ▸ risen_any 2 9 3 7 w
  have HR3 := fun w => Lib.hid (show riB 3 7 3 7 = false by decide) |>.out ▸ risen_any 3 7 3 7 w
  go_enter Try.func28, Try.ntmps28
  go_wp2_with fail
  change Calls _ _ _ ((w.alloc (.cells (acells exG).toArray 67)).alloc (.cells #[.int .i64 4, .int .i64 0, .int .i64 3, .slice (some ⟨w.heap.size, 0, none⟩) 4 4] 24)) _
  refine (HL _ _ HA.out).out.mono ?_
  rintro e w1 ⟨a3, c3, a4, c4, a5, c5, a6, c6, a7, c7, a8, c8, a9, c9, rfl, hcr, hrs, hk1⟩
  have hA := ((Upd.refl (fun _ => False) w1).alloc (.cells #[.int .i64 4, .int .i64 0, .int .i64 3, .slice a3 5 c3, .slice a4 8 c4, .slice a5 8 c5, .slice a6 8 c6, .slice a7 8 c7, .slice a8 8 c8] 29)).alloc (.cells #[.int .i64 3, .int .i64 7] 48)
  have KW := Lib.hid ((HK.out.trans hk1).trans hA)
  have CR := Lib.hid (hcr.kept hA)
  have RR := Lib.hid (hrs.kept hA)
  have BC : Hid (Blk ((w1.alloc (.cells #[.int .i64 4, .int .i64 0, .int .i64 3, .slice a3 5 c3, .slice a4 8 c4, .slice a5 8 c5, .slice a6 8 c6, .slice a7 8 c7, .slice a8 8 c8] 29)).alloc (.cells #[.int .i64 3, .int .i64 7] 48)) w1.heap.size #[.int .i64 4, .int .i64 0, .int .i64 3, .slice a3 5 c3, .slice a4 8 c4, .slice a5 8 c5, .slice a6 8 c6, .slice a7 8 c7, .slice a8 8 c8] 29) := Lib.hid ((Blk.new _ _ _).alloc _)
  have BM : Hid (Blk ((w1.alloc (.cells #[.int .i64 4, .int .i64 0, .int .i64 3, .slice a3 5 c3, .slice a4 8 c4, .slice a5 8 c5, .slice a6 8 c6, .slice a7 8 c7, .slice a8 8 c8] 29)).alloc (.cells #[.int .i64 3, .int .i64 7] 48)) (w1.heap.size + 1) #[.int .i64 3, .int .i64 7] 48) := Lib.hid (by
    have := Blk.new (w1.alloc (.cells #[.int .i64 4, .int .i64 0, .int .i64 3, .slice a3 5 c3, .slice a4 8 c4, .slice a5 8 c5, .slice a6 8 c6, .slice a7 8 c7, .slice a8 8 c8] 29)) #[.int .i64 3, .int .i64 7] 48
    rwa [show (w1.alloc (.cells #[.int .i64 4, .int .i64 0, .int .i64 3, .slice a3 5 c3, .slice a4 8 c4, .slice a5 8 c5, .slice a6 8 c6, .slice a7 8 c7, .slice a8 8 c8] 29)).heap.size = w1.heap.size + 1 by simp] at this)
  clear hcr hrs hk1 hA HA HK HL
  go_upto_region 4 with (fail)
  generalize ((w1.alloc (.cells #[.int .i64 4, .int .i64 0, .int .i64 3, .slice a3 5 c3, .slice a4 8 c4, .slice a5 8 c5, .slice a6 8 c6, .slice a7 8 c7, .slice a8 8 c8] 29)).alloc (.cells #[.int .i64 3, .int .i64 7] 48)) = W1 at KW CR RR BC BM ⊢
  generalize w1.heap.size + 1 = mb at BM ⊢
  generalize w1.heap.size = cb at BC ⊢
  have bx := BC.out.cell
  have bm := BM.out.cell
  have HE := Lib.hid (exact_exG (c3 := c3) (c4 := c4) (c5 := c5) (c6 := c6) (c7 := c7) (c8 := c8) (c9 := c9) W1 CR.out RR.out)
  go_wp2_with fail
  refine HE.out.mono ?_
  rintro e W2 ⟨g, rfl, hx, hk⟩
  have KW2 := Lib.hid (KW.out.trans hk)
  have BM2 := Lib.hid (BM.out.kept hk)
  have HX := Lib.hid hx
  clear hk hx HE BC BM KW CR RR bx bm
  have hal := (Upd.refl (fun _ => False) W2).alloc (.cells (lv [4, 2, 1, 0]).toArray 3)
  have KW3 := Lib.hid (KW2.out.trans hal)
  have BM3 := Lib.hid (BM2.out.kept hal)
  have bm := BM2.out.cell
  have bm3 := BM3.out.cell
  have HI := Lib.hid (ints_exG (some ⟨g, 0, none⟩) (some ⟨W2.heap.size, 0, none⟩) 4 4 [4, 2, 1, 0] 4 _ rfl (by decide) (HX.out.kept hal) (rdNewG W2 [4, 2, 1, 0] 3))
  clear hal KW2 BM2 HX
  go_wp2_with fail
  refine HI.out.mono ?_
  rintro e W4 ⟨rfl, hk⟩
  have KW4 := Lib.hid (KW3.out.trans hk)
  have BM4 := Lib.hid (BM3.out.kept hk)
  clear hk KW3 BM3 HI bm bm3
  have bm := BM4.out.cell
  go_wp2_with fail
  refine (HR1 _).mono ?_
  rintro e W5 ⟨rfl, hk⟩
  have KW5 := Lib.hid (KW4.out.trans hk)
  have BM5 := Lib.hid (BM4.out.kept hk)
  clear hk KW4 BM4 bm
  have bm := BM5.out.cell
  go_wp2_with fail
  refine (HR2 _).mono ?_
  rintro e W6 ⟨rfl, hk⟩
  have KW6 := Lib.hid (KW5.out.trans hk)
  have BM6 := Lib.hid (BM5.out.kept hk)
  clear hk KW5 BM5 bm
  have bm := BM6.out.cell
  go_wp2_with fail
  refine (HR3 _).mono ?_
  rintro e W7 ⟨rfl, hk⟩
  have KW7 := Lib.hid (KW6.out.trans hk)
  clear hk KW6 BM6 bm
  go_wp2_with fail
  go_ret
  exact ⟨rfl, KW7.out⟩
end Go.Proofs.Yticeionjlknlcaa
