/- The chapter's examples (printed by gen_awake06.py). -/
import Derived.Test.YtdcbofgkfekkoaaLeft
import Derived.Test.YtdcbofgkfekkoaaLabLeast
import Derived.Test.YtdcbofgkfekkoaaInts06
namespace Go.Proofs.Ytdcbofgkfekkoaa
set_option linter.unusedVariables false
set_option linter.unusedSimpArgs false
open Go.RowKit

def exYs : List Ar := [⟨0, 1, 5⟩, ⟨1, 2, 5⟩]
theorem exOk : NetOk 3 0 2 exYs := ⟨by omega, by omega, by omega, by omega, by omega, by decide, by simp [exYs, ArcOk]⟩
theorem exGr : Gr 3 0 2 3 4 exYs := ⟨exOk, by decide, by decide +kernel⟩
theorem arsNew6 (W : World) (ys : List Ar) : Ars (W.alloc (.cells (acells ys).toArray 86)) (some ⟨W.heap.size, 0, none⟩) ys :=
  .inr ⟨W.heap.size, 0, rfl, fun i u hu => by rw [Nat.zero_add, (Blk.new W _ _).cell]; simpa using hu⟩
def LeftEx (w : World) (e : Ending) (w' : World) : Prop := ∃ a3 c3 a4 c4 a5 c5 a6 c6 a7 c7 a8 c8 a9 c9, e = .returned (.tuple #[.agg #[.int .i64 3, .int .i64 0, .int .i64 2, .slice a3 4 c3, .slice a4 4 c4, .slice a5 4 c5, .slice a6 4 c6, .slice a7 4 c7, .slice a8 4 c8], .slice a9 4 c9]) ∧ CsrR w' 3 exYs a3 a4 a5 a6 a7 a8 ∧ Rd w' a9 (lv [5, 0, 5, 0]) ∧ Kept w w'
theorem left_ex (g : Nat) (w : World) (h : Ars w (some ⟨g, 0, none⟩) exYs) : Calls Try.prog 14 #[.agg #[.int .i64 3, .int .i64 0, .int .i64 2, .slice (some ⟨g, 0, none⟩) 2 2], .slice none 0 0] w (LeftEx w) := by
  refine (Left_ok 3 0 2 (some ⟨g, 0, none⟩) 2 exYs none 0 [] w h exOk (.inl rfl) (by simp) (by simp)).mono ?_
  rintro e w' ⟨B, n, m, a3, c3, a4, c4, a5, c5, a6, c6, a7, c7, a8, c8, a9, c9, rfl, hn, hm, hcr, -, hk, -, ho⟩
  have hn3 : n = 3 := by rw [← hn]; rfl
  subst hn3
  have hm4 : m = 4 := by rw [← hm]; exact exGr.hm
  subst hm4
  obtain ⟨b, c, e1, hr⟩ := Rd.owns ho
  cases e1
  rw [show resAll (wths [] exYs) 3 exYs = [5, 0, 5, 0] by decide +kernel] at hr
  exact ⟨a3, c3, a4, c4, a5, c5, a6, c6, a7, c7, a8, c8, a9, c9, rfl, hcr, hr, hk⟩
theorem valid_ex {a3 a4 a5 a6 a7 a8 a9 : Option Addr} {c3 c4 c5 c6 c7 c8 c9 : Nat} (hb : Nat) (hs : List Int) (w : World) (hcr : CsrR w 3 exYs a3 a4 a5 a6 a7 a8) (hr : Rd w a9 (lv [5, 0, 5, 0])) (hh : Rd w (some ⟨hb, 0, none⟩) (lv hs)) (hl : hs.length = 3) :
    Calls Try.prog 22 #[.agg #[.int .i64 3, .int .i64 0, .int .i64 2, .slice a3 4 c3, .slice a4 4 c4, .slice a5 4 c5, .slice a6 4 c6, .slice a7 4 c7, .slice a8 4 c8], .slice a9 4 c9, .slice (some ⟨hb, 0, none⟩) 3 3] w fun e w' => e = .returned (.bool (validB 3 0 2 3 4 exYs [5, 0, 5, 0] hs)) ∧ Kept w w' := by
  have h := valid_any 3 0 2 3 4 a3 a4 a5 a6 a7 a8 c3 c4 c5 c6 c7 c8 exYs a9 c9 [5, 0, 5, 0] (some ⟨hb, 0, none⟩) 3 hs w exGr hcr hr hh (by omega)
  rw [hl] at h
  exact h
theorem flat_ex {a3 a4 a5 a6 a7 a8 a9 : Option Addr} {c3 c4 c5 c6 c7 c8 c9 : Nat} (hb : Nat) (hs : List Int) (w : World) (hcr : CsrR w 3 exYs a3 a4 a5 a6 a7 a8) (hr : Rd w a9 (lv [5, 0, 5, 0])) (hh : Rd w (some ⟨hb, 0, none⟩) (lv hs)) (hl : hs.length = 3) :
    Calls Try.prog 20 #[.agg #[.int .i64 3, .int .i64 0, .int .i64 2, .slice a3 4 c3, .slice a4 4 c4, .slice a5 4 c5, .slice a6 4 c6, .slice a7 4 c7, .slice a8 4 c8], .slice a9 4 c9, .slice (some ⟨hb, 0, none⟩) 3 3] w fun e w' => ∃ a c, e = .returned (.slice a (dnL 3 0 2 3 4 exYs [5, 0, 5, 0] hs (isP false)).length c) ∧ Rd w' a (nv (dnL 3 0 2 3 4 exYs [5, 0, 5, 0] hs (isP false))) ∧ Kept w w' := by
  have h := flat_any 3 0 2 3 4 a3 a4 a5 a6 a7 a8 c3 c4 c5 c6 c7 c8 exYs a9 c9 [5, 0, 5, 0] (some ⟨hb, 0, none⟩) 3 hs w exGr hcr hr hh (by omega)
  rw [hl] at h
  refine h.mono ?_
  rintro e w' ⟨v, rfl, ho, hk⟩
  obtain ⟨a, c, rfl, hr⟩ := Rd.owns ho
  exact ⟨a, c, rfl, hr, hk⟩
theorem steep_ex {a3 a4 a5 a6 a7 a8 a9 : Option Addr} {c3 c4 c5 c6 c7 c8 c9 : Nat} (hb : Nat) (hs : List Int) (w : World) (hcr : CsrR w 3 exYs a3 a4 a5 a6 a7 a8) (hr : Rd w a9 (lv [5, 0, 5, 0])) (hh : Rd w (some ⟨hb, 0, none⟩) (lv hs)) (hl : hs.length = 3) :
    Calls Try.prog 19 #[.agg #[.int .i64 3, .int .i64 0, .int .i64 2, .slice a3 4 c3, .slice a4 4 c4, .slice a5 4 c5, .slice a6 4 c6, .slice a7 4 c7, .slice a8 4 c8], .slice a9 4 c9, .slice (some ⟨hb, 0, none⟩) 3 3] w fun e w' => ∃ a c, e = .returned (.slice a (dnL 3 0 2 3 4 exYs [5, 0, 5, 0] hs (isP true)).length c) ∧ Rd w' a (nv (dnL 3 0 2 3 4 exYs [5, 0, 5, 0] hs (isP true))) ∧ Kept w w' := by
  have h := steep_any 3 0 2 3 4 a3 a4 a5 a6 a7 a8 c3 c4 c5 c6 c7 c8 exYs a9 c9 [5, 0, 5, 0] (some ⟨hb, 0, none⟩) 3 hs w exGr hcr hr hh (by omega)
  rw [hl] at h
  refine h.mono ?_
  rintro e w' ⟨v, rfl, ho, hk⟩
  obtain ⟨a, c, rfl, hr⟩ := Rd.owns ho
  exact ⟨a, c, rfl, hr, hk⟩
theorem exLeast : LeastOf 3 0 2 3 4 exYs [5, 0, 5, 0] [3, 1, 0] 1 2 0 true := by
  unfold LeastOf
  rw [if_pos (by decide +kernel)]
  refine .inr ⟨rfl, 2, rfl, by decide +kernel, by decide +kernel, by decide +kernel, by decide +kernel, ?_⟩
  intro a h1 h2 h3
  have e1 : fst exYs (1 : Int).toNat = 1 := by decide +kernel
  have e2 : fst exYs ((1 : Int).toNat + 1) = 3 := by decide +kernel
  rw [e1] at h1
  rw [e2] at h2
  have : a = 1 ∨ a = 2 := by omega
  rcases this with rfl | rfl
  · exact absurd h3 (by decide)
  · exact .inr ⟨by decide +kernel, Nat.le_refl _⟩
theorem least_ex {a3 a4 a5 a6 a7 a8 a9 : Option Addr} {c3 c4 c5 c6 c7 c8 c9 : Nat} (hb : Nat) (w : World) (hcr : CsrR w 3 exYs a3 a4 a5 a6 a7 a8) (hr : Rd w a9 (lv [5, 0, 5, 0])) (hh : Rd w (some ⟨hb, 0, none⟩) (lv [3, 1, 0])) :
    Calls Try.prog 17 #[.agg #[.int .i64 3, .int .i64 0, .int .i64 2, .slice a3 4 c3, .slice a4 4 c4, .slice a5 4 c5, .slice a6 4 c6, .slice a7 4 c7, .slice a8 4 c8], .slice a9 4 c9, .slice (some ⟨hb, 0, none⟩) 3 3, .int .i64 1] w fun e w' => e = .returned (.tuple #[.int .i64 2, .int .i64 0, .bool true]) ∧ Kept w w' := by
  refine (least_any 3 0 2 3 4 a3 a4 a5 a6 a7 a8 c3 c4 c5 c6 c7 c8 exYs a9 c9 [5, 0, 5, 0] (some ⟨hb, 0, none⟩) 3 [3, 1, 0] 1 w exGr hcr hr hh (by simp)).mono ?_
  rintro e w' ⟨b, l, p, rfl, h, hk⟩
  obtain ⟨rfl, rfl, rfl⟩ := leastOf_one h exLeast
  exact ⟨rfl, hk⟩
theorem sum_ex {a3 a4 a5 a6 a7 a8 a9 : Option Addr} {c3 c4 c5 c6 c7 c8 c9 : Nat} (hb : Nat) (w : World) (hcr : CsrR w 3 exYs a3 a4 a5 a6 a7 a8) (hr : Rd w a9 (lv [5, 0, 5, 0])) (hh : Rd w (some ⟨hb, 0, none⟩) (lv [3, 1, 0])) :
    Calls Try.prog 52 #[.agg #[.int .i64 3, .int .i64 0, .int .i64 2, .slice a3 4 c3, .slice a4 4 c4, .slice a5 4 c5, .slice a6 4 c6, .slice a7 4 c7, .slice a8 4 c8], .slice (some ⟨hb, 0, none⟩) 3 3] w fun e w' => e = .returned (.int .i64 4) ∧ Kept w w' := by
  have h := sum_any 3 0 2 3 4 a3 a4 a5 a6 a7 a8 c3 c4 c5 c6 c7 c8 exYs a9 c9 [5, 0, 5, 0] (some ⟨hb, 0, none⟩) 3 [3, 1, 0] w exGr hcr hr hh (by simp)
  rw [show sumH 3 0 2 [3, 1, 0] = 4 by decide +kernel] at h
  exact h
theorem ints_ex (a a' : Option Addr) (c c' : Nat) (w : World) (hx : Rd w a (nv [2])) (hy : Rd w a' (lv [2])) :
    Calls Try.prog 23 #[.slice a 1 c, .slice a' 1 c'] w fun e w' => e = .returned (.bool true) ∧ Kept w w' := by
  have h1 := ints_same a a' c c' [2] [2] w hx hy (by decide) (by decide)
  simpa using h1
structure EX (w : World) (cb : Nat) (a3 a4 a5 a6 a7 a8 a9 : Option Addr) (c3 c4 c5 c6 c7 c8 c9 : Nat) (wr : World) : Prop where
  kp : Kept w wr
  box : Blk wr cb #[.int .i64 3, .int .i64 0, .int .i64 2, .slice a3 4 c3, .slice a4 4 c4, .slice a5 4 c5, .slice a6 4 c6, .slice a7 4 c7, .slice a8 4 c8] 29
  cr : CsrR wr 3 exYs a3 a4 a5 a6 a7 a8
  rs : Rd wr a9 (lv [5, 0, 5, 0])
theorem EX.kept {w : World} {cb : Nat} {a3 a4 a5 a6 a7 a8 a9 : Option Addr} {c3 c4 c5 c6 c7 c8 c9 : Nat} {wr w' : World} (h : EX w cb a3 a4 a5 a6 a7 a8 a9 c3 c4 c5 c6 c7 c8 c9 wr) (hk : Kept wr w') : EX w cb a3 a4 a5 a6 a7 a8 a9 c3 c4 c5 c6 c7 c8 c9 w' := ⟨h.kp.trans hk, h.box.kept hk, h.cr.kept hk, h.rs.kept hk⟩
theorem rdNew (W : World) (l : List Int) (T : TypeId) : Rd (W.alloc (.cells (lv l).toArray T)) (some ⟨W.heap.size, 0, none⟩) (lv l) := Rd.blk (Blk.new _ _ _)
set_option maxHeartbeats 4000000 in
theorem awake6_any (w : World) : Calls Try.prog 18 #[] w fun e w' => e = .returned (.bool true) ∧ Kept w w' := by
  have HA := Lib.hid ((arsNew6 w exYs).kept ((Upd.refl (fun _ => False) _).alloc (.cells #[.int .i64 3, .int .i64 0, .int .i64 2, .slice (some ⟨w.heap.size, 0, none⟩) 2 2] 24)))
  have HK := Lib.hid (((Upd.refl (fun _ => False) w).alloc (.cells (acells exYs).toArray 86)).alloc (.cells #[.int .i64 3, .int .i64 0, .int .i64 2, .slice (some ⟨w.heap.size, 0, none⟩) 2 2] 24))
  have HL := fun (w : World) (g : Nat) (h : Ars w (some ⟨g, 0, none⟩) exYs) => Lib.hid (left_ex g w h)
  go_enter Try.func18, Try.ntmps18
  go_wp2_with fail
  change Calls _ _ _ ((w.alloc (.cells (acells exYs).toArray 86)).alloc (.cells #[.int .i64 3, .int .i64 0, .int .i64 2, .slice (some ⟨w.heap.size, 0, none⟩) 2 2] 24)) _
  refine (HL _ _ HA.out).out.mono ?_
  rintro e w1 ⟨a3, c3, a4, c4, a5, c5, a6, c6, a7, c7, a8, c8, a9, c9, rfl, hcr, hrs, hk1⟩
  have hA := (Upd.refl (fun _ => False) w1).alloc (.cells #[.int .i64 3, .int .i64 0, .int .i64 2, .slice a3 4 c3, .slice a4 4 c4, .slice a5 4 c5, .slice a6 4 c6, .slice a7 4 c7, .slice a8 4 c8] 29)
  have X1 : Hid (EX w w1.heap.size a3 a4 a5 a6 a7 a8 a9 c3 c4 c5 c6 c7 c8 c9 (w1.alloc (.cells #[.int .i64 3, .int .i64 0, .int .i64 2, .slice a3 4 c3, .slice a4 4 c4, .slice a5 4 c5, .slice a6 4 c6, .slice a7 4 c7, .slice a8 4 c8] 29))) := Lib.hid ⟨(HK.out.trans hk1).trans hA, Blk.new _ _ _, hcr.kept hA, hrs.kept hA⟩
  clear hcr hrs hk1 hA HA HK HL
  go_upto_region 3 with (fail)
  generalize (w1.alloc (.cells #[.int .i64 3, .int .i64 0, .int .i64 2, .slice a3 4 c3, .slice a4 4 c4, .slice a5 4 c5, .slice a6 4 c6, .slice a7 4 c7, .slice a8 4 c8] 29)) = W1 at X1 ⊢
  generalize w1.heap.size = cb at X1 ⊢
  have R1 := Lib.hid (rdNew W1 [3, 1, 0] 3)
  have Y1 := Lib.hid (X1.out.kept ((Upd.refl (fun _ => False) W1).alloc (.cells (lv [3, 1, 0]).toArray 3)))
  have bx := Y1.out.box.cell
  have bx0 := X1.out.box.cell
  go_wp2_with fail
  refine (least_ex _ _ Y1.out.cr Y1.out.rs R1.out).mono ?_
  rintro e W2 ⟨rfl, hk⟩
  have X2 := Lib.hid (Y1.out.kept hk)
  clear hk bx bx0 X1 Y1 R1
  have R2 := Lib.hid (rdNew W2 [3, 1, 0] 3)
  have Y2 := Lib.hid (X2.out.kept ((Upd.refl (fun _ => False) W2).alloc (.cells (lv [3, 1, 0]).toArray 3)))
  have bx := Y2.out.box.cell
  have bx0 := X2.out.box.cell
  have V := Lib.hid (show validB 3 0 2 3 4 exYs [5, 0, 5, 0] [3, 1, 0] = true by decide +kernel)
  have HV := fun (w : World) (b : Nat) (h1 : CsrR w 3 exYs a3 a4 a5 a6 a7 a8) (h2 : Rd w a9 (lv [5, 0, 5, 0])) (h3 : Rd w (some ⟨b, 0, none⟩) (lv [3, 1, 0])) => Lib.hid (valid_ex (c3 := c3) (c4 := c4) (c5 := c5) (c6 := c6) (c7 := c7) (c8 := c8) (c9 := c9) b [3, 1, 0] w h1 h2 h3 rfl)
  rw [V.out] at HV
  clear V
  go_wp2_with fail
  refine ((HV _ _ Y2.out.cr Y2.out.rs R2.out).out).mono ?_
  rintro e W3 ⟨rfl, hk⟩
  have X3 := Lib.hid (Y2.out.kept hk)
  clear hk bx bx0 X2 Y2 R2
  clear HV
  have R3 := Lib.hid (rdNew W3 [3, 1, 0] 3)
  have Y3 := Lib.hid (X3.out.kept ((Upd.refl (fun _ => False) W3).alloc (.cells (lv [3, 1, 0]).toArray 3)))
  have bx := Y3.out.box.cell
  have bx0 := X3.out.box.cell
  have V := Lib.hid (show dnL 3 0 2 3 4 exYs [5, 0, 5, 0] [3, 1, 0] (isP false) = [2] by decide +kernel)
  have HV := fun (w : World) (b : Nat) (h1 : CsrR w 3 exYs a3 a4 a5 a6 a7 a8) (h2 : Rd w a9 (lv [5, 0, 5, 0])) (h3 : Rd w (some ⟨b, 0, none⟩) (lv [3, 1, 0])) => Lib.hid (flat_ex (c3 := c3) (c4 := c4) (c5 := c5) (c6 := c6) (c7 := c7) (c8 := c8) (c9 := c9) b [3, 1, 0] w h1 h2 h3 rfl)
  rw [V.out] at HV
  clear V
  go_wp2_with fail
  refine ((HV _ _ Y3.out.cr Y3.out.rs R3.out).out).mono ?_
  rintro e W4 ⟨va3, vc3, rfl, hv, hk⟩
  have X4 := Lib.hid (Y3.out.kept hk)
  have HVV := Lib.hid hv
  clear hk bx bx0 X3 Y3 R3
  clear hv HV
  have R4 := Lib.hid (rdNew W4 [2] 3)
  have Y4 := Lib.hid (X4.out.kept ((Upd.refl (fun _ => False) W4).alloc (.cells (lv [2]).toArray 3)))
  have bx := Y4.out.box.cell
  have bx0 := X4.out.box.cell
  have HW := Lib.hid (HVV.out.kept ((Upd.refl (fun _ => False) W4).alloc (.cells (lv [2]).toArray 3)))
  clear HVV
  go_wp2_with fail
  refine (ints_ex va3 _ vc3 _ _ HW.out R4.out).mono ?_
  rintro e W5 ⟨rfl, hk⟩
  have X5 := Lib.hid (Y4.out.kept hk)
  clear hk bx bx0 X4 Y4 R4
  clear HW
  have R5 := Lib.hid (rdNew W5 [3, 2, 0] 3)
  have Y5 := Lib.hid (X5.out.kept ((Upd.refl (fun _ => False) W5).alloc (.cells (lv [3, 2, 0]).toArray 3)))
  have bx := Y5.out.box.cell
  have bx0 := X5.out.box.cell
  have V := Lib.hid (show dnL 3 0 2 3 4 exYs [5, 0, 5, 0] [3, 2, 0] (isP true) = [2] by decide +kernel)
  have HV := fun (w : World) (b : Nat) (h1 : CsrR w 3 exYs a3 a4 a5 a6 a7 a8) (h2 : Rd w a9 (lv [5, 0, 5, 0])) (h3 : Rd w (some ⟨b, 0, none⟩) (lv [3, 2, 0])) => Lib.hid (steep_ex (c3 := c3) (c4 := c4) (c5 := c5) (c6 := c6) (c7 := c7) (c8 := c8) (c9 := c9) b [3, 2, 0] w h1 h2 h3 rfl)
  rw [V.out] at HV
  clear V
  go_wp2_with fail
  refine ((HV _ _ Y5.out.cr Y5.out.rs R5.out).out).mono ?_
  rintro e W6 ⟨va5, vc5, rfl, hv, hk⟩
  have X6 := Lib.hid (Y5.out.kept hk)
  have HVV := Lib.hid hv
  clear hk bx bx0 X5 Y5 R5
  clear hv HV
  have R6 := Lib.hid (rdNew W6 [2] 3)
  have Y6 := Lib.hid (X6.out.kept ((Upd.refl (fun _ => False) W6).alloc (.cells (lv [2]).toArray 3)))
  have bx := Y6.out.box.cell
  have bx0 := X6.out.box.cell
  have HW := Lib.hid (HVV.out.kept ((Upd.refl (fun _ => False) W6).alloc (.cells (lv [2]).toArray 3)))
  clear HVV
  go_wp2_with fail
  refine (ints_ex va5 _ vc5 _ _ HW.out R6.out).mono ?_
  rintro e W7 ⟨rfl, hk⟩
  have X7 := Lib.hid (Y6.out.kept hk)
  clear hk bx bx0 X6 Y6 R6
  clear HW
  have R7 := Lib.hid (rdNew W7 [3, 0, 0] 3)
  have Y7 := Lib.hid (X7.out.kept ((Upd.refl (fun _ => False) W7).alloc (.cells (lv [3, 0, 0]).toArray 3)))
  have bx := Y7.out.box.cell
  have bx0 := X7.out.box.cell
  have V := Lib.hid (show dnL 3 0 2 3 4 exYs [5, 0, 5, 0] [3, 0, 0] (isP false) = [] by decide +kernel)
  have HV := fun (w : World) (b : Nat) (h1 : CsrR w 3 exYs a3 a4 a5 a6 a7 a8) (h2 : Rd w a9 (lv [5, 0, 5, 0])) (h3 : Rd w (some ⟨b, 0, none⟩) (lv [3, 0, 0])) => Lib.hid (flat_ex (c3 := c3) (c4 := c4) (c5 := c5) (c6 := c6) (c7 := c7) (c8 := c8) (c9 := c9) b [3, 0, 0] w h1 h2 h3 rfl)
  rw [V.out] at HV
  clear V
  go_wp2_with fail
  refine ((HV _ _ Y7.out.cr Y7.out.rs R7.out).out).mono ?_
  rintro e W8 ⟨va7, vc7, rfl, hv, hk⟩
  have X8 := Lib.hid (Y7.out.kept hk)
  have HVV := Lib.hid hv
  clear hk bx bx0 X7 Y7 R7
  clear hv HV
  have R8 := Lib.hid (rdNew W8 [3, 1, 0] 3)
  have Y8 := Lib.hid (X8.out.kept ((Upd.refl (fun _ => False) W8).alloc (.cells (lv [3, 1, 0]).toArray 3)))
  have bx := Y8.out.box.cell
  have bx0 := X8.out.box.cell
  go_wp2_with fail
  refine (sum_ex (c9 := c9) _ _ Y8.out.cr Y8.out.rs R8.out).mono ?_
  rintro e W9 ⟨rfl, hk⟩
  have X9 := Lib.hid (Y8.out.kept hk)
  clear hk bx bx0 X8 Y8 R8
  go_wp2_with fail
  go_ret
  exact ⟨rfl, X9.out.kp⟩
end Go.Proofs.Ytdcbofgkfekkoaa
