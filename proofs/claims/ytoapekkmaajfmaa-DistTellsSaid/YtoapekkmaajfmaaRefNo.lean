/- acequiaref05.open, To, From and Way, and dist.Way, where it does not fit (printed by gen_refway.py). -/
import Derived.Test.YtoapekkmaajfmaaRefFrom
import Derived.Test.YtoapekkmaajfmaaWay
namespace Go.Proofs.Ytoapekkmaajfmaa
set_option linter.unusedVariables false
set_option linter.unusedSimpArgs false
open Go.RowKit
attribute [local go_sem] cell?_ext

set_option maxHeartbeats 2000000
theorem refTo_no (N S T : Int) (n m : Nat) (a3 a4 a5 a6 a7 a8 : Option Addr) (c3 c4 c5 c6 c7 c8 : Nat) (ra : Option Addr) (rl rc : Nat) (v : Int) (w : World) (hz : (decide (rl = m) && decide (0 ≤ v) && decide (v < N)) = false) :
    Calls Try.prog 18 #[.agg #[.int .i64 N, .int .i64 S, .int .i64 T, .slice a3 (n + 1) c3, .slice a4 m c4, .slice a5 m c5, .slice a6 m c6, .slice a7 m c7, .slice a8 m c8], .slice ra rl rc, .int .i64 v] w fun e w' => e = .returned (.slice none 0 0) ∧ Kept w w' := by
  have HK := Lib.hid ((Upd.refl (fun _ => False) w).alloc (.cells #[.int .i64 N, .int .i64 S, .int .i64 T, .slice a3 (n + 1) c3, .slice a4 m c4, .slice a5 m c5, .slice a6 m c6, .slice a7 m c7, .slice a8 m c8] 29))
  have HB := Lib.hid (Blk.new w #[.int .i64 N, .int .i64 S, .int .i64 T, .slice a3 (n + 1) c3, .slice a4 m c4, .slice a5 m c5, .slice a6 m c6, .slice a7 m c7, .slice a8 m c8] 29)
  go_enter Try.func18, Try.ntmps18
  go_upto_region 1 with (fail)
  generalize (w.alloc (.cells #[.int .i64 N, .int .i64 S, .int .i64 T, .slice a3 (n + 1) c3, .slice a4 m c4, .slice a5 m c5, .slice a6 m c6, .slice a7 m c7, .slice a8 m c8] 29)) = W0 at HK HB ⊢
  generalize w.heap.size = cb at HB ⊢
  have bx := HB.out.cell
  by_cases q1 : rl = m
  · have b1 : ((rl : Int) != (m : Int)) = false := by simp [q1]
    by_cases q2 : v < 0
    · have b2 : decide (v < 0) = true := by simpa using q2
      clear q1 hz
      go_wp2_with fail
      go_ret
      exact ⟨rfl, HK.out⟩
    · have b2 : decide (v < 0) = false := by simpa using q2
      have b3 : decide (N ≤ v) = true := by
        have h1 : decide (rl = m) = true := by simpa using q1
        have h2 : decide (0 ≤ v) = true := by simp; omega
        rw [h1, h2] at hz
        simp at hz ⊢
        omega
      have b4 : N ≤ v := by simpa using b3
      clear q1 hz
      go_wp2_with fail
      go_ret
      exact ⟨rfl, HK.out⟩
  · have b1 : ((rl : Int) != (m : Int)) = true := by simp; omega
    have b2 : (rl != m) = true := by simpa using q1
    clear hz q1
    go_wp2_with fail
    go_ret
    exact ⟨rfl, HK.out⟩
theorem refFrom_no (N S T : Int) (n m : Nat) (a3 a4 a5 a6 a7 a8 : Option Addr) (c3 c4 c5 c6 c7 c8 : Nat) (ra : Option Addr) (rl rc : Nat) (v : Int) (w : World) (hz : (decide (rl = m) && decide (0 ≤ v) && decide (v < N)) = false) :
    Calls Try.prog 19 #[.agg #[.int .i64 N, .int .i64 S, .int .i64 T, .slice a3 (n + 1) c3, .slice a4 m c4, .slice a5 m c5, .slice a6 m c6, .slice a7 m c7, .slice a8 m c8], .slice ra rl rc, .int .i64 v] w fun e w' => e = .returned (.slice none 0 0) ∧ Kept w w' := by
  have HK := Lib.hid ((Upd.refl (fun _ => False) w).alloc (.cells #[.int .i64 N, .int .i64 S, .int .i64 T, .slice a3 (n + 1) c3, .slice a4 m c4, .slice a5 m c5, .slice a6 m c6, .slice a7 m c7, .slice a8 m c8] 29))
  have HB := Lib.hid (Blk.new w #[.int .i64 N, .int .i64 S, .int .i64 T, .slice a3 (n + 1) c3, .slice a4 m c4, .slice a5 m c5, .slice a6 m c6, .slice a7 m c7, .slice a8 m c8] 29)
  go_enter Try.func19, Try.ntmps19
  go_upto_region 1 with (fail)
  generalize (w.alloc (.cells #[.int .i64 N, .int .i64 S, .int .i64 T, .slice a3 (n + 1) c3, .slice a4 m c4, .slice a5 m c5, .slice a6 m c6, .slice a7 m c7, .slice a8 m c8] 29)) = W0 at HK HB ⊢
  generalize w.heap.size = cb at HB ⊢
  have bx := HB.out.cell
  by_cases q1 : rl = m
  · have b1 : ((rl : Int) != (m : Int)) = false := by simp [q1]
    by_cases q2 : v < 0
    · have b2 : decide (v < 0) = true := by simpa using q2
      clear q1 hz
      go_wp2_with fail
      go_ret
      exact ⟨rfl, HK.out⟩
    · have b2 : decide (v < 0) = false := by simpa using q2
      have b3 : decide (N ≤ v) = true := by
        have h1 : decide (rl = m) = true := by simpa using q1
        have h2 : decide (0 ≤ v) = true := by simp; omega
        rw [h1, h2] at hz
        simp at hz ⊢
        omega
      have b4 : N ≤ v := by simpa using b3
      clear q1 hz
      go_wp2_with fail
      go_ret
      exact ⟨rfl, HK.out⟩
  · have b1 : ((rl : Int) != (m : Int)) = true := by simp; omega
    have b2 : (rl != m) = true := by simpa using q1
    clear hz q1
    go_wp2_with fail
    go_ret
    exact ⟨rfl, HK.out⟩
theorem refWay_no (N S T : Int) (n m : Nat) (a3 a4 a5 a6 a7 a8 : Option Addr) (c3 c4 c5 c6 c7 c8 : Nat) (ra : Option Addr) (rl rc : Nat) (s v : Int) (w : World) (hz : (decide (rl = m) && decide (0 ≤ v) && decide (v < N)) = false) :
    Calls Try.prog 17 #[.agg #[.int .i64 N, .int .i64 S, .int .i64 T, .slice a3 (n + 1) c3, .slice a4 m c4, .slice a5 m c5, .slice a6 m c6, .slice a7 m c7, .slice a8 m c8], .slice ra rl rc, .int .i64 s, .int .i64 v] w fun e w' => e = .returned (.tuple #[.slice none 0 0, .bool false]) ∧ Kept w w' := by
  have HK := Lib.hid ((Upd.refl (fun _ => False) w).alloc (.cells #[.int .i64 N, .int .i64 S, .int .i64 T, .slice a3 (n + 1) c3, .slice a4 m c4, .slice a5 m c5, .slice a6 m c6, .slice a7 m c7, .slice a8 m c8] 29))
  have HB := Lib.hid (Blk.new w #[.int .i64 N, .int .i64 S, .int .i64 T, .slice a3 (n + 1) c3, .slice a4 m c4, .slice a5 m c5, .slice a6 m c6, .slice a7 m c7, .slice a8 m c8] 29)
  have HT := fun (w' : World) => Lib.hid (refTo_no N S T n m a3 a4 a5 a6 a7 a8 c3 c4 c5 c6 c7 c8 ra rl rc v w' hz)
  clear hz
  go_enter Try.func17, Try.ntmps17
  go_upto_region 1 with (fail)
  generalize (w.alloc (.cells #[.int .i64 N, .int .i64 S, .int .i64 T, .slice a3 (n + 1) c3, .slice a4 m c4, .slice a5 m c5, .slice a6 m c6, .slice a7 m c7, .slice a8 m c8] 29)) = W0 at HK HB ⊢
  generalize w.heap.size = cb at HB ⊢
  have bx := HB.out.cell
  go_wp2_with fail
  refine (HT _).out.mono ?_
  rintro e W2 ⟨rfl, hk2⟩
  have HK2 := Lib.hid (HK.out.trans hk2)
  have bx := (HB.out.kept hk2).cell
  clear hk2 HT HK
  go_upto_region 2 with (fail)
  refine wp_region_kept (by kernel_rfl) (by kernel_rfl) ?_
  repeat (go_big_quiet_step (fail))
  refine wpQuiet_nil ?_
  intro w1 hk1
  have HKZ := Lib.hid (HK2.out.trans hk1)
  clear hk1 bx
  go_wp2_with fail
  go_ret2
  exact ⟨rfl, HKZ.out⟩
theorem refWay_out (N S T : Int) (n m : Nat) (a3 a4 a5 a6 a7 a8 : Option Addr) (c3 c4 c5 c6 c7 c8 : Nat) (ys : List Ar) (ra : Option Addr) (rc : Nat) (rs : List Int) (s : Int) (v : Nat) (w : World) (hg : Gr N S T n m ys) (hcr : CsrR w n ys a3 a4 a5 a6 a7 a8) (hr : Rd w ra (lv rs)) (hm : rs.length = m) (hv : v < n) (hs : s < 0 ∨ N ≤ s) :
    Calls Try.prog 17 #[.agg #[.int .i64 N, .int .i64 S, .int .i64 T, .slice a3 (n + 1) c3, .slice a4 m c4, .slice a5 m c5, .slice a6 m c6, .slice a7 m c7, .slice a8 m c8], .slice ra m rc, .int .i64 s, .int .i64 v] w fun e w' => e = .returned (.tuple #[.slice none 0 0, .bool false]) ∧ Kept w w' := by
  have HK := Lib.hid ((Upd.refl (fun _ => False) w).alloc (.cells #[.int .i64 N, .int .i64 S, .int .i64 T, .slice a3 (n + 1) c3, .slice a4 m c4, .slice a5 m c5, .slice a6 m c6, .slice a7 m c7, .slice a8 m c8] 29))
  have HB := Lib.hid (Blk.new w #[.int .i64 N, .int .i64 S, .int .i64 T, .slice a3 (n + 1) c3, .slice a4 m c4, .slice a5 m c5, .slice a6 m c6, .slice a7 m c7, .slice a8 m c8] 29)
  have HT := fun (w' : World) (k : Kept w w') => Lib.hid (refTo_ok N S T n m a3 a4 a5 a6 a7 a8 c3 c4 c5 c6 c7 c8 ys ra rc rs v w' hg (hcr.kept k) (hr.kept k) hm hv)
  have hn0 : ((n : Int) == 0) = false := by simp; omega
  have hn1 : (n == 0) = false := by simp; omega
  clear hg hcr hr hm
  go_enter Try.func17, Try.ntmps17
  go_upto_region 1 with (fail)
  generalize (w.alloc (.cells #[.int .i64 N, .int .i64 S, .int .i64 T, .slice a3 (n + 1) c3, .slice a4 m c4, .slice a5 m c5, .slice a6 m c6, .slice a7 m c7, .slice a8 m c8] 29)) = W0 at HK HB ⊢
  generalize w.heap.size = cb at HB ⊢
  have bx := HB.out.cell
  go_wp2_with fail
  refine (HT _ HK.out).out.mono ?_
  rintro e W2 ⟨db, c, d, rfl, -, -, hk2⟩
  have HK2 := Lib.hid (HK.out.trans hk2)
  have bx := (HB.out.kept hk2).cell
  clear hk2 HT HK
  by_cases q2 : s < 0
  · have b2 : decide (s < 0) = true := by simpa using q2
    clear hs
    go_upto_region 2 with (fail)
    refine wp_region_kept (by kernel_rfl) (by kernel_rfl) ?_
    repeat (go_big_quiet_step (fail))
    refine wpQuiet_nil ?_
    intro w1 hk1
    have HKZ := Lib.hid (HK2.out.trans hk1)
    clear hk1 bx
    go_wp2_with fail
    go_ret2
    exact ⟨rfl, HKZ.out⟩
  · have b2 : decide (s < 0) = false := by simpa using q2
    have b4 : N ≤ s := by omega
    have b3 : decide (N ≤ s) = true := by simpa using b4
    clear hs
    go_upto_region 2 with (fail)
    refine wp_region_kept (by kernel_rfl) (by kernel_rfl) ?_
    repeat (go_big_quiet_step (fail))
    refine wpQuiet_nil ?_
    intro w1 hk1
    have HKZ := Lib.hid (HK2.out.trans hk1)
    clear hk1 bx
    go_wp2_with fail
    go_ret2
    exact ⟨rfl, HKZ.out⟩
theorem way_no (N S T : Int) (n m : Nat) (a3 a4 a5 a6 a7 a8 : Option Addr) (c3 c4 c5 c6 c7 c8 : Nat) (ra : Option Addr) (rl rc : Nat) (s v : Int) (w : World) (hz : (decide (rl = m) && decide (0 ≤ v) && decide (v < N)) = false) :
    Calls Try.prog 16 #[.agg #[.int .i64 N, .int .i64 S, .int .i64 T, .slice a3 (n + 1) c3, .slice a4 m c4, .slice a5 m c5, .slice a6 m c6, .slice a7 m c7, .slice a8 m c8], .slice ra rl rc, .int .i64 s, .int .i64 v] w fun e w' => e = .returned (.tuple #[.slice none 0 0, .bool false]) ∧ Kept w w' := by
  have HK := Lib.hid ((Upd.refl (fun _ => False) w).alloc (.cells #[.int .i64 N, .int .i64 S, .int .i64 T, .slice a3 (n + 1) c3, .slice a4 m c4, .slice a5 m c5, .slice a6 m c6, .slice a7 m c7, .slice a8 m c8] 29))
  have HB := Lib.hid (Blk.new w #[.int .i64 N, .int .i64 S, .int .i64 T, .slice a3 (n + 1) c3, .slice a4 m c4, .slice a5 m c5, .slice a6 m c6, .slice a7 m c7, .slice a8 m c8] 29)
  have HT := fun (w' : World) => Lib.hid (to_no N S T n m a3 a4 a5 a6 a7 a8 c3 c4 c5 c6 c7 c8 ra rl rc v w' hz)
  clear hz
  go_enter Try.func16, Try.ntmps16
  go_upto_region 1 with (fail)
  generalize (w.alloc (.cells #[.int .i64 N, .int .i64 S, .int .i64 T, .slice a3 (n + 1) c3, .slice a4 m c4, .slice a5 m c5, .slice a6 m c6, .slice a7 m c7, .slice a8 m c8] 29)) = W0 at HK HB ⊢
  generalize w.heap.size = cb at HB ⊢
  have bx := HB.out.cell
  go_wp2_with fail
  refine (HT _).out.mono ?_
  rintro e W2 ⟨rfl, hk2⟩
  have HK2 := Lib.hid (HK.out.trans hk2)
  have bx := (HB.out.kept hk2).cell
  clear hk2 HT HK
  have hnil := eqNil (P := Try.prog) Try.underlying27 none 0 0
  simp only [Option.isNone_none] at hnil
  go_upto_region 2 with (fail)
  refine wp_region_kept (by kernel_rfl) (by kernel_rfl) ?_
  repeat (go_big_quiet_step (fail))
  refine wpQuiet_nil ?_
  intro w1 hk1
  have HKZ := Lib.hid (HK2.out.trans hk1)
  clear hk1 bx
  go_wp2_with fail
  go_ret2
  exact ⟨rfl, HKZ.out⟩
theorem way_out (N S T : Int) (n m : Nat) (a3 a4 a5 a6 a7 a8 : Option Addr) (c3 c4 c5 c6 c7 c8 : Nat) (ys : List Ar) (ra : Option Addr) (rc : Nat) (rs : List Int) (s : Int) (v : Nat) (w : World) (hg : Gr N S T n m ys) (hcr : CsrR w n ys a3 a4 a5 a6 a7 a8) (hr : Rd w ra (lv rs)) (hm : rs.length = m) (hv : v < n) (hs : s < 0 ∨ N ≤ s) :
    Calls Try.prog 16 #[.agg #[.int .i64 N, .int .i64 S, .int .i64 T, .slice a3 (n + 1) c3, .slice a4 m c4, .slice a5 m c5, .slice a6 m c6, .slice a7 m c7, .slice a8 m c8], .slice ra m rc, .int .i64 s, .int .i64 v] w fun e w' => e = .returned (.tuple #[.slice none 0 0, .bool false]) ∧ Kept w w' := by
  have HK := Lib.hid ((Upd.refl (fun _ => False) w).alloc (.cells #[.int .i64 N, .int .i64 S, .int .i64 T, .slice a3 (n + 1) c3, .slice a4 m c4, .slice a5 m c5, .slice a6 m c6, .slice a7 m c7, .slice a8 m c8] 29))
  have HB := Lib.hid (Blk.new w #[.int .i64 N, .int .i64 S, .int .i64 T, .slice a3 (n + 1) c3, .slice a4 m c4, .slice a5 m c5, .slice a6 m c6, .slice a7 m c7, .slice a8 m c8] 29)
  have HT := fun (w' : World) (k : Kept w w') => Lib.hid (to_ok N S T n m a3 a4 a5 a6 a7 a8 c3 c4 c5 c6 c7 c8 ys ra rc rs v w' hg (hcr.kept k) (hr.kept k) hm hv)
  have hn0 : ((n : Int) == 0) = false := by simp; omega
  have hn1 : (n == 0) = false := by simp; omega
  clear hg hcr hr hm
  go_enter Try.func16, Try.ntmps16
  go_upto_region 1 with (fail)
  generalize (w.alloc (.cells #[.int .i64 N, .int .i64 S, .int .i64 T, .slice a3 (n + 1) c3, .slice a4 m c4, .slice a5 m c5, .slice a6 m c6, .slice a7 m c7, .slice a8 m c8] 29)) = W0 at HK HB ⊢
  generalize w.heap.size = cb at HB ⊢
  have bx := HB.out.cell
  go_wp2_with fail
  refine (HT _ HK.out).out.mono ?_
  rintro e W2 ⟨db, d, rfl, -, -, -, hk2⟩
  have HK2 := Lib.hid (HK.out.trans hk2)
  have bx := (HB.out.kept hk2).cell
  clear hk2 HT HK
  have hnil := eqNil (P := Try.prog) Try.underlying27 (some ⟨db, 0, none⟩) n n
  simp only [Option.isNone_some] at hnil
  by_cases q2 : s < 0
  · have b2 : decide (s < 0) = true := by simpa using q2
    clear hs
    go_upto_region 2 with (fail)
    refine wp_region_kept (by kernel_rfl) (by kernel_rfl) ?_
    repeat (go_big_quiet_step (fail))
    refine wpQuiet_nil ?_
    intro w1 hk1
    have HKZ := Lib.hid (HK2.out.trans hk1)
    clear hk1 bx
    go_wp2_with fail
    go_ret2
    exact ⟨rfl, HKZ.out⟩
  · have b2 : decide (s < 0) = false := by simpa using q2
    have b4 : N ≤ s := by omega
    have b3 : decide (N ≤ s) = true := by simpa using b4
    clear hs
    go_upto_region 2 with (fail)
    refine wp_region_kept (by kernel_rfl) (by kernel_rfl) ?_
    repeat (go_big_quiet_step (fail))
    refine wpQuiet_nil ?_
    intro w1 hk1
    have HKZ := Lib.hid (HK2.out.trans hk1)
    clear hk1 bx
    go_wp2_with fail
    go_ret2
    exact ⟨rfl, HKZ.out⟩
theorem open_any (N S T : Int) (n m : Nat) (a3 a4 a5 a6 a7 a8 : Option Addr) (c3 c4 c5 c6 c7 c8 : Nat) (ys : List Ar) (ra : Option Addr) (rc : Nat) (rs : List Int) (u a : Nat) (z : Bool) (w : World) (hg : Gr N S T n m ys) (hcr : CsrR w n ys a3 a4 a5 a6 a7 a8) (hr : Rd w ra (lv rs)) (hm : rs.length = m) (hu : u < n) (h1 : fst ys u ≤ a) (h2 : a < fst ys (u + 1)) (hz : decide (0 < rs.getD a 0) = z) :
    Calls Try.prog 32 #[.agg #[.int .i64 N, .int .i64 S, .int .i64 T, .slice a3 (n + 1) c3, .slice a4 m c4, .slice a5 m c5, .slice a6 m c6, .slice a7 m c7, .slice a8 m c8], .slice ra m rc, .int .i64 u, .int .i64 a] w fun e w' => e = .returned (.bool z) ∧ Kept w w' := by
  have HK := Lib.hid ((Upd.refl (fun _ => False) w).alloc (.cells #[.int .i64 N, .int .i64 S, .int .i64 T, .slice a3 (n + 1) c3, .slice a4 m c4, .slice a5 m c5, .slice a6 m c6, .slice a7 m c7, .slice a8 m c8] 29))
  have HB := Lib.hid (Blk.new w #[.int .i64 N, .int .i64 S, .int .i64 T, .slice a3 (n + 1) c3, .slice a4 m c4, .slice a5 m c5, .slice a6 m c6, .slice a7 m c7, .slice a8 m c8] 29)
  obtain ⟨hnN, hn2, hn16, hm6, -⟩ := hg.len
  have ham : a < m := by have h3 := fst_mono ys (show u + 1 ≤ n by omega); have h4 : fst ys n = m := hg.hm; omega
  have HC := fun (k : Kept w (w.alloc (.cells #[.int .i64 N, .int .i64 S, .int .i64 T, .slice a3 (n + 1) c3, .slice a4 m c4, .slice a5 m c5, .slice a6 m c6, .slice a7 m c7, .slice a8 m c8] 29))) => hcr.kept k
  have HC3 := (HC HK.out).r3
  obtain ⟨b3, o3, rfl, f0⟩ := HC3.at u (by rw [nv_len, firsts_len]; omega)
  obtain ⟨b, o, e, f1⟩ := HC3.at (u + 1) (by rw [nv_len, firsts_len]; omega)
  cases e
  rw [firsts_get n ys _ (by omega)] at f0 f1
  obtain ⟨b6, o6, rfl, rc0⟩ := (hr.kept HK.out).num (i := a) (by omega)
  generalize fst ys u = q at h1 f0
  generalize fst ys (u + 1) = q' at h2 f1
  generalize rs.getD a 0 = r at hz rc0
  subst hnN
  have hu16 : u ≤ 1000 := by omega
  have hv0 := wrap_up u hu16
  have hv1 := wrap_up' u hu16
  have i1 : (0 : Int) ≤ (a : Int) := by omega
  have i2 : (a : Int) < (m : Int) := by omega
  have i4 : (0 : Int) ≤ (u : Int) := by omega
  have i5 : (u : Int) < (n : Int) + 1 := by omega
  have i6 : ((u + 1 : Nat) : Int) < (n : Int) + 1 := by omega
  have i7 : (0 : Int) ≤ ((u + 1 : Nat) : Int) := by omega
  have c1 : decide ((q : Int) ≤ (a : Int)) = true := by simpa using h1
  have c2 : decide ((a : Int) < (q' : Int)) = true := by simpa using h2
  clear hg hcr hr hm HC HC3
  go_enter Try.func32, Try.ntmps32
  go_upto_region 1 with (fail)
  generalize (w.alloc (.cells #[.int .i64 n, .int .i64 S, .int .i64 T, .slice (some ⟨b3, o3, none⟩) (n + 1) c3, .slice a4 m c4, .slice a5 m c5, .slice a6 m c6, .slice a7 m c7, .slice a8 m c8] 29)) = W0 at HK HB f0 f1 rc0 ⊢
  generalize w.heap.size = cb at HB ⊢
  have bx := HB.out.cell
  go_wp2_with fail
  go_ret
  exact ⟨rfl, HK.out⟩
end Go.Proofs.Ytoapekkmaajfmaa
