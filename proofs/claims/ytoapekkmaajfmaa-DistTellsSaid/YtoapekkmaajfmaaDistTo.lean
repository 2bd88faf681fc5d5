/- acequia/dist: To and From (printed by gen_distfrom.py). -/
import Derived.Test.YtoapekkmaajfmaaDistFrom
namespace Go.Proofs.Ytoapekkmaajfmaa
set_option linter.unusedVariables false
set_option linter.unusedSimpArgs false
open Go.RowKit

theorem dright_z (N S T : Int) (n m : Nat) (a3 a4 a5 a6 a7 a8 : Option Addr) (c3 c4 c5 c6 c7 c8 : Nat) (ra : Option Addr) (rl rc : Nat) (v : Int) (z : Bool) (w : World) (hz : (decide (rl = m) && decide (0 ≤ v) && decide (v < N)) = z) :
    Calls Try.prog 27 #[.agg #[.int .i64 N, .int .i64 S, .int .i64 T, .slice a3 (n + 1) c3, .slice a4 m c4, .slice a5 m c5, .slice a6 m c6, .slice a7 m c7, .slice a8 m c8], .slice ra rl rc, .int .i64 v] w fun e w' => e = .returned (.bool z) ∧ Kept w w' := by
  subst hz
  exact dright_any N S T n m a3 a4 a5 a6 a7 a8 c3 c4 c5 c6 c7 c8 ra rl rc v w
set_option maxHeartbeats 2000000 in
theorem to_ok (N S T : Int) (n m : Nat) (a3 a4 a5 a6 a7 a8 : Option Addr) (c3 c4 c5 c6 c7 c8 : Nat) (ys : List Ar) (ra : Option Addr) (rc : Nat) (rs : List Int) (v : Nat) (w : World) (hg : Gr N S T n m ys) (hcr : CsrR w n ys a3 a4 a5 a6 a7 a8) (hr : Rd w ra (lv rs)) (hm : rs.length = m) (hv : v < n) :
    Calls Try.prog 11 #[.agg #[.int .i64 N, .int .i64 S, .int .i64 T, .slice a3 (n + 1) c3, .slice a4 m c4, .slice a5 m c5, .slice a6 m c6, .slice a7 m c7, .slice a8 m c8], .slice ra m rc, .int .i64 v] w fun e w' => ∃ db d, e = .returned (.slice (some ⟨db, 0, none⟩) n n) ∧ Blk w' db (nv d).toArray 3 ∧ w.heap.size ≤ db ∧ IsD n v (fun u x => OpenA n m ys rs x u) d ∧ Kept w w' := by
  have HK := Lib.hid (((Upd.refl (fun _ => False) w).alloc (.cells #[.int .i64 N, .int .i64 S, .int .i64 T, .slice a3 (n + 1) c3, .slice a4 m c4, .slice a5 m c5, .slice a6 m c6, .slice a7 m c7, .slice a8 m c8] 29)).alloc (.cells #[.slice ra m rc] 25))
  have HB := Lib.hid ((Blk.new w #[.int .i64 N, .int .i64 S, .int .i64 T, .slice a3 (n + 1) c3, .slice a4 m c4, .slice a5 m c5, .slice a6 m c6, .slice a7 m c7, .slice a8 m c8] 29).alloc (.cells #[.slice ra m rc] 25))
  have HRB := Lib.hid (Blk.new (w.alloc (.cells #[.int .i64 N, .int .i64 S, .int .i64 T, .slice a3 (n + 1) c3, .slice a4 m c4, .slice a5 m c5, .slice a6 m c6, .slice a7 m c7, .slice a8 m c8] 29)) #[.slice ra m rc] 25)
  have e1 : (w.alloc (.cells #[.int .i64 N, .int .i64 S, .int .i64 T, .slice a3 (n + 1) c3, .slice a4 m c4, .slice a5 m c5, .slice a6 m c6, .slice a7 m c7, .slice a8 m c8] 29)).heap.size = w.heap.size + 1 := by simp
  rw [e1] at HRB
  have HG := Lib.hid hg
  have HCR := Lib.hid (hcr.kept HK.out)
  have HR := Lib.hid (hr.kept HK.out)
  have hvN : (v : Int) < N := by have := hg.len; omega
  have HZ := fun w => Lib.hid (dright_z N S T n m a3 a4 a5 a6 a7 a8 c3 c4 c5 c6 c7 c8 ra m rc v true w (by simp [hvN]))
  clear hg hcr hr e1 hvN
  go_enter Try.func11, Try.ntmps11
  go_upto_region 1 with (fail)
  generalize ((w.alloc (.cells #[.int .i64 N, .int .i64 S, .int .i64 T, .slice a3 (n + 1) c3, .slice a4 m c4, .slice a5 m c5, .slice a6 m c6, .slice a7 m c7, .slice a8 m c8] 29)).alloc (.cells #[.slice ra m rc] 25)) = W0 at HK HB HRB HCR HR ⊢
  obtain ⟨rb, hrb⟩ : ∃ rb, rb = w.heap.size + 1 := ⟨_, rfl⟩
  obtain ⟨cb, hcb⟩ : ∃ cb, cb = w.heap.size := ⟨_, rfl⟩
  rw [← hrb] at HRB ⊢
  rw [← hcb] at HB ⊢
  clear hrb hcb
  have bx := HB.out.cell
  have ry := HRB.out.cell
  have HF := fun (w : World) (k : Kept W0 w) => Lib.hid (fromT_any N S T n m a3 a4 a5 a6 a7 a8 c3 c4 c5 c6 c7 c8 cb rb ys ra rc rs v w HG.out (HCR.out.kept k) (HR.out.kept k) hm (HB.out.kept k) (HRB.out.kept k) hv)
  go_wp2_with fail
  refine (HZ _).out.mono ?_
  rintro e w1 ⟨rfl, hk1⟩
  have bx := (HB.out.kept hk1).cell
  have HK1 := Lib.hid hk1
  clear hk1
  go_wp2_with fail
  refine (HF _ HK1.out).out.mono ?_
  rintro e w2 ⟨db, d, rfl, hd0, hd2, hd1, hk2⟩
  have HD : Hid (Blk w2 db (nv d).toArray 3 ∧ w.heap.size ≤ db ∧ IsD n v (fun u x => OpenA n m ys rs x u) d ∧ Kept w w2) := Lib.hid ⟨hd0, by have h1 := HK.out.size; have h2 := HK1.out.size; omega, hd1.congr (fun u x _ _ => stepT HG.out rs u x), (HK.out.trans HK1.out).trans hk2⟩
  clear hd0 hd1 hd2 hk2 HF bx ry
  go_wp2_with fail
  go_ret
  exact ⟨db, d, rfl, HD.out⟩
theorem to_no (N S T : Int) (n m : Nat) (a3 a4 a5 a6 a7 a8 : Option Addr) (c3 c4 c5 c6 c7 c8 : Nat) (ra : Option Addr) (rl rc : Nat) (v : Int) (w : World) (hz : (decide (rl = m) && decide (0 ≤ v) && decide (v < N)) = false) :
    Calls Try.prog 11 #[.agg #[.int .i64 N, .int .i64 S, .int .i64 T, .slice a3 (n + 1) c3, .slice a4 m c4, .slice a5 m c5, .slice a6 m c6, .slice a7 m c7, .slice a8 m c8], .slice ra rl rc, .int .i64 v] w fun e w' => e = .returned (.slice none 0 0) ∧ Kept w w' := by
  have HK := Lib.hid (((Upd.refl (fun _ => False) w).alloc (.cells #[.int .i64 N, .int .i64 S, .int .i64 T, .slice a3 (n + 1) c3, .slice a4 m c4, .slice a5 m c5, .slice a6 m c6, .slice a7 m c7, .slice a8 m c8] 29)).alloc (.cells #[.slice ra rl rc] 25))
  have HB := Lib.hid ((Blk.new w #[.int .i64 N, .int .i64 S, .int .i64 T, .slice a3 (n + 1) c3, .slice a4 m c4, .slice a5 m c5, .slice a6 m c6, .slice a7 m c7, .slice a8 m c8] 29).alloc (.cells #[.slice ra rl rc] 25))
  have HRB := Lib.hid (Blk.new (w.alloc (.cells #[.int .i64 N, .int .i64 S, .int .i64 T, .slice a3 (n + 1) c3, .slice a4 m c4, .slice a5 m c5, .slice a6 m c6, .slice a7 m c7, .slice a8 m c8] 29)) #[.slice ra rl rc] 25)
  have e1 : (w.alloc (.cells #[.int .i64 N, .int .i64 S, .int .i64 T, .slice a3 (n + 1) c3, .slice a4 m c4, .slice a5 m c5, .slice a6 m c6, .slice a7 m c7, .slice a8 m c8] 29)).heap.size = w.heap.size + 1 := by simp
  rw [e1] at HRB
  have HZ := fun w => Lib.hid (dright_z N S T n m a3 a4 a5 a6 a7 a8 c3 c4 c5 c6 c7 c8 ra rl rc v false w hz)
  clear e1 hz
  go_enter Try.func11, Try.ntmps11
  go_upto_region 1 with (fail)
  generalize ((w.alloc (.cells #[.int .i64 N, .int .i64 S, .int .i64 T, .slice a3 (n + 1) c3, .slice a4 m c4, .slice a5 m c5, .slice a6 m c6, .slice a7 m c7, .slice a8 m c8] 29)).alloc (.cells #[.slice ra rl rc] 25)) = W0 at HK HB HRB ⊢
  generalize w.heap.size + 1 = rb at HRB ⊢
  generalize w.heap.size = cb at HB ⊢
  have bx := HB.out.cell
  have ry := HRB.out.cell
  go_wp2_with fail
  refine (HZ _).out.mono ?_
  rintro e w1 ⟨rfl, hk1⟩
  go_wp2_with fail
  go_ret
  exact ⟨rfl, HK.out.trans hk1⟩
end Go.Proofs.Ytoapekkmaajfmaa
