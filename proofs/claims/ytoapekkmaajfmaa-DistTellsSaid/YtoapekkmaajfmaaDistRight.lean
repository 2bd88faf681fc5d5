/- acequia/dist: right, the closures of To and From (printed by gen_distfrom.py). -/
import Derived.Test.YtoapekkmaajfmaaRev
import Derived.Test.YtoapekkmaajfmaaTail
namespace Go.Proofs.Ytoapekkmaajfmaa
set_option linter.unusedVariables false
set_option linter.unusedSimpArgs false
open Go.RowKit
attribute [local go_sem] cell?_ext

theorem dright_any (N S T : Int) (n m : Nat) (a3 a4 a5 a6 a7 a8 : Option Addr) (c3 c4 c5 c6 c7 c8 : Nat) (ra : Option Addr) (rl rc : Nat) (v : Int) (w : World) :
    Calls Try.prog 27 #[.agg #[.int .i64 N, .int .i64 S, .int .i64 T, .slice a3 (n + 1) c3, .slice a4 m c4, .slice a5 m c5, .slice a6 m c6, .slice a7 m c7, .slice a8 m c8], .slice ra rl rc, .int .i64 v] w fun e w' => e = .returned (.bool (decide (rl = m) && decide (0 ≤ v) && decide (v < N))) ∧ Kept w w' := by
  have HK := Lib.hid ((Upd.refl (fun _ => False) w).alloc (.cells #[.int .i64 N, .int .i64 S, .int .i64 T, .slice a3 (n + 1) c3, .slice a4 m c4, .slice a5 m c5, .slice a6 m c6, .slice a7 m c7, .slice a8 m c8] 29))
  have HB := Lib.hid (Blk.new w #[.int .i64 N, .int .i64 S, .int .i64 T, .slice a3 (n + 1) c3, .slice a4 m c4, .slice a5 m c5, .slice a6 m c6, .slice a7 m c7, .slice a8 m c8] 29)
  go_enter Try.func27, Try.ntmps27
  go_upto_region 1 with (fail)
  generalize (w.alloc (.cells #[.int .i64 N, .int .i64 S, .int .i64 T, .slice a3 (n + 1) c3, .slice a4 m c4, .slice a5 m c5, .slice a6 m c6, .slice a7 m c7, .slice a8 m c8] 29)) = W0 at HK HB ⊢
  generalize w.heap.size = cb at HB ⊢
  have hl := len_any N S T n m a3 a4 a5 a6 a7 a8 c3 c4 c5 c6 c7 c8
  by_cases q1 : rl = m
  · have b1 : ((rl : Int) == (m : Int)) = true := by simp [q1]
    have bx := HB.out.cell
    go_wp2_with fail
    refine (hl _).mono ?_
    rintro e w1 ⟨rfl, hk1⟩
    have bx := (HB.out.kept hk1).cell
    by_cases q2 : 0 ≤ v
    · have b2 : decide (0 ≤ v) = true := by simpa using q2
      go_wp2_with fail
      go_ret
      exact ⟨ret_bool (by simp [q1, q2]), HK.out.trans hk1⟩
    · have b2 : decide (0 ≤ v) = false := by simpa using q2
      go_wp2_with fail
      go_ret
      exact ⟨ret_bool (by rw [b2]; simp), HK.out.trans hk1⟩
  · have b1 : ((rl : Int) == (m : Int)) = false := by simp; omega
    have bx := HB.out.cell
    go_wp2_with fail
    refine (hl _).mono ?_
    rintro e w1 ⟨rfl, hk1⟩
    have bx := (HB.out.kept hk1).cell
    go_wp2_with fail
    go_ret
    exact ⟨ret_bool (by simp [q1]), HK.out.trans hk1⟩
set_option maxHeartbeats 2000000 in
theorem goT_any (N S T : Int) (n m : Nat) (a3 a4 a5 a6 a7 a8 : Option Addr) (c3 c4 c5 c6 c7 c8 : Nat) (ys : List Ar) (ra : Option Addr) (rc : Nat) (rs : List Int) (cb rb a : Nat) (w : World) (hg : Gr N S T n m ys) (hcr : CsrR w n ys a3 a4 a5 a6 a7 a8) (hr : Rd w ra (lv rs)) (hm : rs.length = m) (hc : Blk w cb #[.int .i64 N, .int .i64 S, .int .i64 T, .slice a3 (n + 1) c3, .slice a4 m c4, .slice a5 m c5, .slice a6 m c6, .slice a7 m c7, .slice a8 m c8] 29) (hb : Blk w rb #[.slice ra m rc] 25) (ha : a < m) :
    Calls Try.prog 28 #[.int .i64 a, .pointer (some ⟨rb, 0, none⟩), .pointer (some ⟨cb, 0, none⟩)] w fun e w' => e = .returned (.bool (goT n ys rs a)) ∧ Kept w w' := by
  obtain ⟨h1, h2, -⟩ := rv_facts hg a ha
  unfold goT
  generalize rv n ys a = r at h1 h2 ⊢
  obtain ⟨b5, o5, rfl, c0⟩ := hcr.r5.at a (by
    have := List.getElem?_eq_some_iff.1 h1
    exact this.1)
  rw [h1] at c0
  obtain ⟨b6, o6, rfl, c6'⟩ := hr.num (i := r) (by omega)
  generalize rs.getD r 0 = y at c6' ⊢
  have cx := hc.cell
  have cy := hb.cell
  have j0 : (0 : Int) ≤ (a : Int) := by omega
  have j1 : (a : Int) < (m : Int) := by omega
  have j2 : (0 : Int) ≤ (r : Int) := by omega
  have j3 : (r : Int) < (m : Int) := by omega
  clear hcr hr hg h1 hm
  go_enter Try.func28, Try.ntmps28
  go_wp2_with fail
  refine wp_region_kept (by kernel_rfl) (by kernel_rfl) ?_
  repeat (go_big_quiet_step (fail))
  refine wpQuiet_nil ?_
  intro w1 hk1
  go_wp2_with fail
  go_ret
  exact ⟨rfl, hk1⟩
end Go.Proofs.Ytoapekkmaajfmaa
