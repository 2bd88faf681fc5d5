/- label.down, Steep, Flat, Valid (printed by gen_labdown2.py). -/
import Derived.Test.YtdhimfkmgcfohaaLabDownS
namespace Go.Proofs.Ytdhimfkmgcfohaa
set_option linter.unusedVariables false
set_option linter.unusedSimpArgs false
open Go.RowKit

set_option maxHeartbeats 4000000 in
theorem downs_any (q : Bool) (hq : q = true) (N S T : Int) (n m : Nat) (a3 a4 a5 a6 a7 a8 : Option Addr) (c3 c4 c5 c6 c7 c8 : Nat) (ys : List Ar) (ra : Option Addr) (rc : Nat) (rs : List Int) (ha : Option Addr) (hc : Nat) (hs : List Int) (w : World) (hg : Gr N S T n m ys) (hcr : CsrR w n ys a3 a4 a5 a6 a7 a8) (hr : Rd w ra (lv rs)) (hh : Rd w ha (lv hs)) (hm : hs.length ≤ 9223372036854775807) :
    Calls Try.prog 65 #[.agg #[.int .i64 N, .int .i64 S, .int .i64 T, .slice a3 (n + 1) c3, .slice a4 m c4, .slice a5 m c5, .slice a6 m c6, .slice a7 m c7, .slice a8 m c8], .slice ra rs.length rc, .slice ha hs.length hc, isVs q] w fun e w' => ∃ v, e = .returned v ∧ w'.ownsRow w.heap.size 3 1 v (dnL N S T n m ys rs hs (isP q)).length (nv (dnL N S T n m ys rs hs (isP q))) ∧ Kept w w' := by
  have HTQ := Lib.hid hq
  clear hq
  have e1 : (w.alloc (.cells #[.int .i64 N, .int .i64 S, .int .i64 T, .slice a3 (n + 1) c3, .slice a4 m c4, .slice a5 m c5, .slice a6 m c6, .slice a7 m c7, .slice a8 m c8] 32)).heap.size = w.heap.size + 1 := by simp
  have e2 : ((w.alloc (.cells #[.int .i64 N, .int .i64 S, .int .i64 T, .slice a3 (n + 1) c3, .slice a4 m c4, .slice a5 m c5, .slice a6 m c6, .slice a7 m c7, .slice a8 m c8] 32)).alloc (.cells #[.slice ra rs.length rc] 26)).heap.size = w.heap.size + 1 + 1 := by simp
  have e3 : (((w.alloc (.cells #[.int .i64 N, .int .i64 S, .int .i64 T, .slice a3 (n + 1) c3, .slice a4 m c4, .slice a5 m c5, .slice a6 m c6, .slice a7 m c7, .slice a8 m c8] 32)).alloc (.cells #[.slice ra rs.length rc] 26)).alloc (.cells #[.slice ha hs.length hc] 27)).heap.size = w.heap.size + 1 + 1 + 1 := by simp
  have k1 := (Upd.refl (fun _ => False) w).alloc (.cells #[.int .i64 N, .int .i64 S, .int .i64 T, .slice a3 (n + 1) c3, .slice a4 m c4, .slice a5 m c5, .slice a6 m c6, .slice a7 m c7, .slice a8 m c8] 32)
  have k4 := ((k1.alloc (.cells #[.slice ra rs.length rc] 26)).alloc (.cells #[.slice ha hs.length hc] 27)).alloc (.cells #[isVs q] 98)
  have b1 := (((Blk.new w #[.int .i64 N, .int .i64 S, .int .i64 T, .slice a3 (n + 1) c3, .slice a4 m c4, .slice a5 m c5, .slice a6 m c6, .slice a7 m c7, .slice a8 m c8] 32).alloc (.cells #[.slice ra rs.length rc] 26)).alloc (.cells #[.slice ha hs.length hc] 27)).alloc (.cells #[isVs q] 98)
  have b2 := ((Blk.new (w.alloc (.cells #[.int .i64 N, .int .i64 S, .int .i64 T, .slice a3 (n + 1) c3, .slice a4 m c4, .slice a5 m c5, .slice a6 m c6, .slice a7 m c7, .slice a8 m c8] 32)) #[.slice ra rs.length rc] 26).alloc (.cells #[.slice ha hs.length hc] 27)).alloc (.cells #[isVs q] 98)
  have b3 := (Blk.new ((w.alloc (.cells #[.int .i64 N, .int .i64 S, .int .i64 T, .slice a3 (n + 1) c3, .slice a4 m c4, .slice a5 m c5, .slice a6 m c6, .slice a7 m c7, .slice a8 m c8] 32)).alloc (.cells #[.slice ra rs.length rc] 26)) #[.slice ha hs.length hc] 27).alloc (.cells #[isVs q] 98)
  have b4 := Blk.new (((w.alloc (.cells #[.int .i64 N, .int .i64 S, .int .i64 T, .slice a3 (n + 1) c3, .slice a4 m c4, .slice a5 m c5, .slice a6 m c6, .slice a7 m c7, .slice a8 m c8] 32)).alloc (.cells #[.slice ra rs.length rc] 26)).alloc (.cells #[.slice ha hs.length hc] 27)) #[isVs q] 98
  rw [e1] at b2
  rw [e2] at b3
  rw [e3] at b4
  have HD : Hid (DSs q N S T n m a3 a4 a5 a6 a7 a8 c3 c4 c5 c6 c7 c8 ys ra rc rs ha hc hs w.heap.size (w.heap.size + 1) (w.heap.size + 1 + 1) (w.heap.size + 1 + 1 + 1) ((((w.alloc (.cells #[.int .i64 N, .int .i64 S, .int .i64 T, .slice a3 (n + 1) c3, .slice a4 m c4, .slice a5 m c5, .slice a6 m c6, .slice a7 m c7, .slice a8 m c8] 32)).alloc (.cells #[.slice ra rs.length rc] 26)).alloc (.cells #[.slice ha hs.length hc] 27)).alloc (.cells #[isVs q] 98))) := Lib.hid ⟨b1, b2, b3, b4, hcr.kept k4, hr.kept k4, hh.kept k4, HTQ.out⟩
  have HK := Lib.hid k4
  have HSZ := Lib.hid k4.size
  have HM := fun (w : World) (hcr : CsrR w n ys a3 a4 a5 a6 a7 a8) (hr : Rd w ra (lv rs)) (hh : Rd w ha (lv hs)) => Lib.hid (may_any N S T n m a3 a4 a5 a6 a7 a8 c3 c4 c5 c6 c7 c8 ys ra rc rs ha hc hs w hg hcr hr hh hm)
  have HG := Lib.hid hg
  clear e1 e2 e3 k1 k4 b1 b2 b3 b4 hcr hr hh hg
  obtain ⟨z, hz⟩ : ∃ z, mayB N S T m rs hs = z := ⟨_, rfl⟩
  rw [hz] at HM
  have HZ := Lib.hid hz
  clear hz
  have cx := HD.out.cc.cell
  have cr := HD.out.rr.cell
  have ch := HD.out.hh.cell
  go_enter Try.func65, Try.ntmps65
  go_wp2_with fail
  clear cx cr ch
  generalize ((((w.alloc (.cells #[.int .i64 N, .int .i64 S, .int .i64 T, .slice a3 (n + 1) c3, .slice a4 m c4, .slice a5 m c5, .slice a6 m c6, .slice a7 m c7, .slice a8 m c8] 32)).alloc (.cells #[.slice ra rs.length rc] 26)).alloc (.cells #[.slice ha hs.length hc] 27)).alloc (.cells #[isVs q] 98)) = W0 at HD HK HSZ ⊢
  generalize hcb1 : w.heap.size + 1 + 1 + 1 = ib at HD ⊢
  generalize hcb2 : w.heap.size + 1 + 1 = hb at HD ⊢
  generalize hcb3 : w.heap.size + 1 = rb at HD ⊢
  generalize hcb' : w.heap.size = cb at HD ⊢
  refine (HM _ HD.out.cr HD.out.r HD.out.h).out.mono ?_
  rintro e w1 ⟨rfl, hk1⟩
  have HD1 := Lib.hid (HD.out.kept hk1)
  have HK1 := Lib.hid (HK.out.trans hk1)
  have HSZ1 := Lib.hid (Nat.le_trans HSZ.out hk1.size)
  clear hk1 HD HK HSZ HM
  have cr := HD1.out.rr.cell
  cases z
  · go_wp2_with fail
    go_ret
    refine ⟨_, rfl, ?_, HK1.out⟩
    rw [show dnL N S T n m ys rs hs (isP q) = [] by unfold dnL; rw [HZ.out]; rfl]
    exact World.ownsRow_nil _ _ _ _
  · have hrm : rs.length = m := by
      have := HZ.out
      simp only [mayB, Bool.and_eq_true, decide_eq_true_eq] at this
      exact this.1
    have HP : ∀ (w : World), DSs q N S T n m a3 a4 a5 a6 a7 a8 c3 c4 c5 c6 c7 c8 ys ra rc rs ha hc hs cb rb hb ib w → Hid (Calls Try.prog 75 #[.int .i64 (rs.length : Nat), .func (.func 76) #[] #[.pointer (some ⟨cb, 0, none⟩), .pointer (some ⟨rb, 0, none⟩), .pointer (some ⟨ib, 0, none⟩), .pointer (some ⟨hb, 0, none⟩)]] w fun e w' => ∃ v, e = .returned v ∧ w'.ownsRow w.heap.size 3 1 v (dnL N S T n m ys rs hs (isP q)).length (nv (dnL N S T n m ys rs hs (isP q))) ∧ Kept w w') := by
      intro w hD
      rw [hrm]
      exact Lib.hid (pickeds_any q N S T n m a3 a4 a5 a6 a7 a8 c3 c4 c5 c6 c7 c8 ys ra rc rs ha hc hs cb rb hb ib w HG.out hD HZ.out)
    clear hrm
    go_wp2_with fail
    refine (HP _ HD1.out).out.mono ?_
    rintro e w2 ⟨v, rfl, ho, hk2⟩
    have HO := Lib.hid (ownsRow_base ho HSZ1.out)
    have HK2 := Lib.hid (HK1.out.trans hk2)
    clear ho hk2 cr
    go_wp2_with fail
    go_ret
    subst hcb'
    exact ⟨_, rfl, HO.out, HK2.out⟩
theorem steeps_any (N S T : Int) (n m : Nat) (a3 a4 a5 a6 a7 a8 : Option Addr) (c3 c4 c5 c6 c7 c8 : Nat) (ys : List Ar) (ra : Option Addr) (rc : Nat) (rs : List Int) (ha : Option Addr) (hc : Nat) (hs : List Int) (w : World) (hg : Gr N S T n m ys) (hcr : CsrR w n ys a3 a4 a5 a6 a7 a8) (hr : Rd w ra (lv rs)) (hh : Rd w ha (lv hs)) (hm : hs.length ≤ 9223372036854775807) :
    Calls Try.prog 45 #[.agg #[.int .i64 N, .int .i64 S, .int .i64 T, .slice a3 (n + 1) c3, .slice a4 m c4, .slice a5 m c5, .slice a6 m c6, .slice a7 m c7, .slice a8 m c8], .slice ra rs.length rc, .slice ha hs.length hc] w fun e w' => ∃ v, e = .returned v ∧ w'.ownsRow w.heap.size 3 1 v (dnL N S T n m ys rs hs (isP true)).length (nv (dnL N S T n m ys rs hs (isP true))) ∧ Kept w w' := by
  have HK := Lib.hid ((Upd.refl (fun _ => False) w).alloc (.cells #[.int .i64 N, .int .i64 S, .int .i64 T, .slice a3 (n + 1) c3, .slice a4 m c4, .slice a5 m c5, .slice a6 m c6, .slice a7 m c7, .slice a8 m c8] 32))
  have HB := Lib.hid (Blk.new w #[.int .i64 N, .int .i64 S, .int .i64 T, .slice a3 (n + 1) c3, .slice a4 m c4, .slice a5 m c5, .slice a6 m c6, .slice a7 m c7, .slice a8 m c8] 32)
  have HD := fun (w : World) (hg : Gr N S T n m ys) (hcr : CsrR w n ys a3 a4 a5 a6 a7 a8) (hr : Rd w ra (lv rs)) (hh : Rd w ha (lv hs)) => Lib.hid (downs_any true rfl N S T n m a3 a4 a5 a6 a7 a8 c3 c4 c5 c6 c7 c8 ys ra rc rs ha hc hs w hg hcr hr hh hm)
  simp only [isVs] at HD
  have HH := Lib.hid (hh.kept HK.out)
  have HR := Lib.hid (hr.kept HK.out)
  have HCR := Lib.hid (hcr.kept HK.out)
  clear hcr hr hh
  have HG := Lib.hid hg
  clear hg
  go_enter Try.func45, Try.ntmps45
  go_upto_region 1 with (fail)
  have HSZ := Lib.hid HK.out.size
  generalize (w.alloc (.cells #[.int .i64 N, .int .i64 S, .int .i64 T, .slice a3 (n + 1) c3, .slice a4 m c4, .slice a5 m c5, .slice a6 m c6, .slice a7 m c7, .slice a8 m c8] 32)) = W0 at HK HB HH HR HCR HSZ ⊢
  generalize hcb : w.heap.size = cb at HB ⊢
  have cx := HB.out.cell
  go_wp2_with fail
  refine (HD _ HG.out HCR.out HR.out HH.out).out.mono ?_
  rintro e w1 ⟨v, rfl, ho, hk1⟩
  have HO := Lib.hid (ownsRow_base ho HSZ.out)
  have HK1 := Lib.hid (HK.out.trans hk1)
  subst hcb
  clear ho hk1 cx
  go_wp2_with fail
  go_ret
  exact ⟨_, rfl, HO.out, HK1.out⟩
end Go.Proofs.Ytdhimfkmgcfohaa
