/- acequiaref02.Res of a csr and a flow within (printed by gen_refres.py). -/
import Derived.Test.YtdhimfkmgcfohaaCsrRd
import Derived.Test.YtdhimfkmgcfohaaRefMake
import Derived.Deep.CutRange
namespace Go.Proofs.Ytdhimfkmgcfohaa
set_option linter.unusedVariables false
open Go.RowKit

set_option maxHeartbeats 4000000 in
theorem Res_ok (N S T : Int) (n m : Nat) (ys : List Ar) (a3 a4 a5 a6 a7 a8 : Option Addr) (c3 c4 c5 c6 c7 c8 : Nat) (fa : Option Addr) (fc : Nat) (fs : List Int) (w : World) (hc : CsrR w n ys a3 a4 a5 a6 a7 a8) (hm : (enAll n ys).length = m) (hm2 : m ≤ 1280) (hy : ∀ x ∈ ys, ArcOk n x) (hf : FsOk fs ys) (hr : Rd w fa (lv fs)) :
    Calls Try.prog 29 #[.agg #[.int .i64 N, .int .i64 S, .int .i64 T, .slice a3 (n + 1) c3, .slice a4 m c4, .slice a5 m c5, .slice a6 m c6, .slice a7 m c7, .slice a8 m c8], .slice fa fs.length fc] w fun e w' => ∃ v9, e = .returned (.tuple #[v9, .int .i64 0]) ∧ w'.ownsRow w.heap.size 2 1 v9 m (lv (resAll fs n ys)) ∧ Kept w w' := by
  have HB := Lib.hid (Blk.new w #[.int .i64 N, .int .i64 S, .int .i64 T, .slice a3 (n + 1) c3, .slice a4 m c4, .slice a5 m c5, .slice a6 m c6, .slice a7 m c7, .slice a8 m c8] 32)
  have HK := Lib.hid ((Upd.refl (fun _ => False) w).alloc (.cells #[.int .i64 N, .int .i64 S, .int .i64 T, .slice a3 (n + 1) c3, .slice a4 m c4, .slice a5 m c5, .slice a6 m c6, .slice a7 m c7, .slice a8 m c8] 32))
  have HC := Lib.hid hc
  have HM := Lib.hid hm
  have HR := Lib.hid hr
  have HF := Lib.hid (fun (i : Nat) (hi : i < (enAll n ys).length) => res_facts hy hf i hi)
  have HBs : Hid (w.heap.size + 1 ≤ (w.alloc (.cells #[.int .i64 N, .int .i64 S, .int .i64 T, .slice a3 (n + 1) c3, .slice a4 m c4, .slice a5 m c5, .slice a6 m c6, .slice a7 m c7, .slice a8 m c8] 32)).heap.size) := Lib.hid (by simp)
  clear hc hm hr hy hf
  go_enter Try.func29, Try.ntmps29
  go_upto_region 1 with (fail)
  generalize (w.alloc (.cells #[.int .i64 N, .int .i64 S, .int .i64 T, .slice a3 (n + 1) c3, .slice a4 m c4, .slice a5 m c5, .slice a6 m c6, .slice a7 m c7, .slice a8 m c8] 32)) = W0 at HB HK HBs ⊢
  have S0 := Lib.hid (World.ownsRow_nil W0 (w.heap.size + 1) 2 1)
  go_wp2_with fail
  go_loopw [6, 7] (fun vo ix wr => ∃ (i : Nat) (v : Value), ix = .int .i64 i ∧ vo = v ∧ i ≤ m ∧ Hid (Kept w wr) ∧ Hid (Blk wr w.heap.size #[.int .i64 N, .int .i64 S, .int .i64 T, .slice a3 (n + 1) c3, .slice a4 m c4, .slice a5 m c5, .slice a6 m c6, .slice a7 m c7, .slice a8 m c8] 32) ∧ Hid (w.heap.size + 1 ≤ wr.heap.size) ∧ Hid (wr.ownsRow (w.heap.size + 1) 2 1 v (lv ((resAll fs n ys).take i)).length (lv ((resAll fs n ys).take i)))) (fun vo ix _ => m - (intOf ix).toNat)
  case atStart => exact ⟨0, _, rfl, rfl, by omega, HK, HB, HBs, by simpa [lv] using S0⟩
  case round =>
    clear HK HB HBs S0
    obtain ⟨i, vo, rfl, rfl, hi, HK, HB, HBs, HO⟩ := hrel
    obtain ⟨oa, oc, rfl⟩ := row_form HO.out
    have cv0 := HB.out.cell
    by_cases hlt : i < m
    · obtain ⟨r, p, c, c', v, b, e5, hrm, e6, e6', e7, hp, ef, e8, q0, q1, q2, q3, q4, hro⟩ := HF.out i (by rw [HM.out]; exact hlt)
      rw [HM.out] at hrm
      have HRO := Lib.hid hro
      clear hro
      have hC := HC.out.kept HK.out
      obtain ⟨b5, f5, rfl, d5⟩ := hC.r5.at i (List.getElem?_eq_some_iff.1 e5).1
      obtain ⟨b6, f6, rfl, d6⟩ := hC.r6.at i (List.getElem?_eq_some_iff.1 e6).1
      obtain ⟨b6', f6', e6x, d6'⟩ := hC.r6.at r (List.getElem?_eq_some_iff.1 e6').1
      cases e6x
      obtain ⟨b7, f7, rfl, d7⟩ := hC.r7.at i (List.getElem?_eq_some_iff.1 e7).1
      obtain ⟨b8, f8, rfl, d8⟩ := hC.r8.at i (List.getElem?_eq_some_iff.1 e8).1
      obtain ⟨bf, ff, rfl, df⟩ := (HR.out.kept HK.out).at p (by rw [lv_len]; exact hp)
      rw [e5] at d5
      rw [e6] at d6
      rw [e6'] at d6'
      rw [e7] at d7
      rw [e8] at d8
      rw [ef] at df
      clear e5 e6 e6' e7 e8 ef hC
      have j0 : (0 : Int) ≤ (i : Int) := by omega
      have j1 : (i : Int) < (m : Int) := by omega
      have j2 : (0 : Int) ≤ (p : Int) := by omega
      have j3 : (p : Int) < (fs.length : Int) := by omega
      have j4 : (0 : Int) ≤ (r : Int) := by omega
      have j5 : (r : Int) < (m : Int) := by omega
      have w1 : wrap64 (c + c') = c + c' := by unfold wrap64; omega
      go_upto_region 8 with (fail)
      go_big_quiet (fail)
      have HK := Lib.hid (HK.out.trans (drewN_kept wr nq))
      have HB := Lib.hid (HB.out.kept (drewN_kept wr nq))
      have HBs := Lib.hid (Nat.le_trans HBs.out (drewN_kept wr nq).size)
      have HO := Lib.hid (ownsRow_upd HO.out (drewN_kept wr nq) (fun _ _ f => f))
      have dfx : (wr.drewN nq).cell? ⟨bf, ff + p, none⟩ = some (.int .i64 v) := df
      have d8x : (wr.drewN nq).cell? ⟨b8, f8 + i, none⟩ = some (.bool b) := d8
      clear d5 d6 d6' d7 d8 df cv0 w1
      generalize wr.drewN nq = W4 at HK HB HBs HO dfx d8x ⊢
      have cv0 := HB.out.cell
      have g1 : ¬ v < 0 := by omega
      have g2 : ¬ c + c' < v := by omega
      have g3 : ¬ (fs.length : Int) ≤ (p : Int) := by omega
      cases b
      · have w2 : wrap64 (c + c' - v) = c + c' - v := by unfold wrap64; omega
        obtain ⟨i0, hi, hz0, hz1, hz2⟩ := info_parts infoLong
        have hxl : (lv ((resAll fs n ys).take i)).length ≤ 2000000 := by rw [lv_len, List.length_take, resAll_len]; omega
        have hbs := HBs.out
        have ho := HO.out
        go_wp2_with (first | (at_builtin; refine wpList_push rfl _ _ 26 rfl (w.heap.size + 1) 2 i0 (.int .i64 0) 8 Try.underlying26 hi hz0 hz1 hz2 rfl (by decide) _ _ _ rfl ho (.int .i64 (c + c' - v)) rfl rfl hxl hbs ?_; intro g cap' w' hown hg; clear hi hz0 hz1 hz2 hxl hbs cv0) | fail)
        have HK' := Lib.hid (hg.kept HK.out ho (by omega))
        have HB' := Lib.hid (hg.blk HB.out ho (by decide))
        have HBs' := Lib.hid (Nat.le_trans HBs.out hg.upd.size)
        go_roundw
        case rel =>
          refine ⟨i + 1, _, by go_num, rfl, by omega, HK', HB', HBs', Lib.hid ?_⟩
          rw [List.take_succ_eq_append_getElem (by rw [resAll_len, HM.out]; exact hlt), lv_push, List.length_append]
          have h5 : (resAll fs n ys)[i]'(by rw [resAll_len, HM.out]; exact hlt) = c + c' - v := by
            unfold resAll
            rw [List.getElem_map]
            simpa using HRO.out
          rw [h5]
          exact hown
        case measure => simp [intOf]; omega
      · skip
        obtain ⟨i0, hi, hz0, hz1, hz2⟩ := info_parts infoLong
        have hxl : (lv ((resAll fs n ys).take i)).length ≤ 2000000 := by rw [lv_len, List.length_take, resAll_len]; omega
        have hbs := HBs.out
        have ho := HO.out
        go_wp2_with (first | (at_builtin; refine wpList_push rfl _ _ 26 rfl (w.heap.size + 1) 2 i0 (.int .i64 0) 8 Try.underlying26 hi hz0 hz1 hz2 rfl (by decide) _ _ _ rfl ho (.int .i64 (v)) rfl rfl hxl hbs ?_; intro g cap' w' hown hg; clear hi hz0 hz1 hz2 hxl hbs cv0) | fail)
        have HK' := Lib.hid (hg.kept HK.out ho (by omega))
        have HB' := Lib.hid (hg.blk HB.out ho (by decide))
        have HBs' := Lib.hid (Nat.le_trans HBs.out hg.upd.size)
        go_roundw
        case rel =>
          refine ⟨i + 1, _, by go_num, rfl, by omega, HK', HB', HBs', Lib.hid ?_⟩
          rw [List.take_succ_eq_append_getElem (by rw [resAll_len, HM.out]; exact hlt), lv_push, List.length_append]
          have h5 : (resAll fs n ys)[i]'(by rw [resAll_len, HM.out]; exact hlt) = v := by
            unfold resAll
            rw [List.getElem_map]
            simpa using HRO.out
          rw [h5]
          exact hown
        case measure => simp [intOf]; omega
    · have hkM : i = m := by omega
      subst hkM
      go_wp2_with fail
      go_ret2
      refine ⟨_, rfl, ?_, HK.out⟩
      have h2 := ownsRow_base HO.out (Nat.le_succ _)
      have e0 : (lv ((resAll fs n ys).take i)).length = i := by rw [lv_len, List.length_take, resAll_len, HM.out, Nat.min_self]
      rw [e0] at h2 ⊢
      rw [List.take_of_length_le (by rw [resAll_len, HM.out]; exact Nat.le_refl _)] at h2
      exact h2
end Go.Proofs.Ytdhimfkmgcfohaa
