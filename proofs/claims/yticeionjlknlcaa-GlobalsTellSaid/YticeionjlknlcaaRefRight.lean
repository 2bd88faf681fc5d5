/- acequiaref06.Right (printed by gen_refright.py). -/
import Derived.Test.YticeionjlknlcaaLabRight
namespace Go.Proofs.Yticeionjlknlcaa
set_option linter.unusedVariables false
set_option linter.unusedSimpArgs false
open Go.RowKit

set_option maxHeartbeats 4000000 in
theorem refRight_any (N S T : Int) (n m : Nat) (a3 a4 a5 a6 a7 a8 : Option Addr) (c3 c4 c5 c6 c7 c8 : Nat) (ys : List Ar) (ha : Option Addr) (hc : Nat) (hs : List Int) (w : World) (hg : Gr N S T n m ys) (hh : Rd w ha (lv hs)) (hm : hs.length ≤ 9223372036854775807) :
    Calls Try.prog 45 #[.agg #[.int .i64 N, .int .i64 S, .int .i64 T, .slice a3 (n + 1) c3, .slice a4 m c4, .slice a5 m c5, .slice a6 m c6, .slice a7 m c7, .slice a8 m c8], .slice ha hs.length hc] w fun e w' => e = .returned (.bool (rightB N S T hs)) ∧ Kept w w' := by
  have hl := hg.len
  obtain ⟨hnN, hn2, -, -, hS0, hS1, hT0, hT1, -⟩ := hl
  have hN2 : 2 ≤ N := hg.ok.n2
  have hN3 : N ≤ 16 := hg.ok.n16
  clear hg hn2
  obtain ⟨s, rfl⟩ : ∃ s : Nat, S = (s : Int) := ⟨S.toNat, by omega⟩
  obtain ⟨t, rfl⟩ : ∃ t : Nat, T = (t : Int) := ⟨T.toNat, by omega⟩
  have HK := Lib.hid ((Upd.refl (fun _ => False) w).alloc (.cells #[.int .i64 N, .int .i64 s, .int .i64 t, .slice a3 (n + 1) c3, .slice a4 m c4, .slice a5 m c5, .slice a6 m c6, .slice a7 m c7, .slice a8 m c8] 29))
  have HB := Lib.hid (Blk.new w #[.int .i64 N, .int .i64 s, .int .i64 t, .slice a3 (n + 1) c3, .slice a4 m c4, .slice a5 m c5, .slice a6 m c6, .slice a7 m c7, .slice a8 m c8] 29)
  have HH := Lib.hid hh
  clear hh
  obtain ⟨r, hr⟩ : ∃ r, rightB N s t hs = r := ⟨_, rfl⟩
  rw [hr]
  have HR := Lib.hid hr
  clear hr
  have q1 : (0 : Int) < N := by omega
  have q0 : (N == 0) = false := by simp; omega
  by_cases hlen : (hs.length : Int) = N
  · have hb1 : ((hs.length : Int) == N) = true := by simpa using hlen
    have hb2 : ((hs.length : Int) != N) = false := by simpa using hlen
    have HLEN := Lib.hid hlen
    clear hlen
    go_enter Try.func45, Try.ntmps45
    go_upto_region 1 with (fail)
    generalize (w.alloc (.cells #[.int .i64 N, .int .i64 s, .int .i64 t, .slice a3 (n + 1) c3, .slice a4 m c4, .slice a5 m c5, .slice a6 m c6, .slice a7 m c7, .slice a8 m c8] 29)) = W0 at HK HB ⊢
    generalize w.heap.size = cb at HB ⊢
    have cx := HB.out.cell
    go_wp2_with fail
    clear cx
    go_loopw [5] (fun i wr => ∃ k : Nat, i = .int .i64 k ∧ (k : Int) ≤ N ∧ Hid ((hs.take k).all (okK N) = true) ∧ Hid (Kept w wr) ∧ Hid (Blk wr cb #[.int .i64 N, .int .i64 s, .int .i64 t, .slice a3 (n + 1) c3, .slice a4 m c4, .slice a5 m c5, .slice a6 m c6, .slice a7 m c7, .slice a8 m c8] 29)) (fun i _ => hs.length - (intOf i).toNat)
    case atStart => exact ⟨0, rfl, by omega, Lib.hid (by simp), HK, HB⟩
    case round =>
      clear HK HB
      obtain ⟨k, rfl, hk, HA, HK, HB⟩ := hrel
      have cx := HB.out.cell
      by_cases hkN : (k : Int) < N
      · have hlt : k < hs.length := by have := HLEN.out; omega
        obtain ⟨hb, ho, rfl, c0⟩ := (HH.out.kept HK.out).at k (by rw [lv_len]; exact hlt)
        rw [lv_at _ _ hlt] at c0
        have HZ : Hid ((hs.take (k + 1)).all (okK N) = okK N hs[k]) := Lib.hid (by rw [List.take_succ_eq_append_getElem hlt, List.all_append, HA.out]; simp)
        have HZ2 : Hid (okK N hs[k] = false → rightB N s t hs = false) := Lib.hid (by
          intro h0
          have h1 : hs.all (okK N) = false := by
            rw [List.all_eq_false]
            exact ⟨hs[k], List.getElem_mem _, by rw [h0]; simp⟩
          have h2 : hs.all (fun k => decide (0 ≤ k) && decide (k ≤ N)) = false := h1
          simp [rightB, h2])
        generalize hs[k] = x at c0 HZ HZ2
        have j0 : (0 : Int) ≤ (k : Int) := by omega
        have j1 : (k : Int) < (hs.length : Int) := by omega
        by_cases hx0 : x < 0
        · have HO : Hid (okK N x = false) := Lib.hid (by unfold okK; simp; omega)
          go_upto_region 6 with (fail)
          go_big_quiet (fail)
          have HB := Lib.hid (HB.out.kept (drewN_kept wr nq))
          have HK := Lib.hid (HK.out.trans (drewN_kept wr nq))
          clear cx c0
          generalize wr.drewN nq = W4 at HB HK ⊢
          go_wp2_with fail
          go_ret
          exact ⟨ret_bool (by rw [← HR.out, HZ2.out HO.out]), HK.out⟩
        · by_cases hxN : N < x
          · have HO : Hid (okK N x = false) := Lib.hid (by unfold okK; simp; omega)
            go_upto_region 6 with (fail)
            go_big_quiet (fail)
            have HB := Lib.hid (HB.out.kept (drewN_kept wr nq))
            have HK := Lib.hid (HK.out.trans (drewN_kept wr nq))
            clear cx c0
            generalize wr.drewN nq = W4 at HB HK ⊢
            go_wp2_with fail
            go_ret
            exact ⟨ret_bool (by rw [← HR.out, HZ2.out HO.out]), HK.out⟩
          · have HO : Hid (okK N x = true) := Lib.hid (by unfold okK; simp; omega)
            go_upto_region 6 with (fail)
            go_big_quiet (fail)
            have HB := Lib.hid (HB.out.kept (drewN_kept wr nq))
            have HK := Lib.hid (HK.out.trans (drewN_kept wr nq))
            clear cx c0
            generalize wr.drewN nq = W4 at HB HK ⊢
            go_wp2_with fail
            go_roundw
            case rel => exact ⟨k + 1, by go_num, by omega, Lib.hid (HZ.out.trans HO.out), HK, HB⟩
            case measure =>
              have := HLEN.out
              simp [intOf]
              omega
      · have HE : Hid (hs.all (okK N) = true) := Lib.hid (by have := HA.out; have := HLEN.out; rwa [List.take_of_length_le (by omega)] at *)
        have tl2 : t < hs.length := by have := HLEN.out; omega
        have sl2 : s < hs.length := by have := HLEN.out; omega
        obtain ⟨hb, ho, rfl, ct⟩ := (HH.out.kept HK.out).at t (by rw [lv_len]; exact tl2)
        obtain ⟨hb', ho', e', cs⟩ := (HH.out.kept HK.out).at s (by rw [lv_len]; exact sl2)
        cases e'
        rw [lv_get tl2] at ct
        rw [lv_get sl2] at cs
        have HRR : Hid (r = (decide (hs.getD t 0 = 0) && decide (hs.getD s 0 = N))) := Lib.hid (by
          have h1 : hs.all (fun k => decide (0 ≤ k) && decide (k ≤ N)) = true := HE.out
          rw [← HR.out]
          simp only [rightB, HLEN.out, decide_true, Bool.true_and, Int.toNat_natCast, h1])
        generalize hs.getD t 0 = xt at ct HRR
        generalize hs.getD s 0 = xs at cs HRR
        have j0 : (0 : Int) ≤ (t : Int) := by omega
        have j1 : (t : Int) < (hs.length : Int) := by omega
        have j2 : (0 : Int) ≤ (s : Int) := by omega
        have j3 : (s : Int) < (hs.length : Int) := by omega
        by_cases hxt : xt = 0
        · have hb3 : (xt == 0) = true := by simpa using hxt
          have HXT := Lib.hid hxt
          clear hxt
          by_cases hxs : xs = N
          · have hb4 : (xs == N) = true := by simpa using hxs
            have HXS := Lib.hid hxs
            clear hxs
            go_upto_region 8 with (fail)
            go_big_quiet (fail)
            have HK := Lib.hid (HK.out.trans (drewN_kept wr nq))
            go_wp2_with fail
            go_ret
            exact ⟨ret_bool (by rw [HRR.out]; simp [HXT.out, HXS.out]), HK.out⟩
          · have hb4 : (xs == N) = false := by simpa using hxs
            have HXS := Lib.hid hxs
            clear hxs
            go_upto_region 8 with (fail)
            go_big_quiet (fail)
            have HK := Lib.hid (HK.out.trans (drewN_kept wr nq))
            go_wp2_with fail
            go_ret
            exact ⟨ret_bool (by rw [HRR.out]; simp [HXT.out, HXS.out]), HK.out⟩
        · have hb3 : (xt == 0) = false := by simpa using hxt
          have HXT := Lib.hid hxt
          clear hxt
          go_upto_region 8 with (fail)
          go_big_quiet (fail)
          have HK := Lib.hid (HK.out.trans (drewN_kept wr nq))
          go_wp2_with fail
          go_ret
          exact ⟨ret_bool (by rw [HRR.out]; simp [HXT.out]), HK.out⟩
  · have hb1 : ((hs.length : Int) == N) = false := by simpa using hlen
    have hb2 : ((hs.length : Int) != N) = true := by simpa using hlen
    have HLEN := Lib.hid hlen
    clear hlen
    go_enter Try.func45, Try.ntmps45
    go_upto_region 1 with (fail)
    generalize (w.alloc (.cells #[.int .i64 N, .int .i64 s, .int .i64 t, .slice a3 (n + 1) c3, .slice a4 m c4, .slice a5 m c5, .slice a6 m c6, .slice a7 m c7, .slice a8 m c8] 29)) = W0 at HK HB ⊢
    generalize w.heap.size = cb at HB ⊢
    have cx := HB.out.cell
    go_wp2_with fail
    go_ret
    exact ⟨ret_bool (by rw [← HR.out]; simp [rightB, HLEN.out]), HK.out⟩
end Go.Proofs.Yticeionjlknlcaa
