/- label.Right, acequiaref06.Right (printed by gen_labright.py). -/
import Derived.Test.YtdhimfkmgcfohaaGr
import Derived.Test.YtdhimfkmgcfohaaRefMake
import Derived.Deep.CutRange
import Derived.Deep.RegionHeld3
namespace Go.Proofs.Ytdhimfkmgcfohaa
set_option linter.unusedVariables false
set_option linter.unusedSimpArgs false
open Go.RowKit
attribute [local go_sem] cell?_ext

def okK (N k : Int) : Bool := decide (0 ≤ k) && decide (k ≤ N)
theorem wrongCall (N S T : Int) (n m : Nat) (a3 a4 a5 a6 a7 a8 : Option Addr) (c3 c4 c5 c6 c7 c8 : Nat) (cb : Nat) (k : Int) (w : World) (hb : Blk w cb #[.int .i64 N, .int .i64 S, .int .i64 T, .slice a3 (n + 1) c3, .slice a4 m c4, .slice a5 m c5, .slice a6 m c6, .slice a7 m c7, .slice a8 m c8] 32) :
    Calls Try.prog 74 #[.int .i64 k, .pointer (some ⟨cb, 0, none⟩)] w fun e w' => e = .returned (.bool (!(okK N k))) ∧ Kept w w' := by
  have cx := hb.cell
  unfold okK
  by_cases h1 : k < 0
  · go_enter Try.func74, Try.ntmps74
    go_wp2
    go_ret
    exact ⟨ret_bool (by simp [h1]), Upd.refl _ _⟩
  · have h0 : 0 ≤ k := by omega
    by_cases h2 : N < k
    · go_enter Try.func74, Try.ntmps74
      go_wp2
      go_ret
      exact ⟨ret_bool (by simp [h2]), Upd.refl _ _⟩
    · have h3 : k ≤ N := by omega
      go_enter Try.func74, Try.ntmps74
      go_wp2
      go_ret
      exact ⟨ret_bool (by simp [h0, h3]), Upd.refl _ _⟩
theorem indexR (N S T : Int) (n m : Nat) (a3 a4 a5 a6 a7 a8 : Option Addr) (c3 c4 c5 c6 c7 c8 : Nat) (cb : Nat) (ha : Option Addr) (hc : Nat) (hs : List Int) (w : World) (hb : Blk w cb #[.int .i64 N, .int .i64 S, .int .i64 T, .slice a3 (n + 1) c3, .slice a4 m c4, .slice a5 m c5, .slice a6 m c6, .slice a7 m c7, .slice a8 m c8] 32) (hh : Rd w ha (lv hs)) (hm : hs.length ≤ 9223372036854775807) :
    Calls Try.prog 73 #[.slice ha hs.length hc, .func (.func 74) #[] #[.pointer (some ⟨cb, 0, none⟩)]] w fun e w' => ∃ r : Int, e = .returned (.int .i64 r) ∧ decide (0 ≤ r) = !(hs.all (okK N)) ∧ Kept w w' := by
  have HX := Lib.hid hh
  have HS := Lib.hid hb
  clear hh hb
  go_enter Try.func73, Try.ntmps73
  go_wp2_with fail
  go_loopw [8] (fun i wr => ∃ k : Nat, i = .int .i64 k ∧ k ≤ hs.length ∧ Hid ((hs.take k).all (okK N) = true) ∧ Hid (Kept w wr)) (fun i _ => hs.length - (intOf i).toNat)
  case atStart => exact ⟨0, rfl, by omega, Lib.hid (by simp), Lib.hid (Upd.refl _ _)⟩
  case round =>
    obtain ⟨k, rfl, hk, HA, HK⟩ := hrel
    by_cases hlt : k < hs.length
    · have HC := Lib.hid (wrongCall N S T n m a3 a4 a5 a6 a7 a8 c3 c4 c5 c6 c7 c8 cb hs[k] wr (HS.out.kept HK.out))
      obtain ⟨b, off, rfl, c0⟩ := (HX.out.kept HK.out).at k (by rw [lv_len]; exact hlt)
      rw [lv_at _ _ hlt] at c0
      obtain ⟨z, hz⟩ : ∃ z, okK N hs[k] = z := ⟨_, rfl⟩
      rw [hz] at HC
      have HZ : Hid ((hs.take (k + 1)).all (okK N) = z) := Lib.hid (by rw [List.take_succ_eq_append_getElem hlt, List.all_append, HA.out]; simp [hz])
      have HZ2 : Hid (z = false → hs.all (okK N) = false) := Lib.hid (by
        intro h0
        rw [List.all_eq_false]
        exact ⟨hs[k], List.getElem_mem _, by rw [hz, h0]; simp⟩)
      clear hz HA
      generalize hs[k] = x at c0 HC
      have j0 : (0 : Int) ≤ (k : Int) := by omega
      have j1 : (k : Int) < (hs.length : Int) := by omega
      cases z
      · simp only [Bool.not_false] at HC
        have HZ3 := Lib.hid (HZ2.out rfl)
        clear HZ2
        go_wp2_with fail
        refine HC.out.mono ?_
        rintro e w1 ⟨rfl, hk1⟩
        have HK2 := Lib.hid (HK.out.trans hk1)
        clear hk1 HC HK c0
        go_wp2_with fail
        go_ret
        exact ⟨k, rfl, by rw [HZ3.out]; simp, HK2.out⟩
      · simp only [Bool.not_true] at HC
        go_wp2_with fail
        refine HC.out.mono ?_
        rintro e w1 ⟨rfl, hk1⟩
        have HK2 := Lib.hid (HK.out.trans hk1)
        clear hk1 HC HK HZ2 c0
        go_wp2_with fail
        go_roundw
        case rel => exact ⟨k + 1, by go_num, by omega, HZ, HK2⟩
        case measure => simp [intOf]; omega
    · have HE : Hid (hs.all (okK N) = true) := Lib.hid (by have := HA.out; rwa [List.take_of_length_le (by omega)] at this)
      go_wp2_with fail
      go_ret
      exact ⟨-1, rfl, by rw [HE.out]; simp, HK.out⟩
theorem containsR (N S T : Int) (n m : Nat) (a3 a4 a5 a6 a7 a8 : Option Addr) (c3 c4 c5 c6 c7 c8 : Nat) (cb : Nat) (ha : Option Addr) (hc : Nat) (hs : List Int) (w : World) (hb : Blk w cb #[.int .i64 N, .int .i64 S, .int .i64 T, .slice a3 (n + 1) c3, .slice a4 m c4, .slice a5 m c5, .slice a6 m c6, .slice a7 m c7, .slice a8 m c8] 32) (hh : Rd w ha (lv hs)) (hm : hs.length ≤ 9223372036854775807) :
    Calls Try.prog 61 #[.slice ha hs.length hc, .func (.func 74) #[] #[.pointer (some ⟨cb, 0, none⟩)]] w fun e w' => e = .returned (.bool (!(hs.all (okK N)))) ∧ Kept w w' := by
  have H := Lib.hid (indexR N S T n m a3 a4 a5 a6 a7 a8 c3 c4 c5 c6 c7 c8 cb ha hc hs w hb hh hm)
  clear hb hh
  go_enter Try.func61, Try.ntmps61
  go_wp2_with fail
  refine H.out.mono ?_
  rintro e w1 ⟨r, rfl, hr, hk1⟩
  have HR := Lib.hid hr
  have HK := Lib.hid hk1
  clear hr hk1
  go_wp2
  go_ret
  exact ⟨ret_bool HR.out, HK.out⟩
theorem containsR' (N S T : Int) (n m : Nat) (a3 a4 a5 a6 a7 a8 : Option Addr) (c3 c4 c5 c6 c7 c8 : Nat) (cb : Nat) (ha : Option Addr) (hc : Nat) (hs : List Int) (w : World) (hb : Blk w cb #[.int .i64 N, .int .i64 S, .int .i64 T, .slice a3 (n + 1) c3, .slice a4 m c4, .slice a5 m c5, .slice a6 m c6, .slice a7 m c7, .slice a8 m c8] 32) (hh : Rd w ha (lv hs)) (hm : hs.length ≤ 9223372036854775807) (y : Bool) (hy : hs.all (okK N) = !y) :
    Calls Try.prog 61 #[.slice ha hs.length hc, .func (.func 74) #[] #[.pointer (some ⟨cb, 0, none⟩)]] w fun e w' => e = .returned (.bool y) ∧ Kept w w' := by
  have h := containsR N S T n m a3 a4 a5 a6 a7 a8 c3 c4 c5 c6 c7 c8 cb ha hc hs w hb hh hm
  rw [hy, Bool.not_not] at h
  exact h
set_option maxHeartbeats 4000000 in
theorem right_any (N S T : Int) (n m : Nat) (a3 a4 a5 a6 a7 a8 : Option Addr) (c3 c4 c5 c6 c7 c8 : Nat) (ys : List Ar) (ha : Option Addr) (hc : Nat) (hs : List Int) (w : World) (hg : Gr N S T n m ys) (hh : Rd w ha (lv hs)) (hm : hs.length ≤ 9223372036854775807) :
    Calls Try.prog 64 #[.agg #[.int .i64 N, .int .i64 S, .int .i64 T, .slice a3 (n + 1) c3, .slice a4 m c4, .slice a5 m c5, .slice a6 m c6, .slice a7 m c7, .slice a8 m c8], .slice ha hs.length hc] w fun e w' => e = .returned (.bool (rightB N S T hs)) ∧ Kept w w' := by
  have hl := hg.len
  obtain ⟨-, hn2, -, -, hS0, hS1, hT0, hT1, -⟩ := hl
  have hN2 : 2 ≤ N := hg.ok.n2
  clear hg hn2
  obtain ⟨s, rfl⟩ : ∃ s : Nat, S = (s : Int) := ⟨S.toNat, by omega⟩
  obtain ⟨t, rfl⟩ : ∃ t : Nat, T = (t : Int) := ⟨T.toNat, by omega⟩
  have HK := Lib.hid ((Upd.refl (fun _ => False) w).alloc (.cells #[.int .i64 N, .int .i64 s, .int .i64 t, .slice a3 (n + 1) c3, .slice a4 m c4, .slice a5 m c5, .slice a6 m c6, .slice a7 m c7, .slice a8 m c8] 32))
  have HB := Lib.hid (Blk.new w #[.int .i64 N, .int .i64 s, .int .i64 t, .slice a3 (n + 1) c3, .slice a4 m c4, .slice a5 m c5, .slice a6 m c6, .slice a7 m c7, .slice a8 m c8] 32)
  have HH := Lib.hid (hh.kept HK.out)
  clear hh
  obtain ⟨r, hr⟩ : ∃ r, rightB N s t hs = r := ⟨_, rfl⟩
  rw [hr]
  have HR := Lib.hid hr
  clear hr
  have q1 : (0 : Int) < N := by omega
  by_cases hlen : (hs.length : Int) = N
  · have hb1 : ((hs.length : Int) == N) = true := by simpa using hlen
    have HLEN := Lib.hid hlen
    obtain ⟨z, hz⟩ : ∃ z, hs.all (okK N) = z := ⟨_, rfl⟩
    have HZ := Lib.hid hz
    clear hz
    have tl2 : t < hs.length := by omega
    have sl2 : s < hs.length := by omega
    obtain ⟨hb, ho, rfl, ct⟩ := HH.out.at t (by rw [lv_len]; exact tl2)
    obtain ⟨hb', ho', e', cs⟩ := HH.out.at s (by rw [lv_len]; exact sl2)
    cases e'
    rw [lv_get tl2] at ct
    rw [lv_get sl2] at cs
    have hrr : r = (z && decide (hs.getD t 0 = 0) && decide (hs.getD s 0 = N)) := by
      rw [← HR.out, ← HZ.out]
      simp only [rightB, hlen, decide_true, Bool.true_and, Int.toNat_natCast]
      rfl
    have HRR := Lib.hid hrr
    clear hrr HR hlen
    generalize hs.getD t 0 = xt at ct HRR
    generalize hs.getD s 0 = xs at cs HRR
    have j0 : (0 : Int) ≤ (t : Int) := by omega
    have j1 : (t : Int) < (hs.length : Int) := by omega
    have j2 : (0 : Int) ≤ (s : Int) := by omega
    have j3 : (s : Int) < (hs.length : Int) := by omega
    go_enter Try.func64, Try.ntmps64
    go_upto_region 2 with (fail)
    generalize (w.alloc (.cells #[.int .i64 N, .int .i64 s, .int .i64 t, .slice a3 (n + 1) c3, .slice a4 m c4, .slice a5 m c5, .slice a6 m c6, .slice a7 m c7, .slice a8 m c8] 32)) = W0 at HK HB HH ct cs ⊢
    generalize w.heap.size = cb at HB ⊢
    have cx := HB.out.cell
    by_cases hxt : xt = 0
    · have hb3 : (xt == 0) = true := by simpa using hxt
      have HXT := Lib.hid hxt
      clear hxt
      by_cases hxs : xs = N
      · have hb4 : (xs == N) = true := by simpa using hxs
        have HXS := Lib.hid hxs
        clear hxs
        cases z
        · have HCf := fun u => Lib.hid (containsR' N s t n m a3 a4 a5 a6 a7 a8 c3 c4 c5 c6 c7 c8 cb _ hc hs _ (HB.out.kept (kept_ext W0 u)) (HH.out.kept (kept_ext W0 u)) hm true HZ.out)
          refine wp_region_kept (by kernel_rfl) (by kernel_rfl) ?_
          repeat (go_big_quiet_step ((go_at_call 61; exact kept_call (HCf _).out)))
          refine wpQuiet_nil ?_
          intro w1 hk1
          have HK2 := Lib.hid (HK.out.trans hk1)
          clear hk1
          go_wp2_with fail
          go_ret
          exact ⟨ret_bool (by rw [HRR.out]; simp [HXT.out, HXS.out]), HK2.out⟩
        · have HCf := fun u => Lib.hid (containsR' N s t n m a3 a4 a5 a6 a7 a8 c3 c4 c5 c6 c7 c8 cb _ hc hs _ (HB.out.kept (kept_ext W0 u)) (HH.out.kept (kept_ext W0 u)) hm false HZ.out)
          refine wp_region_kept (by kernel_rfl) (by kernel_rfl) ?_
          repeat (go_big_quiet_step ((go_at_call 61; exact kept_call (HCf _).out)))
          refine wpQuiet_nil ?_
          intro w1 hk1
          have HK2 := Lib.hid (HK.out.trans hk1)
          clear hk1
          go_wp2_with fail
          go_ret
          exact ⟨ret_bool (by rw [HRR.out]; simp [HXT.out, HXS.out]), HK2.out⟩
      · have hb4 : (xs == N) = false := by simpa using hxs
        have HXS := Lib.hid hxs
        clear hxs
        cases z
        · have HCf := fun u => Lib.hid (containsR' N s t n m a3 a4 a5 a6 a7 a8 c3 c4 c5 c6 c7 c8 cb _ hc hs _ (HB.out.kept (kept_ext W0 u)) (HH.out.kept (kept_ext W0 u)) hm true HZ.out)
          refine wp_region_kept (by kernel_rfl) (by kernel_rfl) ?_
          repeat (go_big_quiet_step ((go_at_call 61; exact kept_call (HCf _).out)))
          refine wpQuiet_nil ?_
          intro w1 hk1
          have HK2 := Lib.hid (HK.out.trans hk1)
          clear hk1
          go_wp2_with fail
          go_ret
          exact ⟨ret_bool (by rw [HRR.out]; simp [HXT.out, HXS.out]), HK2.out⟩
        · have HCf := fun u => Lib.hid (containsR' N s t n m a3 a4 a5 a6 a7 a8 c3 c4 c5 c6 c7 c8 cb _ hc hs _ (HB.out.kept (kept_ext W0 u)) (HH.out.kept (kept_ext W0 u)) hm false HZ.out)
          refine wp_region_kept (by kernel_rfl) (by kernel_rfl) ?_
          repeat (go_big_quiet_step ((go_at_call 61; exact kept_call (HCf _).out)))
          refine wpQuiet_nil ?_
          intro w1 hk1
          have HK2 := Lib.hid (HK.out.trans hk1)
          clear hk1
          go_wp2_with fail
          go_ret
          exact ⟨ret_bool (by rw [HRR.out]; simp [HXT.out, HXS.out]), HK2.out⟩
    · have hb3 : (xt == 0) = false := by simpa using hxt
      have HXT := Lib.hid hxt
      clear hxt
      cases z
      · have HCf := fun u => Lib.hid (containsR' N s t n m a3 a4 a5 a6 a7 a8 c3 c4 c5 c6 c7 c8 cb _ hc hs _ (HB.out.kept (kept_ext W0 u)) (HH.out.kept (kept_ext W0 u)) hm true HZ.out)
        refine wp_region_kept (by kernel_rfl) (by kernel_rfl) ?_
        repeat (go_big_quiet_step ((go_at_call 61; exact kept_call (HCf _).out)))
        refine wpQuiet_nil ?_
        intro w1 hk1
        have HK2 := Lib.hid (HK.out.trans hk1)
        clear hk1
        go_wp2_with fail
        go_ret
        exact ⟨ret_bool (by rw [HRR.out]; simp [HXT.out]), HK2.out⟩
      · have HCf := fun u => Lib.hid (containsR' N s t n m a3 a4 a5 a6 a7 a8 c3 c4 c5 c6 c7 c8 cb _ hc hs _ (HB.out.kept (kept_ext W0 u)) (HH.out.kept (kept_ext W0 u)) hm false HZ.out)
        refine wp_region_kept (by kernel_rfl) (by kernel_rfl) ?_
        repeat (go_big_quiet_step ((go_at_call 61; exact kept_call (HCf _).out)))
        refine wpQuiet_nil ?_
        intro w1 hk1
        have HK2 := Lib.hid (HK.out.trans hk1)
        clear hk1
        go_wp2_with fail
        go_ret
        exact ⟨ret_bool (by rw [HRR.out]; simp [HXT.out]), HK2.out⟩
  · have hb1 : ((hs.length : Int) == N) = false := by simpa using hlen
    have HLEN := Lib.hid hlen
    clear hlen
    go_enter Try.func64, Try.ntmps64
    go_upto_region 2 with (fail)
    generalize (w.alloc (.cells #[.int .i64 N, .int .i64 s, .int .i64 t, .slice a3 (n + 1) c3, .slice a4 m c4, .slice a5 m c5, .slice a6 m c6, .slice a7 m c7, .slice a8 m c8] 32)) = W0 at HK HB HH ⊢
    generalize w.heap.size = cb at HB ⊢
    have cx := HB.out.cell
    refine wp_region_kept (by kernel_rfl) (by kernel_rfl) ?_
    repeat (go_big_quiet_step (fail))
    refine wpQuiet_nil ?_
    intro w1 hk1
    have HK := Lib.hid (HK.out.trans hk1)
    clear hk1
    go_wp2_with fail
    go_ret
    exact ⟨ret_bool (by rw [← HR.out]; simp [rightB, HLEN.out]), HK.out⟩
end Go.Proofs.Ytdhimfkmgcfohaa
