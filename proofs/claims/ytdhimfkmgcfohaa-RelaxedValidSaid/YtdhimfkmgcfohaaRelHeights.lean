/- relaxed.state.heights (printed by gen_relheights.py) -/
import Derived.Test.YtdhimfkmgcfohaaRelLegal2
import Derived.Deep.CutRange
import Derived.Deep.RegionHeld3
import Derived.Deep.MidRow
import Derived.Deep.Onto
namespace Go.Proofs.Ytdhimfkmgcfohaa
set_option linter.unusedVariables false
set_option linter.unusedSimpArgs false
open Go.RowKit
attribute [local go_sem] cell?_ext

def okH (N k : Int) : Bool := decide (0 ≤ k) && decide (k ≤ 2 * N)
theorem wrongH (N S T : Int) (n m : Nat) (a3 a4 a5 a6 a7 a8 : Option Addr) (c3 c4 c5 c6 c7 c8 : Nat) (ra : Option Addr) (rc : Nat) (ea : Option Addr) (ec : Nat) (za : Option Addr) (zc : Nat) (cb : Nat) (k : Int) (w : World) (hb : Blk w cb #[.int .i64 N, .int .i64 S, .int .i64 T, .slice a3 (n + 1) c3, .slice a4 m c4, .slice a5 m c5, .slice a6 m c6, .slice a7 m c7, .slice a8 m c8, .slice ra m rc, .slice ea n ec, .slice za n zc] 73) (hN : 0 ≤ N ∧ N ≤ 1000) :
    Calls Try.prog 60 #[.int .i64 k, .pointer (some ⟨cb, 0, none⟩)] w fun e w' => e = .returned (.bool (!(okH N k))) ∧ Kept w w' := by
  have cx := hb.cell
  unfold okH
  by_cases h1 : k < 0
  · go_enter Try.func60, Try.ntmps60
    go_wp2
    go_ret
    exact ⟨ret_bool (by simp [h1]), Upd.refl _ _⟩
  · have h0 : 0 ≤ k := by omega
    by_cases h2 : 2 * N < k
    · go_enter Try.func60, Try.ntmps60
      go_wp2
      go_ret
      exact ⟨ret_bool (by simp [h2]), Upd.refl _ _⟩
    · have h3 : k ≤ 2 * N := by omega
      go_enter Try.func60, Try.ntmps60
      go_wp2
      go_ret
      exact ⟨ret_bool (by simp [h0, h3]), Upd.refl _ _⟩
theorem indexH (N S T : Int) (n m : Nat) (a3 a4 a5 a6 a7 a8 : Option Addr) (c3 c4 c5 c6 c7 c8 : Nat) (ra : Option Addr) (rc : Nat) (ea : Option Addr) (ec : Nat) (za : Option Addr) (zc : Nat) (cb : Nat) (ha : Option Addr) (hc : Nat) (hs : List Int) (w : World) (hb : Blk w cb #[.int .i64 N, .int .i64 S, .int .i64 T, .slice a3 (n + 1) c3, .slice a4 m c4, .slice a5 m c5, .slice a6 m c6, .slice a7 m c7, .slice a8 m c8, .slice ra m rc, .slice ea n ec, .slice za n zc] 73) (hN : 0 ≤ N ∧ N ≤ 1000) (hh : Rd w ha (lv hs)) (hm : hs.length ≤ 9223372036854775807) :
    Calls Try.prog 73 #[.slice ha hs.length hc, .func (.func 60) #[] #[.pointer (some ⟨cb, 0, none⟩)]] w fun e w' => ∃ r : Int, e = .returned (.int .i64 r) ∧ decide (0 ≤ r) = !(hs.all (okH N)) ∧ Kept w w' := by
  have HX := Lib.hid hh
  have HS := Lib.hid hb
  clear hh hb
  go_enter Try.func73, Try.ntmps73
  go_wp2_with fail
  go_loopw [8] (fun i wr => ∃ k : Nat, i = .int .i64 k ∧ k ≤ hs.length ∧ Hid ((hs.take k).all (okH N) = true) ∧ Hid (Kept w wr)) (fun i _ => hs.length - (intOf i).toNat)
  case atStart => exact ⟨0, rfl, by omega, Lib.hid (by simp), Lib.hid (Upd.refl _ _)⟩
  case round =>
    obtain ⟨k, rfl, hk, HA, HK⟩ := hrel
    by_cases hlt : k < hs.length
    · have HC := Lib.hid (wrongH N S T n m a3 a4 a5 a6 a7 a8 c3 c4 c5 c6 c7 c8 ra rc ea ec za zc cb hs[k] wr (HS.out.kept HK.out) hN)
      obtain ⟨b, off, rfl, c0⟩ := (HX.out.kept HK.out).at k (by rw [lv_len]; exact hlt)
      rw [lv_at _ _ hlt] at c0
      obtain ⟨z, hz⟩ : ∃ z, okH N hs[k] = z := ⟨_, rfl⟩
      rw [hz] at HC
      have HZ : Hid ((hs.take (k + 1)).all (okH N) = z) := Lib.hid (by rw [List.take_succ_eq_append_getElem hlt, List.all_append, HA.out]; simp [hz])
      have HZ2 : Hid (z = false → hs.all (okH N) = false) := Lib.hid (by
        intro h0
        rw [List.all_eq_false]
        exact ⟨hs[k], List.getElem_mem _, by rw [hz, h0]; simp⟩)
      clear hz HA
      generalize hs[k] = x at c0 HC
      have j0 : (0 : Int) ≤ (k : Int) := by omega
      have j1 : (k : Int) < (hs.length : Int) := by omega
      cases z
      · simp only [Bool.not_false] at HC
        have HZ3 := Lib.hid (HZ2.out rfl)
        clear HZ2
        go_wp2_with fail
        refine HC.out.mono ?_
        rintro e w1 ⟨rfl, hk1⟩
        have HK2 := Lib.hid (HK.out.trans hk1)
        clear hk1 HC HK c0
        go_wp2_with fail
        go_ret
        exact ⟨k, rfl, by rw [HZ3.out]; simp, HK2.out⟩
      · simp only [Bool.not_true] at HC
        go_wp2_with fail
        refine HC.out.mono ?_
        rintro e w1 ⟨rfl, hk1⟩
        have HK2 := Lib.hid (HK.out.trans hk1)
        clear hk1 HC HK HZ2 c0
        go_wp2_with fail
        go_roundw
        case rel => exact ⟨k + 1, by go_num, by omega, HZ, HK2⟩
        case measure => simp [intOf]; omega
    · have HE : Hid (hs.all (okH N) = true) := Lib.hid (by have := HA.out; rwa [List.take_of_length_le (by omega)] at this)
      go_wp2_with fail
      go_ret
      exact ⟨-1, rfl, by rw [HE.out]; simp, HK.out⟩
theorem containsH (N S T : Int) (n m : Nat) (a3 a4 a5 a6 a7 a8 : Option Addr) (c3 c4 c5 c6 c7 c8 : Nat) (ra : Option Addr) (rc : Nat) (ea : Option Addr) (ec : Nat) (za : Option Addr) (zc : Nat) (cb : Nat) (ha : Option Addr) (hc : Nat) (hs : List Int) (w : World) (hb : Blk w cb #[.int .i64 N, .int .i64 S, .int .i64 T, .slice a3 (n + 1) c3, .slice a4 m c4, .slice a5 m c5, .slice a6 m c6, .slice a7 m c7, .slice a8 m c8, .slice ra m rc, .slice ea n ec, .slice za n zc] 73) (hN : 0 ≤ N ∧ N ≤ 1000) (hh : Rd w ha (lv hs)) (hm : hs.length ≤ 9223372036854775807) :
    Calls Try.prog 61 #[.slice ha hs.length hc, .func (.func 60) #[] #[.pointer (some ⟨cb, 0, none⟩)]] w fun e w' => e = .returned (.bool (!(hs.all (okH N)))) ∧ Kept w w' := by
  have H := Lib.hid (indexH N S T n m a3 a4 a5 a6 a7 a8 c3 c4 c5 c6 c7 c8 ra rc ea ec za zc cb ha hc hs w hb hN hh hm)
  clear hb hh
  go_enter Try.func61, Try.ntmps61
  go_wp2_with fail
  refine H.out.mono ?_
  rintro e w1 ⟨r, rfl, hr, hk1⟩
  have HR := Lib.hid hr
  have HK := Lib.hid hk1
  clear hr hk1
  go_wp2
  go_ret
  exact ⟨ret_bool HR.out, HK.out⟩
theorem containsH' (N S T : Int) (n m : Nat) (a3 a4 a5 a6 a7 a8 : Option Addr) (c3 c4 c5 c6 c7 c8 : Nat) (ra : Option Addr) (rc : Nat) (ea : Option Addr) (ec : Nat) (za : Option Addr) (zc : Nat) (cb : Nat) (ha : Option Addr) (hc : Nat) (hs : List Int) (w : World) (hb : Blk w cb #[.int .i64 N, .int .i64 S, .int .i64 T, .slice a3 (n + 1) c3, .slice a4 m c4, .slice a5 m c5, .slice a6 m c6, .slice a7 m c7, .slice a8 m c8, .slice ra m rc, .slice ea n ec, .slice za n zc] 73) (hN : 0 ≤ N ∧ N ≤ 1000) (hh : Rd w ha (lv hs)) (hm : hs.length ≤ 9223372036854775807) (y : Bool) (hy : hs.all (okH N) = !y) :
    Calls Try.prog 61 #[.slice ha hs.length hc, .func (.func 60) #[] #[.pointer (some ⟨cb, 0, none⟩)]] w fun e w' => e = .returned (.bool y) ∧ Kept w w' := by
  have h := containsH N S T n m a3 a4 a5 a6 a7 a8 c3 c4 c5 c6 c7 c8 ra rc ea ec za zc cb ha hc hs w hb hN hh hm
  rw [hy, Bool.not_not] at h
  exact h
def heightsB (N S T : Int) (hs : List Int) : Bool := hs.all (okH N) && decide (hs.getD S.toNat 0 = N) && decide (hs.getD T.toNat 0 = 0)
set_option maxRecDepth 100000 in
set_option maxHeartbeats 4000000 in
theorem heights_any (N S T : Int) (n m : Nat) (a3 a4 a5 a6 a7 a8 : Option Addr) (c3 c4 c5 c6 c7 c8 : Nat) (ys : List Ar) (p : PS) (ra : Option Addr) (rc : Nat) (ea : Option Addr) (ec : Nat) (za : Option Addr) (zc : Nat) (w : World) (hg : Gr N S T n m ys) (hcr : CsrR w n ys a3 a4 a5 a6 a7 a8) (hok : p.ok n m) (hr : Rd w ra (lv p.rs)) (he : Rd w ea (lv p.es)) (hz : Rd w za (lv p.hs)) :
    Calls Try.prog 32 #[.agg #[.int .i64 N, .int .i64 S, .int .i64 T, .slice a3 (n + 1) c3, .slice a4 m c4, .slice a5 m c5, .slice a6 m c6, .slice a7 m c7, .slice a8 m c8, .slice ra m rc, .slice ea n ec, .slice za n zc]] w fun e w' => e = .returned (.bool (heightsB N S T p.hs)) ∧ Kept w w' := by
  obtain ⟨hnN, -, hn16, -, hS0, hS1, hT0, hT1, -⟩ := hg.len
  have hzl : p.hs.length = n := hok.2.2
  have HK := Lib.hid ((Upd.refl (fun _ => False) w).alloc (.cells #[.int .i64 N, .int .i64 S, .int .i64 T, .slice a3 (n + 1) c3, .slice a4 m c4, .slice a5 m c5, .slice a6 m c6, .slice a7 m c7, .slice a8 m c8, .slice ra m rc, .slice ea n ec, .slice za n zc] 73))
  have HB := Lib.hid (Blk.new w #[.int .i64 N, .int .i64 S, .int .i64 T, .slice a3 (n + 1) c3, .slice a4 m c4, .slice a5 m c5, .slice a6 m c6, .slice a7 m c7, .slice a8 m c8, .slice ra m rc, .slice ea n ec, .slice za n zc] 73)
  have HZ := Lib.hid (hz.kept HK.out)
  obtain ⟨V, hV⟩ : ∃ V, heightsB N S T p.hs = V := ⟨_, rfl⟩
  rw [hV]
  obtain ⟨z, hzz⟩ : ∃ z, p.hs.all (okH N) = z := ⟨_, rfl⟩
  obtain ⟨zb, zo, e4, d1⟩ := HZ.out.num (i := S.toNat) (by omega)
  obtain ⟨zb', zo', e4', d2⟩ := HZ.out.num (i := T.toNat) (by omega)
  rw [e4] at e4'
  cases e4'
  have HV : Hid (V = (z && decide (p.hs.getD S.toNat 0 = N) && decide (p.hs.getD T.toNat 0 = 0))) := Lib.hid (by rw [← hV, ← hzz]; rfl)
  have hCon := fun W (k : Kept w W) (hB : Blk W w.heap.size #[.int .i64 N, .int .i64 S, .int .i64 T, .slice a3 (n + 1) c3, .slice a4 m c4, .slice a5 m c5, .slice a6 m c6, .slice a7 m c7, .slice a8 m c8, .slice ra m rc, .slice ea n ec, .slice za n zc] 73) => containsH' N S T n m a3 a4 a5 a6 a7 a8 c3 c4 c5 c6 c7 c8 ra rc ea ec za zc w.heap.size za zc p.hs W hB ⟨by omega, by omega⟩ (hz.kept k) (by omega) (!z) (by rw [hzz]; simp)
  rw [hzl] at hCon
  obtain ⟨xs, hxs⟩ : ∃ x, p.hs.getD S.toNat 0 = x := ⟨_, rfl⟩
  obtain ⟨xt, hxt⟩ : ∃ x, p.hs.getD T.toNat 0 = x := ⟨_, rfl⟩
  rw [hxs] at d1
  rw [hxt] at d2
  rw [hxs, hxt] at HV
  have HE4 := Lib.hid e4
  have i1 : S < (n : Int) := by omega
  have i2 : T < (n : Int) := by omega
  obtain ⟨s, rfl⟩ : ∃ s : Nat, S = (s : Int) := ⟨S.toNat, by omega⟩
  obtain ⟨t, rfl⟩ : ∃ t : Nat, T = (t : Int) := ⟨T.toNat, by omega⟩
  simp only [Int.toNat_natCast] at d1 d2
  clear hg hcr hok hr he hz hV hzz hxs hxt e4 hnN hn16 hS1 hT1 hzl HZ
  go_enter Try.func32, Try.ntmps32
  go_upto_region 2 with (fail)
  generalize (w.alloc (.cells #[.int .i64 N, .int .i64 (s : Int), .int .i64 (t : Int), .slice a3 (n + 1) c3, .slice a4 m c4, .slice a5 m c5, .slice a6 m c6, .slice a7 m c7, .slice a8 m c8, .slice ra m rc, .slice ea n ec, .slice za n zc] 73)) = W0 at HK HB d1 d2 ⊢
  generalize w.heap.size = cb at HB hCon ⊢
  have HCf := fun u => Lib.hid (hCon (ext W0 u) (HK.out.trans (kept_ext W0 u)) (HB.out.kept (kept_ext W0 u)))
  have bx := HB.out.cell
  rw [HE4.out] at bx
  rw [HE4.out] at HCf
  cases z
  · as_aux_lemma =>
    have HZF : Hid (V = false) := Lib.hid (by rw [HV.out]; simp)
    simp only [Bool.not_false] at HCf
    refine wp_region_kept (by kernel_rfl) (by kernel_rfl) ?_
    repeat (go_big_quiet_step ((go_at_call 61; exact kept_call (HCf _).out)))
    refine wpQuiet_nil ?_
    intro w1 hk1
    have HK2 := Lib.hid (HK.out.trans hk1)
    clear hk1
    go_wp2_with fail
    go_ret
    exact ⟨by rw [HZF.out]; rfl, HK2.out⟩
  · simp only [Bool.not_true] at HCf
    by_cases q1 : xs = N
    · have b1 : (xs == N) = true := by simpa using q1
      by_cases q2 : xt = 0
      · have b2 : (xt == 0) = true := by simpa using q2
        as_aux_lemma =>
        have HZF : Hid (V = true) := Lib.hid (by rw [HV.out]; simp [q1, q2])
        clear q1 q2
        refine wp_region_kept (by kernel_rfl) (by kernel_rfl) ?_
        repeat (go_big_quiet_step ((go_at_call 61; exact kept_call (HCf _).out)))
        refine wpQuiet_nil ?_
        intro w1 hk1
        have HK2 := Lib.hid (HK.out.trans hk1)
        clear hk1
        go_wp2_with fail
        go_ret
        exact ⟨by rw [HZF.out]; rfl, HK2.out⟩
      · have b2 : (xt == 0) = false := by simpa using q2
        as_aux_lemma =>
        have HZF : Hid (V = false) := Lib.hid (by rw [HV.out]; simp [q2])
        clear q1 q2
        refine wp_region_kept (by kernel_rfl) (by kernel_rfl) ?_
        repeat (go_big_quiet_step ((go_at_call 61; exact kept_call (HCf _).out)))
        refine wpQuiet_nil ?_
        intro w1 hk1
        have HK2 := Lib.hid (HK.out.trans hk1)
        clear hk1
        go_wp2_with fail
        go_ret
        exact ⟨by rw [HZF.out]; rfl, HK2.out⟩
    · have b1 : (xs == N) = false := by simpa using q1
      as_aux_lemma =>
      have HZF : Hid (V = false) := Lib.hid (by rw [HV.out]; simp [q1])
      clear q1
      refine wp_region_kept (by kernel_rfl) (by kernel_rfl) ?_
      repeat (go_big_quiet_step ((go_at_call 61; exact kept_call (HCf _).out)))
      refine wpQuiet_nil ?_
      intro w1 hk1
      have HK2 := Lib.hid (HK.out.trans hk1)
      clear hk1
      go_wp2_with fail
      go_ret
      exact ⟨by rw [HZF.out]; rfl, HK2.out⟩
end Go.Proofs.Ytdhimfkmgcfohaa
