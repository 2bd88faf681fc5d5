/- The law DistWay (printed by gen_lawway.py). -/
import Derived.Test.YtoapekkmaajfmaaAwake05
import Derived.Test.YtoapekkmaajfmaaWay
import Derived.Test.YtoapekkmaajfmaaSomeNet
import Derived.Test.YtoapekkmaajfmaaRowsRd
import Derived.Deep.CutRange
namespace Go.Proofs.Ytoapekkmaajfmaa
set_option linter.unusedVariables false
set_option linter.unusedSimpArgs false
open Go.RowKit
attribute [local go_sem] cell?_ext

set_option maxRecDepth 100000 in
set_option maxHeartbeats 4000000 in
theorem distWay_core (N0 S0 T0 : Int) (a : Option Addr) (k0 cap : Nat) (ys0 : List Ar) (la : Option Addr) (lc : Nat) (ls : List Int) (x1 x2 : Int) (w : World)
    (h : Ars w a ys0) (hk0 : ys0.length = k0) (hle : k0 ≤ cap) (hmost : cap ≤ 9223372036854775807) (hwf : ∀ x ∈ ys0, -9223372036854775808 ≤ x.c ∧ x.c ≤ 9223372036854775807)
    (hl : Rd w la (lv ls)) (hli : ∀ x ∈ ls, -9223372036854775808 ≤ x ∧ x ≤ 9223372036854775807) (hll : ls.length ≤ 9223372036854775807)
    (ha0 : 0 ≤ x1 ∧ x1 ≤ 255) (ha1 : 0 ≤ x2 ∧ x2 ≤ 255) :
    Calls Try.prog 8 #[.agg #[.int .i64 N0, .int .i64 S0, .int .i64 T0, .slice a k0 cap], .slice la ls.length lc, .int .u8 x1, .int .u8 x2] w fun e w' => e = .returned (.bool true) ∧ Kept w w' := by
  have HS : ∀ (w : World), Ars w a ys0 → Hid (Calls Try.prog 10 #[.agg #[.int .i64 N0, .int .i64 S0, .int .i64 T0, .slice a k0 cap], .int .i64 16, .int .i64 40] w (NetIs w)) := by
    intro w h
    subst hk0
    exact Lib.hid (Some_any N0 S0 T0 a cap ys0 w h hle hmost hwf)
  have HX := Lib.hid (h.kept ((Upd.refl (fun _ => False) w).alloc (.cells #[.int .i64 N0, .int .i64 S0, .int .i64 T0, .slice a k0 cap] 24)))
  have HK := Lib.hid ((Upd.refl (fun _ => False) w).alloc (.cells #[.int .i64 N0, .int .i64 S0, .int .i64 T0, .slice a k0 cap] 24))
  have HL := Lib.hid hl
  have HLI := Lib.hid hli
  clear h hl hli hle hmost hwf
  go_enter Try.func8, Try.ntmps8
  go_wp2_with fail
  refine (HS _ HX.out).out.mono ?_
  rintro e w1 ⟨N, S, T, a', cap', ys, rfl, hok, hown, hk1⟩
  have HK1 := Lib.hid (HK.out.trans hk1)
  have HOK := Lib.hid hok
  have HA : Hid (Ars w1 a' ys) := Lib.hid hown.at.2
  clear hk1 hok hown HS HX HK
  have HLE := fun (w : World) (h : Ars w a' ys) (hl : Rd w la (lv ls)) => Lib.hid (Left_ok N S T a' cap' ys la lc ls w h HOK.out hl HLI.out hll)
  go_wp2_with fail
  refine (HLE _ HA.out (HL.out.kept HK1.out)).out.mono ?_
  rintro e w2 ⟨B, n, m, a3, c3, a4, c4, a5, c5, a6, c6, a7, c7, a8, c8, ra, rc, rfl, hn, hm2, hcr, -, hk2, -, hro⟩
  have HG : Hid (Gr N S T n m ys) := Lib.hid ⟨HOK.out, hn, hm2⟩
  obtain ⟨rs, hrs⟩ : ∃ rs, resAll (wths ls ys) n ys = rs := ⟨_, rfl⟩
  have HRM : Hid (rs.length = m) := Lib.hid (by rw [← hrs, resAll_len]; exact hm2)
  have HRI : Hid (∀ x ∈ rs, 0 ≤ x ∧ x < 1125899906842624) := Lib.hid (by rw [← hrs]; exact left_in HG.out HLI.out)
  rw [hrs] at hro
  have HRC : Hid (m ≤ rc) := Lib.hid (row_cap' hro)
  have HSO : Hid ((∃ ad, ra = some ad) ∨ (ra = none ∧ m = 0 ∧ rc = 0)) := Lib.hid (someOr_row hro)
  obtain ⟨ra', rc', e9, hrr⟩ := Rd.owns hro
  cases e9
  have hA := (Upd.refl (fun _ => False) w2).alloc (.cells #[.int .i64 N, .int .i64 S, .int .i64 T, .slice a3 (n + 1) c3, .slice a4 m c4, .slice a5 m c5, .slice a6 m c6, .slice a7 m c7, .slice a8 m c8] 29)
  have HK0 := Lib.hid ((HK1.out.trans hk2).trans hA)
  have HGF : Hid (GF N S T n m a3 a4 a5 a6 a7 a8 c3 c4 c5 c6 c7 c8 ys w2.heap.size ra rs (w2.alloc (.cells #[.int .i64 N, .int .i64 S, .int .i64 T, .slice a3 (n + 1) c3, .slice a4 m c4, .slice a5 m c5, .slice a6 m c6, .slice a7 m c7, .slice a8 m c8] 29))) := Lib.hid ⟨Blk.new _ _ _, hcr.kept hA, hrr.kept hA⟩
  clear hn hm2 hcr hk2 hro hrr hrs hA HLE HA HOK HK1 HL HLI hll
  clear hk0
  go_upto_region 2 with (fail)
  generalize (w2.alloc (.cells #[.int .i64 N, .int .i64 S, .int .i64 T, .slice a3 (n + 1) c3, .slice a4 m c4, .slice a5 m c5, .slice a6 m c6, .slice a7 m c7, .slice a8 m c8] 29)) = wB at HGF HK0 ⊢
  generalize w2.heap.size = cb at HGF ⊢
  have HK1 : Hid (Kept wB wB) := Lib.hid (Upd.refl _ _)
  obtain ⟨hnN, hn2, hn16, hm6, -⟩ := HG.out.len
  subst hnN
  obtain ⟨s, hs⟩ : ∃ s : Nat, x1 % (n : Int) = (s : Int) := ⟨(x1 % n).toNat, by have := Int.emod_nonneg x1 (show (n : Int) ≠ 0 by omega); omega⟩
  have sn : s < n := by have := Int.emod_lt_of_pos x1 (show (0 : Int) < n by omega); omega
  have sm : x1.tmod (n : Int) = (s : Int) := by rw [Int.tmod_eq_emod_of_nonneg ha0.1]; exact hs
  have sw : IntKind.i64.wrap x1 = x1 := by rw [IntKind.wrap_i64]; omega
  have sv : IntKind.i64.wrap (s : Int) = (s : Int) := by rw [IntKind.wrap_i64]; omega
  obtain ⟨t, ht⟩ : ∃ t : Nat, x2 % (n : Int) = (t : Int) := ⟨(x2 % n).toNat, by have := Int.emod_nonneg x2 (show (n : Int) ≠ 0 by omega); omega⟩
  have tn : t < n := by have := Int.emod_lt_of_pos x2 (show (0 : Int) < n by omega); omega
  have tm : x2.tmod (n : Int) = (t : Int) := by rw [Int.tmod_eq_emod_of_nonneg ha1.1]; exact ht
  have tw : IntKind.i64.wrap x2 = x2 := by rw [IntKind.wrap_i64]; omega
  have tv : IntKind.i64.wrap (t : Int) = (t : Int) := by rw [IntKind.wrap_i64]; omega
  have hn0 : ¬ (n : Int) = 0 := by omega
  have hnb : ((n : Int) == 0) = false := by simpa using hn0
  have hn4 : ¬ n = 0 := by omega
  have bx := HGF.out.box.cell
  refine wp_region_kept (by kernel_rfl) (by kernel_rfl) ?_
  repeat (go_big_quiet_step (fail))
  refine wpQuiet_nil ?_
  intro wC hkC
  have HKC : Hid (Kept wB wC) := Lib.hid hkC
  clear hkC bx hn0 hnb hn4 sm sw sv tm tw tv hs ht ha0 ha1
  have W1 := fun (w : World) (k : Kept wC w) => Lib.hid (way_ok (n : Int) S T n m a3 a4 a5 a6 a7 a8 c3 c4 c5 c6 c7 c8 ys ra rc rs s t w HG.out (HGF.out.kept (HKC.out.trans k)).cr (HGF.out.kept (HKC.out.trans k)).rs HRM.out sn tn)
  have T1 := fun (w : World) (k : Kept wC w) => Lib.hid (to_ok (n : Int) S T n m a3 a4 a5 a6 a7 a8 c3 c4 c5 c6 c7 c8 ys ra rc rs t w HG.out (HGF.out.kept (HKC.out.trans k)).cr (HGF.out.kept (HKC.out.trans k)).rs HRM.out tn)
  have bx := (HGF.out.kept HKC.out).box.cell
  go_wp2_with fail
  refine (W1 _ (Upd.refl _ _)).out.mono ?_
  rintro e w3 ⟨d, ws, wa, k, wcp, z, rfl, hwl, hrw, hd, hz0, hz1, hk3⟩
  have HWL := Lib.hid hwl
  have HRW0 := Lib.hid hrw
  have I0 := Lib.hid hd
  have HZ0 := Lib.hid hz0
  have HZ1 := Lib.hid hz1
  have K3 := Lib.hid hk3
  clear hwl hrw hd hz0 hz1 hk3 bx W1
  have bx := (HGF.out.kept (HKC.out.trans K3.out)).box.cell
  go_wp2_with fail
  refine (T1 _ K3.out).out.mono ?_
  rintro e w4 ⟨db, D, rfl, hb, -, hd, hk4⟩
  obtain rfl : D = d := hd.one I0.out
  have K4 := Lib.hid (K3.out.trans hk4)
  have HRW := Lib.hid (HRW0.out.kept hk4)
  have HDL : D.length = n := I0.out.len
  have dc : w4.cell? ⟨db, s, none⟩ = some (.int .i64 (D.getD s 0 : Nat)) := by rw [hb.cell]; simp only [List.getElem?_toArray]; exact nv_get (by rw [HDL]; exact sn)
  obtain ⟨y, hy⟩ : ∃ y, D.getD s 0 = y := ⟨_, rfl⟩
  rw [hy] at dc
  have HY := Lib.hid hy
  have hnn : ((n : Int) != (n : Int)) = false := by simp
  have a1 : (0 : Int) ≤ (s : Int) := by omega
  have a2 : (s : Int) < (n : Int) := by omega
  clear hb hd hk4 T1 bx HRW0 K3 HDL hy
  cases z with
  | false =>
    obtain ⟨hk0, hyn⟩ := HZ0.out rfl
    rw [HY.out] at hyn
    have z1 : decide ((y : Int) < (n : Int)) = false := by simp; omega
    have z2 : ¬ y < n := by omega
    subst hk0
    clear hyn
    have bx := (HGF.out.kept (HKC.out.trans K4.out)).box.cell
    go_upto_region 5 with (fail)
    refine wp_region_kept (by kernel_rfl) (by kernel_rfl) ?_
    repeat (go_big_quiet_step (fail))
    refine wpQuiet_nil ?_
    intro w1 hk1
    have K5 := Lib.hid (K4.out.trans hk1)
    have W5 := Lib.hid (HRW.out.kept hk1)
    clear hk1 bx dc K4 HRW
    go_upto_region 9 with (fail)
    go_loopw [16, 90] (fun ux ix wr => ∃ (i u : Nat), ux = .int .i64 u ∧ ix = .int .i64 i ∧ i ≤ 0 ∧ Hid (atOf n ys s ws i = u) ∧ Hid (Kept w1 wr)) (fun _ ix _ => 0 - (intOf ix).toNat)
    case atStart => exact ⟨0, s, rfl, rfl, by omega, Lib.hid rfl, Lib.hid (Upd.refl _ _)⟩
    case round =>
      obtain ⟨i, u, rfl, rfl, hi, HU, HK⟩ := hrel
      have bx := (HGF.out.kept (HKC.out.trans (K5.out.trans HK.out))).box.cell
      by_cases hlt : i < 0
      · omega
      · have i2 : ¬ (i : Int) < (0 : Int) := by omega
        have i3 : ¬ i < 0 := hlt
        have HAW := fun (w : World) => Lib.hid (awake5_any w)
        go_wp2_with fail
        refine (HAW _).out.mono ?_
        rintro e w9 ⟨rfl, hk9⟩
        go_wp2_with fail
        go_ret
        exact ⟨rfl, HK0.out.trans (HKC.out.trans (K5.out.trans (HK.out.trans hk9)))⟩
  | true =>
    obtain ⟨hyn, hky, hws⟩ := HZ1.out rfl
    rw [HY.out] at hyn hky
    have HWS := Lib.hid hws
    have z1 : decide ((y : Int) < (n : Int)) = true := by simpa using hyn
    have z3 : ((k : Int) != (y : Int)) = false := by simp [hky]
    have hk16 : k ≤ 16 := by omega
    clear hky hws
    have bx := (HGF.out.kept (HKC.out.trans K4.out)).box.cell
    go_upto_region 5 with (fail)
    refine wp_region_kept (by kernel_rfl) (by kernel_rfl) ?_
    repeat (go_big_quiet_step (fail))
    refine wpQuiet_nil ?_
    intro w1 hk1
    have K5 := Lib.hid (K4.out.trans hk1)
    have W5 := Lib.hid (HRW.out.kept hk1)
    clear hk1 bx dc K4 HRW
    go_upto_region 9 with (fail)
    go_loopw [16, 90] (fun ux ix wr => ∃ (i u : Nat), ux = .int .i64 u ∧ ix = .int .i64 i ∧ i ≤ k ∧ Hid (atOf n ys s ws i = u) ∧ Hid (Kept w1 wr)) (fun _ ix _ => k - (intOf ix).toNat)
    case atStart => exact ⟨0, s, rfl, rfl, by omega, Lib.hid rfl, Lib.hid (Upd.refl _ _)⟩
    case round =>
      obtain ⟨i, u, rfl, rfl, hi, HU, HK⟩ := hrel
      have bx := (HGF.out.kept (HKC.out.trans (K5.out.trans HK.out))).box.cell
      by_cases hlt : i < k
      · obtain ⟨wb, wo, rfl, xc⟩ := (W5.out.kept HK.out).at i (by rw [nv_len, HWL.out]; exact hlt)
        rw [nv_get (by rw [HWL.out]; exact hlt)] at xc
        obtain ⟨x, hx⟩ : ∃ x, ws.getD i 0 = x := ⟨_, rfl⟩
        obtain ⟨g1, g2, g3⟩ := HWS.out.arc i (by rw [HWL.out]; exact hlt)
        rw [HU.out] at g3
        rw [hx] at xc g1 g2 g3
        have HT := fun (w : World) (k : Kept wB w) => Lib.hid (tail_any (n : Int) S T n m a3 a4 a5 a6 a7 a8 c3 c4 c5 c6 c7 c8 ys x w HG.out (HGF.out.kept k).cr.r3 g1)
        rw [g3] at HT
        obtain ⟨v, hv0⟩ : ∃ v, hd n ys x = v := ⟨_, rfl⟩
        have HU2 : Hid (atOf n ys s ws (i + 1) = v) := Lib.hid (by show hd n ys (ws.getD i 0) = v; rw [hx]; exact hv0)
        have i2 : (i : Int) < (k : Int) := by omega
        have i1 : (0 : Int) ≤ (i : Int) := by omega
        have i4 : (0 : Int) ≤ (x : Int) := by omega
        have i5 : (x : Int) < (m : Int) := by omega
        have i6 : ((u : Int) != (u : Int)) = false := by simp
        have i7 : (i : Int) ≤ 16 := by omega
        go_wp2_with fail
        refine (HT _ (HKC.out.trans (K5.out.trans HK.out))).out.mono ?_
        rintro e w6 ⟨rfl, hk6⟩
        have HK6 := Lib.hid (HK.out.trans hk6)
        obtain ⟨b6, o6, rfl, rc0⟩ := (HGF.out.kept (HKC.out.trans (K5.out.trans HK6.out))).rs.num (i := x) (by rw [HRM.out]; exact g1)
        obtain ⟨b4, o4, rfl, hc4⟩ := (HGF.out.kept (HKC.out.trans (K5.out.trans HK6.out))).cr.r4.at x (by rw [show (hv (enAll n ys)).length = (enAll n ys).length by simp [hv], HG.out.hm]; exact g1)
        rw [(hd_get HG.out x g1).1, hv0] at hc4
        have bx := (HGF.out.kept (HKC.out.trans (K5.out.trans HK6.out))).box.cell
        obtain ⟨r, hr⟩ : ∃ r, rs.getD x 0 = r := ⟨_, rfl⟩
        rw [hr] at rc0 g2
        have i8 : ¬ r ≤ 0 := by omega
        have i9 : decide (r ≤ 0) = false := decide_eq_false i8
        clear hx g2 g3 hv0 hk6 hr HT xc HK HU
        go_wp2_with fail
        go_roundw
        case rel => exact ⟨i + 1, v, rfl, by go_num, by omega, HU2, HK6⟩
        case measure => simp [intOf]; omega
      · have i2 : ¬ (i : Int) < (k : Int) := by omega
        have i3 : ¬ i < k := hlt
        have HUT : u = t := by
          have h1 := HU.out
          rw [show i = ws.length by rw [HWL.out]; omega, HWS.out.end_] at h1
          exact h1.symm
        have i4 : ((u : Int) == (t : Int)) = true := by simp [HUT]
        clear HUT
        have HAW := fun (w : World) => Lib.hid (awake5_any w)
        go_wp2_with fail
        refine (HAW _).out.mono ?_
        rintro e w9 ⟨rfl, hk9⟩
        go_wp2_with fail
        go_ret
        exact ⟨rfl, HK0.out.trans (HKC.out.trans (K5.out.trans (HK.out.trans hk9)))⟩
theorem distWay_walk (N S T : Int) (a : Option Addr) (cap : Nat) (els : List (List Value)) (s1 : Option Addr) (cap1 : Nat) (z1 : List Int) (x1 x2 : Int) (w : World) (_wN : (Lit.int .i64 N).wf = true) (_wS : (Lit.int .i64 S).wf = true) (_wT : (Lit.int .i64 T).wf = true) (hrow : FlatRow [some .i64, some .i64, some .i64] w a cap els) (_hf : ∀ x ∈ els, fits [some .i64, some .i64, some .i64] x)
    (w1 : IntRow .i64 w s1 cap1 z1) (m1 : ∀ n ∈ z1, (Lit.int .i64 n).wf = true) (wa : (Lit.int .u8 x1).wf = true) (wb : (Lit.int .u8 x2).wf = true) :
    Calls Try.prog 8 #[.agg #[.int .i64 N, .int .i64 S, .int .i64 T, .slice a els.length cap], .slice s1 z1.length cap1, .int .u8 x1, .int .u8 x2] w fun e w' => e = .returned (.bool true) ∧ Kept w w' := by
  obtain ⟨xs, hl, hA, hx⟩ := ars_of_flat hrow
  have hle := hrow.le
  have hmo := hrow.most
  have l1 := w1.le
  have l1' := w1.most
  unfold maxLen at hmo l1'
  exact distWay_core N S T a els.length cap xs s1 cap1 z1 x1 x2 w hA hl hle hmo (fun x hx0 => bounds_i64 (hx x hx0).2.2) w1.rd (fun x hx0 => bounds_i64 (m1 x hx0)) (by omega) (bounds_u8 wa) (bounds_u8 wb)
end Go.Proofs.Ytoapekkmaajfmaa
