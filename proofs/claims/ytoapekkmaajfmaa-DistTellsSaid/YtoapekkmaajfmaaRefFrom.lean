/- acequiaref05.From (printed by gen_refdist.py). -/
import Derived.Test.YtoapekkmaajfmaaRelax
import Derived.Test.YtoapekkmaajfmaaRefTo
import Derived.Test.YtoapekkmaajfmaaQuietTail
import Derived.Test.YtoapekkmaajfmaaPush
import Derived.Deep.CutRange
namespace Go.Proofs.Ytoapekkmaajfmaa
set_option linter.unusedVariables false
set_option linter.unusedSimpArgs false
open Go.RowKit
attribute [local go_sem] cell?_ext

set_option maxHeartbeats 8000000 in
theorem refFrom0_ok (N S T : Int) (n m : Nat) (a3 a4 a5 a6 a7 a8 : Option Addr) (c3 c4 c5 c6 c7 c8 : Nat) (ys : List Ar) (ra : Option Addr) (rc : Nat) (rs : List Int) (t : Nat) (w : World) (hg : Gr N S T n m ys) (hcr : CsrR w n ys a3 a4 a5 a6 a7 a8) (hr : Rd w ra (lv rs)) (hm : rs.length = m) (ht : t < n) :
    Calls Try.prog 19 #[.agg #[.int .i64 N, .int .i64 S, .int .i64 T, .slice a3 (n + 1) c3, .slice a4 m c4, .slice a5 m c5, .slice a6 m c6, .slice a7 m c7, .slice a8 m c8], .slice ra m rc, .int .i64 t] w (RefD n t (rlE n m ys rs false) w) := by
  have HK := Lib.hid ((Upd.refl (fun _ => False) w).alloc (.cells #[.int .i64 N, .int .i64 S, .int .i64 T, .slice a3 (n + 1) c3, .slice a4 m c4, .slice a5 m c5, .slice a6 m c6, .slice a7 m c7, .slice a8 m c8] 29))
  have HB := Lib.hid (Blk.new w #[.int .i64 N, .int .i64 S, .int .i64 T, .slice a3 (n + 1) c3, .slice a4 m c4, .slice a5 m c5, .slice a6 m c6, .slice a7 m c7, .slice a8 m c8] 29)
  obtain ⟨hnN, hn2, hn16, hm6, -⟩ := hg.len
  have HG := Lib.hid hg
  have HCR := Lib.hid hcr
  have HRR := Lib.hid hr
  have HRM := Lib.hid hm
  clear hg hcr hr hm
  subst hnN
  obtain ⟨b3, o3, e3, -⟩ := HCR.out.r3.at 0 (by rw [nv_len, firsts_len]; omega)
  subst e3
  have HF1 : Hid (∀ u, u < n → ∀ w', Kept w w' → w'.cell? ⟨b3, o3 + u, none⟩ = some (.int .i64 (fst ys u : Nat)) ∧ w'.cell? ⟨b3, o3 + (u + 1), none⟩ = some (.int .i64 (fst ys (u + 1) : Nat))) := Lib.hid (fun u hu w' k => by
    obtain ⟨b, o, e, h1⟩ := (HCR.out.kept k).r3.at u (by rw [nv_len, firsts_len]; omega)
    obtain ⟨b', o', e', h2⟩ := (HCR.out.kept k).r3.at (u + 1) (by rw [nv_len, firsts_len]; omega)
    cases e
    cases e'
    rw [firsts_get n ys _ (by omega)] at h1 h2
    exact ⟨h1, h2⟩)
  have HFM : Hid (fst ys n = m) := Lib.hid HG.out.hm
  have e1 : ((m : Int) != (m : Int)) = false := by simp
  have e2 : decide ((t : Int) < 0) = false := by simp
  have e3 : decide ((n : Int) ≤ (t : Int)) = false := by simp; omega
  have e4 : decide (n ≤ t) = false := by simp; omega
  go_enter Try.func19, Try.ntmps19
  go_upto_region 1 with (fail)
  generalize (w.alloc (.cells #[.int .i64 n, .int .i64 S, .int .i64 T, .slice (some ⟨b3, o3, none⟩) (n + 1) c3, .slice a4 m c4, .slice a5 m c5, .slice a6 m c6, .slice a7 m c7, .slice a8 m c8] 29)) = W0 at HK HB ⊢
  generalize w.heap.size = cb at HB ⊢
  have bx := HB.out.cell
  go_upto_region 5 with (fail)
  clear bx e1 e2 e3 e4
  go_loopw [7, 8] (fun ox vx wr => ∃ (v c : Nat) (a : Option Addr), ox = .slice a v c ∧ vx = .int .i64 v ∧ v ≤ n ∧ Hid (Kept W0 wr) ∧ Hid (wr.ownsRow W0.heap.size 3 1 (.slice a v c) v (nv (List.replicate v n)))) (fun _ vx _ => n - (intOf vx).toNat)
  case atStart => exact ⟨0, 0, none, rfl, rfl, by omega, Lib.hid (Upd.refl _ _), Lib.hid (World.ownsRow_nil W0 W0.heap.size 3 1)⟩
  case round =>
    obtain ⟨v, c, a, rfl, rfl, hvn, HKK, HRW⟩ := hrel
    have bx := (HB.out.kept HKK.out).cell
    by_cases hv : v < n
    · have j0 : (v : Int) < (n : Int) := by omega
      have hv16 : (v : Int) ≤ 1000 := by omega
      obtain ⟨i0', hi0, hz0, hz1, hz2⟩ := info_parts infoInt
      have hxl : v ≤ 2000000 := by omega
      have hbs := HKK.out.size
      have ho := HRW.out
      clear HRW
      go_upto_region 6 with (first | (at_builtin; refine wpList_push rfl _ _ 27 rfl W0.heap.size 3 i0' (.int .i64 0) 8 Try.underlying27 hi0 hz0 hz1 hz2 rfl (by decide) _ _ _ rfl ho (.int .i64 (n : Int)) rfl rfl hxl hbs ?_; intro g cap' w5 hown hg2; clear hi0 hz0 hz1 hz2 hxl hbs; have HK6 := Lib.hid (hg2.kept HKK.out ho (Nat.le_refl _)); have HR6 := Lib.hid hown; clear hown hg2 ho HKK) | fail)
      clear bx
      go_wp2_with fail
      go_roundw
      case rel => exact ⟨v + 1, _, _, rfl, by go_num, by omega, HK6, Lib.hid (by rw [show nv (List.replicate (v + 1) n) = nv (List.replicate v n) ++ [.int .i64 (n : Int)] by simp [nv, List.replicate_succ']]; exact HR6.out)⟩
      case measure => simp [intOf]; omega
    · have j0 : ¬ (v : Int) < (n : Int) := by omega
      obtain rfl : v = n := by omega
      have HLO : Hid (w.heap.size ≤ W0.heap.size) := Lib.hid HK.out.size
      obtain ⟨g, rest, eg, hdw⟩ := dw_of (HK.out.trans HKK.out) (HB.out.kept HKK.out) HRW.out (by omega) HLO.out (by decide)
      cases eg
      have HDW := Lib.hid hdw
      clear hdw HRW HKK HB HK HLO
      have dct := HDW.out.at t (by simpa using ht)
      have df := HDW.out.dd.free t
      have a1 : (0 : Int) ≤ (t : Int) := by omega
      have a2 : (t : Int) < (v : Int) := by omega
      have HDW0 : Hid (DW w cb g #[.int .i64 v, .int .i64 S, .int .i64 T, .slice (some ⟨b3, o3, none⟩) (v + 1) c3, .slice a4 m c4, .slice a5 m c5, .slice a6 m c6, .slice a7 m c7, .slice a8 m c8] 29 ((List.replicate v v).set t 0) rest (wr.setCell ⟨g, t, none⟩ (.int .i64 0))) := Lib.hid (HDW.out.set t 0 (by simpa using ht))
      clear HDW
      have HRL0 := Lib.hid (RL.start (n := v) (s := t) (rlE v m ys rs false) ht)
      go_upto_region 9 with (fail)
      generalize (wr.setCell ⟨g, t, none⟩ (.int .i64 0)) = w3 at HDW0 ⊢
      clear dct df bx a1 a2 j0 hvn hv
      obtain ⟨D0, hD0⟩ : ∃ D0, (List.replicate v v).set t 0 = D0 := ⟨_, rfl⟩
      rw [hD0] at HDW0 HRL0
      clear hD0
      go_upto_region 10 with (fail)
      go_loopg [9] (2 * D0.sum + 1) (fun k mo wr => ∃ (d : List Nat) (b : Bool), mo = .bool b ∧ Hid (2 * d.sum + b.toNat = k) ∧ Hid (RL v t (rlE v m ys rs false) d) ∧ Hid (DW w cb g #[.int .i64 v, .int .i64 S, .int .i64 T, .slice (some ⟨b3, o3, none⟩) (v + 1) c3, .slice a4 m c4, .slice a5 m c5, .slice a6 m c6, .slice a7 m c7, .slice a8 m c8] 29 d rest wr) ∧ Hid (b = false → ∀ c, c < m → 0 < rs.getD c 0 → d.getD (rlY v ys false c) 0 ≤ d.getD (rlX v ys false c) 0 + 1))
      case atStart => exact ⟨D0, true, rfl, Lib.hid rfl, HRL0, HDW0, Lib.hid (fun h => by cases h)⟩
      case round =>
        clear HRL0 HDW0
        obtain ⟨d, b, rfl, HK0, HRL, HDW, HST⟩ := hrel
        cases b with
        | false =>
          have HEND : Hid (IsD v t (rlE v m ys rs false) d) := Lib.hid (HRL.out.done (fun p q hp hq ⟨c, h1, h2, h3, h4⟩ => by have := HST.out rfl c h1 h4; rwa [h2, h3] at this))
          go_wp2_with fail
          go_ret
          refine ⟨g, _, d, rfl, ?_, HEND.out, HDW.out.kp⟩
          exact Rd.dw HDW.out
        | true =>
          go_upto_region 13 with (fail)
          go_loopw [9, 10] (fun mo ux wr => ∃ (u : Nat) (d' : List Nat) (b : Bool), mo = .bool b ∧ ux = .int .i64 u ∧ u ≤ v ∧ Hid (RL v t (rlE v m ys rs false) d') ∧ Hid (DW w cb g #[.int .i64 v, .int .i64 S, .int .i64 T, .slice (some ⟨b3, o3, none⟩) (v + 1) c3, .slice a4 m c4, .slice a5 m c5, .slice a6 m c6, .slice a7 m c7, .slice a8 m c8] 29 d' rest wr) ∧ Hid (PG v ys rs false d d' b (fst ys u))) (fun _ ux _ => v - (intOf ux).toNat)
          case atStart => exact ⟨0, d, false, rfl, rfl, by omega, HRL, HDW, Lib.hid (by rw [fst_zero]; exact PG.start v ys rs false d)⟩
          case round =>
            clear HRL HDW HST
            obtain ⟨u, d1, b, rfl, rfl, hun, HRL, HDW, HPG⟩ := hrel
            have bx := HDW.out.box.cell
            by_cases hu : u < v
            · have hfm : fst ys u ≤ fst ys (u + 1) ∧ fst ys (u + 1) ≤ m := ⟨fst_mono ys (by omega), by have := HFM.out; have := fst_mono ys (show u + 1 ≤ v by omega); omega⟩
              obtain ⟨fc0, -⟩ := HF1.out u hu wr HDW.out.kp
              have HF2 := Lib.hid (HF1.out u hu)
              obtain ⟨q, hq⟩ : ∃ q, fst ys u = q := ⟨_, rfl⟩
              obtain ⟨q', hq'⟩ : ∃ q', fst ys (u + 1) = q' := ⟨_, rfl⟩
              rw [hq] at fc0 HPG
              rw [hq, hq'] at hfm HF2
              have HQ : Hid (fst ys u = q ∧ fst ys (u + 1) = q') := Lib.hid ⟨hq, hq'⟩
              clear hq hq'
              have hu16 : u ≤ 1000 := by omega
              have hv0 := wrap_up u hu16
              have hv1 := wrap_up' u hu16
              have i4 : (0 : Int) ≤ (u : Int) := by omega
              have i5 : (u : Int) < (v : Int) + 1 := by omega
              have i6 : ((u + 1 : Nat) : Int) < (v : Int) + 1 := by omega
              have i7 : (0 : Int) ≤ ((u + 1 : Nat) : Int) := by omega
              have i8 : (u : Int) < (v : Int) := by omega
              go_upto_region 16 with (fail)
              clear bx fc0
              go_loopw [9, 11] (fun mo ax wr => ∃ (a : Nat) (d' : List Nat) (b : Bool), mo = .bool b ∧ ax = .int .i64 a ∧ q ≤ a ∧ a ≤ q' ∧ Hid (RL v t (rlE v m ys rs false) d') ∧ Hid (DW w cb g #[.int .i64 v, .int .i64 S, .int .i64 T, .slice (some ⟨b3, o3, none⟩) (v + 1) c3, .slice a4 m c4, .slice a5 m c5, .slice a6 m c6, .slice a7 m c7, .slice a8 m c8] 29 d' rest wr) ∧ Hid (PG v ys rs false d d' b a)) (fun _ ax _ => q' - (intOf ax).toNat)
              case atStart => exact ⟨q, d1, b, rfl, rfl, by omega, hfm.1, HRL, HDW, HPG⟩
              case round =>
                clear HRL HDW HPG
                obtain ⟨a, d2, b, rfl, rfl, ha0, ha1, HRL, HDW, HPG⟩ := hrel
                have bx := HDW.out.box.cell
                obtain ⟨-, fc1⟩ := HF2.out wr HDW.out.kp
                by_cases hlt : a < q'
                · have ham : a < m := by omega
                  have j0 : (a : Int) < (q' : Int) := by omega
                  have j1 : (0 : Int) ≤ (a : Int) := by omega
                  have j2 : (a : Int) < (m : Int) := by omega
                  have ha16 : (a : Int) ≤ 1000 := by omega
                  obtain ⟨x, hx⟩ : ∃ x, hd v ys a = x := ⟨_, rfl⟩
                  have hxn : x < v := by rw [← hx]; exact (hd_get HG.out a ham).2
                  have htl : tl ys v a = u := tl_of ys a u (by rw [HQ.out.1]; exact ha0) (by rw [HQ.out.2]; exact hlt) v hu
                  have HXY : Hid (rlX v ys false a = u ∧ rlY v ys false a = x) := Lib.hid (by unfold rlX rlY; simp [htl, hx])
                  obtain ⟨b4, o4, rfl, hc4⟩ := (HCR.out.kept HDW.out.kp).r4.at a (by rw [show (hv (enAll v ys)).length = (enAll v ys).length by simp [hv], HG.out.hm]; exact ham)
                  rw [(hd_get HG.out a ham).1, hx] at hc4
                  have HC4 : Hid (∀ w', Kept w w' → w'.cell? ⟨b4, o4 + a, none⟩ = some (.int .i64 (x : Nat))) := Lib.hid (fun w' k' => by
                    obtain ⟨b4', o4', e, h⟩ := (HCR.out.kept k').r4.at a (by rw [show (hv (enAll v ys)).length = (enAll v ys).length by simp [hv], HG.out.hm]; exact ham)
                    cases e
                    rwa [(hd_get HG.out a ham).1, hx] at h)
                  obtain ⟨b6, o6, rfl, rc0⟩ := (HRR.out.kept HDW.out.kp).num (i := a) (by rw [HRM.out]; exact ham)
                  obtain ⟨r, hr⟩ : ∃ r, rs.getD a 0 = r := ⟨_, rfl⟩
                  rw [hr] at rc0
                  have HR := Lib.hid hr
                  have hdl := HRL.out.len
                  have dcx := HDW.out.at x (by rw [hdl]; exact hxn)
                  have dcu := HDW.out.at u (by rw [hdl]; exact hu)
                  obtain ⟨dx, hdx⟩ : ∃ y, d2.getD x 0 = y := ⟨_, rfl⟩
                  obtain ⟨du, hdu⟩ : ∃ y, d2.getD u 0 = y := ⟨_, rfl⟩
                  rw [hdx] at dcx
                  rw [hdu] at dcu
                  have hdn : du ≤ 1000 := by rw [← hdu]; exact Nat.le_trans (HRL.out.le u (by assumption)) (by omega)
                  have HDX := Lib.hid (And.intro hdx (And.intro hdu hdl))
                  have hwu := wrap_up du hdn
                  have hwu' := wrap_up' du hdn
                  have b0 : (0 : Int) ≤ (x : Int) := by omega
                  have b1 : (x : Int) < (v : Int) := by omega
                  clear hx htl hr hdx hdu hdl
                  by_cases hr0 : 0 < r
                  · have z1 : decide (0 < r) = true := by simpa using hr0
                    by_cases hlw : du + 1 < dx
                    · have cc1 : decide (((du + 1 : Nat) : Int) < (dx : Int)) = true := (lt_casts _ _ hlw).1
                      have cc2 : decide ((du : Int) + 1 < (dx : Int)) = true := (lt_casts _ _ hlw).2
                      have cc3 : decide (du + 1 < dx) = true := by simpa using hlw
                      have HLO2 := Lib.hid (HRL.out.lower (x := u) (y := x) (by assumption) (by assumption) (show rlE v m ys rs false u x from ⟨a, ham, HXY.out.1, HXY.out.2, by rw [HR.out]; exact hr0⟩) (by rw [HDX.out.1, HDX.out.2.1]; exact hlw))
                      rw [show d2.getD u 0 = du from HDX.out.2.1] at HLO2
                      have HPG2 : Hid (PG v ys rs false d (d2.set x (du + 1)) true (a + 1)) := Lib.hid (HPG.out.put HLO2.out.2)
                      have HRL2 := Lib.hid HLO2.out.1
                      clear HLO2
                      go_upto_region 18 with (fail)
                      refine wp_region_kept (by kernel_rfl) (by kernel_rfl) ?_
                      repeat (go_big_quiet_step (fail))
                      refine wpQuiet_nil ?_
                      intro w1 hk1
                      have HDW1 := Lib.hid (HDW.out.kept hk1)
                      clear hk1 bx dcx dcu hc4 fc1 rc0
                      have dcx := HDW1.out.at x (by rw [HDX.out.2.2]; exact hxn)
                      have dcu := HDW1.out.at u (by rw [HDX.out.2.2]; exact hu)
                      rw [HDX.out.1] at dcx
                      rw [HDX.out.2.1] at dcu
                      have hc4 := HC4.out w1 HDW1.out.kp
                      have HDW2 : Hid (DW w cb g #[.int .i64 v, .int .i64 S, .int .i64 T, .slice (some ⟨b3, o3, none⟩) (v + 1) c3, .slice (some ⟨b4, o4, none⟩) m c4, .slice a5 m c5, .slice a6 m c6, .slice a7 m c7, .slice a8 m c8] 29 (d2.set x (du + 1)) rest (w1.drew.setCell ⟨g, x, none⟩ (.int .i64 ((du + 1 : Nat) : Int)))) := Lib.hid ((HDW1.out.kept (Upd.refl _ _).drew).set x (du + 1) (by rw [HDX.out.2.2]; assumption))
                      clear HDW
                      have bx1 := HDW1.out.box.cell
                      have sf := HDW1.out.dd.free x
                      go_upto_region 19 with (fail)
                      refine wp_region_quiet_tail 12 (by kernel_rfl) (by kernel_rfl) ?_
                      simp only [List.take_succ_cons, List.take_zero, List.drop_succ_cons, List.drop_zero]
                      repeat (go_big_quiet_step (fail))
                      refine wpQuiet_nil ?_
      
      
                      go_wp2_with fail
                      go_roundw
                      case rel => exact ⟨a + 1, _, true, rfl, by go_num, by omega, by omega, HRL2, HDW2, HPG2⟩
                      case measure => simp [intOf]; omega
                    · have cc1 : decide (((du + 1 : Nat) : Int) < (dx : Int)) = false := (nlt_casts _ _ hlw).1
                      have cc2 : decide ((du : Int) + 1 < (dx : Int)) = false := (nlt_casts _ _ hlw).2
                      have cc3 : decide (du + 1 < dx) = false := by simpa using hlw
                      have HPG2 : Hid (PG v ys rs false d d2 b (a + 1)) := Lib.hid (HPG.out.pass (fun _ => by rw [HXY.out.1, HXY.out.2, HDX.out.1, HDX.out.2.1]; exact Nat.le_of_not_lt hlw))
                      go_upto_region 18 with (fail)
                      refine wp_region_kept (by kernel_rfl) (by kernel_rfl) ?_
                      repeat (go_big_quiet_step (fail))
                      refine wpQuiet_nil ?_
                      intro w1 hk1
                      have HDW1 := Lib.hid (HDW.out.kept hk1)
                      clear hk1 bx dcx dcu hc4 fc1 rc0 HDW
                      go_wp2_with fail
                      go_roundw
                      case rel => exact ⟨a + 1, d2, b, rfl, by go_num, by omega, by omega, HRL, HDW1, HPG2⟩
                      case measure => simp [intOf]; omega
                  · have z1 : decide (0 < r) = false := by simpa using hr0
                    have HPG2 : Hid (PG v ys rs false d d2 b (a + 1)) := Lib.hid (HPG.out.pass (fun h => absurd h (by rw [HR.out]; exact hr0)))
                    go_upto_region 18 with (fail)
                    refine wp_region_kept (by kernel_rfl) (by kernel_rfl) ?_
                    repeat (go_big_quiet_step (fail))
                    refine wpQuiet_nil ?_
                    intro w1 hk1
                    have HDW1 := Lib.hid (HDW.out.kept hk1)
                    clear hk1 bx dcx dcu hc4 fc1 rc0 HDW
                    go_wp2_with fail
                    go_roundw
                    case rel => exact ⟨a + 1, d2, b, rfl, by go_num, by omega, by omega, HRL, HDW1, HPG2⟩
                    case measure => simp [intOf]; omega
                · have j0 : ¬ (a : Int) < (q' : Int) := by omega
                  have HPG2 : Hid (PG v ys rs false d d2 b (fst ys (u + 1))) := Lib.hid (by rw [HQ.out.2, show q' = a by omega]; exact HPG.out)
                  have hu1 : (u : Int) ≤ 1000 := by omega
                  clear HPG hv0 hv1
                  go_wp2_with fail
                  go_roundw
                  case rel => exact ⟨u + 1, d2, b, rfl, by go_num, by omega, HRL, HDW, HPG2⟩
                  case measure => simp [intOf]; omega
            · have j0 : ¬ (u : Int) < (v : Int) := by omega
              have HSTA : Hid (b = false → ∀ c, c < m → 0 < rs.getD c 0 → d1.getD (rlY v ys false c) 0 ≤ d1.getD (rlX v ys false c) 0 + 1) := Lib.hid (fun hb c hc => (HPG.out.f hb).2 c (by rw [show u = v by omega, HFM.out]; exact hc))
              have HMS : Hid (2 * d1.sum + b.toNat < gk) := Lib.hid (by
                have h0 := HK0.out
                have h1 := HPG.out
                cases b with
                | true => have := h1.t rfl; simp at h0 ⊢; omega
                | false => rw [(h1.f rfl).1]; simp at h0 ⊢; omega)
              clear HPG
              go_wp2_with fail
              go_roundg (2 * d1.sum + b.toNat)
              case rel => exact ⟨d1, b, rfl, Lib.hid rfl, HRL, HDW, HSTA⟩
              case measure => exact HMS.out
theorem refFrom_ok (N S T : Int) (n m : Nat) (a3 a4 a5 a6 a7 a8 : Option Addr) (c3 c4 c5 c6 c7 c8 : Nat) (ys : List Ar) (ra : Option Addr) (rc : Nat) (rs : List Int) (t : Nat) (w : World) (hg : Gr N S T n m ys) (hcr : CsrR w n ys a3 a4 a5 a6 a7 a8) (hr : Rd w ra (lv rs)) (hm : rs.length = m) (ht : t < n) :
    Calls Try.prog 19 #[.agg #[.int .i64 N, .int .i64 S, .int .i64 T, .slice a3 (n + 1) c3, .slice a4 m c4, .slice a5 m c5, .slice a6 m c6, .slice a7 m c7, .slice a8 m c8], .slice ra m rc, .int .i64 t] w fun e w' => ∃ (db c : Nat) (d : List Nat), e = .returned (.slice (some ⟨db, 0, none⟩) n c) ∧ Rd w' (some ⟨db, 0, none⟩) (nv d) ∧ IsD n t (OpenA n m ys rs) d ∧ Kept w w' :=
  (refFrom0_ok N S T n m a3 a4 a5 a6 a7 a8 c3 c4 c5 c6 c7 c8 ys ra rc rs t w hg hcr hr hm ht).mono fun e w' ⟨db, c, d, h1, h2, h3, h4⟩ => ⟨db, c, d, h1, h2, h3.congr (fun u x _ _ => rlE_false n m ys rs u x), h4⟩
end Go.Proofs.Ytoapekkmaajfmaa
