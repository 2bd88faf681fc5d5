/- The law LabelDist (printed by gen_labdist.py). -/
import Derived.Test.YtfdbifhkhdnnkaaLabAt
import Derived.Test.YtfdbifhkhdnnkaaGst
import Derived.Test.YtfdbifhkhdnnkaaDistTo
import Derived.Test.YtfdbifhkhdnnkaaLabDistP
import Derived.Test.YtfdbifhkhdnnkaaCopyRow
import Derived.Test.YtfdbifhkhdnnkaaRowsRd
import Derived.Deep.CutRange
import Derived.StillTailTactics
namespace Go.Proofs.Ytfdbifhkhdnnkaa
set_option linter.unusedVariables false
set_option linter.unusedSimpArgs false
open Go.RowKit
attribute [local go_sem] cell?_ext

set_option maxRecDepth 100000 in
set_option maxHeartbeats 4000000 in
theorem labelDist_core (N0 S0 T0 : Int) (a : Option Addr) (k0 cap : Nat) (ys0 : List Ar) (la : Option Addr) (lc : Nat) (ls : List Int) (ha : Option Addr) (hc : Nat) (hs0 : List Int) (w : World)
    (h : Ars w a ys0) (hk0 : ys0.length = k0) (hle : k0 ≤ cap) (hmost : cap ≤ 9223372036854775807) (hwf : ∀ x ∈ ys0, -9223372036854775808 ≤ x.c ∧ x.c ≤ 9223372036854775807)
    (hl : Rd w la (lv ls)) (hli : ∀ x ∈ ls, -9223372036854775808 ≤ x ∧ x ≤ 9223372036854775807) (hll : ls.length ≤ 9223372036854775807)
    (hh1 : Rd w ha (lv hs0)) (hm1 : hs0.length ≤ 9223372036854775807) :
    Calls Try.prog 7 #[.agg #[.int .i64 N0, .int .i64 S0, .int .i64 T0, .slice a k0 cap], .slice la ls.length lc, .slice ha hs0.length hc] w fun e w' => e = .returned (.bool true) ∧ Kept w w' := by
  have HS : ∀ (w : World), Ars w a ys0 → Hid (Calls Try.prog 9 #[.agg #[.int .i64 N0, .int .i64 S0, .int .i64 T0, .slice a k0 cap], .int .i64 16, .int .i64 40] w (NetIs w)) := by
    intro w h
    subst hk0
    exact Lib.hid (Some_any N0 S0 T0 a cap ys0 w h hle hmost hwf)
  have HX := Lib.hid (h.kept ((Upd.refl (fun _ => False) w).alloc (.cells #[.int .i64 N0, .int .i64 S0, .int .i64 T0, .slice a k0 cap] 24)))
  have HK := Lib.hid ((Upd.refl (fun _ => False) w).alloc (.cells #[.int .i64 N0, .int .i64 S0, .int .i64 T0, .slice a k0 cap] 24))
  have HL := Lib.hid hl
  have HLI := Lib.hid hli
  have HHR := Lib.hid hh1
  have HHX := Lib.hid hm1
  clear hh1
  clear h hl hli hle hmost hwf
  go_enter Try.func7, Try.ntmps7
  go_wp2_with fail
  refine (HS _ HX.out).out.mono ?_
  rintro e w1 ⟨N, S, T, a', cap', ys, rfl, hok, hown, hk1⟩
  have HK1 := Lib.hid (HK.out.trans hk1)
  have HOK := Lib.hid hok
  have HA : Hid (Ars w1 a' ys) := Lib.hid hown.at.2
  clear hk1 hok hown HS HX HK
  have HLE := fun (w : World) (h : Ars w a' ys) (hl : Rd w la (lv ls)) => Lib.hid (Left_ok N S T a' cap' ys la lc ls w h HOK.out hl HLI.out hll)
  go_wp2_with fail
  refine (HLE _ HA.out (HL.out.kept HK1.out)).out.mono ?_
  rintro e w2 ⟨B, n, m, a3, c3, a4, c4, a5, c5, a6, c6, a7, c7, a8, c8, ra, rc, rfl, hn, hm2, hcr, -, hk2, -, hro⟩
  have HG : Hid (Gr N S T n m ys) := Lib.hid ⟨HOK.out, hn, hm2⟩
  obtain ⟨rs, hrs⟩ : ∃ rs, resAll (wths ls ys) n ys = rs := ⟨_, rfl⟩
  have HRM : Hid (rs.length = m) := Lib.hid (by rw [← hrs, resAll_len]; exact hm2)
  have HRI : Hid (∀ x ∈ rs, 0 ≤ x ∧ x < 1125899906842624) := Lib.hid (by rw [← hrs]; exact left_in HG.out HLI.out)
  rw [hrs] at hro
  have HRC : Hid (m ≤ rc) := Lib.hid (row_cap' hro)
  have HSO : Hid ((∃ ad, ra = some ad) ∨ (ra = none ∧ m = 0 ∧ rc = 0)) := Lib.hid (someOr_row hro)
  obtain ⟨ra', rc', e9, hrr⟩ := Rd.owns hro
  cases e9
  have hA := (Upd.refl (fun _ => False) w2).alloc (.cells #[.int .i64 N, .int .i64 S, .int .i64 T, .slice a3 (n + 1) c3, .slice a4 m c4, .slice a5 m c5, .slice a6 m c6, .slice a7 m c7, .slice a8 m c8] 29)
  have HK0 := Lib.hid ((HK1.out.trans hk2).trans hA)
  have HGF : Hid (GF N S T n m a3 a4 a5 a6 a7 a8 c3 c4 c5 c6 c7 c8 ys w2.heap.size ra rs (w2.alloc (.cells #[.int .i64 N, .int .i64 S, .int .i64 T, .slice a3 (n + 1) c3, .slice a4 m c4, .slice a5 m c5, .slice a6 m c6, .slice a7 m c7, .slice a8 m c8] 29))) := Lib.hid ⟨Blk.new _ _ _, hcr.kept hA, hrr.kept hA⟩
  clear hn hm2 hcr hk2 hro hrr hrs hA HLE HA HOK HK1 HL HLI hll
  clear hk0
  go_upto_region 2 with (fail)
  generalize (w2.alloc (.cells #[.int .i64 N, .int .i64 S, .int .i64 T, .slice a3 (n + 1) c3, .slice a4 m c4, .slice a5 m c5, .slice a6 m c6, .slice a7 m c7, .slice a8 m c8] 29)) = wB at HGF HK0 ⊢
  generalize w2.heap.size = cb at HGF ⊢
  have HK1 : Hid (Kept wB wB) := Lib.hid (Upd.refl _ _)
  obtain ⟨hnN, -, hn16, hm6, hS0, hS1, hT0, hT1, hST⟩ := HG.out.len
  obtain ⟨s, rfl⟩ : ∃ s : Nat, S = (s : Int) := ⟨S.toNat, by omega⟩
  obtain ⟨t, rfl⟩ : ∃ t : Nat, T = (t : Int) := ⟨T.toNat, by omega⟩
  subst hnN
  have hsn : s < n := by omega
  have htn : t < n := by omega
  clear hS0 hS1 hT0 hT1
  have bx := HGF.out.box.cell
  go_wp2_with fail
  refine (heights_any (n : Int) (s : Int) (t : Int) n m a3 a4 a5 a6 a7 a8 c3 c4 c5 c6 c7 c8 ys ha hc hs0 _ HG.out (HHR.out.kept HK0.out) HHX.out).mono ?_
  rintro e W1 ⟨hb, rfl, h3, h4, h5⟩
  have HBH := Lib.hid h3
  have HKA := Lib.hid h5
  have HR0 : Hid (rightB n s t (htL n s t n hs0) = true) := Lib.hid (htL_right HG.out _)
  clear h3 h4 h5 bx HHR HHX hm1
  generalize (htL n s t n hs0) = hs at HBH HR0
  have HHL : Hid (hs.length = n) := Lib.hid (by have := (right_parts.1 HR0.out).1; omega)
  obtain ⟨i0, hi0, hz0, hz1, hz2⟩ := info_parts infoLong
  have hrs := (HGF.out.kept HKA.out).rs
  have hrl := HRM.out
  have hml : m ≤ 2000000 := by omega
  have hso := HSO.out
  have h1c : ∀ u ∈ lv rs, u.oneCell' = true := by
    intro u hu
    obtain ⟨x, -, rfl⟩ := List.mem_map.1 hu
    rfl
  go_upto_region 4 with (first | (at_builtin; refine wpList_copied rfl _ _ 25 rfl 2 i0 (.int .i64 0) 8 Try.underlying25 hi0 hz0 hz1 hz2 rfl (by decide) ra m rc (lv rs) rfl rfl hrs (by rw [lv_len]; exact hrl) hso h1c hml ?_; intro oa oc W2 hown hk2; clear hi0 hz0 hz1 hz2 hrs hrl hso h1c) | fail)
  have HW := Lib.hid hown
  have HK2 := Lib.hid hk2
  have HF : Hid (∀ w', Kept wB w' → ∃ b3 o3, a3 = some ⟨b3, o3, none⟩ ∧ w'.cell? ⟨b3, o3 + s, none⟩ = some (.int .i64 (fst ys s : Nat)) ∧ w'.cell? ⟨b3, o3 + (s + 1), none⟩ = some (.int .i64 (fst ys (s + 1) : Nat))) := Lib.hid (fun w' k => by
    obtain ⟨b, o, e, h1⟩ := (HGF.out.kept k).cr.r3.at s (by rw [nv_len, firsts_len]; omega)
    obtain ⟨b', o', e', h2⟩ := (HGF.out.kept k).cr.r3.at (s + 1) (by rw [nv_len, firsts_len]; omega)
    rw [e] at e'
    cases e'
    rw [firsts_get n ys _ (by omega)] at h1 h2
    exact ⟨b, o, e, h1, h2⟩)
  obtain ⟨b3, o3, e3, -⟩ := HF.out wB HK1.out
  subst e3
  have HF1 : Hid (∀ w', Kept wB w' → w'.cell? ⟨b3, o3 + s, none⟩ = some (.int .i64 (fst ys s : Nat)) ∧ w'.cell? ⟨b3, o3 + (s + 1), none⟩ = some (.int .i64 (fst ys (s + 1) : Nat))) := Lib.hid (fun w' k => by
    obtain ⟨b, o, e, h1, h2⟩ := HF.out w' k
    cases e
    exact ⟨h1, h2⟩)
  clear HF hown hk2
  have hfm : fst ys s ≤ fst ys (s + 1) ∧ fst ys (s + 1) ≤ m := ⟨fst_mono ys (by omega), by have := HG.out.hm; have := fst_mono ys (show s + 1 ≤ n by omega); unfold fst at *; omega⟩
  have HTL : Hid (∀ i, i < m → (tl ys n i = s ↔ fst ys s ≤ i ∧ i < fst ys (s + 1))) := Lib.hid (fun i hi => by
    obtain ⟨t1, t2, t3⟩ := tl_at ys i n (by have := HG.out.hm; unfold fst; omega)
    constructor
    · intro e
      rw [e] at t2 t3
      exact ⟨t2, t3⟩
    · rintro ⟨e1, e2⟩
      exact tl_of ys i s e1 e2 n hsn)
  obtain ⟨q, hq⟩ : ∃ q, fst ys s = q := ⟨_, rfl⟩
  obtain ⟨q', hq'⟩ : ∃ q', fst ys (s + 1) = q' := ⟨_, rfl⟩
  rw [hq, hq'] at HF1 hfm HTL
  clear hq hq'
  have bx := (HGF.out.kept (HKA.out.trans HK2.out)).box.cell
  have fc0 := (HF1.out _ (HKA.out.trans HK2.out)).1
  have hs16 : s ≤ 1000 := Nat.le_trans (Nat.le_of_lt hsn) (Nat.le_trans hn16 (by decide))
  have hw0 := wrap_up s hs16
  have hw1 := wrap_up' s hs16
  have i6 : ((s + 1 : Nat) : Int) < ((n : Int) + 1) := by omega
  have i7 : (0 : Int) ≤ ((s + 1 : Nat) : Int) := by omega
  have i8 : (0 : Int) ≤ (s : Int) := by omega
  have i9 : (s : Int) < ((n : Int) + 1) := by omega
  go_upto_region 5 with (fail)
  go_loopw [10] (fun ax wr => ∃ (a : Nat) (ro : List Int), ax = .int .i64 a ∧ q ≤ a ∧ a ≤ q' ∧ Hid (Kept W1 wr) ∧ Hid (wr.ownsRow W1.heap.size 2 1 (.slice oa m oc) m (lv ro)) ∧ Hid (ro.length = m ∧ ∀ i, i < m → ro.getD i 0 = if q ≤ i ∧ i < a then 0 else rs.getD i 0)) (fun ax _ => q' - (intOf ax).toNat)
  case atStart => exact ⟨q, rs, rfl, by omega, by omega, HK2, HW, Lib.hid ⟨HRM.out, fun i hi => by rw [if_neg (by omega)]⟩⟩
  case round =>
    clear HW HK2 bx fc0
    obtain ⟨a, ro, rfl, ha0, ha1, HK2, HW, HO⟩ := hrel
    have bx := (HGF.out.kept (HKA.out.trans HK2.out)).box.cell
    obtain ⟨fc0, fc1⟩ := HF1.out _ (HKA.out.trans HK2.out)
    by_cases hlt : a < q'
    · have ham : a < m := by omega
      obtain ⟨og, hog⟩ : ∃ g, oa = some ⟨g, 0, none⟩ := by
        rcases HW.out.2 with ⟨h1, h2⟩ | ⟨g, cap, cur, h1, -⟩
        · cases h1; omega
        · cases h1; exact ⟨g, rfl⟩
      subst hog
      have oc0 := HW.out.cellAt a (by omega)
      rw [show (lv ro)[a]? = some (.int .i64 (ro.getD a 0)) from lv_get (by rw [HO.out.1]; exact ham)] at oc0
      generalize ro.getD a 0 = y0 at oc0
      have of0 := HW.out.frozenAt a
      have j0 : (a : Int) < (q' : Int) := by omega
      have j1 : (0 : Int) ≤ (a : Int) := by omega
      have j2 : (a : Int) < (m : Int) := by omega
      have ha2 : (a : Int) ≤ 1000 := by omega
      obtain ⟨hst1, hst2⟩ := HW.out.stored a (.int .i64 0)
      have HW2 : Hid ((wr.setCell ⟨og, a, none⟩ (.int .i64 0)).ownsRow W1.heap.size 2 1 (.slice (some ⟨og, 0, none⟩) m oc) m (lv (ro.set a 0))) := Lib.hid (by
        rwa [show lv (ro.set a 0) = (lv ro).set a (.int .i64 0) by simp [lv, List.map_set]])
      have HK3 : Hid (Kept W1 (wr.setCell ⟨og, a, none⟩ (.int .i64 0))) := Lib.hid (Kept.set HK2.out (World.ownsRow.lt HW.out og rfl).1 _)
      have HO2 : Hid ((ro.set a 0).length = m ∧ ∀ i, i < m → (ro.set a 0).getD i 0 = if q ≤ i ∧ i < a + 1 then 0 else rs.getD i 0) := Lib.hid ⟨by rw [List.length_set]; exact HO.out.1, fun i hi => by
        have hlo := HO.out.1
        have h1 := HO.out.2 i hi
        rw [List.getD_eq_getElem?_getD, List.getElem?_set]
        by_cases e : a = i
        · subst e
          rw [if_pos rfl, if_pos (by omega), if_pos (by omega)]
          rfl
        · rw [if_neg e, ← List.getD_eq_getElem?_getD, h1]
          by_cases e2 : q ≤ i ∧ i < a
          · rw [if_pos e2, if_pos (by omega)]
          · rw [if_neg e2, if_neg (by omega)]⟩
      clear hst1 hst2 HK2 HW HO
      go_wp2_with fail
      go_roundw
      case rel => exact ⟨a + 1, ro.set a 0, by go_num, by omega, by omega, HK3, HW2, HO2⟩
      case measure => simp [intOf]; omega
    · have j0 : ¬ (a : Int) < (q' : Int) := by omega
      have haq : a = q' := by omega
      have HS : Hid (Shut n m ys s rs ro) := Lib.hid ⟨HO.out.1, fun i hi => by
        rw [HO.out.2 i hi, haq]
        by_cases e : tl ys n i = s
        · rw [if_pos e, if_pos ((HTL.out i hi).1 e)]
        · rw [if_neg e, if_neg (fun h => e ((HTL.out i hi).2 h))]⟩
      clear haq HTL
      obtain ⟨oa', oc', e9, hor⟩ := Rd.owns HW.out
      cases e9
      have HOR := Lib.hid hor
      clear hor fc0 HW HF1
      have HDT := fun (w : World) (k : Kept wr w) => Lib.hid (to_ok (n : Int) (s : Int) (t : Int) n m (some ⟨b3, o3, none⟩) a4 a5 a6 a7 a8 c3 c4 c5 c6 c7 c8 ys oa oc ro t w HG.out (HGF.out.kept ((HKA.out.trans HK2.out).trans k)).cr (HOR.out.kept k) HS.out.1 htn)
      go_wp2_with fail
      refine (HDT _ (Upd.refl _ _)).out.mono ?_
      rintro e W3 ⟨db, d, rfl, hd0, hd1, hd2, hd3⟩
      have HD := Lib.hid hd0
      have HDN := Lib.hid hd2
      have HKW : Hid (Kept W1 W3) := Lib.hid (HK2.out.trans hd3)
      have HKB : Hid (Kept wB W3) := Lib.hid (HKA.out.trans HKW.out)
      have HDX : Hid (wB.heap.size ≤ db) := Lib.hid (by have h1 := HKA.out.size; have h2 := HK2.out.size; omega)
      have HB3 := Lib.hid (HBH.out.kept HKW.out)
      clear hd0 hd1 hd2 hd3 HDT bx
      clear hw0 hw1
      have bx := (HGF.out.kept HKB.out).box.cell
      have hnn : ((n : Int) != (n : Int)) = false := by simp
      have HV := fun (w : World) (k : Kept W3 w) => Lib.hid (valid_at (n : Int) (s : Int) (t : Int) n m (some ⟨b3, o3, none⟩) a4 a5 a6 a7 a8 c3 c4 c5 c6 c7 c8 ys ra rc rs (some ⟨hb, 0, none⟩) n hs m n w HG.out (HGF.out.kept (HKB.out.trans k)).cr (HGF.out.kept (HKB.out.trans k)).rs (Rd.blk (HB3.out.kept k)) (by rw [HHL.out]; have := HG.out.len; omega) HRM.out HHL.out)
      obtain ⟨zv, hzv⟩ : ∃ z, validB n s t n m ys rs hs = z := ⟨_, rfl⟩
      rw [hzv] at HV
      have HZV := Lib.hid hzv
      clear hzv
      go_wp2_with fail
      refine (HV _ (Upd.refl _ _)).out.mono ?_
      rintro e W4 ⟨rfl, hk4⟩
      have HK4 := Lib.hid hk4
      clear hk4 HV bx hnn
      have hdl : d.length = n := HDN.out.len
      have HDL := Lib.hid hdl
      clear hdl
      go_upto_if 59 with (fail)
      go_cut [12] from 60 to 80 (fun x wx => Hid (Kept W3 wx))
      case first =>
        cases zv with
        | false =>
          go_wp2_with fail
          go_meet
          case rel => exact HK4
        | true =>
          have hle : Hid (∀ v, v < n → v ≠ s → hs.getD v 0 ≤ (d.getD v 0 : Nat)) := Lib.hid (fun v hv hne => valid_dist HG.out HRM.out HS.out HDN.out HZV.out _ v hv hne rfl)
          go_wp2_with fail
          go_loopw [62] (fun ax wr => ∃ (v : Nat), ax = .int .i64 v ∧ v ≤ n ∧ Hid (Kept W3 wr)) (fun ax _ => n - (intOf ax).toNat)
          case atStart => exact ⟨0, rfl, by omega, HK4⟩
          case round =>
            clear HK4
            obtain ⟨v, rfl, hv, HK4⟩ := hrel
            by_cases hlt : v < n
            · have bx := (HGF.out.kept (HKB.out.trans HK4.out)).box.cell
              have hc0 : wr.cell? ⟨hb, v, none⟩ = some (.int .i64 (hs.getD v 0)) := by rw [(HB3.out.kept HK4.out).cell]; simp only [List.getElem?_toArray]; exact lv_get (by rw [HHL.out]; exact hlt)
              have dc0 : wr.cell? ⟨db, v, none⟩ = some (.int .i64 (d.getD v 0 : Nat)) := by rw [(HD.out.kept HK4.out).cell]; simp only [List.getElem?_toArray]; exact nv_get (by rw [HDL.out]; exact hlt)
              have hle2 := hle.out v hlt
              generalize hs.getD v 0 = x at hc0 hle2
              generalize d.getD v 0 = y at dc0 hle2
              have i1 : (0 : Int) ≤ (v : Int) := by omega
              have i2 : (v : Int) < (n : Int) := by omega
              by_cases hvs : v = s
              · have hb1 : ((v : Int) != (s : Int)) = false := by simp [hvs]
                clear hvs hle2
                go_upto_region 15 with (fail)
                refine wp_region_kept (by kernel_rfl) (by kernel_rfl) ?_
                repeat (go_big_quiet_step (fail))
                refine wpQuiet_nil ?_
                intro w1 hk1
                have HK5 := Lib.hid (HK4.out.trans hk1)
                clear hk1 HK4 bx hc0 dc0
                go_wp2_with fail
                go_roundw
                case rel => exact ⟨v + 1, by go_num, by omega, HK5⟩
                case measure => simp [intOf]; omega
              · have hb1 : ((v : Int) != (s : Int)) = true := by simp; omega
                have hb2 : ¬ (y : Int) < x := by have := hle2 hvs; omega
                have hb3 : decide ((y : Int) < x) = false := by simpa using hb2
                clear hvs hle2
                go_upto_region 15 with (fail)
                refine wp_region_kept (by kernel_rfl) (by kernel_rfl) ?_
                repeat (go_big_quiet_step (fail))
                refine wpQuiet_nil ?_
                intro w1 hk1
                have HK5 := Lib.hid (HK4.out.trans hk1)
                clear hk1 HK4 bx hc0 dc0
                go_wp2_with fail
                go_roundw
                case rel => exact ⟨v + 1, by go_num, by omega, HK5⟩
                case measure => simp [intOf]; omega
            · have i2 : ¬ (v : Int) < (n : Int) := by omega
              go_wp2_with fail
              go_meet
              case rel => exact HK4
      case rest =>
        have HK5 : Hid (Kept W3 _) := hcut
        clear hcut HK4
        obtain ⟨R1, L1, V1⟩ := dist_valid HG.out HRM.out HS.out HDN.out
        have bx := (HGF.out.kept (HKB.out.trans HK5.out)).box.cell
        have dcs : wc.cell? ⟨db, s, none⟩ = some (.int .i64 (d.getD s 0 : Nat)) := by rw [(HD.out.kept HK5.out).cell]; simp only [List.getElem?_toArray]; exact nv_get (by rw [HDL.out]; exact hsn)
        generalize d.getD s 0 = y at dcs
        have dfs := (HD.out.kept HK5.out).free s
        have HD6 : Hid (Blk (wc.setCell ⟨db, s, none⟩ (.int .i64 n)) db (lv (ints (d.set s n))).toArray 3) := Lib.hid (by rw [lv_ints]; exact nv_set (HD.out.kept HK5.out) s n)
        have HK6 : Hid (Kept wB (wc.setCell ⟨db, s, none⟩ (.int .i64 n))) := Lib.hid (Kept.set (HKB.out.trans HK5.out) HDX.out _)
        have HIL : Hid ((ints (d.set s n)).length = n) := Lib.hid (by simp [ints, HDL.out])
        have i8' : (s : Int) < (n : Int) := by omega
        generalize ints (d.set s n) = ds at R1 L1 V1 HD6 HIL
        have hmx : ds.length ≤ 9223372036854775807 := by rw [HIL.out]; omega
        have HR := fun (w : World) (k : Kept (wc.setCell ⟨db, s, none⟩ (.int .i64 n)) w) => Lib.hid (R1 ▸ right_at (n : Int) (s : Int) (t : Int) n m (some ⟨b3, o3, none⟩) a4 a5 a6 a7 a8 c3 c4 c5 c6 c7 c8 ys ra rc rs (some ⟨db, 0, none⟩) n ds m n w HG.out (HGF.out.kept (HK6.out.trans k)).cr (HGF.out.kept (HK6.out.trans k)).rs (Rd.blk (HD6.out.kept k)) hmx HRM.out HIL.out)
        have HVL := fun (w : World) (k : Kept (wc.setCell ⟨db, s, none⟩ (.int .i64 n)) w) => Lib.hid (V1 ▸ valid_at (n : Int) (s : Int) (t : Int) n m (some ⟨b3, o3, none⟩) a4 a5 a6 a7 a8 c3 c4 c5 c6 c7 c8 ys ra rc rs (some ⟨db, 0, none⟩) n ds m n w HG.out (HGF.out.kept (HK6.out.trans k)).cr (HGF.out.kept (HK6.out.trans k)).rs (Rd.blk (HD6.out.kept k)) hmx HRM.out HIL.out)
        have HST := fun (w : World) (k : Kept (wc.setCell ⟨db, s, none⟩ (.int .i64 n)) w) => Lib.hid (steep_at (n : Int) (s : Int) (t : Int) n m (some ⟨b3, o3, none⟩) a4 a5 a6 a7 a8 c3 c4 c5 c6 c7 c8 ys ra rc rs (some ⟨db, 0, none⟩) n ds m n [] 0 w HG.out (HGF.out.kept (HK6.out.trans k)).cr (HGF.out.kept (HK6.out.trans k)).rs (Rd.blk (HD6.out.kept k)) hmx HRM.out HIL.out L1 rfl)
        have HAW := fun (w : World) => Lib.hid (awake6_any w)
        have B6 := fun (w : World) (k : Kept (wc.setCell ⟨db, s, none⟩ (.int .i64 n)) w) => Lib.hid (HGF.out.kept (HK6.out.trans k)).box.cell
        clear R1 L1 V1 hmx
        go_upto_region 19 with (fail)
        have HKZ := HK6
        generalize (wc.setCell ⟨db, s, none⟩ (.int .i64 n)) = w6 at HR HVL HST B6 HKZ ⊢
        clear HK6 bx dcs dfs HD6
        have bx := (B6 w6 (Upd.refl _ _)).out
        go_wp2_with fail
        refine (HR _ (Upd.refl _ _)).out.mono ?_
        rintro e w7 ⟨rfl, hk7⟩
        have HK7 := Lib.hid hk7
        have bx := (B6 w7 HK7.out).out
        clear hk7
        go_wp2_with fail
        refine (HVL _ HK7.out).out.mono ?_
        rintro e w8 ⟨rfl, hk8⟩
        have HK8 := Lib.hid (HK7.out.trans hk8)
        have bx := (B6 w8 HK8.out).out
        clear hk8
        go_wp2_with fail
        refine (HST _ HK8.out).out.mono ?_
        rintro e w9 ⟨sa, sc, rfl, -, hk9⟩
        have HK9 := Lib.hid (HK8.out.trans hk9)
        clear hk9
        go_wp2_with fail
        refine (HAW _).out.mono ?_
        rintro e w10 ⟨rfl, hk10⟩
        have HK10 := Lib.hid (HK9.out.trans hk10)
        clear hk10
        go_wp2_with fail
        go_ret
        exact ⟨rfl, HK0.out.trans (HKZ.out.trans HK10.out)⟩
theorem labelDist_walk (N S T : Int) (a : Option Addr) (cap : Nat) (els : List (List Value)) (s1 : Option Addr) (cap1 : Nat) (z1 : List Int) (s2 : Option Addr) (cap2 : Nat) (z2 : List Int) (w : World) (_wN : (Lit.int .i64 N).wf = true) (_wS : (Lit.int .i64 S).wf = true) (_wT : (Lit.int .i64 T).wf = true) (hrow : FlatRow [some .i64, some .i64, some .i64] w a cap els) (_hf : ∀ x ∈ els, fits [some .i64, some .i64, some .i64] x)
    (w1 : IntRow .i64 w s1 cap1 z1) (m1 : ∀ n ∈ z1, (Lit.int .i64 n).wf = true) (w2 : IntRow .i64 w s2 cap2 z2) (_m2 : ∀ n ∈ z2, (Lit.int .i64 n).wf = true) :
    Calls Try.prog 7 #[.agg #[.int .i64 N, .int .i64 S, .int .i64 T, .slice a els.length cap], .slice s1 z1.length cap1, .slice s2 z2.length cap2] w fun e w' => e = .returned (.bool true) ∧ Kept w w' := by
  obtain ⟨xs, hl, hA, hx⟩ := ars_of_flat hrow
  have hle := hrow.le
  have hmo := hrow.most
  have l1 := w1.le
  have l1' := w1.most
  have l2 := w2.le
  have l2' := w2.most
  unfold maxLen at hmo l1' l2'
  exact labelDist_core N S T a els.length cap xs s1 cap1 z1 s2 cap2 z2 w hA hl hle hmo (fun x hx0 => bounds_i64 (hx x hx0).2.2) w1.rd (fun x hx0 => bounds_i64 (m1 x hx0)) (by omega) w2.rd (by omega)
end Go.Proofs.Ytfdbifhkhdnnkaa
