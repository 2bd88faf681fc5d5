/- The law DistMore (printed by gen_distmore.py). -/
import Derived.Test.YtoapekkmaajfmaaAwake05
import Derived.Test.YtoapekkmaajfmaaCopyRow
import Derived.Test.YtoapekkmaajfmaaSomeNet
import Derived.Test.YtoapekkmaajfmaaRowsRd
import Derived.Deep.CutRange
namespace Go.Proofs.Ytoapekkmaajfmaa
set_option linter.unusedVariables false
set_option linter.unusedSimpArgs false
open Go.RowKit
attribute [local go_sem] cell?_ext

/-- More is left of the first i, and of the first k it is more. -/
structure MTP (m i k : Nat) (rs ms ts : List Int) : Prop where
  lm : ms.length = m
  lt : ts.length = m
  gm : ∀ j, j < m → (i ≤ j → ms.getD j 0 = rs.getD j 0) ∧ (0 < rs.getD j 0 → 0 < ms.getD j 0)
  gt : ∀ j, j < m → (k ≤ j → ts.getD j 0 = rs.getD j 0) ∧ (0 < ts.getD j 0 ↔ 0 < rs.getD j 0)
theorem getD_seti {l : List Int} {i j : Nat} {x : Int} (h : i < l.length) : (l.set i x).getD j 0 = if i = j then x else l.getD j 0 := by
  simp only [List.getD_eq_getElem?_getD, List.getElem?_set]
  split
  · simp [h]
  · rfl
theorem MTP.more0 {m i k : Nat} {rs ms ts : List Int} (h : MTP m i k rs ms ts) : MTP m (i + 1) k rs ms ts := ⟨h.lm, h.lt, fun j hj => ⟨fun e => (h.gm j hj).1 (by omega), (h.gm j hj).2⟩, h.gt⟩
theorem MTP.more {m i k : Nat} {rs ms ts : List Int} (h : MTP m i k rs ms ts) (hi : i < m) {x : Int} (hx : 0 < x) : MTP m (i + 1) k rs (ms.set i x) ts := by
  refine ⟨by rw [List.length_set]; exact h.lm, h.lt, fun j hj => ?_, h.gt⟩
  rw [getD_seti (by rw [h.lm]; exact hi)]
  split
  · exact ⟨fun e => by omega, fun _ => hx⟩
  · exact ⟨fun e => (h.gm j hj).1 (by omega), (h.gm j hj).2⟩
theorem MTP.tw0 {m i k : Nat} {rs ms ts : List Int} (h : MTP m i k rs ms ts) : MTP m i (k + 1) rs ms ts := ⟨h.lm, h.lt, h.gm, fun j hj => ⟨fun e => (h.gt j hj).1 (by omega), (h.gt j hj).2⟩⟩
theorem MTP.tw {m i k : Nat} {rs ms ts : List Int} (h : MTP m i k rs ms ts) (hk : k < m) {x : Int} (hx : 0 < x) (hr : 0 < rs.getD k 0) : MTP m i (k + 1) rs ms (ts.set k x) := by
  refine ⟨h.lm, by rw [List.length_set]; exact h.lt, h.gm, fun j hj => ?_⟩
  rw [getD_seti (by rw [h.lt]; exact hk)]
  split
  · rename_i e
    subst e
    exact ⟨fun e => by omega, fun _ => hr, fun _ => hx⟩
  · exact ⟨fun e => (h.gt j hj).1 (by omega), (h.gt j hj).2⟩

set_option maxRecDepth 100000 in
set_option maxHeartbeats 4000000 in
theorem distMore_core (N0 S0 T0 : Int) (a : Option Addr) (k0 cap : Nat) (ys0 : List Ar) (la : Option Addr) (lc : Nat) (ls : List Int) (at0 : Int) (oa : Option Addr) (oc : Nat) (os : List Bool) (w : World)
    (h : Ars w a ys0) (hk0 : ys0.length = k0) (hle : k0 ≤ cap) (hmost : cap ≤ 9223372036854775807) (hwf : ∀ x ∈ ys0, -9223372036854775808 ≤ x.c ∧ x.c ≤ 9223372036854775807)
    (hl : Rd w la (lv ls)) (hli : ∀ x ∈ ls, -9223372036854775808 ≤ x ∧ x ≤ 9223372036854775807) (hll : ls.length ≤ 9223372036854775807)
    (hop : Rd w oa (os.map Value.bool)) (hol : os.length ≤ 9223372036854775807) (ha0 : 0 ≤ at0) (ha1 : at0 ≤ 255) :
    Calls Try.prog 3 #[.agg #[.int .i64 N0, .int .i64 S0, .int .i64 T0, .slice a k0 cap], .slice la ls.length lc, .int .u8 at0, .slice oa os.length oc] w fun e w' => e = .returned (.bool true) ∧ Kept w w' := by
  have HS : ∀ (w : World), Ars w a ys0 → Hid (Calls Try.prog 10 #[.agg #[.int .i64 N0, .int .i64 S0, .int .i64 T0, .slice a k0 cap], .int .i64 16, .int .i64 40] w (NetIs w)) := by
    intro w h
    subst hk0
    exact Lib.hid (Some_any N0 S0 T0 a cap ys0 w h hle hmost hwf)
  have HX := Lib.hid (h.kept ((Upd.refl (fun _ => False) w).alloc (.cells #[.int .i64 N0, .int .i64 S0, .int .i64 T0, .slice a k0 cap] 24)))
  have HK := Lib.hid ((Upd.refl (fun _ => False) w).alloc (.cells #[.int .i64 N0, .int .i64 S0, .int .i64 T0, .slice a k0 cap] 24))
  have HL := Lib.hid hl
  have HLI := Lib.hid hli
  have HOP := Lib.hid hop
  have HOL := Lib.hid hol
  clear hop hol
  clear h hl hli hle hmost hwf
  go_enter Try.func3, Try.ntmps3
  go_wp2_with fail
  refine (HS _ HX.out).out.mono ?_
  rintro e w1 ⟨N, S, T, a', cap', ys, rfl, hok, hown, hk1⟩
  have HK1 := Lib.hid (HK.out.trans hk1)
  have HOK := Lib.hid hok
  have HA : Hid (Ars w1 a' ys) := Lib.hid hown.at.2
  clear hk1 hok hown HS HX HK
  have HLE := fun (w : World) (h : Ars w a' ys) (hl : Rd w la (lv ls)) => Lib.hid (Left_ok N S T a' cap' ys la lc ls w h HOK.out hl HLI.out hll)
  go_wp2_with fail
  refine (HLE _ HA.out (HL.out.kept HK1.out)).out.mono ?_
  rintro e w2 ⟨B, n, m, a3, c3, a4, c4, a5, c5, a6, c6, a7, c7, a8, c8, ra, rc, rfl, hn, hm2, hcr, -, hk2, -, hro⟩
  have HG : Hid (Gr N S T n m ys) := Lib.hid ⟨HOK.out, hn, hm2⟩
  obtain ⟨rs, hrs⟩ : ∃ rs, resAll (wths ls ys) n ys = rs := ⟨_, rfl⟩
  have HRM : Hid (rs.length = m) := Lib.hid (by rw [← hrs, resAll_len]; exact hm2)
  have HRI : Hid (∀ x ∈ rs, 0 ≤ x ∧ x < 1125899906842624) := Lib.hid (by rw [← hrs]; exact left_in HG.out HLI.out)
  rw [hrs] at hro
  have HRC : Hid (m ≤ rc) := Lib.hid (row_cap' hro)
  have HSO : Hid ((∃ ad, ra = some ad) ∨ (ra = none ∧ m = 0 ∧ rc = 0)) := Lib.hid (someOr_row hro)
  obtain ⟨ra', rc', e9, hrr⟩ := Rd.owns hro
  cases e9
  have hA := (Upd.refl (fun _ => False) w2).alloc (.cells #[.int .i64 N, .int .i64 S, .int .i64 T, .slice a3 (n + 1) c3, .slice a4 m c4, .slice a5 m c5, .slice a6 m c6, .slice a7 m c7, .slice a8 m c8] 29)
  have HK0 := Lib.hid ((HK1.out.trans hk2).trans hA)
  have HGF : Hid (GF N S T n m a3 a4 a5 a6 a7 a8 c3 c4 c5 c6 c7 c8 ys w2.heap.size ra rs (w2.alloc (.cells #[.int .i64 N, .int .i64 S, .int .i64 T, .slice a3 (n + 1) c3, .slice a4 m c4, .slice a5 m c5, .slice a6 m c6, .slice a7 m c7, .slice a8 m c8] 29))) := Lib.hid ⟨Blk.new _ _ _, hcr.kept hA, hrr.kept hA⟩
  clear hn hm2 hcr hk2 hro hrr hrs hA HLE HA HOK HK1 HL HLI hll
  clear hk0
  go_upto_region 2 with (fail)
  generalize (w2.alloc (.cells #[.int .i64 N, .int .i64 S, .int .i64 T, .slice a3 (n + 1) c3, .slice a4 m c4, .slice a5 m c5, .slice a6 m c6, .slice a7 m c7, .slice a8 m c8] 29)) = wB at HGF HK0 ⊢
  generalize w2.heap.size = cb at HGF ⊢
  have HK1 : Hid (Kept wB wB) := Lib.hid (Upd.refl _ _)
  obtain ⟨hnN, hn2, hn16, hm6, -⟩ := HG.out.len
  subst hnN
  obtain ⟨t, ht⟩ : ∃ t : Nat, at0 % (n : Int) = (t : Int) := ⟨(at0 % n).toNat, by have := Int.emod_nonneg at0 (show (n : Int) ≠ 0 by omega); omega⟩
  have htn : t < n := by have := Int.emod_lt_of_pos at0 (show (0 : Int) < n by omega); omega
  have htm : at0.tmod (n : Int) = (t : Int) := by rw [Int.tmod_eq_emod_of_nonneg ha0]; exact ht
  have hn0 : ¬ (n : Int) = 0 := by omega
  have hnb : ((n : Int) == 0) = false := by simpa using hn0
  have hn4 : ¬ n = 0 := by omega
  have hwa : IntKind.i64.wrap at0 = at0 := by rw [IntKind.wrap_i64]; omega
  have hwt : IntKind.i64.wrap (t : Int) = (t : Int) := by rw [IntKind.wrap_i64]; omega
  have bx := HGF.out.box.cell
  go_upto_region 3 with (fail)
  clear htm hn0 hnb hn4 hwa hwt ht ha0 ha1 bx
  obtain ⟨i0, hi0, hz0, hz1, hz2⟩ := info_parts infoLong
  have hrs := HGF.out.rs
  have hrl := HRM.out
  have hml : m ≤ 2000000 := by omega
  have hso := HSO.out
  have h1c : ∀ u ∈ lv rs, u.oneCell' = true := by
    intro u hu
    obtain ⟨x, -, rfl⟩ := List.mem_map.1 hu
    rfl
  go_upto_region 4 with (first
    | (at_builtin; refine wpList_copied rfl _ _ 25 rfl 2 i0 (.int .i64 0) 8 Try.underlying25 hi0 hz0 hz1 hz2 rfl (by decide) ra m rc (lv rs) rfl rfl hrs2.out (by rw [lv_len]; exact hrl) hso h1c hml ?_; intro ta tc W3 hown3 hk3; have HW3 := Lib.hid hown3; have HK3 := Lib.hid hk3; clear hown3 hk3)
    | (at_builtin; refine wpList_copied rfl _ _ 25 rfl 2 i0 (.int .i64 0) 8 Try.underlying25 hi0 hz0 hz1 hz2 rfl (by decide) ra m rc (lv rs) rfl rfl hrs (by rw [lv_len]; exact hrl) hso h1c hml ?_; intro ma mc W2 hown2 hk2; have HW2 := Lib.hid hown2; have HK2 := Lib.hid hk2; have hrs2 := Lib.hid (hrs.kept hk2); clear hown2 hk2)
    | fail)
  have HKA : Hid (Kept wB W3) := Lib.hid (HK2.out.trans HK3.out)
  have HMA : Hid (W3.ownsRow wB.heap.size 2 1 (.slice ma m mc) m (lv rs)) := Lib.hid (ownsRow_upd HW2.out HK3.out (fun _ _ f => f))
  obtain ⟨Bt, hBt⟩ : ∃ Bt, Bt = W2.heap.size := ⟨_, rfl⟩
  rw [← hBt] at HW3
  have HBW : Hid (wB.heap.size ≤ Bt) := Lib.hid (by have := HK2.out.size; omega)
  have HNE : Hid (∀ g, ma = some ⟨g, 0, none⟩ → g < Bt) := Lib.hid (fun g e => by subst e; have := (World.ownsRow.lt HW2.out g rfl).2; omega)
  clear hBt HW2 HK2 HK3 hi0 hz0 hz1 hz2 hrs hrs2 hrl hso h1c
  obtain ⟨ol, hol⟩ : ∃ k, os.length = k := ⟨_, rfl⟩
  have HOS := Lib.hid hol
  have hol2 : ol ≤ 9223372036854775807 := by rw [← hol]; exact HOL.out
  rw [hol]
  clear hol
  have HMT : Hid (MTP m 0 0 rs rs rs) := Lib.hid ⟨HRM.out, HRM.out, fun j hj => ⟨fun _ => rfl, fun h => h⟩, fun j hj => ⟨fun _ => rfl, Iff.rfl⟩⟩
  go_upto_region 5 with (fail)
  go_loopw [41] (fun ix wr => ∃ (i : Nat) (ms ts : List Int), ix = .int .i64 i ∧ i ≤ m ∧ Hid (Kept wB wr) ∧ Hid (wr.ownsRow wB.heap.size 2 1 (.slice ma m mc) m (lv ms)) ∧ Hid (wr.ownsRow Bt 2 1 (.slice ta m tc) m (lv ts)) ∧ Hid (MTP m i i rs ms ts)) (fun ix _ => m - (intOf ix).toNat)
  case atStart => exact ⟨0, rs, rs, rfl, by omega, HKA, HMA, HW3, HMT⟩
  case round =>
    clear HKA HMA HW3 HMT
    obtain ⟨i, ms, ts, rfl, hi, HK, HMA, HTA, HMT⟩ := hrel
    by_cases hlt : i < m
    · obtain ⟨mg, rfl⟩ : ∃ g, ma = some ⟨g, 0, none⟩ := by
        rcases HMA.out.2 with ⟨h1, h2⟩ | ⟨g, cap, cur, h1, -⟩
        · cases h1; omega
        · cases h1; exact ⟨g, rfl⟩
      obtain ⟨tg, rfl⟩ : ∃ g, ta = some ⟨g, 0, none⟩ := by
        rcases HTA.out.2 with ⟨h1, h2⟩ | ⟨g, cap, cur, h1, -⟩
        · cases h1; omega
        · cases h1; exact ⟨g, rfl⟩
      have hne : Hid (¬ mg = tg ∧ wB.heap.size ≤ mg ∧ wB.heap.size ≤ tg) := Lib.hid (by
        have h1 := HNE.out mg rfl
        have h2 := (World.ownsRow.lt HTA.out tg rfl).1
        have h3 := (World.ownsRow.lt HMA.out mg rfl).1
        have h4 := HBW.out
        omega)
      have j0 : (i : Int) < (m : Int) := by omega
      have j1 : (0 : Int) ≤ (i : Int) := by omega
      have mc0 := HMA.out.cellAt i (by omega)
      rw [show (lv ms)[i]? = some (.int .i64 (rs.getD i 0)) from by rw [lv_get (by rw [HMT.out.lm]; exact hlt), (HMT.out.gm i hlt).1 (Nat.le_refl _)]] at mc0
      have mf0 := HMA.out.frozenAt i
      obtain ⟨x, hx⟩ : ∃ x, rs.getD i 0 = x := ⟨_, rfl⟩
      have hxb : 0 ≤ x ∧ x < 1125899906842624 := by rw [← hx]; exact HRI.out _ (by have := HRM.out; simp [show i < rs.length by omega])
      rw [hx] at mc0
      have HX := Lib.hid hx
      clear hx
      have hw1 : wrap64 (x + 1) = x + 1 := by unfold wrap64; omega
      have hw2 : IntKind.i64.wrap (x + 1) = x + 1 := by rw [IntKind.wrap_i64]; omega
      have HM1 : Hid ((wr.setCell ⟨mg, i, none⟩ (.int .i64 (x + 1))).ownsRow wB.heap.size 2 1 (.slice (some ⟨mg, 0, none⟩) m mc) m (lv (ms.set i (x + 1)))) := Lib.hid (by
        have h := (HMA.out.stored i (.int .i64 (x + 1))).1
        rwa [show lv (ms.set i (x + 1)) = (lv ms).set i (.int .i64 (x + 1)) by simp [lv, List.map_set]])
      have HT1 : Hid ((wr.setCell ⟨mg, i, none⟩ (.int .i64 (x + 1))).ownsRow Bt 2 1 (.slice (some ⟨tg, 0, none⟩) m tc) m (lv ts)) := Lib.hid (ownsRow_far HTA.out (Upd.setCell (S := fun k => k = mg) (Upd.refl _ _) (.inl rfl) _) (fun k hk e => by cases hk; exact hne.out.1 e.symm))
      have HKM : Hid (Kept wB (wr.setCell ⟨mg, i, none⟩ (.int .i64 (x + 1)))) := Lib.hid (Kept.set HK.out hne.out.2.1 _)
      have HMT1 : Hid (MTP m (i + 1) i rs (ms.set i (x + 1)) ts) := Lib.hid (HMT.out.more hlt (by omega))
      have HMT0 : Hid (MTP m (i + 1) i rs ms ts) := Lib.hid HMT.out.more0
      clear HMT
      go_upto_region 7 with (fail)
      go_cut [53] from 44 to 53 (fun z wx => (∃ b : Bool, z = .bool b) ∧ wx = wr)
      case first =>
        by_cases q1 : i < ol
        · obtain ⟨ob, oo, rfl, oc0⟩ := (HOP.out.kept (HK0.out.trans HK.out)).at i (by rw [List.length_map, HOS.out]; exact q1)
          obtain ⟨bb, hbb⟩ : ∃ b, (os.map Value.bool)[i]? = some (.bool b) := by
            have h1 : i < os.length := by rw [HOS.out]; exact q1
            exact ⟨os[i], by simp [h1]⟩
          rw [hbb] at oc0
          have k1 : (i : Int) < (ol : Int) := by omega
          have k2 : decide ((i : Int) < (ol : Int)) = true := by simpa using k1
          go_wp2_with fail
          go_meet
          case rel => exact ⟨⟨bb, rfl⟩, rfl⟩
        · have k2 : decide ((i : Int) < (ol : Int)) = false := by simp; omega
          go_wp2_with fail
          go_meet
          case rel => exact ⟨⟨false, rfl⟩, rfl⟩
      case rest =>
        obtain ⟨⟨bb, rfl⟩, rfl⟩ := hcut
        go_upto_if 53 with (fail)
        go_cut [] from 54 to 59 (fun wx => ∃ ms2 : List Int, Hid (Kept wB wx) ∧ Hid (wx.ownsRow wB.heap.size 2 1 (.slice (some ⟨mg, 0, none⟩) m mc) m (lv ms2)) ∧ Hid (wx.ownsRow Bt 2 1 (.slice (some ⟨tg, 0, none⟩) m tc) m (lv ts)) ∧ Hid (MTP m (i + 1) i rs ms2 ts))
        case first =>
          cases bb with
          | true =>
            go_wp2_with fail
            go_meet
            case rel => exact ⟨_, HKM, HM1, HT1, HMT1⟩
          | false =>
            go_wp2_with fail
            go_meet
            case rel => exact ⟨ms, HK, HMA, HTA, HMT0⟩
        case rest =>
          obtain ⟨ms2, HK2, HMA2, HTA2, HMT2⟩ := hcut
          clear HK HMA HTA HMT1 HMT0 HM1 HT1 HKM mc0 mf0 hw1 hw2
          have tc0 := HTA2.out.cellAt i (by omega)
          rw [show (lv ts)[i]? = some (.int .i64 x) from by rw [lv_get (by rw [HMT2.out.lt]; exact hlt), (HMT2.out.gt i hlt).1 (Nat.le_refl _), HX.out]] at tc0
          have tf0 := HTA2.out.frozenAt i
          by_cases hx0 : 0 < x
          · have hb1 : decide (0 < x) = true := by simpa using hx0
            obtain ⟨r, hr⟩ : ∃ r : Nat, (i : Int) % 7 = (r : Int) := ⟨((i : Int) % 7).toNat, by omega⟩
            have hr7 : r ≤ 7 := by omega
            have hi7 : (i : Int).tmod 7 = (r : Int) := by rw [Int.tmod_eq_emod_of_nonneg j1]; exact hr
            have hwr : IntKind.i64.wrap (r : Int) = (r : Int) := by rw [IntKind.wrap_i64]; omega
            have hw1 : wrap64 (x + (r : Int)) = x + (r : Int) := by unfold wrap64; omega
            have hw2 : IntKind.i64.wrap (x + (r : Int)) = x + (r : Int) := by rw [IntKind.wrap_i64]; omega
            have HT3 : Hid ((wc.setCell ⟨tg, i, none⟩ (.int .i64 (x + (r : Int)))).ownsRow Bt 2 1 (.slice (some ⟨tg, 0, none⟩) m tc) m (lv (ts.set i (x + (r : Int))))) := Lib.hid (by
              have h := (HTA2.out.stored i (.int .i64 (x + (r : Int)))).1
              rwa [show lv (ts.set i (x + (r : Int))) = (lv ts).set i (.int .i64 (x + (r : Int))) by simp [lv, List.map_set]])
            have HM3 : Hid ((wc.setCell ⟨tg, i, none⟩ (.int .i64 (x + (r : Int)))).ownsRow wB.heap.size 2 1 (.slice (some ⟨mg, 0, none⟩) m mc) m (lv ms2)) := Lib.hid (ownsRow_far HMA2.out (Upd.setCell (S := fun k => k = tg) (Upd.refl _ _) (.inl rfl) _) (fun k hk e => by cases hk; exact hne.out.1 e))
            have HK3 : Hid (Kept wB (wc.setCell ⟨tg, i, none⟩ (.int .i64 (x + (r : Int))))) := Lib.hid (Kept.set HK2.out hne.out.2.2 _)
            have HMT3 : Hid (MTP m (i + 1) (i + 1) rs ms2 (ts.set i (x + (r : Int)))) := Lib.hid (HMT2.out.tw hlt (by omega) (by rw [HX.out]; exact hx0))
            clear HK2 HMA2 HTA2 HMT2 hr
            go_wp2_with fail
            go_roundw
            case rel => exact ⟨i + 1, ms2, _, by go_num, by omega, HK3, HM3, HT3, HMT3⟩
            case measure => simp [intOf]; omega
          · have hb1 : decide (0 < x) = false := by simpa using hx0
            have HMT3 : Hid (MTP m (i + 1) (i + 1) rs ms2 ts) := Lib.hid HMT2.out.tw0
            clear HMT2
            go_wp2_with fail
            go_roundw
            case rel => exact ⟨i + 1, ms2, ts, by go_num, by omega, HK2, HMA2, HTA2, HMT3⟩
            case measure => simp [intOf]; omega
    · obtain ⟨ma', mc', e9, hmr⟩ := Rd.owns HMA.out
      cases e9
      obtain ⟨ta', tc', e9, htr⟩ := Rd.owns HTA.out
      cases e9
      have hMT : MTP m i i rs ms ts := HMT.out
      have HMR := Lib.hid hmr
      have HTR := Lib.hid htr
      have HMT2 : Hid (MTP m i i rs ms ts) := HMT
      have HLM : Hid (ms.length = m ∧ ts.length = m) := Lib.hid ⟨hMT.lm, hMT.lt⟩
      have HMO : Hid (∀ u v, OpenA n m ys rs u v → OpenA n m ys ms u v) := Lib.hid (fun u v ⟨a, ha, h1, h2, h3⟩ => ⟨a, ha, h1, h2, (HMT.out.gm a ha).2 h3⟩)
      have HTO : Hid (∀ u v, OpenA n m ys ts u v ↔ OpenA n m ys rs u v) := Lib.hid (fun u v => ⟨fun ⟨a, ha, h1, h2, h3⟩ => ⟨a, ha, h1, h2, (HMT.out.gt a ha).2.1 h3⟩, fun ⟨a, ha, h1, h2, h3⟩ => ⟨a, ha, h1, h2, (HMT.out.gt a ha).2.2 h3⟩⟩)
      have j0 : ¬ (i : Int) < (m : Int) := by omega
      clear hmr htr hMT HMT HMT2 HMA HTA
      have T1 := fun (w : World) (k : Kept wr w) => Lib.hid (to_ok (n : Int) S T n m a3 a4 a5 a6 a7 a8 c3 c4 c5 c6 c7 c8 ys ra rc rs t w HG.out (HGF.out.kept (HK.out.trans k)).cr (HGF.out.kept (HK.out.trans k)).rs HRM.out htn)
      have T2 := fun (w : World) (k : Kept wr w) => Lib.hid (to_ok (n : Int) S T n m a3 a4 a5 a6 a7 a8 c3 c4 c5 c6 c7 c8 ys ma mc ms t w HG.out (HGF.out.kept (HK.out.trans k)).cr (HMR.out.kept k) HLM.out.1 htn)
      have T3 := fun (w : World) (k : Kept wr w) => Lib.hid (to_ok (n : Int) S T n m a3 a4 a5 a6 a7 a8 c3 c4 c5 c6 c7 c8 ys ta tc ts t w HG.out (HGF.out.kept (HK.out.trans k)).cr (HTR.out.kept k) HLM.out.2 htn)
      have F1 := fun (w : World) (k : Kept wr w) => Lib.hid (from_ok (n : Int) S T n m a3 a4 a5 a6 a7 a8 c3 c4 c5 c6 c7 c8 ys ra rc rs t w HG.out (HGF.out.kept (HK.out.trans k)).cr (HGF.out.kept (HK.out.trans k)).rs HRM.out htn)
      have F2 := fun (w : World) (k : Kept wr w) => Lib.hid (from_ok (n : Int) S T n m a3 a4 a5 a6 a7 a8 c3 c4 c5 c6 c7 c8 ys ma mc ms t w HG.out (HGF.out.kept (HK.out.trans k)).cr (HMR.out.kept k) HLM.out.1 htn)
      have K1 := Lib.hid (Upd.refl (fun _ => False) wr).drew
      have C1 : (∀ i, wr.drew.cell? ⟨cb, i, none⟩ = (#[.int .i64 n, .int .i64 S, .int .i64 T, .slice a3 (n + 1) c3, .slice a4 m c4, .slice a5 m c5, .slice a6 m c6, .slice a7 m c7, .slice a8 m c8] : Array Value)[i]?) := (HGF.out.kept (HK.out.trans K1.out)).box.cell
      go_upto_region 12 with (fail)
      go_region_held3 (fun w' => (∀ i, w'.cell? ⟨cb, i, none⟩ = (#[.int .i64 n, .int .i64 S, .int .i64 T, .slice a3 (n + 1) c3, .slice a4 m c4, .slice a5 m c5, .slice a6 m c6, .slice a7 m c7, .slice a8 m c8] : Array Value)[i]?))
        (first | exact C1 | exact C2 | exact C3 | exact C4)
        ((first
        | (go_at_call 11; refine (T3 _ K3.out).out.mono ?_; rintro e V4 ⟨d3, D3, rfl, hb, -, hd, hk'⟩; have K4 := Lib.hid (K3.out.trans hk'); have B1'' := Lib.hid (B1'.out.kept hk'); have B2' := Lib.hid (B2.out.kept hk'); have B3 := Lib.hid hb; have I3 := Lib.hid hd; have C4 : (∀ i, V4.cell? ⟨cb, i, none⟩ = (#[.int .i64 n, .int .i64 S, .int .i64 T, .slice a3 (n + 1) c3, .slice a4 m c4, .slice a5 m c5, .slice a6 m c6, .slice a7 m c7, .slice a8 m c8] : Array Value)[i]?) := (HGF.out.kept (HK.out.trans K4.out)).box.cell; clear hk' hb hd)
        | (go_at_call 11; refine (T2 _ K2.out).out.mono ?_; rintro e V3 ⟨d2, D2, rfl, hb, -, hd, hk'⟩; have K3 := Lib.hid (K2.out.trans hk'); have B1' := Lib.hid (B1.out.kept hk'); have B2 := Lib.hid hb; have I2 := Lib.hid hd; have C3 : (∀ i, V3.cell? ⟨cb, i, none⟩ = (#[.int .i64 n, .int .i64 S, .int .i64 T, .slice a3 (n + 1) c3, .slice a4 m c4, .slice a5 m c5, .slice a6 m c6, .slice a7 m c7, .slice a8 m c8] : Array Value)[i]?) := (HGF.out.kept (HK.out.trans K3.out)).box.cell; clear hk' hb hd)
        | (go_at_call 11; refine (T1 _ K1.out).out.mono ?_; rintro e V2 ⟨d1, D1, rfl, hb, -, hd, hk'⟩; have K2 := Lib.hid (K1.out.trans hk'); have B1 := Lib.hid hb; have I1 := Lib.hid hd; have C2 : (∀ i, V2.cell? ⟨cb, i, none⟩ = (#[.int .i64 n, .int .i64 S, .int .i64 T, .slice a3 (n + 1) c3, .slice a4 m c4, .slice a5 m c5, .slice a6 m c6, .slice a7 m c7, .slice a8 m c8] : Array Value)[i]?) := (HGF.out.kept (HK.out.trans K2.out)).box.cell; clear hk' hb hd)))
      clear C1 C2 C3 T1 T2 T3 B1 B1' B2 K1 K2 K3 j0
      have KD := Lib.hid (K4.out.drew)
      have C5 : (∀ i, V4.drew.cell? ⟨cb, i, none⟩ = (#[.int .i64 n, .int .i64 S, .int .i64 T, .slice a3 (n + 1) c3, .slice a4 m c4, .slice a5 m c5, .slice a6 m c6, .slice a7 m c7, .slice a8 m c8] : Array Value)[i]?) := C4
      go_upto_region 13 with (fail)
      go_region_held3 (fun w' => (∀ i, w'.cell? ⟨cb, i, none⟩ = (#[.int .i64 n, .int .i64 S, .int .i64 T, .slice a3 (n + 1) c3, .slice a4 m c4, .slice a5 m c5, .slice a6 m c6, .slice a7 m c7, .slice a8 m c8] : Array Value)[i]?))
        (first | exact C5 | exact C6 | exact C7)
        ((first
        | (go_at_call 12; refine (F2 _ K6.out).out.mono ?_; rintro e V7 ⟨g2, G2, rfl, hb, -, hd, hk'⟩; have K7 := Lib.hid (K6.out.trans hk'); have BB1 := Lib.hid (Y1.out.kept hk'); have BB2 := Lib.hid hb; have J2 := Lib.hid hd; have KY := Lib.hid (KX.out.trans hk'); have C7 : (∀ i, V7.cell? ⟨cb, i, none⟩ = (#[.int .i64 n, .int .i64 S, .int .i64 T, .slice a3 (n + 1) c3, .slice a4 m c4, .slice a5 m c5, .slice a6 m c6, .slice a7 m c7, .slice a8 m c8] : Array Value)[i]?) := (HGF.out.kept (HK.out.trans K7.out)).box.cell; clear hk' hb hd)
        | (go_at_call 12; refine (F1 _ KD.out).out.mono ?_; rintro e V6 ⟨g1, G1, rfl, hb, -, hd, hk'⟩; have K6 := Lib.hid (KD.out.trans hk'); have Y1 := Lib.hid hb; have J1 := Lib.hid hd; have KX := Lib.hid ((Upd.refl (fun _ => False) V4).drew.trans hk'); have C6 : (∀ i, V6.cell? ⟨cb, i, none⟩ = (#[.int .i64 n, .int .i64 S, .int .i64 T, .slice a3 (n + 1) c3, .slice a4 m c4, .slice a5 m c5, .slice a6 m c6, .slice a7 m c7, .slice a8 m c8] : Array Value)[i]?) := (HGF.out.kept (HK.out.trans K6.out)).box.cell; clear hk' hb hd)))
      have A1 := Lib.hid (B1''.out.kept KY.out)
      have A2 := Lib.hid (B2'.out.kept KY.out)
      have A3 := Lib.hid (B3.out.kept KY.out)
      have L1 : Hid (∀ v, v < n → D2.getD v 0 ≤ D1.getD v 0) := Lib.hid (fun v hv => I2.out.less I1.out (fun u x _ _ h => HMO.out x u h) _ v hv rfl)
      have L2 : Hid (∀ v, v < n → G2.getD v 0 ≤ G1.getD v 0) := Lib.hid (fun v hv => J2.out.less J1.out (fun u x _ _ h => HMO.out u x h) _ v hv rfl)
      have E3 : D3 = D1 := I3.out.one (I1.out.congr (fun u x _ _ => (HTO.out x u).symm))
      have LL : Hid (D1.length = n ∧ D2.length = n ∧ G1.length = n ∧ G2.length = n) := Lib.hid ⟨I1.out.len, I2.out.len, J1.out.len, J2.out.len⟩
      subst E3
      have HNI := fun (w : World) (k : Kept V7 w) => Lib.hid (nats_z (some ⟨d1, 0, none⟩) (some ⟨d3, 0, none⟩) n n D3 D3 n n true w (Rd.blk (A1.out.kept k)) (Rd.blk (A3.out.kept k)) LL.out.1 LL.out.1 (by omega) (by omega) (by simp))
      have HKV : Hid (Kept wB V7) := Lib.hid (HK.out.trans K7.out)
      clear C5 C6 KX KY B1'' B2' B3 Y1 K6 KD K7 K4 F1 F2 I1 I2 I3 J1 J2 HMO HTO
      have hnn : ((n : Int) != (n : Int)) = false := by simp
      have bx := C7
      clear C7
      go_wp2_with fail
      refine (HNI _ (Upd.refl _ _)).out.mono ?_
      rintro e V8 ⟨rfl, hk8⟩
      have K8 := Lib.hid hk8
      clear hk8 HNI bx
      go_upto_region 17 with (fail)
      go_loopw [128] (fun ix wr => ∃ (v : Nat), ix = .int .i64 v ∧ v ≤ n ∧ Hid (Kept V7 wr)) (fun ix _ => n - (intOf ix).toNat)
      case atStart => exact ⟨0, rfl, by omega, K8⟩
      case round =>
        clear K8
        obtain ⟨v, rfl, hv, K8⟩ := hrel
        by_cases hlv : v < n
        · have q1 : wr.cell? ⟨d1, v, none⟩ = some (.int .i64 (D3.getD v 0 : Nat)) := by rw [(A1.out.kept K8.out).cell]; simp only [List.getElem?_toArray]; exact nv_get (by rw [LL.out.1]; exact hlv)
          have q2 : wr.cell? ⟨d2, v, none⟩ = some (.int .i64 (D2.getD v 0 : Nat)) := by rw [(A2.out.kept K8.out).cell]; simp only [List.getElem?_toArray]; exact nv_get (by rw [LL.out.2.1]; exact hlv)
          have q3 : wr.cell? ⟨g1, v, none⟩ = some (.int .i64 (G1.getD v 0 : Nat)) := by rw [(BB1.out.kept K8.out).cell]; simp only [List.getElem?_toArray]; exact nv_get (by rw [LL.out.2.2.1]; exact hlv)
          have q4 : wr.cell? ⟨g2, v, none⟩ = some (.int .i64 (G2.getD v 0 : Nat)) := by rw [(BB2.out.kept K8.out).cell]; simp only [List.getElem?_toArray]; exact nv_get (by rw [LL.out.2.2.2]; exact hlv)
          have l1 := L1.out v hlv
          have l2 := L2.out v hlv
          generalize D3.getD v 0 = x1 at q1 l1
          generalize D2.getD v 0 = x2 at q2 l1
          generalize G1.getD v 0 = x3 at q3 l2
          generalize G2.getD v 0 = x4 at q4 l2
          have i1 : (0 : Int) ≤ (v : Int) := by omega
          have i2 : (v : Int) < (n : Int) := by omega
          have z1 : decide ((x1 : Int) < (x2 : Int)) = false := by simp; omega
          have z2 : decide ((x3 : Int) < (x4 : Int)) = false := by simp; omega
          have z3 : ¬ x1 < x2 := by omega
          have z4 : ¬ x3 < x4 := by omega
          clear l1 l2
          go_upto_region 19 with (fail)
          refine wp_region_kept (by kernel_rfl) (by kernel_rfl) ?_
          repeat (go_big_quiet_step (fail))
          refine wpQuiet_nil ?_
          intro w1 hk1
          have K9 := Lib.hid (K8.out.trans hk1)
          clear hk1 K8 q1 q2 q3 q4
          go_wp2_with fail
          go_roundw
          case rel => exact ⟨v + 1, by go_num, by omega, K9⟩
          case measure => simp [intOf]; omega
        · have i2 : ¬ (v : Int) < (n : Int) := by omega
          have HAW := fun (w : World) => Lib.hid (awake5_any w)
          go_wp2_with fail
          refine (HAW _).out.mono ?_
          rintro e w9 ⟨rfl, hk9⟩
          go_wp2_with fail
          go_ret
          exact ⟨rfl, HK0.out.trans (HKV.out.trans (K8.out.trans hk9))⟩
theorem BoolRow.rd5 {w : World} {a : Option Addr} {cap : Nat} {zs : List Bool} (h : BoolRow w a cap zs) : Rd w a (zs.map Value.bool) := by
  rcases h.cells with h0 | ⟨b, off, rfl, hc⟩
  · exact .inl (by rw [List.eq_nil_of_length_eq_zero h0]; rfl)
  · refine .inr ⟨b, off, rfl, fun i u hu => ?_⟩
    rw [List.getElem?_map] at hu
    obtain ⟨x, hx, rfl⟩ := Option.map_eq_some_iff.1 hu
    obtain ⟨hi, rfl⟩ := List.getElem?_eq_some_iff.1 hx
    exact hc i hi
theorem distMore_walk (N S T : Int) (a : Option Addr) (cap : Nat) (els : List (List Value)) (s1 : Option Addr) (cap1 : Nat) (z1 : List Int) (at0 : Int) (s2 : Option Addr) (cap2 : Nat) (z2 : List Bool) (w : World) (_wN : (Lit.int .i64 N).wf = true) (_wS : (Lit.int .i64 S).wf = true) (_wT : (Lit.int .i64 T).wf = true) (hrow : FlatRow [some .i64, some .i64, some .i64] w a cap els) (_hf : ∀ x ∈ els, fits [some .i64, some .i64, some .i64] x)
    (w1 : IntRow .i64 w s1 cap1 z1) (m1 : ∀ n ∈ z1, (Lit.int .i64 n).wf = true) (wa : (Lit.int .u8 at0).wf = true) (w2 : BoolRow w s2 cap2 z2) :
    Calls Try.prog 3 #[.agg #[.int .i64 N, .int .i64 S, .int .i64 T, .slice a els.length cap], .slice s1 z1.length cap1, .int .u8 at0, .slice s2 z2.length cap2] w fun e w' => e = .returned (.bool true) ∧ Kept w w' := by
  obtain ⟨xs, hl, hA, hx⟩ := ars_of_flat hrow
  have hle := hrow.le
  have hmo := hrow.most
  have l1 := w1.le
  have l1' := w1.most
  have l2 := w2.le
  have l2' := w2.most
  have ho := bounds_u8 wa
  unfold maxLen at hmo l1' l2'
  exact distMore_core N S T a els.length cap xs s1 cap1 z1 at0 s2 cap2 z2 w hA hl hle hmo (fun x hx0 => bounds_i64 (hx x hx0).2.2) w1.rd (fun x hx0 => bounds_i64 (m1 x hx0)) (by omega) w2.rd5 (by omega) ho.1 ho.2
end Go.Proofs.Ytoapekkmaajfmaa
