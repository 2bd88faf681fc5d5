/- The law RepairFlat (printed by gen_flat19.py). -/
import Derived.Test.YticeionjlknlcaaArcsP
import Derived.Test.YticeionjlknlcaaLowered
import Derived.Test.YticeionjlknlcaaAwake19
import Derived.Test.YticeionjlknlcaaLabAt
import Derived.Test.YticeionjlknlcaaGst
import Derived.Test.YticeionjlknlcaaCopyRow
import Derived.Test.YticeionjlknlcaaMapRd
import Derived.Test.YticeionjlknlcaaRowsRd
import Derived.Deep.CutRange
import Derived.StillTailTactics
namespace Go.Proofs.Yticeionjlknlcaa
set_option linter.unusedVariables false
set_option linter.unusedSimpArgs false
open Go.RowKit

attribute [local go_sem] cell?_ext
/-- A mark at each of those named. -/
def mark (l : List Nat) (n : Nat) : List Int := (List.range n).map fun v => if v ∈ l then 1 else 0
theorem mark_len (l : List Nat) (n : Nat) : (mark l n).length = n := by simp [mark]
theorem mark_nil (n : Nat) : List.replicate n 0 = mark [] n := by
  refine List.ext_getElem (by simp [mark]) fun i h1 h2 => ?_
  simp [mark]
theorem mark_get (l : List Nat) (n v : Nat) (h : v < n) : (mark l n).getD v 0 = if v ∈ l then 1 else 0 := by simp [mark, h]
theorem mark_set (l : List Nat) (n x : Nat) (h : x < n) : (mark l n).set x 1 = mark (l ++ [x]) n := by
  refine list_ext_getD (n := n) (by rw [List.length_set, mark_len]) (mark_len _ _) fun v hv => ?_
  rw [getD_set (by rw [mark_len]; exact h), mark_get _ _ _ hv, mark_get _ _ _ hv]
  by_cases e : v = x
  · subst e; simp
  · simp [e]
theorem Mp.len0 {w : World} {b m : Nat} {h : List Int} {l : List Bool} (hm : Mp w b m h l) (hl : l.count true = 0) : (Builtin.len_ #[43] 3 #[.map (some b)]).run Try.prog w = .ok (.int .i64 0) w := by
  obtain ⟨D, ho, hd⟩ := hm
  have h1 := ho.len Try.underlying43 3
  rw [hd.size, hl] at h1
  exact h1
theorem ints_at (a a' : Option Addr) (c c' : Nat) (xs : List Int) (n : Nat) (w : World) (hx : Rd w a (lv xs)) (hy : Rd w a' (lv xs)) (hn : xs.length = n) (hm : n ≤ 1000000000) :
    Calls Try.prog 15 #[.slice a n c, .slice a' n c'] w fun e w' => e = .returned (.bool true) ∧ Kept w w' := by
  subst hn
  have h1 := ints_same a a' c c' xs xs w hx hy hm hm
  simpa using h1
set_option maxRecDepth 100000 in
set_option maxHeartbeats 4000000 in
theorem repairFlat_core (N0 S0 T0 : Int) (a : Option Addr) (k0 cap : Nat) (ys0 : List Ar) (la : Option Addr) (lc : Nat) (ls : List Int) (ha : Option Addr) (hc : Nat) (hs0 : List Int) (w : World)
    (h : Ars w a ys0) (hk0 : ys0.length = k0) (hle : k0 ≤ cap) (hmost : cap ≤ 9223372036854775807) (hwf : ∀ x ∈ ys0, -9223372036854775808 ≤ x.c ∧ x.c ≤ 9223372036854775807)
    (hl : Rd w la (lv ls)) (hli : ∀ x ∈ ls, -9223372036854775808 ≤ x ∧ x ≤ 9223372036854775807) (hll : ls.length ≤ 9223372036854775807)
    (hh1 : Rd w ha (lv hs0)) (hm1 : hs0.length ≤ 9223372036854775807) :
    Calls Try.prog 6 #[.agg #[.int .i64 N0, .int .i64 S0, .int .i64 T0, .slice a k0 cap], .slice la ls.length lc, .slice ha hs0.length hc] w fun e w' => e = .returned (.bool true) ∧ Kept w w' := by
  have HS : ∀ (w : World), Ars w a ys0 → Hid (Calls Try.prog 13 #[.agg #[.int .i64 N0, .int .i64 S0, .int .i64 T0, .slice a k0 cap], .int .i64 16, .int .i64 40] w (NetIs w)) := by
    intro w h
    subst hk0
    exact Lib.hid (Some_any N0 S0 T0 a cap ys0 w h hle hmost hwf)
  have HX := Lib.hid (h.kept ((Upd.refl (fun _ => False) w).alloc (.cells #[.int .i64 N0, .int .i64 S0, .int .i64 T0, .slice a k0 cap] 24)))
  have HK := Lib.hid ((Upd.refl (fun _ => False) w).alloc (.cells #[.int .i64 N0, .int .i64 S0, .int .i64 T0, .slice a k0 cap] 24))
  have HL := Lib.hid hl
  have HLI := Lib.hid hli
  have HHR := Lib.hid hh1
  have HHX := Lib.hid hm1
  clear hh1 hm1
  clear h hl hli hle hmost hwf
  go_enter Try.func6, Try.ntmps6
  go_wp2_with fail
  refine (HS _ HX.out).out.mono ?_
  rintro e w1 ⟨N, S, T, a', cap', ys, rfl, hok, hown, hk1⟩
  have HK1 := Lib.hid (HK.out.trans hk1)
  have HOK := Lib.hid hok
  have HA : Hid (Ars w1 a' ys) := Lib.hid hown.at.2
  clear hk1 hok hown HS HX HK
  have HLE := fun (w : World) (h : Ars w a' ys) (hl : Rd w la (lv ls)) => Lib.hid (Left_ok N S T a' cap' ys la lc ls w h HOK.out hl HLI.out hll)
  go_wp2_with fail
  refine (HLE _ HA.out (HL.out.kept HK1.out)).out.mono ?_
  rintro e w2 ⟨B, n, m, a3, c3, a4, c4, a5, c5, a6, c6, a7, c7, a8, c8, ra, rc, rfl, hn, hm2, hcr, -, hk2, -, hro⟩
  have HG : Hid (Gr N S T n m ys) := Lib.hid ⟨HOK.out, hn, hm2⟩
  obtain ⟨rs, hrs⟩ : ∃ rs, resAll (wths ls ys) n ys = rs := ⟨_, rfl⟩
  have HRM : Hid (rs.length = m) := Lib.hid (by rw [← hrs, resAll_len]; exact hm2)
  have HRI : Hid (∀ x ∈ rs, 0 ≤ x ∧ x < 1125899906842624) := Lib.hid (by rw [← hrs]; exact left_in HG.out HLI.out)
  rw [hrs] at hro
  have HRC : Hid (m ≤ rc) := Lib.hid (row_cap' hro)
  have HSO : Hid ((∃ ad, ra = some ad) ∨ (ra = none ∧ m = 0 ∧ rc = 0)) := Lib.hid (someOr_row hro)
  obtain ⟨ra', rc', e9, hrr⟩ := Rd.owns hro
  cases e9
  have hA := (Upd.refl (fun _ => False) w2).alloc (.cells #[.int .i64 N, .int .i64 S, .int .i64 T, .slice a3 (n + 1) c3, .slice a4 m c4, .slice a5 m c5, .slice a6 m c6, .slice a7 m c7, .slice a8 m c8] 29)
  have HK0 := Lib.hid ((HK1.out.trans hk2).trans hA)
  have HGF : Hid (GF N S T n m a3 a4 a5 a6 a7 a8 c3 c4 c5 c6 c7 c8 ys w2.heap.size ra rs (w2.alloc (.cells #[.int .i64 N, .int .i64 S, .int .i64 T, .slice a3 (n + 1) c3, .slice a4 m c4, .slice a5 m c5, .slice a6 m c6, .slice a7 m c7, .slice a8 m c8] 29))) := Lib.hid ⟨Blk.new _ _ _, hcr.kept hA, hrr.kept hA⟩
  clear hn hm2 hcr hk2 hro hrr hrs hA HLE HA HOK HK1 HL HLI hll
  clear hk0
  go_upto_region 2 with (fail)
  generalize (w2.alloc (.cells #[.int .i64 N, .int .i64 S, .int .i64 T, .slice a3 (n + 1) c3, .slice a4 m c4, .slice a5 m c5, .slice a6 m c6, .slice a7 m c7, .slice a8 m c8] 29)) = wB at HGF HK0 ⊢
  generalize w2.heap.size = cb at HGF ⊢
  have HK1 : Hid (Kept wB wB) := Lib.hid (Upd.refl _ _)
  have hn16 : n ≤ 16 := by have := HG.out.len; omega
  have hm80 : m ≤ 1000 := by have := HG.out.len; omega
  have bx := HGF.out.box.cell
  go_wp2_with fail
  refine (heights_any N S T n m a3 a4 a5 a6 a7 a8 c3 c4 c5 c6 c7 c8 ys ha hc hs0 _ HG.out (HHR.out.kept HK0.out) HHX.out).mono ?_
  rintro e W2 ⟨hb, rfl, h3, h4, h5⟩
  have HBH2 := Lib.hid (Rd.blk h3)
  have HLO2 := Lib.hid h4
  have K2 := Lib.hid h5
  have HRH : Hid (rightB N S T (htL N S T n hs0) = true) := Lib.hid (htL_right HG.out _)
  clear h3 h4 h5 bx HHR HHX
  generalize (htL N S T n hs0) = hs at HBH2 HRH
  have HHL : Hid (hs.length = n) := Lib.hid (by have h1 := (right_parts.1 HRH.out).1; have := HG.out.len; omega)
  have LH := fun (w : World) (k : Kept wB w) (a : Option Addr) (c : Nat) (h : Rd w a (lv hs)) => Lib.hid (low_at N S T n m a3 a4 a5 a6 a7 a8 c3 c4 c5 c6 c7 c8 ys ra rc rs a c hs w HG.out HRM.out HHL.out HRH.out (HGF.out.kept k).cr (HGF.out.kept k).rs h)
  have LWH := fun (w : World) (k : Kept wB w) (a : Option Addr) (c : Nat) (h : Rd w a (lv hs)) => Lib.hid (lwd_at N S T n m a3 a4 a5 a6 a7 a8 c3 c4 c5 c6 c7 c8 ys ra rc rs a c hs w HG.out HRM.out HHL.out HRH.out (HGF.out.kept k).cr (HGF.out.kept k).rs h)
  have bx := (HGF.out.kept K2.out).box.cell
  go_wp2_with fail
  refine (LH _ K2.out _ _ HBH2.out).out.mono ?_
  rintro e W3 ⟨la, lc, L, rfl, hl0, hr0, -, hk0⟩
  have HIL := Lib.hid hl0
  have HLR : Hid (rightB N S T L = true) := Lib.hid (low_right HG.out HRH.out hl0)
  have HLL : Hid (L.length = n) := Lib.hid hl0.len
  have HVL : Hid (validB N S T n m ys rs L = true) := Lib.hid (low_valid HG.out HRM.out HRH.out hl0)
  have K3 := Lib.hid (K2.out.trans hk0)
  have HB3 := Lib.hid (HBH2.out.kept hk0)
  have RL3 := Lib.hid hr0
  clear hl0 hr0 hk0 LH bx K2 HBH2
  have hmm := @run_makeMap Try.prog
  have HM4 := Lib.hid (Mp.new W3 n)
  have hal := (Upd.refl (fun _ => False) W3).alloc (.map #[] 0)
  have K4 := Lib.hid (K3.out.trans hal)
  have HB4 := Lib.hid (HB3.out.kept hal)
  have RL4 := Lib.hid (RL3.out.kept hal)
  have HMB : Hid (wB.heap.size ≤ W3.heap.size) := Lib.hid K3.out.size
  clear hal K3 HB3 RL3
  go_upto_region 5 with (fail)
  generalize (W3.alloc (.map #[] 0)) = W4 at K4 HB4 RL4 HM4 ⊢
  generalize W3.heap.size = mb at HM4 HMB ⊢
  clear hmm
  obtain ⟨F, hF⟩ : ∃ F, dnL N S T n m ys rs L (isP false) = F := ⟨_, rfl⟩
  obtain ⟨kf, hkf⟩ : ∃ k, F.length = k := ⟨_, rfl⟩
  have HFL := fun (w : World) (k1 : Kept wB w) (h : Rd w la (lv L)) => Lib.hid (flat_at N S T n m a3 a4 a5 a6 a7 a8 c3 c4 c5 c6 c7 c8 ys ra rc rs la lc L m n F kf w HG.out (HGF.out.kept k1).cr (HGF.out.kept k1).rs h (by have := HLL.out; have := HG.out.len; omega) HRM.out HLL.out hF hkf)
  have HFM : Hid (∀ a, a ∈ F ↔ a < m ∧ dnQ S n ys rs L (isP false) a = true) := Lib.hid (fun a => by rw [← hF]; exact dnL_mem (by unfold mayB; rw [HLR.out, HRM.out]; simp))
  have hkf80 : kf ≤ 1000 := by
    have h1 := dnL_len N S T n m ys rs L (isP false)
    rw [hF, hkf] at h1
    omega
  have HKF := Lib.hid hkf
  clear hF hkf
  have bx := (HGF.out.kept K4.out).box.cell
  go_wp2_with fail
  refine (HFL _ K4.out RL4.out).out.mono ?_
  rintro e W5 ⟨fa, fc, rfl, hfr, hk5⟩
  have K5 := Lib.hid (K4.out.trans hk5)
  have HB5 := Lib.hid (HB4.out.kept hk5)
  have RL5 := Lib.hid (RL4.out.kept hk5)
  have HM5 := Lib.hid (HM4.out.upd hk5 (fun e => e))
  have RF5 := Lib.hid hfr
  clear hfr hk5 K4 HB4 RL4 HM4 HFL bx
  go_upto_region 6 with (fail)
  go_loopw [39] (fun ix wr => ∃ (j c : Nat) (fh : List Int) (fl : List Bool), ix = .int .i64 j ∧ j ≤ kf ∧ c ≤ j ∧ Hid (fh = mark ((F.take j).map (tl ys n)) n) ∧ Hid (Mp wr mb c fh fl) ∧ Hid (Upd (fun k => k = mb) W5 wr)) (fun ix _ => kf - (intOf ix).toNat)
  case atStart => exact ⟨0, 0, _, _, rfl, by omega, by omega, Lib.hid (mark_nil n), HM5, Lib.hid (Upd.refl _ _)⟩
  case round =>
    obtain ⟨j, c, fh, fl, rfl, hj, hcj, HFH, HM6, HU⟩ := hrel
    have K6 := Lib.hid (Upd.late K5.out HU.out (fun i e => by have := HMB.out; omega))
    by_cases hjk : j < kf
    · obtain ⟨fb, fo, rfl, hfc⟩ := (RF5.out.mapped HM5.out HU.out).at j (by rw [nv_len, HKF.out]; exact hjk)
      obtain ⟨s0, hs0⟩ : ∃ s0, s0 = F[j]'(by rw [HKF.out]; exact hjk) := ⟨_, rfl⟩
      rw [show (nv F)[j]? = some (.int .i64 (s0 : Nat)) by simp [nv, HKF.out, hjk, hs0]] at hfc
      have hsm : s0 < m := ((HFM.out s0).1 (by rw [hs0]; exact List.getElem_mem _)).1
      have HFT : Hid (F.take (j + 1) = F.take j ++ [s0]) := Lib.hid (by rw [hs0, List.take_succ_eq_append_getElem (by rw [HKF.out]; exact hjk)])
      have HT := Lib.hid (tail_any N S T n m a3 a4 a5 a6 a7 a8 c3 c4 c5 c6 c7 c8 ys s0 wr HG.out (HGF.out.kept K6.out).cr.r3 hsm)
      obtain ⟨u, hu⟩ : ∃ u, tl ys n s0 = u := ⟨_, rfl⟩
      have hun : u < n := by rw [← hu]; exact (tl_at ys s0 n (by have := HG.out.hm; unfold fst; omega)).1
      rw [hu] at HT
      have HFS : Hid (fh.set u 1 = mark ((F.take (j + 1)).map (tl ys n)) n) := Lib.hid (by rw [HFT.out, HFH.out, List.map_append, List.map_singleton, hu]; exact mark_set _ _ _ hun)
      have HXL : Hid (u < fh.length) := Lib.hid (by rw [HFH.out, mark_len]; exact hun)
      have i1 : (0 : Int) ≤ (j : Int) := by omega
      have i2 : (j : Int) < (kf : Int) := by omega
      have bx := (HGF.out.kept K6.out).box.cell
      clear hs0 hu HFT HFH
      go_wp2_with fail
      refine HT.out.mono ?_
      rintro e w6 ⟨rfl, hk6⟩
      have HM7 := Lib.hid (HM6.out.upd hk6 (fun e => e))
      have HU7 := Lib.hid (HU.out.trans (hk6.wide (S' := fun k => k = mb) (fun _ _ f => f.elim)))
      clear hk6 HM6 HU HT K6 bx hfc
      go_wp2_with (first | (at_mapUpdate; refine wpList_put _ rfl _ _ _ rfl rfl HM7.out (by unfold maxLen; omega) u 1 rfl rfl HXL.out (by omega) (by decide) ?_; intro w8 hM8 hU8; have HM8 := Lib.hid hM8; have HU8 := Lib.hid (HU7.out.trans hU8); clear hM8 hU8) | fail)
      go_roundw
      case rel => exact ⟨j + 1, c + 1, _, _, by go_num, by omega, by omega, HFS, HM8, HU8⟩
      case measure => simp [intOf]; omega
    · obtain rfl : kf = j := by omega
      have HB6 := Lib.hid (HB5.out.mapped HM5.out HU.out)
      have RL6 := Lib.hid (RL5.out.mapped HM5.out HU.out)
      have HFH2 : Hid (∀ v, v < n → L.getD v 0 < hs.getD v 0 → fh.getD v 0 = 1) := Lib.hid (fun v hv h => by
        rw [HFH.out, mark_get _ _ _ hv, if_pos]
        obtain ⟨a, h1, h2, h3⟩ := low_flat HG.out HRH.out HIL.out v hv h
        rw [List.take_of_length_le (by rw [HKF.out]; exact Nat.le_refl _), List.mem_map]
        exact ⟨a, (HFM.out a).2 ⟨h1, h2⟩, h3⟩)
      have HFN : Hid (fh.length = n) := Lib.hid (by rw [HFH.out, mark_len])
      clear HFH HU HM5 RF5 HB5 RL5 K5 hcj
      as_aux_lemma =>
        have HST := fun (w : World) (k1 : Kept wB w) (h : Rd w la (lv L)) => Lib.hid (steep_at N S T n m a3 a4 a5 a6 a7 a8 c3 c4 c5 c6 c7 c8 ys ra rc rs la lc L m n [] 0 w HG.out (HGF.out.kept k1).cr (HGF.out.kept k1).rs h (by have := HLL.out; have := HG.out.len; omega) HRM.out HLL.out (valid_steep HVL.out) rfl)
        have bx := (HGF.out.kept K6.out).box.cell
        have hnN : ((n : Int) != N) = false := by have := HG.out.len.1; simp [this]
        go_wp2_with fail
        refine (HST _ K6.out RL6.out).out.mono ?_
        rintro e W7 ⟨sa, sc, rfl, -, hk7⟩
        have K7 := Lib.hid (K6.out.trans hk7)
        have HB7 := Lib.hid (HB6.out.kept hk7)
        have RL7 := Lib.hid (RL6.out.kept hk7)
        have HM7 := Lib.hid (HM6.out.upd hk7 (fun e => e))
        clear hk7 K6 HB6 RL6 HM6 HST bx hjk
        have hmm := @run_makeMap Try.prog
        have HT8 := Lib.hid (Mp.new W7 n)
        have hal := (Upd.refl (fun _ => False) W7).alloc (.map #[] 0)
        have HTM : Hid (¬ mb = W7.heap.size ∧ wB.heap.size ≤ W7.heap.size) := Lib.hid ⟨fun e => by have := HM7.out.lt; omega, K7.out.size⟩
        have K8 := Lib.hid (K7.out.trans hal)
        have HB8 := Lib.hid (HB7.out.kept hal)
        have RL8 := Lib.hid (RL7.out.kept hal)
        have HM8 := Lib.hid (HM7.out.upd hal (fun e => e))
        clear hal K7 HB7 RL7 HM7
        go_upto_region 14 with (fail)
        generalize (W7.alloc (.map #[] 0)) = W8 at K8 HB8 RL8 HM8 HT8 ⊢
        generalize W7.heap.size = tb at HT8 HTM ⊢
        clear hmm hnN
        have bx := (HGF.out.kept K8.out).box.cell
        go_wp2_with fail
        refine (LWH _ K8.out _ _ HB8.out).out.mono ?_
        rintro e W9 ⟨da, kd, dc, L', rfl, hl0, hkd, hrd, hk9⟩
        obtain rfl : L = L' := HIL.out.unique hl0
        obtain ⟨D, hD⟩ : ∃ D, lowD L hs n = D := ⟨_, rfl⟩
        rw [hD] at hkd hrd
        have hkd80 : kd ≤ 16 := by
          have h1 := lowD_len L hs n
          rw [hD, hkd] at h1
          omega
        have HDM : Hid (∀ v, v ∈ D ↔ v < n ∧ L.getD v 0 < hs.getD v 0) := Lib.hid (fun v => by rw [← hD]; exact lowD_mem)
        have HKD := Lib.hid hkd
        have K9 := Lib.hid (K8.out.trans hk9)
        have HB9 := Lib.hid (HB8.out.kept hk9)
        have RL9 := Lib.hid (RL8.out.kept hk9)
        have HM9 := Lib.hid (HM8.out.upd hk9 (fun e => e))
        have HT9 := Lib.hid (HT8.out.upd hk9 (fun e => e))
        have RD9 := Lib.hid hrd
        clear hl0 hkd hrd hk9 hD K8 HB8 RL8 HM8 HT8 bx
        go_upto_region 15 with (fail)
        go_loopw [71] (fun ix wr => ∃ (j c : Nat) (th : List Int) (tl : List Bool), ix = .int .i64 j ∧ j ≤ kd ∧ c ≤ j ∧ Hid (th = mark (D.take j) n) ∧ Hid (j = 0 → tl.count true = 0) ∧ Hid (Mp wr tb c th tl) ∧ Hid (Upd (fun k => k = tb) W9 wr)) (fun ix _ => kd - (intOf ix).toNat)
        case atStart => exact ⟨0, 0, _, _, rfl, by omega, by omega, Lib.hid (mark_nil n), Lib.hid (fun _ => by simp [List.count_replicate]), HT9, Lib.hid (Upd.refl _ _)⟩
        case round =>
          obtain ⟨j, c, th, tl, rfl, hj, hcj, HTH, HTC, HT10, HU⟩ := hrel
          by_cases hjk : j < kd
          · obtain ⟨fb, fo, rfl, hfc⟩ := (RD9.out.mapped HT9.out HU.out).at j (by rw [nv_len, HKD.out]; exact hjk)
            obtain ⟨u, hu⟩ : ∃ u, u = D[j]'(by rw [HKD.out]; exact hjk) := ⟨_, rfl⟩
            rw [show (nv D)[j]? = some (.int .i64 (u : Nat)) by simp [nv, HKD.out, hjk, hu]] at hfc
            have hun : u < n := ((HDM.out u).1 (by rw [hu]; exact List.getElem_mem _)).1
            have HFT : Hid (D.take (j + 1) = D.take j ++ [u]) := Lib.hid (by rw [hu, List.take_succ_eq_append_getElem (by rw [HKD.out]; exact hjk)])
            have HFS : Hid (th.set u 1 = mark (D.take (j + 1)) n) := Lib.hid (by rw [HFT.out, HTH.out]; exact mark_set _ _ _ hun)
            have HXL : Hid (u < th.length) := Lib.hid (by rw [HTH.out, mark_len]; exact hun)
            have i1 : (0 : Int) ≤ (j : Int) := by omega
            have i2 : (j : Int) < (kd : Int) := by omega
            clear hu HFT HTH
            go_wp2_with (first | (at_mapUpdate; refine wpList_put _ rfl _ _ _ rfl rfl HT10.out (by unfold maxLen; omega) u 1 rfl rfl HXL.out (by omega) (by decide) ?_; intro w8 hM8 hU8; have HT11 := Lib.hid hM8; have HU8 := Lib.hid (HU.out.trans hU8); clear hM8 hU8) | fail)
            go_roundw
            case rel => exact ⟨j + 1, c + 1, _, _, by go_num, by omega, by omega, HFS, Lib.hid (fun e => by omega), HT11, HU8⟩
            case measure => simp [intOf]; omega
          · obtain rfl : kd = j := by omega
            have K10 := Lib.hid (Upd.late K9.out HU.out (fun i e => by have := HTM.out; omega))
            have HB10 := Lib.hid (HB9.out.mapped HT9.out HU.out)
            have RL10 := Lib.hid (RL9.out.mapped HT9.out HU.out)
            have HM10 := Lib.hid (HM9.out.upd HU.out (fun e => HTM.out.1 e))
            have HTH2 : Hid (∀ v, v < n → th.getD v 0 = if L.getD v 0 < hs.getD v 0 then 1 else 0) := Lib.hid (fun v hv => by
              rw [HTH.out, mark_get _ _ _ hv, List.take_of_length_le (by rw [HKD.out]; exact Nat.le_refl _)]
              simp only [HDM.out v, hv, true_and])
            have HTN : Hid (th.length = n) := Lib.hid (by rw [HTH.out, mark_len])
            have HTC2 : Hid (validB N S T n m ys rs hs = true → tl.count true = 0 ∧ L = hs) := Lib.hid (fun h => by
              have e := low_same ((valid_vld HRM.out HRH.out).1 h) HHL.out HIL.out
              refine ⟨HTC.out ?_, e⟩
              rw [← HKD.out]
              apply List.eq_nil_iff_length_eq_zero.1
              apply List.eq_nil_iff_forall_not_mem.2
              intro v hv
              have := ((HDM.out v).1 hv).2
              rw [e] at this
              omega)
            clear HTH HTC HU HT9 HB9 RL9 HM9 K9 RD9 hcj
            go_upto_region 20 with (fail)
            obtain ⟨wo, rfl⟩ : ∃ wo : World, wo = wr := ⟨_, rfl⟩
            go_loopw [80] (fun ix wr => ∃ (k : Nat), ix = .int .i64 k ∧ k ≤ n ∧ Hid (Kept wo wr)) (fun ix _ => n - (intOf ix).toNat)
            case atStart => exact ⟨0, rfl, by omega, Lib.hid (Upd.refl _ _)⟩
            case round =>
              obtain ⟨k, rfl, hk, HKW⟩ := hrel
              by_cases hik : k < n
              · obtain ⟨lb, lo, rfl, lcc⟩ := (RL10.out.kept HKW.out).num (i := k) (by rw [HLL.out]; exact hik)
                have ch : wr.cell? ⟨hb, k, none⟩ = some (.int .i64 (hs.getD k 0)) := by
                  obtain ⟨b, o, e, hh⟩ := (HB10.out.kept HKW.out).num (i := k) (by rw [HHL.out]; exact hik)
                  cases e
                  rwa [Nat.zero_add] at hh
                have ht := HTH2.out k hik
                have hf := HFH2.out k hik
                generalize L.getD k 0 = lvv at lcc ht hf
                generalize hs.getD k 0 = hv' at ch ht hf
                have i1 : (0 : Int) ≤ (k : Int) := by omega
                have i2 : (k : Int) < (n : Int) := by omega
                by_cases hz : lvv < hv'
                · have ht1 : th.getD k 0 = 1 := by rw [ht, if_pos hz]
                  have hf1 : fh.getD k 0 = 1 := hf hz
                  have lw := fun (v : Ext wr) => (HT10.out.upd (HKW.out.trans (kept_ext wr v)) (fun f => f)).look (c := 1) k (by rw [HTN.out]; exact hik) (by omega) ht1
                  have ln := fun (v : Ext wr) => (HM10.out.upd (HKW.out.trans (kept_ext wr v)) (fun f => f)).look (c := 1) k (by rw [HFN.out]; exact hik) (by omega) hf1
                  have g1 : decide (lvv < hv') = true := decide_eq_true hz
                  clear ht hf ht1 hf1
                  go_upto_region 22 with (fail)
                  refine wp_region_kept (by kernel_rfl) (by kernel_rfl) ?_
                  repeat (go_big_quiet_step (fail))
                  refine wpQuiet_nil ?_
                  intro w9 hk9
                  have HKW2 := Lib.hid (HKW.out.trans hk9)
                  clear hk9 HKW ch lcc lw ln
                  go_wp2_with fail
                  go_roundw
                  case rel => exact ⟨k + 1, by go_num, by omega, HKW2⟩
                  case measure => simp [intOf]; omega
                · have ht1 : th.getD k 0 = 0 := by rw [ht, if_neg hz]
                  have lw := fun (v : Ext wr) => (HT10.out.upd (HKW.out.trans (kept_ext wr v)) (fun f => f)).look (c := 0) k (by rw [HTN.out]; exact hik) (by omega) ht1
                  have g1 : decide (lvv < hv') = false := decide_eq_false hz
                  clear ht hf ht1
                  go_upto_region 22 with (fail)
                  refine wp_region_kept (by kernel_rfl) (by kernel_rfl) ?_
                  repeat (go_big_quiet_step (fail))
                  refine wpQuiet_nil ?_
                  intro w9 hk9
                  have HKW2 := Lib.hid (HKW.out.trans hk9)
                  clear hk9 HKW ch lcc lw
                  go_wp2_with fail
                  go_roundw
                  case rel => exact ⟨k + 1, by go_num, by omega, HKW2⟩
                  case measure => simp [intOf]; omega
              · as_aux_lemma =>
                  have K11 := Lib.hid (K10.out.trans HKW.out)
                  have HB11 := Lib.hid (HB10.out.kept HKW.out)
                  have RL11 := Lib.hid (RL10.out.kept HKW.out)
                  have HT12 := Lib.hid (HT10.out.upd HKW.out (fun e => e))
                  clear K10 HB10 RL10 HT10 HM10 HKW HFH2 HTH2
                  have bx := (HGF.out.kept K11.out).box.cell
                  have HVH := fun (w : World) (k1 : Kept wB w) (h : Rd w (some ⟨hb, 0, none⟩) (lv hs)) => Lib.hid (valid_at N S T n m a3 a4 a5 a6 a7 a8 c3 c4 c5 c6 c7 c8 ys ra rc rs (some ⟨hb, 0, none⟩) n hs m n w HG.out (HGF.out.kept k1).cr (HGF.out.kept k1).rs h (by have := HHL.out; have := HG.out.len; omega) HRM.out HHL.out)
                  go_wp2_with fail
                  refine (HVH _ K11.out HB11.out).out.mono ?_
                  rintro e W12 ⟨rfl, hk12⟩
                  have K12 := Lib.hid (K11.out.trans hk12)
                  have HB12 := Lib.hid (HB11.out.kept hk12)
                  have RL12 := Lib.hid (RL11.out.kept hk12)
                  have HT13 := Lib.hid (HT12.out.upd hk12 (fun e => e))
                  clear hk12 K11 HB11 RL11 HT12 bx HVH
                  generalize validB N S T n m ys rs hs = zv at HTC2
                  cases zv with
                  | false =>
                    clear HTC2 HT13 HB12
                    have bx := (HGF.out.kept K12.out).box.cell
                    have LL2 := fun (w : World) (k : Kept wB w) (h : Rd w la (lv L)) => Lib.hid (low_at N S T n m a3 a4 a5 a6 a7 a8 c3 c4 c5 c6 c7 c8 ys ra rc rs la lc L w HG.out HRM.out HLL.out HLR.out (HGF.out.kept k).cr (HGF.out.kept k).rs h)
                    have LW2 := fun (w : World) (k : Kept wB w) (h : Rd w la (lv L)) => Lib.hid (lwd_at N S T n m a3 a4 a5 a6 a7 a8 c3 c4 c5 c6 c7 c8 ys ra rc rs la lc L w HG.out HRM.out HLL.out HLR.out (HGF.out.kept k).cr (HGF.out.kept k).rs h)
                    have HVD : Hid (Vld S n m ys rs L) := Lib.hid HIL.out.vld
                    go_wp2_with fail
                    refine (LL2 _ K12.out RL12.out).out.mono ?_
                    rintro e V1 ⟨xa, xc, X, rfl, hl0, hr0, -, hk1⟩
                    obtain rfl : L = X := (low_same HVD.out HLL.out hl0).symm
                    have KV1 := Lib.hid (K12.out.trans hk1)
                    have RLV1 := Lib.hid (RL12.out.kept hk1)
                    have RX1 := Lib.hid hr0
                    clear hl0 hr0 hk1 LL2 bx
                    have HI := fun (w : World) (h1 : Rd w xa (lv L)) (h2 : Rd w la (lv L)) => Lib.hid (ints_at xa la xc lc L n w h1 h2 HLL.out (by omega))
                    have bx := (HGF.out.kept KV1.out).box.cell
                    go_wp2_with fail
                    refine (HI _ RX1.out RLV1.out).out.mono ?_
                    rintro e V2 ⟨rfl, hk2⟩
                    have KV2 := Lib.hid (KV1.out.trans hk2)
                    have RLV2 := Lib.hid (RLV1.out.kept hk2)
                    clear hk2 KV1 RLV1 RX1 HI bx
                    have bx := (HGF.out.kept KV2.out).box.cell
                    go_wp2_with fail
                    refine (LW2 _ KV2.out RLV2.out).out.mono ?_
                    rintro e V3 ⟨ya, ky, yc, X, rfl, hl0, hky, -, hk3⟩
                    obtain rfl : L = X := (low_same HVD.out HLL.out hl0).symm
                    rw [lowD_none] at hky
                    obtain rfl : 0 = ky := hky
                    have KV3 := Lib.hid (KV2.out.trans hk3)
                    clear hl0 hk3 KV2 RLV2 LW2 bx
                    go_wp2_with fail
                    refine (awake19_any _).mono ?_
                    rintro e Wz ⟨rfl, hkz⟩
                    have HKZ := Lib.hid ((HK0.out.trans KV3.out).trans hkz)
                    clear hkz KV3
                    go_wp2_with fail
                    go_ret
                    exact ⟨rfl, HKZ.out⟩
                  | true =>
                    obtain ⟨htc, he⟩ := HTC2.out rfl
                    have HLH := Lib.hid he
                    have hlen := HT13.out.len0 htc
                    have HI0 := fun (w : World) (h1 : Rd w la (lv L)) (h2 : Rd w (some ⟨hb, 0, none⟩) (lv hs)) => Lib.hid (ints_at la (some ⟨hb, 0, none⟩) lc n L n w h1 (by rw [HLH.out]; exact h2) HLL.out (by omega))
                    clear htc he HTC2
                    go_wp2_with fail
                    refine (HI0 _ RL12.out HB12.out).out.mono ?_
                    rintro e W13 ⟨rfl, hk13⟩
                    have K13 := Lib.hid (K12.out.trans hk13)
                    have RL13 := Lib.hid (RL12.out.kept hk13)
                    clear hk13 K12 RL12 HI0 HB12 HT13 hlen
                    have bx := (HGF.out.kept K13.out).box.cell
                    have LL2 := fun (w : World) (k : Kept wB w) (h : Rd w la (lv L)) => Lib.hid (low_at N S T n m a3 a4 a5 a6 a7 a8 c3 c4 c5 c6 c7 c8 ys ra rc rs la lc L w HG.out HRM.out HLL.out HLR.out (HGF.out.kept k).cr (HGF.out.kept k).rs h)
                    have LW2 := fun (w : World) (k : Kept wB w) (h : Rd w la (lv L)) => Lib.hid (lwd_at N S T n m a3 a4 a5 a6 a7 a8 c3 c4 c5 c6 c7 c8 ys ra rc rs la lc L w HG.out HRM.out HLL.out HLR.out (HGF.out.kept k).cr (HGF.out.kept k).rs h)
                    have HVD : Hid (Vld S n m ys rs L) := Lib.hid HIL.out.vld
                    go_wp2_with fail
                    refine (LL2 _ K13.out RL13.out).out.mono ?_
                    rintro e V1 ⟨xa, xc, X, rfl, hl0, hr0, -, hk1⟩
                    obtain rfl : L = X := (low_same HVD.out HLL.out hl0).symm
                    have KV1 := Lib.hid (K13.out.trans hk1)
                    have RLV1 := Lib.hid (RL13.out.kept hk1)
                    have RX1 := Lib.hid hr0
                    clear hl0 hr0 hk1 LL2 bx
                    have HI := fun (w : World) (h1 : Rd w xa (lv L)) (h2 : Rd w la (lv L)) => Lib.hid (ints_at xa la xc lc L n w h1 h2 HLL.out (by omega))
                    have bx := (HGF.out.kept KV1.out).box.cell
                    go_wp2_with fail
                    refine (HI _ RX1.out RLV1.out).out.mono ?_
                    rintro e V2 ⟨rfl, hk2⟩
                    have KV2 := Lib.hid (KV1.out.trans hk2)
                    have RLV2 := Lib.hid (RLV1.out.kept hk2)
                    clear hk2 KV1 RLV1 RX1 HI bx
                    have bx := (HGF.out.kept KV2.out).box.cell
                    go_wp2_with fail
                    refine (LW2 _ KV2.out RLV2.out).out.mono ?_
                    rintro e V3 ⟨ya, ky, yc, X, rfl, hl0, hky, -, hk3⟩
                    obtain rfl : L = X := (low_same HVD.out HLL.out hl0).symm
                    rw [lowD_none] at hky
                    obtain rfl : 0 = ky := hky
                    have KV3 := Lib.hid (KV2.out.trans hk3)
                    clear hl0 hk3 KV2 RLV2 LW2 bx
                    go_wp2_with fail
                    refine (awake19_any _).mono ?_
                    rintro e Wz ⟨rfl, hkz⟩
                    have HKZ := Lib.hid ((HK0.out.trans KV3.out).trans hkz)
                    clear hkz KV3
                    go_wp2_with fail
                    go_ret
                    exact ⟨rfl, HKZ.out⟩
theorem repairFlat_walk (N S T : Int) (a : Option Addr) (cap : Nat) (els : List (List Value)) (s1 : Option Addr) (cap1 : Nat) (z1 : List Int) (s2 : Option Addr) (cap2 : Nat) (z2 : List Int) (w : World) (_wN : (Lit.int .i64 N).wf = true) (_wS : (Lit.int .i64 S).wf = true) (_wT : (Lit.int .i64 T).wf = true) (hrow : FlatRow [some .i64, some .i64, some .i64] w a cap els) (_hf : ∀ x ∈ els, fits [some .i64, some .i64, some .i64] x)
    (w1 : IntRow .i64 w s1 cap1 z1) (m1 : ∀ n ∈ z1, (Lit.int .i64 n).wf = true) (w2 : IntRow .i64 w s2 cap2 z2) (m2 : ∀ n ∈ z2, (Lit.int .i64 n).wf = true) :
    Calls Try.prog 6 #[.agg #[.int .i64 N, .int .i64 S, .int .i64 T, .slice a els.length cap], .slice s1 z1.length cap1, .slice s2 z2.length cap2] w fun e w' => e = .returned (.bool true) ∧ Kept w w' := by
  obtain ⟨xs, hl, hA, hx⟩ := ars_of_flat hrow
  have hle := hrow.le
  have hmo := hrow.most
  have l1 := w1.le
  have l1' := w1.most
  have l2 := w2.le
  have l2' := w2.most
  unfold maxLen at hmo l1' l2'
  exact repairFlat_core N S T a els.length cap xs s1 cap1 z1 s2 cap2 z2 w hA hl hle hmo (fun x hx0 => bounds_i64 (hx x hx0).2.2) w1.rd (fun x hx0 => bounds_i64 (m1 x hx0)) (by omega) w2.rd (by omega)
end Go.Proofs.Yticeionjlknlcaa
