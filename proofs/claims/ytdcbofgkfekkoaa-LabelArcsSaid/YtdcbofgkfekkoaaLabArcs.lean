/- The law LabelArcs (printed by gen_arcs.py). -/
import Derived.Test.YtdcbofgkfekkoaaLabAt
import Derived.Test.YtdcbofgkfekkoaaArcsP
import Derived.Test.YtdcbofgkfekkoaaMapRd
import Derived.Test.YtdcbofgkfekkoaaGst
import Derived.Test.YtdcbofgkfekkoaaRowsRd
import Derived.Test.YtdcbofgkfekkoaaAppended
import Derived.Deep.CutRange
import Derived.Deep.RegionHeldLaw
namespace Go.Proofs.Ytdcbofgkfekkoaa
set_option linter.unusedVariables false
set_option linter.unusedSimpArgs false
open Go.RowKit Go.Maps
attribute [local go_sem] cell?_ext

theorem rd_own {w : World} {base n : Nat} {e : TypeId} {a : Option Addr} {c : Nat} {vs : List Value} (h : w.ownsRow base e 1 (.slice a n c) n vs) : Rd w a vs := by
  obtain ⟨a', c', e9, hr⟩ := Rd.owns h
  cases e9
  exact hr
theorem nv_one (l : List Nat) : ∀ u ∈ nv l, u.oneCell' = true := by
  intro u hu
  obtain ⟨x, -, rfl⟩ := List.mem_map.1 hu
  rfl
theorem steepO_at (N S T : Int) (n m : Nat) (a3 a4 a5 a6 a7 a8 : Option Addr) (c3 c4 c5 c6 c7 c8 : Nat) (ys : List Ar) (ra : Option Addr) (rc : Nat) (rs : List Int) (ha : Option Addr) (hc : Nat) (hs : List Int) (rl hl : Nat) (L : List Nat) (k : Nat) (w : World) (hg : Gr N S T n m ys) (hcr : CsrR w n ys a3 a4 a5 a6 a7 a8) (hr : Rd w ra (lv rs)) (hh : Rd w ha (lv hs)) (hm : hs.length ≤ 9223372036854775807) (hrl : rs.length = rl) (hhl : hs.length = hl) (hL : dnL N S T n m ys rs hs (isP true) = L) (hk : L.length = k) :
    Calls Try.prog 19 #[.agg #[.int .i64 N, .int .i64 S, .int .i64 T, .slice a3 (n + 1) c3, .slice a4 m c4, .slice a5 m c5, .slice a6 m c6, .slice a7 m c7, .slice a8 m c8], .slice ra rl rc, .slice ha hl hc] w fun e w' => ∃ a c, e = .returned (.slice a k c) ∧ w'.ownsRow w.heap.size 3 1 (.slice a k c) k (nv L) ∧ Kept w w' := by
  subst hrl hhl hL hk
  refine (steep_any N S T n m a3 a4 a5 a6 a7 a8 c3 c4 c5 c6 c7 c8 ys ra rc rs ha hc hs w hg hcr hr hh hm).mono ?_
  rintro e w' ⟨v, rfl, ho, hk⟩
  obtain ⟨a, c, rfl⟩ := row_form ho
  exact ⟨a, c, rfl, ho, hk⟩
theorem flatO_at (N S T : Int) (n m : Nat) (a3 a4 a5 a6 a7 a8 : Option Addr) (c3 c4 c5 c6 c7 c8 : Nat) (ys : List Ar) (ra : Option Addr) (rc : Nat) (rs : List Int) (ha : Option Addr) (hc : Nat) (hs : List Int) (rl hl : Nat) (L : List Nat) (k : Nat) (w : World) (hg : Gr N S T n m ys) (hcr : CsrR w n ys a3 a4 a5 a6 a7 a8) (hr : Rd w ra (lv rs)) (hh : Rd w ha (lv hs)) (hm : hs.length ≤ 9223372036854775807) (hrl : rs.length = rl) (hhl : hs.length = hl) (hL : dnL N S T n m ys rs hs (isP false) = L) (hk : L.length = k) :
    Calls Try.prog 20 #[.agg #[.int .i64 N, .int .i64 S, .int .i64 T, .slice a3 (n + 1) c3, .slice a4 m c4, .slice a5 m c5, .slice a6 m c6, .slice a7 m c7, .slice a8 m c8], .slice ra rl rc, .slice ha hl hc] w fun e w' => ∃ a c, e = .returned (.slice a k c) ∧ w'.ownsRow w.heap.size 3 1 (.slice a k c) k (nv L) ∧ Kept w w' := by
  subst hrl hhl hL hk
  refine (flat_any N S T n m a3 a4 a5 a6 a7 a8 c3 c4 c5 c6 c7 c8 ys ra rc rs ha hc hs w hg hcr hr hh hm).mono ?_
  rintro e w' ⟨v, rfl, ho, hk⟩
  obtain ⟨a, c, rfl⟩ := row_form ho
  exact ⟨a, c, rfl, ho, hk⟩
set_option maxRecDepth 100000 in
set_option maxHeartbeats 8000000 in
theorem labelArcs_core (N0 S0 T0 : Int) (a : Option Addr) (k0 cap : Nat) (ys0 : List Ar) (la : Option Addr) (lc : Nat) (ls : List Int) (ha : Option Addr) (hc : Nat) (hs0 : List Int) (at0 : Int) (w : World)
    (h : Ars w a ys0) (hk0 : ys0.length = k0) (hle : k0 ≤ cap) (hmost : cap ≤ 9223372036854775807) (hwf : ∀ x ∈ ys0, -9223372036854775808 ≤ x.c ∧ x.c ≤ 9223372036854775807)
    (hl : Rd w la (lv ls)) (hli : ∀ x ∈ ls, -9223372036854775808 ≤ x ∧ x ≤ 9223372036854775807) (hll : ls.length ≤ 9223372036854775807)
    (hh1 : Rd w ha (lv hs0)) (hm1 : hs0.length ≤ 9223372036854775807) (ha0 : 0 ≤ at0) (ha1 : at0 ≤ 255) :
    Calls Try.prog 4 #[.agg #[.int .i64 N0, .int .i64 S0, .int .i64 T0, .slice a k0 cap], .slice la ls.length lc, .slice ha hs0.length hc, .int .u8 at0] w fun e w' => e = .returned (.bool true) ∧ Kept w w' := by
  have HS : ∀ (w : World), Ars w a ys0 → Hid (Calls Try.prog 15 #[.agg #[.int .i64 N0, .int .i64 S0, .int .i64 T0, .slice a k0 cap], .int .i64 16, .int .i64 40] w (NetIs w)) := by
    intro w h
    subst hk0
    exact Lib.hid (Some_any N0 S0 T0 a cap ys0 w h hle hmost hwf)
  have HX := Lib.hid (h.kept ((Upd.refl (fun _ => False) w).alloc (.cells #[.int .i64 N0, .int .i64 S0, .int .i64 T0, .slice a k0 cap] 24)))
  have HK := Lib.hid ((Upd.refl (fun _ => False) w).alloc (.cells #[.int .i64 N0, .int .i64 S0, .int .i64 T0, .slice a k0 cap] 24))
  have HL := Lib.hid hl
  have HLI := Lib.hid hli
  have HHR := Lib.hid hh1
  have HHX := Lib.hid hm1
  clear hh1
  clear h hl hli hle hmost hwf
  go_enter Try.func4, Try.ntmps4
  go_wp2_with fail
  refine (HS _ HX.out).out.mono ?_
  rintro e w1 ⟨N, S, T, a', cap', ys, rfl, hok, hown, hk1⟩
  have HK1 := Lib.hid (HK.out.trans hk1)
  have HOK := Lib.hid hok
  have HA : Hid (Ars w1 a' ys) := Lib.hid hown.at.2
  clear hk1 hok hown HS HX HK
  have HLE := fun (w : World) (h : Ars w a' ys) (hl : Rd w la (lv ls)) => Lib.hid (Left_ok N S T a' cap' ys la lc ls w h HOK.out hl HLI.out hll)
  go_wp2_with fail
  refine (HLE _ HA.out (HL.out.kept HK1.out)).out.mono ?_
  rintro e w2 ⟨B, n, m, a3, c3, a4, c4, a5, c5, a6, c6, a7, c7, a8, c8, ra, rc, rfl, hn, hm2, hcr, hcl, hk2, hBl, hro⟩
  have HG : Hid (Gr N S T n m ys) := Lib.hid ⟨HOK.out, hn, hm2⟩
  obtain ⟨rs, hrs⟩ : ∃ rs, resAll (wths ls ys) n ys = rs := ⟨_, rfl⟩
  have HRM : Hid (rs.length = m) := Lib.hid (by rw [← hrs, resAll_len]; exact hm2)
  have HRI : Hid (∀ x ∈ rs, 0 ≤ x ∧ x < 1125899906842624) := Lib.hid (by rw [← hrs]; exact left_in HG.out HLI.out)
  rw [hrs] at hro
  have HRC : Hid (m ≤ rc) := Lib.hid (row_cap' hro)
  have HSO : Hid ((∃ ad, ra = some ad) ∨ (ra = none ∧ m = 0 ∧ rc = 0)) := Lib.hid (someOr_row hro)
  obtain ⟨ra', rc', e9, hrr⟩ := Rd.owns hro
  cases e9
  have hA := (Upd.refl (fun _ => False) w2).alloc (.cells #[.int .i64 N, .int .i64 S, .int .i64 T, .slice a3 (n + 1) c3, .slice a4 m c4, .slice a5 m c5, .slice a6 m c6, .slice a7 m c7, .slice a8 m c8] 29)
  have HK0 := Lib.hid ((HK1.out.trans hk2).trans hA)
  have HCL : Hid (∃ lo, CsrL lo B a3 a4 a5 a6 a7 a8) := Lib.hid ⟨_, hcl⟩
  have HBB : Hid (w.heap.size ≤ B) := Lib.hid (Nat.le_trans HK1.out.size hBl)
  have HRO : Hid ((w2.alloc (.cells #[.int .i64 N, .int .i64 S, .int .i64 T, .slice a3 (n + 1) c3, .slice a4 m c4, .slice a5 m c5, .slice a6 m c6, .slice a7 m c7, .slice a8 m c8] 29)).ownsRow B 2 1 (.slice ra m rc) m (lv rs)) := Lib.hid (ownsRow_upd hro hA (fun _ _ f => f))
  have HGF : Hid (GF N S T n m a3 a4 a5 a6 a7 a8 c3 c4 c5 c6 c7 c8 ys w2.heap.size ra rs (w2.alloc (.cells #[.int .i64 N, .int .i64 S, .int .i64 T, .slice a3 (n + 1) c3, .slice a4 m c4, .slice a5 m c5, .slice a6 m c6, .slice a7 m c7, .slice a8 m c8] 29))) := Lib.hid ⟨Blk.new _ _ _, hcr.kept hA, hrr.kept hA⟩
  clear hn hm2 hcr hcl hBl hk2 hro hrr hrs hA HLE HA HOK HK1 HL HLI hll
  clear hk0
  go_upto_region 2 with (fail)
  generalize (w2.alloc (.cells #[.int .i64 N, .int .i64 S, .int .i64 T, .slice a3 (n + 1) c3, .slice a4 m c4, .slice a5 m c5, .slice a6 m c6, .slice a7 m c7, .slice a8 m c8] 29)) = wB at HGF HK0 HRO ⊢
  generalize w2.heap.size = cb at HGF ⊢
  have HK1 : Hid (Kept wB wB) := Lib.hid (Upd.refl _ _)
  obtain ⟨hnN, hn2, hn16, hm6, -⟩ := HG.out.len
  subst hnN
  have G1 := fun (w : World) (k : Kept wB w) => Lib.hid (heights_any (n : Int) S T n m a3 a4 a5 a6 a7 a8 c3 c4 c5 c6 c7 c8 ys ha hc hs0 w HG.out (HHR.out.kept (HK0.out.trans k)) HHX.out)
  have bx := HGF.out.box.cell
  go_wp2_with fail
  refine (G1 _ HK1.out).out.mono ?_
  rintro e w1 ⟨hb, rfl, h1, h2, h3⟩
  have K1 := Lib.hid h3
  have HB1 := Lib.hid h1
  have HBL : Hid (wB.heap.size ≤ hb) := Lib.hid h2
  clear h1 h2 h3 G1 bx HK1
  obtain ⟨hs, hhs⟩ : ∃ hs, htL (n : Int) S T n hs0 = hs := ⟨_, rfl⟩
  have HRT : Hid (rightB (n : Int) S T hs = true) := Lib.hid (by rw [← hhs]; exact htL_right HG.out hs0)
  have HHL : Hid (hs.length = n) := Lib.hid (by rw [← hhs]; exact htL_len _ _ _ _ _)
  rw [hhs] at HB1
  clear hhs HHR HHX
  have HMAY : Hid (mayB (n : Int) S T m rs hs = true) := Lib.hid (by unfold mayB; rw [HRT.out, HRM.out]; simp)
  have hnm : n ≤ 9223372036854775807 := by omega
  have bx := (HGF.out.kept K1.out).box.cell
  have hmm := @run_makeMap Try.prog
  have HM0 := Lib.hid (Mp.new w1 m)
  have KM := Lib.hid (K1.out.alloc (.map #[] 0))
  have HB3 := Lib.hid (HB1.out.alloc (.map #[] 0))
  go_upto_region 4 with (fail)
  generalize (w1.alloc (.map #[] 0)) = V1 at HM0 KM HB3 ⊢
  generalize hmb : w1.heap.size = mb at HM0 ⊢
  have HMB : Hid (wB.heap.size ≤ mb ∧ hb < mb) := Lib.hid ⟨by rw [← hmb]; exact K1.out.size, by rw [← hmb]; exact HB1.out.lt⟩
  clear hmb hmm bx HB1 K1
  obtain ⟨Ls, hLs⟩ : ∃ L, dnL (n : Int) S T n m ys rs hs (isP true) = L := ⟨_, rfl⟩
  obtain ⟨ks, hks⟩ : ∃ k, Ls.length = k := ⟨_, rfl⟩
  obtain ⟨Lf, hLf⟩ : ∃ L, dnL (n : Int) S T n m ys rs hs (isP false) = L := ⟨_, rfl⟩
  obtain ⟨kf, hkf⟩ : ∃ k, Lf.length = k := ⟨_, rfl⟩
  have HST := fun (w : World) (k1 : Kept wB w) (h : Rd w (some ⟨hb, 0, none⟩) (lv hs)) => Lib.hid (steepO_at (n : Int) S T n m a3 a4 a5 a6 a7 a8 c3 c4 c5 c6 c7 c8 ys ra rc rs (some ⟨hb, 0, none⟩) n hs m n Ls ks w HG.out (HGF.out.kept k1).cr (HGF.out.kept k1).rs h (by rw [HHL.out]; exact hnm) HRM.out HHL.out hLs hks)
  have HFT := fun (w : World) (k1 : Kept wB w) (h : Rd w (some ⟨hb, 0, none⟩) (lv hs)) => Lib.hid (flat_at (n : Int) S T n m a3 a4 a5 a6 a7 a8 c3 c4 c5 c6 c7 c8 ys ra rc rs (some ⟨hb, 0, none⟩) n hs m n Lf kf w HG.out (HGF.out.kept k1).cr (HGF.out.kept k1).rs h (by rw [HHL.out]; exact hnm) HRM.out HHL.out hLf hkf)
  have HLS : Hid (Ls.length = ks ∧ ks ≤ 640 ∧ Ls.Nodup ∧ (∀ v ∈ Ls, v < m)) := Lib.hid ⟨hks, by have h1 := dnL_len (n : Int) S T n m ys rs hs (isP true); rw [hLs] at h1; omega, by rw [← hLs]; exact dnL_nodup _ _ _ _ _ _ _ _ _, fun v hv => by rw [← hLs, dnL_mem HMAY.out] at hv; exact hv.1⟩
  have HLF : Hid (Lf.length = kf ∧ kf ≤ 640 ∧ Lf.Nodup ∧ (∀ v ∈ Lf, v < m) ∧ ∀ v ∈ Lf, v ∉ Ls) := Lib.hid ⟨hkf, by have h1 := dnL_len (n : Int) S T n m ys rs hs (isP false); rw [hLf] at h1; omega, by rw [← hLf]; exact dnL_nodup _ _ _ _ _ _ _ _ _, fun v hv => by rw [← hLf, dnL_mem HMAY.out] at hv; exact hv.1, fun v hv => by rw [← hLf] at hv; rw [← hLs]; exact flat_not_steep HMAY.out v hv⟩
  have HLL := Lib.hid (And.intro hLs hLf)
  clear hLs hks hLf hkf
  have bx := (HGF.out.kept KM.out).box.cell
  go_wp2_with fail
  refine (HST _ KM.out (Rd.blk HB3.out)).out.mono ?_
  rintro e V2 ⟨av, cv, rfl, hov, hk'⟩
  have HAV : Hid (∀ y, av = some y → wB.heap.size ≤ y.block) := Lib.hid (fun y hy => by
    have h1 := (World.ownsRow.lt hov y.block (by rw [hy]; rfl)).1
    have h2 := KM.out.size
    omega)
  have hrv : Rd V2 av (nv Ls) := by
    obtain ⟨a', c', e9, hrr⟩ := Rd.owns hov
    cases e9
    exact hrr
  clear hov
  have K3 := Lib.hid (KM.out.trans hk')
  have HMP := Lib.hid (HM0.out.upd hk' (fun f => f))
  have HB4 := Lib.hid (HB3.out.kept hk')
  have HRV := Lib.hid hrv
  clear hrv hk' HST bx HM0 KM HB3
  have hks640 : ks ≤ 640 := HLS.out.2.1
  go_upto_region 6 with (fail)
  go_loopw [42] (fun ix wr => ∃ (i : Nat) (h : List Int) (l : List Bool) (c : Nat), ix = .int .i64 i ∧ i ≤ ks ∧ c ≤ i ∧ Hid (Upd (fun k => k = mb) V2 wr) ∧ Hid (Mp wr mb c h l) ∧ Hid (KD m Ls Lf i 0 h l c)) (fun ix _ => ks - (intOf ix).toNat)
  case atStart => exact ⟨0, _, _, 0, rfl, by omega, by omega, Lib.hid (Upd.refl _ _), HMP, Lib.hid (KD.zero m Ls Lf)⟩
  case round =>
    obtain ⟨i, h, l, cc, rfl, hi, hci, HU, HM, HE⟩ := hrel
    by_cases hik : i < ks
    · obtain ⟨ab, ao, rfl, xc⟩ := (HRV.out.mapped HMP.out HU.out).at i (by rw [nv_len, HLS.out.1]; exact hik)
      rw [nv_get (by rw [HLS.out.1]; exact hik)] at xc
      have HO := Lib.hid (HE.out.one HLS.out.2.2.1 HLS.out.2.2.2 (by rw [HLS.out.1]; exact hik))
      obtain ⟨x, hx⟩ : ∃ x, Ls.getD i 0 = x := ⟨_, rfl⟩
      have hxm : x < m := by rw [← hx]; exact HLS.out.2.2.2 _ (by have := HLS.out.1; simp [this, hik])
      rw [hx] at xc HO
      have HXL : Hid (x < h.length) := Lib.hid (by rw [HE.out.len]; exact hxm)
      have hlk := HM.out.look (c := 0) x HXL.out (by omega) HO.out.1
      have j0 : (i : Int) < (ks : Int) := by omega
      have j1 : (0 : Int) ≤ (i : Int) := by omega
      have j2 : (i : Int) ≤ 1000 := by omega
      clear hx HE
      go_wp2_with (first | (at_mapUpdate; refine wpList_put _ rfl _ _ _ rfl rfl HM.out (by unfold maxLen; omega) x 1 rfl rfl HXL.out (by omega) (by decide) ?_; intro w6 hM6 hU6; have HM6 := Lib.hid hM6; have HU6 := Lib.hid (HU.out.trans hU6); clear hM6 hU6) | fail)
      clear HU HM xc hlk
      go_roundw
      case rel => exact ⟨i + 1, _, _, cc + 1, by go_num, by omega, by omega, HU6, HM6, Lib.hid (HO.out.2 _)⟩
      case measure => simp [intOf]; omega
    · have j0 : ¬ (i : Int) < (ks : Int) := by omega
      have HW : Hid (KD m Ls Lf Ls.length 0 h l cc) := Lib.hid (by rw [show Ls.length = i by rw [HLS.out.1]; omega]; exact HE.out)
      have K4 : Hid (Kept wB wr) := Lib.hid (Upd.late K3.out HU.out (fun i e => by have := HMB.out; omega))
      have HB5 : Hid (Blk wr hb (lv hs).toArray 3) := Lib.hid (HB4.out.upd HU.out (by have := HMB.out; omega))
      have HRS : Hid (Rd wr av (nv Ls)) := Lib.hid (HRV.out.mapped HMP.out HU.out)
      clear HE HU HMP HB4 HRV K3 hik
      obtain ⟨V3, rfl⟩ : ∃ V3 : World, V3 = wr := ⟨_, rfl⟩
      as_aux_lemma =>
        have bx := (HGF.out.kept K4.out).box.cell
        go_upto_region 10 with (fail)
        go_wp2_with fail
        refine (HFT _ K4.out (Rd.blk HB5.out)).out.mono ?_
        rintro e V4 ⟨fv, cf, rfl, hrv, hk'⟩
        have K5 := Lib.hid (K4.out.trans hk')
        have HMP := Lib.hid (HM.out.upd hk' (fun f => f))
        have HB6 := Lib.hid (HB5.out.kept hk')
        have HRS2 := Lib.hid (HRS.out.kept hk')
        have HRV := Lib.hid hrv
        clear hrv hk' HFT bx HM K4 HB5 HRS
        have hkf640 : kf ≤ 640 := HLF.out.2.1
        go_upto_region 11 with (fail)
        go_loopw [56] (fun ix wr => ∃ (i : Nat) (h : List Int) (l : List Bool) (c : Nat), ix = .int .i64 i ∧ i ≤ kf ∧ c ≤ ks + i ∧ Hid (Upd (fun k => k = mb) V4 wr) ∧ Hid (Mp wr mb c h l) ∧ Hid (KD m Ls Lf Ls.length i h l c)) (fun ix _ => kf - (intOf ix).toNat)
        case atStart => exact ⟨0, _, _, cc, rfl, by omega, by omega, Lib.hid (Upd.refl _ _), HMP, HW⟩
        case round =>
          obtain ⟨j, g, l', c', rfl, hi, hcj, HU, HN, HE⟩ := hrel
          by_cases hik : j < kf
          · obtain ⟨ab, ao, rfl, xc⟩ := (HRV.out.mapped HMP.out HU.out).at j (by rw [nv_len, HLF.out.1]; exact hik)
            rw [nv_get (by rw [HLF.out.1]; exact hik)] at xc
            have HO := Lib.hid (HE.out.two HLF.out.2.2.1 HLF.out.2.2.2.1 HLF.out.2.2.2.2 (by rw [HLF.out.1]; exact hik))
            obtain ⟨x, hx⟩ : ∃ x, Lf.getD j 0 = x := ⟨_, rfl⟩
            have hxm : x < m := by rw [← hx]; exact HLF.out.2.2.2.1 _ (by have := HLF.out.1; simp [this, hik])
            rw [hx] at xc HO
            have HXL : Hid (x < g.length) := Lib.hid (by rw [HE.out.len]; exact hxm)
            have hlk := HN.out.look (c := 0) x HXL.out (by omega) HO.out.1
            have j0 : (j : Int) < (kf : Int) := by omega
            have j1 : (0 : Int) ≤ (j : Int) := by omega
            have j2 : (j : Int) ≤ 1000 := by omega
            clear hx HE
            go_wp2_with (first | (at_mapUpdate; refine wpList_put _ rfl _ _ _ rfl rfl HN.out (by unfold maxLen; omega) x 2 rfl rfl HXL.out (by omega) (by decide) ?_; intro w6 hM6 hU6; have HM6 := Lib.hid hM6; have HU6 := Lib.hid (HU.out.trans hU6); clear hM6 hU6) | fail)
            clear HU HN xc hlk
            go_roundw
            case rel => exact ⟨j + 1, _, _, c' + 1, by go_num, by omega, by omega, HU6, HM6, Lib.hid (HO.out.2 _)⟩
            case measure => simp [intOf]; omega
          · have j0 : ¬ (j : Int) < (kf : Int) := by omega
            have HGW : Hid (∀ a, a < m → g.getD a 0 = wantK S n ys rs hs a) := Lib.hid (fun a ha => by
              have h1 := HE.out
              rw [show j = Lf.length by rw [HLF.out.1]; omega] at h1
              exact h1.want HMAY.out HLL.out.1 HLL.out.2 ha)
            have HGL : Hid (g.length = m) := Lib.hid HE.out.len
            have K6 : Hid (Kept wB wr) := Lib.hid (Upd.late K5.out HU.out (fun i e => by have := HMB.out; omega))
            have HB7 : Hid (Blk wr hb (lv hs).toArray 3) := Lib.hid (HB6.out.upd HU.out (by have := HMB.out; omega))
            have HRS3 : Hid (Rd wr av (nv Ls)) := Lib.hid (HRS2.out.mapped HMP.out HU.out)
            clear HE HU HMP HB6 HRV HRS2 K5 HW hik hi
            obtain ⟨V5, rfl⟩ : ∃ V5 : World, V5 = wr := ⟨_, rfl⟩
            as_aux_lemma =>
              go_upto_region 16 with (fail)
              go_loopw [67] (fun ix wr => ∃ (i : Nat), ix = .int .i64 i ∧ i ≤ m ∧ Hid (Kept V5 wr)) (fun ix _ => m - (intOf ix).toNat)
              case atStart => exact ⟨0, rfl, by omega, Lib.hid (Upd.refl _ _)⟩
              case round =>
                obtain ⟨i, rfl, hi, HK⟩ := hrel
                by_cases him : i < m
                · have HTA := fun (w : World) (k : Kept wB w) => Lib.hid (tail_any (n : Int) S T n m a3 a4 a5 a6 a7 a8 c3 c4 c5 c6 c7 c8 ys i w HG.out (HGF.out.kept k).cr.r3 him)
                  obtain ⟨u, hu⟩ : ∃ u, tl ys n i = u := ⟨_, rfl⟩
                  obtain ⟨v, hv0⟩ : ∃ v, hd n ys i = v := ⟨_, rfl⟩
                  rw [hu] at HTA
                  have hun : u < n := by rw [← hu]; exact (tl_at ys i n (by have := HG.out.hm; unfold fst; omega)).1
                  have hvn : v < n := by rw [← hv0]; exact (hd_get HG.out i him).2
                  have bx := (HGF.out.kept (K6.out.trans HK.out)).box.cell
                  have j0 : (i : Int) < (m : Int) := by omega
                  have j1 : (0 : Int) ≤ (i : Int) := by omega
                  have j2 : (i : Int) ≤ 1000 := by omega
                  go_wp2_with fail
                  refine (HTA _ (K6.out.trans HK.out)).out.mono ?_
                  rintro e w6 ⟨rfl, hk6⟩
                  have HK6 := Lib.hid (HK.out.trans hk6)
                  have hgw := HGW.out i him
                  have hlk := fun (x : Ext w6) => ((HN.out.upd HK6.out (fun f => f)).upd (kept_ext w6 x) (fun f => f)).look (c := wantK S n ys rs hs i) i (by rw [HGL.out]; exact him) (by omega) hgw
                  clear hk6 HTA bx
                  have bx := (HGF.out.kept (K6.out.trans HK6.out)).box.cell
                  obtain ⟨b4, o4, rfl, hc4⟩ := ((HGF.out.kept (K6.out.trans HK6.out)).cr.r4).at i (by rw [show (hv (enAll n ys)).length = (enAll n ys).length by simp [hv], HG.out.hm]; exact him)
                  rw [(hd_get HG.out i him).1, hv0] at hc4
                  obtain ⟨b6, o6, rfl, rc0⟩ := (HGF.out.kept (K6.out.trans HK6.out)).rs.num (i := i) (by rw [HRM.out]; exact him)
                  have hcu : w6.cell? ⟨hb, u, none⟩ = some (.int .i64 (hs.getD u 0)) := by
                    rw [(HB7.out.kept HK6.out).cell]; simp only [List.getElem?_toArray]; exact lv_get (by rw [HHL.out]; exact hun)
                  have hcv : w6.cell? ⟨hb, v, none⟩ = some (.int .i64 (hs.getD v 0)) := by
                    rw [(HB7.out.kept HK6.out).cell]; simp only [List.getElem?_toArray]; exact lv_get (by rw [HHL.out]; exact hvn)
                  have b1 := (rightB_in HRT.out u (by rw [HHL.out]; exact hun)).2
                  have b2 := (rightB_in HRT.out v (by rw [HHL.out]; exact hvn)).2
                  have HWK : Hid (wantK S n ys rs hs i = if 0 < rs.getD i 0 ∧ ¬ (u : Int) = S ∧ 0 < hs.getD u 0 - hs.getD v 0 then (if 1 < hs.getD u 0 - hs.getD v 0 then 1 else 2) else 0) := Lib.hid (by unfold wantK byOf; rw [hu, hv0])
                  generalize wantK S n ys rs hs i = wk at hlk HWK
                  generalize hs.getD u 0 = yu at hcu b1 HWK
                  generalize hs.getD v 0 = yv at hcv b2 HWK
                  generalize rs.getD i 0 = r at rc0 HWK
                  obtain ⟨y, hy⟩ : ∃ y, yu - yv = y := ⟨_, rfl⟩
                  rw [hy] at HWK
                  have hwy : IntKind.i64.wrap (yu - yv) = y := wrap_df yu yv y hy (by omega) (by omega)
                  have hwy' : wrap64 (yu - yv) = y := wrap_df' yu yv y hy (by omega) (by omega)
                  have i1 : (0 : Int) ≤ (u : Int) := by omega
                  have i2 : (u : Int) < (n : Int) := by omega
                  have i3 : (0 : Int) ≤ (v : Int) := by omega
                  have i4 : (v : Int) < (n : Int) := by omega
                  clear hu hv0 b1 b2 hgw hy
                  go_upto_region 22 with (fail)
                  refine wp_region_kept (by kernel_rfl) (by kernel_rfl) ?_
                  repeat (go_big_quiet_step (fail))
                  refine wpQuiet_nil ?_
                  intro w7 hk7
                  have HK7 := Lib.hid (HK6.out.trans hk7)
                  have rc7 : w7.cell? ⟨b6, o6 + i, none⟩ = some (.int .i64 r) := (keptCells hk7 _ (by rw [rc0]; rfl)).trans rc0
                  have bx7 := (HGF.out.kept (K6.out.trans HK7.out)).box.cell
                  have hlk7 : (Instr.lookup 37 (.map (some mb)) (.int .i64 (i : Int)) false).run Try.prog w7 = .ok (.int .i64 wk) w7 := hlk ⟨w7, hk7⟩
                  clear hk7 hcu hcv hc4 rc0 bx hlk hwy hwy'
                  go_upto_region 23 with (fail)
                  go_cut [105] from 91 to 104 (fun x wx => x = .bool (decide (0 < r) && (decide ((u : Int) ≠ S) && decide (0 < y))) ∧ wx = w7)
                  case first =>
                    by_cases q1 : 0 < r
                    · have z1 : decide (0 < r) = true := by simpa using q1
                      by_cases q2 : (u : Int) = S
                      · have z2 : ((u : Int) != S) = false := by simpa using q2
                        have e1 : (decide (0 < r) && (decide ((u : Int) ≠ S) && decide (0 < y))) = false := by simp [q2]
                        have HE1 := Lib.hid e1
                        clear q2 e1
                        go_wp2_with fail
                        go_meet
                        case rel => exact ⟨by rw [HE1.out], rfl⟩
                      · have z2 : ((u : Int) != S) = true := by simpa using q2
                        have e1 : (decide (0 < r) && (decide ((u : Int) ≠ S) && decide (0 < y))) = decide (0 < y) := by simp [q1, q2]
                        obtain ⟨zy, hzy⟩ : ∃ z, decide (0 < y) = z := ⟨_, rfl⟩
                        have HE1 : Hid (zy = (decide (0 < r) && (decide ((u : Int) ≠ S) && decide (0 < y)))) := Lib.hid (hzy.symm.trans e1.symm)
                        clear q2 e1
                        go_wp2_with fail
                        go_meet
                        case rel => exact ⟨congrArg Value.bool HE1.out, rfl⟩
                    · have z1 : decide (0 < r) = false := by simpa using q1
                      have HE1 : Hid ((decide (0 < r) && (decide ((u : Int) ≠ S) && decide (0 < y))) = false) := Lib.hid (by rw [z1]; rfl)
                      go_wp2_with fail
                      go_meet
                      case rel => exact ⟨by rw [HE1.out], rfl⟩
                  case rest =>
                    obtain ⟨rfl, hwe⟩ := hcut
                    rw [hwe]
                    clear hwe rc7 bx7
                    obtain ⟨zz, hzz⟩ : ∃ z, (decide (0 < r) && (decide ((u : Int) ≠ S) && decide (0 < y))) = z := ⟨_, rfl⟩
                    rw [hzz]
                    have HZZ := Lib.hid hzz
                    clear hzz
                    go_upto_if 105 with (fail)
                    go_cut [20] from 106 to 107 (fun x wx => x = .int .i64 wk ∧ wx = w7)
                    case first =>
                      cases zz with
                      | false =>
                        have e1 : (0 : Int) = wk := by
                          have h1 := HWK.out
                          have h2 := HZZ.out
                          simp only [Bool.and_eq_false_iff, decide_eq_false_iff_not] at h2
                          rw [if_neg (by rintro ⟨g1, g2, g3⟩; rcases h2 with h | h | h; exact h g1; exact h g2; exact h g3)] at h1
                          exact h1.symm
                        have HE1 := Lib.hid e1
                        clear e1
                        go_wp2_with fail
                        go_meet
                        case rel => exact ⟨by rw [HE1.out], rfl⟩
                      | true =>
                        have h2 := HZZ.out
                        simp only [Bool.and_eq_true, decide_eq_true_eq] at h2
                        by_cases q4 : 1 < y
                        · have z4 : decide (1 < y) = true := by simpa using q4
                          have e1 : (1 : Int) = wk := by have h1 := HWK.out; rw [if_pos ⟨h2.1, h2.2.1, h2.2.2⟩, if_pos q4] at h1; exact h1.symm
                          have HE1 := Lib.hid e1
                          clear e1 h2
                          go_wp2_with fail
                          go_meet
                          case rel => exact ⟨by rw [HE1.out], rfl⟩
                        · have z4 : decide (1 < y) = false := by simpa using q4
                          have e1 : (2 : Int) = wk := by have h1 := HWK.out; rw [if_pos ⟨h2.1, h2.2.1, h2.2.2⟩, if_neg q4] at h1; exact h1.symm
                          have HE1 := Lib.hid e1
                          clear e1 h2
                          go_wp2_with fail
                          go_meet
                          case rel => exact ⟨by rw [HE1.out], rfl⟩
                    case rest =>
                      obtain ⟨rfl, hwe⟩ := hcut
                      rw [hwe]
                      clear hwe HWK HZZ
                      have z9 : (wk != wk) = false := by simp
                      go_wp2_with fail
                      go_roundw
                      case rel => exact ⟨i + 1, by go_num, by omega, HK7⟩
                      case measure => simp [intOf]; omega
                · have j0 : ¬ (i : Int) < (m : Int) := by omega
                  have K8 := Lib.hid (K6.out.trans HK.out)
                  have HB8 := Lib.hid (HB7.out.kept HK.out)
                  have HRS4 := Lib.hid (HRS3.out.kept HK.out)
                  clear HK K6 HB7 HRS3 HN HGW HGL hi him
                  obtain ⟨V6, rfl⟩ : ∃ V6 : World, V6 = wr := ⟨_, rfl⟩
                  as_aux_lemma =>
                    by_cases hm0 : m = 0
                    · have z0 : ((m : Int) > 0) = False := by simp [hm0]
                      have z1 : decide ((0 : Int) < (m : Int)) = false := by simp [hm0]
                      have z1' : decide (0 < m) = false := by simp [hm0]
                      have HVB : Hid (validB (n : Int) S T n m ys rs hs = true) := Lib.hid (by
                        have h0 : dnL (n : Int) S T n m ys rs hs (isP true) = [] := by
                          have := dnL_len (n : Int) S T n m ys rs hs (isP true)
                          exact List.eq_nil_of_length_eq_zero (by omega)
                        unfold validB
                        rw [HMAY.out, h0]
                        rfl)
                      have HV := fun (w : World) (k : Kept V6 w) => Lib.hid (valid_at (n : Int) S T n m a3 a4 a5 a6 a7 a8 c3 c4 c5 c6 c7 c8 ys ra rc rs (some ⟨hb, 0, none⟩) n hs m n w HG.out (HGF.out.kept (K8.out.trans k)).cr (HGF.out.kept (K8.out.trans k)).rs (Rd.blk (HB8.out.kept k)) (by rw [HHL.out]; exact hnm) HRM.out HHL.out)
                      rw [HVB.out] at HV
                      have HAW := fun (w : World) => Lib.hid (awake6_any w)
                      have bx := (HGF.out.kept K8.out).box.cell
                      clear z0 hm0
                      go_wp2_with fail
                      refine (HV _ (Upd.refl _ _)).out.mono ?_
                      rintro e w8 ⟨rfl, hk8⟩
                      go_wp2_with fail
                      refine (HAW _).out.mono ?_
                      rintro e w9 ⟨rfl, hk9⟩
                      go_wp2_with fail
                      go_ret
                      exact ⟨rfl, HK0.out.trans (K8.out.trans (hk8.trans hk9))⟩
                    · obtain ⟨k, hk⟩ : ∃ k : Nat, at0 % (m : Int) = (k : Int) := ⟨(at0 % m).toNat, by have := Int.emod_nonneg at0 (show (m : Int) ≠ 0 by omega); omega⟩
                      have hkm : k < m := by have := Int.emod_lt_of_pos at0 (show (0 : Int) < m by omega); omega
                      have hkt : at0.tmod (m : Int) = (k : Int) := by rw [Int.tmod_eq_emod_of_nonneg ha0]; exact hk
                      have hn0 : ¬ (m : Int) = 0 := by omega
                      have hnb : ((m : Int) == 0) = false := by simpa using hn0
                      have hn4 : ¬ m = 0 := by omega
                      have hwa : IntKind.i64.wrap at0 = at0 := by rw [IntKind.wrap_i64]; omega
                      have hwt : IntKind.i64.wrap (k : Int) = (k : Int) := by rw [IntKind.wrap_i64]; omega
                      have z1 : decide ((0 : Int) < (m : Int)) = true := by simp; omega
                      have z1' : decide (0 < m) = true := by simp; omega
                      have k1 : (0 : Int) ≤ (k : Int) := by omega
                      have k2 : (k : Int) < (m : Int) := by omega
                      obtain ⟨rb, rest, hra, hrb, hblk⟩ := row_blk (ownsRow_upd HRO.out K8.out (fun _ _ f => f)) (by omega)
                      subst hra
                      have HRBL : Hid (rb < wB.heap.size) := Lib.hid (World.ownsRow.lt HRO.out rb rfl).2
                      have rc0 : V6.cell? ⟨rb, k, none⟩ = some (.int .i64 (rs.getD k 0)) := by
                        rw [hblk.cell]
                        simp only [List.getElem?_toArray]
                        rw [List.getElem?_append_left (by rw [lv_len, HRM.out]; exact hkm)]
                        exact lv_get (by rw [HRM.out]; exact hkm)
                      have rf0 := hblk.free k
                      have HRB := Lib.hid hblk
                      have HFAR : Hid (∀ x T' (arr : Array Value), Blk V6 x arr T' → T' ≠ 2 → ¬ x = rb) := Lib.hid (fun x T' arr hx hne e => by subst e; exact hne (hx.same hblk).2)
                      have HRL : Hid (Rd (V6.setCell ⟨rb, k, none⟩ (.int .i64 0)) (some ⟨rb, 0, none⟩) (lv (rs.set k 0))) := Lib.hid (rd_set hblk (by rw [HRM.out]; exact hkm))
                      have HCB : Hid (Blk (V6.setCell ⟨rb, k, none⟩ (.int .i64 0)) cb #[.int .i64 n, .int .i64 S, .int .i64 T, .slice a3 (n + 1) c3, .slice a4 m c4, .slice a5 m c5, .slice a6 m c6, .slice a7 m c7, .slice a8 m c8] 29) := Lib.hid ((HGF.out.kept K8.out).box.other (p := ⟨rb, k, none⟩) (HFAR.out _ _ _ (HGF.out.kept K8.out).box (by decide)) _)
                      have HB9 : Hid (Blk (V6.setCell ⟨rb, k, none⟩ (.int .i64 0)) hb (lv hs).toArray 3) := Lib.hid (HB8.out.other (p := ⟨rb, k, none⟩) (HFAR.out _ _ _ HB8.out (by decide)) _)
                      have hU : Upd (fun i => i = rb) V6 (V6.setCell ⟨rb, k, none⟩ (.int .i64 0)) := Upd.setCell (S := fun i => i = rb) (p := ⟨rb, k, none⟩) (Upd.refl _ _) (.inl rfl) (.int .i64 0)
                      have HCR : Hid (CsrR (V6.setCell ⟨rb, k, none⟩ (.int .i64 0)) n ys a3 a4 a5 a6 a7 a8) := Lib.hid (by
                        obtain ⟨lo, l3, l4, l5, l6, l7, l8⟩ := HCL.out
                        have far : ∀ (a : Option Addr), ABet lo B a → ∀ x, a = some x → ¬ x.block = rb := fun a ha x hx e => by have := (ha x hx).2; omega
                        have h := (HGF.out.kept K8.out).cr
                        exact ⟨h.r3.upd hU (far _ l3), h.r4.upd hU (far _ l4), h.r5.upd hU (far _ l5), h.r6.upd hU (far _ l6), h.r7.upd hU (far _ l7), h.r8.upd hU (far _ l8)⟩)
                      have HRS5 : Hid (Rd (V6.setCell ⟨rb, k, none⟩ (.int .i64 0)) av (nv Ls)) := Lib.hid (rd_far HRS4.out HRB.out (fun y hy _ => by have h1 := HAV.out y hy; have h2 := HRBL.out; omega))
                      have KB : Hid (Kept w (V6.setCell ⟨rb, k, none⟩ (.int .i64 0))) := Lib.hid (Kept.set (p := ⟨rb, k, none⟩) (HK0.out.trans K8.out) (by have := HBB.out; show w.heap.size ≤ rb; omega) _)
                      generalize rs.getD k 0 = r0 at rc0
                      clear hblk hrb hU
                      have bx := (HGF.out.kept K8.out).box.cell
                      go_upto_region 33 with (fail)
                      generalize (V6.setCell ⟨rb, k, none⟩ (.int .i64 0)) = V7 at HRL HCB HB9 HCR HRS5 KB ⊢
                      clear bx rc0 rf0 HFAR HRB HRO HCL HBB K8 HB8 HRS4 hkt hn0 hnb hn4 hwa hwt z1 z1' hk HGF HK0
                      as_aux_lemma =>
                        obtain ⟨Ms, hMs⟩ : ∃ L, dnL (n : Int) S T n m ys (rs.set k 0) hs (isP true) = L := ⟨_, rfl⟩
                        obtain ⟨Mf, hMf⟩ : ∃ L, dnL (n : Int) S T n m ys (rs.set k 0) hs (isP false) = L := ⟨_, rfl⟩
                        obtain ⟨js, hjs⟩ : ∃ k, Ms.length = k := ⟨_, rfl⟩
                        obtain ⟨jf, hjf⟩ : ∃ k, Mf.length = k := ⟨_, rfl⟩
                        have HSL : Hid ((rs.set k 0).length = m) := Lib.hid (by rw [List.length_set]; exact HRM.out)
                        have HNO : Hid ((∀ x ∈ Ms, x ≠ k ∧ x < m) ∧ (∀ x ∈ Mf, x ≠ k ∧ x < m)) := Lib.hid (by
                          have hmy := mayB_set HMAY.out k 0
                          have hk' : k < rs.length := by rw [HRM.out]; exact hkm
                          constructor
                          · intro x hx
                            refine ⟨fun e => ?_, ?_⟩
                            · subst e; rw [← hMs] at hx; exact closed_not HMAY.out _ _ hk' hx
                            · rw [← hMs, dnL_mem hmy] at hx; exact hx.1
                          · intro x hx
                            refine ⟨fun e => ?_, ?_⟩
                            · subst e; rw [← hMf] at hx; exact closed_not HMAY.out _ _ hk' hx
                            · rw [← hMf, dnL_mem hmy] at hx; exact hx.1)
                        have hjb : js ≤ 640 ∧ jf ≤ 640 := by
                          have h1 := dnL_len (n : Int) S T n m ys (rs.set k 0) hs (isP true)
                          have h2 := dnL_len (n : Int) S T n m ys (rs.set k 0) hs (isP false)
                          rw [hMs] at h1
                          rw [hMf] at h2
                          omega
                        obtain ⟨hjs6, hjf6⟩ := hjb
                        have HVB : Hid (validB (n : Int) S T n m ys (rs.set k 0) hs = (decide (Ls.length = 0) || (decide (Ls.length = 1) && decide (Ls.getD 0 0 = k)))) := Lib.hid (valid_closed HMAY.out k (by rw [HRM.out]; exact hkm) HLL.out.1)
                        have HST := fun (w : World) (k1 : Kept V7 w) => Lib.hid (steepO_at (n : Int) S T n m a3 a4 a5 a6 a7 a8 c3 c4 c5 c6 c7 c8 ys (some ⟨rb, 0, none⟩) rc (rs.set k 0) (some ⟨hb, 0, none⟩) n hs m n Ms js w HG.out (HCR.out.kept k1) (HRL.out.kept k1) (Rd.blk (HB9.out.kept k1)) (by rw [HHL.out]; exact hnm) HSL.out HHL.out hMs hjs)
                        have HFT := fun (w : World) (k1 : Kept V7 w) => Lib.hid (flatO_at (n : Int) S T n m a3 a4 a5 a6 a7 a8 c3 c4 c5 c6 c7 c8 ys (some ⟨rb, 0, none⟩) rc (rs.set k 0) (some ⟨hb, 0, none⟩) n hs m n Mf jf w HG.out (HCR.out.kept k1) (HRL.out.kept k1) (Rd.blk (HB9.out.kept k1)) (by rw [HHL.out]; exact hnm) HSL.out HHL.out hMf hjf)
                        have HV := fun (w : World) (k1 : Kept V7 w) => Lib.hid (valid_at (n : Int) S T n m a3 a4 a5 a6 a7 a8 c3 c4 c5 c6 c7 c8 ys (some ⟨rb, 0, none⟩) rc (rs.set k 0) (some ⟨hb, 0, none⟩) n hs m n w HG.out (HCR.out.kept k1) (HRL.out.kept k1) (Rd.blk (HB9.out.kept k1)) (by rw [HHL.out]; exact hnm) HSL.out HHL.out)
                        have HML := Lib.hid (And.intro hjs hjf)
                        clear hMs hMf hjs hjf
                        obtain ⟨i0, hi0, hz0, hz1, hz2⟩ := info_parts infoInt
                        have hsum : js + jf ≤ 2000000 := by omega
                        have K0 := Lib.hid (Upd.refl (fun _ => False) V7).drew
                        have C0 : (∀ i, V7.drew.cell? ⟨cb, i, none⟩ = (#[.int .i64 n, .int .i64 S, .int .i64 T, .slice a3 (n + 1) c3, .slice a4 m c4, .slice a5 m c5, .slice a6 m c6, .slice a7 m c7, .slice a8 m c8] : Array Value)[i]?) := (HCB.out.kept K0.out).cell
                        go_region_held_law (fun w' => (∀ i, w'.cell? ⟨cb, i, none⟩ = (#[.int .i64 n, .int .i64 S, .int .i64 T, .slice a3 (n + 1) c3, .slice a4 m c4, .slice a5 m c5, .slice a6 m c6, .slice a7 m c7, .slice a8 m c8] : Array Value)[i]?))
                          (first | exact C0 | exact C1 | exact C2 | exact C3)
                          ((first
                            | (refine step_appended (o := ⟨some 133, _, _, _, _, none⟩) rfl (.tmp 128) (.tmp 132) 26 rfl V7.heap.size 3 i0 (.int .i64 0) 8 Try.underlying26 hi0 hz0 hz1 hz2 rfl (by decide) (.slice sa js sc) js (nv Ms) (by simp [Act.eval, Act.put]) HO2.out fa jf fc (nv Mf) (by simp [Act.eval, Act.put]) HF2.out.1 HF2.out.2.1 HF2.out.2.2.1 HF2.out.2.2.2 hsum HS2.out (js + jf) rfl ?_; intro pa pc w9 hown hup; have K3 := Lib.hid (K2.out.then hup (fun i hi he => HS1.out i he hi)); have HR9 := Lib.hid hown; have C3 : (∀ i, w9.cell? ⟨cb, i, none⟩ = (#[.int .i64 n, .int .i64 S, .int .i64 T, .slice a3 (n + 1) c3, .slice a4 m c4, .slice a5 m c5, .slice a6 m c6, .slice a7 m c7, .slice a8 m c8] : Array Value)[i]?) := (HCB.out.kept K3.out).cell; clear hown hup)
                            | (go_at_call 20; refine (HFT _ K1.out).out.mono ?_; rintro e w8 ⟨fa, fc, rfl, ho8, hk8⟩; have K2 := Lib.hid (K1.out.trans hk8); have HO2 := Lib.hid (ownsRow_upd HO1.out hk8 (fun _ _ f => f)); have HS2 : Hid (V7.heap.size ≤ w8.heap.size) := Lib.hid K2.out.size; have HF2 : Hid (Rd w8 fa (nv Mf) ∧ (nv Mf).length = jf ∧ SomeOr fa jf fc ∧ ∀ u ∈ nv Mf, u.oneCell' = true) := Lib.hid ⟨rd_own ho8, by rw [nv_len]; exact HML.out.2, someOr_own ho8, nv_one Mf⟩; have C2 : (∀ i, w8.cell? ⟨cb, i, none⟩ = (#[.int .i64 n, .int .i64 S, .int .i64 T, .slice a3 (n + 1) c3, .slice a4 m c4, .slice a5 m c5, .slice a6 m c6, .slice a7 m c7, .slice a8 m c8] : Array Value)[i]?) := (HCB.out.kept K2.out).cell; clear ho8 hk8)
                            | (go_at_call 19; refine (HST _ K0.out).out.mono ?_; rintro e w7 ⟨sa, sc, rfl, ho7, hk7⟩; have K1 := Lib.hid (K0.out.trans hk7); have HO1 := Lib.hid (ownsRow_base (base' := V7.heap.size) ho7 (Nat.le_refl _)); have HS1 : Hid (∀ i, (Value.slice sa js sc).ownBlock = some i → ¬ i < V7.heap.size) := Lib.hid (fun i e => by have := (World.ownsRow.lt HO1.out i e).1; omega); have C1 : (∀ i, w7.cell? ⟨cb, i, none⟩ = (#[.int .i64 n, .int .i64 S, .int .i64 T, .slice a3 (n + 1) c3, .slice a4 m c4, .slice a5 m c5, .slice a6 m c6, .slice a7 m c7, .slice a8 m c8] : Array Value)[i]?) := (HCB.out.kept K1.out).cell; clear ho7 hk7)))
                        have HPR : Hid (Rd w9 pa (nv (Ms ++ Mf))) := Lib.hid (by rw [show nv (Ms ++ Mf) = nv Ms ++ nv Mf by simp [nv]]; exact rd_own HR9.out)
                        have HRS9 := Lib.hid (HRS5.out.kept K3.out)
                        clear C0 C1 C2 C3 K0 K1 K2 HO1 HO2 HF2 HS1 HS2 HR9 HRS5 hi0 hz0 hz1 hz2 HST HFT
                        go_upto_region 34 with (fail)
                        go_loopw [135] (fun ix wr => ∃ (i : Nat), ix = .int .i64 i ∧ i ≤ js + jf ∧ Hid (Kept w9 wr)) (fun ix _ => js + jf - (intOf ix).toNat)
                        case atStart => exact ⟨0, rfl, by omega, Lib.hid (Upd.refl _ _)⟩
                        case round =>
                          obtain ⟨i, rfl, hi, HK⟩ := hrel
                          by_cases hij : i < js + jf
                          · have hl : i < (Ms ++ Mf).length := by rw [List.length_append, HML.out.1, HML.out.2]; exact hij
                            obtain ⟨ab, ao, rfl, xc⟩ := (HPR.out.kept HK.out).at i (by rw [nv_len]; exact hl)
                            rw [nv_get hl] at xc
                            obtain ⟨x, hx⟩ : ∃ x, (Ms ++ Mf).getD i 0 = x := ⟨_, rfl⟩
                            rw [hx] at xc
                            have hxm : x ∈ Ms ++ Mf := by rw [← hx, List.getD_eq_getElem?_getD, List.getElem?_eq_getElem hl, Option.getD_some]; exact List.getElem_mem hl
                            have hxk : x ≠ k := by
                              rcases List.mem_append.1 hxm with h | h
                              · exact (HNO.out.1 x h).1
                              · exact (HNO.out.2 x h).1
                            have z1 : ((x : Int) == (k : Int)) = false := by simp; omega
                            have j0 : (i : Int) < (js : Int) + (jf : Int) := by omega
                            have j0' : (i : Int) < ((js + jf : Nat) : Int) := by omega
                            have j1 : (0 : Int) ≤ (i : Int) := by omega
                            have j2 : (i : Int) ≤ 2000 := by omega
                            clear hl hx hxm hxk
                            go_wp2_with fail
                            go_roundw
                            case rel => exact ⟨i + 1, by go_num, by omega, HK⟩
                            case measure => simp [intOf]; omega
                          · have j0 : ¬ (i : Int) < (js : Int) + (jf : Int) := by omega
                            have j0' : ¬ (i : Int) < ((js + jf : Nat) : Int) := by omega
                            have j0'' : ¬ i < js + jf := hij
                            have K10 := Lib.hid (K3.out.trans HK.out)
                            have HR10 := Lib.hid (HRS9.out.kept HK.out)
                            have bx := (HCB.out.kept K10.out).cell
                            have HAW := fun (w : World) => Lib.hid (awake6_any w)
                            have hlsk := HLS.out.1
                            have HLK := Lib.hid hlsk
                            clear HK hi hij hlsk HPR HRS9
                            by_cases q0 : ks = 0
                            · have y0 : ((ks : Int) == 0) = true := by simp [q0]
                              have HVT := fun (w : World) (k1 : Kept V7 w) => Lib.hid ((show validB (n : Int) S T n m ys (rs.set k 0) hs = true by rw [HVB.out, HLK.out, q0]; rfl) ▸ (HV w k1).out)
                              clear q0
                              go_wp2_with fail
                              refine (HVT _ K10.out).out.mono ?_
                              rintro e wz ⟨rfl, hkz⟩
                              have HKZ := Lib.hid (K10.out.trans hkz)
                              have lcz := fun (a : Addr) (v : Value) (h : wr.cell? a = some v) => (keptCells hkz a (by rw [h]; rfl)).trans h
                              clear lcz hkz
                              go_wp2_with fail
                              refine (HAW _).out.mono ?_
                              rintro e wy ⟨rfl, hky⟩
                              go_wp2_with fail
                              go_ret
                              exact ⟨rfl, KB.out.trans (HKZ.out.trans hky)⟩
                            · have y0 : ((ks : Int) == 0) = false := by simp; omega
                              by_cases q1 : ks = 1
                              · have y1 : ((ks : Int) == 1) = true := by simp [q1]
                                obtain ⟨lb, lo, rfl, lc0⟩ := HR10.out.at 0 (by rw [nv_len, HLK.out]; omega)
                                rw [nv_get (by rw [HLK.out]; omega)] at lc0
                                have lc1 : wr.cell? ⟨lb, lo, none⟩ = some (.int .i64 (Ls.getD 0 0 : Nat)) := lc0
                                obtain ⟨x, hx⟩ : ∃ x, Ls.getD 0 0 = x := ⟨_, rfl⟩
                                rw [hx] at lc1
                                have j3 : (0 : Int) < (ks : Int) := by omega
                                have HXX := Lib.hid hx
                                clear lc0 hx
                                by_cases q2 : x = k
                                · have y2 : ((x : Int) == (k : Int)) = true := by simp [q2]
                                  have HVT := fun (w : World) (k1 : Kept V7 w) => Lib.hid ((show validB (n : Int) S T n m ys (rs.set k 0) hs = true by rw [HVB.out, HLK.out, q1, HXX.out, q2]; simp) ▸ (HV w k1).out)
                                  have HQ := Lib.hid (And.intro q1 q2)
                                  clear q0 q1 q2
                                  go_wp2_with fail
                                  refine (HVT _ K10.out).out.mono ?_
                                  rintro e wz ⟨rfl, hkz⟩
                                  have HKZ := Lib.hid (K10.out.trans hkz)
                                  have lcz := fun (a : Addr) (v : Value) (h : wr.cell? a = some v) => (keptCells hkz a (by rw [h]; rfl)).trans h
                                  have lc2 := lcz _ _ lc1
                                  clear lcz hkz lc1
                                  go_wp2_with fail
                                  refine (HAW _).out.mono ?_
                                  rintro e wy ⟨rfl, hky⟩
                                  go_wp2_with fail
                                  go_ret
                                  exact ⟨rfl, KB.out.trans (HKZ.out.trans hky)⟩
                                · have y2 : ((x : Int) == (k : Int)) = false := by simp; omega
                                  have HVT := fun (w : World) (k1 : Kept V7 w) => Lib.hid ((show validB (n : Int) S T n m ys (rs.set k 0) hs = false by rw [HVB.out, HLK.out, q1, HXX.out]; simp [q2]) ▸ (HV w k1).out)
                                  clear q0 q1 q2
                                  go_wp2_with fail
                                  refine (HVT _ K10.out).out.mono ?_
                                  rintro e wz ⟨rfl, hkz⟩
                                  have HKZ := Lib.hid (K10.out.trans hkz)
                                  have lcz := fun (a : Addr) (v : Value) (h : wr.cell? a = some v) => (keptCells hkz a (by rw [h]; rfl)).trans h
                                  have lc2 := lcz _ _ lc1
                                  clear lcz hkz lc1
                                  go_wp2_with fail
                                  refine (HAW _).out.mono ?_
                                  rintro e wy ⟨rfl, hky⟩
                                  go_wp2_with fail
                                  go_ret
                                  exact ⟨rfl, KB.out.trans (HKZ.out.trans hky)⟩
                              · have y1 : ((ks : Int) == 1) = false := by simp; omega
                                have HVT := fun (w : World) (k1 : Kept V7 w) => Lib.hid ((show validB (n : Int) S T n m ys (rs.set k 0) hs = false by rw [HVB.out, HLK.out]; simp [q0, q1]) ▸ (HV w k1).out)
                                clear q0 q1
                                go_wp2_with fail
                                refine (HVT _ K10.out).out.mono ?_
                                rintro e wz ⟨rfl, hkz⟩
                                have HKZ := Lib.hid (K10.out.trans hkz)
                                have lcz := fun (a : Addr) (v : Value) (h : wr.cell? a = some v) => (keptCells hkz a (by rw [h]; rfl)).trans h
                                clear lcz hkz
                                go_wp2_with fail
                                refine (HAW _).out.mono ?_
                                rintro e wy ⟨rfl, hky⟩
                                go_wp2_with fail
                                go_ret
                                exact ⟨rfl, KB.out.trans (HKZ.out.trans hky)⟩
theorem labelArcs_walk (N S T : Int) (a : Option Addr) (cap : Nat) (els : List (List Value)) (s1 : Option Addr) (cap1 : Nat) (z1 : List Int) (s2 : Option Addr) (cap2 : Nat) (z2 : List Int) (at0 : Int) (w : World) (_wN : (Lit.int .i64 N).wf = true) (_wS : (Lit.int .i64 S).wf = true) (_wT : (Lit.int .i64 T).wf = true) (hrow : FlatRow [some .i64, some .i64, some .i64] w a cap els) (_hf : ∀ x ∈ els, fits [some .i64, some .i64, some .i64] x)
    (w1 : IntRow .i64 w s1 cap1 z1) (m1 : ∀ n ∈ z1, (Lit.int .i64 n).wf = true) (w2 : IntRow .i64 w s2 cap2 z2) (_m2 : ∀ n ∈ z2, (Lit.int .i64 n).wf = true) (wa : (Lit.int .u8 at0).wf = true) :
    Calls Try.prog 4 #[.agg #[.int .i64 N, .int .i64 S, .int .i64 T, .slice a els.length cap], .slice s1 z1.length cap1, .slice s2 z2.length cap2, .int .u8 at0] w fun e w' => e = .returned (.bool true) ∧ Kept w w' := by
  obtain ⟨xs, hl, hA, hx⟩ := ars_of_flat hrow
  have hle := hrow.le
  have hmo := hrow.most
  have l1 := w1.le
  have l1' := w1.most
  have l2 := w2.le
  have l2' := w2.most
  unfold maxLen at hmo l1' l2'
  exact labelArcs_core N S T a els.length cap xs s1 cap1 z1 s2 cap2 z2 at0 w hA hl hle hmo (fun x hx0 => bounds_i64 (hx x hx0).2.2) w1.rd (fun x hx0 => bounds_i64 (m1 x hx0)) (by omega) w2.rd (by omega) (bounds_u8 wa).1 (bounds_u8 wa).2
end Go.Proofs.Ytdcbofgkfekkoaa
