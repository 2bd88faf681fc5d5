/- The law LabelRaise (printed by gen_raise.py). -/
import Derived.Test.YtdcbofgkfekkoaaLabAt
import Derived.Test.YtdcbofgkfekkoaaRaiseP
import Derived.Test.YtdcbofgkfekkoaaMapRd
import Derived.Test.YtdcbofgkfekkoaaGst
import Derived.Test.YtdcbofgkfekkoaaRowsRd
import Derived.Test.YtdcbofgkfekkoaaCopyRow
import Derived.Deep.CutRange
namespace Go.Proofs.Ytdcbofgkfekkoaa
set_option linter.unusedVariables false
set_option linter.unusedSimpArgs false
open Go.RowKit Go.Maps
attribute [local go_sem] cell?_ext

set_option maxRecDepth 100000 in
set_option maxHeartbeats 8000000 in
theorem labelRaise_core (N0 S0 T0 : Int) (a : Option Addr) (k0 cap : Nat) (ys0 : List Ar) (la : Option Addr) (lc : Nat) (ls : List Int) (ha : Option Addr) (hc : Nat) (hs0 : List Int) (at0 : Int) (w : World)
    (h : Ars w a ys0) (hk0 : ys0.length = k0) (hle : k0 ≤ cap) (hmost : cap ≤ 9223372036854775807) (hwf : ∀ x ∈ ys0, -9223372036854775808 ≤ x.c ∧ x.c ≤ 9223372036854775807)
    (hl : Rd w la (lv ls)) (hli : ∀ x ∈ ls, -9223372036854775808 ≤ x ∧ x ≤ 9223372036854775807) (hll : ls.length ≤ 9223372036854775807)
    (hh1 : Rd w ha (lv hs0)) (hm1 : hs0.length ≤ 9223372036854775807) (ha0 : 0 ≤ at0) (ha1 : at0 ≤ 255) :
    Calls Try.prog 3 #[.agg #[.int .i64 N0, .int .i64 S0, .int .i64 T0, .slice a k0 cap], .slice la ls.length lc, .slice ha hs0.length hc, .int .u8 at0] w fun e w' => e = .returned (.bool true) ∧ Kept w w' := by
  have HS : ∀ (w : World), Ars w a ys0 → Hid (Calls Try.prog 15 #[.agg #[.int .i64 N0, .int .i64 S0, .int .i64 T0, .slice a k0 cap], .int .i64 16, .int .i64 40] w (NetIs w)) := by
    intro w h
    subst hk0
    exact Lib.hid (Some_any N0 S0 T0 a cap ys0 w h hle hmost hwf)
  have HX := Lib.hid (h.kept ((Upd.refl (fun _ => False) w).alloc (.cells #[.int .i64 N0, .int .i64 S0, .int .i64 T0, .slice a k0 cap] 24)))
  have HK := Lib.hid ((Upd.refl (fun _ => False) w).alloc (.cells #[.int .i64 N0, .int .i64 S0, .int .i64 T0, .slice a k0 cap] 24))
  have HL := Lib.hid hl
  have HLI := Lib.hid hli
  have HHR := Lib.hid hh1
  have HHX := Lib.hid hm1
  clear hh1
  clear h hl hli hle hmost hwf
  go_enter Try.func3, Try.ntmps3
  go_wp2_with fail
  refine (HS _ HX.out).out.mono ?_
  rintro e w1 ⟨N, S, T, a', cap', ys, rfl, hok, hown, hk1⟩
  have HK1 := Lib.hid (HK.out.trans hk1)
  have HOK := Lib.hid hok
  have HA : Hid (Ars w1 a' ys) := Lib.hid hown.at.2
  clear hk1 hok hown HS HX HK
  have HLE := fun (w : World) (h : Ars w a' ys) (hl : Rd w la (lv ls)) => Lib.hid (Left_ok N S T a' cap' ys la lc ls w h HOK.out hl HLI.out hll)
  go_wp2_with fail
  refine (HLE _ HA.out (HL.out.kept HK1.out)).out.mono ?_
  rintro e w2 ⟨B, n, m, a3, c3, a4, c4, a5, c5, a6, c6, a7, c7, a8, c8, ra, rc, rfl, hn, hm2, hcr, -, hk2, -, hro⟩
  have HG : Hid (Gr N S T n m ys) := Lib.hid ⟨HOK.out, hn, hm2⟩
  obtain ⟨rs, hrs⟩ : ∃ rs, resAll (wths ls ys) n ys = rs := ⟨_, rfl⟩
  have HRM : Hid (rs.length = m) := Lib.hid (by rw [← hrs, resAll_len]; exact hm2)
  have HRI : Hid (∀ x ∈ rs, 0 ≤ x ∧ x < 1125899906842624) := Lib.hid (by rw [← hrs]; exact left_in HG.out HLI.out)
  rw [hrs] at hro
  have HRC : Hid (m ≤ rc) := Lib.hid (row_cap' hro)
  have HSO : Hid ((∃ ad, ra = some ad) ∨ (ra = none ∧ m = 0 ∧ rc = 0)) := Lib.hid (someOr_row hro)
  obtain ⟨ra', rc', e9, hrr⟩ := Rd.owns hro
  cases e9
  have hA := (Upd.refl (fun _ => False) w2).alloc (.cells #[.int .i64 N, .int .i64 S, .int .i64 T, .slice a3 (n + 1) c3, .slice a4 m c4, .slice a5 m c5, .slice a6 m c6, .slice a7 m c7, .slice a8 m c8] 29)
  have HK0 := Lib.hid ((HK1.out.trans hk2).trans hA)
  have HGF : Hid (GF N S T n m a3 a4 a5 a6 a7 a8 c3 c4 c5 c6 c7 c8 ys w2.heap.size ra rs (w2.alloc (.cells #[.int .i64 N, .int .i64 S, .int .i64 T, .slice a3 (n + 1) c3, .slice a4 m c4, .slice a5 m c5, .slice a6 m c6, .slice a7 m c7, .slice a8 m c8] 29))) := Lib.hid ⟨Blk.new _ _ _, hcr.kept hA, hrr.kept hA⟩
  clear hn hm2 hcr hk2 hro hrr hrs hA HLE HA HOK HK1 HL HLI hll
  clear hk0
  go_upto_region 2 with (fail)
  generalize (w2.alloc (.cells #[.int .i64 N, .int .i64 S, .int .i64 T, .slice a3 (n + 1) c3, .slice a4 m c4, .slice a5 m c5, .slice a6 m c6, .slice a7 m c7, .slice a8 m c8] 29)) = wB at HGF HK0 ⊢
  generalize w2.heap.size = cb at HGF ⊢
  have HK1 : Hid (Kept wB wB) := Lib.hid (Upd.refl _ _)
  obtain ⟨hnN, hn2, hn16, hm6, -⟩ := HG.out.len
  subst hnN
  obtain ⟨u, ht⟩ : ∃ u : Nat, at0 % (n : Int) = (u : Int) := ⟨(at0 % n).toNat, by have := Int.emod_nonneg at0 (show (n : Int) ≠ 0 by omega); omega⟩
  have hun : u < n := by have := Int.emod_lt_of_pos at0 (show (0 : Int) < n by omega); omega
  have htm : at0.tmod (n : Int) = (u : Int) := by rw [Int.tmod_eq_emod_of_nonneg ha0]; exact ht
  have hn0 : ¬ (n : Int) = 0 := by omega
  have hnb : ((n : Int) == 0) = false := by simpa using hn0
  have hn4 : ¬ n = 0 := by omega
  have hwa : IntKind.i64.wrap at0 = at0 := by rw [IntKind.wrap_i64]; omega
  have hwt : IntKind.i64.wrap (u : Int) = (u : Int) := by rw [IntKind.wrap_i64]; omega
  have G1 := fun (w : World) (k : Kept wB w) => Lib.hid (heights_any (n : Int) S T n m a3 a4 a5 a6 a7 a8 c3 c4 c5 c6 c7 c8 ys ha hc hs0 w HG.out (HHR.out.kept (HK0.out.trans k)) HHX.out)
  have bx := HGF.out.box.cell
  go_wp2_with fail
  refine (G1 _ HK1.out).out.mono ?_
  rintro e w1 ⟨hb, rfl, h1, h2, h3⟩
  have K1 := Lib.hid h3
  have HB1 := Lib.hid h1
  have HBL : Hid (wB.heap.size ≤ hb) := Lib.hid h2
  clear h1 h2 h3 G1 bx HK1
  obtain ⟨hs, hhs⟩ : ∃ hs, htL (n : Int) S T n hs0 = hs := ⟨_, rfl⟩
  have HRT : Hid (rightB (n : Int) S T hs = true) := Lib.hid (by rw [← hhs]; exact htL_right HG.out hs0)
  have HHL : Hid (hs.length = n) := Lib.hid (by rw [← hhs]; exact htL_len _ _ _ _ _)
  rw [hhs] at HB1
  clear hhs HHR HHX
  have HMAY : Hid (mayB (n : Int) S T m rs hs = true) := Lib.hid (by unfold mayB; rw [HRT.out, HRM.out]; simp)
  have hnm : n ≤ 9223372036854775807 := by omega
  have HLE := fun (w : World) (k : Kept wB w) (h : Rd w (some ⟨hb, 0, none⟩) (lv hs)) => Lib.hid (least_at (n : Int) S T n m a3 a4 a5 a6 a7 a8 c3 c4 c5 c6 c7 c8 ys ra rc rs (some ⟨hb, 0, none⟩) n hs m n (u : Int) w HG.out (HGF.out.kept k).cr (HGF.out.kept k).rs h (by rw [HHL.out]; exact hnm) HRM.out HHL.out)
  have bx := (HGF.out.kept K1.out).box.cell
  go_upto_region 4 with (fail)
  go_wp2_with fail
  refine (HLE _ K1.out (Rd.blk HB1.out)).out.mono ?_
  rintro e w2 ⟨b, low, ok, rfl, hle, hk2⟩
  have K2 := Lib.hid (K1.out.trans hk2)
  have HB2 := Lib.hid (HB1.out.kept hk2)
  have HLO := Lib.hid hle
  clear hle hk2 HLE bx K1 HB1 htm hn0 hnb hn4 hwa hwt ht ha0 ha1
  have bx := (HGF.out.kept K2.out).box.cell
  cases ok with
  | false =>
    have HAW := fun (w : World) => Lib.hid (awake6_any w)
    go_wp2_with fail
    refine (HAW _).out.mono ?_
    rintro e w9 ⟨rfl, hk9⟩
    go_wp2_with fail
    go_ret
    exact ⟨rfl, HK0.out.trans (K2.out.trans hk9)⟩
  | true =>
    by_cases q1 : (u : Int) = S
    · have z1 : ((u : Int) == S) = true := by simpa using q1
      clear q1
      have HAW := fun (w : World) => Lib.hid (awake6_any w)
      go_wp2_with fail
      refine (HAW _).out.mono ?_
      rintro e w9 ⟨rfl, hk9⟩
      go_wp2_with fail
      go_ret
      exact ⟨rfl, HK0.out.trans (K2.out.trans hk9)⟩
    · have z1 : ((u : Int) == S) = false := by simpa using q1
      have HQ1 := Lib.hid q1
      clear q1
      by_cases q2 : (u : Int) = T
      · have z2 : ((u : Int) == T) = true := by simpa using q2
        clear q2
        have HAW := fun (w : World) => Lib.hid (awake6_any w)
        go_wp2_with fail
        refine (HAW _).out.mono ?_
        rintro e w9 ⟨rfl, hk9⟩
        go_wp2_with fail
        go_ret
        exact ⟨rfl, HK0.out.trans (K2.out.trans hk9)⟩
      · have z2 : ((u : Int) == T) = false := by simpa using q2
        have HQ2 := Lib.hid q2
        clear q2
        as_aux_lemma =>
          obtain ⟨c0, e0, g1, g2, g3, g4, g5⟩ : ∃ c : Nat, b = (c : Int) ∧ fst ys u ≤ c ∧ c < fst ys (u + 1) ∧ 0 < rs.getD c 0 ∧ low = kk n ys hs c ∧ ∀ a, fst ys u ≤ a → a < fst ys (u + 1) → 0 < rs.getD a 0 → low ≤ kk n ys hs a := by
            have h := HLO.out
            unfold LeastOf at h
            rw [if_pos ⟨HMAY.out, by omega, by omega⟩] at h
            rcases h with ⟨h, -⟩ | ⟨-, c, h1, h2, h3, h4, h5, h6⟩
            · cases h
            · refine ⟨c, h1, by simpa using h2, by simpa using h3, h4, h5, fun a ha hb hr => ?_⟩
              have := h6 a (by simpa using ha) (by simpa using hb) hr
              omega
          subst e0
          have hfm : fst ys (u + 1) ≤ m := by have := HG.out.hm; have := fst_mono ys (show u + 1 ≤ n by omega); unfold fst at *; omega
          have hcm : c0 < m := by omega
          have hvn := (hd_get HG.out c0 hcm).2
          have hlo : 0 ≤ low ∧ low ≤ n := by
            have h1 := rightB_in HRT.out (hd n ys c0) (by rw [HHL.out]; exact hvn)
            rw [g4]
            unfold kk
            exact h1.2
          have HLL := Lib.hid g5
          have HC := Lib.hid (And.intro g1 (And.intro g2 (And.intro g3 g4)))
          obtain ⟨b3, o3, e3, -⟩ := HGF.out.cr.r3.at 0 (by rw [nv_len, firsts_len]; omega)
          subst e3
          have HF1 : Hid (∀ w', Kept wB w' → w'.cell? ⟨b3, o3 + u, none⟩ = some (.int .i64 (fst ys u : Nat)) ∧ w'.cell? ⟨b3, o3 + (u + 1), none⟩ = some (.int .i64 (fst ys (u + 1) : Nat))) := Lib.hid (fun w' k => by
            obtain ⟨b, o, e, h1⟩ := (HGF.out.kept k).cr.r3.at u (by rw [nv_len, firsts_len]; omega)
            obtain ⟨b', o', e', h2⟩ := (HGF.out.kept k).cr.r3.at (u + 1) (by rw [nv_len, firsts_len]; omega)
            cases e
            cases e'
            rw [firsts_get n ys _ (by omega)] at h1 h2
            exact ⟨h1, h2⟩)
          obtain ⟨fc0, fc1⟩ := HF1.out w2 K2.out
          obtain ⟨b4, o4, rfl, hc4⟩ := ((HGF.out.kept K2.out).cr.r4).at c0 (by rw [show (hv (enAll n ys)).length = (enAll n ys).length by simp [hv], HG.out.hm]; exact hcm)
          rw [(hd_get HG.out c0 hcm).1] at hc4
          have HC4 : Hid (∀ a, a < m → ∀ w', Kept wB w' → w'.cell? ⟨b4, o4 + a, none⟩ = some (.int .i64 (hd n ys a : Nat))) := Lib.hid (fun a ha w' k => by
            obtain ⟨b4', o4', e, h⟩ := ((HGF.out.kept k).cr.r4).at a (by rw [show (hv (enAll n ys)).length = (enAll n ys).length by simp [hv], HG.out.hm]; exact ha)
            cases e
            rwa [(hd_get HG.out a ha).1] at h)
          have hh4 : w2.cell? ⟨hb, hd n ys c0, none⟩ = some (.int .i64 low) := by
            rw [HB2.out.cell, g4]
            simp only [List.getElem?_toArray]
            exact lv_get (by rw [HHL.out]; exact hvn)
          obtain ⟨b6, o6, rfl, rc0⟩ := (HGF.out.kept K2.out).rs.num (i := c0) (by rw [HRM.out]; exact hcm)
          obtain ⟨v0, hv0⟩ : ∃ v, hd n ys c0 = v := ⟨_, rfl⟩
          rw [hv0] at hc4 hh4 hvn
          obtain ⟨r0, hr0⟩ : ∃ r, rs.getD c0 0 = r := ⟨_, rfl⟩
          rw [hr0] at rc0 g3
          obtain ⟨q, hq⟩ : ∃ q, fst ys u = q := ⟨_, rfl⟩
          obtain ⟨q', hq'⟩ : ∃ q', fst ys (u + 1) = q' := ⟨_, rfl⟩
          rw [hq] at fc0 g1
          rw [hq'] at fc1 g2 hfm
          rw [hq, hq'] at HF1
          have HQQ : Hid (fst ys u = q ∧ fst ys (u + 1) = q') := Lib.hid ⟨hq, hq'⟩
          have i1 : (0 : Int) ≤ (u : Int) := by omega
          have i2 : (u : Int) < (n : Int) + 1 := by omega
          have i3 : (0 : Int) ≤ ((u + 1 : Nat) : Int) := by omega
          have i4 : ((u + 1 : Nat) : Int) < (n : Int) + 1 := by omega
          have i3' : (0 : Int) ≤ (u : Int) + 1 := by omega
          have i4' : (u : Int) + 1 < (n : Int) + 1 := by omega
          have i5 : (0 : Int) ≤ (c0 : Int) := by omega
          have i6 : (c0 : Int) < (m : Int) := by omega
          have i7 : (0 : Int) ≤ (v0 : Int) := by omega
          have i8 : (v0 : Int) < (n : Int) := by omega
          have i9 : (u : Int) < (n : Int) := by omega
          have t1 : decide ((c0 : Int) < (q : Int)) = false := by simp; omega
          have t1' : decide (c0 < q) = false := by simp; omega
          have t2 : decide ((q' : Int) ≤ (c0 : Int)) = false := by simp; omega
          have t2' : decide (q' ≤ c0) = false := by simp; omega
          have t3 : (low != low) = false := by simp
          have t4 : decide (r0 ≤ 0) = false := by simp; omega
          have hu16 : u ≤ 1000 := by omega
          have hwu := wrap_up u hu16
          have hwu' := wrap_up' u hu16
          clear g4 g5 hv0 hr0 hq hq'
          have HNUM : Hid (2 ≤ n ∧ n ≤ 16 ∧ m ≤ 640 ∧ u < n ∧ 0 ≤ low ∧ low ≤ (n : Int) ∧ c0 < m ∧ q ≤ c0 ∧ c0 < q' ∧ q' ≤ m ∧ n ≤ 9223372036854775807) := Lib.hid ⟨hn2, hn16, hm6, hun, hlo.1, hlo.2, hcm, g1, g2, hfm, hnm⟩
          clear hn2 hn16 hm6 hun hlo hcm g1 g2 g3 hfm hnm hvn hu16
          have bx := (HGF.out.kept K2.out).box.cell
          have hmm := @run_makeMap Try.prog
          have HM0 := Lib.hid (Mp.new w2 m)
          have KM := Lib.hid (K2.out.alloc (.map #[] 0))
          have HB3 := Lib.hid (HB2.out.alloc (.map #[] 0))
          go_upto_region 10 with (fail)
          generalize (w2.alloc (.map #[] 0)) = V1 at HM0 KM HB3 ⊢
          generalize hmb : w2.heap.size = mb at HM0 ⊢
          have HMB : Hid (wB.heap.size ≤ mb ∧ hb < mb) := Lib.hid ⟨by rw [← hmb]; exact K2.out.size, by rw [← hmb]; exact HB2.out.lt⟩
          clear hmb hmm fc0 fc1 hc4 hh4 rc0 bx HB2 t1 t1' t2 t2' t3 t4 K2 hwu hwu' i5 i6 i7 i8 i3' i4'
          obtain ⟨hn2, hn16, hm6, hun, hlo0, hlo1, hcm, g1, g2, hfm, hnm⟩ := HNUM.out
          obtain ⟨Ls, hLs⟩ : ∃ L, dnL (n : Int) S T n m ys rs hs (isP true) = L := ⟨_, rfl⟩
          obtain ⟨ks, hks⟩ : ∃ k, Ls.length = k := ⟨_, rfl⟩
          have HST := fun (w : World) (k1 : Kept wB w) (h : Rd w (some ⟨hb, 0, none⟩) (lv hs)) => Lib.hid (steep_at (n : Int) S T n m (some ⟨b3, o3, none⟩) (some ⟨b4, o4, none⟩) a5 a6 a7 a8 c3 c4 c5 c6 c7 c8 ys (some ⟨b6, o6, none⟩) rc rs (some ⟨hb, 0, none⟩) n hs m n Ls ks w HG.out (HGF.out.kept k1).cr (HGF.out.kept k1).rs h (by rw [HHL.out]; exact hnm) HRM.out HHL.out hLs hks)
          have HLS : Hid (Ls.length = ks ∧ ks ≤ 640 ∧ Ls.Nodup ∧ (∀ v ∈ Ls, v < m) ∧ ∀ a, a < m → (a ∈ Ls ↔ dnQ S n ys rs hs (isP true) a = true)) := Lib.hid ⟨hks, by have h1 := dnL_len (n : Int) S T n m ys rs hs (isP true); rw [hLs] at h1; omega, by rw [← hLs]; exact dnL_nodup _ _ _ _ _ _ _ _ _, fun v hv => by rw [← hLs, dnL_mem HMAY.out] at hv; exact hv.1, fun a ha => by rw [← hLs, dnL_mem HMAY.out]; exact ⟨fun h => h.2, fun h => ⟨ha, h⟩⟩⟩
          clear hLs hks
          have bx := (HGF.out.kept KM.out).box.cell
          go_wp2_with fail
          refine (HST _ KM.out (Rd.blk HB3.out)).out.mono ?_
          rintro e V2 ⟨av, cv, rfl, hrv, hk'⟩
          have K3 := Lib.hid (KM.out.trans hk')
          have HMP := Lib.hid (HM0.out.upd hk' (fun f => f))
          have HB4 := Lib.hid (HB3.out.kept hk')
          have HRV := Lib.hid hrv
          clear hrv hk' HST bx HM0 KM HB3
          have hks640 : ks ≤ 640 := HLS.out.2.1
          go_upto_region 11 with (fail)
          go_loopw [108] (fun ix wr => ∃ (i : Nat) (h : List Int) (l : List Bool) (c : Nat), ix = .int .i64 i ∧ i ≤ ks ∧ c ≤ i ∧ Hid (Upd (fun k => k = mb) V2 wr) ∧ Hid (Mp wr mb c h l) ∧ Hid (KD m Ls [] i 0 h l c)) (fun ix _ => ks - (intOf ix).toNat)
          case atStart => exact ⟨0, _, _, 0, rfl, by omega, by omega, Lib.hid (Upd.refl _ _), HMP, Lib.hid (KD.zero m Ls [])⟩
          case round =>
            obtain ⟨i, h, l, cc, rfl, hi, hci, HU, HM, HE⟩ := hrel
            by_cases hik : i < ks
            · obtain ⟨ab, ao, rfl, xc⟩ := (HRV.out.mapped HMP.out HU.out).at i (by rw [nv_len, HLS.out.1]; exact hik)
              rw [nv_get (by rw [HLS.out.1]; exact hik)] at xc
              have HO := Lib.hid (HE.out.one HLS.out.2.2.1 HLS.out.2.2.2.1 (by rw [HLS.out.1]; exact hik))
              obtain ⟨x, hx⟩ : ∃ x, Ls.getD i 0 = x := ⟨_, rfl⟩
              have hxm : x < m := by rw [← hx]; exact HLS.out.2.2.2.1 _ (by have := HLS.out.1; simp [this, hik])
              rw [hx] at xc HO
              have HXL : Hid (x < h.length) := Lib.hid (by rw [HE.out.len]; exact hxm)
              have j0 : (i : Int) < (ks : Int) := by omega
              have j1 : (0 : Int) ≤ (i : Int) := by omega
              have j2 : (i : Int) ≤ 1000 := by omega
              clear hx HE
              go_wp2_with (first | (at_mapUpdate; refine wpList_put _ rfl _ _ _ rfl rfl HM.out (by unfold maxLen; omega) x 1 rfl rfl HXL.out (by omega) (by decide) ?_; intro w6 hM6 hU6; have HM6 := Lib.hid hM6; have HU6 := Lib.hid (HU.out.trans hU6); clear hM6 hU6) | fail)
              clear HU HM xc
              go_roundw
              case rel => exact ⟨i + 1, _, _, cc + 1, by go_num, by omega, by omega, HU6, HM6, Lib.hid (HO.out.2 _)⟩
              case measure => simp [intOf]; omega
            · have j0 : ¬ (i : Int) < (ks : Int) := by omega
              have HW : Hid (∀ a, a < m → h.getD a 0 = if dnQ S n ys rs hs (isP true) a = true then 1 else 0) := Lib.hid (fun a ha => by
                rw [HE.out.at_ a ha, List.take_of_length_le (by rw [HLS.out.1]; omega)]
                simp only [HLS.out.2.2.2.2 a ha, List.take_nil, List.not_mem_nil, if_false])
              have HWL : Hid (h.length = m) := Lib.hid HE.out.len
              have K4 : Hid (Kept wB wr) := Lib.hid (Upd.late K3.out HU.out (fun i e => by have := HMB.out; omega))
              have HB5 : Hid (Blk wr hb (lv hs).toArray 3) := Lib.hid (HB4.out.upd HU.out (by have := HMB.out; omega))
              clear HE HU HMP HB4 HRV K3 HLS hik hi hci hks640
              as_aux_lemma =>
                have hcl : (lv hs).length = n := by rw [lv_len]; exact HHL.out
                obtain ⟨i0, hi0, hz0, hz1, hz2⟩ := info_parts infoInt
                have h1c : ∀ x ∈ lv hs, x.oneCell' = true := by
                  intro x hx
                  obtain ⟨y, -, rfl⟩ := List.mem_map.1 hx
                  rfl
                have hr5 := Rd.blk HB5.out
                have hn2m : n ≤ 2000000 := by omega
                have hsoo : SomeOr (some ⟨hb, 0, none⟩) n n := .inl ⟨_, rfl⟩
                go_upto_region 16 with (first | (at_builtin; refine wpList_copied rfl _ _ 26 rfl 3 i0 (.int .i64 0) 8 Try.underlying26 hi0 hz0 hz1 hz2 rfl (by decide) (some ⟨hb, 0, none⟩) n n (lv hs) rfl rfl hr5 hcl hsoo h1c hn2m ?_; intro ua uc V4 hown hk; clear hi0 hz0 hz1 hz2 h1c hr5 hsoo) | fail)
                obtain ⟨ub, rest, rfl, hub, hblk⟩ := row_blk hown (by omega)
                have K5 := Lib.hid (K4.out.trans hk)
                have HB6 := Lib.hid (HB5.out.kept hk)
                have HM6 := Lib.hid (HM.out.upd hk (fun f => f))
                have HUB := Lib.hid hblk
                have HUN : Hid (¬ hb = ub ∧ ¬ mb = ub ∧ wB.heap.size ≤ ub) := Lib.hid (by
                  have h1 := HB5.out.lt
                  have h2 := HM.out.lt
                  have h3 := K4.out.size
                  refine ⟨?_, ?_, ?_⟩ <;> omega)
                clear hown hk hblk hub HM HB5 K4 hcl
                obtain ⟨x, hx⟩ : ∃ x, x = min (low + 1) (n : Int) := ⟨_, rfl⟩
                have hx0 : 0 ≤ x ∧ x ≤ n ∧ x ≤ low + 1 ∧ (low < n → x = low + 1) := by omega
                have e1 : (if (n : Int) < low + 1 then (n : Int) else low + 1) = x := by split <;> omega
                have w1 : wrap64 (low + 1) = low + 1 := wrap_sm low (by omega) (by omega)
                have HX : Hid (0 ≤ x ∧ x ≤ n ∧ x ≤ low + 1 ∧ (low < n → x = low + 1)) := Lib.hid hx0
                clear hx hx0
                have uc0 : V4.cell? ⟨ub, u, none⟩ = some (.int .i64 (hs.getD u 0)) := by
                  rw [HUB.out.cell]
                  simp only [List.getElem?_toArray]
                  rw [List.getElem?_append_left (by rw [lv_len, HHL.out]; exact hun)]
                  exact lv_get (by rw [HHL.out]; exact hun)
                have uf0 := HUB.out.free u
                have bx := (HGF.out.kept K5.out).box.cell
                have KU := Lib.hid (Kept.set (p := ⟨ub, u, none⟩) K5.out HUN.out.2.2 (.int .i64 x))
                have HB7 := Lib.hid (HB6.out.other (p := ⟨ub, u, none⟩) HUN.out.1 (.int .i64 x))
                have HM7 : Hid (Mp (V4.setCell ⟨ub, u, none⟩ (.int .i64 x)) mb cc h l) := Lib.hid (HM6.out.upd (S := fun k => k = ub) (Upd.setCell (S := fun k => k = ub) (p := ⟨ub, u, none⟩) (Upd.refl _ _) (.inl rfl) (.int .i64 x)) HUN.out.2.1)
                have HU7 : Hid (Rd (V4.setCell ⟨ub, u, none⟩ (.int .i64 x)) (some ⟨ub, 0, none⟩) (lv (hs.set u x))) := Lib.hid (rd_set HUB.out (by rw [HHL.out]; exact hun))
                generalize hs.getD u 0 = h00 at uc0
                go_upto_region 17 with (fail)
                generalize (V4.setCell ⟨ub, u, none⟩ (.int .i64 x)) = V5 at KU HB7 HM7 HU7 ⊢
                clear uc0 uf0 bx K5 HB6 HM6 HUB e1 w1
                obtain ⟨up, hup⟩ : ∃ up, hs.set u x = up := ⟨_, rfl⟩
                rw [hup] at HU7
                have HUP := Lib.hid hup
                have HUR : Hid (rightB (n : Int) S T up = true) := Lib.hid (by rw [← hup]; exact up_right HG.out HRT.out hun HQ1.out HQ2.out HX.out.1 HX.out.2.1)
                have HUL : Hid (up.length = n) := Lib.hid (by rw [← hup, List.length_set]; exact HHL.out)
                have HMAU : Hid (mayB (n : Int) S T m rs up = true) := Lib.hid (by unfold mayB; rw [HUR.out, HRM.out]; simp)
                clear hup
                have hmm := @run_makeMap Try.prog
                have HM0 := Lib.hid (Mp.new V5 m)
                have KM := Lib.hid (KU.out.alloc (.map #[] 0))
                have hal := (Upd.refl (fun _ => False) V5).alloc (.map #[] 0)
                have HB8 := Lib.hid (HB7.out.kept hal)
                have HM8 := Lib.hid (HM7.out.upd hal (fun f => f))
                have HU8 := Lib.hid (HU7.out.kept hal)
                clear hal
                go_upto_region 18 with (fail)
                generalize (V5.alloc (.map #[] 0)) = V6 at HM0 KM HB8 HM8 HU8 ⊢
                generalize hmb : V5.heap.size = nb at HM0 ⊢
                have HNB : Hid (wB.heap.size ≤ nb ∧ hb < nb ∧ mb < nb) := Lib.hid ⟨by rw [← hmb]; exact KU.out.size, by rw [← hmb]; exact HB7.out.lt, by rw [← hmb]; exact HM7.out.lt⟩
                clear hmb hmm KU HB7 HM7 HU7
                obtain ⟨Lu, hLs⟩ : ∃ L, dnL (n : Int) S T n m ys rs up (isP true) = L := ⟨_, rfl⟩
                obtain ⟨ku, hks⟩ : ∃ k, Lu.length = k := ⟨_, rfl⟩
                have HST := fun (w : World) (k1 : Kept wB w) (h : Rd w (some ⟨ub, 0, none⟩) (lv up)) => Lib.hid (steep_at (n : Int) S T n m (some ⟨b3, o3, none⟩) (some ⟨b4, o4, none⟩) a5 a6 a7 a8 c3 c4 c5 c6 c7 c8 ys (some ⟨b6, o6, none⟩) rc rs (some ⟨ub, 0, none⟩) uc up m n Lu ku w HG.out (HGF.out.kept k1).cr (HGF.out.kept k1).rs h (by rw [HUL.out]; exact hnm) HRM.out HUL.out hLs hks)
                have HLS : Hid (Lu.length = ku ∧ ku ≤ 640 ∧ Lu.Nodup ∧ (∀ v ∈ Lu, v < m) ∧ ∀ a, a < m → (a ∈ Lu ↔ dnQ S n ys rs up (isP true) a = true)) := Lib.hid ⟨hks, by have h1 := dnL_len (n : Int) S T n m ys rs up (isP true); rw [hLs] at h1; omega, by rw [← hLs]; exact dnL_nodup _ _ _ _ _ _ _ _ _, fun v hv => by rw [← hLs, dnL_mem HMAU.out] at hv; exact hv.1, fun a ha => by rw [← hLs, dnL_mem HMAU.out]; exact ⟨fun h => h.2, fun h => ⟨ha, h⟩⟩⟩
                clear hLs hks
                obtain ⟨Lf, hLs⟩ : ∃ L, dnL (n : Int) S T n m ys rs up (isP false) = L := ⟨_, rfl⟩
                obtain ⟨kf, hks⟩ : ∃ k, Lf.length = k := ⟨_, rfl⟩
                have HFT := fun (w : World) (k1 : Kept wB w) (h : Rd w (some ⟨ub, 0, none⟩) (lv up)) => Lib.hid (flat_at (n : Int) S T n m (some ⟨b3, o3, none⟩) (some ⟨b4, o4, none⟩) a5 a6 a7 a8 c3 c4 c5 c6 c7 c8 ys (some ⟨b6, o6, none⟩) rc rs (some ⟨ub, 0, none⟩) uc up m n Lf kf w HG.out (HGF.out.kept k1).cr (HGF.out.kept k1).rs h (by rw [HUL.out]; exact hnm) HRM.out HUL.out hLs hks)
                have HLF : Hid (Lf.length = kf ∧ kf ≤ 640 ∧ (∀ v ∈ Lf, v < m) ∧ ∀ a, a < m → (a ∈ Lf ↔ dnQ S n ys rs up (isP false) a = true)) := Lib.hid ⟨hks, by have h1 := dnL_len (n : Int) S T n m ys rs up (isP false); rw [hLs] at h1; omega, fun v hv => by rw [← hLs, dnL_mem HMAU.out] at hv; exact hv.1, fun a ha => by rw [← hLs, dnL_mem HMAU.out]; exact ⟨fun h => h.2, fun h => ⟨ha, h⟩⟩⟩
                clear hLs hks
                have bx := (HGF.out.kept KM.out).box.cell
                go_wp2_with fail
                refine (HST _ KM.out HU8.out).out.mono ?_
                rintro e V7 ⟨av, cv, rfl, hrv, hk'⟩
                have K3 := Lib.hid (KM.out.trans hk')
                have HMP := Lib.hid (HM0.out.upd hk' (fun f => f))
                have HB9 := Lib.hid (HB8.out.kept hk')
                have HM9 := Lib.hid (HM8.out.upd hk' (fun f => f))
                have HU9 := Lib.hid (HU8.out.kept hk')
                have HRV := Lib.hid hrv
                clear hrv hk' HST bx HM0 KM HB8 HM8 HU8
                have hku640 : ku ≤ 640 := HLS.out.2.1
                go_upto_region 19 with (fail)
                go_loopw [132] (fun ix wr => ∃ (i : Nat) (h : List Int) (l : List Bool) (c : Nat), ix = .int .i64 i ∧ i ≤ ku ∧ c ≤ i ∧ Hid (Upd (fun k => k = nb) V7 wr) ∧ Hid (Mp wr nb c h l) ∧ Hid (KD m Lu [] i 0 h l c)) (fun ix _ => ku - (intOf ix).toNat)
                case atStart => exact ⟨0, _, _, 0, rfl, by omega, by omega, Lib.hid (Upd.refl _ _), HMP, Lib.hid (KD.zero m Lu [])⟩
                case round =>
                  obtain ⟨i, g, l', cc', rfl, hi, hci, HU, HN, HE⟩ := hrel
                  by_cases hik : i < ku
                  · obtain ⟨ab, ao, rfl, xc⟩ := (HRV.out.mapped HMP.out HU.out).at i (by rw [nv_len, HLS.out.1]; exact hik)
                    rw [nv_get (by rw [HLS.out.1]; exact hik)] at xc
                    have HO := Lib.hid (HE.out.one HLS.out.2.2.1 HLS.out.2.2.2.1 (by rw [HLS.out.1]; exact hik))
                    obtain ⟨y, hy⟩ : ∃ x, Lu.getD i 0 = x := ⟨_, rfl⟩
                    have hxm : y < m := by rw [← hy]; exact HLS.out.2.2.2.1 _ (by have := HLS.out.1; simp [this, hik])
                    rw [hy] at xc HO
                    have HXL : Hid (y < g.length) := Lib.hid (by rw [HE.out.len]; exact hxm)
                    have j0 : (i : Int) < (ku : Int) := by omega
                    have j1 : (0 : Int) ≤ (i : Int) := by omega
                    have j2 : (i : Int) ≤ 1000 := by omega
                    clear hy HE
                    go_wp2_with (first | (at_mapUpdate; refine wpList_put _ rfl _ _ _ rfl rfl HN.out (by unfold maxLen; omega) y 1 rfl rfl HXL.out (by omega) (by decide) ?_; intro w6 hM6 hU6; have HM6 := Lib.hid hM6; have HU6 := Lib.hid (HU.out.trans hU6); clear hM6 hU6) | fail)
                    clear HU HN xc
                    go_roundw
                    case rel => exact ⟨i + 1, _, _, cc' + 1, by go_num, by omega, by omega, HU6, HM6, Lib.hid (HO.out.2 _)⟩
                    case measure => simp [intOf]; omega
                  · have j0 : ¬ (i : Int) < (ku : Int) := by omega
                    have HN1 : Hid (∀ a, a < m → g.getD a 0 = if dnQ S n ys rs up (isP true) a = true then 1 else 0) := Lib.hid (fun a ha => by
                      rw [HE.out.at_ a ha, List.take_of_length_le (by rw [HLS.out.1]; omega)]
                      simp only [HLS.out.2.2.2.2 a ha, List.take_nil, List.not_mem_nil, if_false])
                    have HNL : Hid (g.length = m) := Lib.hid HE.out.len
                    have K4 : Hid (Kept wB wr) := Lib.hid (Upd.late K3.out HU.out (fun i e => by have := HNB.out; omega))
                    have HB10 : Hid (Rd wr (some ⟨hb, 0, none⟩) (lv hs)) := Lib.hid ((Rd.blk HB9.out).mapped HMP.out HU.out)
                    have HM10 : Hid (Mp wr mb cc h l) := Lib.hid (HM9.out.upd HU.out (by have := HNB.out; omega))
                    have HU10 : Hid (Rd wr (some ⟨ub, 0, none⟩) (lv up)) := Lib.hid (HU9.out.mapped HMP.out HU.out)
                    clear HE HU HMP HB9 HM9 HU9 HRV K3 HLS hik hi hci hku640
                    obtain ⟨V8, rfl⟩ : ∃ V8 : World, V8 = wr := ⟨_, rfl⟩
                    as_aux_lemma =>
                      have bx := (HGF.out.kept K4.out).box.cell
                      go_upto_region 24 with (fail)
                      go_wp2_with fail
                      refine (HFT _ K4.out HU10.out).out.mono ?_
                      rintro e V9 ⟨av, cv, rfl, hrv, hk'⟩
                      have K5 := Lib.hid (K4.out.trans hk')
                      have HN2 := Lib.hid (HN.out.upd hk' (fun f => f))
                      have HM2 := Lib.hid (HM10.out.upd hk' (fun f => f))
                      have HB2 := Lib.hid (HB10.out.kept hk')
                      have HU2 := Lib.hid (HU10.out.kept hk')
                      have HRV := Lib.hid hrv
                      clear hrv hk' HFT bx K4 HN HM10 HB10 HU10
                      have hkf640 : kf ≤ 640 := HLF.out.2.1
                      go_upto_region 25 with (fail)
                      go_loopw [22, 144] (fun fx ix wr => ∃ (i : Nat) (f : Bool), fx = .bool f ∧ ix = .int .i64 i ∧ i ≤ kf ∧ Hid (Kept V9 wr) ∧ Hid (f = (Lf.take i).any (fun a => decide (q ≤ a) && decide (a < q')))) (fun _ ix _ => kf - (intOf ix).toNat)
                      case atStart => exact ⟨0, false, rfl, rfl, by omega, Lib.hid (Upd.refl _ _), Lib.hid rfl⟩
                      case round =>
                        obtain ⟨i, f, rfl, rfl, hi, HK, HF⟩ := hrel
                        by_cases hik : i < kf
                        · obtain ⟨ab, ao, rfl, xc⟩ := (HRV.out.kept HK.out).at i (by rw [nv_len, HLF.out.1]; exact hik)
                          rw [nv_get (by rw [HLF.out.1]; exact hik)] at xc
                          obtain ⟨y, hy⟩ : ∃ x, Lf.getD i 0 = x := ⟨_, rfl⟩
                          rw [hy] at xc
                          have HF2 : Hid ((Lf.take (i + 1)).any (fun a => decide (q ≤ a) && decide (a < q')) = (f || (decide (q ≤ y) && decide (y < q')))) := Lib.hid (by
                            rw [List.take_succ_eq_append_getElem (by rw [HLF.out.1]; exact hik), List.any_append, ← HF.out, ← hy]
                            have : i < Lf.length := by rw [HLF.out.1]; exact hik
                            simp [this])
                          have bx := (HGF.out.kept (K5.out.trans HK.out)).box.cell
                          obtain ⟨fc0, fc1⟩ := HF1.out wr (K5.out.trans HK.out)
                          have j0 : (i : Int) < (kf : Int) := by omega
                          have j1 : (0 : Int) ≤ (i : Int) := by omega
                          have j2 : (i : Int) ≤ 1000 := by omega
                          clear hy
                          cases f with
                          | true =>
                            have HF3 : Hid (true = (Lf.take (i + 1)).any (fun a => decide (q ≤ a) && decide (a < q'))) := Lib.hid (by rw [HF2.out]; rfl)
                            go_wp2_with fail
                            go_roundw
                            case rel => exact ⟨i + 1, true, rfl, by go_num, by omega, HK, HF3⟩
                            case measure => simp [intOf]; omega
                          | false =>
                            by_cases q5 : q ≤ y
                            · have m1 : decide ((q : Int) ≤ (y : Int)) = true := by simpa using q5
                              have m1' : decide (q ≤ y) = true := by simpa using q5
                              by_cases q6 : y < q'
                              · have m2 : decide ((y : Int) < (q' : Int)) = true := by simpa using q6
                                have m2' : decide (y < q') = true := by simpa using q6
                                have HF3 : Hid (true = (Lf.take (i + 1)).any (fun a => decide (q ≤ a) && decide (a < q'))) := Lib.hid (by rw [HF2.out, m1', m2']; rfl)
                                go_wp2_with fail
                                go_roundw
                                case rel => exact ⟨i + 1, true, rfl, by go_num, by omega, HK, HF3⟩
                                case measure => simp [intOf]; omega
                              · have m2 : decide ((y : Int) < (q' : Int)) = false := by simp; omega
                                have m2' : decide (y < q') = false := by simpa using q6
                                have HF3 : Hid (false = (Lf.take (i + 1)).any (fun a => decide (q ≤ a) && decide (a < q'))) := Lib.hid (by rw [HF2.out, m1', m2']; rfl)
                                go_wp2_with fail
                                go_roundw
                                case rel => exact ⟨i + 1, false, rfl, by go_num, by omega, HK, HF3⟩
                                case measure => simp [intOf]; omega
                            · have m1 : decide ((q : Int) ≤ (y : Int)) = false := by simp; omega
                              have m1' : decide (q ≤ y) = false := by simpa using q5
                              have HF3 : Hid (false = (Lf.take (i + 1)).any (fun a => decide (q ≤ a) && decide (a < q'))) := Lib.hid (by rw [HF2.out, m1']; rfl)
                              go_wp2_with fail
                              go_roundw
                              case rel => exact ⟨i + 1, false, rfl, by go_num, by omega, HK, HF3⟩
                              case measure => simp [intOf]; omega
                        · have j0 : ¬ (i : Int) < (kf : Int) := by omega
                          have K6 := Lib.hid (K5.out.trans HK.out)
                          have HFF : Hid (low < n → f = true) := Lib.hid (fun hlt => by
                            rw [HF.out, List.take_of_length_le (by rw [HLF.out.1]; omega), List.any_eq_true]
                            refine ⟨c0, (HLF.out.2.2.2 c0 hcm).2 ?_, by simp; omega⟩
                            rw [← HUP.out]
                            exact up_flat HG.out HRT.out hun HQ1.out hcm HC.out.1 HC.out.2.1 HC.out.2.2.1 (by rw [← HC.out.2.2.2]; exact HX.out.2.2.2 hlt))
                          have HN3 := Lib.hid (HN2.out.upd HK.out (fun f => f))
                          have HM3 := Lib.hid (HM2.out.upd HK.out (fun f => f))
                          have HB3 := Lib.hid (HB2.out.kept HK.out)
                          have HU3 := Lib.hid (HU2.out.kept HK.out)
                          clear HK HF HN2 HM2 HB2 HU2 K5 HRV HLF hik hi hkf640
                          obtain ⟨VA, rfl⟩ : ∃ VA : World, VA = wr := ⟨_, rfl⟩
                          as_aux_lemma =>
                            go_upto_region 30 with (fail)
                            go_loopw [171] (fun ix wr => ∃ (i : Nat), ix = .int .i64 i ∧ i ≤ m ∧ Hid (Kept VA wr)) (fun ix _ => m - (intOf ix).toNat)
                            case atStart => exact ⟨0, rfl, by omega, Lib.hid (Upd.refl _ _)⟩
                            case round =>
                              obtain ⟨i, rfl, hi, HK⟩ := hrel
                              have bx := (HGF.out.kept (K6.out.trans HK.out)).box.cell
                              by_cases him : i < m
                              · obtain ⟨fc0, fc1⟩ := HF1.out wr (K6.out.trans HK.out)
                                have hc4 := HC4.out i him wr (K6.out.trans HK.out)
                                have hvn := (hd_get HG.out i him).2
                                obtain ⟨wx, hwx⟩ : ∃ z, h.getD i 0 = z := ⟨_, rfl⟩
                                obtain ⟨nx, hnx⟩ : ∃ z, g.getD i 0 = z := ⟨_, rfl⟩
                                have hw1 := HW.out i him
                                have hn1 := HN1.out i him
                                rw [hwx] at hw1
                                rw [hnx] at hn1
                                have lw := fun (v : Ext wr) => (HM3.out.upd (HK.out.trans (kept_ext wr v)) (fun f => f)).look (c := wx) i (by rw [HWL.out]; exact him) (by omega) hwx
                                have ln := fun (v : Ext wr) => (HN3.out.upd (HK.out.trans (kept_ext wr v)) (fun f => f)).look (c := nx) i (by rw [HNL.out]; exact him) (by omega) hnx
                                have lw0 := (HM3.out.upd HK.out (fun f => f)).look (c := wx) i (by rw [HWL.out]; exact him) (by omega) hwx
                                have ln0 := (HN3.out.upd HK.out (fun f => f)).look (c := nx) i (by rw [HNL.out]; exact him) (by omega) hnx
                                have upc : wr.cell? ⟨ub, u, none⟩ = some (.int .i64 x) := by
                                  obtain ⟨b, o, e, hh⟩ := (HU3.out.kept HK.out).num (i := u) (by rw [HUL.out]; exact hun)
                                  cases e
                                  rw [Nat.zero_add] at hh
                                  rw [hh, ← HUP.out, up_get (by rw [HHL.out]; exact hun), if_pos rfl]
                                have hsc : wr.cell? ⟨hb, u, none⟩ = some (.int .i64 (hs.getD u 0)) := by
                                  obtain ⟨b, o, e, hh⟩ := (HB3.out.kept HK.out).num (i := u) (by rw [HHL.out]; exact hun)
                                  cases e
                                  rwa [Nat.zero_add] at hh
                                have HMI : Hid (q ≤ i → i < q' → nx = 0) := Lib.hid (fun h1 h2 => by
                                  rw [hn1, if_neg]
                                  rw [← HUP.out, up_mine HG.out HRT.out hun HX.out.2.2.1 HLL.out him (by rw [HQQ.out.1]; exact h1) (by rw [HQQ.out.2]; exact h2)]
                                  simp)
                                have HFA : Hid (¬ (q ≤ i ∧ i < q') → ¬ hd n ys i = u → wx = nx) := Lib.hid (fun h1 h2 => by
                                  rw [hw1, hn1, ← HUP.out, up_far HG.out HRT.out hun him (by rw [HQQ.out.1, HQQ.out.2]; exact h1) h2])
                                have HIN : Hid (¬ (q ≤ i ∧ i < q') → hd n ys i = u → hs.getD u 0 ≤ x → nx = 1 → wx = 1) := Lib.hid (fun h1 h2 h3 h4 => by
                                  have h5 : dnQ S n ys rs up (isP true) i = true := by
                                    cases hh : dnQ S n ys rs up (isP true) i with
                                    | true => rfl
                                    | false => rw [hn1, hh] at h4; simp at h4
                                  rw [← HUP.out] at h5
                                  rw [hw1, if_pos (up_in HG.out HRT.out hun him (by rw [HQQ.out.1, HQQ.out.2]; exact h1) h2 h3 h5)])
                                have HNX : Hid (nx = 0 ∨ nx = 1) := Lib.hid (by rw [hn1]; split <;> simp)
                                obtain ⟨vi, hvi⟩ : ∃ v, hd n ys i = v := ⟨_, rfl⟩
                                rw [hvi] at hc4 hvn HFA HIN
                                obtain ⟨hu0, hhu0⟩ : ∃ z, hs.getD u 0 = z := ⟨_, rfl⟩
                                rw [hhu0] at hsc HIN
                                have j0 : (i : Int) < (m : Int) := by omega
                                have j1 : (0 : Int) ≤ (i : Int) := by omega
                                have j2 : (i : Int) ≤ 1000 := by omega
                                clear hw1 hn1 hwx hnx hvi hhu0
                                by_cases q5 : q ≤ i ∧ i < q'
                                · have m1 : decide ((q : Int) ≤ (i : Int)) = true := by simp; omega
                                  have m1' : decide (q ≤ i) = true := by simp; omega
                                  have m2 : decide ((i : Int) < (q' : Int)) = true := by simp; omega
                                  have m2' : decide (i < q') = true := by simp; omega
                                  obtain rfl := HMI.out q5.1 q5.2
                                  clear q5
                                  go_upto_region 35 with (fail)
                                  refine wp_region_kept (by kernel_rfl) (by kernel_rfl) ?_
                                  repeat (go_big_quiet_step (fail))
                                  refine wpQuiet_nil ?_
                                  intro wz hkz
                                  have HKZ := Lib.hid (HK.out.trans hkz)
                                  clear hkz fc0 fc1 hc4 upc hsc lw ln bx
                                  go_wp2_with fail
                                  go_roundw
                                  case rel => exact ⟨i + 1, by go_num, by omega, HKZ⟩
                                  case measure => simp [intOf]; omega
                                · have HMINE : Hid (¬ (q ≤ i ∧ i < q')) := Lib.hid q5
                                  by_cases q7 : vi = u
                                  · have v1 : ((vi : Int) != (u : Int)) = false := by simp [q7]
                                    have v2 : ((vi : Int) == (u : Int)) = true := by simp [q7]
                                    by_cases q8 : hu0 ≤ x
                                    · have v3 : decide (hu0 ≤ x) = true := by simpa using q8
                                      by_cases q9 : nx = 1
                                      · have v5 := HIN.out HMINE.out q7 q8 q9
                                        subst v5 q9
                                        clear q7
                                        by_cases q5a : q ≤ i
                                        · have m1 : decide ((q : Int) ≤ (i : Int)) = true := by simpa using q5a
                                          have m1' : decide (q ≤ i) = true := by simpa using q5a
                                          have m2 : decide ((i : Int) < (q' : Int)) = false := by have := HMINE.out; simp; omega
                                          have m2' : decide (i < q') = false := by have := HMINE.out; simp; omega
                                          clear q5 q5a
                                          go_upto_region 35 with (fail)
                                          refine wp_region_kept (by kernel_rfl) (by kernel_rfl) ?_
                                          repeat (go_big_quiet_step (fail))
                                          refine wpQuiet_nil ?_
                                          intro wz hkz
                                          have HKZ := Lib.hid (HK.out.trans hkz)
                                          clear hkz fc0 fc1 hc4 upc hsc lw ln bx
                                          go_wp2_with fail
                                          go_roundw
                                          case rel => exact ⟨i + 1, by go_num, by omega, HKZ⟩
                                          case measure => simp [intOf]; omega
                                        · have m1 : decide ((q : Int) ≤ (i : Int)) = false := by simp; omega
                                          have m1' : decide (q ≤ i) = false := by simpa using q5a
                                          clear q5 q5a
                                          go_upto_region 35 with (fail)
                                          refine wp_region_kept (by kernel_rfl) (by kernel_rfl) ?_
                                          repeat (go_big_quiet_step (fail))
                                          refine wpQuiet_nil ?_
                                          intro wz hkz
                                          have HKZ := Lib.hid (HK.out.trans hkz)
                                          clear hkz fc0 fc1 hc4 upc hsc lw ln bx
                                          go_wp2_with fail
                                          go_roundw
                                          case rel => exact ⟨i + 1, by go_num, by omega, HKZ⟩
                                          case measure => simp [intOf]; omega
                                      · have v4 : nx = 0 := by have := HNX.out; omega
                                        subst v4
                                        clear q7 q9
                                        by_cases q5a : q ≤ i
                                        · have m1 : decide ((q : Int) ≤ (i : Int)) = true := by simpa using q5a
                                          have m1' : decide (q ≤ i) = true := by simpa using q5a
                                          have m2 : decide ((i : Int) < (q' : Int)) = false := by have := HMINE.out; simp; omega
                                          have m2' : decide (i < q') = false := by have := HMINE.out; simp; omega
                                          clear q5 q5a
                                          go_upto_region 35 with (fail)
                                          refine wp_region_kept (by kernel_rfl) (by kernel_rfl) ?_
                                          repeat (go_big_quiet_step (fail))
                                          refine wpQuiet_nil ?_
                                          intro wz hkz
                                          have HKZ := Lib.hid (HK.out.trans hkz)
                                          clear hkz fc0 fc1 hc4 upc hsc lw ln bx
                                          go_wp2_with fail
                                          go_roundw
                                          case rel => exact ⟨i + 1, by go_num, by omega, HKZ⟩
                                          case measure => simp [intOf]; omega
                                        · have m1 : decide ((q : Int) ≤ (i : Int)) = false := by simp; omega
                                          have m1' : decide (q ≤ i) = false := by simpa using q5a
                                          clear q5 q5a
                                          go_upto_region 35 with (fail)
                                          refine wp_region_kept (by kernel_rfl) (by kernel_rfl) ?_
                                          repeat (go_big_quiet_step (fail))
                                          refine wpQuiet_nil ?_
                                          intro wz hkz
                                          have HKZ := Lib.hid (HK.out.trans hkz)
                                          clear hkz fc0 fc1 hc4 upc hsc lw ln bx
                                          go_wp2_with fail
                                          go_roundw
                                          case rel => exact ⟨i + 1, by go_num, by omega, HKZ⟩
                                          case measure => simp [intOf]; omega
                                    · have v3 : decide (hu0 ≤ x) = false := by simp; omega
                                      clear q7
                                      by_cases q5a : q ≤ i
                                      · have m1 : decide ((q : Int) ≤ (i : Int)) = true := by simpa using q5a
                                        have m1' : decide (q ≤ i) = true := by simpa using q5a
                                        have m2 : decide ((i : Int) < (q' : Int)) = false := by have := HMINE.out; simp; omega
                                        have m2' : decide (i < q') = false := by have := HMINE.out; simp; omega
                                        clear q5 q5a
                                        go_upto_region 35 with (fail)
                                        refine wp_region_kept (by kernel_rfl) (by kernel_rfl) ?_
                                        repeat (go_big_quiet_step (fail))
                                        refine wpQuiet_nil ?_
                                        intro wz hkz
                                        have HKZ := Lib.hid (HK.out.trans hkz)
                                        clear hkz fc0 fc1 hc4 upc hsc lw ln bx
                                        go_wp2_with fail
                                        go_roundw
                                        case rel => exact ⟨i + 1, by go_num, by omega, HKZ⟩
                                        case measure => simp [intOf]; omega
                                      · have m1 : decide ((q : Int) ≤ (i : Int)) = false := by simp; omega
                                        have m1' : decide (q ≤ i) = false := by simpa using q5a
                                        clear q5 q5a
                                        go_upto_region 35 with (fail)
                                        refine wp_region_kept (by kernel_rfl) (by kernel_rfl) ?_
                                        repeat (go_big_quiet_step (fail))
                                        refine wpQuiet_nil ?_
                                        intro wz hkz
                                        have HKZ := Lib.hid (HK.out.trans hkz)
                                        clear hkz fc0 fc1 hc4 upc hsc lw ln bx
                                        go_wp2_with fail
                                        go_roundw
                                        case rel => exact ⟨i + 1, by go_num, by omega, HKZ⟩
                                        case measure => simp [intOf]; omega
                                  · have v1 : ((vi : Int) != (u : Int)) = true := by simp; omega
                                    have v2 : ((vi : Int) == (u : Int)) = false := by simp; omega
                                    obtain rfl := HFA.out HMINE.out q7
                                    have v3 : (wx != wx) = false := by simp
                                    clear q7
                                    by_cases q5a : q ≤ i
                                    · have m1 : decide ((q : Int) ≤ (i : Int)) = true := by simpa using q5a
                                      have m1' : decide (q ≤ i) = true := by simpa using q5a
                                      have m2 : decide ((i : Int) < (q' : Int)) = false := by have := HMINE.out; simp; omega
                                      have m2' : decide (i < q') = false := by have := HMINE.out; simp; omega
                                      clear q5 q5a
                                      go_upto_region 35 with (fail)
                                      refine wp_region_kept (by kernel_rfl) (by kernel_rfl) ?_
                                      repeat (go_big_quiet_step (fail))
                                      refine wpQuiet_nil ?_
                                      intro wz hkz
                                      have HKZ := Lib.hid (HK.out.trans hkz)
                                      clear hkz fc0 fc1 hc4 upc hsc lw ln bx
                                      go_wp2_with fail
                                      go_roundw
                                      case rel => exact ⟨i + 1, by go_num, by omega, HKZ⟩
                                      case measure => simp [intOf]; omega
                                    · have m1 : decide ((q : Int) ≤ (i : Int)) = false := by simp; omega
                                      have m1' : decide (q ≤ i) = false := by simpa using q5a
                                      clear q5 q5a
                                      go_upto_region 35 with (fail)
                                      refine wp_region_kept (by kernel_rfl) (by kernel_rfl) ?_
                                      repeat (go_big_quiet_step (fail))
                                      refine wpQuiet_nil ?_
                                      intro wz hkz
                                      have HKZ := Lib.hid (HK.out.trans hkz)
                                      clear hkz fc0 fc1 hc4 upc hsc lw ln bx
                                      go_wp2_with fail
                                      go_roundw
                                      case rel => exact ⟨i + 1, by go_num, by omega, HKZ⟩
                                      case measure => simp [intOf]; omega
                              · have j0 : ¬ (i : Int) < (m : Int) := by omega
                                have K7 := Lib.hid (K6.out.trans HK.out)
                                have HAW := fun (w : World) => Lib.hid (awake6_any w)
                                by_cases hlt : low < n
                                · obtain rfl := HFF.out hlt
                                  clear hlt
                                  go_wp2_with fail
                                  refine (HAW _).out.mono ?_
                                  rintro e w9 ⟨rfl, hk9⟩
                                  go_wp2_with fail
                                  go_ret
                                  exact ⟨rfl, HK0.out.trans (K7.out.trans hk9)⟩
                                · have z5 : (low == (n : Int)) = true := by simp; omega
                                  cases f with
                                  | true =>
                                    go_wp2_with fail
                                    refine (HAW _).out.mono ?_
                                    rintro e w9 ⟨rfl, hk9⟩
                                    go_wp2_with fail
                                    go_ret
                                    exact ⟨rfl, HK0.out.trans (K7.out.trans hk9)⟩
                                  | false =>
                                    go_wp2_with fail
                                    refine (HAW _).out.mono ?_
                                    rintro e w9 ⟨rfl, hk9⟩
                                    go_wp2_with fail
                                    go_ret
                                    exact ⟨rfl, HK0.out.trans (K7.out.trans hk9)⟩
theorem labelRaise_walk (N S T : Int) (a : Option Addr) (cap : Nat) (els : List (List Value)) (s1 : Option Addr) (cap1 : Nat) (z1 : List Int) (s2 : Option Addr) (cap2 : Nat) (z2 : List Int) (at0 : Int) (w : World) (_wN : (Lit.int .i64 N).wf = true) (_wS : (Lit.int .i64 S).wf = true) (_wT : (Lit.int .i64 T).wf = true) (hrow : FlatRow [some .i64, some .i64, some .i64] w a cap els) (_hf : ∀ x ∈ els, fits [some .i64, some .i64, some .i64] x)
    (w1 : IntRow .i64 w s1 cap1 z1) (m1 : ∀ n ∈ z1, (Lit.int .i64 n).wf = true) (w2 : IntRow .i64 w s2 cap2 z2) (_m2 : ∀ n ∈ z2, (Lit.int .i64 n).wf = true) (wa : (Lit.int .u8 at0).wf = true) :
    Calls Try.prog 3 #[.agg #[.int .i64 N, .int .i64 S, .int .i64 T, .slice a els.length cap], .slice s1 z1.length cap1, .slice s2 z2.length cap2, .int .u8 at0] w fun e w' => e = .returned (.bool true) ∧ Kept w w' := by
  obtain ⟨xs, hl, hA, hx⟩ := ars_of_flat hrow
  have hle := hrow.le
  have hmo := hrow.most
  have l1 := w1.le
  have l1' := w1.most
  have l2 := w2.le
  have l2' := w2.most
  unfold maxLen at hmo l1' l2'
  exact labelRaise_core N S T a els.length cap xs s1 cap1 z1 s2 cap2 z2 at0 w hA hl hle hmo (fun x hx0 => bounds_i64 (hx x hx0).2.2) w1.rd (fun x hx0 => bounds_i64 (m1 x hx0)) (by omega) w2.rd (by omega) (bounds_u8 wa).1 (bounds_u8 wa).2
end Go.Proofs.Ytdcbofgkfekkoaa
