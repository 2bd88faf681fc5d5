/- The law DistRows (printed by gen_lawrows.py). -/
import Derived.Test.YtoapekkmaajfmaaAwake05
import Derived.Test.YtoapekkmaajfmaaRowsP
import Derived.Test.YtoapekkmaajfmaaSomeNet
import Derived.Test.YtoapekkmaajfmaaRowsRd
import Derived.Deep.CutRange
namespace Go.Proofs.Ytoapekkmaajfmaa
set_option linter.unusedVariables false
set_option linter.unusedSimpArgs false
open Go.RowKit Go.Maps
attribute [local go_sem] cell?_ext

set_option maxRecDepth 100000 in
set_option maxHeartbeats 4000000 in
theorem distRows_core (N0 S0 T0 : Int) (a : Option Addr) (k0 cap : Nat) (ys0 : List Ar) (la : Option Addr) (lc : Nat) (ls : List Int) (at0 : Int) (w : World)
    (h : Ars w a ys0) (hk0 : ys0.length = k0) (hle : k0 ≤ cap) (hmost : cap ≤ 9223372036854775807) (hwf : ∀ x ∈ ys0, -9223372036854775808 ≤ x.c ∧ x.c ≤ 9223372036854775807)
    (hl : Rd w la (lv ls)) (hli : ∀ x ∈ ls, -9223372036854775808 ≤ x ∧ x ≤ 9223372036854775807) (hll : ls.length ≤ 9223372036854775807)
    (ha0 : 0 ≤ at0) (ha1 : at0 ≤ 255) :
    Calls Try.prog 5 #[.agg #[.int .i64 N0, .int .i64 S0, .int .i64 T0, .slice a k0 cap], .slice la ls.length lc, .int .u8 at0] w fun e w' => e = .returned (.bool true) ∧ Kept w w' := by
  have HS : ∀ (w : World), Ars w a ys0 → Hid (Calls Try.prog 10 #[.agg #[.int .i64 N0, .int .i64 S0, .int .i64 T0, .slice a k0 cap], .int .i64 16, .int .i64 40] w (NetIs w)) := by
    intro w h
    subst hk0
    exact Lib.hid (Some_any N0 S0 T0 a cap ys0 w h hle hmost hwf)
  have HX := Lib.hid (h.kept ((Upd.refl (fun _ => False) w).alloc (.cells #[.int .i64 N0, .int .i64 S0, .int .i64 T0, .slice a k0 cap] 24)))
  have HK := Lib.hid ((Upd.refl (fun _ => False) w).alloc (.cells #[.int .i64 N0, .int .i64 S0, .int .i64 T0, .slice a k0 cap] 24))
  have HL := Lib.hid hl
  have HLI := Lib.hid hli
  clear h hl hli hle hmost hwf
  go_enter Try.func5, Try.ntmps5
  go_wp2_with fail
  refine (HS _ HX.out).out.mono ?_
  rintro e w1 ⟨N, S, T, a', cap', ys, rfl, hok, hown, hk1⟩
  have HK1 := Lib.hid (HK.out.trans hk1)
  have HOK := Lib.hid hok
  have HA : Hid (Ars w1 a' ys) := Lib.hid hown.at.2
  clear hk1 hok hown HS HX HK
  have HLE := fun (w : World) (h : Ars w a' ys) (hl : Rd w la (lv ls)) => Lib.hid (Left_ok N S T a' cap' ys la lc ls w h HOK.out hl HLI.out hll)
  go_wp2_with fail
  refine (HLE _ HA.out (HL.out.kept HK1.out)).out.mono ?_
  rintro e w2 ⟨B, n, m, a3, c3, a4, c4, a5, c5, a6, c6, a7, c7, a8, c8, ra, rc, rfl, hn, hm2, hcr, -, hk2, -, hro⟩
  have HG : Hid (Gr N S T n m ys) := Lib.hid ⟨HOK.out, hn, hm2⟩
  obtain ⟨rs, hrs⟩ : ∃ rs, resAll (wths ls ys) n ys = rs := ⟨_, rfl⟩
  have HRM : Hid (rs.length = m) := Lib.hid (by rw [← hrs, resAll_len]; exact hm2)
  have HRI : Hid (∀ x ∈ rs, 0 ≤ x ∧ x < 1125899906842624) := Lib.hid (by rw [← hrs]; exact left_in HG.out HLI.out)
  rw [hrs] at hro
  have HRC : Hid (m ≤ rc) := Lib.hid (row_cap' hro)
  have HSO : Hid ((∃ ad, ra = some ad) ∨ (ra = none ∧ m = 0 ∧ rc = 0)) := Lib.hid (someOr_row hro)
  obtain ⟨ra', rc', e9, hrr⟩ := Rd.owns hro
  cases e9
  have hA := (Upd.refl (fun _ => False) w2).alloc (.cells #[.int .i64 N, .int .i64 S, .int .i64 T, .slice a3 (n + 1) c3, .slice a4 m c4, .slice a5 m c5, .slice a6 m c6, .slice a7 m c7, .slice a8 m c8] 29)
  have HK0 := Lib.hid ((HK1.out.trans hk2).trans hA)
  have HGF : Hid (GF N S T n m a3 a4 a5 a6 a7 a8 c3 c4 c5 c6 c7 c8 ys w2.heap.size ra rs (w2.alloc (.cells #[.int .i64 N, .int .i64 S, .int .i64 T, .slice a3 (n + 1) c3, .slice a4 m c4, .slice a5 m c5, .slice a6 m c6, .slice a7 m c7, .slice a8 m c8] 29))) := Lib.hid ⟨Blk.new _ _ _, hcr.kept hA, hrr.kept hA⟩
  clear hn hm2 hcr hk2 hro hrr hrs hA HLE HA HOK HK1 HL HLI hll
  clear hk0
  go_upto_region 2 with (fail)
  generalize (w2.alloc (.cells #[.int .i64 N, .int .i64 S, .int .i64 T, .slice a3 (n + 1) c3, .slice a4 m c4, .slice a5 m c5, .slice a6 m c6, .slice a7 m c7, .slice a8 m c8] 29)) = wB at HGF HK0 ⊢
  generalize w2.heap.size = cb at HGF ⊢
  have HK1 : Hid (Kept wB wB) := Lib.hid (Upd.refl _ _)
  obtain ⟨hnN, hn2, hn16, hm6, -⟩ := HG.out.len
  subst hnN
  obtain ⟨t, ht⟩ : ∃ t : Nat, at0 % (n : Int) = (t : Int) := ⟨(at0 % n).toNat, by have := Int.emod_nonneg at0 (show (n : Int) ≠ 0 by omega); omega⟩
  have htn : t < n := by have := Int.emod_lt_of_pos at0 (show (0 : Int) < n by omega); omega
  have htm : at0.tmod (n : Int) = (t : Int) := by rw [Int.tmod_eq_emod_of_nonneg ha0]; exact ht
  have hn0 : ¬ (n : Int) = 0 := by omega
  have hnb : ((n : Int) == 0) = false := by simpa using hn0
  have hn4 : ¬ n = 0 := by omega
  have hwa : IntKind.i64.wrap at0 = at0 := by rw [IntKind.wrap_i64]; omega
  have hwt : IntKind.i64.wrap (t : Int) = (t : Int) := by rw [IntKind.wrap_i64]; omega
  have bx := HGF.out.box.cell
  go_upto_region 3 with (fail)
  clear htm hn0 hnb hn4 hwa hwt ht ha0 ha1
  have T1 := fun (w : World) (k : Kept wB w) => Lib.hid (to_ok (n : Int) S T n m a3 a4 a5 a6 a7 a8 c3 c4 c5 c6 c7 c8 ys ra rc rs t w HG.out (HGF.out.kept k).cr (HGF.out.kept k).rs HRM.out htn)
  have R1 := fun (w : World) (k : Kept wB w) => Lib.hid (rows_ok (n : Int) S T n m a3 a4 a5 a6 a7 a8 c3 c4 c5 c6 c7 c8 ys ra rc rs t w HG.out (HGF.out.kept k).cr (HGF.out.kept k).rs HRM.out htn)
  go_wp2_with fail
  refine (T1 _ HK1.out).out.mono ?_
  rintro e V1 ⟨d1, D, rfl, hb, -, hd, hk'⟩
  have K1 := Lib.hid hk'
  have B1 := Lib.hid hb
  have I1 := Lib.hid hd
  clear hk' hb hd T1 bx
  have hmm := @run_makeMap Try.prog
  have HM0 := Lib.hid (Mp.new V1 n)
  have KM := Lib.hid (K1.out.alloc (.map #[] 0))
  have B2 := Lib.hid (B1.out.alloc (.map #[] 0))
  go_upto_region 5 with (fail)
  generalize (V1.alloc (.map #[] 0)) = V2 at HM0 KM B2 ⊢
  generalize hmb : V1.heap.size = mb at HM0 ⊢
  have HMB : Hid (wB.heap.size ≤ mb) := Lib.hid (by rw [← hmb]; exact K1.out.size)
  clear hmb K1 B1 hmm
  have bx := (HGF.out.kept KM.out).box.cell
  go_wp2_with fail
  refine (R1 _ KM.out).out.mono ?_
  rintro e V3 ⟨D', a, L, c, rfl, hd, hmany, hrv, hk'⟩
  obtain rfl : D' = D := hd.one I1.out
  have K3 := Lib.hid (KM.out.trans hk')
  have HMP := Lib.hid (HM0.out.upd hk' (fun f => f))
  have B3 := Lib.hid (B2.out.kept hk')
  have HRV := Lib.hid hrv
  have HMY := Lib.hid hmany
  clear hd hrv hmany hk' HM0 KM B2 R1 bx
  go_upto_region 6 with (fail)
  have HCB : Hid (¬ cb = mb) := Lib.hid (by have h1 := HGF.out.box.lt; have h2 := HMB.out; omega)
  have hLn : L ≤ n := HMY.out.2.2
  have HDL : Hid (D'.length = n) := Lib.hid I1.out.len
  have HBX : Hid (∀ wr, Upd (fun k => k = mb) V3 wr → (∀ i, wr.cell? ⟨cb, i, none⟩ = (#[.int .i64 n, .int .i64 S, .int .i64 T, .slice a3 (n + 1) c3, .slice a4 m c4, .slice a5 m c5, .slice a6 m c6, .slice a7 m c7, .slice a8 m c8] : Array Value)[i]?)) := Lib.hid (fun wr hu => ((HGF.out.kept K3.out).box.upd hu HCB.out).cell)
  have HDC : Hid (∀ wr, Upd (fun k => k = mb) V3 wr → ∀ v, v < n → wr.cell? ⟨d1, v, none⟩ = some (.int .i64 (D'.getD v 0 : Nat))) := Lib.hid (fun wr hu v hv => by
    obtain ⟨b, o, e, h⟩ := ((Rd.blk B3.out).mapped HMP.out hu).at v (by rw [nv_len, HDL.out]; exact hv)
    cases e
    rw [nv_get (by rw [HDL.out]; exact hv)] at h
    simpa using h)
  clear B3
  go_loopw [40] (fun ix wr => ∃ (k : Nat) (h : List Int) (l : List Bool) (c : Nat), ix = .int .i64 k ∧ k ≤ L ∧ Hid (Upd (fun k => k = mb) V3 wr) ∧ Hid (Mp wr mb c h l) ∧ Hid (Met n D' k 0 h l c)) (fun ix _ => L - (intOf ix).toNat)
  case atStart => exact ⟨0, _, _, 0, rfl, by omega, Lib.hid (Upd.refl _ _), HMP, Lib.hid (Met.zero n D')⟩
  case round =>
    obtain ⟨k, h, l, cc, rfl, hk, HU, HM, HE⟩ := hrel
    obtain ⟨wo, rfl⟩ : ∃ wo : World, wo = wr := ⟨_, rfl⟩
    have hk16 : (k : Int) ≤ 16 := by omega
    by_cases hlt : k < L
    · obtain ⟨vs, h1, h2, h3⟩ := HRV.out
      obtain ⟨b1, c1, e1, r1⟩ := h3 k hlt
      obtain ⟨ab, ao, rfl, ac⟩ := (h1.mapped HMP.out HU.out).at k (by omega)
      rw [e1] at ac
      obtain ⟨q, hq⟩ : ∃ q, (lvl D' n k).length = q := ⟨_, rfl⟩
      rw [hq] at ac
      have hq1 : 1 ≤ q := by
        obtain ⟨x, hx, e⟩ := lvl_all I1.out HMY.out k hlt
        rw [← hq]
        exact List.length_pos_iff.2 (List.ne_nil_of_mem (lvl_mem.2 ⟨hx, e⟩))
      have hq2 : q ≤ n := by
        have := List.length_filter_le (fun x => D'.getD x 0 == k) (List.range n)
        rw [List.length_range] at this
        rw [← hq]
        exact this
      have HQ := Lib.hid hq
      have HRW : Hid (∀ wr, Upd (fun k => k = mb) V3 wr → Rd wr b1 (nv (lvl D' n k))) := Lib.hid (fun wr hu => r1.mapped HMP.out hu)
      have HLT := Lib.hid hlt
      have j0 : (k : Int) < (L : Int) := by omega
      have j1 : (0 : Int) ≤ (k : Int) := by omega
      clear h1 h2 h3 e1 r1 hq
      go_upto_region 9 with (fail)
      clear ac
      go_loopw [47] (fun ix wr => ∃ (i : Nat) (h : List Int) (l : List Bool) (c : Nat), ix = .int .i64 i ∧ i ≤ q ∧ Hid (Upd (fun k => k = mb) V3 wr) ∧ Hid (Mp wr mb c h l) ∧ Hid (Met n D' k i h l c)) (fun ix _ => q - (intOf ix).toNat)
      case atStart => exact ⟨0, h, l, cc, rfl, by omega, HU, HM, HE⟩
      case round =>
        clear HU HM HE
        obtain ⟨i, h, l, cc, rfl, hi, HU, HM, HE⟩ := hrel
        by_cases hiq : i < q
        · have hil : i < (lvl D' n k).length := by rw [HQ.out]; exact hiq
          obtain ⟨rb, ro, rfl, xc⟩ := (HRW.out wr HU.out).at i (by rw [nv_len]; exact hil)
          rw [nv_get hil] at xc
          obtain ⟨x, hx⟩ : ∃ x, (lvl D' n k).getD i 0 = x := ⟨_, rfl⟩
          have hxm : x ∈ lvl D' n k := by rw [← hx]; simp [hil]
          obtain ⟨hxn, hxk⟩ := lvl_mem.1 hxm
          rw [hx] at xc
          have dc := HDC.out wr HU.out x hxn
          rw [hxk] at dc
          have hlk := HM.out.look (c := 0) x (by rw [HE.out.len]; exact hxn) (by omega) (by rw [← hx]; exact HE.out.new hil)
          have hcc : cc ≤ 20 * k + i := HE.out.cnt
          have HE2 : Hid (∀ l', Met n D' k (i + 1) (h.set x 1) l' (cc + 1)) := Lib.hid (fun l' => by rw [← hx]; exact HE.out.put hil)
          have HXL : Hid (x < h.length) := Lib.hid (by rw [HE.out.len]; exact hxn)
          have HPR : Hid (∀ hi0 : 0 < i, ∃ y, wr.cell? ⟨rb, ro + (i - 1), none⟩ = some (.int .i64 (y : Nat)) ∧ y < x) := Lib.hid (fun hi0 => by
            obtain ⟨rb', ro', e, yc⟩ := (HRW.out wr HU.out).at (i - 1) (by rw [nv_len]; omega)
            cases e
            rw [nv_get (by omega)] at yc
            refine ⟨_, yc, ?_⟩
            have := List.pairwise_iff_getElem.1 (lvl_sorted D' k n) (i - 1) i (by omega) hil (by omega)
            rw [← hx]
            simpa [hil, show i - 1 < (lvl D' n k).length by omega] using this)
          have k0 : (i : Int) < (q : Int) := by omega
          have k1 : (0 : Int) ≤ (i : Int) := by omega
          have k2 : ¬ (x : Int) < 0 := by omega
          have k3 : decide ((x : Int) < 0) = false := decide_eq_false k2
          have k4 : ¬ (n : Int) ≤ (x : Int) := by omega
          have k5 : decide ((n : Int) ≤ (x : Int)) = false := by simp; omega
          have k6 : ((k : Int) != (k : Int)) = false := by simp
          have k7 : (x : Int) < (n : Int) := by omega
          have k8 : (0 : Int) ≤ (x : Int) := by omega
          have k9 : (i : Int) ≤ 16 := by omega
          clear hx hxm hxk HE
          by_cases hi0 : 0 < i
          · obtain ⟨y, yc, hyx⟩ := HPR.out hi0
            have m1 : (0 : Int) < (i : Int) := by omega
            have m2 : decide ((0 : Int) < (i : Int)) = true := by simpa using m1
            obtain ⟨p, hp⟩ : ∃ p, p = i - 1 := ⟨_, rfl⟩
            have hp2 : (i : Int) - 1 = (p : Int) := by omega
            rw [← hp] at yc
            have m3 : wrap64 ((i : Int) - 1) = (p : Int) := by rw [hp2]; unfold wrap64; omega
            have m4 : ¬ (x : Int) ≤ (y : Int) := by omega
            have m5 : decide ((x : Int) ≤ (y : Int)) = false := by simp; omega
            have m6 : (0 : Int) ≤ (p : Int) := by omega
            have m7 : (p : Int) < (q : Int) := by omega
            have m8 : ¬ x ≤ y := by omega
            clear hp hi0 hyx HPR
            go_wp2_with (first | (at_mapUpdate; refine wpList_put _ rfl _ _ _ rfl rfl HM.out (by unfold maxLen; omega) x 1 rfl rfl HXL.out (by omega) (by decide) ?_; intro w6 hM6 hU6; have HM6 := Lib.hid hM6; have HU6 := Lib.hid (HU.out.trans hU6); clear hM6 hU6) | fail)
            clear HU HM xc dc hlk
            go_roundw
            case rel => exact ⟨i + 1, _, _, cc + 1, by go_num, by omega, HU6, HM6, Lib.hid (HE2.out _)⟩
            case measure => simp [intOf]; omega
          · have m1 : ¬ (0 : Int) < (i : Int) := by omega
            have m2 : decide ((0 : Int) < (i : Int)) = false := by simpa using m1
            clear hi0 HPR
            go_wp2_with (first | (at_mapUpdate; refine wpList_put _ rfl _ _ _ rfl rfl HM.out (by unfold maxLen; omega) x 1 rfl rfl HXL.out (by omega) (by decide) ?_; intro w6 hM6 hU6; have HM6 := Lib.hid hM6; have HU6 := Lib.hid (HU.out.trans hU6); clear hM6 hU6) | fail)
            clear HU HM xc dc hlk
            go_roundw
            case rel => exact ⟨i + 1, _, _, cc + 1, by go_num, by omega, HU6, HM6, Lib.hid (HE2.out _)⟩
            case measure => simp [intOf]; omega
        · have HE3 : Hid (Met n D' (k + 1) 0 h l cc) := Lib.hid (HE.out.next (by rw [HQ.out]; omega) (by omega))
          have j2 : ¬ (i : Int) < (q : Int) := by omega
          have j3 : ((q : Int) == 0) = false := by simp; omega
          have hqn : ¬ q = 0 := by omega
          clear HE hiq
          by_cases hk0 : k = 0
          · have hlv : lvl D' n k = [t] := by rw [hk0]; exact lvl_src I1.out
            have hq1' : q = 1 := by rw [← HQ.out, hlv]; rfl
            obtain ⟨rb, ro, rfl, xc⟩ := (HRW.out wr HU.out).at 0 (by rw [nv_len, hlv]; exact Nat.zero_lt_one)
            rw [hlv] at xc
            have xc : wr.cell? ⟨rb, ro, none⟩ = some (.int .i64 (t : Nat)) := by simpa [nv] using xc
            have j4 : ((k : Int) == 0) = true := by simp [hk0]
            have j5 : ((q : Int) != 1) = false := by simp [hq1']
            have j6 : ((t : Int) != (t : Int)) = false := by simp
            have j7 : (0 : Int) < (q : Int) := by omega
            clear hlv hq1' hk0
            go_wp2_with fail
            go_roundw
            case rel => exact ⟨k + 1, h, l, cc, by go_num, by omega, HU, HM, HE3⟩
            case measure => simp [intOf]; have := HLT.out; omega
          · have j4 : ((k : Int) == 0) = false := by simp; omega
            clear hk0
            go_wp2_with fail
            go_roundw
            case rel => exact ⟨k + 1, h, l, cc, by go_num, by omega, HU, HM, HE3⟩
            case measure => simp [intOf]; have := HLT.out; omega
    · have HEL : Hid (∀ v, v < n → h.getD v 0 = if D'.getD v 0 < L then 1 else 0) := Lib.hid (fun v hv => by
        have h1 := HE.out.at_ v hv
        rw [show k = L by omega] at h1
        simpa using h1)
      have HHL : Hid (h.length = n) := Lib.hid HE.out.len
      have j0 : ¬ (k : Int) < (L : Int) := by omega
      have hnn : ((n : Int) != (n : Int)) = false := by simp
      have bx := HBX.out wo HU.out
      clear HE
      go_upto_region 21 with (fail)
      clear bx
      go_loopw [113] (fun ix wr => ∃ (v : Nat), ix = .int .i64 v ∧ v ≤ n ∧ Hid (Upd (fun k => k = mb) V3 wr) ∧ Hid (Mp wr mb cc h l)) (fun ix _ => n - (intOf ix).toNat)
      case atStart => exact ⟨0, rfl, by omega, HU, HM⟩
      case round =>
        clear HU HM
        obtain ⟨v, rfl, hv, HU, HM⟩ := hrel
        by_cases hlv : v < n
        · have dc := HDC.out wr HU.out v hlv
          have hev := HEL.out v hlv
          obtain ⟨y, hy⟩ : ∃ y, D'.getD v 0 = y := ⟨_, rfl⟩
          have hyL := HMY.out.1 v hlv
          rw [hy] at dc hev hyL
          have bx := HBX.out wr HU.out
          have i1 : (0 : Int) ≤ (v : Int) := by omega
          have i2 : (v : Int) < (n : Int) := by omega
          have HHV : Hid (v < h.length) := Lib.hid (by rw [HHL.out]; exact hlv)
          clear hy
          by_cases hyn : y < n
          · rw [if_pos (hyL hyn)] at hev
            have hlk := HM.out.look (c := 1) v HHV.out (by omega) hev
            have z1 : decide ((y : Int) < (n : Int)) = true := by simpa using hyn
            clear hev hyL
            go_wp2_with fail
            go_roundw
            case rel => exact ⟨v + 1, by go_num, by omega, HU, HM⟩
            case measure => simp [intOf]; omega
          · rw [if_neg (by omega)] at hev
            have hlk := HM.out.look (c := 0) v HHV.out (by omega) hev
            have z1 : decide ((y : Int) < (n : Int)) = false := by simp; omega
            clear hev hyL
            go_wp2_with fail
            go_roundw
            case rel => exact ⟨v + 1, by go_num, by omega, HU, HM⟩
            case measure => simp [intOf]; omega
        · have i2 : ¬ (v : Int) < (n : Int) := by omega
          have HAW := fun (w : World) => Lib.hid (awake5_any w)
          go_wp2_with fail
          refine (HAW _).out.mono ?_
          rintro e w9 ⟨rfl, hk9⟩
          go_wp2_with fail
          go_ret
          exact ⟨rfl, HK0.out.trans ((Upd.late K3.out HU.out (fun i e => by have := HMB.out; omega)).trans hk9)⟩
theorem distRows_walk (N S T : Int) (a : Option Addr) (cap : Nat) (els : List (List Value)) (s1 : Option Addr) (cap1 : Nat) (z1 : List Int) (at0 : Int) (w : World) (_wN : (Lit.int .i64 N).wf = true) (_wS : (Lit.int .i64 S).wf = true) (_wT : (Lit.int .i64 T).wf = true) (hrow : FlatRow [some .i64, some .i64, some .i64] w a cap els) (_hf : ∀ x ∈ els, fits [some .i64, some .i64, some .i64] x)
    (w1 : IntRow .i64 w s1 cap1 z1) (m1 : ∀ n ∈ z1, (Lit.int .i64 n).wf = true) (wa : (Lit.int .u8 at0).wf = true) :
    Calls Try.prog 5 #[.agg #[.int .i64 N, .int .i64 S, .int .i64 T, .slice a els.length cap], .slice s1 z1.length cap1, .int .u8 at0] w fun e w' => e = .returned (.bool true) ∧ Kept w w' := by
  obtain ⟨xs, hl, hA, hx⟩ := ars_of_flat hrow
  have hle := hrow.le
  have hmo := hrow.most
  have l1 := w1.le
  have l1' := w1.most
  unfold maxLen at hmo l1'
  exact distRows_core N S T a els.length cap xs s1 cap1 z1 at0 w hA hl hle hmo (fun x hx0 => bounds_i64 (hx x hx0).2.2) w1.rd (fun x hx0 => bounds_i64 (m1 x hx0)) (by omega) (bounds_u8 wa).1 (bounds_u8 wa).2
end Go.Proofs.Ytoapekkmaajfmaa
