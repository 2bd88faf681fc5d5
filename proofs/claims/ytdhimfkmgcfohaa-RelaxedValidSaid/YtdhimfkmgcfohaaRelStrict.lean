/- relaxed.state.least, relaxed.Strict (printed by gen_relstrict.py) -/
import Derived.Test.YtdhimfkmgcfohaaRelRun
import Derived.Deep.CutRange
import Derived.Deep.RegionHeld3
import Derived.Deep.MidRow
import Derived.Deep.Onto
namespace Go.Proofs.Ytdhimfkmgcfohaa
set_option linter.unusedVariables false
set_option linter.unusedSimpArgs false
open Go.RowKit
attribute [local go_sem] cell?_ext

theorem leastP_in {n : Nat} {ys : List Ar} {p : PS} (hb : ∀ x ∈ p.hs, 0 ≤ x ∧ x ≤ 1000000) : ∀ (k a : Nat) (lo : Int) (so : Bool), -1 ≤ lo ∧ lo ≤ 1000000 → -1 ≤ (leastP n ys p k a lo so).1 ∧ (leastP n ys p k a lo so).1 ≤ 1000000
  | 0, a, lo, so, h => h
  | k + 1, a, lo, so, h => by
    unfold leastP
    split
    · refine leastP_in hb k (a + 1) _ true ?_
      by_cases hl : hd n ys a < p.hs.length
      · have := hb (p.hs.getD (hd n ys a) 0) (by rw [List.getD_eq_getElem?_getD, List.getElem?_eq_getElem hl]; exact List.getElem_mem _)
        omega
      · rw [List.getD_eq_getElem?_getD, List.getElem?_eq_none (by omega)]
        simp
    · exact leastP_in hb k (a + 1) lo so h
theorem leastOf_in {n : Nat} {ys : List Ar} {p : PS} {u : Nat} (hb : ∀ x ∈ p.hs, 0 ≤ x ∧ x ≤ 1000000) : -1 ≤ (leastOf n ys p u).1 ∧ (leastOf n ys p u).1 ≤ 1000000 := leastP_in hb _ _ _ _ (by omega)
theorem leastP_step {n : Nat} {ys : List Ar} {p : PS} {k a : Nat} {lo : Int} {so : Bool} (h : 0 < k) : leastP n ys p k a lo so = if 0 < p.rs.getD a 0 ∧ (so = false ∨ p.hs.getD (hd n ys a) 0 < lo) then leastP n ys p (k - 1) (a + 1) (p.hs.getD (hd n ys a) 0) true else leastP n ys p (k - 1) (a + 1) lo so := by
  obtain ⟨j, rfl⟩ : ∃ j, k = j + 1 := ⟨k - 1, by omega⟩
  rfl
set_option maxRecDepth 100000 in
set_option maxHeartbeats 4000000 in
theorem least_any (N S T : Int) (n m : Nat) (a3 a4 a5 a6 a7 a8 : Option Addr) (c3 c4 c5 c6 c7 c8 : Nat) (ys : List Ar) (p : PS) (ra : Option Addr) (rc : Nat) (ea : Option Addr) (ec : Nat) (za : Option Addr) (zc : Nat) (un : Nat) (w : World) (hg : Gr N S T n m ys) (hcr : CsrR w n ys a3 a4 a5 a6 a7 a8) (hok : p.ok n m) (hr : Rd w ra (lv p.rs)) (he : Rd w ea (lv p.es)) (hz : Rd w za (lv p.hs)) (hun : un < n) :
    Calls Try.prog 41 #[.agg #[.int .i64 N, .int .i64 S, .int .i64 T, .slice a3 (n + 1) c3, .slice a4 m c4, .slice a5 m c5, .slice a6 m c6, .slice a7 m c7, .slice a8 m c8, .slice ra m rc, .slice ea n ec, .slice za n zc], .int .i64 un] w fun e w' => e = .returned (.tuple #[.int .i64 (leastOf n ys p un).1, .bool (leastOf n ys p un).2]) ∧ Kept w w' := by
  have HK := Lib.hid ((Upd.refl (fun _ => False) w).alloc (.cells #[.int .i64 N, .int .i64 S, .int .i64 T, .slice a3 (n + 1) c3, .slice a4 m c4, .slice a5 m c5, .slice a6 m c6, .slice a7 m c7, .slice a8 m c8, .slice ra m rc, .slice ea n ec, .slice za n zc] 73))
  have HB := Lib.hid (Blk.new w #[.int .i64 N, .int .i64 S, .int .i64 T, .slice a3 (n + 1) c3, .slice a4 m c4, .slice a5 m c5, .slice a6 m c6, .slice a7 m c7, .slice a8 m c8, .slice ra m rc, .slice ea n ec, .slice za n zc] 73)
  have HG := Lib.hid hg
  have HCR := Lib.hid hcr
  have HOK : Hid (p.rs.length = m ∧ p.es.length = n ∧ p.hs.length = n) := Lib.hid hok
  have HRR := Lib.hid hr
  have HZZ := Lib.hid hz
  obtain ⟨fb, fo, e3, cf0⟩ := HCR.out.r3.at un (by rw [nv_len, firsts_len]; omega)
  obtain ⟨fb', fo', e3', cf1⟩ := HCR.out.r3.at (un + 1) (by rw [nv_len, firsts_len]; omega)
  rw [e3] at e3'
  cases e3'
  have HE3 := Lib.hid e3
  rw [firsts_get n ys un (by omega)] at cf0
  rw [firsts_get n ys (un + 1) (by omega)] at cf1
  have hf01 := fst_mono ys (show un ≤ un + 1 by omega)
  have hfm : fst ys (un + 1) ≤ m := by rw [← hg.hm]; exact fst_mono ys (by omega)
  have hl16 := hg.len
  obtain ⟨RR, hRR⟩ : ∃ r, leastOf n ys p un = r := ⟨_, rfl⟩
  rw [hRR]
  unfold leastOf at hRR
  generalize fst ys un = f0 at cf0 hf01 hRR
  generalize fst ys (un + 1) = f1 at cf1 hf01 hfm hRR
  have HRR2 : Hid (leastP n ys p (f1 - f0) f0 0 false = RR) := Lib.hid hRR
  have HMB : Hid (f1 ≤ m ∧ m ≤ 640 ∧ n ≤ 16) := Lib.hid (by omega)
  have i1 : (un : Int) < ((n + 1 : Nat) : Int) := by omega
  have i2 : (0 : Int) ≤ (un : Int) := by omega
  have i3 : ((un + 1 : Nat) : Int) < ((n + 1 : Nat) : Int) := by omega
  have i4 : (0 : Int) ≤ ((un + 1 : Nat) : Int) := by omega
  have hn16 : n ≤ 16 := by omega
  clear hg hcr hok hr he hz e3 hl16 hfm hRR
  go_enter Try.func41, Try.ntmps41
  go_upto_region 2 with (fail)
  generalize (w.alloc (.cells #[.int .i64 N, .int .i64 S, .int .i64 T, .slice a3 (n + 1) c3, .slice a4 m c4, .slice a5 m c5, .slice a6 m c6, .slice a7 m c7, .slice a8 m c8, .slice ra m rc, .slice ea n ec, .slice za n zc] 73)) = W0 at HK HB ⊢
  generalize w.heap.size = sb at HB ⊢
  have bx := HB.out.cell
  rw [HE3.out] at bx
  have cg0 := (keptCells HK.out _ (by rw [cf0]; rfl)).trans cf0
  go_upto_region 3 with (fail)
  clear bx cg0
  go_loopw [6, 7, 8] (fun x y z wr => ∃ (k : Nat) (lo : Int) (so : Bool), x = .int .i64 lo ∧ y = .bool so ∧ z = .int .i64 k ∧ f0 ≤ k ∧ k ≤ f1 ∧ Hid (leastP n ys p (f1 - k) k lo so = RR) ∧ Hid (Kept W0 wr)) (fun _ _ z _ => f1 - (intOf z).toNat)
  case atStart => exact ⟨f0, 0, false, rfl, rfl, rfl, by omega, hf01, HRR2, Lib.hid (Upd.refl _ _)⟩
  case round =>
    clear HRR2
    obtain ⟨k, lo, so, rfl, rfl, rfl, hk0, hk1, HL, HKW⟩ := hrel
    have bx := (HB.out.kept HKW.out).cell
    rw [HE3.out] at bx
    have cg1 := (keptCells (HK.out.trans HKW.out) _ (by rw [cf1]; rfl)).trans cf1
    by_cases hlt : k < f1
    · have j1 : (k : Int) < (f1 : Int) := by omega
      have hkm : k < m := by have := HMB.out; omega
      have j2 : (k : Int) < (m : Int) := by omega
      have j3 : (0 : Int) ≤ (k : Int) := by omega
      obtain ⟨hhd, hhdn⟩ := hd_get HG.out k hkm
      obtain ⟨b4, o4, e4, k4⟩ := HCR.out.r4.at k (List.getElem?_eq_some_iff.1 hhd).1
      rw [hhd] at k4
      have HST := Lib.hid (leastP_step (n := n) (ys := ys) (p := p) (k := f1 - k) (a := k) (lo := lo) (so := so) (by omega))
      obtain ⟨zb, zo, e5, k5⟩ := HZZ.out.num (i := hd n ys k) (by have := HOK.out; omega)
      obtain ⟨rb, ro, e6, k6⟩ := HRR.out.num (i := k) (by have := HOK.out; omega)
      generalize hd n ys k = hn at hhdn k4 k5 HST
      generalize p.hs.getD hn 0 = xh at k5 HST
      generalize p.rs.getD k 0 = xr at k6 HST
      rw [e4, e5, e6] at bx
      have d4 := (keptCells (HK.out.trans HKW.out) _ (by rw [k4]; rfl)).trans k4
      have d5 := (keptCells (HK.out.trans HKW.out) _ (by rw [k5]; rfl)).trans k5
      have d6 := (keptCells (HK.out.trans HKW.out) _ (by rw [k6]; rfl)).trans k6
      have j4 : (hn : Int) < (n : Int) := by omega
      have j5 : (0 : Int) ≤ (hn : Int) := by omega
      have HBB := Lib.hid (show Blk wr sb #[.int .i64 N, .int .i64 S, .int .i64 T, .slice (some ⟨fb, fo, none⟩) (n + 1) c3, .slice (some ⟨b4, o4, none⟩) m c4, .slice a5 m c5, .slice a6 m c6, .slice a7 m c7, .slice a8 m c8, .slice (some ⟨rb, ro, none⟩) m rc, .slice ea n ec, .slice (some ⟨zb, zo, none⟩) n zc] 73 by have h := HB.out.kept HKW.out; rwa [HE3.out, e4, e5, e6] at h)
      have HWK : Hid (k ≤ 640) := Lib.hid (by have := HMB.out; omega)
      clear hhd e4 e5 e6 k4 k5 k6
      as_aux_lemma =>
      go_upto_region 5 with (fail)
      clear cg1
      refine wp_region_kept (by kernel_rfl) (by kernel_rfl) ?_
      repeat (go_big_quiet_step (fail))
      refine wpQuiet_nil ?_
      intro w5 hk5
      have HKW5 := Lib.hid (HKW.out.trans hk5)
      have d6' := (keptCells hk5 _ (by rw [d6]; rfl)).trans d6
      have bx' := (HBB.out.kept hk5).cell
      clear hk5 HKW bx d4 d5 d6 HBB
      have hkb : k ≤ 640 := HWK.out
      by_cases q1 : 0 < xr
      · have b1 : decide (0 < xr) = true := by simpa using q1
        cases so
        · as_aux_lemma =>
          have HL2 : Hid (leastP n ys p (f1 - (k + 1)) (k + 1) xh true = RR) := Lib.hid (by have h := HL.out; rw [HST.out, if_pos (by simp [q1])] at h; rw [show f1 - (k + 1) = f1 - k - 1 by omega]; exact h)
          clear HL HST q1
          go_wp2_with fail
          go_roundw
          case rel => exact ⟨k + 1, xh, true, rfl, rfl, by go_num, by omega, by omega, HL2, HKW5⟩
          case measure => simp [intOf]; omega
        · by_cases q2 : xh < lo
          · as_aux_lemma =>
            have b2 : decide (xh < lo) = true := by simpa using q2
            have HL2 : Hid (leastP n ys p (f1 - (k + 1)) (k + 1) xh true = RR) := Lib.hid (by have h := HL.out; rw [HST.out, if_pos (by simp [q1, q2])] at h; rw [show f1 - (k + 1) = f1 - k - 1 by omega]; exact h)
            clear HL HST q1 q2
            go_wp2_with fail
            go_roundw
            case rel => exact ⟨k + 1, xh, true, rfl, rfl, by go_num, by omega, by omega, HL2, HKW5⟩
            case measure => simp [intOf]; omega
          · as_aux_lemma =>
            have b2 : decide (xh < lo) = false := by simpa using q2
            have HL2 : Hid (leastP n ys p (f1 - (k + 1)) (k + 1) lo true = RR) := Lib.hid (by have h := HL.out; rw [HST.out, if_neg (by simp; omega)] at h; rw [show f1 - (k + 1) = f1 - k - 1 by omega]; exact h)
            clear HL HST q1 q2
            go_wp2_with fail
            go_roundw
            case rel => exact ⟨k + 1, lo, true, rfl, rfl, by go_num, by omega, by omega, HL2, HKW5⟩
            case measure => simp [intOf]; omega
      · as_aux_lemma =>
        have b1 : decide (0 < xr) = false := by simpa using q1
        have HL2 : Hid (leastP n ys p (f1 - (k + 1)) (k + 1) lo so = RR) := Lib.hid (by have h := HL.out; rw [HST.out, if_neg (by simp [q1])] at h; rw [show f1 - (k + 1) = f1 - k - 1 by omega]; exact h)
        clear HL HST q1
        go_wp2_with fail
        go_roundw
        case rel => exact ⟨k + 1, lo, so, rfl, rfl, by go_num, by omega, by omega, HL2, HKW5⟩
        case measure => simp [intOf]; omega
    · have j1 : ¬ (k : Int) < (f1 : Int) := by omega
      as_aux_lemma =>
      have HRE : Hid (RR = (lo, so)) := Lib.hid (by have h := HL.out; rw [show f1 - k = 0 by omega] at h; exact h.symm)
      have HKF := Lib.hid (HK.out.trans HKW.out)
      clear HL
      go_wp2_with fail
      go_ret2
      exact ⟨by rw [HRE.out]; rfl, HKF.out⟩
set_option maxRecDepth 100000 in
set_option maxHeartbeats 4000000 in
theorem strict_any (N S T : Int) (n m : Nat) (a3 a4 a5 a6 a7 a8 : Option Addr) (c3 c4 c5 c6 c7 c8 : Nat) (ys : List Ar) (p : PS) (ra : Option Addr) (rc : Nat) (ea : Option Addr) (ec : Nat) (za : Option Addr) (zc : Nat) (who wt u ar d h lo : Int) (w : World) (hg : Gr N S T n m ys) (hcr : CsrR w n ys a3 a4 a5 a6 a7 a8) (hok : p.ok n m) (hr : Rd w ra (lv p.rs)) (he : Rd w ea (lv p.es)) (hz : Rd w za (lv p.hs)) (hwt : (Lit.int .u8 wt).wf = true) (hhb : ∀ x ∈ p.hs, 0 ≤ x ∧ x ≤ 1000000) :
    Calls Try.prog 17 #[.agg #[.int .i64 N, .int .i64 S, .int .i64 T, .slice a3 (n + 1) c3, .slice a4 m c4, .slice a5 m c5, .slice a6 m c6, .slice a7 m c7, .slice a8 m c8], .agg #[.slice ra m rc, .slice ea n ec, .slice za n zc], .agg #[.int .i64 who, .int .u8 wt, .int .i64 u, .int .i64 ar, .int .i64 d, .int .i64 h, .int .i64 lo]] w fun e w' => e = .returned (.bool (strictP N S T n ys p ⟨who, wt, u, ar, d, h, lo⟩)) ∧ Kept w w' := by
  have hs1 : (w.alloc (.cells #[.int .i64 N, .int .i64 S, .int .i64 T, .slice a3 (n + 1) c3, .slice a4 m c4, .slice a5 m c5, .slice a6 m c6, .slice a7 m c7, .slice a8 m c8] 32)).heap.size = w.heap.size + 1 := World.size_alloc _ _
  have hs2 : ((w.alloc (.cells #[.int .i64 N, .int .i64 S, .int .i64 T, .slice a3 (n + 1) c3, .slice a4 m c4, .slice a5 m c5, .slice a6 m c6, .slice a7 m c7, .slice a8 m c8] 32)).alloc (.cells #[.slice ra m rc, .slice ea n ec, .slice za n zc] 29)).heap.size = w.heap.size + 1 + 1 := by rw [← hs1]; exact World.size_alloc _ _
  have HK := Lib.hid ((((Upd.refl (fun _ => False) w).alloc (.cells #[.int .i64 N, .int .i64 S, .int .i64 T, .slice a3 (n + 1) c3, .slice a4 m c4, .slice a5 m c5, .slice a6 m c6, .slice a7 m c7, .slice a8 m c8] 32)).alloc (.cells #[.slice ra m rc, .slice ea n ec, .slice za n zc] 29)).alloc (.cells #[.int .i64 who, .int .u8 wt, .int .i64 u, .int .i64 ar, .int .i64 d, .int .i64 h, .int .i64 lo] 39))
  have HB := Lib.hid (((Blk.new w #[.int .i64 N, .int .i64 S, .int .i64 T, .slice a3 (n + 1) c3, .slice a4 m c4, .slice a5 m c5, .slice a6 m c6, .slice a7 m c7, .slice a8 m c8] 32).alloc (.cells #[.slice ra m rc, .slice ea n ec, .slice za n zc] 29)).alloc (.cells #[.int .i64 who, .int .u8 wt, .int .i64 u, .int .i64 ar, .int .i64 d, .int .i64 h, .int .i64 lo] 39))
  have HP := Lib.hid ((Blk.new (w.alloc (.cells #[.int .i64 N, .int .i64 S, .int .i64 T, .slice a3 (n + 1) c3, .slice a4 m c4, .slice a5 m c5, .slice a6 m c6, .slice a7 m c7, .slice a8 m c8] 32)) #[.slice ra m rc, .slice ea n ec, .slice za n zc] 29).alloc (.cells #[.int .i64 who, .int .u8 wt, .int .i64 u, .int .i64 ar, .int .i64 d, .int .i64 h, .int .i64 lo] 39))
  have HE := Lib.hid (Blk.new ((w.alloc (.cells #[.int .i64 N, .int .i64 S, .int .i64 T, .slice a3 (n + 1) c3, .slice a4 m c4, .slice a5 m c5, .slice a6 m c6, .slice a7 m c7, .slice a8 m c8] 32)).alloc (.cells #[.slice ra m rc, .slice ea n ec, .slice za n zc] 29)) #[.int .i64 who, .int .u8 wt, .int .i64 u, .int .i64 ar, .int .i64 d, .int .i64 h, .int .i64 lo] 39)
  rw [hs1] at HP
  rw [hs2] at HE
  obtain ⟨V, hV⟩ : ∃ V, strictP N S T n ys p ⟨who, wt, u, ar, d, h, lo⟩ = V := ⟨_, rfl⟩
  rw [hV]
  obtain ⟨LL, hLL⟩ : ∃ q, legalP N S T ys p ⟨who, wt, u, ar, d, h, lo⟩ = q := ⟨_, rfl⟩
  have HLL := Lib.hid hLL
  have HLG : Hid (∀ W, Kept w W → Calls Try.prog 16 #[.agg #[.int .i64 N, .int .i64 S, .int .i64 T, .slice a3 (n + 1) c3, .slice a4 m c4, .slice a5 m c5, .slice a6 m c6, .slice a7 m c7, .slice a8 m c8], .agg #[.slice ra m rc, .slice ea n ec, .slice za n zc], .agg #[.int .i64 who, .int .u8 wt, .int .i64 u, .int .i64 ar, .int .i64 d, .int .i64 h, .int .i64 lo]] W fun e w' => e = .returned (.int .i64 LL) ∧ Kept W w') := Lib.hid (fun W k => by rw [← hLL]; exact legal_any N S T n m a3 a4 a5 a6 a7 a8 c3 c4 c5 c6 c7 c8 ys p ra rc ea ec za zc who wt u ar d h lo W hg (hcr.kept k) hok (hr.kept k) (he.kept k) (hz.kept k) hwt)
  have HV : Hid (V = if LL ≠ 0 then false else if wt = 1 then decide (p.hs.getD u.toNat 0 - p.hs.getD (hd n ys ar.toNat) 0 = 1 ∧ d = min (p.es.getD u.toNat 0) (p.rs.getD ar.toNat 0)) else (leastOf n ys p u.toNat).2 && decide (0 < p.es.getD u.toNat 0 ∧ p.hs.getD u.toNat 0 ≤ (leastOf n ys p u.toNat).1 ∧ h = (leastOf n ys p u.toNat).1 + 1)) := Lib.hid (by rw [← hV, ← hLL]; rfl)
  clear hV hLL
  have HLE : Hid (∀ W (un : Nat), Kept w W → un < n → Calls Try.prog 41 #[.agg #[.int .i64 N, .int .i64 S, .int .i64 T, .slice a3 (n + 1) c3, .slice a4 m c4, .slice a5 m c5, .slice a6 m c6, .slice a7 m c7, .slice a8 m c8, .slice ra m rc, .slice ea n ec, .slice za n zc], .int .i64 un] W fun e w' => e = .returned (.tuple #[.int .i64 (leastOf n ys p un).1, .bool (leastOf n ys p un).2]) ∧ Kept W w') := Lib.hid (fun W un k hu => least_any N S T n m a3 a4 a5 a6 a7 a8 c3 c4 c5 c6 c7 c8 ys p ra rc ea ec za zc un W hg (hcr.kept k) hok (hr.kept k) (he.kept k) (hz.kept k) hu)
  have HG := Lib.hid hg
  have HCR := Lib.hid hcr
  have HOK : Hid (p.rs.length = m ∧ p.es.length = n ∧ p.hs.length = n) := Lib.hid hok
  have HRR := Lib.hid hr
  have HEE := Lib.hid he
  have HZZ := Lib.hid hz
  have HHB := Lib.hid hhb
  clear hg hcr hok hr he hz hhb hwt
  go_enter Try.func17, Try.ntmps17
  go_upto_region 1 with (fail)
  try rw [hs2]
  try rw [hs1]
  clear hs1 hs2
  generalize (((w.alloc (.cells #[.int .i64 N, .int .i64 S, .int .i64 T, .slice a3 (n + 1) c3, .slice a4 m c4, .slice a5 m c5, .slice a6 m c6, .slice a7 m c7, .slice a8 m c8] 32)).alloc (.cells #[.slice ra m rc, .slice ea n ec, .slice za n zc] 29)).alloc (.cells #[.int .i64 who, .int .u8 wt, .int .i64 u, .int .i64 ar, .int .i64 d, .int .i64 h, .int .i64 lo] 39)) = W3 at HK HB HP HE ⊢
  generalize w.heap.size + 1 + 1 = eb at HE ⊢
  generalize w.heap.size + 1 = pb at HP ⊢
  generalize w.heap.size = cb at HB ⊢
  have hra9 := Blk.range HB.out
  have px := HP.out.cell
  have hZ := Blk.new W3 #[.int .i64 0, .int .i64 0, .int .i64 0, .slice none 0 0, .slice none 0 0, .slice none 0 0, .slice none 0 0, .slice none 0 0, .slice none 0 0, .slice none 0 0, .slice none 0 0, .slice none 0 0] 73
  have hth := Blk.there hZ 12 rfl
  obtain ⟨W4, hW4⟩ : ∃ W4, (W3.alloc (.cells #[.int .i64 0, .int .i64 0, .int .i64 0, .slice none 0 0, .slice none 0 0, .slice none 0 0, .slice none 0 0, .slice none 0 0, .slice none 0 0, .slice none 0 0, .slice none 0 0, .slice none 0 0] 73)).setCells W3.heap.size 0 [.int .i64 N, .int .i64 S, .int .i64 T, .slice a3 (n + 1) c3, .slice a4 m c4, .slice a5 m c5, .slice a6 m c6, .slice a7 m c7, .slice a8 m c8, .slice ra m rc, .slice ea n ec, .slice za n zc] = W4 := ⟨_, rfl⟩
  have hB4 : Blk W4 W3.heap.size #[.int .i64 N, .int .i64 S, .int .i64 T, .slice a3 (n + 1) c3, .slice a4 m c4, .slice a5 m c5, .slice a6 m c6, .slice a7 m c7, .slice a8 m c8, .slice ra m rc, .slice ea n ec, .slice za n zc] 73 ∧ Upd (fun k => k = W3.heap.size) (W3.alloc (.cells #[.int .i64 0, .int .i64 0, .int .i64 0, .slice none 0 0, .slice none 0 0, .slice none 0 0, .slice none 0 0, .slice none 0 0, .slice none 0 0, .slice none 0 0, .slice none 0 0, .slice none 0 0] 73)) W4 := by rw [← hW4]; exact Blk.alls hZ [.int .i64 N, .int .i64 S, .int .i64 T, .slice a3 (n + 1) c3, .slice a4 m c4, .slice a5 m c5, .slice a6 m c6, .slice a7 m c7, .slice a8 m c8, .slice ra m rc, .slice ea n ec, .slice za n zc] rfl
  have HSB := Lib.hid hB4.1
  have KW := Lib.hid (show Kept W3 W4 from ((Upd.refl (fun _ => False) W3).alloc _).then hB4.2 (fun i hi e => by omega))
  have hz12 : (Try.prog.info? 73).map (·.size) = some 12 := by kernel_rfl
  have hz9 : (Try.prog.info? 32).map (·.size) = some 9 := by kernel_rfl
  clear hB4 hZ
  go_upto_region 2 with (first | (refine wpList_load_mid rfl _ _ rfl cb 0 rfl [.int .i64 N, .int .i64 S, .int .i64 T, .slice a3 (n + 1) c3, .slice a4 m c4, .slice a5 m c5, .slice a6 m c6, .slice a7 m c7, .slice a8 m c8] _ hra9 Try.underlying32 rfl hz9 ?_) | (refine wpList_store_mid rfl _ _ _ rfl W3.heap.size 0 #[.int .i64 N, .int .i64 S, .int .i64 T, .slice a3 (n + 1) c3, .slice a4 m c4, .slice a5 m c5, .slice a6 m c6, .slice a7 m c7, .slice a8 m c8, .slice ra m rc, .slice ea n ec, .slice za n zc] rfl rfl hth hz12 (all_oneCell_toArray (cs := [.int .i64 N, .int .i64 S, .int .i64 T, .slice a3 (n + 1) c3, .slice a4 m c4, .slice a5 m c5, .slice a6 m c6, .slice a7 m c7, .slice a8 m c8, .slice ra m rc, .slice ea n ec, .slice za n zc]) (by simp [Value.oneCell'])) ?_; simp only [hW4]) | fail)
  clear hth hW4 hz9 px hra9
  generalize W3.heap.size = sb at HSB ⊢
  have HB4 := Lib.hid (HB.out.kept KW.out)
  have HP4 := Lib.hid (HP.out.kept KW.out)
  have HE4 := Lib.hid (HE.out.kept KW.out)
  have HK4 := Lib.hid (HK.out.trans KW.out)
  clear HB HP HE HK KW
  have hra9 := Blk.range HB4.out
  have hra7 := Blk.range HE4.out
  have px := HP4.out.cell
  have hz9 : (Try.prog.info? 32).map (·.size) = some 9 := by kernel_rfl
  have hz7 : (Try.prog.info? 39).map (·.size) = some 7 := by kernel_rfl
  go_wp2_with (first | (refine wpList_load_mid rfl _ _ rfl cb 0 rfl [.int .i64 N, .int .i64 S, .int .i64 T, .slice a3 (n + 1) c3, .slice a4 m c4, .slice a5 m c5, .slice a6 m c6, .slice a7 m c7, .slice a8 m c8] _ hra9 Try.underlying32 rfl hz9 ?_) | (refine wpList_load_mid rfl _ _ rfl eb 0 rfl [.int .i64 who, .int .u8 wt, .int .i64 u, .int .i64 ar, .int .i64 d, .int .i64 h, .int .i64 lo] _ hra7 Try.underlying39 rfl hz7 ?_) | fail)
  refine (HLG.out _ HK4.out).mono ?_
  rintro e w1 ⟨rfl, hk1⟩
  have HB1 := Lib.hid (HB4.out.kept hk1)
  have HP1 := Lib.hid (HP4.out.kept hk1)
  have HE1 := Lib.hid (HE4.out.kept hk1)
  have HS1 := Lib.hid (HSB.out.kept hk1)
  have HK1 := Lib.hid (HK4.out.trans hk1)
  clear hk1 hra9 hra7 px hz9 hz7 HB4 HP4 HE4 HK4 HSB HLG
  by_cases hL : LL = 0
  · have b0 : (LL != 0) = false := by simpa using hL
    have hin := legal_in HG.out (HLL.out.trans hL)
    obtain ⟨un, rfl⟩ : ∃ k : Nat, u = (k : Int) := ⟨u.toNat, by have := hin.1; simp only at this; omega⟩
    have hun : un < n := by have := hin.2.1; have := HG.out.len.1; simp only at *; omega
    have hwt2 : wt = 1 ∨ wt = 2 := hin.2.2.2.2.1
    have hpu : wt ≠ 2 → 0 ≤ ar ∧ ar < m := hin.2.2.2.2.2
    obtain ⟨zb, zo, ez, cz0⟩ := HZZ.out.num (i := un) (by have := HOK.out; omega)
    obtain ⟨eb0, eo, e5, ce0⟩ := HEE.out.num (i := un) (by have := HOK.out; omega)
    have hzb := HHB.out (p.hs.getD un 0) (by rw [List.getD_eq_getElem?_getD, List.getElem?_eq_getElem (show un < p.hs.length by have := HOK.out; omega)]; exact List.getElem_mem _)
    obtain ⟨xe, hxe⟩ : ∃ x, p.es.getD un 0 = x := ⟨_, rfl⟩
    rw [hxe] at ce0
    have HXE := Lib.hid hxe
    clear hxe
    have HEZ := Lib.hid ez
    have HE5 := Lib.hid e5
    clear ez e5
    have i1 : (un : Int) < (n : Int) := by omega
    have i2 : (0 : Int) ≤ (un : Int) := by omega
    clear hin HLL
    by_cases hw1 : wt = 1
    · as_aux_lemma =>
      have b1 : (wt == 1) = true := by simpa using hw1
      have HVA : Hid (V = decide (p.hs.getD un 0 - p.hs.getD (hd n ys ar.toNat) 0 = 1 ∧ d = min xe (p.rs.getD ar.toNat 0))) := Lib.hid (by rw [HV.out, if_neg (by simpa using hL), if_pos hw1, Int.toNat_natCast, HXE.out])
      obtain ⟨ha0, ham⟩ := hpu (by omega)
      obtain ⟨an, rfl⟩ : ∃ k : Nat, ar = (k : Int) := ⟨ar.toNat, by omega⟩
      have hanm : an < m := by omega
      have HVA : Hid (V = decide (p.hs.getD un 0 - p.hs.getD (hd n ys an) 0 = 1 ∧ d = min xe (p.rs.getD an 0))) := Lib.hid (by rw [HVA.out, Int.toNat_natCast])
      obtain ⟨hhd, hhdn⟩ := hd_get HG.out an hanm
      obtain ⟨b4, o4, e4, k4⟩ := HCR.out.r4.at an (List.getElem?_eq_some_iff.1 hhd).1
      rw [hhd] at k4
      obtain ⟨zb', zo', ez', k5⟩ := HZZ.out.num (i := hd n ys an) (by have := HOK.out; omega)
      rw [HEZ.out] at ez'
      cases ez'
      obtain ⟨rb, ro, e6, k6⟩ := HRR.out.num (i := an) (by have := HOK.out; omega)
      have hxb := HHB.out (p.hs.getD (hd n ys an) 0) (by rw [List.getD_eq_getElem?_getD, List.getElem?_eq_getElem (show hd n ys an < p.hs.length by have := HOK.out; omega)]; exact List.getElem_mem _)
      generalize hd n ys an = hn at hhdn k4 k5 HVA hxb
      generalize p.hs.getD un 0 = xu at cz0 HVA hzb
      generalize p.hs.getD hn 0 = xh at k5 HVA hxb
      generalize p.rs.getD an 0 = xr at k6 HVA
      have bx := HB1.out.cell
      have px := HP1.out.cell
      have ex := HE1.out.cell
      rw [e4] at bx
      rw [HEZ.out, HE5.out, e6] at px
      have d1 := (keptCells HK1.out _ (by rw [cz0]; rfl)).trans cz0
      have d2 := (keptCells HK1.out _ (by rw [ce0]; rfl)).trans ce0
      have d4 := (keptCells HK1.out _ (by rw [k4]; rfl)).trans k4
      have d5 := (keptCells HK1.out _ (by rw [k5]; rfl)).trans k5
      have d6 := (keptCells HK1.out _ (by rw [k6]; rfl)).trans k6
      have j2 : (an : Int) < (m : Int) := by omega
      have j3 : (0 : Int) ≤ (an : Int) := by omega
      have j4 : (hn : Int) < (n : Int) := by omega
      have j5 : (0 : Int) ≤ (hn : Int) := by omega
      obtain ⟨df, hdf⟩ : ∃ q, xu - xh = q := ⟨_, rfl⟩
      have hw4 : IntKind.i64.wrap (xu - xh) = df := by rw [IntKind.wrap_i64]; omega
      have hw5 : wrap64 (xu - xh) = df := by unfold wrap64; omega
      obtain ⟨mn, hmn⟩ : ∃ q, (if xr < xe then xr else xe) = q := ⟨_, rfl⟩
      have HVB : Hid (V = decide (df = 1 ∧ d = mn)) := Lib.hid (by
        have e : min xe xr = mn := by rw [← hmn, Int.min_def]; split <;> split <;> omega
        rw [HVA.out, hdf, e])
      clear e4 e6 hhd k4 k5 k6 cz0 ce0 hzb hxb hdf HV HVA hpu hwt2 ha0 ham HS1 HLE
      go_upto_region 5 with (fail)
      by_cases q1 : df = 1
      · as_aux_lemma =>
        have b3 : (df == 1) = true := by simpa using q1
        obtain ⟨z, hz⟩ : ∃ z, (d == mn) = z := ⟨_, rfl⟩
        have HZ : Hid (V = z) := Lib.hid (by rw [HVB.out, ← hz]; exact Bool.eq_iff_iff.2 (by simp [q1]))
        clear q1
        refine wp_region_kept (by kernel_rfl) (by kernel_rfl) ?_
        repeat (go_big_quiet_step (fail))
        refine wpQuiet_nil ?_
        intro w5 hk5
        have HKF := Lib.hid (HK1.out.trans hk5)
        clear hk5 bx px ex d1 d2 d4 d5 d6
        go_wp2_with fail
        go_ret
        exact ⟨by rw [HZ.out]; rfl, HKF.out⟩
      · as_aux_lemma =>
        have b3 : (df == 1) = false := by simpa using q1
        have HZ : Hid (V = false) := Lib.hid (by rw [HVB.out]; simp [q1])
        clear q1
        refine wp_region_kept (by kernel_rfl) (by kernel_rfl) ?_
        repeat (go_big_quiet_step (fail))
        refine wpQuiet_nil ?_
        intro w5 hk5
        have HKF := Lib.hid (HK1.out.trans hk5)
        clear hk5 bx px ex d1 d2 d4 d5 d6
        go_wp2_with fail
        go_ret
        exact ⟨by rw [HZ.out]; rfl, HKF.out⟩
    · have b1 : (wt == 1) = false := by simpa using hw1
      have HVA : Hid (V = ((leastOf n ys p un).2 && decide (0 < xe ∧ p.hs.getD un 0 ≤ (leastOf n ys p un).1 ∧ h = (leastOf n ys p un).1 + 1))) := Lib.hid (by rw [HV.out, if_neg (by simpa using hL), if_neg hw1, Int.toNat_natCast, HXE.out])
      have HLO : Hid (-1 ≤ (leastOf n ys p un).1 ∧ (leastOf n ys p un).1 ≤ 1000000) := Lib.hid (leastOf_in HHB.out)
      have hraS := Blk.range HS1.out
      have ex := HE1.out.cell
      have HLC := Lib.hid (HLE.out _ un HK1.out hun)
      obtain ⟨LO, hLO⟩ : ∃ q, leastOf n ys p un = q := ⟨_, rfl⟩
      rw [hLO] at HVA HLO HLC
      obtain ⟨lw, so⟩ := LO
      simp only at HVA HLO HLC
      clear hLO HLE HV hpu hwt2
      as_aux_lemma =>
      go_wp2_with (first | (refine wpList_load_mid rfl _ _ rfl sb 0 rfl [.int .i64 N, .int .i64 S, .int .i64 T, .slice a3 (n + 1) c3, .slice a4 m c4, .slice a5 m c5, .slice a6 m c6, .slice a7 m c7, .slice a8 m c8, .slice ra m rc, .slice ea n ec, .slice za n zc] _ hraS Try.underlying73 rfl hz12 ?_) | fail)
      refine HLC.out.mono ?_
      rintro e w2 ⟨rfl, hk2⟩
      have HP2 := Lib.hid (HP1.out.kept hk2)
      have HE2 := Lib.hid (HE1.out.kept hk2)
      have HK2 := Lib.hid (HK1.out.trans hk2)
      clear hraS ex hk2 HP1 HE1 HB1 HS1 HLC
      have px := HP2.out.cell
      have ex := HE2.out.cell
      rw [HEZ.out, HE5.out] at px
      have d1 := (keptCells HK2.out _ (by rw [cz0]; rfl)).trans cz0
      have d2 := (keptCells HK2.out _ (by rw [ce0]; rfl)).trans ce0
      generalize p.hs.getD un 0 = xu at d1 HVA hzb
      have hlw := HLO.out
      clear cz0 ce0 HLO hzb
      obtain ⟨l1, hl1⟩ : ∃ q, lw + 1 = q := ⟨_, rfl⟩
      have hw4 : wrap64 (lw + 1) = l1 := by unfold wrap64; omega
      rw [hl1] at HVA
      clear hl1 hlw
      cases so
      · as_aux_lemma =>
        have HZ : Hid (V = false) := Lib.hid (by rw [HVA.out]; rfl)
        go_wp2_with fail
        go_ret
        exact ⟨by rw [HZ.out]; rfl, HK2.out⟩
      · by_cases q1 : 0 < xe
        · have b3 : decide (0 < xe) = true := by simpa using q1
          by_cases q2 : xu ≤ lw
          · as_aux_lemma =>
            have b4 : decide (xu ≤ lw) = true := by simpa using q2
            obtain ⟨z, hz⟩ : ∃ z, (h == l1) = z := ⟨_, rfl⟩
            have HZ : Hid (V = z) := Lib.hid (by rw [HVA.out, ← hz]; exact Bool.eq_iff_iff.2 (by simp [q1, q2]))
            clear q1 q2
            go_wp2_with fail
            go_ret
            exact ⟨by rw [HZ.out]; rfl, HK2.out⟩
          · as_aux_lemma =>
            have b4 : decide (xu ≤ lw) = false := by simpa using q2
            have HZ : Hid (V = false) := Lib.hid (by rw [HVA.out]; simp [q2])
            clear q1 q2
            go_wp2_with fail
            go_ret
            exact ⟨by rw [HZ.out]; rfl, HK2.out⟩
        · as_aux_lemma =>
          have b3 : decide (0 < xe) = false := by simpa using q1
          have HZ : Hid (V = false) := Lib.hid (by rw [HVA.out]; simp [q1])
          clear q1
          go_wp2_with fail
          go_ret
          exact ⟨by rw [HZ.out]; rfl, HK2.out⟩
  · as_aux_lemma =>
    have b0 : (LL != 0) = true := by simpa using hL
    have HZ : Hid (V = false) := Lib.hid (by rw [HV.out, if_pos hL])
    clear hL HV
    go_wp2_with fail
    go_ret
    exact ⟨by rw [HZ.out]; rfl, HK1.out⟩
end Go.Proofs.Ytdhimfkmgcfohaa
