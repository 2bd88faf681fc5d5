/- relaxed.state.push, lift; relaxed.Legal (printed by gen_rellegal.py) -/
import Derived.Test.YtdhimfkmgcfohaaRelClone
import Derived.Test.YtdhimfkmgcfohaaTail
import Derived.Deep.CutRange
import Derived.Deep.RegionHeld3
import Derived.Deep.MidRow
import Derived.Deep.Onto
namespace Go.Proofs.Ytdhimfkmgcfohaa
set_option linter.unusedVariables false
set_option linter.unusedSimpArgs false
open Go.RowKit
attribute [local go_sem] cell?_ext

set_option maxHeartbeats 2000000 in
theorem lift_any (N S T : Int) (n m : Nat) (a3 a4 a5 a6 a7 a8 : Option Addr) (c3 c4 c5 c6 c7 c8 : Nat) (ys : List Ar) (p : PS) (ra : Option Addr) (rc : Nat) (ea : Option Addr) (ec : Nat) (za : Option Addr) (zc : Nat) (who wt u ar d h lo : Int) (w : World) (hg : Gr N S T n m ys) (hcr : CsrR w n ys a3 a4 a5 a6 a7 a8) (hok : p.ok n m) (hr : Rd w ra (lv p.rs)) (he : Rd w ea (lv p.es)) (hz : Rd w za (lv p.hs)) (hu0 : 0 ≤ u) (hu1 : u < N) :
    Calls Try.prog 40 #[.agg #[.int .i64 N, .int .i64 S, .int .i64 T, .slice a3 (n + 1) c3, .slice a4 m c4, .slice a5 m c5, .slice a6 m c6, .slice a7 m c7, .slice a8 m c8, .slice ra m rc, .slice ea n ec, .slice za n zc], .agg #[.int .i64 who, .int .u8 wt, .int .i64 u, .int .i64 ar, .int .i64 d, .int .i64 h, .int .i64 lo]] w fun e w' => e = .returned (.int .i64 (liftP N p ⟨who, wt, u, ar, d, h, lo⟩)) ∧ Kept w w' := by
  have HK := Lib.hid (((Upd.refl (fun _ => False) w).alloc (.cells #[.int .i64 N, .int .i64 S, .int .i64 T, .slice a3 (n + 1) c3, .slice a4 m c4, .slice a5 m c5, .slice a6 m c6, .slice a7 m c7, .slice a8 m c8, .slice ra m rc, .slice ea n ec, .slice za n zc] 73)).alloc (.cells #[.int .i64 who, .int .u8 wt, .int .i64 u, .int .i64 ar, .int .i64 d, .int .i64 h, .int .i64 lo] 39))
  have HB := Lib.hid ((Blk.new w #[.int .i64 N, .int .i64 S, .int .i64 T, .slice a3 (n + 1) c3, .slice a4 m c4, .slice a5 m c5, .slice a6 m c6, .slice a7 m c7, .slice a8 m c8, .slice ra m rc, .slice ea n ec, .slice za n zc] 73).alloc (.cells #[.int .i64 who, .int .u8 wt, .int .i64 u, .int .i64 ar, .int .i64 d, .int .i64 h, .int .i64 lo] 39))
  have HE := Lib.hid (Blk.new (w.alloc (.cells #[.int .i64 N, .int .i64 S, .int .i64 T, .slice a3 (n + 1) c3, .slice a4 m c4, .slice a5 m c5, .slice a6 m c6, .slice a7 m c7, .slice a8 m c8, .slice ra m rc, .slice ea n ec, .slice za n zc] 73)) #[.int .i64 who, .int .u8 wt, .int .i64 u, .int .i64 ar, .int .i64 d, .int .i64 h, .int .i64 lo] 39)
  have hs1 : (w.alloc (.cells #[.int .i64 N, .int .i64 S, .int .i64 T, .slice a3 (n + 1) c3, .slice a4 m c4, .slice a5 m c5, .slice a6 m c6, .slice a7 m c7, .slice a8 m c8, .slice ra m rc, .slice ea n ec, .slice za n zc] 73)).heap.size = w.heap.size + 1 := World.size_alloc _ _
  rw [hs1] at HE
  obtain ⟨V, hV⟩ : ∃ V, liftP N p ⟨who, wt, u, ar, d, h, lo⟩ = V := ⟨_, rfl⟩
  rw [hV]
  have HV := Lib.hid hV
  clear hV
  obtain ⟨hN, hn2, hn16, -⟩ := hg.len
  have hzl := hok.2.2
  have HZ := Lib.hid (hz.kept HK.out)
  obtain ⟨N2, hN2⟩ : ∃ q, 2 * N = q := ⟨_, rfl⟩
  have hw2 : wrap64 (2 * N) = N2 := by unfold wrap64; omega
  have hw3 : IntKind.i64.wrap (2 * N) = N2 := by rw [IntKind.wrap_i64]; omega
  have HN := Lib.hid (And.intro hN hzl)
  have HN2 := Lib.hid hN2
  clear hg hcr hr he hz hok hzl hN hn2 hn16 hN2
  go_enter Try.func40, Try.ntmps40
  go_upto_region 1 with (fail)
  try rw [hs1]
  clear hs1
  generalize ((w.alloc (.cells #[.int .i64 N, .int .i64 S, .int .i64 T, .slice a3 (n + 1) c3, .slice a4 m c4, .slice a5 m c5, .slice a6 m c6, .slice a7 m c7, .slice a8 m c8, .slice ra m rc, .slice ea n ec, .slice za n zc] 73)).alloc (.cells #[.int .i64 who, .int .u8 wt, .int .i64 u, .int .i64 ar, .int .i64 d, .int .i64 h, .int .i64 lo] 39)) = W0 at HK HB HE HZ ⊢
  generalize w.heap.size + 1 = eb at HE ⊢
  generalize w.heap.size = cb at HB ⊢
  have bx := HB.out.cell
  have ex := HE.out.cell
  obtain ⟨un, rfl⟩ : ∃ k : Nat, u = (k : Int) := ⟨u.toNat, by omega⟩
  have hun : un < n := by have := HN.out; omega
  obtain ⟨zb, zo, rfl, cz⟩ := HZ.out.num (i := un) (by have := HN.out; omega)
  obtain ⟨x, hx⟩ : ∃ x, p.hs.getD un 0 = x := ⟨_, rfl⟩
  have HP : Hid (V = if h ≤ x ∨ N2 < h then 30 else 0) := Lib.hid (by rw [← HV.out]; unfold liftP; simp only [Int.toNat_natCast, hx, HN2.out])
  rw [hx] at cz
  have i1 : (un : Int) < (n : Int) := by omega
  have i2 : (0 : Int) ≤ (un : Int) := by omega
  clear hx HZ hu0 hu1 HV HN2
  by_cases q1 : h ≤ x
  · have b1 : decide (h ≤ x) = true := by simpa using q1
    refine wp_region_kept (by kernel_rfl) (by kernel_rfl) ?_
    repeat (go_big_quiet_step (fail))
    refine wpQuiet_nil ?_
    intro w2 hk1
    have HQ := Lib.hid hk1
    have HK1 := Lib.hid (HK.out.trans hk1)
    clear hk1 HK
    go_wp2_with fail
    go_ret
    exact ⟨by rw [HP.out, if_pos (Or.inl q1)]; rfl, HK1.out⟩
  · have b1 : decide (h ≤ x) = false := by simpa using q1
    by_cases q2 : N2 < h
    · have b2 : decide (N2 < h) = true := by simpa using q2
      refine wp_region_kept (by kernel_rfl) (by kernel_rfl) ?_
      repeat (go_big_quiet_step (fail))
      refine wpQuiet_nil ?_
      intro w2 hk1
      have HQ := Lib.hid hk1
      have HK1 := Lib.hid (HK.out.trans hk1)
      clear hk1 HK
      go_wp2_with fail
      go_ret
      exact ⟨by rw [HP.out, if_pos (Or.inr q2)]; rfl, HK1.out⟩
    · have b2 : decide (N2 < h) = false := by simpa using q2
      refine wp_region_kept (by kernel_rfl) (by kernel_rfl) ?_
      repeat (go_big_quiet_step (fail))
      refine wpQuiet_nil ?_
      intro w2 hk1
      have HQ := Lib.hid hk1
      have HK1 := Lib.hid (HK.out.trans hk1)
      clear hk1 HK
      go_wp2_with fail
      go_ret
      exact ⟨by rw [HP.out, if_neg (by omega)]; rfl, HK1.out⟩
set_option maxRecDepth 100000 in
set_option maxHeartbeats 4000000 in
theorem push_any (N S T : Int) (n m : Nat) (a3 a4 a5 a6 a7 a8 : Option Addr) (c3 c4 c5 c6 c7 c8 : Nat) (ys : List Ar) (p : PS) (ra : Option Addr) (rc : Nat) (ea : Option Addr) (ec : Nat) (za : Option Addr) (zc : Nat) (who wt u ar d h lo : Int) (w : World) (hg : Gr N S T n m ys) (hcr : CsrR w n ys a3 a4 a5 a6 a7 a8) (hok : p.ok n m) (hr : Rd w ra (lv p.rs)) (he : Rd w ea (lv p.es)) (hz : Rd w za (lv p.hs)) (hu0 : 0 ≤ u) (hu1 : u < N) :
    Calls Try.prog 39 #[.agg #[.int .i64 N, .int .i64 S, .int .i64 T, .slice a3 (n + 1) c3, .slice a4 m c4, .slice a5 m c5, .slice a6 m c6, .slice a7 m c7, .slice a8 m c8, .slice ra m rc, .slice ea n ec, .slice za n zc], .agg #[.int .i64 who, .int .u8 wt, .int .i64 u, .int .i64 ar, .int .i64 d, .int .i64 h, .int .i64 lo]] w fun e w' => e = .returned (.int .i64 (pushP ys p ⟨who, wt, u, ar, d, h, lo⟩)) ∧ Kept w w' := by
  have HK := Lib.hid (((Upd.refl (fun _ => False) w).alloc (.cells #[.int .i64 N, .int .i64 S, .int .i64 T, .slice a3 (n + 1) c3, .slice a4 m c4, .slice a5 m c5, .slice a6 m c6, .slice a7 m c7, .slice a8 m c8, .slice ra m rc, .slice ea n ec, .slice za n zc] 73)).alloc (.cells #[.int .i64 who, .int .u8 wt, .int .i64 u, .int .i64 ar, .int .i64 d, .int .i64 h, .int .i64 lo] 39))
  have HB := Lib.hid ((Blk.new w #[.int .i64 N, .int .i64 S, .int .i64 T, .slice a3 (n + 1) c3, .slice a4 m c4, .slice a5 m c5, .slice a6 m c6, .slice a7 m c7, .slice a8 m c8, .slice ra m rc, .slice ea n ec, .slice za n zc] 73).alloc (.cells #[.int .i64 who, .int .u8 wt, .int .i64 u, .int .i64 ar, .int .i64 d, .int .i64 h, .int .i64 lo] 39))
  have HE := Lib.hid (Blk.new (w.alloc (.cells #[.int .i64 N, .int .i64 S, .int .i64 T, .slice a3 (n + 1) c3, .slice a4 m c4, .slice a5 m c5, .slice a6 m c6, .slice a7 m c7, .slice a8 m c8, .slice ra m rc, .slice ea n ec, .slice za n zc] 73)) #[.int .i64 who, .int .u8 wt, .int .i64 u, .int .i64 ar, .int .i64 d, .int .i64 h, .int .i64 lo] 39)
  have hs1 : (w.alloc (.cells #[.int .i64 N, .int .i64 S, .int .i64 T, .slice a3 (n + 1) c3, .slice a4 m c4, .slice a5 m c5, .slice a6 m c6, .slice a7 m c7, .slice a8 m c8, .slice ra m rc, .slice ea n ec, .slice za n zc] 73)).heap.size = w.heap.size + 1 := World.size_alloc _ _
  rw [hs1] at HE
  obtain ⟨V, hV⟩ : ∃ V, pushP ys p ⟨who, wt, u, ar, d, h, lo⟩ = V := ⟨_, rfl⟩
  rw [hV]
  have HV := Lib.hid hV
  clear hV
  obtain ⟨hN, hn2, hn16, hm640, -⟩ := hg.len
  have hok := (show p.rs.length = m ∧ p.es.length = n ∧ p.hs.length = n from hok)
  have HOK := Lib.hid hok
  have HR := Lib.hid (hr.kept HK.out)
  have HZ := Lib.hid (hz.kept HK.out)
  have HX := Lib.hid (he.kept HK.out)
  have HF := Lib.hid (hcr.r3.kept HK.out)
  have HG := Lib.hid hg
  have hNn : (n : Int) = N ∧ n ≤ 16 := by omega
  clear hg hcr hr he hz hok hN hn2 hn16 hm640
  go_enter Try.func39, Try.ntmps39
  go_upto_region 1 with (fail)
  try rw [hs1]
  clear hs1
  generalize ((w.alloc (.cells #[.int .i64 N, .int .i64 S, .int .i64 T, .slice a3 (n + 1) c3, .slice a4 m c4, .slice a5 m c5, .slice a6 m c6, .slice a7 m c7, .slice a8 m c8, .slice ra m rc, .slice ea n ec, .slice za n zc] 73)).alloc (.cells #[.int .i64 who, .int .u8 wt, .int .i64 u, .int .i64 ar, .int .i64 d, .int .i64 h, .int .i64 lo] 39)) = W0 at HK HB HE HR HZ HX HF ⊢
  generalize w.heap.size + 1 = eb at HE ⊢
  generalize w.heap.size = cb at HB ⊢
  have bx := HB.out.cell
  have ex := HE.out.cell
  obtain ⟨un, rfl⟩ : ∃ k : Nat, u = (k : Int) := ⟨u.toNat, by omega⟩
  have hun : un < n := by omega
  obtain ⟨zb, zo, rfl, cz⟩ := HZ.out.num (i := un) (by have := HOK.out; omega)
  obtain ⟨eb0, eo, rfl, ce⟩ := HX.out.num (i := un) (by have := HOK.out; omega)
  obtain ⟨fb, fo, rfl, cf0⟩ := HF.out.at un (by rw [nv_len, firsts_len]; omega)
  obtain ⟨fb', fo', e', cf1⟩ := HF.out.at (un + 1) (by rw [nv_len, firsts_len]; omega)
  cases e'
  rw [firsts_get n ys un (by omega)] at cf0
  rw [firsts_get n ys (un + 1) (by omega)] at cf1
  have hfm : fst ys (un + 1) ≤ m := by rw [← HG.out.hm]; exact fst_mono ys (by omega)
  obtain ⟨xh, hxh⟩ : ∃ x, p.hs.getD un 0 = x := ⟨_, rfl⟩
  obtain ⟨xe, hxe⟩ : ∃ x, p.es.getD un 0 = x := ⟨_, rfl⟩
  rw [hxh] at cz
  rw [hxe] at ce
  have HP : Hid (V = if ar < (fst ys un : Int) ∨ (fst ys (un + 1) : Int) ≤ ar then 2 else if d < 1 ∨ xe < d ∨ p.rs.getD ar.toNat 0 < d ∨ h ≠ xh ∨ h ≤ lo then 30 else 0) := Lib.hid (by
    rw [← HV.out]; unfold pushP; simp only [Int.toNat_natCast, hxh, hxe])
  generalize fst ys un = f0 at cf0 HP
  generalize fst ys (un + 1) = f1 at cf1 hfm HP
  have i1 : (un : Int) < (n : Int) := by omega
  have i2 : (0 : Int) ≤ (un : Int) := by omega
  have i3 : ((un + 1 : Nat) : Int) < ((n + 1 : Nat) : Int) := by omega
  have i4 : (0 : Int) ≤ ((un + 1 : Nat) : Int) := by omega
  have i5 : (un : Int) < ((n + 1 : Nat) : Int) := by omega
  have hw2 : wrap64 ((un : Int) + 1) = ((un + 1 : Nat) : Int) := by unfold wrap64; omega
  have hw3 : IntKind.i64.wrap ((un : Int) + 1) = ((un + 1 : Nat) : Int) := by rw [IntKind.wrap_i64]; omega
  have HRL := Lib.hid HOK.out.1
  have HFM := Lib.hid hfm
  clear HG HZ HX HF HV hxh hxe hNn HOK hu0 hu1 hfm hun
  by_cases q1 : ar < (f0 : Int)
  · have b1 : decide (ar < (f0 : Int)) = true := by simpa using q1
    refine wp_region_kept (by kernel_rfl) (by kernel_rfl) ?_
    repeat (go_big_quiet_step (fail))
    refine wpQuiet_nil ?_
    intro w2 hk1
    have HQ := Lib.hid hk1
    have HK1 := Lib.hid (HK.out.trans hk1)
    clear hk1 HK
    go_wp2_with fail
    go_ret
    exact ⟨by rw [HP.out, if_pos (Or.inl q1)]; rfl, HK1.out⟩
  · have b1 : decide (ar < (f0 : Int)) = false := by simpa using q1
    by_cases q2 : (f1 : Int) ≤ ar
    · have b2 : decide ((f1 : Int) ≤ ar) = true := by simpa using q2
      refine wp_region_kept (by kernel_rfl) (by kernel_rfl) ?_
      repeat (go_big_quiet_step (fail))
      refine wpQuiet_nil ?_
      intro w2 hk1
      have HQ := Lib.hid hk1
      have HK1 := Lib.hid (HK.out.trans hk1)
      clear hk1 HK
      go_wp2_with fail
      go_ret
      exact ⟨by rw [HP.out, if_pos (Or.inr q2)]; rfl, HK1.out⟩
    · have b2 : decide ((f1 : Int) ≤ ar) = false := by simpa using q2
      have HP2 : V = if d < 1 ∨ xe < d ∨ p.rs.getD ar.toNat 0 < d ∨ h ≠ xh ∨ h ≤ lo then 30 else 0 := HP.out.trans (if_neg (by omega))
      obtain ⟨an, rfl⟩ : ∃ k : Nat, ar = (k : Int) := ⟨ar.toNat, by omega⟩
      have ham : an < m := by have := HFM.out; omega
      obtain ⟨rb, ro, rfl, cr⟩ := HR.out.num (i := an) (by have := HRL.out; omega)
      obtain ⟨xr, hxr⟩ : ∃ x, p.rs.getD an 0 = x := ⟨_, rfl⟩
      rw [hxr] at cr
      have HP : Hid (V = if d < 1 ∨ xe < d ∨ xr < d ∨ h ≠ xh ∨ h ≤ lo then 30 else 0) := Lib.hid (by rw [HP2]; simp only [Int.toNat_natCast, hxr])
      obtain ⟨mn, hmn⟩ : ∃ q, (if xr < xe then xr else xe) = q := ⟨_, rfl⟩
      have HMN : Hid (mn < d → (d < 1 ∨ xe < d ∨ xr < d)) := Lib.hid (by rw [← hmn]; split <;> omega)
      have HMN2 : Hid (¬ mn < d → (¬ xe < d ∧ ¬ xr < d)) := Lib.hid (by rw [← hmn]; split <;> omega)
      have i6 : (an : Int) < (m : Int) := by omega
      have i7 : (0 : Int) ≤ (an : Int) := by omega
      clear hxr HFM HRL HR HP2
      refine wp_region_kept (by kernel_rfl) (by kernel_rfl) ?_
      repeat (go_big_quiet_step (fail))
      refine wpQuiet_nil ?_
      intro w2 hk1
      have HQ := Lib.hid hk1
      have HK1 := Lib.hid (HK.out.trans hk1)
      clear hk1 HK
      have HK := HK1
      have cz1 := (keptCells HQ.out _ (by rw [cz]; rfl)).trans cz
      have ce1 := (keptCells HQ.out _ (by rw [ce]; rfl)).trans ce
      have cr1 := (keptCells HQ.out _ (by rw [cr]; rfl)).trans cr
      have HB1 := Lib.hid (HB.out.kept HQ.out)
      have HE1 := Lib.hid (HE.out.kept HQ.out)
      clear bx ex cz ce cr cf0 cf1 HB HE HQ HK1 q1 q2 b1 b2
      have bx := HB1.out.cell
      have ex := HE1.out.cell
      go_upto_region 3 with (fail)
      by_cases p1 : d < 1
      · have d1 : decide (d < 1) = true := by simpa using p1
        refine wp_region_kept (by kernel_rfl) (by kernel_rfl) ?_
        repeat (go_big_quiet_step (fail))
        refine wpQuiet_nil ?_
        intro w2 hk1
        have HQ := Lib.hid hk1
        have HK1 := Lib.hid (HK.out.trans hk1)
        clear hk1 HK
        go_wp2_with fail
        go_ret
        exact ⟨by rw [HP.out, if_pos (Or.inl p1)]; rfl, HK1.out⟩
      · have d1 : decide (d < 1) = false := by simpa using p1
        by_cases p2 : mn < d
        · have d2 : decide (mn < d) = true := by simpa using p2
          refine wp_region_kept (by kernel_rfl) (by kernel_rfl) ?_
          repeat (go_big_quiet_step (fail))
          refine wpQuiet_nil ?_
          intro w2 hk1
          have HQ := Lib.hid hk1
          have HK1 := Lib.hid (HK.out.trans hk1)
          clear hk1 HK
          go_wp2_with fail
          go_ret
          exact ⟨by have := HMN.out p2; rw [HP.out, if_pos (by omega)]; rfl, HK1.out⟩
        · have d2 : decide (mn < d) = false := by simpa using p2
          by_cases p3 : h = xh
          · have d3 : (h != xh) = false := by simpa using p3
            by_cases p4 : h ≤ lo
            · have d4 : decide (h ≤ lo) = true := by simpa using p4
              refine wp_region_kept (by kernel_rfl) (by kernel_rfl) ?_
              repeat (go_big_quiet_step (fail))
              refine wpQuiet_nil ?_
              intro w2 hk1
              have HQ := Lib.hid hk1
              have HK1 := Lib.hid (HK.out.trans hk1)
              clear hk1 HK
              go_wp2_with fail
              go_ret
              exact ⟨by rw [HP.out, if_pos (by omega)]; rfl, HK1.out⟩
            · have d4 : decide (h ≤ lo) = false := by simpa using p4
              refine wp_region_kept (by kernel_rfl) (by kernel_rfl) ?_
              repeat (go_big_quiet_step (fail))
              refine wpQuiet_nil ?_
              intro w2 hk1
              have HQ := Lib.hid hk1
              have HK1 := Lib.hid (HK.out.trans hk1)
              clear hk1 HK
              go_wp2_with fail
              go_ret
              exact ⟨by have := HMN2.out p2; rw [HP.out, if_neg (by omega)]; rfl, HK1.out⟩
          · have d3 : (h != xh) = true := by simpa using p3
            refine wp_region_kept (by kernel_rfl) (by kernel_rfl) ?_
            repeat (go_big_quiet_step (fail))
            refine wpQuiet_nil ?_
            intro w2 hk1
            have HQ := Lib.hid hk1
            have HK1 := Lib.hid (HK.out.trans hk1)
            clear hk1 HK
            go_wp2_with fail
            go_ret
            exact ⟨by rw [HP.out, if_pos (by omega)]; rfl, HK1.out⟩
end Go.Proofs.Ytdhimfkmgcfohaa
