/- acequiaref05.Way (printed by gen_refway.py). -/
import Derived.Test.YtoapekkmaajfmaaRefNo
namespace Go.Proofs.Ytoapekkmaajfmaa
set_option linter.unusedVariables false
set_option linter.unusedSimpArgs false
open Go.RowKit
attribute [local go_sem] cell?_ext

theorem wrap_dn (x : Nat) (h : x ≤ 1000) : wrap64 (((x + 1 : Nat) : Int) - 1) = (x : Int) := by unfold wrap64; omega
theorem wrap_dn' (x : Nat) (h : x ≤ 1000) : IntKind.i64.wrap (((x + 1 : Nat) : Int) - 1) = (x : Int) := by rw [IntKind.wrap_i64]; omega
theorem wrap_at (x : Nat) (h : x ≤ 1000) : wrap64 (x : Int) = (x : Int) := by unfold wrap64; omega
theorem wrap_at' (x : Nat) (h : x ≤ 1000) : IntKind.i64.wrap (x : Int) = (x : Int) := by rw [IntKind.wrap_i64]; omega
set_option maxHeartbeats 4000000 in
theorem refWay_ok (N S T : Int) (n m : Nat) (a3 a4 a5 a6 a7 a8 : Option Addr) (c3 c4 c5 c6 c7 c8 : Nat) (ys : List Ar) (ra : Option Addr) (rc : Nat) (rs : List Int) (s t : Nat) (w : World) (hg : Gr N S T n m ys) (hcr : CsrR w n ys a3 a4 a5 a6 a7 a8) (hr : Rd w ra (lv rs)) (hm : rs.length = m) (hs : s < n) (ht : t < n) :
    Calls Try.prog 17 #[.agg #[.int .i64 N, .int .i64 S, .int .i64 T, .slice a3 (n + 1) c3, .slice a4 m c4, .slice a5 m c5, .slice a6 m c6, .slice a7 m c7, .slice a8 m c8], .slice ra m rc, .int .i64 s, .int .i64 t] w (WayEnd n m ys rs s t w) := by
  have HK := Lib.hid ((Upd.refl (fun _ => False) w).alloc (.cells #[.int .i64 N, .int .i64 S, .int .i64 T, .slice a3 (n + 1) c3, .slice a4 m c4, .slice a5 m c5, .slice a6 m c6, .slice a7 m c7, .slice a8 m c8] 29))
  have HB := Lib.hid (Blk.new w #[.int .i64 N, .int .i64 S, .int .i64 T, .slice a3 (n + 1) c3, .slice a4 m c4, .slice a5 m c5, .slice a6 m c6, .slice a7 m c7, .slice a8 m c8] 29)
  obtain ⟨hnN, hn2, hn16, hm6, -⟩ := hg.len
  have HT := fun (w' : World) (k : Kept w w') => Lib.hid (refTo_ok N S T n m a3 a4 a5 a6 a7 a8 c3 c4 c5 c6 c7 c8 ys ra rc rs t w' hg (hcr.kept k) (hr.kept k) hm ht)
  have HOP := fun (u a : Nat) (z : Bool) (w' : World) (k : Kept w w') (hu : u < n) (h1 : fst ys u ≤ a) (h2 : a < fst ys (u + 1)) (hz : decide (0 < rs.getD a 0) = z) => Lib.hid (open_any N S T n m a3 a4 a5 a6 a7 a8 c3 c4 c5 c6 c7 c8 ys ra rc rs u a z w' hg (hcr.kept k) (hr.kept k) hm hu h1 h2 hz)
  have HG := Lib.hid hg
  have HCR := Lib.hid hcr
  clear hg hcr hr hm
  subst hnN
  obtain ⟨b3, o3, e3, -⟩ := HCR.out.r3.at 0 (by rw [nv_len, firsts_len]; omega)
  subst e3
  have HF1 : Hid (∀ u, u < n → ∀ w', Kept w w' → w'.cell? ⟨b3, o3 + u, none⟩ = some (.int .i64 (fst ys u : Nat))) := Lib.hid (fun u hu w' k => by
    obtain ⟨b, o, e, h1⟩ := (HCR.out.kept k).r3.at u (by rw [nv_len, firsts_len]; omega)
    cases e
    rw [firsts_get n ys _ (by omega)] at h1
    exact h1)
  go_enter Try.func17, Try.ntmps17
  go_upto_region 1 with (fail)
  generalize (w.alloc (.cells #[.int .i64 n, .int .i64 S, .int .i64 T, .slice (some ⟨b3, o3, none⟩) (n + 1) c3, .slice a4 m c4, .slice a5 m c5, .slice a6 m c6, .slice a7 m c7, .slice a8 m c8] 29)) = W0 at HK HB ⊢
  generalize w.heap.size = cb at HB ⊢
  have bx := HB.out.cell
  go_wp2_with fail
  refine (HT _ HK.out).out.mono ?_
  rintro e W2 ⟨db, dc, d, rfl, hd0, hd2, hk2⟩
  have HD := Lib.hid hd0
  have HI := Lib.hid hd2
  have HB2 := Lib.hid (HB.out.kept hk2)
  have HK2 := Lib.hid (HK.out.trans hk2)
  have HDL : Hid (d.length = n) := Lib.hid hd2.len
  clear hd0 hd2 hk2 HB HK HT bx
  have HDC : Hid (∀ w', Kept W2 w' → ∀ v, v < n → w'.cell? ⟨db, v, none⟩ = some (.int .i64 (d.getD v 0 : Nat))) := Lib.hid (fun w' k v hv => by
    obtain ⟨b, o, e, h⟩ := (HD.out.kept k).at v (by rw [nv_len, HDL.out]; exact hv)
    cases e
    rw [nv_get (by rw [HDL.out]; exact hv)] at h
    simpa using h)
  have bx := HB2.out.cell
  have dc0 := HDC.out W2 (Upd.refl _ _) s hs
  obtain ⟨y, hy⟩ : ∃ y, d.getD s 0 = y := ⟨_, rfl⟩
  rw [hy] at dc0
  have HY := Lib.hid hy
  have hn0 : ((n : Int) == 0) = false := by simp; omega
  have hn1 : (n == 0) = false := by simp; omega
  have j0 : ¬ (s : Int) < 0 := by omega
  have j1 : decide ((s : Int) < 0) = false := decide_eq_false j0
  have j2 : ¬ (n : Int) ≤ (s : Int) := by omega
  have j3 : decide ((n : Int) ≤ (s : Int)) = false := decide_eq_false j2
  have j2n : ¬ n ≤ s := by omega
  have j3n : decide (n ≤ s) = false := decide_eq_false j2n
  have j4 : (0 : Int) ≤ (s : Int) := by omega
  have j5 : (s : Int) < (n : Int) := by omega
  have hyn : y ≤ n := by rw [← hy]; exact HI.out.le s hs
  clear hy
  by_cases hyy : y = n
  · have z1 : ((y : Int) == (n : Int)) = true := by simp [hyy]
    have HYN := Lib.hid hyy
    clear hyy
    go_upto_region 2 with (fail)
    refine wp_region_kept (by kernel_rfl) (by kernel_rfl) ?_
    repeat (go_big_quiet_step (fail))
    refine wpQuiet_nil ?_
    intro w1 hk1
    have HKZ : Hid (Kept w w1) := Lib.hid (HK2.out.trans hk1)
    clear hk1 bx dc0
    go_wp2_with fail
    go_ret2
    exact ⟨d, [], none, 0, 0, false, rfl, rfl, .inl rfl, HI.out, fun _ => ⟨rfl, by rw [HY.out]; exact HYN.out⟩, fun h => (by cases h), HKZ.out⟩
  · have z1 : ((y : Int) == (n : Int)) = false := by simp; omega
    have hylt : y < n := by omega
    clear hyy
    go_upto_region 2 with (fail)
    refine wp_region_kept (by kernel_rfl) (by kernel_rfl) ?_
    repeat (go_big_quiet_step (fail))
    refine wpQuiet_nil ?_
    intro w1 hk1
    have HK3 := Lib.hid (HK2.out.trans hk1)
    have HB3 := Lib.hid (HB2.out.kept hk1)
    have HDC3 : Hid (∀ w', Kept w1 w' → ∀ v, v < n → w'.cell? ⟨db, v, none⟩ = some (.int .i64 (d.getD v 0 : Nat))) := Lib.hid (fun w' k => HDC.out w' (hk1.trans k))
    have HWS := Lib.hid (And.intro (WayS.nil n m ys rs s) (show WayL n m ys rs d s [] from fun i h => by simp at h))
    have HRW := Lib.hid (World.ownsRow_nil w1 w1.heap.size 3 1)
    have HKK := Lib.hid (Upd.refl (fun _ => False) w1)
    clear hk1 bx dc0 HB2 HD HK2 HDC
    go_upto_region 6 with (fail)
    go_loopw [11, 12] (fun ox ux wr => ∃ (ws : List Nat) (u : Nat) (a : Option Addr) (k c : Nat), ox = .slice a k c ∧ ux = .int .i64 u ∧ u < n ∧ k ≤ n ∧ Hid (ws.length = k) ∧ Hid (Kept w1 wr) ∧ Hid (wr.ownsRow w1.heap.size 3 1 (.slice a k c) k (nv ws)) ∧ Hid (WayS n m ys rs s u ws ∧ WayL n m ys rs d s ws) ∧ Hid (d.getD u 0 + k = y)) (fun _ ux _ => d.getD (intOf ux).toNat 0)
    case atStart => exact ⟨[], s, none, 0, 0, rfl, rfl, hs, by omega, Lib.hid rfl, HKK, HRW, HWS, Lib.hid (by have := HY.out; omega)⟩
    case round =>
      clear HKK HRW HWS
      obtain ⟨ws, u, a, k, c, rfl, rfl, hun, hkn, HWL, HKK, HRW, HWS, HDU⟩ := hrel
      by_cases hut : u = t
      · have z2 : ((u : Int) != (t : Int)) = false := by simp [hut]
        have HE : Hid ((WayS n m ys rs s t ws ∧ WayL n m ys rs d s ws) ∧ k = y) := Lib.hid (by
          have h1 := HWS.out
          have h2 := HDU.out
          rw [hut] at h1 h2
          rw [HI.out.src] at h2
          exact ⟨h1, by omega⟩)
        have HKZ := Lib.hid (HK3.out.trans HKK.out)
        obtain ⟨a', c', e9, hrd⟩ := Rd.owns HRW.out
        cases e9
        have HRD := Lib.hid hrd
        clear hrd hut HWS HRW
        go_wp2_with fail
        go_ret2
        exact ⟨d, ws, a, k, c, true, rfl, HWL.out, HRD.out, HI.out, fun h => (by cases h), fun _ => ⟨by rw [HY.out]; exact hylt, by rw [HY.out]; exact HE.out.2, HE.out.1.1, HE.out.1.2⟩, HKZ.out⟩
      · have z2 : ((u : Int) != (t : Int)) = true := by simp; omega
        have hnx : ∃ a, Nr n m ys rs d u a := by
          have hdu : d.getD u 0 ≤ y := by have := HDU.out; omega
          obtain ⟨v, hv, ⟨a, ha, h1, h2, h3⟩, h4⟩ := HI.out.par u hun hut (by omega)
          exact ⟨a, ha, h1, h3, by rw [h2]; omega⟩
        obtain ⟨w0, hw0⟩ := Nr1.least hnx
        have HW0 := Lib.hid hw0
        have hfm : fst ys (u + 1) ≤ m := by have := HG.out.hm; have := fst_mono ys (show u + 1 ≤ n by omega); unfold fst at *; omega
        have hwb : fst ys u ≤ w0 ∧ w0 < fst ys (u + 1) := by
          obtain ⟨t1, t2, t3⟩ := tl_at ys w0 n (by have := HG.out.hm; have := hw0.1.1; unfold fst; omega)
          rw [hw0.1.2.1] at t2 t3
          exact ⟨t2, t3⟩
        obtain ⟨e, he⟩ : ∃ e, d.getD u 0 = e + 1 := ⟨d.getD u 0 - 1, by have := hw0.1.2.2.2; omega⟩
        have he16 : e ≤ 1000 := by have := HDU.out; omega
        have HE1 := Lib.hid he
        have hfu := HF1.out u hun wr (HK3.out.trans HKK.out)
        have HOU := fun (a : Nat) (z : Bool) (w' : World) (k : Kept w w') (h1 : fst ys u ≤ a) (h2 : a < fst ys (u + 1)) (hz : decide (0 < rs.getD a 0) = z) => HOP u a z w' k hun h1 h2 hz
        obtain ⟨q, hq⟩ : ∃ q, fst ys u = q := ⟨_, rfl⟩
        obtain ⟨q', hq'⟩ : ∃ q', fst ys (u + 1) = q' := ⟨_, rfl⟩
        rw [hq] at hfu hwb
        rw [hq, hq'] at HOU
        rw [hq'] at hfm hwb
        have HQ : Hid (fst ys u = q ∧ fst ys (u + 1) = q') := Lib.hid ⟨hq, hq'⟩
        have bx := (HB3.out.kept HKK.out).cell
        have k1 : (0 : Int) ≤ (u : Int) := by omega
        have k2 : (u : Int) < (n : Int) + 1 := by omega
        have k3 : (u : Int) < (n : Int) := by omega
        obtain ⟨hwb1, hwb2⟩ := hwb
        obtain ⟨wA, rfl⟩ : ∃ wA : World, wA = wr := ⟨_, rfl⟩
        have HE16 := Lib.hid he16
        clear hut hnx hw0 he hq hq'
        go_upto_region 8 with (fail)
        clear bx hfu
        go_loopw [13] (fun ax wr => ∃ a : Nat, ax = .int .i64 a ∧ q ≤ a ∧ a ≤ w0 ∧ Hid (Kept wA wr)) (fun ax _ => w0 - (intOf ax).toNat)
        case atStart => exact ⟨q, rfl, by omega, hwb1, Lib.hid (Upd.refl _ _)⟩
        case round =>
          obtain ⟨a, rfl, ha0, ha1, HKA⟩ := hrel
          have ham : a < m := by omega
          have htl : tl ys n a = u := tl_of ys a u (by rw [HQ.out.1]; exact ha0) (by rw [HQ.out.2]; omega) n hun
          obtain ⟨x, hx⟩ : ∃ x, hd n ys a = x := ⟨_, rfl⟩
          have hxn : x < n := by rw [← hx]; exact (hd_get HG.out a ham).2
          have HKW := Lib.hid (HKK.out.trans HKA.out)
          obtain ⟨b4, o4, rfl, hc4⟩ := (HCR.out.kept (HK3.out.trans HKW.out)).r4.at a (by rw [show (hv (enAll n ys)).length = (enAll n ys).length by simp [hv], HG.out.hm]; exact ham)
          rw [(hd_get HG.out a ham).1, hx] at hc4
          have HC4B : Hid (∀ w', Kept w1 w' → w'.cell? ⟨b4, o4 + a, none⟩ = some (.int .i64 (x : Nat))) := Lib.hid (fun w' k' => by
            obtain ⟨b4', o4', e, h⟩ := (HCR.out.kept (HK3.out.trans k')).r4.at a (by rw [show (hv (enAll n ys)).length = (enAll n ys).length by simp [hv], HG.out.hm]; exact ham)
            cases e
            rwa [(hd_get HG.out a ham).1, hx] at h)
          have bx := (HB3.out.kept HKW.out).cell
          have dcu := HDC3.out wr HKW.out u hun
          have dcx := HDC3.out wr HKW.out x hxn
          rw [HE1.out] at dcu
          obtain ⟨dx, hdx⟩ : ∃ y, d.getD x 0 = y := ⟨_, rfl⟩
          rw [hdx] at dcx
          have l0 : (0 : Int) ≤ (a : Int) := by omega
          have l1 : (a : Int) < (m : Int) := by omega
          have l2 : (0 : Int) ≤ (x : Int) := by omega
          have l3 : (x : Int) < (n : Int) := by omega
          have ha16 : (a : Int) ≤ 1000 := by omega
          have HXX := Lib.hid (And.intro htl (And.intro hx hdx))
          by_cases hr0 : 0 < rs.getD a 0
          · have hst : e ≤ dx := by
              have := HI.out.step x u hxn hun ⟨a, ham, htl, hx, hr0⟩
              rw [HE1.out, hdx] at this
              omega
            have HO := fun (w' : World) (k : Kept w w') => HOU a true w' k ha0 (by omega) (decide_eq_true hr0)
            by_cases hde : dx = e
            · have n1 : ((dx : Int) != (e : Int)) = false := by simp [hde]
              have n2 : (dx != e) = false := by simp [hde]
              have hg1 : Nr n m ys rs d u a := ⟨ham, htl, hr0, by rw [hx, HE1.out, hdx]; omega⟩
              have haw : a = w0 := by
                rcases Nat.lt_or_ge a w0 with h | h
                · exact absurd hg1 (HW0.out.2 a h)
                · omega
              have HB1 : Hid (Nr1 n m ys rs d u a) := Lib.hid (by rw [haw]; exact HW0.out)
              have HDX : Hid (d.getD x 0 + (k + 1) = y) := Lib.hid (by have h1 := HDU.out; rw [HE1.out] at h1; rw [hdx, hde]; omega)
              have HMS : Hid (d.getD x 0 < d.getD u 0) := Lib.hid (by rw [hdx, hde, HE1.out]; omega)
              have HW2 : Hid (WayS n m ys rs s x (ws ++ [a]) ∧ WayL n m ys rs d s (ws ++ [a])) := Lib.hid (by rw [← hx]; exact ⟨HWS.out.1.push ham hr0 htl, HWS.out.2.push HWS.out.1.end_ HB1.out⟩)
              have hk1n : k + 1 ≤ n := by have := HDX.out; omega
              clear htl hx hdx hr0 hg1 haw hst hde HOU
              have s1 : wrap64 (((e + 1 : Nat) : Int) - 1) = (e : Int) := wrap_dn e HE16.out
              have s2 : wrap64 ((e : Int) + 1 - 1) = (e : Int) := wrap_dn e HE16.out
              have s3 : IntKind.i64.wrap (((e + 1 : Nat) : Int) - 1) = (e : Int) := wrap_dn' e HE16.out
              have s4 : IntKind.i64.wrap ((e : Int) + 1 - 1) = (e : Int) := wrap_dn' e HE16.out
              have s5 : wrap64 (e : Int) = (e : Int) := wrap_at e HE16.out
              have s6 : IntKind.i64.wrap (e : Int) = (e : Int) := wrap_at' e HE16.out
              go_upto_region 8 with (fail)
              refine wp_region_kept (by kernel_rfl) (by kernel_rfl) ?_
              repeat (go_big_quiet_step ((go_at_call 32; exact kept_call (HO _ ((HK3.out.trans HKW.out).trans (kept_ext _ _))).out)))
              refine wpQuiet_nil ?_
              intro w4 hk4
              have HK5 := Lib.hid (HKW.out.trans hk4)
              have HR5 := Lib.hid (ownsRow_upd HRW.out (HKA.out.trans hk4) (fun _ _ f => f))
              clear hk4 bx HKK HRW HWS HDU HO hc4 dcu dcx s1 s2 s3 s4 s5 s6
              obtain ⟨i0', hi0, hz0, hz1, hz2⟩ := info_parts infoInt
              have hxl : k ≤ 2000000 := by omega
              have hbs := HK5.out.size
              have ho := HR5.out
              have HB4 := Lib.hid (HB3.out.kept HK5.out)
              go_upto_region 11 with (first | (at_builtin; refine wpList_push rfl _ _ 27 rfl w1.heap.size 3 i0' (.int .i64 0) 8 Try.underlying27 hi0 hz0 hz1 hz2 rfl (by decide) _ _ _ rfl ho (.int .i64 (a : Int)) rfl rfl hxl hbs ?_; intro g cap' w5 hown hg2; clear hi0 hz0 hz1 hz2 hxl hbs; have HK6 := Lib.hid (hg2.kept HK5.out ho (Nat.le_refl _)); have HR6 := Lib.hid hown; clear hown hg2 ho HR5 HK5) | fail)
              have bx := (HB3.out.kept HK6.out).cell
              have hc4 := HC4B.out _ HK6.out
              go_wp2_with fail
              go_roundw
              case rel => exact ⟨ws ++ [a], x, _, k + 1, _, rfl, rfl, hxn, hk1n, Lib.hid (by rw [List.length_append, HWL.out]; rfl), HK6, Lib.hid (by rw [show nv (ws ++ [a]) = nv ws ++ [.int .i64 (a : Int)] by simp [nv]]; exact HR6.out), HW2, HDX⟩
              case measure => simp [intOf]; exact HMS.out
            · have n1 : ((dx : Int) != (e : Int)) = true := by simp; omega
              have n2 : (dx != e) = true := by simpa using hde
              have haw : a + 1 ≤ w0 := by
                rcases Nat.lt_or_ge a w0 with h | h
                · exact h
                · exfalso
                  have e1 : w0 = a := by omega
                  have h2 := HW0.out.1.2.2.2
                  rw [e1, hx, HE1.out, hdx] at h2
                  omega
              have HAW := Lib.hid haw
              clear htl hx hdx hr0 hst hde haw
              have s1 : wrap64 (((e + 1 : Nat) : Int) - 1) = (e : Int) := wrap_dn e HE16.out
              have s2 : wrap64 ((e : Int) + 1 - 1) = (e : Int) := wrap_dn e HE16.out
              have s3 : IntKind.i64.wrap (((e + 1 : Nat) : Int) - 1) = (e : Int) := wrap_dn' e HE16.out
              have s4 : IntKind.i64.wrap ((e : Int) + 1 - 1) = (e : Int) := wrap_dn' e HE16.out
              have s5 : wrap64 (e : Int) = (e : Int) := wrap_at e HE16.out
              have s6 : IntKind.i64.wrap (e : Int) = (e : Int) := wrap_at' e HE16.out
              go_upto_region 8 with (fail)
              refine wp_region_kept (by kernel_rfl) (by kernel_rfl) ?_
              repeat (go_big_quiet_step ((go_at_call 32; exact kept_call (HO _ ((HK3.out.trans HKW.out).trans (kept_ext _ _))).out)))
              refine wpQuiet_nil ?_
              intro w4 hk4
              have HKZ := Lib.hid (HKA.out.trans hk4)
              clear hk4 bx hc4 dcu dcx s1 s2 s3 s4 s5 s6
              go_wp2_with fail
              go_roundw
              case rel => exact ⟨a + 1, by go_num, by omega, HAW.out, HKZ⟩
              case measure => have := HAW.out; simp [intOf]; omega
          · have HO := fun (w' : World) (k : Kept w w') => HOU a false w' k ha0 (by omega) (decide_eq_false hr0)
            have haw : a + 1 ≤ w0 := by
              rcases Nat.lt_or_ge a w0 with h | h
              · exact h
              · exfalso
                have e1 : w0 = a := by omega
                have h2 := HW0.out.1.2.2.1
                rw [e1] at h2
                exact hr0 h2
            have HAW := Lib.hid haw
            clear htl hx hdx hr0 haw
            go_upto_region 8 with (fail)
            refine wp_region_kept (by kernel_rfl) (by kernel_rfl) ?_
            repeat (go_big_quiet_step ((go_at_call 32; exact kept_call (HO _ ((HK3.out.trans HKW.out).trans (kept_ext _ _))).out)))
            refine wpQuiet_nil ?_
            intro w4 hk4
            have HKZ := Lib.hid (HKA.out.trans hk4)
            clear hk4 bx hc4 dcu dcx
            go_wp2_with fail
            go_roundw
            case rel => exact ⟨a + 1, by go_num, by omega, HAW.out, HKZ⟩
            case measure => have := HAW.out; simp [intOf]; omega
end Go.Proofs.Ytoapekkmaajfmaa
