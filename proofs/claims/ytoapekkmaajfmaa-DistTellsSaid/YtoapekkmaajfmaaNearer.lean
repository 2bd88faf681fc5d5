/- dist.nearer (printed by gen_nearer.py). -/
import Derived.Test.YtoapekkmaajfmaaDistTo
import Derived.Deep.CutRange
namespace Go.Proofs.Ytoapekkmaajfmaa
set_option linter.unusedVariables false
set_option linter.unusedSimpArgs false
open Go.RowKit
attribute [local go_sem] cell?_ext

set_option maxHeartbeats 4000000 in
/-- Of a vertex from which there is a nearer one, an arc that leads nearer, no later than a given one. -/
theorem nearer_le (N S T : Int) (n m : Nat) (a3 a4 a5 a6 a7 a8 : Option Addr) (c3 c4 c5 c6 c7 c8 : Nat) (ys : List Ar) (ra : Option Addr) (rc : Nat) (rs : List Int) (db : Nat) (d : List Nat) (u w0 : Nat) (w : World) (hg : Gr N S T n m ys) (hcr : CsrR w n ys a3 a4 a5 a6 a7 a8) (hr : Rd w ra (lv rs)) (hm : rs.length = m) (hdr : Rd w (some ⟨db, 0, none⟩) (nv d)) (hdl : d.length = n) (hu : u < n)
    (hne : w0 < m ∧ tl ys n w0 = u ∧ 0 < rs.getD w0 0 ∧ d.getD (Go.Proofs.Ytoapekkmaajfmaa.hd n ys w0) 0 < d.getD u 0) :
    Calls Try.prog 31 #[.agg #[.int .i64 N, .int .i64 S, .int .i64 T, .slice a3 (n + 1) c3, .slice a4 m c4, .slice a5 m c5, .slice a6 m c6, .slice a7 m c7, .slice a8 m c8], .slice ra m rc, .slice (some ⟨db, 0, none⟩) n n, .int .i64 u] w fun e w' => ∃ a : Nat, e = .returned (.int .i64 a) ∧ a < m ∧ tl ys n a = u ∧ 0 < rs.getD a 0 ∧ d.getD (Go.Proofs.Ytoapekkmaajfmaa.hd n ys a) 0 < d.getD u 0 ∧ a ≤ w0 ∧ Kept w w' := by
  have HK := Lib.hid ((Upd.refl (fun _ => False) w).alloc (.cells #[.int .i64 N, .int .i64 S, .int .i64 T, .slice a3 (n + 1) c3, .slice a4 m c4, .slice a5 m c5, .slice a6 m c6, .slice a7 m c7, .slice a8 m c8] 29))
  have HB := Lib.hid (Blk.new w #[.int .i64 N, .int .i64 S, .int .i64 T, .slice a3 (n + 1) c3, .slice a4 m c4, .slice a5 m c5, .slice a6 m c6, .slice a7 m c7, .slice a8 m c8] 29)
  obtain ⟨hnN, hn2, hn16, hm6, -⟩ := hg.len
  have HG := Lib.hid hg
  have HCR := Lib.hid hcr
  have HRR := Lib.hid hr
  have HD := Lib.hid hdr
  have HDL := Lib.hid hdl
  have HRM := Lib.hid hm
  obtain ⟨hw0, hwt, hwr, hwd⟩ := hne
  have HW := Lib.hid (And.intro hw0 (And.intro hwt (And.intro hwr hwd)))
  clear hg hcr hr hdr hdl hm hw0 hwt hwr hwd
  subst hnN
  obtain ⟨b3, o3, e3, -⟩ := HCR.out.r3.at 0 (by rw [nv_len, firsts_len]; omega)
  subst e3
  have HF1 : Hid (∀ w', Kept w w' → w'.cell? ⟨b3, o3 + u, none⟩ = some (.int .i64 (fst ys u : Nat)) ∧ w'.cell? ⟨b3, o3 + (u + 1), none⟩ = some (.int .i64 (fst ys (u + 1) : Nat))) := Lib.hid (fun w' k => by
    obtain ⟨b, o, e, h1⟩ := (HCR.out.kept k).r3.at u (by rw [nv_len, firsts_len]; omega)
    obtain ⟨b', o', e', h2⟩ := (HCR.out.kept k).r3.at (u + 1) (by rw [nv_len, firsts_len]; omega)
    cases e
    cases e'
    rw [firsts_get n ys _ (by omega)] at h1 h2
    exact ⟨h1, h2⟩)
  have hfm : fst ys u ≤ fst ys (u + 1) ∧ fst ys (u + 1) ≤ m := ⟨fst_mono ys (by omega), by have := HG.out.hm; have := fst_mono ys (show u + 1 ≤ n by omega); unfold fst at *; omega⟩
  obtain ⟨q, hq⟩ : ∃ q, fst ys u = q := ⟨_, rfl⟩
  obtain ⟨q', hq'⟩ : ∃ q', fst ys (u + 1) = q' := ⟨_, rfl⟩
  rw [hq, hq'] at HF1 hfm
  have HQ : Hid (fst ys u = q ∧ fst ys (u + 1) = q') := Lib.hid ⟨hq, hq'⟩
  have HWB : Hid (q ≤ w0 ∧ w0 < q') := Lib.hid (by
    obtain ⟨t1, t2, t3⟩ := tl_at ys w0 n (by have := HG.out.hm; have := HW.out.1; unfold fst; omega)
    rw [HW.out.2.1] at t2 t3
    omega)
  clear hq hq'
  have hu16 : u ≤ 1000 := by omega
  have hv0 := wrap_up u hu16
  have hv1 := wrap_up' u hu16
  have i6 : ((u + 1 : Nat) : Int) < ((n : Int) + 1) := by omega
  have i7 : (0 : Int) ≤ ((u + 1 : Nat) : Int) := by omega
  have i8 : (0 : Int) ≤ (u : Int) := by omega
  have i9 : (u : Int) < ((n : Int) + 1) := by omega
  have i5 : (u : Int) < (n : Int) := by omega
  go_enter Try.func31, Try.ntmps31
  go_upto_region 1 with (fail)
  generalize (w.alloc (.cells #[.int .i64 n, .int .i64 S, .int .i64 T, .slice (some ⟨b3, o3, none⟩) (n + 1) c3, .slice a4 m c4, .slice a5 m c5, .slice a6 m c6, .slice a7 m c7, .slice a8 m c8] 29)) = W0 at HK HB ⊢
  generalize w.heap.size = cb at HB ⊢
  have bx := HB.out.cell
  have fc0 := (HF1.out _ HK.out).1
  have HK1 := Lib.hid (Upd.refl (fun _ => False) W0)
  go_upto_region 2 with (fail)
  clear bx fc0
  go_loopw [9] (fun ax wr => ∃ a : Nat, ax = .int .i64 a ∧ q ≤ a ∧ a ≤ q' ∧ Hid (a ≤ w0) ∧ Hid (Kept W0 wr)) (fun ax _ => q' - (intOf ax).toNat)
  case atStart => exact ⟨q, rfl, by omega, by omega, Lib.hid HWB.out.1, HK1⟩
  case round =>
    clear HK1
    obtain ⟨a, rfl, ha0, ha1, HA, HK1⟩ := hrel
    have bx := (HB.out.kept HK1.out).cell
    obtain ⟨fc0, fc1⟩ := HF1.out _ (HK.out.trans HK1.out)
    have hlt : a < q' := by have := HA.out; have := HWB.out; omega
    have ham : a < m := by omega
    have htl : tl ys n a = u := tl_of ys a u (by rw [HQ.out.1]; exact ha0) (by rw [HQ.out.2]; exact hlt) n hu
    obtain ⟨b6, o6, rfl, rc0⟩ := (HRR.out.kept (HK.out.trans HK1.out)).num (i := a) (by rw [HRM.out]; exact ham)
    obtain ⟨x, hx⟩ : ∃ x, hd n ys a = x := ⟨_, rfl⟩
    have hxn : x < n := by rw [← hx]; exact (hd_get HG.out a ham).2
    obtain ⟨b4, o4, rfl, hc4⟩ := (HCR.out.kept (HK.out.trans HK1.out)).r4.at a (by rw [show (hv (enAll n ys)).length = (enAll n ys).length by simp [hv], HG.out.hm]; exact ham)
    rw [(hd_get HG.out a ham).1, hx] at hc4
    have dcx : wr.cell? ⟨db, x, none⟩ = some (.int .i64 (d.getD x 0 : Nat)) := by
      obtain ⟨b, o, e, h⟩ := (HD.out.kept (HK.out.trans HK1.out)).at x (by rw [nv_len, HDL.out]; exact hxn)
      cases e
      rw [nv_get (by rw [HDL.out]; exact hxn)] at h
      simpa using h
    have dcu : wr.cell? ⟨db, u, none⟩ = some (.int .i64 (d.getD u 0 : Nat)) := by
      obtain ⟨b, o, e, h⟩ := (HD.out.kept (HK.out.trans HK1.out)).at u (by rw [nv_len, HDL.out]; exact hu)
      cases e
      rw [nv_get (by rw [HDL.out]; exact hu)] at h
      simpa using h
    have HEND : Hid (0 < rs.getD a 0 → d.getD x 0 < d.getD u 0 → a < m ∧ tl ys n a = u ∧ 0 < rs.getD a 0 ∧ d.getD (Go.Proofs.Ytoapekkmaajfmaa.hd n ys a) 0 < d.getD u 0) := Lib.hid (fun h1 h2 => ⟨ham, htl, h1, by rw [hx]; exact h2⟩)
    have HNX : Hid (¬ (0 < rs.getD a 0 ∧ d.getD x 0 < d.getD u 0) → a + 1 ≤ w0) := Lib.hid (fun h => by
      have h1 := HA.out
      rcases Nat.lt_or_ge a w0 with h2 | h2
      · exact h2
      · exfalso
        have e : w0 = a := by omega
        have h3 := HW.out
        rw [e, hx] at h3
        exact h ⟨h3.2.2.1, h3.2.2.2⟩)
    obtain ⟨y, hy⟩ : ∃ y, rs.getD a 0 = y := ⟨_, rfl⟩
    obtain ⟨dx, hdx⟩ : ∃ y, d.getD x 0 = y := ⟨_, rfl⟩
    obtain ⟨du, hdu⟩ : ∃ y, d.getD u 0 = y := ⟨_, rfl⟩
    rw [hy] at rc0
    rw [hdx] at dcx
    rw [hdu] at dcu
    have HYX := Lib.hid (And.intro hy (And.intro hdx hdu))
    have j0 : (a : Int) < (q' : Int) := by omega
    have j1 : (0 : Int) ≤ (a : Int) := by omega
    have j2 : (a : Int) < (m : Int) := by omega
    have j3 : (0 : Int) ≤ (x : Int) := by omega
    have j4 : (x : Int) < (n : Int) := by omega
    have ha16 : (a : Int) ≤ 1000 := by omega
    clear hy hdx hdu hx htl
    by_cases c1 : 0 < y
    · have z1 : decide (0 < y) = true := by simpa using c1
      by_cases c2 : dx < du
      · have z2 : decide ((dx : Int) < (du : Int)) = true := by simpa using c2
        have HE := Lib.hid (HEND.out (by rw [HYX.out.1]; exact c1) (by rw [HYX.out.2.1, HYX.out.2.2]; exact c2))
        go_upto_region 4 with (fail)
        refine wp_region_kept (by kernel_rfl) (by kernel_rfl) ?_
        repeat (go_big_quiet_step (fail))
        refine wpQuiet_nil ?_
        intro w1 hk1
        have HKZ := Lib.hid (HK.out.trans (HK1.out.trans hk1))
        clear hk1 bx fc0 fc1 rc0 hc4 dcx dcu
        go_wp2_with fail
        go_ret
        obtain ⟨g1, g2, g3, g4⟩ := HE.out
        exact ⟨a, rfl, g1, g2, g3, g4, HA.out, HKZ.out⟩
      · have z2 : decide ((dx : Int) < (du : Int)) = false := by simp; omega
        have z3 : ¬ dx < du := c2
        have HN : Hid (a + 1 ≤ w0) := Lib.hid (HNX.out (by rw [HYX.out.2.1, HYX.out.2.2]; exact fun h => c2 h.2))
        go_upto_region 4 with (fail)
        refine wp_region_kept (by kernel_rfl) (by kernel_rfl) ?_
        repeat (go_big_quiet_step (fail))
        refine wpQuiet_nil ?_
        intro w1 hk1
        have HKZ := Lib.hid (HK1.out.trans hk1)
        clear hk1 bx fc0 fc1 rc0 hc4 dcx dcu
        go_wp2_with fail
        go_roundw
        case rel => exact ⟨a + 1, by go_num, by omega, by omega, HN, HKZ⟩
        case measure => simp [intOf]; omega
    · have z1 : decide (0 < y) = false := by simpa using c1
      have HN : Hid (a + 1 ≤ w0) := Lib.hid (HNX.out (by rw [HYX.out.1]; exact fun h => c1 h.1))
      go_upto_region 4 with (fail)
      refine wp_region_kept (by kernel_rfl) (by kernel_rfl) ?_
      repeat (go_big_quiet_step (fail))
      refine wpQuiet_nil ?_
      intro w1 hk1
      have HKZ := Lib.hid (HK1.out.trans hk1)
      clear hk1 bx fc0 fc1 rc0 hc4 dcx dcu
      go_wp2_with fail
      go_roundw
      case rel => exact ⟨a + 1, by go_num, by omega, by omega, HN, HKZ⟩
      case measure => simp [intOf]; omega
/-- An arc of a vertex that is open, and leads nearer. -/
def Nr (n m : Nat) (ys : List Ar) (rs : List Int) (d : List Nat) (u a : Nat) : Prop := a < m ∧ tl ys n a = u ∧ 0 < rs.getD a 0 ∧ d.getD (hd n ys a) 0 < d.getD u 0
/-- The least one. -/
def Nr1 (n m : Nat) (ys : List Ar) (rs : List Int) (d : List Nat) (u a : Nat) : Prop := Nr n m ys rs d u a ∧ ∀ b, b < a → ¬ Nr n m ys rs d u b
theorem Nr1.one {n m : Nat} {ys : List Ar} {rs : List Int} {d : List Nat} {u a b : Nat} (h : Nr1 n m ys rs d u a) (h' : Nr1 n m ys rs d u b) : a = b := by
  rcases Nat.lt_trichotomy a b with e | e | e
  · exact absurd h.1 (h'.2 a e)
  · exact e
  · exact absurd h'.1 (h.2 b e)
theorem Nr1.least {n m : Nat} {ys : List Ar} {rs : List Int} {d : List Nat} {u : Nat} (h : ∃ a, Nr n m ys rs d u a) : ∃ a, Nr1 n m ys rs d u a := by
  obtain ⟨a, h1, h2⟩ := exists_least h
  exact ⟨a, h1, fun b hb h3 => absurd (h2 b h3) (by omega)⟩
theorem nearer_ok (N S T : Int) (n m : Nat) (a3 a4 a5 a6 a7 a8 : Option Addr) (c3 c4 c5 c6 c7 c8 : Nat) (ys : List Ar) (ra : Option Addr) (rc : Nat) (rs : List Int) (db : Nat) (d : List Nat) (u : Nat) (w : World) (hg : Gr N S T n m ys) (hcr : CsrR w n ys a3 a4 a5 a6 a7 a8) (hr : Rd w ra (lv rs)) (hm : rs.length = m) (hdr : Rd w (some ⟨db, 0, none⟩) (nv d)) (hdl : d.length = n) (hu : u < n) (hne : ∃ a, Nr n m ys rs d u a) :
    Calls Try.prog 31 #[.agg #[.int .i64 N, .int .i64 S, .int .i64 T, .slice a3 (n + 1) c3, .slice a4 m c4, .slice a5 m c5, .slice a6 m c6, .slice a7 m c7, .slice a8 m c8], .slice ra m rc, .slice (some ⟨db, 0, none⟩) n n, .int .i64 u] w fun e w' => ∃ a : Nat, e = .returned (.int .i64 a) ∧ Nr1 n m ys rs d u a ∧ Kept w w' := by
  obtain ⟨w0, h0, h1⟩ := Nr1.least hne
  refine (nearer_le N S T n m a3 a4 a5 a6 a7 a8 c3 c4 c5 c6 c7 c8 ys ra rc rs db d u w0 w hg hcr hr hm hdr hdl hu h0).mono ?_
  rintro e w' ⟨a, rfl, g1, g2, g3, g4, g5, hk⟩
  exact ⟨a, rfl, ⟨⟨g1, g2, g3, g4⟩, fun b hb h => h1 b (by omega) h⟩, hk⟩
end Go.Proofs.Ytoapekkmaajfmaa
