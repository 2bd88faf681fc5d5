/- The law RepairGreatest (printed by gen_great19.py). -/
import Derived.Test.YticeionjlknlcaaLowered
import Derived.Test.YticeionjlknlcaaAwake19
import Derived.Test.YticeionjlknlcaaLabAt
import Derived.Test.YticeionjlknlcaaGst
import Derived.Test.YticeionjlknlcaaCopyRow
import Derived.Test.YticeionjlknlcaaMapRd
import Derived.Test.YticeionjlknlcaaRowsRd
import Derived.Deep.CutRange
import Derived.StillTailTactics
namespace Go.Proofs.Yticeionjlknlcaa
set_option linter.unusedVariables false
set_option linter.unusedSimpArgs false
open Go.RowKit

attribute [local go_sem] cell?_ext
theorem dn_mem {N S T : Int} {n m : Nat} {ys : List Ar} {rs xs : List Int} {p : Int → Bool} {l : List Nat} (h : dnL N S T n m ys rs xs p = l) (a : Nat) (ha : a ∈ l) : a < m ∧ dnQ S n ys rs xs p a = true := by
  subst h
  unfold dnL at ha
  split at ha
  · rw [List.mem_filter, List.mem_range] at ha
    exact ha
  · cases ha
theorem dec_step {N S T : Int} {n m : Nat} {ys : List Ar} {rs xs : List Int} (hg : Gr N S T n m ys) (hr : rightB N S T xs = true) (a : Nat) (ha : a < m) (hq : dnQ S n ys rs xs (isP true) a = true) :
    tl ys n a < n ∧ (tl ys n a : Int) ≠ S ∧ (tl ys n a : Int) ≠ T ∧ rightB N S T (xs.set (tl ys n a) (xs.getD (tl ys n a) 0 - 1)) = true ∧ (xs.set (tl ys n a) (xs.getD (tl ys n a) 0 - 1)).sum + 1 = xs.sum := by
  obtain ⟨h1, h2, h3, h4⟩ := right_parts.1 hr
  have hl := hg.len
  have ht : tl ys n a < n := (tl_at ys a n (by have := hg.hm; unfold fst; omega)).1
  have hh := (hd_get hg a ha).2
  obtain ⟨-, u1, u2⟩ := rightB_in hr (tl ys n a) (by omega)
  obtain ⟨-, v1, v2⟩ := rightB_in hr (hd n ys a) (by omega)
  obtain ⟨q1, -, q3⟩ := steep_iff.1 hq
  generalize hv : xs.getD (hd n ys a) 0 = y at *
  generalize hu : tl ys n a = u at *
  have hT : (u : Int) ≠ T := by
    intro e
    rw [show T.toNat = u by omega] at h3
    omega
  have hlu : u < xs.length := by omega
  have hnT : u ≠ T.toNat := by omega
  have hnS : u ≠ S.toNat := by omega
  refine ⟨ht, q1, hT, ?_, ?_⟩
  · refine right_parts.2 ⟨by simpa using h1, fun x hx => ?_, ?_, ?_⟩
    · rcases List.mem_or_eq_of_mem_set hx with h | h
      · exact h2 x h
      · omega
    · rw [List.getD_eq_getElem?_getD, List.getElem?_set_ne hnT, ← List.getD_eq_getElem?_getD]; exact h3
    · rw [List.getD_eq_getElem?_getD, List.getElem?_set_ne hnS, ← List.getD_eq_getElem?_getD]; exact h4
  · rw [sum_set _ _ _ hlu]
    omega
/-- What the law looks at. -/
structure GS (wB : World) (hb gb : Nat) (hs gz L : List Int) (la : Option Addr) (wr : World) : Prop where
  kp : Kept wB wr
  h : Blk wr hb (lv hs).toArray 3
  g : Blk wr gb (lv gz).toArray 3
  l : Rd wr la (lv L)
theorem GS.kept {wB : World} {hb gb : Nat} {hs gz L : List Int} {la : Option Addr} {wr w' : World} (h : GS wB hb gb hs gz L la wr) (k : Kept wr w') : GS wB hb gb hs gz L la w' := ⟨h.kp.trans k, h.h.kept k, h.g.kept k, h.l.kept k⟩
theorem GS.put {wB : World} {hb gb : Nat} {hs gz L : List Int} {la : Option Addr} {wr : World} (h : GS wB hb gb hs gz L la wr) (n1 : ¬ hb = gb) (n2 : wB.heap.size ≤ gb) (n3 : ∀ ad, la = some ad → ad.block ≠ gb) (u : Nat) (x : Int) : GS wB hb gb hs (gz.set u x) L la (wr.setCell ⟨gb, u, none⟩ (.int .i64 x)) := by
  refine ⟨h.kp.set n2 _, h.h.other n1 _, ?_, ?_⟩
  · have := h.g.set u (.int .i64 x)
    rwa [show (lv (gz.set u x)).toArray = (lv gz).toArray.setIfInBounds u (.int .i64 x) by simp [lv, List.map_set]]
  · rcases h.l with e | ⟨b, off, rfl, hc⟩
    · exact .inl e
    · refine .inr ⟨b, off, rfl, fun i v hv => ?_⟩
      rw [World.cell?_of_block (Below.heap_setCell _ _ _ _ (fun e => n3 _ rfl e))]
      exact hc i v hv
set_option maxRecDepth 100000 in
set_option maxHeartbeats 4000000 in
theorem repairGreatest_core (N0 S0 T0 : Int) (a : Option Addr) (k0 cap : Nat) (ys0 : List Ar) (la : Option Addr) (lc : Nat) (ls : List Int) (ha : Option Addr) (hc : Nat) (hs0 : List Int) (ga : Option Addr) (gc : Nat) (gs0 : List Int) (w : World)
    (h : Ars w a ys0) (hk0 : ys0.length = k0) (hle : k0 ≤ cap) (hmost : cap ≤ 9223372036854775807) (hwf : ∀ x ∈ ys0, -9223372036854775808 ≤ x.c ∧ x.c ≤ 9223372036854775807)
    (hl : Rd w la (lv ls)) (hli : ∀ x ∈ ls, -9223372036854775808 ≤ x ∧ x ≤ 9223372036854775807) (hll : ls.length ≤ 9223372036854775807)
    (hh1 : Rd w ha (lv hs0)) (hh2 : Rd w ga (lv gs0)) (hm1 : hs0.length ≤ 9223372036854775807) (hm2 : gs0.length ≤ 9223372036854775807) :
    Calls Try.prog 5 #[.agg #[.int .i64 N0, .int .i64 S0, .int .i64 T0, .slice a k0 cap], .slice la ls.length lc, .slice ha hs0.length hc, .slice ga gs0.length gc] w fun e w' => e = .returned (.bool true) ∧ Kept w w' := by
  have HS : ∀ (w : World), Ars w a ys0 → Hid (Calls Try.prog 13 #[.agg #[.int .i64 N0, .int .i64 S0, .int .i64 T0, .slice a k0 cap], .int .i64 16, .int .i64 40] w (NetIs w)) := by
    intro w h
    subst hk0
    exact Lib.hid (Some_any N0 S0 T0 a cap ys0 w h hle hmost hwf)
  have HX := Lib.hid (h.kept ((Upd.refl (fun _ => False) w).alloc (.cells #[.int .i64 N0, .int .i64 S0, .int .i64 T0, .slice a k0 cap] 24)))
  have HK := Lib.hid ((Upd.refl (fun _ => False) w).alloc (.cells #[.int .i64 N0, .int .i64 S0, .int .i64 T0, .slice a k0 cap] 24))
  have HL := Lib.hid hl
  have HLI := Lib.hid hli
  have HHR := Lib.hid hh1
  have HGR := Lib.hid hh2
  have HHX := Lib.hid hm1
  have HGX := Lib.hid hm2
  clear hh1 hh2 hm1 hm2
  clear h hl hli hle hmost hwf
  go_enter Try.func5, Try.ntmps5
  go_wp2_with fail
  refine (HS _ HX.out).out.mono ?_
  rintro e w1 ⟨N, S, T, a', cap', ys, rfl, hok, hown, hk1⟩
  have HK1 := Lib.hid (HK.out.trans hk1)
  have HOK := Lib.hid hok
  have HA : Hid (Ars w1 a' ys) := Lib.hid hown.at.2
  clear hk1 hok hown HS HX HK
  have HLE := fun (w : World) (h : Ars w a' ys) (hl : Rd w la (lv ls)) => Lib.hid (Left_ok N S T a' cap' ys la lc ls w h HOK.out hl HLI.out hll)
  go_wp2_with fail
  refine (HLE _ HA.out (HL.out.kept HK1.out)).out.mono ?_
  rintro e w2 ⟨B, n, m, a3, c3, a4, c4, a5, c5, a6, c6, a7, c7, a8, c8, ra, rc, rfl, hn, hm2, hcr, -, hk2, -, hro⟩
  have HG : Hid (Gr N S T n m ys) := Lib.hid ⟨HOK.out, hn, hm2⟩
  obtain ⟨rs, hrs⟩ : ∃ rs, resAll (wths ls ys) n ys = rs := ⟨_, rfl⟩
  have HRM : Hid (rs.length = m) := Lib.hid (by rw [← hrs, resAll_len]; exact hm2)
  have HRI : Hid (∀ x ∈ rs, 0 ≤ x ∧ x < 1125899906842624) := Lib.hid (by rw [← hrs]; exact left_in HG.out HLI.out)
  rw [hrs] at hro
  have HRC : Hid (m ≤ rc) := Lib.hid (row_cap' hro)
  have HSO : Hid ((∃ ad, ra = some ad) ∨ (ra = none ∧ m = 0 ∧ rc = 0)) := Lib.hid (someOr_row hro)
  obtain ⟨ra', rc', e9, hrr⟩ := Rd.owns hro
  cases e9
  have hA := (Upd.refl (fun _ => False) w2).alloc (.cells #[.int .i64 N, .int .i64 S, .int .i64 T, .slice a3 (n + 1) c3, .slice a4 m c4, .slice a5 m c5, .slice a6 m c6, .slice a7 m c7, .slice a8 m c8] 29)
  have HK0 := Lib.hid ((HK1.out.trans hk2).trans hA)
  have HGF : Hid (GF N S T n m a3 a4 a5 a6 a7 a8 c3 c4 c5 c6 c7 c8 ys w2.heap.size ra rs (w2.alloc (.cells #[.int .i64 N, .int .i64 S, .int .i64 T, .slice a3 (n + 1) c3, .slice a4 m c4, .slice a5 m c5, .slice a6 m c6, .slice a7 m c7, .slice a8 m c8] 29))) := Lib.hid ⟨Blk.new _ _ _, hcr.kept hA, hrr.kept hA⟩
  clear hn hm2 hcr hk2 hro hrr hrs hA HLE HA HOK HK1 HL HLI hll
  clear hk0
  go_upto_region 2 with (fail)
  generalize (w2.alloc (.cells #[.int .i64 N, .int .i64 S, .int .i64 T, .slice a3 (n + 1) c3, .slice a4 m c4, .slice a5 m c5, .slice a6 m c6, .slice a7 m c7, .slice a8 m c8] 29)) = wB at HGF HK0 ⊢
  generalize w2.heap.size = cb at HGF ⊢
  have HK1 : Hid (Kept wB wB) := Lib.hid (Upd.refl _ _)
  have hcb0 := HGF.out.box.lt
  have C0 : (∀ i, wB.drew.cell? ⟨cb, i, none⟩ = (#[.int .i64 N, .int .i64 S, .int .i64 T, .slice a3 (n + 1) c3, .slice a4 m c4, .slice a5 m c5, .slice a6 m c6, .slice a7 m c7, .slice a8 m c8] : Array Value)[i]?) := HGF.out.box.drew.cell
  have K0 := Lib.hid (Upd.refl (fun _ => False) wB).drew
  have G1 := fun (w : World) (k : Kept wB w) => Lib.hid (heights_any N S T n m a3 a4 a5 a6 a7 a8 c3 c4 c5 c6 c7 c8 ys ha hc hs0 w HG.out (HHR.out.kept (HK0.out.trans k)) HHX.out)
  have G2 := fun (w : World) (k : Kept wB w) => Lib.hid (heights_any N S T n m a3 a4 a5 a6 a7 a8 c3 c4 c5 c6 c7 c8 ys ga gc gs0 w HG.out (HGR.out.kept (HK0.out.trans k)) HGX.out)
  clear hcb0
  go_region_held3 (fun w' => (∀ i, w'.cell? ⟨cb, i, none⟩ = (#[.int .i64 N, .int .i64 S, .int .i64 T, .slice a3 (n + 1) c3, .slice a4 m c4, .slice a5 m c5, .slice a6 m c6, .slice a7 m c7, .slice a8 m c8] : Array Value)[i]?))
    (first | exact C0 | exact C1 | exact C2)
    ((first
    | (go_at_call 14; refine (G2 _ K1.out).out.mono ?_; rintro e W2 ⟨gb, rfl, h3, h4, h5⟩; have K2 := Lib.hid (K1.out.trans h5); have HBH2 := Lib.hid (HBH.out.kept h5); have HBG := Lib.hid h3; have HH := Lib.hid h4; have C2 : (∀ i, W2.cell? ⟨cb, i, none⟩ = (#[.int .i64 N, .int .i64 S, .int .i64 T, .slice a3 (n + 1) c3, .slice a4 m c4, .slice a5 m c5, .slice a6 m c6, .slice a7 m c7, .slice a8 m c8] : Array Value)[i]?) := (HGF.out.kept K2.out).box.cell; clear h3 h4 h5)
    | (go_at_call 14; refine (G1 _ K0.out).out.mono ?_; rintro e W1 ⟨hb, rfl, h0, h1, h2⟩; have K1 := Lib.hid (K0.out.trans h2); have HBH := Lib.hid h0; have HHH := Lib.hid h1; have C1 : (∀ i, W1.cell? ⟨cb, i, none⟩ = (#[.int .i64 N, .int .i64 S, .int .i64 T, .slice a3 (n + 1) c3, .slice a4 m c4, .slice a5 m c5, .slice a6 m c6, .slice a7 m c7, .slice a8 m c8] : Array Value)[i]?) := (HGF.out.kept K1.out).box.cell; clear h0 h1 h2)))
  have hne : Hid (¬ hb = gb ∧ wB.heap.size ≤ hb ∧ wB.heap.size ≤ gb) := Lib.hid (by
    have h1 := HHH.out
    have h2 := HH.out
    have h3 := HBH.out.lt
    have h4 := K1.out.size
    refine ⟨by omega, h1, by omega⟩)
  clear C0 C1 C2 G1 G2 K0 K1 HBH HHH HH HHR HGR HHX HGX
  have HRH : Hid (rightB N S T (htL N S T n hs0) = true) := Lib.hid (htL_right HG.out _)
  have HRG : Hid (rightB N S T (htL N S T n gs0) = true) := Lib.hid (htL_right HG.out _)
  generalize (htL N S T n hs0) = hs at HBH2 HRH
  generalize (htL N S T n gs0) = gs at HBG HRG
  have HHL : Hid (hs.length = n) := Lib.hid (by have h1 := (right_parts.1 HRH.out).1; have := HG.out.len; omega)
  have HGL : Hid (gs.length = n) := Lib.hid (by have h1 := (right_parts.1 HRG.out).1; have := HG.out.len; omega)
  have hn16 : n ≤ 16 := by have := HG.out.len; omega
  have LH := fun (w : World) (k : Kept wB w) (h : Rd w (some ⟨hb, 0, none⟩) (lv hs)) => Lib.hid (low_at N S T n m a3 a4 a5 a6 a7 a8 c3 c4 c5 c6 c7 c8 ys ra rc rs (some ⟨hb, 0, none⟩) n hs w HG.out HRM.out HHL.out HRH.out (HGF.out.kept k).cr (HGF.out.kept k).rs h)
  have bx := (HGF.out.kept K2.out).box.cell
  go_wp2_with fail
  refine (LH _ K2.out (Rd.blk HBH2.out)).out.mono ?_
  rintro e W3 ⟨la, lc, L, rfl, hl0, hr0, hlo, hk0⟩
  have HLA : Hid (∀ ad, la = some ad → ad.block ≠ gb) := Lib.hid (fun ad e => by
    have := hlo ad e
    have := HBG.out.lt
    omega)
  have HIL := Lib.hid hl0
  have GS0 : Hid (GS wB hb gb hs gs L la W3) := Lib.hid ⟨K2.out.trans hk0, HBH2.out.kept hk0, HBG.out.kept hk0, hr0⟩
  clear hl0 hr0 hlo hk0 LH bx K2 HBH2 HBG
  have HLR : Hid (rightB N S T L = true) := Lib.hid (low_right HG.out HRH.out HIL.out)
  have HLL : Hid (L.length = n) := Lib.hid HIL.out.len
  have HVD := fun (w : World) (k : Kept wB w) (h : Rd w la (lv L)) => Lib.hid (valid_at N S T n m a3 a4 a5 a6 a7 a8 c3 c4 c5 c6 c7 c8 ys ra rc rs la lc L m n w HG.out (HGF.out.kept k).cr (HGF.out.kept k).rs h (by have := HLL.out; have := HG.out.len; omega) HRM.out HLL.out)
  rw [low_valid HG.out HRM.out HRH.out HIL.out] at HVD
  obtain ⟨hS0, hS1, hT0, hT1⟩ : 0 ≤ S ∧ S < (n : Int) ∧ 0 ≤ T ∧ T < (n : Int) := by have := HG.out.len; omega
  obtain ⟨lb, lo, rfl, lcS⟩ := GS0.out.l.num (i := S.toNat) (by rw [HLL.out]; omega)
  obtain ⟨lb', lo', e9, lcT⟩ := GS0.out.l.num (i := T.toNat) (by rw [HLL.out]; omega)
  cases e9
  rw [(right_parts.1 HLR.out).2.2.2] at lcS
  rw [(right_parts.1 HLR.out).2.2.1] at lcT
  have bx := (HGF.out.kept GS0.out.kp).box.cell
  have hnN : ((n : Int) != N) = false := by have := HG.out.len.1; simp [this]
  have HVE := fun (w : World) (k : Kept W3 w) => Lib.hid (HVD w (GS0.out.kp.trans k) (GS0.out.l.kept k)).out
  clear HVD
  go_upto_region 4 with (fail)
  refine wp_region_kept (by kernel_rfl) (by kernel_rfl) ?_
  repeat (go_big_quiet_step ((go_at_call 21; exact kept_call (HVE _ (kept_ext _ _)).out)))
  refine wpQuiet_nil ?_
  intro w9 hk9
  have GS1 := Lib.hid (GS0.out.kept hk9)
  clear hk9 GS0 HVE lcS lcT hS0 hS1 hT0 hT1 bx
  go_upto_region 7 with (fail)
  clear hnN
  go_loopw [66] (fun ix wr => ∃ (k : Nat) (gz : List Int), ix = .int .i64 k ∧ k ≤ n ∧ Hid (gz.length = n ∧ ∀ v, v < n → gz.getD v 0 = if v < k then min (gs.getD v 0) (hs.getD v 0) else gs.getD v 0) ∧ Hid (GS wB hb gb hs gz L (some ⟨lb, lo, none⟩) wr)) (fun ix _ => n - (intOf ix).toNat)
  case atStart => exact ⟨0, gs, rfl, by omega, Lib.hid ⟨HGL.out, fun v _ => by rw [if_neg (Nat.not_lt_zero v)]⟩, GS1⟩
  case round =>
    clear GS1
    obtain ⟨k, gz, rfl, hk, HZ, GS1⟩ := hrel
    by_cases hik : k < n
    · have lcc := GS1.out.l.num (i := k) (by rw [HLL.out]; exact hik)
      obtain ⟨lb', lo', e9, lcc⟩ := lcc
      cases e9
      have ch : wr.cell? ⟨hb, k, none⟩ = some (.int .i64 (hs.getD k 0)) := by rw [GS1.out.h.cell]; simp only [List.getElem?_toArray]; exact lv_get (by rw [HHL.out]; exact hik)
      have hle := HIL.out.le k hik
      have HPQ : Hid (L.getD k 0 ≤ hs.getD k 0) := Lib.hid hle
      generalize hx : L.getD k 0 = lvv at lcc hle
      generalize hy : hs.getD k 0 = hv' at ch hle
      have g1 : decide (hv' < lvv) = false := decide_eq_false (by omega)
      have g2 : ¬ hv' < lvv := by omega
      have HY := Lib.hid hy
      clear hle hx hy
      have i1 : (0 : Int) ≤ (k : Int) := by omega
      have i2 : (k : Int) < (n : Int) := by omega
      go_upto_region 9 with (fail)
      refine wp_region_kept (by kernel_rfl) (by kernel_rfl) ?_
      repeat (go_big_quiet_step (fail))
      refine wpQuiet_nil ?_
      intro w9 hk9
      have GS2 := Lib.hid (GS1.out.kept hk9)
      clear hk9 GS1 ch lcc
      have ch : w9.cell? ⟨hb, k, none⟩ = some (.int .i64 hv') := by rw [GS2.out.h.cell]; simp only [List.getElem?_toArray]; rw [← HY.out]; exact lv_get (by rw [HHL.out]; exact hik)
      have cg : w9.cell? ⟨gb, k, none⟩ = some (.int .i64 (gs.getD k 0)) := by
        rw [GS2.out.g.cell]
        simp only [List.getElem?_toArray]
        rw [lv_get (by rw [HZ.out.1]; exact hik), HZ.out.2 k hik, if_neg (Nat.lt_irrefl k)]
      have fg := GS2.out.g.free k
      obtain ⟨mn, hmn⟩ : ∃ x, x = min (gs.getD k 0) hv' := ⟨_, rfl⟩
      have GS3 : Hid (GS wB hb gb hs (gz.set k mn) L (some ⟨lb, lo, none⟩) (w9.drew.setCell ⟨gb, k, none⟩ (.int .i64 mn))) := Lib.hid ((GS2.out.kept (Upd.refl _ _).drew).put hne.out.1 hne.out.2.2 HLA.out k mn)
      have HZ2 : Hid ((gz.set k mn).length = n ∧ ∀ v, v < n → (gz.set k mn).getD v 0 = if v < k + 1 then min (gs.getD v 0) (hs.getD v 0) else gs.getD v 0) := Lib.hid ⟨by rw [List.length_set]; exact HZ.out.1, fun v hv => by
        rw [getD_set (by rw [HZ.out.1]; exact hik)]
        by_cases e : v = k
        · subst e
          rw [if_pos rfl, if_pos (by omega), HY.out, hmn]
        · rw [if_neg e, HZ.out.2 v hv]
          by_cases e2 : v < k
          · rw [if_pos e2, if_pos (by omega)]
          · rw [if_neg e2, if_neg (by omega)]⟩
      have e1 : (if hv' < gs.getD k 0 then hv' else gs.getD k 0) = mn := by split <;> omega
      generalize gs.getD k 0 = gv at cg e1
      clear hmn GS2 HZ HPQ HY
      go_upto_region 11 with (fail)
      go_still_tail 12, (by kernel_rfl)
      change wpList _ _ _ _ _ w9.drew
      go_wp2_with fail
      go_roundw
      case rel => exact ⟨k + 1, gz.set k mn, by go_num, by omega, HZ2, GS3⟩
      case measure => simp [intOf]; omega
    · obtain rfl : n = k := by omega
      have HZE : Hid (gz = zipL min n gs hs) := Lib.hid (list_ext_getD HZ.out.1 (zipL_len _ _ _ _) (fun v hv => by rw [HZ.out.2 v hv, if_pos hv, zipL_get _ _ _ _ _ hv]))
      have HGR0 : Hid (rightB N S T gz = true) := Lib.hid (by rw [HZE.out]; exact zip_right HG.out min (fun x y => by omega) HRG.out HRH.out)
      have HGH0 : Hid (LeV n gz hs) := Lib.hid (fun v hv => by rw [HZ.out.2 v hv, if_pos hv]; omega)
      clear HZE HZ HRG HGL hk
      obtain ⟨P, hP⟩ : ∃ P, P = n * n := ⟨_, rfl⟩
      have hw1 : wrap64 (2 * N) = ((2 * n : Nat) : Int) ∧ wrap64 (((2 * n : Nat) : Int) * N) = ((2 * P : Nat) : Int) ∧ P ≤ 256 ∧ 4 ≤ P := by
        have hl := HG.out.len
        have h1 : n * n ≤ 16 * 16 := Nat.mul_le_mul (by omega) (by omega)
        have h3 : 2 * 2 ≤ n * n := Nat.mul_le_mul (by omega) (by omega)
        have h4 : ((2 * n : Nat) : Int) * N = ((2 * P : Nat) : Int) := by
          rw [← hl.1, hP, Nat.mul_assoc 2 n n |>.symm, Int.natCast_mul (2 * n) n]
        rw [h4]
        refine ⟨?_, ?_, by omega, by omega⟩ <;> (unfold wrap64; omega)
      obtain ⟨hw1, hw2, hP1, hP2⟩ := hw1
      have HP := Lib.hid hP
      clear hP
      obtain ⟨n2, hn2⟩ : ∃ n2, n2 = 2 * n := ⟨_, rfl⟩
      obtain ⟨P2, hP3⟩ : ∃ P2, P2 = 2 * P := ⟨_, rfl⟩
      rw [← hn2] at hw1 hw2
      rw [← hP3] at hw2
      clear hn2
      have bx := (HGF.out.kept GS1.out.kp).box.cell
      go_upto_region 14 with (fail)
      simp only [hw2]
      have HP3 := Lib.hid hP3
      clear hw1 hw2 bx hik hP3
      go_loopw [97] (fun ix wr => ∃ (j : Nat) (gz : List Int), ix = .int .i64 j ∧ Hid (GS wB hb gb hs gz L (some ⟨lb, lo, none⟩) wr) ∧ Hid (rightB N S T gz = true) ∧ Hid (LeV n gz hs) ∧ Hid (gz.sum + j ≤ P)) (fun ix _ => P2 - (intOf ix).toNat)
      case atStart => exact ⟨0, gz, rfl, GS1, HGR0, HGH0, Lib.hid (by have := (right_sum HG.out HGR0.out).2; rw [HP.out]; simpa using this)⟩
      case round =>
        clear GS1 HGR0 HGH0
        obtain ⟨j, zs, rfl, GS2, HZR, HZH, HSM⟩ := hrel
        have hj : j ≤ P := by
          have h1 := (right_sum HG.out HZR.out).1
          have := HSM.out
          omega
        have hj2 : (j : Int) < (P2 : Int) := by have := HP3.out; omega
        have hP300 : P2 ≤ 512 := by have := HP3.out; omega
        have bx := (HGF.out.kept GS2.out.kp).box.cell
        obtain ⟨Ls, hL⟩ : ∃ Ls, dnL N S T n m ys rs zs (isP true) = Ls := ⟨_, rfl⟩
        obtain ⟨k, hk⟩ : ∃ k, Ls.length = k := ⟨_, rfl⟩
        have HZL : Hid (zs.length = n) := Lib.hid (by have := (right_parts.1 HZR.out).1; have := HG.out.len; omega)
        have HST := fun (w : World) (k1 : Kept wB w) (h : Rd w (some ⟨gb, 0, none⟩) (lv zs)) => Lib.hid (steep_at N S T n m a3 a4 a5 a6 a7 a8 c3 c4 c5 c6 c7 c8 ys ra rc rs (some ⟨gb, 0, none⟩) n zs m n Ls k w HG.out (HGF.out.kept k1).cr (HGF.out.kept k1).rs h (by have := HZL.out; have := HG.out.len; omega) HRM.out HZL.out hL hk)
        have hL2 := Lib.hid hL
        clear hL
        rcases Ls.eq_nil_or_concat with rfl | ⟨L1, s0, rfl⟩
        · obtain rfl : 0 = k := hk
          have HVB : Hid (validB N S T n m ys rs zs = true) := Lib.hid (by
            unfold validB
            rw [hL2.out]
            unfold mayB
            rw [HZR.out, HRM.out]
            simp)
          go_wp2_with fail
          refine (HST _ GS2.out.kp (Rd.blk GS2.out.g)).out.mono ?_
          rintro e W4 ⟨sa, sc, rfl, hsr, hk4⟩
          have GS4 := Lib.hid (GS2.out.kept hk4)
          clear hsr hk4 GS2 bx HST
          have bx := (HGF.out.kept GS4.out.kp).box.cell
          go_wp2_with fail
          refine (valid_at N S T n m a3 a4 a5 a6 a7 a8 c3 c4 c5 c6 c7 c8 ys ra rc rs (some ⟨gb, 0, none⟩) n zs m n _ HG.out (HGF.out.kept GS4.out.kp).cr (HGF.out.kept GS4.out.kp).rs (Rd.blk GS4.out.g) (by have := HZL.out; have := HG.out.len; omega) HRM.out HZL.out).mono ?_
          rw [HVB.out]
          rintro e W5 ⟨rfl, hk5⟩
          have GS5 := Lib.hid (GS4.out.kept hk5)
          have HTP : Hid (∀ v, v < n → zs.getD v 0 ≤ L.getD v 0) := Lib.hid (fun v hv => HIL.out.top zs ((valid_vld HRM.out HZR.out).1 HVB.out) HZH.out v hv)
          clear hk5 GS4 bx hj hj2 hP300
          go_upto_region 25 with (fail)
          go_loopw [145] (fun ix wr => ∃ (k : Nat), ix = .int .i64 k ∧ k ≤ n ∧ Hid (GS wB hb gb hs zs L (some ⟨lb, lo, none⟩) wr)) (fun ix _ => n - (intOf ix).toNat)
          case atStart => exact ⟨0, rfl, by omega, GS5⟩
          case round =>
            clear GS5
            obtain ⟨k, rfl, hk, GS5⟩ := hrel
            by_cases hik : k < n
            · obtain ⟨lb', lo', e9, lcc⟩ := GS5.out.l.num (i := k) (by rw [HLL.out]; exact hik)
              cases e9
              have cg : wr.cell? ⟨gb, k, none⟩ = some (.int .i64 (zs.getD k 0)) := by rw [GS5.out.g.cell]; simp only [List.getElem?_toArray]; exact lv_get (by rw [HZL.out]; exact hik)
              have hle := HTP.out k hik
              generalize L.getD k 0 = lvv at lcc hle
              generalize zs.getD k 0 = gv at cg hle
              have g1 : decide (lvv < gv) = false := decide_eq_false (by omega)
              have g2 : ¬ lvv < gv := by omega
              clear hle
              have i1 : (0 : Int) ≤ (k : Int) := by omega
              have i2 : (k : Int) < (n : Int) := by omega
              go_upto_region 27 with (fail)
              refine wp_region_kept (by kernel_rfl) (by kernel_rfl) ?_
              repeat (go_big_quiet_step (fail))
              refine wpQuiet_nil ?_
              intro w9 hk9
              have GS6 := Lib.hid (GS5.out.kept hk9)
              clear hk9 GS5 cg lcc
              go_wp2_with fail
              go_roundw
              case rel => exact ⟨k + 1, by go_num, by omega, GS6⟩
              case measure => simp [intOf]; omega
            · go_wp2_with fail
              refine (awake19_any _).mono ?_
              rintro e Wz ⟨rfl, hkz⟩
              have HKZ := Lib.hid ((HK0.out.trans GS5.out.kp).trans hkz)
              clear hkz GS5
              go_wp2_with fail
              go_ret
              exact ⟨rfl, HKZ.out⟩
        · rw [List.concat_eq_append] at hk hL2 HST
          obtain ⟨k', rfl⟩ : ∃ k', k = k' + 1 := ⟨L1.length, by simpa using hk.symm⟩
          have hk1 : L1.length = k' := by simpa using hk
          obtain ⟨hs0, hq⟩ := dn_mem hL2.out s0 (by simp)
          obtain ⟨q1, q2, q3, q7, q8⟩ := dec_step HG.out HZR.out s0 hs0 hq
          have hm80 : k' ≤ 1000 := by
            have h1 := dnL_len N S T n m ys rs zs (isP true)
            rw [hL2.out] at h1
            have := HG.out.len
            simp at h1
            omega
          have HNEW := Lib.hid (And.intro q7 q8)
          clear q7 q8 hq hL2
          obtain ⟨k1, hkk⟩ : ∃ k1, k1 = k' + 1 := ⟨_, rfl⟩
          rw [← hkk] at HST
          have hw3 : wrap64 ((k1 : Int) - 1) = (k' : Int) := by unfold wrap64; omega
          have hw4 : IntKind.i64.wrap ((k1 : Int) - 1) = (k' : Int) := by rw [IntKind.wrap_i64]; omega
          have hz1 : ((k1 : Int) == 0) = false := by simp; omega
          have hz2 : ¬ (k1 : Int) = 0 := by omega
          have i7 : (0 : Int) ≤ (k' : Int) := by omega
          have i8 : (k' : Int) < (k1 : Int) := by omega
          have HKK := Lib.hid hkk
          clear hk hkk
          go_wp2_with fail
          refine (HST _ GS2.out.kp (Rd.blk GS2.out.g)).out.mono ?_
          rintro e W4 ⟨sa, sc, rfl, hsr, hk4⟩
          have GS4 := Lib.hid (GS2.out.kept hk4)
          have HSR := Lib.hid hsr
          clear hsr hk4 GS2 bx HST
          obtain ⟨bs, os1, rfl, hs1⟩ := HSR.out.at k' (by simp [nv, hk1])
          rw [show (nv (L1 ++ [s0]))[k']? = some (.int .i64 (s0 : Nat)) by subst hk1; simp [nv]] at hs1
          have bx := (HGF.out.kept GS4.out.kp).box.cell
          have HT := fun (w : World) (k1 : Kept wB w) => Lib.hid (tail_any N S T n m a3 a4 a5 a6 a7 a8 c3 c4 c5 c6 c7 c8 ys s0 w HG.out (HGF.out.kept k1).cr.r3 hs0)
          obtain ⟨u, hu⟩ : ∃ u, tl ys n s0 = u := ⟨_, rfl⟩
          rw [hu] at HT HNEW q1 q2 q3
          clear hu HSR hk1
          have C0 : (∀ i, W4.drew.cell? ⟨cb, i, none⟩ = (#[.int .i64 N, .int .i64 S, .int .i64 T, .slice a3 (n + 1) c3, .slice a4 m c4, .slice a5 m c5, .slice a6 m c6, .slice a7 m c7, .slice a8 m c8] : Array Value)[i]?) ∧ W4.drew.cell? ⟨bs, os1 + k', none⟩ = some (.int .i64 (s0 : Nat)) := ⟨bx, hs1⟩
          have GS5 := Lib.hid (GS4.out.kept (Upd.refl _ _).drew)
          clear bx hs1 GS4
          go_upto_region 17 with (fail)
          go_region_held3 (fun w' => (∀ i, w'.cell? ⟨cb, i, none⟩ = (#[.int .i64 N, .int .i64 S, .int .i64 T, .slice a3 (n + 1) c3, .slice a4 m c4, .slice a5 m c5, .slice a6 m c6, .slice a7 m c7, .slice a8 m c8] : Array Value)[i]?) ∧ w'.cell? ⟨bs, os1 + k', none⟩ = some (.int .i64 (s0 : Nat)))
            (first | exact C0 | exact C1)
            ((first
            | (go_at_call 23; refine (HT _ GS5.out.kp).out.mono ?_; rintro e W6 ⟨rfl, hk6⟩; have GS6 := Lib.hid (GS5.out.kept hk6); have C1 : (∀ i, W6.cell? ⟨cb, i, none⟩ = (#[.int .i64 N, .int .i64 S, .int .i64 T, .slice a3 (n + 1) c3, .slice a4 m c4, .slice a5 m c5, .slice a6 m c6, .slice a7 m c7, .slice a8 m c8] : Array Value)[i]?) ∧ W6.cell? ⟨bs, os1 + k', none⟩ = some (.int .i64 (s0 : Nat)) := ⟨(HGF.out.kept GS6.out.kp).box.cell, (keptCells hk6 _ (by rw [C0.2]; rfl)).trans C0.2⟩; clear hk6)))
          obtain ⟨bx, hs1⟩ := C1
          clear C0 GS5 HT hw3 hw4 hz1 hz2 i7 i8 hs1
          have q2b : ((u : Int) == S) = false := by simpa using q2
          have q3b : ((u : Int) == T) = false := by simpa using q3
          have xu := GS6.out.g.cell u
          rw [show (lv zs).toArray[u]? = some (.int .i64 (zs.getD u 0)) by simp only [List.getElem?_toArray]; exact lv_get (by rw [HZL.out]; exact q1)] at xu
          have fu := GS6.out.g.free u
          obtain ⟨y1, hy1⟩ : ∃ y1, y1 = zs.getD u 0 - 1 := ⟨_, rfl⟩
          rw [← hy1] at HNEW
          have hyb := rightB_in HZR.out u (by rw [HZL.out]; exact q1)
          have hw := show wrap64 (zs.getD u 0 - 1) = y1 by unfold wrap64; have := HG.out.len; omega
          have GS7 : Hid (GS wB hb gb hs (zs.set u y1) L (some ⟨lb, lo, none⟩) (W6.setCell ⟨gb, u, none⟩ (.int .i64 y1))) := Lib.hid (GS6.out.put hne.out.1 hne.out.2.2 HLA.out u y1)
          have HZH2 : Hid (LeV n (zs.set u y1) hs) := Lib.hid (fun v hv => by
            rw [getD_set (by rw [HZL.out]; exact q1)]
            split
            · rename_i e; subst e; have := HZH.out v hv; omega
            · exact HZH.out v hv)
          clear hyb hy1
          generalize zs.getD u 0 = y0 at xu hw
          have i3 : (0 : Int) ≤ (u : Int) := by omega
          have i4 : (u : Int) < (n : Int) := by omega
          go_wp2_with fail
          go_roundw
          case rel => exact ⟨j + 1, zs.set u y1, by go_num, GS7, Lib.hid HNEW.out.1, HZH2, Lib.hid (by have h1 := HNEW.out.2; have h2 := HSM.out; omega)⟩
          case measure => simp [intOf]; omega
theorem repairGreatest_walk (N S T : Int) (a : Option Addr) (cap : Nat) (els : List (List Value)) (s1 : Option Addr) (cap1 : Nat) (z1 : List Int) (s2 : Option Addr) (cap2 : Nat) (z2 : List Int) (s3 : Option Addr) (cap3 : Nat) (z3 : List Int) (w : World) (_wN : (Lit.int .i64 N).wf = true) (_wS : (Lit.int .i64 S).wf = true) (_wT : (Lit.int .i64 T).wf = true) (hrow : FlatRow [some .i64, some .i64, some .i64] w a cap els) (_hf : ∀ x ∈ els, fits [some .i64, some .i64, some .i64] x)
    (w1 : IntRow .i64 w s1 cap1 z1) (m1 : ∀ n ∈ z1, (Lit.int .i64 n).wf = true) (w2 : IntRow .i64 w s2 cap2 z2) (m2 : ∀ n ∈ z2, (Lit.int .i64 n).wf = true) (w3 : IntRow .i64 w s3 cap3 z3) (m3 : ∀ n ∈ z3, (Lit.int .i64 n).wf = true) :
    Calls Try.prog 5 #[.agg #[.int .i64 N, .int .i64 S, .int .i64 T, .slice a els.length cap], .slice s1 z1.length cap1, .slice s2 z2.length cap2, .slice s3 z3.length cap3] w fun e w' => e = .returned (.bool true) ∧ Kept w w' := by
  obtain ⟨xs, hl, hA, hx⟩ := ars_of_flat hrow
  have hle := hrow.le
  have hmo := hrow.most
  have l1 := w1.le
  have l1' := w1.most
  have l2 := w2.le
  have l2' := w2.most
  have l3 := w3.le
  have l3' := w3.most
  unfold maxLen at hmo l1' l2' l3'
  exact repairGreatest_core N S T a els.length cap xs s1 cap1 z1 s2 cap2 z2 s3 cap3 z3 w hA hl hle hmo (fun x hx0 => bounds_i64 (hx x hx0).2.2) w1.rd (fun x hx0 => bounds_i64 (m1 x hx0)) (by omega) w2.rd w3.rd (by omega) (by omega)
end Go.Proofs.Yticeionjlknlcaa
