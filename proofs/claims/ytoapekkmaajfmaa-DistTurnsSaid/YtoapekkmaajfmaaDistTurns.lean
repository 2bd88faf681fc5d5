/- The law DistTurns (printed by gen_distturns.py). -/
import Derived.Test.YtoapekkmaajfmaaAwake05
import Derived.Test.YtoapekkmaajfmaaCopyRow
import Derived.Test.YtoapekkmaajfmaaSomeNet
import Derived.Test.YtoapekkmaajfmaaRowsRd
import Derived.Deep.CutRange
namespace Go.Proofs.Ytoapekkmaajfmaa
set_option linter.unusedVariables false
set_option linter.unusedSimpArgs false
open Go.RowKit
attribute [local go_sem] cell?_ext

theorem wrap_ad (x y : Nat) (hx : x ≤ 1000) (hy : y ≤ 1000) : wrap64 ((x : Int) + (y : Int)) = (x : Int) + (y : Int) := by unfold wrap64; omega
theorem wrap_ad' (x y : Nat) (hx : x ≤ 1000) (hy : y ≤ 1000) : IntKind.i64.wrap ((x : Int) + (y : Int)) = (x : Int) + (y : Int) := by rw [IntKind.wrap_i64]; omega
theorem own_ne {w : World} {base n c b : Nat} {a : Option Addr} {ys : List Ar} {arr : Array Value} {T : TypeId} (h : Own w base (.slice a n c) ys) (hb : Blk w b arr T) (hl : b < base) : ∀ g, a = some g → ¬ g.block = b := by
  rintro g rfl e
  rcases h.2 with ⟨e1, -⟩ | ⟨g', cap, cur, e1, hbb, -⟩
  · cases e1
  · cases e1
    simp at e
    omega
set_option maxRecDepth 100000 in
set_option maxHeartbeats 4000000 in
theorem distTurns_core (N0 S0 T0 : Int) (a : Option Addr) (k0 cap : Nat) (ys0 : List Ar) (la : Option Addr) (lc : Nat) (ls : List Int) (x1 x2 x3 : Int) (w : World)
    (h : Ars w a ys0) (hk0 : ys0.length = k0) (hle : k0 ≤ cap) (hmost : cap ≤ 9223372036854775807) (hwf : ∀ x ∈ ys0, -9223372036854775808 ≤ x.c ∧ x.c ≤ 9223372036854775807)
    (hl : Rd w la (lv ls)) (hli : ∀ x ∈ ls, -9223372036854775808 ≤ x ∧ x ≤ 9223372036854775807) (hll : ls.length ≤ 9223372036854775807)
    (ha0 : 0 ≤ x1 ∧ x1 ≤ 255) (ha1 : 0 ≤ x2 ∧ x2 ≤ 255) (ha2 : 0 ≤ x3 ∧ x3 ≤ 255) :
    Calls Try.prog 4 #[.agg #[.int .i64 N0, .int .i64 S0, .int .i64 T0, .slice a k0 cap], .slice la ls.length lc, .int .u8 x1, .int .u8 x2, .int .u8 x3] w fun e w' => e = .returned (.bool true) ∧ Kept w w' := by
  have HS : ∀ (w : World), Ars w a ys0 → Hid (Calls Try.prog 10 #[.agg #[.int .i64 N0, .int .i64 S0, .int .i64 T0, .slice a k0 cap], .int .i64 16, .int .i64 40] w (NetIs w)) := by
    intro w h
    subst hk0
    exact Lib.hid (Some_any N0 S0 T0 a cap ys0 w h hle hmost hwf)
  have HX := Lib.hid (h.kept ((Upd.refl (fun _ => False) w).alloc (.cells #[.int .i64 N0, .int .i64 S0, .int .i64 T0, .slice a k0 cap] 24)))
  have HK := Lib.hid ((Upd.refl (fun _ => False) w).alloc (.cells #[.int .i64 N0, .int .i64 S0, .int .i64 T0, .slice a k0 cap] 24))
  have HL := Lib.hid hl
  have HLI := Lib.hid hli
  clear h hl hli hle hmost hwf
  go_enter Try.func4, Try.ntmps4
  go_wp2_with fail
  refine (HS _ HX.out).out.mono ?_
  rintro e w1 ⟨N, S, T, a', cap', ys, rfl, hok, hown, hk1⟩
  have HOK := Lib.hid hok
  have hnw := (Blk.new w #[.int .i64 N0, .int .i64 S0, .int .i64 T0, .slice a k0 cap] 24).kept hk1
  obtain ⟨w3, hw3, hB3, hU3⟩ := hnw.put4 (.int .i64 N) (.int .i64 S) (.int .i64 T) (.slice a' ys.length cap')
  have hne : ∀ g, a' = some ⟨g, 0, none⟩ → ¬ g = w.heap.size := fun g e => own_ne hown hnw (by simp) _ e
  have HK1 : Hid (Kept w w3) := Lib.hid ((HK.out.trans hk1).then hU3 (fun i hi e => by omega))
  have HA : Hid (Ars w3 a' ys) := Lib.hid (hown.far hU3 hne).at.2
  have HNB := Lib.hid hB3
  have hcb := hnw.cell
  have hfb := hnw.free
  have HLE := fun (w : World) (h : Ars w a' ys) (hl : Rd w la (lv ls)) => Lib.hid (Left_ok N S T a' cap' ys la lc ls w h HOK.out hl HLI.out hll)
  clear hk1 hok hown HS HX HK hnw hB3 hU3 hne
  go_upto_region 2 with (fail)
  rw [← hw3]
  clear hcb hfb hw3
  have bn := HNB.out.cell
  go_wp2_with fail
  refine (HLE _ HA.out (HL.out.kept HK1.out)).out.mono ?_
  rintro e w2 ⟨B, n, m, a3, c3, a4, c4, a5, c5, a6, c6, a7, c7, a8, c8, ra, rc, rfl, hn, hm2, hcr, -, hk2, -, hro⟩
  clear bn HNB
  have HG : Hid (Gr N S T n m ys) := Lib.hid ⟨HOK.out, hn, hm2⟩
  obtain ⟨rs, hrs⟩ : ∃ rs, resAll (wths ls ys) n ys = rs := ⟨_, rfl⟩
  have HRM : Hid (rs.length = m) := Lib.hid (by rw [← hrs, resAll_len]; exact hm2)
  have HRI : Hid (∀ x ∈ rs, 0 ≤ x ∧ x < 1125899906842624) := Lib.hid (by rw [← hrs]; exact left_in HG.out HLI.out)
  rw [hrs] at hro
  have HRC : Hid (m ≤ rc) := Lib.hid (row_cap' hro)
  have HSO : Hid ((∃ ad, ra = some ad) ∨ (ra = none ∧ m = 0 ∧ rc = 0)) := Lib.hid (someOr_row hro)
  obtain ⟨ra', rc', e9, hrr⟩ := Rd.owns hro
  cases e9
  have hA := (Upd.refl (fun _ => False) w2).alloc (.cells #[.int .i64 N, .int .i64 S, .int .i64 T, .slice a3 (n + 1) c3, .slice a4 m c4, .slice a5 m c5, .slice a6 m c6, .slice a7 m c7, .slice a8 m c8] 29)
  have HK0 := Lib.hid ((HK1.out.trans hk2).trans hA)
  have HGF : Hid (GF N S T n m a3 a4 a5 a6 a7 a8 c3 c4 c5 c6 c7 c8 ys w2.heap.size ra rs (w2.alloc (.cells #[.int .i64 N, .int .i64 S, .int .i64 T, .slice a3 (n + 1) c3, .slice a4 m c4, .slice a5 m c5, .slice a6 m c6, .slice a7 m c7, .slice a8 m c8] 29))) := Lib.hid ⟨Blk.new _ _ _, hcr.kept hA, hrr.kept hA⟩
  clear hn hm2 hcr hk2 hro hrr hrs hA HLE HA HOK HK1 HL HLI hll
  clear hk0
  go_upto_region 3 with (fail)
  generalize (w2.alloc (.cells #[.int .i64 N, .int .i64 S, .int .i64 T, .slice a3 (n + 1) c3, .slice a4 m c4, .slice a5 m c5, .slice a6 m c6, .slice a7 m c7, .slice a8 m c8] 29)) = wB at HGF HK0 ⊢
  generalize w2.heap.size = cb at HGF ⊢
  have HK1 : Hid (Kept wB wB) := Lib.hid (Upd.refl _ _)
  obtain ⟨hnN, hn2, hn16, hm6, -⟩ := HG.out.len
  subst hnN
  obtain ⟨s, hs⟩ : ∃ s : Nat, x1 % (n : Int) = (s : Int) := ⟨(x1 % n).toNat, by have := Int.emod_nonneg x1 (show (n : Int) ≠ 0 by omega); omega⟩
  have sn : s < n := by have := Int.emod_lt_of_pos x1 (show (0 : Int) < n by omega); omega
  have sm : x1.tmod (n : Int) = (s : Int) := by rw [Int.tmod_eq_emod_of_nonneg ha0.1]; exact hs
  have sw : IntKind.i64.wrap x1 = x1 := by rw [IntKind.wrap_i64]; omega
  have sv : IntKind.i64.wrap (s : Int) = (s : Int) := by rw [IntKind.wrap_i64]; omega
  obtain ⟨t, ht⟩ : ∃ t : Nat, x2 % (n : Int) = (t : Int) := ⟨(x2 % n).toNat, by have := Int.emod_nonneg x2 (show (n : Int) ≠ 0 by omega); omega⟩
  have tn : t < n := by have := Int.emod_lt_of_pos x2 (show (0 : Int) < n by omega); omega
  have tm : x2.tmod (n : Int) = (t : Int) := by rw [Int.tmod_eq_emod_of_nonneg ha1.1]; exact ht
  have tw : IntKind.i64.wrap x2 = x2 := by rw [IntKind.wrap_i64]; omega
  have tv : IntKind.i64.wrap (t : Int) = (t : Int) := by rw [IntKind.wrap_i64]; omega
  obtain ⟨u, hu⟩ : ∃ u : Nat, x3 % (n : Int) = (u : Int) := ⟨(x3 % n).toNat, by have := Int.emod_nonneg x3 (show (n : Int) ≠ 0 by omega); omega⟩
  have un : u < n := by have := Int.emod_lt_of_pos x3 (show (0 : Int) < n by omega); omega
  have um : x3.tmod (n : Int) = (u : Int) := by rw [Int.tmod_eq_emod_of_nonneg ha2.1]; exact hu
  have uw : IntKind.i64.wrap x3 = x3 := by rw [IntKind.wrap_i64]; omega
  have uv : IntKind.i64.wrap (u : Int) = (u : Int) := by rw [IntKind.wrap_i64]; omega
  have hn0 : ¬ (n : Int) = 0 := by omega
  have hnb : ((n : Int) == 0) = false := by simpa using hn0
  have hn4 : ¬ n = 0 := by omega
  have bx := HGF.out.box.cell
  refine wp_region_kept (by kernel_rfl) (by kernel_rfl) ?_
  repeat (go_big_quiet_step (fail))
  refine wpQuiet_nil ?_
  intro wC hkC
  have HKC : Hid (Kept wB wC) := Lib.hid hkC
  clear hkC bx hn0 hnb hn4 sm sw sv tm tw tv um uw uv hs ht hu ha0 ha1 ha2
  have hmk := fun w => make_one (P := Try.prog) (t := 25) (e := 2) (z := .int .i64 0) (v := .int .i64 0) (bytes := 8) Try.underlying25 (by kernel_rfl) rfl .i64 m (by omega) (by omega) w
  have HBB := Lib.hid (Blk.new wC (zeros m (.int .i64 0)) 2)
  have HKD := Lib.hid (HKC.out.alloc (.cells (zeros m (.int .i64 0)) 2))
  have HBL : Hid (wB.heap.size ≤ wC.heap.size) := Lib.hid HKC.out.size
  obtain ⟨bs, hbs⟩ : ∃ l, l = (List.range m).map (fun i => rs.getD (rv n ys i) 0) := ⟨_, rfl⟩
  have HBS : Hid (bs.length = m ∧ ∀ i, i < m → bs.getD i 0 = rs.getD (rv n ys i) 0) := Lib.hid ⟨by rw [hbs]; simp, fun i hi => by rw [hbs]; simp [hi]⟩
  clear hbs
  go_upto_region 6 with (fail)
  clear hmk
  have HBB2 : Hid (Blk (wC.alloc (.cells (zeros m (.int .i64 0)) 2)) wC.heap.size (lv (filled bs 0 0)).toArray 2) := Lib.hid (by
    rw [show (lv (filled bs 0 0)).toArray = zeros m (.int .i64 0) by rw [zeros_ints, ← HBS.out.1, ← filled_zero]; rfl]
    exact HBB.out)
  generalize (wC.alloc (.cells (zeros m (.int .i64 0)) 2)) = wD at HKD HBB2 ⊢
  generalize wC.heap.size = bb at HBL HBB2 ⊢
  clear HBB HKC
  go_loopw [48] (fun ix wr => ∃ (i : Nat), ix = .int .i64 i ∧ i ≤ m ∧ Hid (Kept wB wr) ∧ Hid (Blk wr bb (lv (filled bs 0 i)).toArray 2)) (fun ix _ => m - (intOf ix).toNat)
  case atStart => exact ⟨0, rfl, by omega, HKD, HBB2⟩
  case round =>
    clear HKD HBB2
    obtain ⟨i, rfl, hi, HK, HB⟩ := hrel
    have hbl := HBS.out.1
    by_cases hlt : i < m
    · obtain ⟨f1, f2, -⟩ := rv_facts HG.out i hlt
      obtain ⟨r, hr⟩ : ∃ r, rv n ys i = r := ⟨_, rfl⟩
      rw [hr] at f1 f2
      obtain ⟨b5, o5, rfl, c5'⟩ := (HGF.out.kept HK.out).cr.r5.at i (by
        have := List.getElem?_eq_some_iff.1 f1
        exact this.1)
      rw [f1] at c5'
      obtain ⟨b6, o6, rfl, c6'⟩ := (HGF.out.kept HK.out).rs.num (i := r) (by rw [HRM.out]; exact f2)
      have hbv : bs.getD i 0 = rs.getD r 0 := by rw [← hr]; exact HBS.out.2 i hlt
      have hbc := HB.out.filling (by omega)
      have hbf := HB.out.free i
      have hfill := HB.out.fill (xs := bs) (by omega)
      rw [show bs[i] = rs.getD r 0 by rw [← hbv]; simp [show i < bs.length by omega]] at hfill
      have HFI := Lib.hid hfill
      clear hfill hbv f1 hr hbl
      obtain ⟨y, hy⟩ : ∃ y, rs.getD r 0 = y := ⟨_, rfl⟩
      rw [hy] at c6' HFI
      clear hy
      have bx := (HGF.out.kept HK.out).box.cell
      have j0 : (i : Int) < (m : Int) := by omega
      have j1 : (0 : Int) ≤ (i : Int) := by omega
      have j2 : (0 : Int) ≤ (r : Int) := by omega
      have j3 : (r : Int) < (m : Int) := by omega
      have HK2 : Hid (Kept wB (wr.setCell ⟨bb, i, none⟩ (.int .i64 y))) := Lib.hid (Kept.set HK.out HBL.out _)
      have HB2 : Hid (Blk (wr.setCell ⟨bb, i, none⟩ (.int .i64 y)) bb (lv (filled bs 0 (i + 1))).toArray 2) := HFI
      clear HFI HK HB
      go_wp2_with fail
      go_roundw
      case rel => exact ⟨i + 1, by go_num, by omega, HK2, HB2⟩
      case measure => simp [intOf]; omega
    · have him : i = m := by omega
      have HB2 : Hid (Blk wr bb (lv bs).toArray 2) := Lib.hid (by
        have h := HB.out
        rw [him, show filled bs 0 m = bs from by have := filled_all bs 0; rwa [HBS.out.1] at this] at h
        exact h)
      have j0 : ¬ (i : Int) < (m : Int) := by omega
      clear him HB hbl
      have HOB : Hid (∀ u v, OpenA n m ys bs u v ↔ OpenA n m ys rs v u) := Lib.hid (fun u v => by
        rw [← stepT HG.out rs u v]
        constructor
        · rintro ⟨a, ha, h1, h2, h3⟩
          exact ⟨a, ha, h1, h2, by rw [HBS.out.2 a ha] at h3; unfold goT; simpa using h3⟩
        · rintro ⟨a, ha, h1, h2, h3⟩
          exact ⟨a, ha, h1, h2, by rw [HBS.out.2 a ha]; unfold goT at h3; simpa using h3⟩)
      have T1 := fun (w : World) (k : Kept wr w) => Lib.hid (to_ok (n : Int) S T n m a3 a4 a5 a6 a7 a8 c3 c4 c5 c6 c7 c8 ys ra rc rs t w HG.out (HGF.out.kept (HK.out.trans k)).cr (HGF.out.kept (HK.out.trans k)).rs HRM.out tn)
      have F1 := fun (w : World) (k : Kept wr w) => Lib.hid (from_ok (n : Int) S T n m a3 a4 a5 a6 a7 a8 c3 c4 c5 c6 c7 c8 ys ra rc rs s w HG.out (HGF.out.kept (HK.out.trans k)).cr (HGF.out.kept (HK.out.trans k)).rs HRM.out sn)
      have F2 := fun (w : World) (k : Kept wr w) => Lib.hid (from_ok (n : Int) S T n m a3 a4 a5 a6 a7 a8 c3 c4 c5 c6 c7 c8 ys (some ⟨bb, 0, none⟩) m bs t w HG.out (HGF.out.kept (HK.out.trans k)).cr (Rd.blk (HB2.out.kept k)) HBS.out.1 tn)
      have T2 := fun (w : World) (k : Kept wr w) => Lib.hid (to_ok (n : Int) S T n m a3 a4 a5 a6 a7 a8 c3 c4 c5 c6 c7 c8 ys (some ⟨bb, 0, none⟩) m bs s w HG.out (HGF.out.kept (HK.out.trans k)).cr (Rd.blk (HB2.out.kept k)) HBS.out.1 sn)
      have K1 := Lib.hid (Upd.refl (fun _ => False) wr).drew
      have C1 : (∀ i, wr.drew.cell? ⟨cb, i, none⟩ = (#[.int .i64 n, .int .i64 S, .int .i64 T, .slice a3 (n + 1) c3, .slice a4 m c4, .slice a5 m c5, .slice a6 m c6, .slice a7 m c7, .slice a8 m c8] : Array Value)[i]?) := (HGF.out.kept (HK.out.trans K1.out)).box.cell
      go_upto_region 10 with (fail)
      go_region_held3 (fun w' => (∀ i, w'.cell? ⟨cb, i, none⟩ = (#[.int .i64 n, .int .i64 S, .int .i64 T, .slice a3 (n + 1) c3, .slice a4 m c4, .slice a5 m c5, .slice a6 m c6, .slice a7 m c7, .slice a8 m c8] : Array Value)[i]?))
        (first | exact C1 | exact C2 | exact C3)
        ((first
        | (go_at_call 12; refine (F1 _ K2.out).out.mono ?_; rintro e V3 ⟨d2, D2, rfl, hb, -, hd, hk'⟩; have K3 := Lib.hid (K2.out.trans hk'); have B1' := Lib.hid (B1.out.kept hk'); have B2 := Lib.hid hb; have I2 := Lib.hid hd; have C3 : (∀ i, V3.cell? ⟨cb, i, none⟩ = (#[.int .i64 n, .int .i64 S, .int .i64 T, .slice a3 (n + 1) c3, .slice a4 m c4, .slice a5 m c5, .slice a6 m c6, .slice a7 m c7, .slice a8 m c8] : Array Value)[i]?) := (HGF.out.kept (HK.out.trans K3.out)).box.cell; clear hk' hb hd)
        | (go_at_call 11; refine (T1 _ K1.out).out.mono ?_; rintro e V2 ⟨d1, D1, rfl, hb, -, hd, hk'⟩; have K2 := Lib.hid (K1.out.trans hk'); have B1 := Lib.hid hb; have I1 := Lib.hid hd; have C2 : (∀ i, V2.cell? ⟨cb, i, none⟩ = (#[.int .i64 n, .int .i64 S, .int .i64 T, .slice a3 (n + 1) c3, .slice a4 m c4, .slice a5 m c5, .slice a6 m c6, .slice a7 m c7, .slice a8 m c8] : Array Value)[i]?) := (HGF.out.kept (HK.out.trans K2.out)).box.cell; clear hk' hb hd)))
      have LL : Hid (D1.length = n ∧ D2.length = n) := Lib.hid ⟨I1.out.len, I2.out.len⟩
      clear C1 C2 K1 K2 B1 T1 F1 j0
      have bx := C3
      clear C3
      have HNI := fun (d5 : Nat) (w : World) (k : Kept V3 w) (h : Rd w (some ⟨d5, 0, none⟩) (nv D1)) => Lib.hid (nats_z (some ⟨d1, 0, none⟩) (some ⟨d5, 0, none⟩) n n D1 D1 n n true w (Rd.blk (B1'.out.kept k)) h LL.out.1 LL.out.1 (by omega) (by omega) (by simp))
      have HNJ := fun (d5 : Nat) (w : World) (k : Kept V3 w) (h : Rd w (some ⟨d5, 0, none⟩) (nv D2)) => Lib.hid (nats_z (some ⟨d2, 0, none⟩) (some ⟨d5, 0, none⟩) n n D2 D2 n n true w (Rd.blk (B2.out.kept k)) h LL.out.2 LL.out.2 (by omega) (by omega) (by simp))
      have hnn : ((n : Int) != (n : Int)) = false := by simp
      go_wp2_with fail
      refine (F2 _ K3.out).out.mono ?_
      rintro e V4 ⟨d4, D4, rfl, hb4, -, hd4, hk4⟩
      obtain rfl : D4 = D1 := hd4.one (I1.out.congr (fun v x _ _ => (HOB.out v x).symm))
      have R4 := Lib.hid (Rd.blk hb4)
      have K4 := Lib.hid ((Upd.refl (fun _ => False) V3).trans hk4)
      clear hb4 hd4 hk4 F2 bx
      have bx := (HGF.out.kept (HK.out.trans (K3.out.trans K4.out))).box.cell
      go_wp2_with fail
      refine (HNI _ _ K4.out R4.out).mono ?_
      rintro e V5 ⟨rfl, hk5⟩
      have K5 := Lib.hid (K4.out.trans hk5)
      clear hk5 HNI R4 bx
      have bx := (HGF.out.kept (HK.out.trans (K3.out.trans K5.out))).box.cell
      go_wp2_with fail
      refine (T2 _ (K3.out.trans K5.out)).out.mono ?_
      rintro e V6 ⟨d6, D6, rfl, hb6, -, hd6, hk6⟩
      obtain rfl : D6 = D2 := hd6.one (I2.out.congr (fun v x _ _ => (HOB.out x v).symm))
      have R6 := Lib.hid (Rd.blk hb6)
      have K6 := Lib.hid (K5.out.trans hk6)
      clear hb6 hd6 hk6 T2 bx
      have bx := (HGF.out.kept (HK.out.trans (K3.out.trans K6.out))).box.cell
      go_wp2_with fail
      refine (HNJ _ _ K6.out R6.out).mono ?_
      rintro e V7 ⟨rfl, hk7⟩
      have K7 := Lib.hid (K6.out.trans hk7)
      clear hk7 HNJ R6 bx
      have bx := (HGF.out.kept (HK.out.trans (K3.out.trans K7.out))).box.cell
      have q1 : V7.cell? ⟨d1, s, none⟩ = some (.int .i64 (D4.getD s 0 : Nat)) := by rw [(B1'.out.kept K7.out).cell]; simp only [List.getElem?_toArray]; exact nv_get (by rw [LL.out.1]; exact sn)
      have q2 : V7.cell? ⟨d2, t, none⟩ = some (.int .i64 (D6.getD t 0 : Nat)) := by rw [(B2.out.kept K7.out).cell]; simp only [List.getElem?_toArray]; exact nv_get (by rw [LL.out.2]; exact tn)
      have q3 : V7.cell? ⟨d2, u, none⟩ = some (.int .i64 (D6.getD u 0 : Nat)) := by rw [(B2.out.kept K7.out).cell]; simp only [List.getElem?_toArray]; exact nv_get (by rw [LL.out.2]; exact un)
      have q4 : V7.cell? ⟨d1, u, none⟩ = some (.int .i64 (D4.getD u 0 : Nat)) := by rw [(B1'.out.kept K7.out).cell]; simp only [List.getElem?_toArray]; exact nv_get (by rw [LL.out.1]; exact un)
      have e1 : D4.getD s 0 = D6.getD t 0 := I2.out.both I1.out
      have e2 : D4.getD u 0 < n → D6.getD t 0 ≤ D6.getD u 0 + D4.getD u 0 := fun h => I2.out.via I1.out _ u un rfl h
      have e3 := I2.out.le t tn
      have e4 := I2.out.le u un
      have e5 := I1.out.le u un
      have HKV := Lib.hid (HK.out.trans (K3.out.trans K7.out))
      rw [e1] at q1
      generalize D6.getD t 0 = y1 at q1 q2 e2 e3
      generalize D6.getD u 0 = y2 at q3 e2 e4
      generalize D4.getD u 0 = y3 at q4 e2 e5
      have HAW := fun (w : World) => Lib.hid (awake5_any w)
      have a1 : (0 : Int) ≤ (s : Int) := by omega
      have a2 : (s : Int) < (n : Int) := by omega
      have a3' : (0 : Int) ≤ (t : Int) := by omega
      have a4' : (t : Int) < (n : Int) := by omega
      have a5' : (0 : Int) ≤ (u : Int) := by omega
      have a6' : (u : Int) < (n : Int) := by omega
      have hyy : ((y1 : Int) != (y1 : Int)) = false := by simp
      have hy2 : y2 ≤ 1000 := Nat.le_trans e4 (Nat.le_trans hn16 (by decide))
      have hy3 : y3 ≤ 1000 := Nat.le_trans e5 (Nat.le_trans hn16 (by decide))
      have hw1 := wrap_ad y2 y3 hy2 hy3
      have hw2 := wrap_ad' y2 y3 hy2 hy3
      clear K3 K4 K5 K6 K7 I1 I2 e1 LL B1' B2
      have tail : ∀ wz, Kept V7 wz → Hid (Kept w wz) := fun wz k => Lib.hid (HK0.out.trans (HKV.out.trans k))
      by_cases c1 : y2 < n
      · have z1 : decide ((y2 : Int) < (n : Int)) = true := by simpa using c1
        by_cases c2 : y3 < n
        · have z2 : decide ((y3 : Int) < (n : Int)) = true := by simpa using c2
          have z3 := e2 c2
          have z4 : ¬ (y2 : Int) + (y3 : Int) < (y1 : Int) := by omega
          have z5 : decide ((y2 : Int) + (y3 : Int) < (y1 : Int)) = false := by simpa using z4
          have z6 : ¬ y2 + y3 < y1 := by omega
          go_upto_region 13 with (fail)
          refine wp_region_kept (by kernel_rfl) (by kernel_rfl) ?_
          repeat (go_big_quiet_step (fail))
          refine wpQuiet_nil ?_
          intro w1 hk1
          go_wp2_with fail
          refine (HAW _).out.mono ?_
          rintro e w9 ⟨rfl, hk9⟩
          go_wp2_with fail
          go_ret
          exact ⟨rfl, (tail _ (hk1.trans hk9)).out⟩
        · have z2 : decide ((y3 : Int) < (n : Int)) = false := by simp; omega
          go_upto_region 13 with (fail)
          refine wp_region_kept (by kernel_rfl) (by kernel_rfl) ?_
          repeat (go_big_quiet_step (fail))
          refine wpQuiet_nil ?_
          intro w1 hk1
          go_wp2_with fail
          refine (HAW _).out.mono ?_
          rintro e w9 ⟨rfl, hk9⟩
          go_wp2_with fail
          go_ret
          exact ⟨rfl, (tail _ (hk1.trans hk9)).out⟩
      · have z1 : decide ((y2 : Int) < (n : Int)) = false := by simp; omega
        go_upto_region 13 with (fail)
        refine wp_region_kept (by kernel_rfl) (by kernel_rfl) ?_
        repeat (go_big_quiet_step (fail))
        refine wpQuiet_nil ?_
        intro w1 hk1
        go_wp2_with fail
        refine (HAW _).out.mono ?_
        rintro e w9 ⟨rfl, hk9⟩
        go_wp2_with fail
        go_ret
        exact ⟨rfl, (tail _ (hk1.trans hk9)).out⟩
theorem distTurns_walk (N S T : Int) (a : Option Addr) (cap : Nat) (els : List (List Value)) (s1 : Option Addr) (cap1 : Nat) (z1 : List Int) (x1 x2 x3 : Int) (w : World) (_wN : (Lit.int .i64 N).wf = true) (_wS : (Lit.int .i64 S).wf = true) (_wT : (Lit.int .i64 T).wf = true) (hrow : FlatRow [some .i64, some .i64, some .i64] w a cap els) (_hf : ∀ x ∈ els, fits [some .i64, some .i64, some .i64] x)
    (w1 : IntRow .i64 w s1 cap1 z1) (m1 : ∀ n ∈ z1, (Lit.int .i64 n).wf = true) (wa : (Lit.int .u8 x1).wf = true) (wb : (Lit.int .u8 x2).wf = true) (wc : (Lit.int .u8 x3).wf = true) :
    Calls Try.prog 4 #[.agg #[.int .i64 N, .int .i64 S, .int .i64 T, .slice a els.length cap], .slice s1 z1.length cap1, .int .u8 x1, .int .u8 x2, .int .u8 x3] w fun e w' => e = .returned (.bool true) ∧ Kept w w' := by
  obtain ⟨xs, hl, hA, hx⟩ := ars_of_flat hrow
  have hle := hrow.le
  have hmo := hrow.most
  have l1 := w1.le
  have l1' := w1.most
  unfold maxLen at hmo l1'
  exact distTurns_core N S T a els.length cap xs s1 cap1 z1 x1 x2 x3 w hA hl hle hmo (fun x hx0 => bounds_i64 (hx x hx0).2.2) w1.rd (fun x hx0 => bounds_i64 (m1 x hx0)) (by omega) (bounds_u8 wa) (bounds_u8 wb) (bounds_u8 wc)
end Go.Proofs.Ytoapekkmaajfmaa
