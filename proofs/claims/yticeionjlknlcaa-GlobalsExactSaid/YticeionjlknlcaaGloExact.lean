/- The law GlobalsExact (printed by gen_gloexact.py). -/
import Derived.Test.YticeionjlknlcaaLowerW
import Derived.Test.YticeionjlknlcaaAwake20
import Derived.Test.YticeionjlknlcaaLabAt
import Derived.Test.YticeionjlknlcaaGst
import Derived.Test.YticeionjlknlcaaCopyRow
import Derived.Test.YticeionjlknlcaaMapRd
import Derived.Deep.CutRange
import Derived.StillTailTactics
namespace Go.Proofs.Yticeionjlknlcaa
set_option linter.unusedVariables false
set_option linter.unusedSimpArgs false
open Go.RowKit

attribute [local go_sem] cell?_ext
/-- What Lower hands back at right heights. -/
def LowAt (w : World) (S : Int) (n m : Nat) (ys : List Ar) (rs hs : List Int) (e : Ending) (w' : World) : Prop :=
  ∃ a c L, e = .returned (.slice a n c) ∧ IsLow S n m ys rs hs L ∧ Rd w' a (lv L) ∧ (∀ ad, a = some ad → w.heap.size ≤ ad.block) ∧ Kept w w'
theorem low_at (N S T : Int) (n m : Nat) (a3 a4 a5 a6 a7 a8 : Option Addr) (c3 c4 c5 c6 c7 c8 : Nat) (ys : List Ar) (ra : Option Addr) (rc : Nat) (rs : List Int) (ha : Option Addr) (hc : Nat) (hs : List Int) (w : World) (hg : Gr N S T n m ys) (hrm : rs.length = m) (hl : hs.length = n) (hR : rightB N S T hs = true) (hcr : CsrR w n ys a3 a4 a5 a6 a7 a8) (hr : Rd w ra (lv rs)) (hh : Rd w ha (lv hs)) :
    Calls Try.prog 16 #[.agg #[.int .i64 N, .int .i64 S, .int .i64 T, .slice a3 (n + 1) c3, .slice a4 m c4, .slice a5 m c5, .slice a6 m c6, .slice a7 m c7, .slice a8 m c8], .slice ra m rc, .slice ha n hc] w (LowAt w S n m ys rs hs) := by
  have hlen := hg.len
  have h1 := lower_any N S T n m a3 a4 a5 a6 a7 a8 c3 c4 c5 c6 c7 c8 ys ra rc rs ha hc hs w hg hcr hr hh (by omega) (by omega)
  rw [hrm, hl] at h1
  have hmay : mayB N S T m rs hs = true := by
    unfold mayB
    rw [hR, hrm]
    simp
  refine h1.mono ?_
  rintro e w' ⟨a, k, c, L, rfl, hk, hL, hr, -, hlo, hkk⟩
  unfold LowL at hL
  rw [if_pos hmay] at hL
  have hn := hL.len
  obtain rfl : n = k := by omega
  exact ⟨a, c, L, rfl, hL, hr, hlo, hkk⟩

theorem IntRow.rd {k : IntKind} {w : World} {a : Option Addr} {cap : Nat} {zs : List Int} (h : IntRow k w a cap zs) : Rd w a (zs.map (Value.int k)) := by
  rcases h.cells with h0 | ⟨b, off, rfl, hc⟩
  · exact .inl (by rw [List.eq_nil_of_length_eq_zero h0]; rfl)
  · refine .inr ⟨b, off, rfl, fun i u hu => ?_⟩
    rw [List.getElem?_map] at hu
    obtain ⟨x, hx, rfl⟩ := Option.map_eq_some_iff.1 hu
    obtain ⟨hi, rfl⟩ := List.getElem?_eq_some_iff.1 hx
    exact hc i hi
theorem allN_right {N S T : Int} {n m : Nat} {ys : List Ar} (hg : Gr N S T n m ys) : rightB N S T (allN n N T) = true := by
  have hl := hg.len
  refine right_parts.2 ⟨by rw [allN_len]; omega, fun x hx => ?_, ?_, ?_⟩
  · obtain ⟨v, hv, rfl⟩ := List.mem_iff_getElem.1 hx
    rw [allN_len] at hv
    have e := allN_get n N T v hv (by omega)
    rw [show (allN n N T)[v] = (allN n N T).getD v 0 by simp [allN_len, hv], e]
    split <;> omega
  · rw [allN_get _ _ _ _ (by omega) (by omega), if_pos rfl]
  · rw [allN_get _ _ _ _ (by omega) (by omega), if_neg (by omega)]
set_option maxRecDepth 100000 in
set_option maxHeartbeats 4000000 in
theorem globalsExact_core (N0 S0 T0 : Int) (a : Option Addr) (k0 cap : Nat) (ys0 : List Ar) (la : Option Addr) (lc : Nat) (ls : List Int) (ha : Option Addr) (hc : Nat) (hs0 : List Int) (o1 o2 : Int) (w : World)
    (h : Ars w a ys0) (hk0 : ys0.length = k0) (hle : k0 ≤ cap) (hmost : cap ≤ 9223372036854775807) (hwf : ∀ x ∈ ys0, -9223372036854775808 ≤ x.c ∧ x.c ≤ 9223372036854775807)
    (hl : Rd w la (lv ls)) (hli : ∀ x ∈ ls, -9223372036854775808 ≤ x ∧ x ≤ 9223372036854775807) (hll : ls.length ≤ 9223372036854775807)
    (hh1 : Rd w ha (lv hs0)) (hm1 : hs0.length ≤ 9223372036854775807) (p1 : 0 ≤ o1 ∧ o1 ≤ 255) (p2 : 0 ≤ o2 ∧ o2 ≤ 255) :
    Calls Try.prog 8 #[.agg #[.int .i64 N0, .int .i64 S0, .int .i64 T0, .slice a k0 cap], .slice la ls.length lc, .slice ha hs0.length hc, .int .u8 o1, .int .u8 o2] w fun e w' => e = .returned (.bool true) ∧ Kept w w' := by
  have HS : ∀ (w : World), Ars w a ys0 → Hid (Calls Try.prog 13 #[.agg #[.int .i64 N0, .int .i64 S0, .int .i64 T0, .slice a k0 cap], .int .i64 16, .int .i64 40] w (NetIs w)) := by
    intro w h
    subst hk0
    exact Lib.hid (Some_any N0 S0 T0 a cap ys0 w h hle hmost hwf)
  have HX := Lib.hid (h.kept ((Upd.refl (fun _ => False) w).alloc (.cells #[.int .i64 N0, .int .i64 S0, .int .i64 T0, .slice a k0 cap] 24)))
  have HK := Lib.hid ((Upd.refl (fun _ => False) w).alloc (.cells #[.int .i64 N0, .int .i64 S0, .int .i64 T0, .slice a k0 cap] 24))
  have HL := Lib.hid hl
  have HLI := Lib.hid hli
  have HHR := Lib.hid hh1
  have HHX := Lib.hid hm1
  clear hh1 hm1
  clear h hl hli hle hmost hwf
  go_enter Try.func8, Try.ntmps8
  go_wp2_with fail
  refine (HS _ HX.out).out.mono ?_
  rintro e w1 ⟨N, S, T, a', cap', ys, rfl, hok, hown, hk1⟩
  have HK1 := Lib.hid (HK.out.trans hk1)
  have HOK := Lib.hid hok
  have HA : Hid (Ars w1 a' ys) := Lib.hid hown.at.2
  clear hk1 hok hown HS HX HK
  have HLE := fun (w : World) (h : Ars w a' ys) (hl : Rd w la (lv ls)) => Lib.hid (Left_ok N S T a' cap' ys la lc ls w h HOK.out hl HLI.out hll)
  go_wp2_with fail
  refine (HLE _ HA.out (HL.out.kept HK1.out)).out.mono ?_
  rintro e w2 ⟨B, n, m, a3, c3, a4, c4, a5, c5, a6, c6, a7, c7, a8, c8, ra, rc, rfl, hn, hm2, hcr, -, hk2, -, hro⟩
  have HG : Hid (Gr N S T n m ys) := Lib.hid ⟨HOK.out, hn, hm2⟩
  obtain ⟨rs, hrs⟩ : ∃ rs, resAll (wths ls ys) n ys = rs := ⟨_, rfl⟩
  have HRM : Hid (rs.length = m) := Lib.hid (by rw [← hrs, resAll_len]; exact hm2)
  have HRI : Hid (∀ x ∈ rs, 0 ≤ x ∧ x < 1125899906842624) := Lib.hid (by rw [← hrs]; exact left_in HG.out HLI.out)
  rw [hrs] at hro
  have HRC : Hid (m ≤ rc) := Lib.hid (row_cap' hro)
  have HSO : Hid ((∃ ad, ra = some ad) ∨ (ra = none ∧ m = 0 ∧ rc = 0)) := Lib.hid (someOr_row hro)
  obtain ⟨ra', rc', e9, hrr⟩ := Rd.owns hro
  cases e9
  have hA := (Upd.refl (fun _ => False) w2).alloc (.cells #[.int .i64 N, .int .i64 S, .int .i64 T, .slice a3 (n + 1) c3, .slice a4 m c4, .slice a5 m c5, .slice a6 m c6, .slice a7 m c7, .slice a8 m c8] 29)
  have HK0 := Lib.hid ((HK1.out.trans hk2).trans hA)
  have HGF : Hid (GF N S T n m a3 a4 a5 a6 a7 a8 c3 c4 c5 c6 c7 c8 ys w2.heap.size ra rs (w2.alloc (.cells #[.int .i64 N, .int .i64 S, .int .i64 T, .slice a3 (n + 1) c3, .slice a4 m c4, .slice a5 m c5, .slice a6 m c6, .slice a7 m c7, .slice a8 m c8] 29))) := Lib.hid ⟨Blk.new _ _ _, hcr.kept hA, hrr.kept hA⟩
  clear hn hm2 hcr hk2 hro hrr hrs hA HLE HA HOK HK1 HL HLI hll
  clear hk0
  go_upto_region 2 with (fail)
  generalize (w2.alloc (.cells #[.int .i64 N, .int .i64 S, .int .i64 T, .slice a3 (n + 1) c3, .slice a4 m c4, .slice a5 m c5, .slice a6 m c6, .slice a7 m c7, .slice a8 m c8] 29)) = wB at HGF HK0 ⊢
  generalize w2.heap.size = cb at HGF ⊢
  have HK1 : Hid (Kept wB wB) := Lib.hid (Upd.refl _ _)
  obtain ⟨w1, hw1⟩ : ∃ w1 : Nat, (w1 : Int) = 1 + o1 % 64 := ⟨(1 + o1 % 64).toNat, by omega⟩
  obtain ⟨w2, hw2⟩ : ∃ w2 : Nat, (w2 : Int) = 1 + o2 % 64 := ⟨(1 + o2 % 64).toNat, by omega⟩
  have b1 : 1 ≤ w1 ∧ w1 ≤ 64 := by omega
  have b2 : 1 ≤ w2 ∧ w2 ≤ 64 := by omega
  have HE1 := fun (w : World) (k : Kept wB w) => Lib.hid (exact_ok N S T n m a3 a4 a5 a6 a7 a8 c3 c4 c5 c6 c7 c8 ys ra rc rs w1 w HG.out HRM.out (HGF.out.kept k).cr (HGF.out.kept k).rs b1.1 b1.2)
  have HE2 := fun (w : World) (k : Kept wB w) => Lib.hid (exact_ok N S T n m a3 a4 a5 a6 a7 a8 c3 c4 c5 c6 c7 c8 ys ra rc rs w2 w HG.out HRM.out (HGF.out.kept k).cr (HGF.out.kept k).rs b2.1 b2.2)
  have f1 : IntKind.i64.wrap (1 + IntKind.i64.wrap (o1.tmod 64)) = (w1 : Int) := by rw [Int.tmod_eq_emod_of_nonneg p1.1, IntKind.wrap_i64, IntKind.wrap_i64]; omega
  have f2 : IntKind.i64.wrap (1 + IntKind.i64.wrap (o2.tmod 64)) = (w2 : Int) := by rw [Int.tmod_eq_emod_of_nonneg p2.1, IntKind.wrap_i64, IntKind.wrap_i64]; omega
  clear hw1 hw2 b1 b2
  have C0 : (∀ i, wB.drew.cell? ⟨cb, i, none⟩ = (#[.int .i64 N, .int .i64 S, .int .i64 T, .slice a3 (n + 1) c3, .slice a4 m c4, .slice a5 m c5, .slice a6 m c6, .slice a7 m c7, .slice a8 m c8] : Array Value)[i]?) := HGF.out.box.drew.cell
  have K0 := Lib.hid (Upd.refl (fun _ => False) wB).drew
  go_region_held3 (fun w' => (∀ i, w'.cell? ⟨cb, i, none⟩ = (#[.int .i64 N, .int .i64 S, .int .i64 T, .slice a3 (n + 1) c3, .slice a4 m c4, .slice a5 m c5, .slice a6 m c6, .slice a7 m c7, .slice a8 m c8] : Array Value)[i]?))
    (first | exact C0 | exact C1 | exact C2)
    ((first
    | (go_at_call 25; (with_reducible refine (HE2 _ K1.out).out.mono ?_); rintro e W2 ⟨yb, Y, rfl, hY, hB, -, hk⟩; obtain rfl := HXL.out.unique hY; have K2 := Lib.hid (K1.out.trans hk); have RX2 := Lib.hid (RX1.out.kept hk); have RY2 := Lib.hid (Rd.blk hB); have C2 : (∀ i, W2.cell? ⟨cb, i, none⟩ = (#[.int .i64 N, .int .i64 S, .int .i64 T, .slice a3 (n + 1) c3, .slice a4 m c4, .slice a5 m c5, .slice a6 m c6, .slice a7 m c7, .slice a8 m c8] : Array Value)[i]?) := (HGF.out.kept K2.out).box.cell; clear hY hB hk)
    | (go_at_call 25; (with_reducible refine (HE1 _ K0.out).out.mono ?_); rintro e W1 ⟨xb, X, rfl, hX, hB, -, hk⟩; have K1 := Lib.hid (K0.out.trans hk); have HXL := Lib.hid hX; have RX1 := Lib.hid (Rd.blk hB); have C1 : (∀ i, W1.cell? ⟨cb, i, none⟩ = (#[.int .i64 N, .int .i64 S, .int .i64 T, .slice a3 (n + 1) c3, .slice a4 m c4, .slice a5 m c5, .slice a6 m c6, .slice a7 m c7, .slice a8 m c8] : Array Value)[i]?) := (HGF.out.kept K1.out).box.cell; clear hX hB hk)))
  clear C0 C1 C2 K0 K1 RX1 HE1 HE2 f1 f2
  rename_i hHeld
  clear hHeld
  have hn16 : n ≤ 16 := by have := HG.out.len; omega
  have HRA : Hid (rightB N S T (allN n N T) = true) := Lib.hid (allN_right HG.out)
  have HXN : Hid (X.length = n) := Lib.hid HXL.out.len
  have HVL : Hid (validB N S T n m ys rs X = true) := Lib.hid (low_valid HG.out HRM.out HRA.out HXL.out)
  have bx := (HGF.out.kept K2.out).box.cell
  have HI := Lib.hid (ints_exG (some ⟨xb, 0, none⟩) (some ⟨yb, 0, none⟩) n n X n W2 HXN.out (by omega) RX2.out RY2.out)
  go_wp2_with fail
  refine HI.out.mono ?_
  rintro e W3 ⟨rfl, hk⟩
  have K3 := Lib.hid (K2.out.trans hk)
  have RX3 := Lib.hid (RX2.out.kept hk)
  clear hk K2 RX2 RY2 HI bx
  have bx := (HGF.out.kept K3.out).box.cell
  have HV := Lib.hid (valid_at N S T n m a3 a4 a5 a6 a7 a8 c3 c4 c5 c6 c7 c8 ys ra rc rs (some ⟨xb, 0, none⟩) n X m n W3 HG.out (HGF.out.kept K3.out).cr (HGF.out.kept K3.out).rs RX3.out (by have := HXN.out; omega) HRM.out HXN.out)
  rw [HVL.out] at HV
  go_wp2_with fail
  refine HV.out.mono ?_
  rintro e W4 ⟨rfl, hk⟩
  have K4 := Lib.hid (K3.out.trans hk)
  have RX4 := Lib.hid (RX3.out.kept hk)
  clear hk K3 RX3 HV bx
  go_upto_region 5 with (fail)
  have K4d := Lib.hid (K4.out.trans (Upd.refl (fun _ => False) W4).drew)
  have RX4d := Lib.hid (RX4.out.kept (Upd.refl (fun _ => False) W4).drew)
  have C4 : (∀ i, W4.drew.cell? ⟨cb, i, none⟩ = (#[.int .i64 N, .int .i64 S, .int .i64 T, .slice a3 (n + 1) c3, .slice a4 m c4, .slice a5 m c5, .slice a6 m c6, .slice a7 m c7, .slice a8 m c8] : Array Value)[i]?) := (HGF.out.kept K4d.out).box.cell
  have G1 := fun (w : World) (k : Kept wB w) => Lib.hid (heights_any N S T n m a3 a4 a5 a6 a7 a8 c3 c4 c5 c6 c7 c8 ys ha hc hs0 w HG.out (HHR.out.kept (HK0.out.trans k)) HHX.out)
  have HRH : Hid (rightB N S T (htL N S T n hs0) = true) := Lib.hid (htL_right HG.out _)
  have HHL : Hid ((htL N S T n hs0).length = n) := Lib.hid (htL_len _ _ _ _ _)
  generalize (htL N S T n hs0) = hs at G1 HRH HHL
  have LH := fun (w : World) (k : Kept wB w) (a : Option Addr) (c : Nat) (h : Rd w a (lv hs)) => Lib.hid (low_at N S T n m a3 a4 a5 a6 a7 a8 c3 c4 c5 c6 c7 c8 ys ra rc rs a c hs w HG.out HRM.out HHL.out HRH.out (HGF.out.kept k).cr (HGF.out.kept k).rs h)
  clear K4 RX4 HHR HHX
  go_region_held3 (fun w' => (∀ i, w'.cell? ⟨cb, i, none⟩ = (#[.int .i64 N, .int .i64 S, .int .i64 T, .slice a3 (n + 1) c3, .slice a4 m c4, .slice a5 m c5, .slice a6 m c6, .slice a7 m c7, .slice a8 m c8] : Array Value)[i]?))
    (first | exact C4 | exact C5 | exact C6)
    ((first
    | (go_at_call 16; refine (LH _ K5.out _ _ RH5.out).out.mono ?_; rintro e W6 ⟨la, lc, L, rfl, hl0, hr0, -, hk⟩; have K6 := Lib.hid (K5.out.trans hk); have RX6 := Lib.hid (RX5.out.kept hk); have RL6 := Lib.hid hr0; have HIL := Lib.hid hl0; have C6 : (∀ i, W6.cell? ⟨cb, i, none⟩ = (#[.int .i64 N, .int .i64 S, .int .i64 T, .slice a3 (n + 1) c3, .slice a4 m c4, .slice a5 m c5, .slice a6 m c6, .slice a7 m c7, .slice a8 m c8] : Array Value)[i]?) := (HGF.out.kept K6.out).box.cell; clear hl0 hr0 hk)
    | (go_at_call 14; refine (G1 _ K4d.out).out.mono ?_; rintro e W5 ⟨hb, rfl, h3, h4, hk⟩; have K5 := Lib.hid (K4d.out.trans hk); have RX5 := Lib.hid (RX4d.out.kept hk); have RH5 := Lib.hid (Rd.blk h3); have C5 : (∀ i, W5.cell? ⟨cb, i, none⟩ = (#[.int .i64 N, .int .i64 S, .int .i64 T, .slice a3 (n + 1) c3, .slice a4 m c4, .slice a5 m c5, .slice a6 m c6, .slice a7 m c7, .slice a8 m c8] : Array Value)[i]?) := (HGF.out.kept K5.out).box.cell; clear h3 h4 hk)))
  have HLX : Hid (∀ v, v < n → L.getD v 0 ≤ X.getD v 0) := Lib.hid (fun v hv => HXL.out.top L HIL.out.vld (fun u hu => by
    have h1 := HIL.out.le u hu
    obtain ⟨r1, r2, r3, r4⟩ := right_parts.1 HRH.out
    have hl := HG.out.len
    rw [allN_get _ _ _ _ hu (by omega)]
    split
    · rename_i e; rw [e] at h1 ⊢; omega
    · have := (rightB_in HRH.out u (by omega)).2; omega) v hv)
  have HLN : Hid (L.length = n) := Lib.hid HIL.out.len
  rename_i hHeld
  clear hHeld C4 C5 C6 K4d RX4d K5 RX5 RH5 G1 LH HRH HHL HIL
  have hmk := fun w => make_one (P := Try.prog) (t := 26) (e := 3) (z := .int .i64 0) (v := .int .i64 0) (bytes := 8) Try.underlying26 (by kernel_rfl) rfl .i64 n (by omega) (by omega) w
  rw [HG.out.len.1] at hmk
  have bx := (HGF.out.kept K6.out).box.cell
  go_upto_region 8 with (fail)
  have HA0 : Hid (Blk (W6.alloc (.cells (zeros n (.int .i64 0)) 3)) W6.heap.size (lv (filled (List.replicate n N) 0 0)).toArray 3) := Lib.hid (by
    rw [← show zeros n (.int .i64 0) = (lv (filled (List.replicate n N) 0 0)).toArray by rw [zeros_ints, filled_zero, List.length_replicate, lv]]
    exact Blk.new W6 (zeros n (.int .i64 0)) 3)
  have HK7 : Hid (Kept W6 (W6.alloc (.cells (zeros n (.int .i64 0)) 3))) := Lib.hid ((Upd.refl _ _).alloc _)
  clear hmk bx
  obtain ⟨ab, hab⟩ : ∃ ab, W6.heap.size = ab := ⟨_, rfl⟩
  have HAB := Lib.hid hab
  rw [hab] at HA0 ⊢
  clear hab
  generalize (W6.alloc (.cells (zeros n (.int .i64 0)) 3)) = W7 at HA0 HK7 ⊢
  go_loopw [62] (fun ix wr => ∃ k : Nat, ix = .int .i64 k ∧ k ≤ n ∧ Hid (Blk wr ab (lv (filled (List.replicate n N) 0 k)).toArray 3) ∧ Hid (Kept W6 wr)) (fun ix _ => n - (intOf ix).toNat)
  case atStart => exact ⟨0, rfl, by omega, HA0, HK7⟩
  case round =>
    clear HA0 HK7
    obtain ⟨k, rfl, hk, HA1, HK1'⟩ := hrel
    by_cases hlk : k < n
    · have bx := (HGF.out.kept (K6.out.trans HK1'.out)).box.cell
      have hlr : k < (List.replicate n N).length := by simpa using hlk
      have co := HA1.out.filling (xs := List.replicate n N) hlr
      have fo := HA1.out.free k
      have HA2 : Hid (Blk (wr.setCell ⟨ab, k, none⟩ (.int .i64 N)) ab (lv (filled (List.replicate n N) 0 (k + 1))).toArray 3) := Lib.hid (by
        have := HA1.out.fill (xs := List.replicate n N) hlr
        rw [show (List.replicate n N)[k] = N by simp] at this
        exact this)
      have HK2' : Hid (Kept W6 (wr.setCell ⟨ab, k, none⟩ (.int .i64 N))) := Lib.hid (HK1'.out.set (p := ⟨ab, k, none⟩) (by rw [HAB.out]; exact Nat.le_refl _) _)
      have i1 : (0 : Int) ≤ (k : Int) := by omega
      have i2 : (k : Int) < (n : Int) := by omega
      clear hlr HA1 HK1'
      go_wp2_with fail
      go_roundw
      case rel => exact ⟨k + 1, by go_num, by omega, HA2, HK2'⟩
      case measure => simp [intOf]; omega
    · obtain rfl : n = k := by omega
      have bx := (HGF.out.kept (K6.out.trans HK1'.out)).box.cell
      have HAF : Hid (Blk wr ab (lv (List.replicate n N)).toArray 3) := Lib.hid (by
        have h1 := HA1.out
        have h2 := filled_all (List.replicate n N) 0
        rw [List.length_replicate] at h2
        rwa [h2] at h1)
      obtain ⟨hT0, hT1⟩ : 0 ≤ T ∧ T < (n : Int) := by have := HG.out.len; omega
      have hTn : T.toNat < n := by omega
      have co : wr.cell? ⟨ab, T.toNat, none⟩ = some (.int .i64 N) := by
        rw [HAF.out.cell]
        simp only [List.getElem?_toArray]
        rw [lv_get (by simpa using hTn)]
        simp [hTn]
      have fo := HAF.out.free T.toNat
      have HA2 : Hid (Blk (wr.setCell ⟨ab, T.toNat, none⟩ (.int .i64 0)) ab (lv (allN n N T)).toArray 3) := Lib.hid (by
        have := HAF.out.set T.toNat (.int .i64 0)
        rwa [show (lv (allN n N T)).toArray = (lv (List.replicate n N)).toArray.setIfInBounds T.toNat (.int .i64 0) by simp only [allN, lv, List.map_set, List.setIfInBounds_toArray]])
      have HK2' : Hid (Kept W6 (wr.setCell ⟨ab, T.toNat, none⟩ (.int .i64 0))) := Lib.hid (HK1'.out.set (p := ⟨ab, T.toNat, none⟩) (by rw [HAB.out]; exact Nat.le_refl _) _)
      clear HA1 HK1' HAF hk
      go_upto_region 13 with (fail)
      generalize (wr.setCell ⟨ab, T.toNat, none⟩ (.int .i64 0)) = W8 at HA2 HK2' ⊢
      clear bx co fo hT0 hT1 hTn
      have K8 := Lib.hid (K6.out.trans HK2'.out)
      have RX8 := Lib.hid (RX6.out.kept HK2'.out)
      have RL8 := Lib.hid (RL6.out.kept HK2'.out)
      clear HK2' K6 RX6 RL6 HAB
      have bx := (HGF.out.kept K8.out).box.cell
      have hnN : ((n : Int) != N) = false := by have := HG.out.len.1; simp [this]
      have HZ := Lib.hid (low_at N S T n m a3 a4 a5 a6 a7 a8 c3 c4 c5 c6 c7 c8 ys ra rc rs (some ⟨ab, 0, none⟩) n (allN n N T) W8 HG.out HRM.out (allN_len _ _ _) HRA.out (HGF.out.kept K8.out).cr (HGF.out.kept K8.out).rs (Rd.blk HA2.out))
      go_wp2_with fail
      refine HZ.out.mono ?_
      rintro e W9 ⟨za, zc, Z, rfl, hl0, hr0, -, hk⟩
      obtain rfl := HXL.out.unique hl0
      have K9 := Lib.hid (K8.out.trans hk)
      have RX9 := Lib.hid (RX8.out.kept hk)
      have RL9 := Lib.hid (RL8.out.kept hk)
      have HI := Lib.hid (ints_exG za (some ⟨xb, 0, none⟩) zc n X n W9 HXN.out (by omega) hr0 RX9.out)
      clear hl0 hr0 hk HZ K8 RX8 RL8 HA2 bx
      go_wp2_with fail
      refine HI.out.mono ?_
      rintro e WA ⟨rfl, hk⟩
      have KA := Lib.hid (K9.out.trans hk)
      have RXA := Lib.hid (RX9.out.kept hk)
      have RLA := Lib.hid (RL9.out.kept hk)
      clear hk HI K9 RX9 RL9
      go_upto_region 16 with (fail)
      clear hnN
      go_loopw [91] (fun ix wr => ∃ (k : Nat), ix = .int .i64 k ∧ k ≤ n ∧ Hid (Kept WA wr)) (fun ix _ => n - (intOf ix).toNat)
      case atStart => exact ⟨0, rfl, by omega, Lib.hid (Upd.refl _ _)⟩
      case round =>
        obtain ⟨k, rfl, hk, HKW⟩ := hrel
        by_cases hik : k < n
        · obtain ⟨lb, lo, rfl, lcc⟩ := (RLA.out.kept HKW.out).num (i := k) (by rw [HLN.out]; exact hik)
          obtain ⟨xb', xo, ex, xcc⟩ := (RXA.out.kept HKW.out).num (i := k) (by rw [HXN.out]; exact hik)
          cases ex
          rw [Nat.zero_add] at xcc
          have hle := HLX.out k hik
          generalize L.getD k 0 = lvv at lcc hle
          generalize X.getD k 0 = xv at xcc hle
          have g1 : decide (xv < lvv) = false := decide_eq_false (by omega)
          have g2 : ¬ xv < lvv := by omega
          clear hle
          have i1 : (0 : Int) ≤ (k : Int) := by omega
          have i2 : (k : Int) < (n : Int) := by omega
          go_upto_region 18 with (fail)
          refine wp_region_kept (by kernel_rfl) (by kernel_rfl) ?_
          repeat (go_big_quiet_step (fail))
          refine wpQuiet_nil ?_
          intro w9 hk9
          have HKW2 := Lib.hid (HKW.out.trans hk9)
          clear hk9 HKW xcc lcc
          go_wp2_with fail
          go_roundw
          case rel => exact ⟨k + 1, by go_num, by omega, HKW2⟩
          case measure => simp [intOf]; omega
        · go_wp2_with fail
          refine (awake20_any _).mono ?_
          rintro e Wz ⟨rfl, hkz⟩
          have HKZ := Lib.hid (((HK0.out.trans KA.out).trans HKW.out).trans hkz)
          clear hkz HKW
          go_wp2_with fail
          go_ret
          exact ⟨rfl, HKZ.out⟩
theorem globalsExact_walk (N S T : Int) (a : Option Addr) (cap : Nat) (els : List (List Value)) (s1 : Option Addr) (cap1 : Nat) (z1 : List Int) (s2 : Option Addr) (cap2 : Nat) (z2 : List Int) (o1 : Int) (o2 : Int) (w : World) (_wN : (Lit.int .i64 N).wf = true) (_wS : (Lit.int .i64 S).wf = true) (_wT : (Lit.int .i64 T).wf = true) (hrow : FlatRow [some .i64, some .i64, some .i64] w a cap els) (_hf : ∀ x ∈ els, fits [some .i64, some .i64, some .i64] x)
    (w1 : IntRow .i64 w s1 cap1 z1) (m1 : ∀ n ∈ z1, (Lit.int .i64 n).wf = true) (w2 : IntRow .i64 w s2 cap2 z2) (m2 : ∀ n ∈ z2, (Lit.int .i64 n).wf = true) (w_o1 : (Lit.int .u8 o1).wf = true) (w_o2 : (Lit.int .u8 o2).wf = true) :
    Calls Try.prog 8 #[.agg #[.int .i64 N, .int .i64 S, .int .i64 T, .slice a els.length cap], .slice s1 z1.length cap1, .slice s2 z2.length cap2, .int .u8 o1, .int .u8 o2] w fun e w' => e = .returned (.bool true) ∧ Kept w w' := by
  obtain ⟨xs, hl, hA, hx⟩ := ars_of_flat hrow
  have hle := hrow.le
  have hmo := hrow.most
  have l1 := w1.le
  have l1' := w1.most
  have l2 := w2.le
  have l2' := w2.most
  unfold maxLen at hmo l1' l2'
  exact globalsExact_core N S T a els.length cap xs s1 cap1 z1 s2 cap2 z2 o1 o2 w hA hl hle hmo (fun x hx0 => bounds_i64 (hx x hx0).2.2) w1.rd (fun x hx0 => bounds_i64 (m1 x hx0)) (by omega) w2.rd (by omega) (bounds_u8 w_o1) (bounds_u8 w_o2)
end Go.Proofs.Yticeionjlknlcaa
