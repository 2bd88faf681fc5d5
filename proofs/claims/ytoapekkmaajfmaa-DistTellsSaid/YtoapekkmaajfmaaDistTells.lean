/- The law DistTells (printed by gen_disttells.py). -/
import Derived.Test.YtoapekkmaajfmaaDistPairs
import Derived.Test.YtoapekkmaajfmaaUnblock
import Derived.Test.YtoapekkmaajfmaaAwake05
import Derived.Test.YtoapekkmaajfmaaSomeNet
import Derived.Test.YtoapekkmaajfmaaRowsRd
import Derived.Deep.CutRange
namespace Go.Proofs.Ytoapekkmaajfmaa
set_option linter.unusedVariables false
set_option linter.unusedSimpArgs false
open Go.RowKit

theorem infoI64 : (Try.prog.info? 2).map (fun i => (i.zero, i.size, i.bytes)) = some (some (.int .i64 0), 1, 8) := by kernel_rfl
theorem Rd.take5 {w : World} {a : Option Addr} {rs : List Int} (h : Rd w a (lv rs)) (k : Nat) : Rd w a (lv (rs.take k)) := by
  rcases h with h | ⟨b, off, rfl, hc⟩
  · left
    have : rs = [] := by simpa [lv] using h
    subst this
    simp [lv]
  · refine .inr ⟨b, off, rfl, fun i u hu => hc i u ?_⟩
    unfold lv at hu ⊢
    rw [List.map_take, List.getElem?_take] at hu
    split at hu
    · exact hu
    · cases hu
/-- What the law looks at. -/
structure LT (N S T : Int) (n m : Nat) (a3 a4 a5 a6 a7 a8 : Option Addr) (c3 c4 c5 c6 c7 c8 : Nat) (w : World) (ys : List Ar) (cb : Nat) (ra : Option Addr) (rs : List Int) (wr : World) : Prop where
  kp : Kept w wr
  box : Blk wr cb #[.int .i64 N, .int .i64 S, .int .i64 T, .slice a3 (n + 1) c3, .slice a4 m c4, .slice a5 m c5, .slice a6 m c6, .slice a7 m c7, .slice a8 m c8] 29
  cr : CsrR wr n ys a3 a4 a5 a6 a7 a8
  rs : Rd wr ra (lv rs)
theorem LT.kept {N S T : Int} {n m : Nat} {a3 a4 a5 a6 a7 a8 : Option Addr} {c3 c4 c5 c6 c7 c8 : Nat} {w : World} {ys : List Ar} {cb : Nat} {ra : Option Addr} {rs : List Int} {wr w' : World} (h : LT N S T n m a3 a4 a5 a6 a7 a8 c3 c4 c5 c6 c7 c8 w ys cb ra rs wr) (hk : Kept wr w') : LT N S T n m a3 a4 a5 a6 a7 a8 c3 c4 c5 c6 c7 c8 w ys cb ra rs w' :=
  ⟨h.kp.trans hk, h.box.kept hk, h.cr.kept hk, h.rs.kept hk⟩
structure LW5 (N S T : Int) (n m : Nat) (a3 a4 a5 a6 a7 a8 : Option Addr) (c3 c4 c5 c6 c7 c8 : Nat) (w : World) (ys : List Ar) (cb : Nat) (ra : Option Addr) (rs : List Int) (wa1 wa2 : Option Addr) (D : List Nat) (wr : World) : Prop where
  b : LT N S T n m a3 a4 a5 a6 a7 a8 c3 c4 c5 c6 c7 c8 w ys cb ra rs wr
  v1 : Rd wr wa1 (nv D)
  v2 : Rd wr wa2 (nv D)
theorem LW5.kept {N S T : Int} {n m : Nat} {a3 a4 a5 a6 a7 a8 : Option Addr} {c3 c4 c5 c6 c7 c8 : Nat} {w : World} {ys : List Ar} {cb : Nat} {ra : Option Addr} {rs : List Int} {wa1 wa2 : Option Addr} {D : List Nat} {wr w' : World} (h : LW5 N S T n m a3 a4 a5 a6 a7 a8 c3 c4 c5 c6 c7 c8 w ys cb ra rs wa1 wa2 D wr) (hk : Kept wr w') : LW5 N S T n m a3 a4 a5 a6 a7 a8 c3 c4 c5 c6 c7 c8 w ys cb ra rs wa1 wa2 D w' :=
  ⟨h.b.kept hk, h.v1.kept hk, h.v2.kept hk⟩
/-- One number more at the end of what is left. -/
theorem LT.push {N S T : Int} {n m : Nat} {a3 a4 a5 a6 a7 a8 : Option Addr} {c3 c4 c5 c6 c7 c8 : Nat} {w : World} {ys : List Ar} {cb B : Nat} {ra : Option Addr} {rc : Nat} {rs : List Int} {wr w' : World} {a' : Option Addr} {c' : Nat} (h : LT N S T n m a3 a4 a5 a6 a7 a8 c3 c4 c5 c6 c7 c8 w ys cb ra rs wr) (hl : ∃ lo, CsrL lo B a3 a4 a5 a6 a7 a8) (hb : w.heap.size ≤ B) (ho : wr.ownsRow B 2 1 (.slice ra m rc) m (lv rs))
    (hg : Grew wr w' (.slice ra m rc) (.slice a' (m + 1) c')) (ho' : w'.ownsRow w.heap.size 2 1 (.slice a' (m + 1) c') (m + 1) (lv rs ++ [.int .i64 1])) : LT N S T n m a3 a4 a5 a6 a7 a8 c3 c4 c5 c6 c7 c8 w ys cb a' (rs ++ [1]) w' := by
  obtain ⟨lo, l3, l4, l5, l6, l7, l8⟩ := hl
  have far : ∀ (a : Option Addr), ABet lo B a → ∀ x, a = some x → ¬ (Value.slice ra m rc).ownBlock = some x.block := fun a ha x hx hk => by
    have h1 := (ha x hx).2
    have h2 := (World.ownsRow.lt ho x.block hk).1
    omega
  refine ⟨hg.kept h.kp ho hb, hg.blk h.box ho (by decide), ⟨h.cr.r3.upd hg.upd (far _ l3), h.cr.r4.upd hg.upd (far _ l4), h.cr.r5.upd hg.upd (far _ l5), h.cr.r6.upd hg.upd (far _ l6), h.cr.r7.upd hg.upd (far _ l7), h.cr.r8.upd hg.upd (far _ l8)⟩, ?_⟩
  obtain ⟨a2, c2, e, hr⟩ := Rd.owns ho'
  cases e
  rw [show lv (rs ++ [1]) = lv rs ++ [.int .i64 1] by simp [lv]]
  exact hr

set_option maxRecDepth 100000 in
set_option maxHeartbeats 4000000 in
theorem distTells_core (N0 S0 T0 : Int) (a : Option Addr) (k0 cap : Nat) (ys0 : List Ar) (la : Option Addr) (lc : Nat) (ls : List Int) (s t cut : Int) (w : World)
    (h : Ars w a ys0) (hk0 : ys0.length = k0) (hle : k0 ≤ cap) (hmost : cap ≤ 9223372036854775807) (hwf : ∀ x ∈ ys0, -9223372036854775808 ≤ x.c ∧ x.c ≤ 9223372036854775807)
    (hl : Rd w la (lv ls)) (hli : ∀ x ∈ ls, -9223372036854775808 ≤ x ∧ x ≤ 9223372036854775807) (hll : ls.length ≤ 9223372036854775807)
    (hc0 : 0 ≤ cut) (hc1 : cut ≤ 255) :
    Calls Try.prog 6 #[.agg #[.int .i64 N0, .int .i64 S0, .int .i64 T0, .slice a k0 cap], .slice la ls.length lc, .int .i64 s, .int .i64 t, .int .u8 cut] w fun e w' => e = .returned (.bool true) ∧ Kept w w' := by
  have HS : ∀ (w : World), Ars w a ys0 → Hid (Calls Try.prog 10 #[.agg #[.int .i64 N0, .int .i64 S0, .int .i64 T0, .slice a k0 cap], .int .i64 16, .int .i64 40] w (NetIs w)) := by
    intro w h
    subst hk0
    exact Lib.hid (Some_any N0 S0 T0 a cap ys0 w h hle hmost hwf)
  have HX := Lib.hid (h.kept ((Upd.refl (fun _ => False) w).alloc (.cells #[.int .i64 N0, .int .i64 S0, .int .i64 T0, .slice a k0 cap] 24)))
  have HK := Lib.hid ((Upd.refl (fun _ => False) w).alloc (.cells #[.int .i64 N0, .int .i64 S0, .int .i64 T0, .slice a k0 cap] 24))
  have HL := Lib.hid hl
  have HLI := Lib.hid hli
  clear h hl hli hle hmost hwf
  go_enter Try.func6, Try.ntmps6
  go_wp2_with fail
  refine (HS _ HX.out).out.mono ?_
  rintro e w1 ⟨N, S, T, a', cap', ys, rfl, hok, hown, hk1⟩
  have HK1 := Lib.hid (HK.out.trans hk1)
  have HOK := Lib.hid hok
  have HA : Hid (Ars w1 a' ys) := Lib.hid hown.at.2
  clear hk1 hok hown HS HX HK
  have HLE := fun (w : World) (h : Ars w a' ys) (hl : Rd w la (lv ls)) => Lib.hid (Left_ok N S T a' cap' ys la lc ls w h HOK.out hl HLI.out hll)
  go_wp2_with fail
  refine (HLE _ HA.out (HL.out.kept HK1.out)).out.mono ?_
  rintro e w2 ⟨B, n, m, a3, c3, a4, c4, a5, c5, a6, c6, a7, c7, a8, c8, ra, rc, rfl, hn, hm2, hcr, hcl, hk2, hB, hro⟩
  have HG : Hid (Gr N S T n m ys) := Lib.hid ⟨HOK.out, hn, hm2⟩
  obtain ⟨rs, hrs⟩ : ∃ rs, resAll (wths ls ys) n ys = rs := ⟨_, rfl⟩
  have HRM : Hid (rs.length = m) := Lib.hid (by rw [← hrs, resAll_len]; exact hm2)
  rw [hrs] at hro
  have HRC : Hid (m ≤ rc) := Lib.hid (row_cap' hro)
  have hrr : Rd w2 ra (lv rs) := by
    obtain ⟨ra', rc', e9, hrr⟩ := Rd.owns hro
    cases e9
    exact hrr
  have hA := (Upd.refl (fun _ => False) w2).alloc (.cells #[.int .i64 N, .int .i64 S, .int .i64 T, .slice a3 (n + 1) c3, .slice a4 m c4, .slice a5 m c5, .slice a6 m c6, .slice a7 m c7, .slice a8 m c8] 29)
  have HKK := Lib.hid ((HK1.out.trans hk2).trans hA)
  have HCL : Hid (∃ lo, CsrL lo B a3 a4 a5 a6 a7 a8) := Lib.hid ⟨_, hcl⟩
  have HBB : Hid (w.heap.size ≤ B) := Lib.hid (Nat.le_trans HK1.out.size hB)
  have HRO : Hid ((w2.alloc (.cells #[.int .i64 N, .int .i64 S, .int .i64 T, .slice a3 (n + 1) c3, .slice a4 m c4, .slice a5 m c5, .slice a6 m c6, .slice a7 m c7, .slice a8 m c8] 29)).ownsRow B 2 1 (.slice ra m rc) m (lv rs)) := Lib.hid (ownsRow_upd hro hA (fun _ _ f => f))
  have X0 : Hid (LT N S T n m a3 a4 a5 a6 a7 a8 c3 c4 c5 c6 c7 c8 w ys w2.heap.size ra rs (w2.alloc (.cells #[.int .i64 N, .int .i64 S, .int .i64 T, .slice a3 (n + 1) c3, .slice a4 m c4, .slice a5 m c5, .slice a6 m c6, .slice a7 m c7, .slice a8 m c8] 29))) := Lib.hid ⟨HKK.out, Blk.new _ _ _, hcr.kept hA, hrr.kept hA⟩
  clear hn hm2 hcr hcl hk2 hB hro hrr hrs hA HKK HLE HA HOK HK1 HL HLI hll hk0
  have hm640 : m ≤ 640 := by have := HG.out.len; omega
  go_upto_region 2 with (fail)
  generalize (w2.alloc (.cells #[.int .i64 N, .int .i64 S, .int .i64 T, .slice a3 (n + 1) c3, .slice a4 m c4, .slice a5 m c5, .slice a6 m c6, .slice a7 m c7, .slice a8 m c8] 29)) = W0 at X0 HRO ⊢
  generalize w2.heap.size = cb at X0 ⊢
  go_upto_if 26 with (fail)
  refine wp_unblock ?_
  go_cut [12] from 25 to 37 (fun x wx => ∃ (ra2 : Option Addr) (rl rc2 : Nat) (rs2 : List Int), x = .slice ra2 rl rc2 ∧ Hid (rs2.length = rl) ∧ Hid (LT N S T n m a3 a4 a5 a6 a7 a8 c3 c4 c5 c6 c7 c8 w ys cb ra2 rs2 wx))
  case first =>
    by_cases q0 : cut % 8 = 0
    · have b0 : (cut % 8 == 0) = true := by simpa using q0
      obtain ⟨i0', hi0, hz0, hz1, hz2⟩ := info_parts infoI64
      have hxl : m ≤ 2000000 := by omega
      have hbs := X0.out.kp.size
      have ho := ownsRow_base HRO.out HBB.out
      go_wp2_with (first | (at_builtin; refine wpList_push rfl _ _ 25 rfl w.heap.size 2 i0' (.int .i64 0) 8 Try.underlying25 hi0 hz0 hz1 hz2 rfl (by decide) _ _ _ rfl ho (.int .i64 1) rfl rfl hxl hbs ?_; intro g cap2 w5 hown hg2; clear hi0 hz0 hz1 hz2 hxl hbs; have X5 := Lib.hid (X0.out.push HCL.out HBB.out HRO.out hg2 hown); clear hown hg2 ho X0 HRO) | fail)
      go_meet
      case rel => exact ⟨_, m + 1, _, rs ++ [1], rfl, Lib.hid (by rw [List.length_append, HRM.out]; rfl), X5⟩
    · have b0 : (cut % 8 == 0) = false := by simpa using q0
      by_cases q1 : cut % 8 = 1
      · have b1 : (cut % 8 == 1) = true := by simpa using q1
        obtain ⟨rl, hrl⟩ : ∃ rl, rl = m / 2 := ⟨_, rfl⟩
        have e2 : (m : Int) / 2 = (rl : Int) := by omega
        have hrb : (rl : Int) ≤ 1000 := by omega
        have hw8 : wrap64 (rl : Int) = (rl : Int) := by unfold wrap64; omega
        have hsl := fun w => run_take (P := Try.prog) Try.underlying25 (size := 1) (by kernel_rfl) ra m rc rl (by have := HRC.out; omega) w
        have HRL : Hid ((rs.take rl).length = rl) := Lib.hid (by have := HRM.out; rw [List.length_take]; omega)
        clear hrl
        go_wp2_with fail
        go_meet
        case rel => exact ⟨ra, rl, rc, rs.take rl, rfl, HRL, Lib.hid ⟨X0.out.kp, X0.out.box, X0.out.cr, X0.out.rs.take5 rl⟩⟩
      · have b1 : (cut % 8 == 1) = false := by simpa using q1
        go_wp2_with fail
        go_meet
        case rel => exact ⟨ra, m, rc, rs, rfl, HRM, X0⟩
  case rest =>
    obtain ⟨ra2, rl, rc2, rs2, rfl, HRL, X1⟩ := hcut
    clear X0 HRO HCL HBB HRM HRC
    obtain ⟨DT, hdt, htp⟩ := to_pair N S T n m a3 a4 a5 a6 a7 a8 c3 c4 c5 c6 c7 c8 ys ra2 rl rc2 rs2 t HG.out HRL.out
    obtain ⟨DF, hdf, hfp⟩ := from_pair N S T n m a3 a4 a5 a6 a7 a8 c3 c4 c5 c6 c7 c8 ys ra2 rl rc2 rs2 s HG.out HRL.out
    obtain ⟨DW, wz, hdw, hwp⟩ := way_pair N S T n m a3 a4 a5 a6 a7 a8 c3 c4 c5 c6 c7 c8 ys ra2 rl rc2 rs2 s t HG.out HRL.out
    obtain ⟨DL, DR, hdl, hdr, hrp⟩ := rows_pair N S T n m a3 a4 a5 a6 a7 a8 c3 c4 c5 c6 c7 c8 ys ra2 rl rc2 rs2 t HG.out HRL.out
    have HTP := fun w h1 h2 => Lib.hid (htp w h1 h2)
    have HFP := fun w h1 h2 => Lib.hid (hfp w h1 h2)
    have HWP := fun w h1 h2 => Lib.hid (hwp w h1 h2)
    have HRP := fun w h1 h2 => Lib.hid (hrp w h1 h2)
    have HDT : Hid (DT.length ≤ 1000000000) := Lib.hid (by omega)
    have HDF : Hid (DF.length ≤ 1000000000) := Lib.hid (by omega)
    have HDW : Hid (DW.length ≤ 1000000000) := Lib.hid (by omega)
    have HDL : Hid (DL ≤ 1000000) := Lib.hid (by omega)
    have HDR : Hid (∀ j, j < DL → (DR j).length ≤ 1000000000) := Lib.hid (fun j h => by have := hdr j h; omega)
    clear hdt htp hdf hfp hdw hwp hdl hdr hrp
    have bx := X1.out.box.cell
    go_wp2_with fail
    refine ((HWP _ X1.out.cr X1.out.rs).out.1).mono ?_
    rintro e W2 ⟨wa1, wc1, rfl, hv, hk⟩
    have X2 := Lib.hid (X1.out.kept hk)
    have VW1 := Lib.hid hv
    clear hv hk bx X1
    have bx := X2.out.box.cell
    go_wp2_with fail
    refine ((HWP _ X2.out.cr X2.out.rs).out.2).mono ?_
    rintro e W3 ⟨wa2, wc2, rfl, hv, hk⟩
    have X3 : Hid (LW5 N S T n m a3 a4 a5 a6 a7 a8 c3 c4 c5 c6 c7 c8 w ys cb ra2 rs2 wa1 wa2 DW W3) := Lib.hid ⟨X2.out.kept hk, VW1.out.kept hk, hv⟩
    clear hv hk bx X2 VW1
    have zz : (wz == wz) = true := by simp
    go_upto_region 9 with (fail)
    have X4 := Lib.hid (X3.out.kept ((Upd.refl _ W3).drew))
    have C4 : (∀ i, W3.drew.cell? ⟨cb, i, none⟩ = (#[.int .i64 N, .int .i64 S, .int .i64 T, .slice a3 (n + 1) c3, .slice a4 m c4, .slice a5 m c5, .slice a6 m c6, .slice a7 m c7, .slice a8 m c8] : Array Value)[i]?) := X4.out.b.box.cell
    clear X3
    go_region_held3 (fun w' => (∀ i, w'.cell? ⟨cb, i, none⟩ = (#[.int .i64 N, .int .i64 S, .int .i64 T, .slice a3 (n + 1) c3, .slice a4 m c4, .slice a5 m c5, .slice a6 m c6, .slice a7 m c7, .slice a8 m c8] : Array Value)[i]?))
      (first | exact C4 | exact C5 | exact C6 | exact C7 | exact C8 | exact C9 | exact C10 | exact C11 | exact C12 | exact C13 | exact C14 | exact C15)
      ((first
        | (go_at_call 14; refine (awake5_any _).mono ?_; rintro e W15 ⟨rfl, hk⟩; have X15 := Lib.hid (X14.out.kept hk); have C15 : (∀ i, W15.cell? ⟨cb, i, none⟩ = (#[.int .i64 N, .int .i64 S, .int .i64 T, .slice a3 (n + 1) c3, .slice a4 m c4, .slice a5 m c5, .slice a6 m c6, .slice a7 m c7, .slice a8 m c8] : Array Value)[i]?) := X15.out.b.box.cell; clear hk)
        | (go_at_call 20; refine (rows_same _ _ _ _ _ DR _ V11p.out V12.out HDL.out HDR.out).mono ?_; rintro e W14 ⟨rfl, hk⟩; have X14 := Lib.hid (X13.out.kept hk); have C14 : (∀ i, W14.cell? ⟨cb, i, none⟩ = (#[.int .i64 N, .int .i64 S, .int .i64 T, .slice a3 (n + 1) c3, .slice a4 m c4, .slice a5 m c5, .slice a6 m c6, .slice a7 m c7, .slice a8 m c8] : Array Value)[i]?) := X14.out.b.box.cell; clear hk)
        | (go_at_call 21; refine ((HRP _ X12.out.b.cr X12.out.b.rs).out.2).mono ?_; rintro e W13 ⟨p12, q12, rfl, hv, hk⟩; have X13 := Lib.hid (X12.out.kept hk); have C13 : (∀ i, W13.cell? ⟨cb, i, none⟩ = (#[.int .i64 N, .int .i64 S, .int .i64 T, .slice a3 (n + 1) c3, .slice a4 m c4, .slice a5 m c5, .slice a6 m c6, .slice a7 m c7, .slice a8 m c8] : Array Value)[i]?) := X13.out.b.box.cell; have V12 := Lib.hid hv; have V11p := Lib.hid (V11.out.kept hk); clear hv; clear hk)
        | (go_at_call 15; refine ((HRP _ X11.out.b.cr X11.out.b.rs).out.1).mono ?_; rintro e W12 ⟨p11, q11, rfl, hv, hk⟩; have X12 := Lib.hid (X11.out.kept hk); have C12 : (∀ i, W12.cell? ⟨cb, i, none⟩ = (#[.int .i64 N, .int .i64 S, .int .i64 T, .slice a3 (n + 1) c3, .slice a4 m c4, .slice a5 m c5, .slice a6 m c6, .slice a7 m c7, .slice a8 m c8] : Array Value)[i]?) := X12.out.b.box.cell; have V11 := Lib.hid hv; clear hv; clear hk)
        | (go_at_call 13; refine (nats_z _ _ _ _ DW DW _ _ true _ X10.out.v1 X10.out.v2 rfl rfl HDW.out HDW.out (by simp)).mono ?_; rintro e W11 ⟨rfl, hk⟩; have X11 := Lib.hid (X10.out.kept hk); have C11 : (∀ i, W11.cell? ⟨cb, i, none⟩ = (#[.int .i64 N, .int .i64 S, .int .i64 T, .slice a3 (n + 1) c3, .slice a4 m c4, .slice a5 m c5, .slice a6 m c6, .slice a7 m c7, .slice a8 m c8] : Array Value)[i]?) := X11.out.b.box.cell; clear hk)
        | (go_at_call 13; refine (nats_z _ _ _ _ DF DF _ _ true _ V7p.out V8.out rfl rfl HDF.out HDF.out (by simp)).mono ?_; rintro e W10 ⟨rfl, hk⟩; have X10 := Lib.hid (X9.out.kept hk); have C10 : (∀ i, W10.cell? ⟨cb, i, none⟩ = (#[.int .i64 N, .int .i64 S, .int .i64 T, .slice a3 (n + 1) c3, .slice a4 m c4, .slice a5 m c5, .slice a6 m c6, .slice a7 m c7, .slice a8 m c8] : Array Value)[i]?) := X10.out.b.box.cell; clear hk)
        | (go_at_call 19; refine ((HFP _ X8.out.b.cr X8.out.b.rs).out.2).mono ?_; rintro e W9 ⟨p8, q8, rfl, hv, hk⟩; have X9 := Lib.hid (X8.out.kept hk); have C9 : (∀ i, W9.cell? ⟨cb, i, none⟩ = (#[.int .i64 N, .int .i64 S, .int .i64 T, .slice a3 (n + 1) c3, .slice a4 m c4, .slice a5 m c5, .slice a6 m c6, .slice a7 m c7, .slice a8 m c8] : Array Value)[i]?) := X9.out.b.box.cell; have V8 := Lib.hid hv; have V7p := Lib.hid (V7.out.kept hk); clear hv; clear hk)
        | (go_at_call 12; refine ((HFP _ X7.out.b.cr X7.out.b.rs).out.1).mono ?_; rintro e W8 ⟨p7, q7, rfl, hv, hk⟩; have X8 := Lib.hid (X7.out.kept hk); have C8 : (∀ i, W8.cell? ⟨cb, i, none⟩ = (#[.int .i64 N, .int .i64 S, .int .i64 T, .slice a3 (n + 1) c3, .slice a4 m c4, .slice a5 m c5, .slice a6 m c6, .slice a7 m c7, .slice a8 m c8] : Array Value)[i]?) := X8.out.b.box.cell; have V7 := Lib.hid hv; clear hv; clear hk)
        | (go_at_call 13; refine (nats_z _ _ _ _ DT DT _ _ true _ V4p.out V5.out rfl rfl HDT.out HDT.out (by simp)).mono ?_; rintro e W7 ⟨rfl, hk⟩; have X7 := Lib.hid (X6.out.kept hk); have C7 : (∀ i, W7.cell? ⟨cb, i, none⟩ = (#[.int .i64 N, .int .i64 S, .int .i64 T, .slice a3 (n + 1) c3, .slice a4 m c4, .slice a5 m c5, .slice a6 m c6, .slice a7 m c7, .slice a8 m c8] : Array Value)[i]?) := X7.out.b.box.cell; clear hk)
        | (go_at_call 18; refine ((HTP _ X5.out.b.cr X5.out.b.rs).out.2).mono ?_; rintro e W6 ⟨p5, q5, rfl, hv, hk⟩; have X6 := Lib.hid (X5.out.kept hk); have C6 : (∀ i, W6.cell? ⟨cb, i, none⟩ = (#[.int .i64 N, .int .i64 S, .int .i64 T, .slice a3 (n + 1) c3, .slice a4 m c4, .slice a5 m c5, .slice a6 m c6, .slice a7 m c7, .slice a8 m c8] : Array Value)[i]?) := X6.out.b.box.cell; have V5 := Lib.hid hv; have V4p := Lib.hid (V4.out.kept hk); clear hv; clear hk)
        | (go_at_call 11; refine ((HTP _ X4.out.b.cr X4.out.b.rs).out.1).mono ?_; rintro e W5 ⟨p4, q4, rfl, hv, hk⟩; have X5 := Lib.hid (X4.out.kept hk); have C5 : (∀ i, W5.cell? ⟨cb, i, none⟩ = (#[.int .i64 N, .int .i64 S, .int .i64 T, .slice a3 (n + 1) c3, .slice a4 m c4, .slice a5 m c5, .slice a6 m c6, .slice a7 m c7, .slice a8 m c8] : Array Value)[i]?) := X5.out.b.box.cell; have V4 := Lib.hid hv; clear hv; clear hk)))
    go_wp2_with fail
    go_ret
    exact ⟨rfl, X15.out.b.kp⟩
theorem distTells_walk (N S T : Int) (a : Option Addr) (cap : Nat) (els : List (List Value)) (s1 : Option Addr) (cap1 : Nat) (z1 : List Int) (s t cut : Int) (w : World) (_wN : (Lit.int .i64 N).wf = true) (_wS : (Lit.int .i64 S).wf = true) (_wT : (Lit.int .i64 T).wf = true) (hrow : FlatRow [some .i64, some .i64, some .i64] w a cap els) (_hf : ∀ x ∈ els, fits [some .i64, some .i64, some .i64] x)
    (w1 : IntRow .i64 w s1 cap1 z1) (m1 : ∀ n ∈ z1, (Lit.int .i64 n).wf = true) (_ws : (Lit.int .i64 s).wf = true) (_wt : (Lit.int .i64 t).wf = true) (wc : (Lit.int .u8 cut).wf = true) :
    Calls Try.prog 6 #[.agg #[.int .i64 N, .int .i64 S, .int .i64 T, .slice a els.length cap], .slice s1 z1.length cap1, .int .i64 s, .int .i64 t, .int .u8 cut] w fun e w' => e = .returned (.bool true) ∧ Kept w w' := by
  obtain ⟨xs, hl, hA, hx⟩ := ars_of_flat hrow
  have hle := hrow.le
  have hmo := hrow.most
  have l1 := w1.le
  have l1' := w1.most
  unfold maxLen at hmo l1'
  exact distTells_core N S T a els.length cap xs s1 cap1 z1 s t cut w hA hl hle hmo (fun x hx0 => bounds_i64 (hx x hx0).2.2) w1.rd (fun x hx0 => bounds_i64 (m1 x hx0)) (by omega) (bounds_u8 wc).1 (bounds_u8 wc).2
end Go.Proofs.Ytoapekkmaajfmaa
