/- The law LabelTells (printed by gen_labtells.py). -/
import Derived.Test.YtfdbifhkhdnnkaaLabAt
import Derived.Test.YtfdbifhkhdnnkaaRowsRd
import Derived.Deep.CutRange
namespace Go.Proofs.Ytfdbifhkhdnnkaa
set_option linter.unusedVariables false
set_option linter.unusedSimpArgs false
open Go.RowKit

set_option maxRecDepth 100000 in
set_option maxHeartbeats 4000000 in
theorem labTells_core (N0 S0 T0 : Int) (a : Option Addr) (k0 cap : Nat) (ys0 : List Ar) (la : Option Addr) (lc : Nat) (ls : List Int) (ha : Option Addr) (hc : Nat) (hs : List Int) (u odd : Int) (w : World)
    (h : Ars w a ys0) (hk0 : ys0.length = k0) (hle : k0 ≤ cap) (hmost : cap ≤ 9223372036854775807) (hwf : ∀ x ∈ ys0, -9223372036854775808 ≤ x.c ∧ x.c ≤ 9223372036854775807)
    (hl : Rd w la (lv ls)) (hli : ∀ x ∈ ls, -9223372036854775808 ≤ x ∧ x ≤ 9223372036854775807) (hll : ls.length ≤ 9223372036854775807) (hh : Rd w ha (lv hs)) (hm : hs.length ≤ 9223372036854775807) (ho0 : 0 ≤ odd) (ho1 : odd ≤ 255) :
    Calls Try.prog 3 #[.agg #[.int .i64 N0, .int .i64 S0, .int .i64 T0, .slice a k0 cap], .slice la ls.length lc, .slice ha hs.length hc, .int .i64 u, .int .u8 odd] w fun e w' => e = .returned (.bool true) ∧ Kept w w' := by
  have HS : ∀ (w : World), Ars w a ys0 → Hid (Calls Try.prog 9 #[.agg #[.int .i64 N0, .int .i64 S0, .int .i64 T0, .slice a k0 cap], .int .i64 16, .int .i64 40] w (NetIs w)) := by
    intro w h
    subst hk0
    exact Lib.hid (Some_any N0 S0 T0 a cap ys0 w h hle hmost hwf)
  have HX := Lib.hid (h.kept ((Upd.refl (fun _ => False) w).alloc (.cells #[.int .i64 N0, .int .i64 S0, .int .i64 T0, .slice a k0 cap] 24)))
  have HK := Lib.hid ((Upd.refl (fun _ => False) w).alloc (.cells #[.int .i64 N0, .int .i64 S0, .int .i64 T0, .slice a k0 cap] 24))
  have HL := Lib.hid hl
  have HLI := Lib.hid hli
  have HH := Lib.hid hh
  have HMX := Lib.hid hm
  clear h hl hli hh hle hmost hwf
  go_enter Try.func3, Try.ntmps3
  go_wp2_with fail
  refine (HS _ HX.out).out.mono ?_
  rintro e w1 ⟨N, S, T, a', cap', ys, rfl, hok, hown, hk1⟩
  have HK1 := Lib.hid (HK.out.trans hk1)
  have HOK := Lib.hid hok
  have HA : Hid (Ars w1 a' ys) := Lib.hid hown.at.2
  clear hk1 hok hown HS HX HK
  have HLE := fun (w : World) (h : Ars w a' ys) (hl : Rd w la (lv ls)) => Lib.hid (Left_ok N S T a' cap' ys la lc ls w h HOK.out hl HLI.out hll)
  go_wp2_with fail
  refine (HLE _ HA.out (HL.out.kept HK1.out)).out.mono ?_
  rintro e w2 ⟨B, n, m, a3, c3, a4, c4, a5, c5, a6, c6, a7, c7, a8, c8, ra, rc, rfl, hn, hm2, hcr, -, hk2, -, hro⟩
  have HG : Hid (Gr N S T n m ys) := Lib.hid ⟨HOK.out, hn, hm2⟩
  obtain ⟨rs, hrs⟩ : ∃ rs, resAll (wths ls ys) n ys = rs := ⟨_, rfl⟩
  have HRM : Hid (rs.length = m) := Lib.hid (by rw [← hrs, resAll_len]; exact hm2)
  rw [hrs] at hro
  have HRC : Hid (m ≤ rc) := Lib.hid (row_cap hro)
  obtain ⟨ra', rc', e9, hrr⟩ := Rd.owns hro
  cases e9
  have hA := (Upd.refl (fun _ => False) w2).alloc (.cells #[.int .i64 N, .int .i64 S, .int .i64 T, .slice a3 (n + 1) c3, .slice a4 m c4, .slice a5 m c5, .slice a6 m c6, .slice a7 m c7, .slice a8 m c8] 29)
  have HKK := Lib.hid ((HK1.out.trans hk2).trans hA)
  have X0 : Hid (LS N S T n m a3 a4 a5 a6 a7 a8 c3 c4 c5 c6 c7 c8 w ys w2.heap.size ra rs ha hs (w2.alloc (.cells #[.int .i64 N, .int .i64 S, .int .i64 T, .slice a3 (n + 1) c3, .slice a4 m c4, .slice a5 m c5, .slice a6 m c6, .slice a7 m c7, .slice a8 m c8] 29))) := Lib.hid ⟨HKK.out, Blk.new _ _ _, hcr.kept hA, hrr.kept hA, HH.out.kept HKK.out⟩
  clear hn hm2 hcr hk2 hro hrr hrs hA HKK HLE HA HOK HK1
  go_upto_region 2 with (fail)
  generalize (w2.alloc (.cells #[.int .i64 N, .int .i64 S, .int .i64 T, .slice a3 (n + 1) c3, .slice a4 m c4, .slice a5 m c5, .slice a6 m c6, .slice a7 m c7, .slice a8 m c8] 29)) = W0 at X0 ⊢
  generalize w2.heap.size = cb at X0 ⊢
  have bx := X0.out.box.cell
  go_upto_if 28 with (fail)
  go_cut [2] from 26 to 31 (fun x wx => ∃ (ha2 : Option Addr) (hl hc2 : Nat) (hs2 : List Int), x = .slice ha2 hl hc2 ∧ Hid (hs2.length = hl) ∧ Hid (hs2.length ≤ 9223372036854775807) ∧ Hid (LS N S T n m a3 a4 a5 a6 a7 a8 c3 c4 c5 c6 c7 c8 w ys cb ra rs ha2 hs2 wx))
  case first =>
    by_cases q4 : 0 < odd % 4
    · go_wp2_with fail
      refine (heights_any N S T n m a3 a4 a5 a6 a7 a8 c3 c4 c5 c6 c7 c8 ys ha hc hs _ HG.out X0.out.hs HMX.out).mono ?_
      rintro e W1 ⟨g, rfl, hbg, -, hk⟩
      have h := Lib.hid (X0.out.kept hk)
      have HBG := Lib.hid hbg
      have HGL := Lib.hid (show n ≤ 9223372036854775807 by have := HG.out.len; omega)
      clear hbg hk X0 bx
      go_wp2_with fail
      go_meet
      case rel => exact ⟨some ⟨g, 0, none⟩, n, n, htL N S T n hs, rfl, Lib.hid (htL_len N S T n hs), Lib.hid (by rw [htL_len]; exact HGL.out), Lib.hid ⟨h.out.kp, h.out.box, h.out.cr, h.out.rs, Rd.blk HBG.out⟩⟩
    · have hb4 : decide (0 < odd % 4) = false := by simpa using q4
      go_wp2_with fail
      go_meet
      case rel => exact ⟨ha, hs.length, hc, hs, rfl, Lib.hid rfl, HMX, X0⟩
  case rest =>
    obtain ⟨ha2, hl, hc2, hs2, rfl, HHL, HMX, X1⟩ := hcut
    clear X0 bx HH
    go_upto_if 34 with (fail)
    go_cut [12] from 32 to 39 (fun x wx => ∃ (rl rc2 : Nat) (rs2 : List Int), x = .slice ra rl rc2 ∧ Hid (rs2.length = rl) ∧ Hid (LS N S T n m a3 a4 a5 a6 a7 a8 c3 c4 c5 c6 c7 c8 w ys cb ra rs2 ha2 hs2 wx))
    case first =>
      by_cases q8 : odd % 8 = 7
      · have hb8 : (odd % 8 == 7) = true := by simpa using q8
        obtain ⟨rl, hrl⟩ : ∃ rl, rl = m / 2 := ⟨_, rfl⟩
        have e2 : (m : Int) / 2 = (rl : Int) := by omega
        have hrb : (rl : Int) ≤ 1000 := by have := HG.out.len; omega
        have hw8 : wrap64 (rl : Int) = (rl : Int) := by unfold wrap64; omega
        have hsl := fun w => run_take (P := Try.prog) Try.underlying25 (size := 1) (by kernel_rfl) ra m rc rl (by have := HRC.out; omega) w
        have HRL : Hid ((rs.take rl).length = rl) := Lib.hid (by have := HRM.out; rw [List.length_take]; omega)
        clear hrl
        go_wp2_with fail
        go_meet
        case rel => exact ⟨rl, rc, rs.take rl, rfl, HRL, Lib.hid ⟨X1.out.kp, X1.out.box, X1.out.cr, X1.out.rs.take rl, X1.out.hs⟩⟩
      · have hb8 : (odd % 8 == 7) = false := by simpa using q8
        go_wp2_with fail
        go_meet
        case rel => exact ⟨m, rc, rs, rfl, HRM, X1⟩
    case rest =>
      obtain ⟨rl, rc2, rs2, rfl, HRL, X1'⟩ := hcut
      clear X1
      have X1 := X1'
      clear X1' HRM HRC
      rename World => W1
      as_aux_lemma =>
        have HG1 := HG.out
        obtain ⟨zr, hzr⟩ : ∃ z, rightB N S T hs2 = z := ⟨_, rfl⟩
        obtain ⟨zv, hzv⟩ : ∃ z, validB N S T n m ys rs2 hs2 = z := ⟨_, rfl⟩
        obtain ⟨sm, hsm⟩ : ∃ z, sumH N S T hs2 = z := ⟨_, rfl⟩
        obtain ⟨Ls, hLs⟩ : ∃ z, dnL N S T n m ys rs2 hs2 (isP true) = z := ⟨_, rfl⟩
        obtain ⟨Lf, hLf⟩ : ∃ z, dnL N S T n m ys rs2 hs2 (isP false) = z := ⟨_, rfl⟩
        obtain ⟨ks, hks⟩ : ∃ z, Ls.length = z := ⟨_, rfl⟩
        obtain ⟨kf, hkf⟩ : ∃ z, Lf.length = z := ⟨_, rfl⟩
        have HKLst : Hid (Ls.length = ks ∧ ks ≤ 1000000000) := Lib.hid ⟨hks, by have h1 := dnL_len N S T n m ys rs2 hs2 (isP true); rw [hLs] at h1; have := HG1.len; omega⟩
        have HKLfl : Hid (Lf.length = kf ∧ kf ≤ 1000000000) := Lib.hid ⟨hkf, by have h1 := dnL_len N S T n m ys rs2 hs2 (isP false); rw [hLf] at h1; have := HG1.len; omega⟩
        have Hright := fun (w : World) (h1 : CsrR w n ys a3 a4 a5 a6 a7 a8) (h2 : Rd w ra (lv rs2)) (h3 : Rd w ha2 (lv hs2)) => Lib.hid (hzr ▸ right_at N S T n m a3 a4 a5 a6 a7 a8 c3 c4 c5 c6 c7 c8 ys ra rc2 rs2 ha2 hc2 hs2 rl hl w HG1 h1 h2 h3 HMX.out HRL.out HHL.out)
        have HrefRight := fun (w : World) (h1 : CsrR w n ys a3 a4 a5 a6 a7 a8) (h2 : Rd w ra (lv rs2)) (h3 : Rd w ha2 (lv hs2)) => Lib.hid (hzr ▸ refRight_at N S T n m a3 a4 a5 a6 a7 a8 c3 c4 c5 c6 c7 c8 ys ra rc2 rs2 ha2 hc2 hs2 rl hl w HG1 h1 h2 h3 HMX.out HRL.out HHL.out)
        have Hvalid := fun (w : World) (h1 : CsrR w n ys a3 a4 a5 a6 a7 a8) (h2 : Rd w ra (lv rs2)) (h3 : Rd w ha2 (lv hs2)) => Lib.hid (hzv ▸ valid_at N S T n m a3 a4 a5 a6 a7 a8 c3 c4 c5 c6 c7 c8 ys ra rc2 rs2 ha2 hc2 hs2 rl hl w HG1 h1 h2 h3 HMX.out HRL.out HHL.out)
        have HrefValid := fun (w : World) (h1 : CsrR w n ys a3 a4 a5 a6 a7 a8) (h2 : Rd w ra (lv rs2)) (h3 : Rd w ha2 (lv hs2)) => Lib.hid (hzv ▸ refValid_at N S T n m a3 a4 a5 a6 a7 a8 c3 c4 c5 c6 c7 c8 ys ra rc2 rs2 ha2 hc2 hs2 rl hl w HG1 h1 h2 h3 HMX.out HRL.out HHL.out)
        have Hsum := fun (w : World) (h1 : CsrR w n ys a3 a4 a5 a6 a7 a8) (h2 : Rd w ra (lv rs2)) (h3 : Rd w ha2 (lv hs2)) => Lib.hid (hsm ▸ sum_at N S T n m a3 a4 a5 a6 a7 a8 c3 c4 c5 c6 c7 c8 ys ra rc2 rs2 ha2 hc2 hs2 rl hl w HG1 h1 h2 h3 HMX.out HRL.out HHL.out)
        have HrefSum := fun (w : World) (h1 : CsrR w n ys a3 a4 a5 a6 a7 a8) (h2 : Rd w ra (lv rs2)) (h3 : Rd w ha2 (lv hs2)) => Lib.hid (hsm ▸ refSum_at N S T n m a3 a4 a5 a6 a7 a8 c3 c4 c5 c6 c7 c8 ys ra rc2 rs2 ha2 hc2 hs2 rl hl w HG1 h1 h2 h3 HMX.out HRL.out HHL.out)
        have Hsteep := fun (w : World) (h1 : CsrR w n ys a3 a4 a5 a6 a7 a8) (h2 : Rd w ra (lv rs2)) (h3 : Rd w ha2 (lv hs2)) => Lib.hid (steep_at N S T n m a3 a4 a5 a6 a7 a8 c3 c4 c5 c6 c7 c8 ys ra rc2 rs2 ha2 hc2 hs2 rl hl Ls ks w HG1 h1 h2 h3 HMX.out HRL.out HHL.out hLs hks)
        have HrefSteep := fun (w : World) (h1 : CsrR w n ys a3 a4 a5 a6 a7 a8) (h2 : Rd w ra (lv rs2)) (h3 : Rd w ha2 (lv hs2)) => Lib.hid (refSteep_at N S T n m a3 a4 a5 a6 a7 a8 c3 c4 c5 c6 c7 c8 ys ra rc2 rs2 ha2 hc2 hs2 rl hl Ls ks w HG1 h1 h2 h3 HMX.out HRL.out HHL.out hLs hks)
        have Hflat := fun (w : World) (h1 : CsrR w n ys a3 a4 a5 a6 a7 a8) (h2 : Rd w ra (lv rs2)) (h3 : Rd w ha2 (lv hs2)) => Lib.hid (flat_at N S T n m a3 a4 a5 a6 a7 a8 c3 c4 c5 c6 c7 c8 ys ra rc2 rs2 ha2 hc2 hs2 rl hl Lf kf w HG1 h1 h2 h3 HMX.out HRL.out HHL.out hLf hkf)
        have HrefFlat := fun (w : World) (h1 : CsrR w n ys a3 a4 a5 a6 a7 a8) (h2 : Rd w ra (lv rs2)) (h3 : Rd w ha2 (lv hs2)) => Lib.hid (refFlat_at N S T n m a3 a4 a5 a6 a7 a8 c3 c4 c5 c6 c7 c8 ys ra rc2 rs2 ha2 hc2 hs2 rl hl Lf kf w HG1 h1 h2 h3 HMX.out HRL.out HHL.out hLf hkf)
        clear HG1 hzr hzv hsm hLs hLf hks hkf
        have bx := X1.out.box.cell
        go_wp2_with fail
        refine (least_at N S T n m a3 a4 a5 a6 a7 a8 c3 c4 c5 c6 c7 c8 ys _ _ _ _ _ _ rl hl u _ HG.out X1.out.cr X1.out.rs X1.out.hs HMX.out HRL.out HHL.out).mono ?_
        rintro e W2 ⟨b, l, p, rfl, h0, hk⟩
        have X2 := Lib.hid (X1.out.kept hk)
        have HL0 := Lib.hid h0
        clear h0
        clear hk bx X1
        have bx := X2.out.box.cell
        go_wp2_with fail
        refine (refLeast_at N S T n m a3 a4 a5 a6 a7 a8 c3 c4 c5 c6 c7 c8 ys _ _ _ _ _ _ rl hl u _ HG.out X2.out.cr X2.out.rs X2.out.hs HMX.out HRL.out HHL.out).mono ?_
        rintro e W3 ⟨b', l', p', rfl, h0, hk⟩
        have X3 := Lib.hid (X2.out.kept hk)
        obtain ⟨e1, e2, e3⟩ := leastOf_one HL0.out h0
        subst e1 e2 e3
        clear h0 HL0
        clear hk bx X2
        go_upto_region 8 with (fail)
        simp only [List.append]
        have X4 := Lib.hid (X3.out.kept ((Upd.refl _ W3).drew))
        have C4 : (∀ i, W3.drew.cell? ⟨cb, i, none⟩ = (#[.int .i64 N, .int .i64 S, .int .i64 T, .slice a3 (n + 1) c3, .slice a4 m c4, .slice a5 m c5, .slice a6 m c6, .slice a7 m c7, .slice a8 m c8] : Array Value)[i]?) := X4.out.box.cell
        clear X3
        go_region_held3 (fun w' => (∀ i, w'.cell? ⟨cb, i, none⟩ = (#[.int .i64 N, .int .i64 S, .int .i64 T, .slice a3 (n + 1) c3, .slice a4 m c4, .slice a5 m c5, .slice a6 m c6, .slice a7 m c7, .slice a8 m c8] : Array Value)[i]?))
          (first | exact C4 | exact C5 | exact C6 | exact C7 | exact C8 | exact C9 | exact C10 | exact C11 | exact C12 | exact C13 | exact C14 | exact C15 | exact C16 | exact C17)
          ((first
            | (go_at_call 24; refine (awake6_any _).mono ?_; rintro e W17 ⟨rfl, hk⟩; have X17 := Lib.hid (X16.out.kept hk); have C17 : (∀ i, W17.cell? ⟨cb, i, none⟩ = (#[.int .i64 N, .int .i64 S, .int .i64 T, .slice a3 (n + 1) c3, .slice a4 m c4, .slice a5 m c5, .slice a6 m c6, .slice a7 m c7, .slice a8 m c8] : Array Value)[i]?) := X17.out.box.cell; clear hk)
            | (go_at_call 23; refine ((HrefSum _ X15.out.cr X15.out.rs X15.out.hs).out).mono ?_; rintro e W16 ⟨rfl, hk⟩; have X16 := Lib.hid (X15.out.kept hk); have C16 : (∀ i, W16.cell? ⟨cb, i, none⟩ = (#[.int .i64 N, .int .i64 S, .int .i64 T, .slice a3 (n + 1) c3, .slice a4 m c4, .slice a5 m c5, .slice a6 m c6, .slice a7 m c7, .slice a8 m c8] : Array Value)[i]?) := X16.out.box.cell; clear hk)
            | (go_at_call 22; refine ((Hsum _ X14.out.cr X14.out.rs X14.out.hs).out).mono ?_; rintro e W15 ⟨rfl, hk⟩; have X15 := Lib.hid (X14.out.kept hk); have C15 : (∀ i, W15.cell? ⟨cb, i, none⟩ = (#[.int .i64 N, .int .i64 S, .int .i64 T, .slice a3 (n + 1) c3, .slice a4 m c4, .slice a5 m c5, .slice a6 m c6, .slice a7 m c7, .slice a8 m c8] : Array Value)[i]?) := X15.out.box.cell; clear hk)
            | (go_at_call 21; refine ((HrefValid _ X13.out.cr X13.out.rs X13.out.hs).out).mono ?_; rintro e W14 ⟨rfl, hk⟩; have X14 := Lib.hid (X13.out.kept hk); have C14 : (∀ i, W14.cell? ⟨cb, i, none⟩ = (#[.int .i64 N, .int .i64 S, .int .i64 T, .slice a3 (n + 1) c3, .slice a4 m c4, .slice a5 m c5, .slice a6 m c6, .slice a7 m c7, .slice a8 m c8] : Array Value)[i]?) := X14.out.box.cell; clear hk)
            | (go_at_call 20; refine ((Hvalid _ X12.out.cr X12.out.rs X12.out.hs).out).mono ?_; rintro e W13 ⟨rfl, hk⟩; have X13 := Lib.hid (X12.out.kept hk); have C13 : (∀ i, W13.cell? ⟨cb, i, none⟩ = (#[.int .i64 N, .int .i64 S, .int .i64 T, .slice a3 (n + 1) c3, .slice a4 m c4, .slice a5 m c5, .slice a6 m c6, .slice a7 m c7, .slice a8 m c8] : Array Value)[i]?) := X13.out.box.cell; clear hk)
            | (go_at_call 15; refine (nats_at _ _ _ _ _ _ _ V10p.out V10.out HKLfl.out.1 HKLfl.out.2).mono ?_; rintro e W12 ⟨rfl, hk⟩; have X12 := Lib.hid (X11.out.kept hk); have C12 : (∀ i, W12.cell? ⟨cb, i, none⟩ = (#[.int .i64 N, .int .i64 S, .int .i64 T, .slice a3 (n + 1) c3, .slice a4 m c4, .slice a5 m c5, .slice a6 m c6, .slice a7 m c7, .slice a8 m c8] : Array Value)[i]?) := X12.out.box.cell; clear hk)
            | (go_at_call 19; refine ((HrefFlat _ X10.out.cr X10.out.rs X10.out.hs).out).mono ?_; rintro e W11 ⟨av10, cv10, rfl, hv, hk⟩; have X11 := Lib.hid (X10.out.kept hk); have C11 : (∀ i, W11.cell? ⟨cb, i, none⟩ = (#[.int .i64 N, .int .i64 S, .int .i64 T, .slice a3 (n + 1) c3, .slice a4 m c4, .slice a5 m c5, .slice a6 m c6, .slice a7 m c7, .slice a8 m c8] : Array Value)[i]?) := X11.out.box.cell; have V10 := Lib.hid hv; have V10p := Lib.hid (V9.out.kept hk); clear hv; clear hk)
            | (go_at_call 18; refine ((Hflat _ X9.out.cr X9.out.rs X9.out.hs).out).mono ?_; rintro e W10 ⟨av9, cv9, rfl, hv, hk⟩; have X10 := Lib.hid (X9.out.kept hk); have C10 : (∀ i, W10.cell? ⟨cb, i, none⟩ = (#[.int .i64 N, .int .i64 S, .int .i64 T, .slice a3 (n + 1) c3, .slice a4 m c4, .slice a5 m c5, .slice a6 m c6, .slice a7 m c7, .slice a8 m c8] : Array Value)[i]?) := X10.out.box.cell; have V9 := Lib.hid hv; clear hv; clear hk)
            | (go_at_call 15; refine (nats_at _ _ _ _ _ _ _ V7p.out V7.out HKLst.out.1 HKLst.out.2).mono ?_; rintro e W9 ⟨rfl, hk⟩; have X9 := Lib.hid (X8.out.kept hk); have C9 : (∀ i, W9.cell? ⟨cb, i, none⟩ = (#[.int .i64 N, .int .i64 S, .int .i64 T, .slice a3 (n + 1) c3, .slice a4 m c4, .slice a5 m c5, .slice a6 m c6, .slice a7 m c7, .slice a8 m c8] : Array Value)[i]?) := X9.out.box.cell; clear hk)
            | (go_at_call 17; refine ((HrefSteep _ X7.out.cr X7.out.rs X7.out.hs).out).mono ?_; rintro e W8 ⟨av7, cv7, rfl, hv, hk⟩; have X8 := Lib.hid (X7.out.kept hk); have C8 : (∀ i, W8.cell? ⟨cb, i, none⟩ = (#[.int .i64 N, .int .i64 S, .int .i64 T, .slice a3 (n + 1) c3, .slice a4 m c4, .slice a5 m c5, .slice a6 m c6, .slice a7 m c7, .slice a8 m c8] : Array Value)[i]?) := X8.out.box.cell; have V7 := Lib.hid hv; have V7p := Lib.hid (V6.out.kept hk); clear hv; clear hk)
            | (go_at_call 16; refine ((Hsteep _ X6.out.cr X6.out.rs X6.out.hs).out).mono ?_; rintro e W7 ⟨av6, cv6, rfl, hv, hk⟩; have X7 := Lib.hid (X6.out.kept hk); have C7 : (∀ i, W7.cell? ⟨cb, i, none⟩ = (#[.int .i64 N, .int .i64 S, .int .i64 T, .slice a3 (n + 1) c3, .slice a4 m c4, .slice a5 m c5, .slice a6 m c6, .slice a7 m c7, .slice a8 m c8] : Array Value)[i]?) := X7.out.box.cell; have V6 := Lib.hid hv; clear hv; clear hk)
            | (go_at_call 14; refine ((HrefRight _ X5.out.cr X5.out.rs X5.out.hs).out).mono ?_; rintro e W6 ⟨rfl, hk⟩; have X6 := Lib.hid (X5.out.kept hk); have C6 : (∀ i, W6.cell? ⟨cb, i, none⟩ = (#[.int .i64 N, .int .i64 S, .int .i64 T, .slice a3 (n + 1) c3, .slice a4 m c4, .slice a5 m c5, .slice a6 m c6, .slice a7 m c7, .slice a8 m c8] : Array Value)[i]?) := X6.out.box.cell; clear hk)
            | (go_at_call 13; refine ((Hright _ X4.out.cr X4.out.rs X4.out.hs).out).mono ?_; rintro e W5 ⟨rfl, hk⟩; have X5 := Lib.hid (X4.out.kept hk); have C5 : (∀ i, W5.cell? ⟨cb, i, none⟩ = (#[.int .i64 N, .int .i64 S, .int .i64 T, .slice a3 (n + 1) c3, .slice a4 m c4, .slice a5 m c5, .slice a6 m c6, .slice a7 m c7, .slice a8 m c8] : Array Value)[i]?) := X5.out.box.cell; clear hk)))
        go_wp2_with fail
        go_ret
        exact ⟨rfl, X17.out.kp⟩
theorem labelTells_walk (N S T : Int) (a : Option Addr) (cap : Nat) (els : List (List Value)) (s1 : Option Addr) (cap1 : Nat) (z1 : List Int) (s2 : Option Addr) (cap2 : Nat) (z2 : List Int) (u odd : Int) (w : World) (_wN : (Lit.int .i64 N).wf = true) (_wS : (Lit.int .i64 S).wf = true) (_wT : (Lit.int .i64 T).wf = true) (hrow : FlatRow [some .i64, some .i64, some .i64] w a cap els) (_hf : ∀ x ∈ els, fits [some .i64, some .i64, some .i64] x)
    (w1 : IntRow .i64 w s1 cap1 z1) (m1 : ∀ n ∈ z1, (Lit.int .i64 n).wf = true) (w2 : IntRow .i64 w s2 cap2 z2) (_m2 : ∀ n ∈ z2, (Lit.int .i64 n).wf = true) (_wu : (Lit.int .i64 u).wf = true) (wo : (Lit.int .u8 odd).wf = true) :
    Calls Try.prog 3 #[.agg #[.int .i64 N, .int .i64 S, .int .i64 T, .slice a els.length cap], .slice s1 z1.length cap1, .slice s2 z2.length cap2, .int .i64 u, .int .u8 odd] w fun e w' => e = .returned (.bool true) ∧ Kept w w' := by
  obtain ⟨xs, hl, hA, hx⟩ := ars_of_flat hrow
  have hle := hrow.le
  have hmo := hrow.most
  have l1 := w1.le
  have l1' := w1.most
  have l2 := w2.le
  have l2' := w2.most
  unfold maxLen at hmo l1' l2'
  have ho := bounds_u8 wo
  exact labTells_core N S T a els.length cap xs s1 cap1 z1 s2 cap2 z2 u odd w hA hl hle hmo (fun x hx0 => bounds_i64 (hx x hx0).2.2) w1.rd (fun x hx0 => bounds_i64 (m1 x hx0)) (by omega) w2.rd (by omega) ho.1 ho.2
end Go.Proofs.Ytfdbifhkhdnnkaa
