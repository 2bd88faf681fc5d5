/- The law RepairTells (printed by gen_reptells.py). -/
import Derived.Test.YticeionjlknlcaaLowered
import Derived.Test.YticeionjlknlcaaAwake19
import Derived.Test.YticeionjlknlcaaLabAt
import Derived.Test.YticeionjlknlcaaGst
import Derived.Test.YticeionjlknlcaaOpenBig
import Derived.Test.YticeionjlknlcaaIntsBig
import Derived.Test.YticeionjlknlcaaRowsRd
import Derived.Deep.CutRange
import Derived.StillTailTactics
namespace Go.Proofs.Yticeionjlknlcaa
set_option linter.unusedVariables false
set_option linter.unusedSimpArgs false
open Go.RowKit

theorem LowL.unique {N S T : Int} {n m : Nat} {ys : List Ar} {rs hs L L' : List Int} (h : LowL N S T n m ys rs hs L) (h' : LowL N S T n m ys rs hs L') : L = L' := by
  unfold LowL at h h'
  split at h
  · rename_i q
    rw [if_pos q] at h'
    exact h.unique h'
  · rename_i q
    rw [if_neg q] at h'
    rw [h, h']
theorem LowL.small {N S T : Int} {n m : Nat} {ys : List Ar} {rs hs L : List Int} (hg : Gr N S T n m ys) (h : LowL N S T n m ys rs hs L) : L.length ≤ 1000000000 := by
  unfold LowL at h
  split at h
  · have := h.len
    have := hg.len
    omega
  · subst h; simp
theorem ints_at2 (a a' : Option Addr) (c c' : Nat) (xs : List Int) (n : Nat) (w : World) (hx : Rd w a (lv xs)) (hy : Rd w a' (lv xs)) (hn : xs.length = n) (hm : xs.length ≤ 1000000000) :
    Calls Try.prog 15 #[.slice a n c, .slice a' n c'] w fun e w' => e = .returned (.bool true) ∧ Kept w w' := by
  subst hn
  have h1 := ints_same a a' c c' xs xs w hx hy hm hm
  simpa using h1
theorem ints_big2 (a a' : Option Addr) (c c' : Nat) (xs : List Int) (n : Nat) (w : World) (hx : Rd w a (lv xs)) (hy : Rd w a' (lv xs)) (hn : xs.length = n) (hm : n ≤ 2305843009213693952) :
    Calls Try.prog 15 #[.slice a n c, .slice a' n c'] w fun e w' => e = .returned (.bool true) ∧ Kept w w' := by
  subst hn
  have h1 := ints_big a a' c c' xs xs w hx hy hm hm
  simpa using h1
theorem lower_let (N S T : Int) (n m : Nat) (a3 a4 a5 a6 a7 a8 : Option Addr) (c3 c4 c5 c6 c7 c8 : Nat) (ys : List Ar) (ra : Option Addr) (rc : Nat) (rs : List Int) (ha : Option Addr) (hc : Nat) (hs : List Int) (rl hl : Nat) (w : World) (hg : Gr N S T n m ys) (hcr : CsrR w n ys a3 a4 a5 a6 a7 a8) (hr : Rd w ra (lv rs)) (hh : Rd w ha (lv hs)) (hrl : rs.length = rl) (hhl : hs.length = hl) (hm : hl ≤ 9223372036854775807) (hrm : rl ≤ 9223372036854775807) :
    Calls Try.prog 16 #[.agg #[.int .i64 N, .int .i64 S, .int .i64 T, .slice a3 (n + 1) c3, .slice a4 m c4, .slice a5 m c5, .slice a6 m c6, .slice a7 m c7, .slice a8 m c8], .slice ra rl rc, .slice ha hl hc] w (LowEnd w N S T n m ys rs hs) := by
  subst hrl hhl
  exact lower_any N S T n m a3 a4 a5 a6 a7 a8 c3 c4 c5 c6 c7 c8 ys ra rc rs ha hc hs w hg hcr hr hh hm hrm
theorem refLower_let (N S T : Int) (n m : Nat) (a3 a4 a5 a6 a7 a8 : Option Addr) (c3 c4 c5 c6 c7 c8 : Nat) (ys : List Ar) (ra : Option Addr) (rc : Nat) (rs : List Int) (ha : Option Addr) (hc : Nat) (hs : List Int) (rl hl : Nat) (w : World) (hg : Gr N S T n m ys) (hcr : CsrR w n ys a3 a4 a5 a6 a7 a8) (hr : Rd w ra (lv rs)) (hh : Rd w ha (lv hs)) (hrl : rs.length = rl) (hhl : hs.length = hl) (hm : hl ≤ 9223372036854775807) (hrm : rl ≤ 9223372036854775807) (hso : SomeOr ha hl hc) :
    Calls Try.prog 17 #[.agg #[.int .i64 N, .int .i64 S, .int .i64 T, .slice a3 (n + 1) c3, .slice a4 m c4, .slice a5 m c5, .slice a6 m c6, .slice a7 m c7, .slice a8 m c8], .slice ra rl rc, .slice ha hl hc] w (LowEnd w N S T n m ys rs hs) := by
  subst hrl hhl
  exact refLower_any N S T n m a3 a4 a5 a6 a7 a8 c3 c4 c5 c6 c7 c8 ys ra rc rs ha hc hs w hg hcr hr hh hm hrm hso
theorem lowered_let (N S T : Int) (n m : Nat) (a3 a4 a5 a6 a7 a8 : Option Addr) (c3 c4 c5 c6 c7 c8 : Nat) (ys : List Ar) (ra : Option Addr) (rc : Nat) (rs : List Int) (ha : Option Addr) (hc : Nat) (hs : List Int) (rl hl : Nat) (w : World) (hg : Gr N S T n m ys) (hcr : CsrR w n ys a3 a4 a5 a6 a7 a8) (hr : Rd w ra (lv rs)) (hh : Rd w ha (lv hs)) (hrl : rs.length = rl) (hhl : hs.length = hl) (hm : hl ≤ 9223372036854775807) (hrm : rl ≤ 9223372036854775807) :
    Calls Try.prog 18 #[.agg #[.int .i64 N, .int .i64 S, .int .i64 T, .slice a3 (n + 1) c3, .slice a4 m c4, .slice a5 m c5, .slice a6 m c6, .slice a7 m c7, .slice a8 m c8], .slice ra rl rc, .slice ha hl hc] w (LwdEnd w N S T n m ys rs hs) := by
  subst hrl hhl
  exact lowered_any N S T n m a3 a4 a5 a6 a7 a8 c3 c4 c5 c6 c7 c8 ys ra rc rs ha hc hs w hg hcr hr hh hm hrm
theorem refLowered_let (N S T : Int) (n m : Nat) (a3 a4 a5 a6 a7 a8 : Option Addr) (c3 c4 c5 c6 c7 c8 : Nat) (ys : List Ar) (ra : Option Addr) (rc : Nat) (rs : List Int) (ha : Option Addr) (hc : Nat) (hs : List Int) (rl hl : Nat) (w : World) (hg : Gr N S T n m ys) (hcr : CsrR w n ys a3 a4 a5 a6 a7 a8) (hr : Rd w ra (lv rs)) (hh : Rd w ha (lv hs)) (hrl : rs.length = rl) (hhl : hs.length = hl) (hm : hl ≤ 9223372036854775807) (hrm : rl ≤ 9223372036854775807) (hso : SomeOr ha hl hc) :
    Calls Try.prog 19 #[.agg #[.int .i64 N, .int .i64 S, .int .i64 T, .slice a3 (n + 1) c3, .slice a4 m c4, .slice a5 m c5, .slice a6 m c6, .slice a7 m c7, .slice a8 m c8], .slice ra rl rc, .slice ha hl hc] w (LwdEnd w N S T n m ys rs hs) := by
  subst hrl hhl
  exact refLowered_any N S T n m a3 a4 a5 a6 a7 a8 c3 c4 c5 c6 c7 c8 ys ra rc rs ha hc hs w hg hcr hr hh hm hrm hso
/-- What the law looks at. -/
structure TS (wB : World) (ha : Option Addr) (hs : List Int) (ra : Option Addr) (rs : List Int) (ua : Option Addr) (wr : World) : Prop where
  kp : Kept wB wr
  h : Rd wr ha (lv hs)
  r : Rd wr ra (lv rs)
  u : Rd wr ua (lv hs)
theorem TS.kept {wB : World} {ha : Option Addr} {hs : List Int} {ra : Option Addr} {rs : List Int} {ua : Option Addr} {wr w' : World} (h : TS wB ha hs ra rs ua wr) (k : Kept wr w') : TS wB ha hs ra rs ua w' := ⟨h.kp.trans k, h.h.kept k, h.r.kept k, h.u.kept k⟩
set_option maxRecDepth 100000 in
set_option maxHeartbeats 4000000 in
theorem repairTells_core (N0 S0 T0 : Int) (a : Option Addr) (k0 cap : Nat) (ys0 : List Ar) (la : Option Addr) (lc : Nat) (ls : List Int) (ha : Option Addr) (hc : Nat) (hs0 : List Int) (odd : Int) (w : World)
    (h : Ars w a ys0) (hk0 : ys0.length = k0) (hle : k0 ≤ cap) (hmost : cap ≤ 9223372036854775807) (hwf : ∀ x ∈ ys0, -9223372036854775808 ≤ x.c ∧ x.c ≤ 9223372036854775807)
    (hl : Rd w la (lv ls)) (hli : ∀ x ∈ ls, -9223372036854775808 ≤ x ∧ x ≤ 9223372036854775807) (hll : ls.length ≤ 9223372036854775807)
    (hh1 : Rd w ha (lv hs0)) (hm1 : hs0.length ≤ 9223372036854775807) (hcap : hs0.length ≤ hc) (hsz : SomeOr ha hs0.length hc ∧ hc * 8 ≤ 140737488351232) (ho0 : 0 ≤ odd) (ho1 : odd ≤ 255) :
    Calls Try.prog 3 #[.agg #[.int .i64 N0, .int .i64 S0, .int .i64 T0, .slice a k0 cap], .slice la ls.length lc, .slice ha hs0.length hc, .int .u8 odd] w fun e w' => e = .returned (.bool true) ∧ Kept w w' := by
  have HS : ∀ (w : World), Ars w a ys0 → Hid (Calls Try.prog 13 #[.agg #[.int .i64 N0, .int .i64 S0, .int .i64 T0, .slice a k0 cap], .int .i64 16, .int .i64 40] w (NetIs w)) := by
    intro w h
    subst hk0
    exact Lib.hid (Some_any N0 S0 T0 a cap ys0 w h hle hmost hwf)
  have HX := Lib.hid (h.kept ((Upd.refl (fun _ => False) w).alloc (.cells #[.int .i64 N0, .int .i64 S0, .int .i64 T0, .slice a k0 cap] 24)))
  have HK := Lib.hid ((Upd.refl (fun _ => False) w).alloc (.cells #[.int .i64 N0, .int .i64 S0, .int .i64 T0, .slice a k0 cap] 24))
  have HL := Lib.hid hl
  have HLI := Lib.hid hli
  have HHR := Lib.hid hh1
  have HHX := Lib.hid hm1
  have HSZ := Lib.hid hsz
  clear hh1 hsz
  clear h hl hli hle hmost hwf
  go_enter Try.func3, Try.ntmps3
  go_wp2_with fail
  refine (HS _ HX.out).out.mono ?_
  rintro e w1 ⟨N, S, T, a', cap', ys, rfl, hok, hown, hk1⟩
  have HK1 := Lib.hid (HK.out.trans hk1)
  have HOK := Lib.hid hok
  have HA : Hid (Ars w1 a' ys) := Lib.hid hown.at.2
  clear hk1 hok hown HS HX HK
  have HLE := fun (w : World) (h : Ars w a' ys) (hl : Rd w la (lv ls)) => Lib.hid (Left_ok N S T a' cap' ys la lc ls w h HOK.out hl HLI.out hll)
  go_wp2_with fail
  refine (HLE _ HA.out (HL.out.kept HK1.out)).out.mono ?_
  rintro e w2 ⟨B, n, m, a3, c3, a4, c4, a5, c5, a6, c6, a7, c7, a8, c8, ra, rc, rfl, hn, hm2, hcr, -, hk2, -, hro⟩
  have HG : Hid (Gr N S T n m ys) := Lib.hid ⟨HOK.out, hn, hm2⟩
  obtain ⟨rs, hrs⟩ : ∃ rs, resAll (wths ls ys) n ys = rs := ⟨_, rfl⟩
  have HRM : Hid (rs.length = m) := Lib.hid (by rw [← hrs, resAll_len]; exact hm2)
  have HRI : Hid (∀ x ∈ rs, 0 ≤ x ∧ x < 1125899906842624) := Lib.hid (by rw [← hrs]; exact left_in HG.out HLI.out)
  rw [hrs] at hro
  have HRC : Hid (m ≤ rc) := Lib.hid (row_cap' hro)
  have HSO : Hid ((∃ ad, ra = some ad) ∨ (ra = none ∧ m = 0 ∧ rc = 0)) := Lib.hid (someOr_row hro)
  obtain ⟨ra', rc', e9, hrr⟩ := Rd.owns hro
  cases e9
  have hA := (Upd.refl (fun _ => False) w2).alloc (.cells #[.int .i64 N, .int .i64 S, .int .i64 T, .slice a3 (n + 1) c3, .slice a4 m c4, .slice a5 m c5, .slice a6 m c6, .slice a7 m c7, .slice a8 m c8] 29)
  have HK0 := Lib.hid ((HK1.out.trans hk2).trans hA)
  have HGF : Hid (GF N S T n m a3 a4 a5 a6 a7 a8 c3 c4 c5 c6 c7 c8 ys w2.heap.size ra rs (w2.alloc (.cells #[.int .i64 N, .int .i64 S, .int .i64 T, .slice a3 (n + 1) c3, .slice a4 m c4, .slice a5 m c5, .slice a6 m c6, .slice a7 m c7, .slice a8 m c8] 29))) := Lib.hid ⟨Blk.new _ _ _, hcr.kept hA, hrr.kept hA⟩
  clear hn hm2 hcr hk2 hro hrr hrs hA HLE HA HOK HK1 HL HLI hll
  clear hk0
  go_upto_region 2 with (fail)
  generalize (w2.alloc (.cells #[.int .i64 N, .int .i64 S, .int .i64 T, .slice a3 (n + 1) c3, .slice a4 m c4, .slice a5 m c5, .slice a6 m c6, .slice a7 m c7, .slice a8 m c8] 29)) = wB at HGF HK0 ⊢
  generalize w2.heap.size = cb at HGF ⊢
  have HK1 : Hid (Kept wB wB) := Lib.hid (Upd.refl _ _)
  clear HRI HSO
  have HRD : Hid (Rd wB ra (lv rs)) := Lib.hid HGF.out.rs
  have bx := HGF.out.box.cell
  go_upto_if 21 with (fail)
  go_cut [2] from 19 to 24 (fun x wx => ∃ (ha2 : Option Addr) (hl hc2 : Nat) (hs2 : List Int), x = .slice ha2 hl hc2 ∧ Hid (hs2.length = hl ∧ hl * 8 ≤ 140737488351232 ∧ SomeOr ha2 hl hc2) ∧ Hid (Kept wB wx ∧ Rd wx ha2 (lv hs2) ∧ Rd wx ra (lv rs)))
  case first =>
    by_cases q4 : 0 < odd % 4
    · go_wp2_with fail
      refine (heights_any N S T n m a3 a4 a5 a6 a7 a8 c3 c4 c5 c6 c7 c8 ys ha hc hs0 _ HG.out (HHR.out.kept HK0.out) HHX.out).mono ?_
      rintro e W1 ⟨g, rfl, hbg, -, hk⟩
      have h : Hid (Kept wB W1 ∧ Rd W1 (some ⟨g, 0, none⟩) (lv (htL N S T n hs0)) ∧ Rd W1 ra (lv rs)) := Lib.hid ⟨hk, Rd.blk hbg, HRD.out.kept hk⟩
      have HZ : Hid ((htL N S T n hs0).length = n ∧ n * 8 ≤ 140737488351232 ∧ SomeOr (some ⟨g, 0, none⟩) n n) := Lib.hid ⟨htL_len N S T n hs0, by have := HG.out.len; omega, .inl ⟨_, rfl⟩⟩
      clear hbg hk bx
      go_wp2_with fail
      go_meet
      case rel => exact ⟨some ⟨g, 0, none⟩, n, n, htL N S T n hs0, rfl, HZ, h⟩
    · have hb4 : decide (0 < odd % 4) = false := by simpa using q4
      go_wp2_with fail
      go_meet
      case rel => exact ⟨ha, hs0.length, hc, hs0, rfl, Lib.hid ⟨rfl, by have h1 := HSZ.out.2; have h2 := hcap; omega, HSZ.out.1⟩, Lib.hid ⟨Upd.refl _ _, HHR.out.kept HK0.out, HRD.out⟩⟩
  case rest =>
    obtain ⟨ha2, hl, hc2, hs2, rfl, HH2, HX⟩ := hcut
    clear HHR HHX HSZ hcap bx HRD hm1
    rename World => W1
    go_upto_if 27 with (fail)
    go_cut [10] from 25 to 32 (fun x wx => ∃ (rl rc2 : Nat) (rs2 : List Int), x = .slice ra rl rc2 ∧ Hid (rs2.length = rl ∧ rl ≤ m) ∧ Hid (Kept wB wx ∧ Rd wx ha2 (lv hs2) ∧ Rd wx ra (lv rs2)))
    case first =>
      by_cases q8 : odd % 8 = 7
      · have hb8 : (odd % 8 == 7) = true := by simpa using q8
        obtain ⟨rl, hrl⟩ : ∃ rl, rl = m / 2 := ⟨_, rfl⟩
        have e2 : (m : Int) / 2 = (rl : Int) := by omega
        have hrb : (rl : Int) ≤ 1000 := by have := HG.out.len; omega
        have hw8 : wrap64 (rl : Int) = (rl : Int) := by unfold wrap64; omega
        have hsl := fun w => run_take (P := Try.prog) Try.underlying25 (size := 1) (by kernel_rfl) ra m rc rl (by have := HRC.out; omega) w
        have HRL : Hid ((rs.take rl).length = rl ∧ rl ≤ m) := Lib.hid (by have := HRM.out; rw [List.length_take]; omega)
        have HX2 : Hid (Kept wB W1 ∧ Rd W1 ha2 (lv hs2) ∧ Rd W1 ra (lv (rs.take rl))) := Lib.hid ⟨HX.out.1, HX.out.2.1, HX.out.2.2.take rl⟩
        clear hrl
        go_wp2_with fail
        go_meet
        case rel => exact ⟨rl, rc, rs.take rl, rfl, HRL, HX2⟩
      · have hb8 : (odd % 8 == 7) = false := by simpa using q8
        go_wp2_with fail
        go_meet
        case rel => exact ⟨m, rc, rs, rfl, Lib.hid ⟨HRM.out, Nat.le_refl _⟩, HX⟩
    case rest =>
      clear HX
      obtain ⟨rl, rc2, rs2, rfl, HR2, HX⟩ := hcut
      clear HRM HRC
      rename World => W2
      as_aux_lemma =>
        obtain ⟨i0, hi0, hz0, hz1, hz2⟩ := info_parts infoInt
        have hcl : (lv hs2).length = hl := by rw [lv_len]; exact HH2.out.1
        have h1c : ∀ x ∈ lv hs2, x.oneCell' = true := by
          intro x hx
          obtain ⟨y, -, rfl⟩ := List.mem_map.1 hx
          rfl
        have hhr := HX.out.2.1
        have hnb : hl * 8 ≤ 140737488355328 := by have := HH2.out.2.1; omega
        have hmx : hl ≤ maxLen := by unfold maxLen; have := HH2.out.2.1; omega
        have hsoo := HH2.out.2.2
        go_upto_region 7 with (first | (at_builtin; refine wpList_copiedB rfl _ _ 26 rfl 3 i0 (.int .i64 0) 8 Try.underlying26 hi0 hz0 hz1 hz2 rfl ha2 hl hc2 (lv hs2) rfl rfl hhr hcl hsoo h1c hnb hmx ?_; intro ua uc V4 hown hk; clear hi0 hz0 hz1 hz2 h1c hhr hsoo) | fail)
        obtain ⟨ua', uc', e9, hur⟩ := Rd.owns hown
        cases e9
        have hdr := (Upd.refl (fun _ => False) V4).drew
        have X0 : Hid (TS wB ha2 hs2 ra rs2 ua V4.drew) := Lib.hid ⟨(HX.out.1.trans hk).trans hdr, (HX.out.2.1.kept hk).kept hdr, (HX.out.2.2.kept hk).kept hdr, hur.kept hdr⟩
        have C0 : (∀ i, V4.drew.cell? ⟨cb, i, none⟩ = (#[.int .i64 N, .int .i64 S, .int .i64 T, .slice a3 (n + 1) c3, .slice a4 m c4, .slice a5 m c5, .slice a6 m c6, .slice a7 m c7, .slice a8 m c8] : Array Value)[i]?) := (HGF.out.kept X0.out.kp).box.cell
        have hml : hl ≤ 9223372036854775807 := by have := HH2.out.2.1; omega
        have hrm : rl ≤ 9223372036854775807 := by have := HR2.out.2; have := HG.out.len; omega
        have H1 := fun (w : World) (k : Kept wB w) (h : Rd w ha2 (lv hs2)) (r : Rd w ra (lv rs2)) => Lib.hid (lower_let N S T n m a3 a4 a5 a6 a7 a8 c3 c4 c5 c6 c7 c8 ys ra rc2 rs2 ha2 hc2 hs2 rl hl w HG.out (HGF.out.kept k).cr r h HR2.out.1 HH2.out.1 hml hrm)
        have H2 := fun (w : World) (k : Kept wB w) (h : Rd w ha2 (lv hs2)) (r : Rd w ra (lv rs2)) => Lib.hid (refLower_let N S T n m a3 a4 a5 a6 a7 a8 c3 c4 c5 c6 c7 c8 ys ra rc2 rs2 ha2 hc2 hs2 rl hl w HG.out (HGF.out.kept k).cr r h HR2.out.1 HH2.out.1 hml hrm HH2.out.2.2)
        have H3 := fun (w : World) (k : Kept wB w) (h : Rd w ha2 (lv hs2)) (r : Rd w ra (lv rs2)) => Lib.hid (lowered_let N S T n m a3 a4 a5 a6 a7 a8 c3 c4 c5 c6 c7 c8 ys ra rc2 rs2 ha2 hc2 hs2 rl hl w HG.out (HGF.out.kept k).cr r h HR2.out.1 HH2.out.1 hml hrm)
        have H4 := fun (w : World) (k : Kept wB w) (h : Rd w ha2 (lv hs2)) (r : Rd w ra (lv rs2)) => Lib.hid (refLowered_let N S T n m a3 a4 a5 a6 a7 a8 c3 c4 c5 c6 c7 c8 ys ra rc2 rs2 ha2 hc2 hs2 rl hl w HG.out (HGF.out.kept k).cr r h HR2.out.1 HH2.out.1 hml hrm HH2.out.2.2)
        clear hown hk hur hdr hcl hnb hmx HX
        go_region_held3 (fun w' => (∀ i, w'.cell? ⟨cb, i, none⟩ = (#[.int .i64 N, .int .i64 S, .int .i64 T, .slice a3 (n + 1) c3, .slice a4 m c4, .slice a5 m c5, .slice a6 m c6, .slice a7 m c7, .slice a8 m c8] : Array Value)[i]?))
          (first | exact C0 | exact C1 | exact C2 | exact C3 | exact C4 | exact C5 | exact C6 | exact C7 | exact C8)
          ((first
            | (go_at_call 20; refine (awake19_any _).mono ?_; rintro e W8 ⟨rfl, hk⟩; have X8 := Lib.hid (X7.out.kept hk); have C8 : (∀ i, W8.cell? ⟨cb, i, none⟩ = (#[.int .i64 N, .int .i64 S, .int .i64 T, .slice a3 (n + 1) c3, .slice a4 m c4, .slice a5 m c5, .slice a6 m c6, .slice a7 m c7, .slice a8 m c8] : Array Value)[i]?) := (HGF.out.kept X8.out.kp).box.cell; clear hk)
            | (go_at_call 15; refine (ints_big2 _ _ _ _ hs2 _ _ X6.out.h X6.out.u HH2.out.1 (by have := HH2.out.2.1; omega)).mono ?_; rintro e W7 ⟨rfl, hk⟩; have X7 := Lib.hid (X6.out.kept hk); have C7 : (∀ i, W7.cell? ⟨cb, i, none⟩ = (#[.int .i64 N, .int .i64 S, .int .i64 T, .slice a3 (n + 1) c3, .slice a4 m c4, .slice a5 m c5, .slice a6 m c6, .slice a7 m c7, .slice a8 m c8] : Array Value)[i]?) := (HGF.out.kept X7.out.kp).box.cell; clear hk)
            | (go_at_call 15; refine (nats_at _ _ _ _ _ _ _ DX2.out DY.out DK.out (by rw [← DK.out]; exact Nat.le_trans (lowD_len _ _ _) (LowL.small HG.out LL.out))).mono ?_; rintro e W6 ⟨rfl, hk⟩; have X6 := Lib.hid (X5.out.kept hk); have C6 : (∀ i, W6.cell? ⟨cb, i, none⟩ = (#[.int .i64 N, .int .i64 S, .int .i64 T, .slice a3 (n + 1) c3, .slice a4 m c4, .slice a5 m c5, .slice a6 m c6, .slice a7 m c7, .slice a8 m c8] : Array Value)[i]?) := (HGF.out.kept X6.out.kp).box.cell; clear hk)
            | (go_at_call 19; refine ((H4 _ X4.out.kp X4.out.h X4.out.r).out).mono ?_; rintro e W5 ⟨ea, ek, ec, L4, rfl, h1, h2, h3, hk⟩; have X5 := Lib.hid (X4.out.kept hk); have C5 : (∀ i, W5.cell? ⟨cb, i, none⟩ = (#[.int .i64 N, .int .i64 S, .int .i64 T, .slice a3 (n + 1) c3, .slice a4 m c4, .slice a5 m c5, .slice a6 m c6, .slice a7 m c7, .slice a8 m c8] : Array Value)[i]?) := (HGF.out.kept X5.out.kp).box.cell; obtain rfl := LowL.unique LL.out h1; obtain rfl := DK.out.symm.trans h2; have DY := Lib.hid h3; have DX2 := Lib.hid (DX.out.kept hk); clear h1 h2 h3; clear hk)
            | (go_at_call 18; refine ((H3 _ X3.out.kp X3.out.h X3.out.r).out).mono ?_; rintro e W4 ⟨da, dk, dc, L3, rfl, h1, h2, h3, hk⟩; have X4 := Lib.hid (X3.out.kept hk); have C4 : (∀ i, W4.cell? ⟨cb, i, none⟩ = (#[.int .i64 N, .int .i64 S, .int .i64 T, .slice a3 (n + 1) c3, .slice a4 m c4, .slice a5 m c5, .slice a6 m c6, .slice a7 m c7, .slice a8 m c8] : Array Value)[i]?) := (HGF.out.kept X4.out.kp).box.cell; obtain rfl := LowL.unique LL.out h1; have DK := Lib.hid h2; have DX := Lib.hid h3; clear h1 h2 h3; clear hk)
            | (go_at_call 15; refine (ints_at2 _ _ _ _ L _ _ RX2.out RY.out LK.out (LowL.small HG.out LL.out)).mono ?_; rintro e W3 ⟨rfl, hk⟩; have X3 := Lib.hid (X2.out.kept hk); have C3 : (∀ i, W3.cell? ⟨cb, i, none⟩ = (#[.int .i64 N, .int .i64 S, .int .i64 T, .slice a3 (n + 1) c3, .slice a4 m c4, .slice a5 m c5, .slice a6 m c6, .slice a7 m c7, .slice a8 m c8] : Array Value)[i]?) := (HGF.out.kept X3.out.kp).box.cell; clear hk)
            | (go_at_call 17; refine ((H2 _ X1.out.kp X1.out.h X1.out.r).out).mono ?_; rintro e W2 ⟨ya, yk, yc, L2, rfl, h1, h2, h3, -, -, hk⟩; have X2 := Lib.hid (X1.out.kept hk); have C2 : (∀ i, W2.cell? ⟨cb, i, none⟩ = (#[.int .i64 N, .int .i64 S, .int .i64 T, .slice a3 (n + 1) c3, .slice a4 m c4, .slice a5 m c5, .slice a6 m c6, .slice a7 m c7, .slice a8 m c8] : Array Value)[i]?) := (HGF.out.kept X2.out.kp).box.cell; obtain rfl := LowL.unique LL.out h2; obtain rfl := LK.out.symm.trans h1; have RY := Lib.hid h3; have RX2 := Lib.hid (RX.out.kept hk); clear h1 h2 h3; clear hk)
            | (go_at_call 16; refine ((H1 _ X0.out.kp X0.out.h X0.out.r).out).mono ?_; rintro e W1 ⟨xa, xk, xc, L, rfl, h1, h2, h3, -, -, hk⟩; have X1 := Lib.hid (X0.out.kept hk); have C1 : (∀ i, W1.cell? ⟨cb, i, none⟩ = (#[.int .i64 N, .int .i64 S, .int .i64 T, .slice a3 (n + 1) c3, .slice a4 m c4, .slice a5 m c5, .slice a6 m c6, .slice a7 m c7, .slice a8 m c8] : Array Value)[i]?) := (HGF.out.kept X1.out.kp).box.cell; have LK := Lib.hid h1; have LL := Lib.hid h2; have RX := Lib.hid h3; clear h1 h2 h3; clear hk)))
        go_wp2_with fail
        go_ret
        exact ⟨rfl, HK0.out.trans X8.out.kp⟩
theorem repairTells_walk (N S T : Int) (a : Option Addr) (cap : Nat) (els : List (List Value)) (s1 : Option Addr) (cap1 : Nat) (z1 : List Int) (s2 : Option Addr) (cap2 : Nat) (z2 : List Int) (odd : Int) (w : World) (_wN : (Lit.int .i64 N).wf = true) (_wS : (Lit.int .i64 S).wf = true) (_wT : (Lit.int .i64 T).wf = true) (hrow : FlatRow [some .i64, some .i64, some .i64] w a cap els) (_hf : ∀ x ∈ els, fits [some .i64, some .i64, some .i64] x)
    (w1 : IntRow .i64 w s1 cap1 z1) (m1 : ∀ n ∈ z1, (Lit.int .i64 n).wf = true) (w2 : IntRow .i64 w s2 cap2 z2) (_m2 : ∀ n ∈ z2, (Lit.int .i64 n).wf = true) (b2 : SomeOr s2 z2.length cap2 ∧ cap2 * 8 ≤ 140737488351232) (wo : (Lit.int .u8 odd).wf = true) :
    Calls Try.prog 3 #[.agg #[.int .i64 N, .int .i64 S, .int .i64 T, .slice a els.length cap], .slice s1 z1.length cap1, .slice s2 z2.length cap2, .int .u8 odd] w fun e w' => e = .returned (.bool true) ∧ Kept w w' := by
  obtain ⟨xs, hl, hA, hx⟩ := ars_of_flat hrow
  have hle := hrow.le
  have hmo := hrow.most
  have l1 := w1.le
  have l1' := w1.most
  have l2 := w2.le
  have l2' := w2.most
  unfold maxLen at hmo l1' l2'
  have ho := bounds_u8 wo
  exact repairTells_core N S T a els.length cap xs s1 cap1 z1 s2 cap2 z2 odd w hA hl hle hmo (fun x hx0 => bounds_i64 (hx x hx0).2.2) w1.rd (fun x hx0 => bounds_i64 (m1 x hx0)) (by omega) w2.rd (by omega) l2 b2 ho.1 ho.2
end Go.Proofs.Yticeionjlknlcaa
