/- label.Valid, acequiaref06.Valid, label.Sum, acequiaref06.Sum (printed by gen_labvalid.py). -/
import Derived.Test.YtdcbofgkfekkoaaRefBy
namespace Go.Proofs.Ytdcbofgkfekkoaa
set_option linter.unusedVariables false
set_option linter.unusedSimpArgs false
open Go.RowKit

/-- Valid heights? -/
def validB (N S T : Int) (n m : Nat) (ys : List Ar) (rs hs : List Int) : Bool := mayB N S T m rs hs && decide ((dnL N S T n m ys rs hs (isP true)).length = 0)
set_option maxHeartbeats 2000000 in
theorem valid_any (N S T : Int) (n m : Nat) (a3 a4 a5 a6 a7 a8 : Option Addr) (c3 c4 c5 c6 c7 c8 : Nat) (ys : List Ar) (ra : Option Addr) (rc : Nat) (rs : List Int) (ha : Option Addr) (hc : Nat) (hs : List Int) (w : World) (hg : Gr N S T n m ys) (hcr : CsrR w n ys a3 a4 a5 a6 a7 a8) (hr : Rd w ra (lv rs)) (hh : Rd w ha (lv hs)) (hm : hs.length ≤ 9223372036854775807) :
    Calls Try.prog 22 #[.agg #[.int .i64 N, .int .i64 S, .int .i64 T, .slice a3 (n + 1) c3, .slice a4 m c4, .slice a5 m c5, .slice a6 m c6, .slice a7 m c7, .slice a8 m c8], .slice ra rs.length rc, .slice ha hs.length hc] w fun e w' => e = .returned (.bool (validB N S T n m ys rs hs)) ∧ Kept w w' := by
  have HK := Lib.hid ((Upd.refl (fun _ => False) w).alloc (.cells #[.int .i64 N, .int .i64 S, .int .i64 T, .slice a3 (n + 1) c3, .slice a4 m c4, .slice a5 m c5, .slice a6 m c6, .slice a7 m c7, .slice a8 m c8] 29))
  have HB := Lib.hid (Blk.new w #[.int .i64 N, .int .i64 S, .int .i64 T, .slice a3 (n + 1) c3, .slice a4 m c4, .slice a5 m c5, .slice a6 m c6, .slice a7 m c7, .slice a8 m c8] 29)
  have HR := Lib.hid (hr.kept HK.out)
  have HH := Lib.hid (hh.kept HK.out)
  have HCR := Lib.hid (hcr.kept HK.out)
  have HM := fun (w : World) (hcr : CsrR w n ys a3 a4 a5 a6 a7 a8) (hr : Rd w ra (lv rs)) (hh : Rd w ha (lv hs)) => Lib.hid (may_any N S T n m a3 a4 a5 a6 a7 a8 c3 c4 c5 c6 c7 c8 ys ra rc rs ha hc hs w hg hcr hr hh hm)
  have HS := fun (w : World) (hcr : CsrR w n ys a3 a4 a5 a6 a7 a8) (hr : Rd w ra (lv rs)) (hh : Rd w ha (lv hs)) => Lib.hid (steep_any N S T n m a3 a4 a5 a6 a7 a8 c3 c4 c5 c6 c7 c8 ys ra rc rs ha hc hs w hg hcr hr hh hm)
  clear hr hh hcr hg
  obtain ⟨z, hz⟩ : ∃ z, mayB N S T m rs hs = z := ⟨_, rfl⟩
  rw [hz] at HM
  have HZ := Lib.hid hz
  clear hz
  go_enter Try.func22, Try.ntmps22
  go_upto_region 1 with (fail)
  generalize (w.alloc (.cells #[.int .i64 N, .int .i64 S, .int .i64 T, .slice a3 (n + 1) c3, .slice a4 m c4, .slice a5 m c5, .slice a6 m c6, .slice a7 m c7, .slice a8 m c8] 29)) = W0 at HB HK HR HH HCR ⊢
  generalize w.heap.size = cb at HB ⊢
  have cx := HB.out.cell
  go_wp2_with fail
  refine (HM _ HCR.out HR.out HH.out).out.mono ?_
  rintro e w1 ⟨rfl, hk1⟩
  have HB1 := Lib.hid (HB.out.kept hk1)
  have HK1 := Lib.hid (HK.out.trans hk1)
  have HR1 := Lib.hid (HR.out.kept hk1)
  have HH1 := Lib.hid (HH.out.kept hk1)
  have HCR1 := Lib.hid (HCR.out.kept hk1)
  clear hk1 HB HK HR HH HCR cx
  have cx := HB1.out.cell
  cases z
  · go_wp2_with fail
    go_ret
    exact ⟨ret_bool (by unfold validB; rw [HZ.out]; rfl), HK1.out⟩
  · go_wp2_with fail
    refine (HS _ HCR1.out HR1.out HH1.out).out.mono ?_
    rintro e w2 ⟨v, rfl, ho, hk2⟩
    obtain ⟨va, vc, rfl⟩ := row_form ho
    have HK2 := Lib.hid (HK1.out.trans hk2)
    clear ho hk2 cx
    obtain ⟨L, hL⟩ : ∃ L, (dnL N S T n m ys rs hs (isP true)).length = L := ⟨_, rfl⟩
    rw [hL]
    have HL := Lib.hid hL
    clear hL
    by_cases h0 : (L : Int) = 0
    · have hb5 : ((L : Int) == 0) = true := by simpa using h0
      have H0 := Lib.hid h0
      clear h0
      go_wp2_with fail
      go_ret
      exact ⟨ret_bool (by unfold validB; rw [HL.out]; have := H0.out; simp [HZ.out]; omega), HK2.out⟩
    · have hb5 : ((L : Int) == 0) = false := by simpa using h0
      have H0 := Lib.hid h0
      clear h0
      go_wp2_with fail
      go_ret
      exact ⟨ret_bool (by unfold validB; rw [HL.out]; have := H0.out; simp; omega), HK2.out⟩
/-- All heights together. -/
def sumH (N S T : Int) (hs : List Int) : Int := if rightB N S T hs then hs.sum else 0
theorem take_sum (hs : List Int) (k : Nat) (h : k < hs.length) : (hs.take (k + 1)).sum = (hs.take k).sum + hs[k] := by
  rw [List.take_succ_eq_append_getElem h, List.sum_append]
  simp
set_option maxHeartbeats 2000000 in
theorem sum_any (N S T : Int) (n m : Nat) (a3 a4 a5 a6 a7 a8 : Option Addr) (c3 c4 c5 c6 c7 c8 : Nat) (ys : List Ar) (ra : Option Addr) (rc : Nat) (rs : List Int) (ha : Option Addr) (hc : Nat) (hs : List Int) (w : World) (hg : Gr N S T n m ys) (hcr : CsrR w n ys a3 a4 a5 a6 a7 a8) (hr : Rd w ra (lv rs)) (hh : Rd w ha (lv hs)) (hm : hs.length ≤ 9223372036854775807) :
    Calls Try.prog 52 #[.agg #[.int .i64 N, .int .i64 S, .int .i64 T, .slice a3 (n + 1) c3, .slice a4 m c4, .slice a5 m c5, .slice a6 m c6, .slice a7 m c7, .slice a8 m c8], .slice ha hs.length hc] w fun e w' => e = .returned (.int .i64 (sumH N S T hs)) ∧ Kept w w' := by
  have HK := Lib.hid ((Upd.refl (fun _ => False) w).alloc (.cells #[.int .i64 N, .int .i64 S, .int .i64 T, .slice a3 (n + 1) c3, .slice a4 m c4, .slice a5 m c5, .slice a6 m c6, .slice a7 m c7, .slice a8 m c8] 29))
  have HB := Lib.hid (Blk.new w #[.int .i64 N, .int .i64 S, .int .i64 T, .slice a3 (n + 1) c3, .slice a4 m c4, .slice a5 m c5, .slice a6 m c6, .slice a7 m c7, .slice a8 m c8] 29)
  have HR := Lib.hid (hr.kept HK.out)
  have HH := Lib.hid (hh.kept HK.out)
  have HCR := Lib.hid (hcr.kept HK.out)
  have HM := fun (w : World) (hh : Rd w ha (lv hs)) => Lib.hid (right_any N S T n m a3 a4 a5 a6 a7 a8 c3 c4 c5 c6 c7 c8 ys ha hc hs w hg hh hm)
  have hN := hg.ok.n16
  clear hr hh hcr hg
  obtain ⟨z, hz⟩ : ∃ z, rightB N S T hs = z := ⟨_, rfl⟩
  rw [hz] at HM
  have HZ := Lib.hid hz
  clear hz
  go_enter Try.func52, Try.ntmps52
  go_upto_region 1 with (fail)
  generalize (w.alloc (.cells #[.int .i64 N, .int .i64 S, .int .i64 T, .slice a3 (n + 1) c3, .slice a4 m c4, .slice a5 m c5, .slice a6 m c6, .slice a7 m c7, .slice a8 m c8] 29)) = W0 at HB HK HR HH HCR ⊢
  generalize w.heap.size = cb at HB ⊢
  have cx := HB.out.cell
  go_wp2_with fail
  refine (HM _ HH.out).out.mono ?_
  rintro e w1 ⟨rfl, hk1⟩
  have HB1 := Lib.hid (HB.out.kept hk1)
  have HK1 := Lib.hid (HK.out.trans hk1)
  have HR1 := Lib.hid (HR.out.kept hk1)
  have HH1 := Lib.hid (HH.out.kept hk1)
  have HCR1 := Lib.hid (HCR.out.kept hk1)
  clear hk1 HB HK HR HH HCR cx
  have cx := HB1.out.cell
  clear cx
  cases z
  · go_wp2_with fail
    go_ret
    have e0 : sumH N S T hs = 0 := by unfold sumH; rw [HZ.out]; rfl
    exact ⟨by rw [e0]; rfl, HK1.out⟩
  · have HIN := Lib.hid (rightB_in HZ.out)
    go_wp2_with fail
    go_loopw [5, 14] (fun sx ix wr => ∃ (k : Nat) (s : Int), ix = .int .i64 k ∧ sx = .int .i64 s ∧ k ≤ hs.length ∧ Hid (s = (hs.take k).sum ∧ 0 ≤ s ∧ s ≤ 16 * k) ∧ w1 = wr) (fun sx ix _ => hs.length - (intOf ix).toNat)
    case atStart => exact ⟨0, 0, rfl, rfl, by omega, Lib.hid (by simp), rfl⟩
    case round =>
      obtain ⟨k, s, rfl, rfl, hk, HS, rfl⟩ := hrel
      by_cases hlt : k < hs.length
      · obtain ⟨b, o, rfl, c0⟩ := HH1.out.at k (by rw [lv_len]; exact hlt)
        rw [lv_get hlt] at c0
        have hin := HIN.out k hlt
        have hts := take_sum hs k hlt
        rw [show hs[k] = hs.getD k 0 by simp [hlt], ← HS.out.1] at hts
        have HTS := Lib.hid hts
        clear hts
        generalize hs.getD k 0 = x at c0 hin HTS
        obtain ⟨hx0, hx1, hx2⟩ := hin
        have j0 : (0 : Int) ≤ (k : Int) := by omega
        have j1 : (k : Int) < (hs.length : Int) := by omega
        have hwr : wrap64 (s + x) = s + x := by have := HS.out; unfold wrap64; omega
        have HX := Lib.hid (And.intro hx0 (And.intro hx1 hx2))
        clear hx0 hx1 hx2
        go_wp2_with fail
        go_roundw
        case rel => exact ⟨k + 1, s + x, by go_num, by first | rfl | rw [hwr], by omega, Lib.hid ⟨HTS.out.symm, by have := HS.out; have := HX.out; omega⟩, by first | rfl | trivial⟩
        case measure => simp [intOf]; omega
      · go_wp2_with fail
        go_ret
        refine ⟨?_, HK1.out⟩
        have h1 := HS.out.1
        rw [List.take_of_length_le (by omega)] at h1
        have e0 : sumH N S T hs = hs.sum := by unfold sumH; rw [HZ.out]; rfl
        rw [e0, ← h1]
        rfl
end Go.Proofs.Ytdcbofgkfekkoaa
