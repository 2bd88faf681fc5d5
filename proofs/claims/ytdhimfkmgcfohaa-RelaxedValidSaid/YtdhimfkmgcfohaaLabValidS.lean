/- label.Valid, acequiaref06.Valid, label.Sum, acequiaref06.Sum (printed by gen_labvalid.py). -/
import Derived.Test.YtdhimfkmgcfohaaLabDown2S
namespace Go.Proofs.Ytdhimfkmgcfohaa
set_option linter.unusedVariables false
set_option linter.unusedSimpArgs false
open Go.RowKit

/-- Valid heights? -/
def validB (N S T : Int) (n m : Nat) (ys : List Ar) (rs hs : List Int) : Bool := mayB N S T m rs hs && decide ((dnL N S T n m ys rs hs (isP true)).length = 0)
set_option maxHeartbeats 2000000 in
theorem valids_any (N S T : Int) (n m : Nat) (a3 a4 a5 a6 a7 a8 : Option Addr) (c3 c4 c5 c6 c7 c8 : Nat) (ys : List Ar) (ra : Option Addr) (rc : Nat) (rs : List Int) (ha : Option Addr) (hc : Nat) (hs : List Int) (w : World) (hg : Gr N S T n m ys) (hcr : CsrR w n ys a3 a4 a5 a6 a7 a8) (hr : Rd w ra (lv rs)) (hh : Rd w ha (lv hs)) (hm : hs.length ≤ 9223372036854775807) :
    Calls Try.prog 22 #[.agg #[.int .i64 N, .int .i64 S, .int .i64 T, .slice a3 (n + 1) c3, .slice a4 m c4, .slice a5 m c5, .slice a6 m c6, .slice a7 m c7, .slice a8 m c8], .slice ra rs.length rc, .slice ha hs.length hc] w fun e w' => e = .returned (.bool (validB N S T n m ys rs hs)) ∧ Kept w w' := by
  have HK := Lib.hid ((Upd.refl (fun _ => False) w).alloc (.cells #[.int .i64 N, .int .i64 S, .int .i64 T, .slice a3 (n + 1) c3, .slice a4 m c4, .slice a5 m c5, .slice a6 m c6, .slice a7 m c7, .slice a8 m c8] 32))
  have HB := Lib.hid (Blk.new w #[.int .i64 N, .int .i64 S, .int .i64 T, .slice a3 (n + 1) c3, .slice a4 m c4, .slice a5 m c5, .slice a6 m c6, .slice a7 m c7, .slice a8 m c8] 32)
  have HR := Lib.hid (hr.kept HK.out)
  have HH := Lib.hid (hh.kept HK.out)
  have HCR := Lib.hid (hcr.kept HK.out)
  have HM := fun (w : World) (hcr : CsrR w n ys a3 a4 a5 a6 a7 a8) (hr : Rd w ra (lv rs)) (hh : Rd w ha (lv hs)) => Lib.hid (may_any N S T n m a3 a4 a5 a6 a7 a8 c3 c4 c5 c6 c7 c8 ys ra rc rs ha hc hs w hg hcr hr hh hm)
  have HS := fun (w : World) (hcr : CsrR w n ys a3 a4 a5 a6 a7 a8) (hr : Rd w ra (lv rs)) (hh : Rd w ha (lv hs)) => Lib.hid (steeps_any N S T n m a3 a4 a5 a6 a7 a8 c3 c4 c5 c6 c7 c8 ys ra rc rs ha hc hs w hg hcr hr hh hm)
  clear hr hh hcr hg
  obtain ⟨z, hz⟩ : ∃ z, mayB N S T m rs hs = z := ⟨_, rfl⟩
  rw [hz] at HM
  have HZ := Lib.hid hz
  clear hz
  go_enter Try.func22, Try.ntmps22
  go_upto_region 1 with (fail)
  generalize (w.alloc (.cells #[.int .i64 N, .int .i64 S, .int .i64 T, .slice a3 (n + 1) c3, .slice a4 m c4, .slice a5 m c5, .slice a6 m c6, .slice a7 m c7, .slice a8 m c8] 32)) = W0 at HB HK HR HH HCR ⊢
  generalize w.heap.size = cb at HB ⊢
  have cx := HB.out.cell
  go_wp2_with fail
  refine (HM _ HCR.out HR.out HH.out).out.mono ?_
  rintro e w1 ⟨rfl, hk1⟩
  have HB1 := Lib.hid (HB.out.kept hk1)
  have HK1 := Lib.hid (HK.out.trans hk1)
  have HR1 := Lib.hid (HR.out.kept hk1)
  have HH1 := Lib.hid (HH.out.kept hk1)
  have HCR1 := Lib.hid (HCR.out.kept hk1)
  clear hk1 HB HK HR HH HCR cx
  have cx := HB1.out.cell
  cases z
  · go_wp2_with fail
    go_ret
    exact ⟨ret_bool (by unfold validB; rw [HZ.out]; rfl), HK1.out⟩
  · go_wp2_with fail
    refine (HS _ HCR1.out HR1.out HH1.out).out.mono ?_
    rintro e w2 ⟨v, rfl, ho, hk2⟩
    obtain ⟨va, vc, rfl⟩ := row_form ho
    have HK2 := Lib.hid (HK1.out.trans hk2)
    clear ho hk2 cx
    obtain ⟨L, hL⟩ : ∃ L, (dnL N S T n m ys rs hs (isP true)).length = L := ⟨_, rfl⟩
    rw [hL]
    have HL := Lib.hid hL
    clear hL
    by_cases h0 : (L : Int) = 0
    · have hb5 : ((L : Int) == 0) = true := by simpa using h0
      have H0 := Lib.hid h0
      clear h0
      go_wp2_with fail
      go_ret
      exact ⟨ret_bool (by unfold validB; rw [HL.out]; have := H0.out; simp [HZ.out]; omega), HK2.out⟩
    · have hb5 : ((L : Int) == 0) = false := by simpa using h0
      have H0 := Lib.hid h0
      clear h0
      go_wp2_with fail
      go_ret
      exact ⟨ret_bool (by unfold validB; rw [HL.out]; have := H0.out; simp; omega), HK2.out⟩
/-- All heights together. -/
def sumH (N S T : Int) (hs : List Int) : Int := if rightB N S T hs then hs.sum else 0
theorem take_sum (hs : List Int) (k : Nat) (h : k < hs.length) : (hs.take (k + 1)).sum = (hs.take k).sum + hs[k] := by
  rw [List.take_succ_eq_append_getElem h, List.sum_append]
  simp
end Go.Proofs.Ytdhimfkmgcfohaa
