/- acequiaref01.vertex, .Sum, .Check, of a right net. -/
import Derived.Test.YtdhimfkmgcfohaaNetOk
import Derived.Deep.CutRange
namespace Go.Proofs.Ytdhimfkmgcfohaa
set_option linter.unusedVariables false
open Go.RowKit

theorem refVertex_in (N S T : Int) (sl : Value) (v : Int) (a : Option Addr) (l c : Nat) (hsl : sl = .slice a l c) (h0 : 0 ≤ v) (h1 : v < N) (w : World) :
    Calls Try.prog 71 #[.agg #[.int .i64 N, .int .i64 S, .int .i64 T, sl], .int .i64 v] w fun e w' => e = .returned (.bool true) ∧ Kept w w' := by
  subst hsl
  go_enter Try.func71, Try.ntmps71
  go_wp2_with fail
  go_ret
  exact ⟨rfl, (Upd.refl _ _).alloc _⟩

set_option maxHeartbeats 1000000 in
theorem refSum_ok (N S T : Int) (a : Option Addr) (cap : Nat) (ys : List Ar) (w : World) (h : Ars w a ys) (hm : ys.length ≤ 40) (hc : ∀ x ∈ ys, 0 ≤ x.c ∧ x.c < 1125899906842624) :
    Calls Try.prog 72 #[.agg #[.int .i64 N, .int .i64 S, .int .i64 T, .slice a ys.length cap]] w fun e w' => (∃ s : Int, e = .returned (.tuple #[.int .i64 s, .bool true])) ∧ Kept w w' := by
  have HX := Lib.hid h
  have HC := Lib.hid hc
  have HM := Lib.hid hm
  clear h hc hm
  go_enter Try.func72, Try.ntmps72
  go_wp2_with fail
  go_loopw [4, 5] (fun l i wr => ∃ (k : Nat) (m : Int), i = .int .i64 k ∧ k ≤ ys.length ∧ l = .int .i64 m ∧ 0 ≤ m ∧ m ≤ 1125899906842624 * k ∧ Hid (Blk wr w.heap.size #[.int .i64 N, .int .i64 S, .int .i64 T, .slice a ys.length cap] 24) ∧ Hid (Kept w wr)) (fun _ i _ => ys.length - (intOf i).toNat)
  case atStart => exact ⟨0, 0, rfl, by omega, rfl, by omega, by omega, Lib.hid (Blk.new _ _ _), Lib.hid ((Upd.refl _ _).alloc _)⟩
  case round =>
    obtain ⟨k, m, rfl, hk, rfl, hm0, hm1, HB, HK⟩ := hrel
    have cb := HB.out.cell
    by_cases hlt : k < ys.length
    · obtain ⟨b, off, rfl, c0, c1, c2⟩ := (HX.out.kept HK.out).at k hlt
      have hcc := HC.out ys[k] (List.getElem_mem _)
      generalize ys[k].c = c at c2 hcc
      have hm4 := HM.out
      have j0 : (0 : Int) ≤ (k : Int) := by omega
      have j1 : (k : Int) < (ys.length : Int) := by omega
      have j2 : 0 ≤ c := hcc.1
      have j4 : m ≤ 45035996273704960 := by omega
      have j5 : c < 1125899906842624 := hcc.2
      clear c0 c1 hcc
      go_wp2_with fail
      go_roundw
      case rel => exact ⟨k + 1, m + c, by go_num, by omega, by go_num, by omega, by omega, HB, HK⟩
      case measure => simp [intOf]; omega
    · go_wp2_with fail
      go_ret2
      exact ⟨⟨_, rfl⟩, HK.out⟩

set_option maxHeartbeats 1000000 in
theorem refCheck_ok (N S T : Int) (a : Option Addr) (cap : Nat) (ys : List Ar) (w : World) (h : Ars w a ys) (hok : NetOk N S T ys) :
    Calls Try.prog 59 #[.agg #[.int .i64 N, .int .i64 S, .int .i64 T, .slice a ys.length cap]] w fun e w' => e = .returned (.int .i64 0) ∧ Kept w w' := by
  have HX := Lib.hid h
  have HO := Lib.hid hok
  have h2 := hok.n2
  have h16 := hok.n16
  have hl := hok.len
  have hs0 := hok.s.1
  have hs1 := hok.s.2
  have ht0 := hok.t.1
  have ht1 := hok.t.2
  have hst : (S == T) = false := by have := hok.st; simpa using this
  have HV := fun v h0 h1 w => Lib.hid (refVertex_in N S T (.slice a ys.length cap) v a ys.length cap rfl h0 h1 w)
  clear h hok
  go_enter Try.func59, Try.ntmps59
  go_wp2_with fail
  refine (HV _ hs0 hs1 _).out.mono ?_
  rintro e w1 ⟨rfl, k1⟩
  have HX1 := Lib.hid (HX.out.kept ((Upd.refl _ _).alloc _ |>.trans k1))
  have HB1 := Lib.hid ((Blk.new w #[.int .i64 N, .int .i64 S, .int .i64 T, .slice a ys.length cap] 24).kept k1)
  have K1 := Lib.hid (((Upd.refl (fun _ => False) w).alloc (.cells #[.int .i64 N, .int .i64 S, .int .i64 T, .slice a ys.length cap] 24)).trans k1)
  have cb := HB1.out.cell
  clear k1
  go_wp2_with fail
  refine (HV _ ht0 ht1 _).out.mono ?_
  rintro e w2 ⟨rfl, k2⟩
  have HX2 := Lib.hid (HX1.out.kept k2)
  have HB2 := Lib.hid (HB1.out.kept k2)
  have K2 := Lib.hid (K1.out.trans k2)
  clear k2 HX1 HB1 K1 cb
  have cb := HB2.out.cell
  go_wp2_with fail
  go_loopw [3, 4] (fun bl i wr => ∃ (k : Nat), i = .int .i64 k ∧ k ≤ ys.length ∧ bl = .bool false ∧ Hid (Blk wr w.heap.size #[.int .i64 N, .int .i64 S, .int .i64 T, .slice a ys.length cap] 24) ∧ Hid (Kept w wr)) (fun _ i _ => ys.length - (intOf i).toNat)
  case atStart => exact ⟨0, rfl, by omega, rfl, HB2, K2⟩
  case round =>
    obtain ⟨k, rfl, hk, rfl, HB3, HK⟩ := hrel
    clear cb
    have cb := HB3.out.cell
    by_cases hlt : k < ys.length
    · obtain ⟨b, off, rfl, c0, c1, c2⟩ := (HX.out.kept HK.out).at k hlt
      obtain ⟨a0, a1, a2, a3, a4, a5⟩ := HO.out.arcs ys[k] (List.getElem_mem _)
      generalize ys[k].c = c at c2 a4 a5
      generalize ys[k].f = f at c0 a0 a1
      generalize ys[k].t = t at c1 a2 a3
      have j0 : (0 : Int) ≤ (k : Int) := by omega
      have j1 : (k : Int) < (ys.length : Int) := by omega
      have HA := Lib.hid (Blk.new wr #[.int .i64 f, .int .i64 t, .int .i64 c] 68)
      have HB4 := Lib.hid (HB3.out.alloc (.cells #[.int .i64 f, .int .i64 t, .int .i64 c] 68))
      have HK4 := Lib.hid (HK.out.alloc (.cells #[.int .i64 f, .int .i64 t, .int .i64 c] 68))
      go_upto_region 12 with (fail)
      clear cb c0 c1 c2 HK HB3
      generalize (wr.alloc (.cells #[.int .i64 f, .int .i64 t, .int .i64 c] 68)) = W4 at HA HB4 HK4 ⊢
      generalize wr.heap.size = xb at HA ⊢
      have ca := HA.out.cell
      have cb := HB4.out.cell
      go_wp2_with fail
      refine (HV _ a0 a1 _).out.mono ?_
      rintro e w5 ⟨rfl, k5⟩
      have HA5 := Lib.hid (HA.out.kept k5)
      have HB5 := Lib.hid (HB4.out.kept k5)
      have HK5 := Lib.hid (HK4.out.trans k5)
      clear ca cb k5 HA HB4 HK4
      have ca := HA5.out.cell
      have cb := HB5.out.cell
      go_wp2_with fail
      refine (HV _ a2 a3 _).out.mono ?_
      rintro e w6 ⟨rfl, k6⟩
      have HA6 := Lib.hid (HA5.out.kept k6)
      have HB6 := Lib.hid (HB5.out.kept k6)
      have HK6 := Lib.hid (HK5.out.trans k6)
      clear ca cb k6 HA5 HB5 HK5
      have ca := HA6.out.cell
      have cb := HB6.out.cell
      go_wp2_with fail
      go_roundw
      case rel => exact ⟨k + 1, by go_num, by omega, by simp; omega, HB6, HK6⟩
      case measure => simp [intOf]; omega
    · go_wp2_with fail
      refine (refSum_ok N S T a cap ys _ (HX.out.kept HK.out) HO.out.len (fun x hx => ⟨(HO.out.arcs x hx).2.2.2.2.1, (HO.out.arcs x hx).2.2.2.2.2⟩)).mono ?_
      rintro e w7 ⟨⟨s, rfl⟩, k7⟩
      have HK7 := Lib.hid (HK.out.trans k7)
      clear k7
      go_wp2_with fail
      go_ret
      exact ⟨rfl, HK7.out⟩
end Go.Proofs.Ytdhimfkmgcfohaa
