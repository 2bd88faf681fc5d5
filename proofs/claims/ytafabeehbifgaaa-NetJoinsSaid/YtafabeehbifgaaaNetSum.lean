/- net.Sum, net.vertex. -/
import Derived.Test.YtafabeehbifgaaaNet
namespace Go.Proofs.Ytafabeehbifgaaa
set_option linter.unusedVariables false
open Go.RowKit

set_option maxHeartbeats 1000000 in
theorem Sum_any (N S T : Int) (a : Option Addr) (cap : Nat) (ys : List Ar) (w : World) (h : Ars w a ys) (hm : ys.length ≤ 1000000000) :
    Calls Try.prog 12 #[.agg #[.int .i64 N, .int .i64 S, .int .i64 T, .slice a ys.length cap]] w fun e w' => e = .returned (.tuple #[.int .i64 (sumT ys), .bool (sumB ys)]) ∧ Kept w w' := by
  have HX := Lib.hid h
  clear h
  go_enter Try.func12, Try.ntmps12
  go_wp2_with fail
  go_loopw [4, 10] (fun l i wr => ∃ (k : Nat) (m : Int), i = .int .i64 k ∧ k ≤ ys.length ∧ l = .int .i64 m ∧ 0 ≤ m ∧ m ≤ 4611686018427387904 ∧ Hid (leftOf ys 4611686018427387904 = leftOf (ys.drop k) m) ∧ Hid (Kept w wr)) (fun _ i _ => ys.length - (intOf i).toNat)
  case atStart => exact ⟨0, 4611686018427387904, rfl, by omega, rfl, by omega, by omega, Lib.hid (by simp), Lib.hid ((Upd.refl _ _).alloc _)⟩
  case round =>
    obtain ⟨k, m, rfl, hk, rfl, hm0, hm1, HL, HK⟩ := hrel
    by_cases hlt : k < ys.length
    · obtain ⟨b, off, rfl, c0, c1, c2⟩ := (HX.out.kept HK.out).at k hlt
      have hd : ys.drop k = ys[k] :: ys.drop (k + 1) := by rw [List.drop_eq_getElem_cons hlt]
      have HL1 : Hid (leftOf ys 4611686018427387904 = if ys[k].c < 0 ∨ m < ys[k].c then none else leftOf (ys.drop (k + 1)) (m - ys[k].c)) := Lib.hid (by rw [HL.out, hd]; rfl)
      clear HL hd
      generalize ys[k].f = x at c0
      generalize ys[k].t = y at c1
      generalize ys[k].c = c at c2 HL1
      have j0 : (0 : Int) ≤ (k : Int) := by omega
      have j1 : (k : Int) < (ys.length : Int) := by omega
      have HK2 : Hid (Kept w (wr.alloc (.cells #[.int .i64 x, .int .i64 y, .int .i64 c] 31))) := Lib.hid (HK.out.alloc _)
      by_cases hc0 : c < 0
      · have HR : Hid (sumT ys = 0 ∧ sumB ys = false) := Lib.hid (by have := HL1.out; rw [if_pos (.inl hc0)] at this; simp [sumT, sumB, this])
        clear HL1 HK
        go_wp2_with fail
        go_ret2
        exact ⟨by rw [HR.out.1, HR.out.2]; rfl, HK2.out⟩
      · by_cases hc1 : m < c
        · have HR : Hid (sumT ys = 0 ∧ sumB ys = false) := Lib.hid (by have := HL1.out; rw [if_pos (.inr hc1)] at this; simp [sumT, sumB, this])
          clear HL1 HK
          go_wp2_with fail
          go_ret2
          exact ⟨by rw [HR.out.1, HR.out.2]; rfl, HK2.out⟩
        · have HR : Hid (leftOf ys 4611686018427387904 = leftOf (ys.drop (k + 1)) (m - c)) := Lib.hid (by have := HL1.out; rwa [if_neg (by omega)] at this)
          clear HL1 HK
          go_wp2_with fail
          go_roundw
          case rel => exact ⟨k + 1, m - c, by go_num, by omega, by go_num, by omega, by omega, HR, HK2⟩
          case measure => simp [intOf]; omega
    · have HR : Hid (sumT ys = 4611686018427387904 - m ∧ sumB ys = true) := Lib.hid (by
        have := HL.out
        rw [List.drop_of_length_le (by omega)] at this
        simp [sumT, sumB, this, leftOf])
      clear HL
      go_wp2_with fail
      go_ret2
      exact ⟨by rw [HR.out.1, HR.out.2]; rfl, HK.out⟩
end Go.Proofs.Ytafabeehbifgaaa
