/- net.Same. -/
import Derived.Test.YtafabeehbifgaaaNetEqual
namespace Go.Proofs.Ytafabeehbifgaaa
set_option linter.unusedVariables false
open Go.RowKit

set_option maxHeartbeats 1000000 in
theorem Same_any (N S T N' S' T' : Int) (a a' : Option Addr) (c c' : Nat) (xs ys : List Ar) (w : World) (hx : Ars w a xs) (hy : Ars w a' ys) (mx : xs.length ≤ 1000000000) (my : ys.length ≤ 1000000000) :
    Calls Try.prog 15 #[.agg #[.int .i64 N, .int .i64 S, .int .i64 T, .slice a xs.length c], .agg #[.int .i64 N', .int .i64 S', .int .i64 T', .slice a' ys.length c']] w fun e w' => e = .returned (.bool (decide (N = N' ∧ S = S' ∧ T = T' ∧ xs = ys))) ∧ Kept w w' := by
  have hk := ((Upd.refl (fun _ => False) w).alloc (.cells #[.int .i64 N, .int .i64 S, .int .i64 T, .slice a xs.length c] 24)).alloc (.cells #[.int .i64 N', .int .i64 S', .int .i64 T', .slice a' ys.length c'] 24)
  have HE := Lib.hid (Equal_any a a' c c' xs ys _ (hx.kept hk) (hy.kept hk) mx my)
  have HK := Lib.hid hk
  clear hk hx hy
  by_cases hN : N = N'
  · subst hN
    by_cases hS : S = S'
    · subst hS
      by_cases hT : T = T'
      · subst hT
        rw [show decide (N = N ∧ S = S ∧ T = T ∧ xs = ys) = decide (xs = ys) by simp]
        go_enter Try.func15, Try.ntmps15
        go_wp2_with fail
        refine HE.out.mono ?_
        rintro e w1 ⟨rfl, hk1⟩
        have HK1 := Lib.hid (HK.out.trans hk1)
        clear hk1
        go_wp2
        go_ret
        exact ⟨rfl, HK1.out⟩
      · have h1 : (T == T') = false := by simpa using hT
        rw [decide_eq_false (fun e => hT e.2.2.1)]
        clear HE
        go_enter Try.func15, Try.ntmps15
        go_wp2_with fail
        go_ret
        exact ⟨rfl, HK.out⟩
    · have h1 : (S == S') = false := by simpa using hS
      rw [decide_eq_false (fun e => hS e.2.1)]
      clear HE
      go_enter Try.func15, Try.ntmps15
      go_wp2_with fail
      go_ret
      exact ⟨rfl, HK.out⟩
  · have h1 : (N == N') = false := by simpa using hN
    rw [decide_eq_false (fun e => hN e.1)]
    clear HE
    go_enter Try.func15, Try.ntmps15
    go_wp2_with fail
    go_ret
    exact ⟨rfl, HK.out⟩
end Go.Proofs.Ytafabeehbifgaaa
