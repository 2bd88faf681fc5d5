/- Are two lists the same? -/
import Derived.Test.YtdgkemadhooogaaProg
import Derived.Test.YtdgkemadhooogaaRd
namespace Go.Proofs.Ytdgkemadhooogaa
set_option linter.unusedVariables false
open Go.RowKit

set_option maxHeartbeats 1000000 in
theorem longs_same (a a' : Option Addr) (c c' : Nat) (xs ys : List Int) (w : World) (hx : Rd w a (xs.map (Value.int .i64))) (hy : Rd w a' (ys.map (Value.int .i64))) (mx : xs.length ≤ 1000000000) (my : ys.length ≤ 1000000000) :
    Calls Try.prog 17 #[.slice a xs.length c, .slice a' ys.length c'] w fun e w' => e = .returned (.bool (decide (xs = ys))) ∧ Kept w w' := by
  by_cases hl : xs.length = ys.length
  · have HL := Lib.hid hl
    rw [← hl]
    have HX := Lib.hid hx
    have HY := Lib.hid hy
    clear hx hy hl my
    go_enter Try.func17, Try.ntmps17
    go_wp2_with fail
    go_loopw [13] (fun i wr => ∃ k : Nat, i = .int .i64 k ∧ k ≤ xs.length ∧ Hid (xs.take k = ys.take k) ∧ Hid (Kept w wr)) (fun i _ => xs.length - (intOf i).toNat)
    case atStart => exact ⟨0, rfl, by omega, Lib.hid (by simp), Lib.hid (Upd.refl _ _)⟩
    case round =>
      obtain ⟨k, rfl, hk, HT, HK⟩ := hrel
      by_cases hlt : k < xs.length
      · have hlt' : k < ys.length := by have := HL.out; omega
        obtain ⟨b, off, rfl, hc1⟩ := HX.out.at k (by simpa using hlt)
        obtain ⟨b', off', rfl, hc2⟩ := HY.out.at k (by simpa using hlt')
        have c1 : wr.cell? ⟨b, off + k, none⟩ = some (Value.int .i64 (xs.getD k 0)) := (keptCells HK.out _ (by rw [hc1]; simp [hlt])).trans (by rw [hc1]; simp [hlt])
        have c2 : wr.cell? ⟨b', off' + k, none⟩ = some (Value.int .i64 (ys.getD k 0)) := (keptCells HK.out _ (by rw [hc2]; simp [hlt'])).trans (by rw [hc2]; simp [hlt'])
        have hxk : xs.getD k 0 = xs[k] := by simp [hlt]
        have hyk : ys.getD k 0 = ys[k] := by simp [hlt']
        have j0 : (0 : Int) ≤ (k : Int) := by omega
        have j1 : (k : Int) < (xs.length : Int) := by omega
        have HK2 : ∀ nq, Hid (Kept w (wr.drewN nq)) := fun nq => Lib.hid (HK.out.trans ⟨rfl, rfl, rfl, Nat.le_refl _, fun _ _ _ => rfl⟩)
        by_cases he : xs[k] = ys[k]
        · have HT2 : Hid (xs.take (k + 1) = ys.take (k + 1)) := Lib.hid (by rw [List.take_succ_eq_append_getElem hlt, List.take_succ_eq_append_getElem hlt', HT.out, he])
          rw [hyk, ← he, ← hxk] at c2
          generalize xs.getD k 0 = z at c1 c2
          clear hxk hyk he hlt' hc1 hc2
          go_wp2_with fail
          go_quiet (fail)
          have HK3 := HK2 nq
          clear HK2 HK HT
          go_wp2_with fail
          go_roundw
          case rel => exact ⟨k + 1, by go_num, by omega, HT2, HK3⟩
          case measure => simp [intOf]; omega
        · have hne : ¬ xs = ys := fun e => he (by subst e; rfl)
          have HNE := Lib.hid hne
          rw [hxk] at c1
          rw [hyk] at c2
          generalize xs[k] = z1 at c1 he
          generalize ys[k] = z2 at c2 he
          have hb : (z1 != z2) = true := by simpa using he
          clear hxk hyk hlt' hc1 hc2 hne he
          go_wp2_with fail
          go_quiet (fail)
          have HK3 := HK2 nq
          clear HK2 HK HT
          go_wp2_with fail
          go_ret
          exact ⟨ret_bool (decide_eq_false HNE.out).symm, HK3.out⟩
      · have heq : xs = ys := by
          have h1 := HT.out
          rwa [List.take_of_length_le (by omega), List.take_of_length_le (by have := HL.out; omega)] at h1
        have HEQ := Lib.hid heq
        clear heq HT
        go_wp2_with fail
        go_ret
        exact ⟨ret_bool (decide_eq_true HEQ.out).symm, HK.out⟩
  · have hne : ¬ xs = ys := fun e => hl (by rw [e])
    rw [decide_eq_false hne]
    have h1 : ((xs.length : Int) != (ys.length : Int)) = true := by simp; omega
    have h2 : ¬ ((xs.length : Int) = (ys.length : Int)) := by omega
    clear hx hy hne hl
    go_enter Try.func17, Try.ntmps17
    go_wp2
    go_ret
    exact ⟨rfl, Upd.refl _ _⟩
end Go.Proofs.Ytdgkemadhooogaa
