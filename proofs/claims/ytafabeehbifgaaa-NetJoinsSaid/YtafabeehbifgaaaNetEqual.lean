/- Are two rows of arcs, two nets the same? (printed by gen_netsame.py) -/
import Derived.Test.YtafabeehbifgaaaNetOwn
namespace Go.Proofs.Ytafabeehbifgaaa
set_option linter.unusedVariables false
open Go.RowKit

set_option maxHeartbeats 1000000 in
theorem Equal_any (a a' : Option Addr) (c c' : Nat) (xs ys : List Ar) (w : World) (hx : Ars w a xs) (hy : Ars w a' ys) (mx : xs.length ≤ 1000000000) (my : ys.length ≤ 1000000000) :
    Calls Try.prog 22 #[.slice a xs.length c, .slice a' ys.length c'] w fun e w' => e = .returned (.bool (decide (xs = ys))) ∧ Kept w w' := by
  by_cases hl : xs.length = ys.length
  · have HL := Lib.hid hl
    rw [← hl]
    have HX := Lib.hid hx
    have HY := Lib.hid hy
    clear hx hy hl my
    go_enter Try.func22, Try.ntmps22
    go_wp2_with fail
    go_loopw [13] (fun i wr => ∃ k : Nat, i = .int .i64 k ∧ k ≤ xs.length ∧ Hid (xs.take k = ys.take k) ∧ Hid (Kept w wr)) (fun i _ => xs.length - (intOf i).toNat)
    case atStart => exact ⟨0, rfl, by omega, Lib.hid (by simp), Lib.hid (Upd.refl _ _)⟩
    case round =>
      obtain ⟨k, rfl, hk, HT, HK⟩ := hrel
      by_cases hlt : k < xs.length
      · have hlt' : k < ys.length := by have := HL.out; omega
        obtain ⟨b, off, rfl, c0, c1, c2⟩ := (HX.out.kept HK.out).at k hlt
        obtain ⟨b', off', rfl, d0, d1, d2⟩ := (HY.out.kept HK.out).at k hlt'
        have j0 : (0 : Int) ≤ (k : Int) := by omega
        have j1 : (k : Int) < (xs.length : Int) := by omega
        have HK2 : ∀ nq, Hid (Kept w (wr.drewN nq)) := fun nq => Lib.hid (HK.out.trans ⟨rfl, rfl, rfl, Nat.le_refl _, fun _ _ _ => rfl⟩)
        by_cases he : xs[k] = ys[k]
        · have HT2 : Hid (xs.take (k + 1) = ys.take (k + 1)) := Lib.hid (by rw [List.take_succ_eq_append_getElem hlt, List.take_succ_eq_append_getElem hlt', HT.out, he])
          rw [← he] at d0 d1 d2
          clear he hlt'
          generalize xs[k].f = p0 at c0 d0
          generalize xs[k].t = p1 at c1 d1
          generalize xs[k].c = p2 at c2 d2
          go_wp2_with fail
          go_quiet (fail)
          have HK3 := HK2 nq
          clear HK2 HK HT
          go_wp2_with fail
          go_roundw
          case rel => exact ⟨k + 1, by go_num, by omega, HT2, HK3⟩
          case measure => simp [intOf]; omega
        · have HNE : Hid (¬ xs = ys) := Lib.hid (fun e => he (by subst e; rfl))
          have hd : ¬ xs[k].f = ys[k].f ∨ (xs[k].f = ys[k].f ∧ ¬ xs[k].t = ys[k].t) ∨ (xs[k].f = ys[k].f ∧ xs[k].t = ys[k].t ∧ ¬ xs[k].c = ys[k].c) := by
            by_cases h0 : xs[k].f = ys[k].f
            · by_cases h1 : xs[k].t = ys[k].t
              · by_cases h2 : xs[k].c = ys[k].c
                · exfalso; apply he
                  generalize xs[k] = q at h0 h1 h2
                  generalize ys[k] = r at h0 h1 h2
                  cases q; cases r; simp at h0 h1 h2; simp [h0, h1, h2]
                · exact .inr (.inr ⟨h0, h1, h2⟩)
              · exact .inr (.inl ⟨h0, h1⟩)
            · exact .inl h0
          clear he
          generalize xs[k].f = p0 at c0 hd
          generalize xs[k].t = p1 at c1 hd
          generalize xs[k].c = p2 at c2 hd
          generalize ys[k].f = q0 at d0 hd
          generalize ys[k].t = q1 at d1 hd
          generalize ys[k].c = q2 at d2 hd
          clear hlt'
          rcases hd with hd | ⟨rfl, hd⟩ | ⟨rfl, rfl, hd⟩
          · go_wp2_with fail
            go_quiet (fail)
            have HK3 := HK2 nq
            clear HK2 HK HT
            go_wp2_with fail
            go_ret
            exact ⟨ret_bool (decide_eq_false HNE.out).symm, HK3.out⟩
          · go_wp2_with fail
            go_quiet (fail)
            have HK3 := HK2 nq
            clear HK2 HK HT
            go_wp2_with fail
            go_ret
            exact ⟨ret_bool (decide_eq_false HNE.out).symm, HK3.out⟩
          · go_wp2_with fail
            go_quiet (fail)
            have HK3 := HK2 nq
            clear HK2 HK HT
            go_wp2_with fail
            go_ret
            exact ⟨ret_bool (decide_eq_false HNE.out).symm, HK3.out⟩
      · have HEQ : Hid (xs = ys) := Lib.hid (by
          have h1 := HT.out
          rwa [List.take_of_length_le (by omega), List.take_of_length_le (by have := HL.out; omega)] at h1)
        clear HT
        go_wp2_with fail
        go_ret
        exact ⟨ret_bool (decide_eq_true HEQ.out).symm, HK.out⟩
  · have hne : ¬ xs = ys := fun e => hl (by rw [e])
    rw [decide_eq_false hne]
    have h1 : ((xs.length : Int) != (ys.length : Int)) = true := by simp; omega
    have h2 : ¬ ((xs.length : Int) = (ys.length : Int)) := by omega
    clear hx hy hne hl
    go_enter Try.func22, Try.ntmps22
    go_wp2
    go_ret
    exact ⟨rfl, Upd.refl _ _⟩
end Go.Proofs.Ytafabeehbifgaaa
