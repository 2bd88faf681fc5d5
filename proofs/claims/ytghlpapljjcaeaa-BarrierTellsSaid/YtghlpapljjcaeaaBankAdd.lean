/- Add. -/
import Derived.Test.YtghlpapljjcaeaaBank
namespace Go.Proofs.Ytghlpapljjcaeaa
set_option linter.unusedVariables false
open Go.RowKit

theorem Add_bank {w : World} {bb g : Nat} {xs : List Int} (h : Bnk w bb g xs) (i v : Int) :
    Calls Try.prog 38 #[.pointer (some ⟨bb, 0, none⟩), .int .i64 i, .int .i64 v] w fun e w' =>
      e = .returned (.int .i64 (if 0 ≤ i ∧ i < xs.length then wrap64 (bget xs i + v) else 0)) ∧ Bnk w' bb g (bput xs i (wrap64 (bget xs i + v))) ∧ Upd (fun k => k = g) w w' := by
  by_cases hi : 0 ≤ i ∧ i < xs.length
  · have ha := Lib.hid (at_in h i hi.1 hi.2)
    rw [if_pos hi, bput_in _ hi.1, bget_in hi.1]
    have hc := h.cell (i := i.toNat) (by omega)
    have hld := fun y s hs => run_call_add (P := Try.prog) Try.func41 (by kernel_rfl) (by kernel_rfl) (by kernel_rfl) .i64 (by kernel_rfl) (y := y) (s := s) hc (h.row.free _) hs
    have hl2 := hld v (wrap64 (xs.getD i.toNat 0 + v)) (by simp [go_sem, wrap64, IntKind.wrap_i64])
    generalize hx : wrap64 (xs.getD i.toNat 0 + v) = x at hl2
    have hfin := Lib.hid (show Bnk (w.setCell ⟨g, i.toNat, none⟩ (.int .i64 x)) bb g (xs.set i.toNat x) ∧ Upd (fun k => k = g) w (w.setCell ⟨g, i.toNat, none⟩ (.int .i64 x)) from ⟨h.set _ _, updCell _ _ _ _⟩)
    clear hld hc h hi hx
    go_enter Try.func38, Try.ntmps38
    go_wp2_with (go_at_call 20; refine ha.out.mono ?_; rintro e w' ⟨rfl, rfl⟩)
    go_wp2
    go_ret
    exact ⟨rfl, hfin.out⟩
  · have ha := Lib.hid (at_out h i hi)
    rw [if_neg hi, bput_out _ hi]
    have hfin := Lib.hid (show Bnk w bb g xs ∧ Upd (fun k => k = g) w w from ⟨h, Upd.refl _ _⟩)
    clear h hi
    go_enter Try.func38, Try.ntmps38
    go_wp2_with (go_at_call 20; refine ha.out.mono ?_; rintro e w' ⟨rfl, rfl⟩)
    go_ret
    exact ⟨rfl, hfin.out⟩

theorem Add_is {w : World} {bb g : Nat} {xs : List Int} (h : Bnk w bb g xs) (i v r : Int) (ys : List Int) (hr : (if 0 ≤ i ∧ i < xs.length then wrap64 (bget xs i + v) else 0) = r) (hy : bput xs i (wrap64 (bget xs i + v)) = ys) :
    Calls Try.prog 38 #[.pointer (some ⟨bb, 0, none⟩), .int .i64 i, .int .i64 v] w fun e w' => e = .returned (.int .i64 r) ∧ Bnk w' bb g ys ∧ Upd (fun k => k = g) w w' := by
  subst hr hy; exact Add_bank h i v
end Go.Proofs.Ytghlpapljjcaeaa
