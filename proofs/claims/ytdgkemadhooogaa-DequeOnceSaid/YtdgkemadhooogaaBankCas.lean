/- CAS. -/
import Derived.Test.YtdgkemadhooogaaBank
namespace Go.Proofs.Ytdgkemadhooogaa
set_option linter.unusedVariables false
open Go.RowKit

/-- Whether it was so: then the cell has v. -/
theorem CAS_bank {w : World} {bb g : Nat} {xs : List Int} (h : Bnk w bb g xs) (i old v : Int) :
    Calls Try.prog 102 #[.pointer (some ⟨bb, 0, none⟩), .int .i64 i, .int .i64 old, .int .i64 v] w fun e w' =>
      e = .returned (.bool (decide ((0 ≤ i ∧ i < xs.length) ∧ bget xs i = old))) ∧ Bnk w' bb g (if bget xs i = old then bput xs i v else xs) ∧ Upd (fun k => k = g) w w' := by
  by_cases hi : 0 ≤ i ∧ i < xs.length
  · have ha := Lib.hid (at_in h i hi.1 hi.2)
    rw [bput_in _ hi.1, bget_in hi.1]
    have hc := h.cell (i := i.toNat) (by omega)
    by_cases ho : xs.getD i.toNat 0 = old
    · rw [decide_eq_true ⟨hi, ho⟩, if_pos ho]
      rw [ho] at hc
      have hld := run_call_cas_hit (P := Try.prog) Try.func111 (by kernel_rfl) (by kernel_rfl) (by kernel_rfl) .i64 (by kernel_rfl) (y := v) hc (h.row.free _)
      have hfin := Lib.hid (show Bnk (w.setCell ⟨g, i.toNat, none⟩ (.int .i64 v)) bb g (xs.set i.toNat v) ∧ Upd (fun k => k = g) w (w.setCell ⟨g, i.toNat, none⟩ (.int .i64 v)) from ⟨h.set _ _, updCell _ _ _ _⟩)
      clear hc h hi ho
      go_enter Try.func102, Try.ntmps102
      go_wp2_with (go_at_call 66; refine ha.out.mono ?_; rintro e w' ⟨rfl, rfl⟩)
      go_wp2
      go_ret
      exact ⟨rfl, hfin.out⟩
    · rw [decide_eq_false (fun x => ho x.2), if_neg ho]
      have hld := run_call_cas_miss (P := Try.prog) Try.func111 (by kernel_rfl) (by kernel_rfl) (by kernel_rfl) .i64 (by kernel_rfl) (y := v) hc (h.row.free _) ho
      have hfin := Lib.hid (show Bnk w bb g xs ∧ Upd (fun k => k = g) w w from ⟨h, Upd.refl _ _⟩)
      generalize xs.getD i.toNat 0 = x at hc hld ho
      clear hc h hi ho
      go_enter Try.func102, Try.ntmps102
      go_wp2_with (go_at_call 66; refine ha.out.mono ?_; rintro e w' ⟨rfl, rfl⟩)
      go_wp2
      go_ret
      exact ⟨rfl, hfin.out⟩
  · have ha := Lib.hid (at_out h i hi)
    rw [decide_eq_false (fun x => hi x.1), bput_out _ hi, ite_self]
    have hfin := Lib.hid (show Bnk w bb g xs ∧ Upd (fun k => k = g) w w from ⟨h, Upd.refl _ _⟩)
    clear h hi
    go_enter Try.func102, Try.ntmps102
    go_wp2_with (go_at_call 66; refine ha.out.mono ?_; rintro e w' ⟨rfl, rfl⟩)
    go_ret
    exact ⟨rfl, hfin.out⟩
theorem CAS_is {w : World} {bb g : Nat} {xs : List Int} (h : Bnk w bb g xs) (i old v : Int) (r : Bool) (ys : List Int) (hr : decide ((0 ≤ i ∧ i < xs.length) ∧ bget xs i = old) = r) (hy : (if bget xs i = old then bput xs i v else xs) = ys) :
    Calls Try.prog 102 #[.pointer (some ⟨bb, 0, none⟩), .int .i64 i, .int .i64 old, .int .i64 v] w fun e w' => e = .returned (.bool r) ∧ Bnk w' bb g ys ∧ Upd (fun k => k = g) w w' := by
  subst hr hy; exact CAS_bank h i old v
end Go.Proofs.Ytdgkemadhooogaa
