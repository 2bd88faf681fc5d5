/- Len. -/
import Derived.Test.YtdgkemadhooogaaBank
namespace Go.Proofs.Ytdgkemadhooogaa
set_option linter.unusedVariables false
open Go.RowKit

theorem Len_bank {w : World} {bb g : Nat} {xs : List Int} (h : Bnk w bb g xs) :
    Calls Try.prog 50 #[.pointer (some ⟨bb, 0, none⟩)] w fun e w' => e = .returned (.int .i64 xs.length) ∧ w = w' := by
  have hc : w.cell? ⟨bb, 0, none⟩ = some (.slice (some ⟨g, 0, none⟩) xs.length xs.length) := by rw [h.head.cell]; rfl
  have hsm := h.small
  clear h
  go_enter Try.func50, Try.ntmps50
  go_wp2
  go_ret
  exact ⟨rfl, rfl⟩

end Go.Proofs.Ytdgkemadhooogaa
