/- acequiaref06.by, Steep, Flat (printed by gen_refby.py). -/
import Derived.Test.YticeionjlknlcaaLabDown2
import Derived.Test.YticeionjlknlcaaRefRight
namespace Go.Proofs.Yticeionjlknlcaa
set_option linter.unusedVariables false
set_option linter.unusedSimpArgs false
open Go.RowKit

def inP (lo hi k : Int) : Bool := decide (lo ≤ k) && decide (k ≤ hi)
theorem dnL_congr {N S T : Int} {n m : Nat} {ys : List Ar} {rs hs : List Int} {p p' : Int → Bool} (h : ∀ x, x ≤ N → p x = p' x) : dnL N S T n m ys rs hs p = dnL N S T n m ys rs hs p' := by
  unfold dnL
  split
  · rename_i hm
    refine List.filter_congr fun a ha => ?_
    unfold dnQ
    have hr : rightB N S T hs = true := by
      simp only [mayB, Bool.and_eq_true] at hm
      exact hm.2
    have h0 : ∀ i, 0 ≤ hs.getD i 0 ∧ hs.getD i 0 ≤ N ∨ hs.getD i 0 = 0 := by
      intro i
      by_cases hi : i < hs.length
      · have := rightB_in hr i hi
        exact .inl ⟨this.2.1, this.2.2⟩
      · right
        rw [List.getD_eq_getElem?_getD, List.getElem?_eq_none (by omega)]
        rfl
    have hN : 0 ≤ N := by
      simp only [rightB, Bool.and_eq_true, decide_eq_true_eq] at hr
      have := hr.1.1.1
      omega
    rw [h]
    unfold byOf
    have h1 := h0 (tl ys n a)
    have h2 := h0 (hd n ys a)
    omega
  · rfl
end Go.Proofs.Yticeionjlknlcaa
