/- A region that draws its order, whose last operations wait for all others: what is ahead of them is walked as a quiet one. No program in sight. -/
import Derived.Test.YtdhimfkmgcfohaaBase
import Derived.StillTail
namespace Go.Proofs.Ytdhimfkmgcfohaa
set_option linter.unusedVariables false
open Go.RowKit

theorem still_of_quiet {P : Program} {ops : Array Oper} {W : World} {Q : Act → Prop} : ∀ {l : List Oper} {a : Act}, wpQuiet P ops (fun w' => w' = W) Q l a → wpStill P ops W Q l a
  | [], _, h => h
  | o :: rest, a, h => by
    unfold wpQuiet at h
    unfold wpStill
    split at h
    · rename_i hw
      rw [if_pos hw]
      obtain ⟨v, h1, h2⟩ := h
      have h3 := h1 W rfl
      have h4 := still_of_quiet h2
      unfold Oper.quietAt at h3
      unfold Oper.still
      generalize (execOp a.eval o).run P W = r at h3 ⊢
      cases r with
      | ok n w' =>
        cases n <;> simp only [Oper.quietUpon, Oper.stillUpon] at h3 ⊢
        case value u => obtain ⟨rfl, rfl⟩ := h3; exact ⟨rfl, h4⟩
        case skip => obtain ⟨rfl, rfl⟩ := h3; exact ⟨rfl, h4⟩
        case enter f args => exact ⟨h3.1, v, h3.2, h4⟩
      | halt x w' => simp only [Oper.quietUpon] at h3
    · rename_i hw
      rw [if_neg hw]
      exact still_of_quiet h
theorem wp_region_quiet_tail {P : Program} {id : Nat} {Q : Exit → Act → World → Prop} {a : Act} {w : World} {l : List Oper} (n : Nat) (hm : P.follows .mixedOrders = true) (hB : Region.lexTailB .any l.toArray n = true)
    (h : wpQuiet P l.toArray (fun w' => w' = w.drew) (fun a' => wpList P l.toArray Q (l.drop n) a' w.drew) (l.take n) a) : (Code.region id l.toArray true).wp P Q a w :=
  wp_region_still_tail n hm hB (still_of_quiet h)
end Go.Proofs.Ytdhimfkmgcfohaa
