/- A slice's cells, read. No program in sight. -/
import Derived.Test.YtdhimfkmgcfohaaBase2
import Derived.Test.YtdhimfkmgcfohaaOpen
namespace Go.Proofs.Ytdhimfkmgcfohaa
set_option linter.unusedVariables false
open Go.RowKit

/-- The slice at a reads as these cells. -/
def Rd (w : World) (a : Option Addr) (vs : List Value) : Prop := vs = [] ∨ ∃ b off, a = some ⟨b, off, none⟩ ∧ ∀ i u, vs[i]? = some u → w.cell? ⟨b, off + i, none⟩ = some u
theorem Rd.at {w : World} {a : Option Addr} {vs : List Value} (h : Rd w a vs) (k : Nat) (hk : k < vs.length) : ∃ b off, a = some ⟨b, off, none⟩ ∧ w.cell? ⟨b, off + k, none⟩ = vs[k]? := by
  rcases h with rfl | ⟨b, off, rfl, hc⟩
  · simp at hk
  · exact ⟨b, off, rfl, by rw [hc k vs[k] (by simp)]; simp⟩
theorem Rd.kept {w w' : World} {a : Option Addr} {vs : List Value} (h : Rd w a vs) (hk : Kept w w') : Rd w' a vs := by
  rcases h with rfl | ⟨b, off, rfl, hc⟩
  · exact .inl rfl
  · exact .inr ⟨b, off, rfl, fun i u hu => (keptCells hk _ (by rw [hc i u hu]; rfl)).trans (hc i u hu)⟩
theorem Rd.blk {w : World} {b : Nat} {vs : List Value} {T : TypeId} (h : Blk w b vs.toArray T) : Rd w (some ⟨b, 0, none⟩) vs :=
  .inr ⟨b, 0, rfl, fun i u hu => by rw [Nat.zero_add, h.cell]; simpa using hu⟩
/-- What is owned, as a slice that reads so. -/
theorem Rd.owns {w : World} {base n : Nat} {e : TypeId} {v : Value} {vs : List Value} (h : w.ownsRow base e 1 v n vs) : ∃ a c, v = .slice a n c ∧ Rd w a vs := by
  rcases h.2 with ⟨rfl, rfl⟩ | ⟨g, cap, cur, rfl, _, hg, _⟩
  · exact ⟨none, 0, rfl, .inl (List.eq_nil_of_length_eq_zero (by simpa using h.1))⟩
  · refine ⟨_, _, rfl, .inr ⟨g, 0, rfl, fun i u hu => ?_⟩⟩
    rw [Nat.zero_add, World.ownsRow.cellAt h i (by have := (List.getElem?_eq_some_iff.1 hu).1; rw [h.1] at this; exact this)]
    exact hu
theorem ownsRow_base {w : World} {base base' n size : Nat} {e : TypeId} {v : Value} {vs : List Value} (h : w.ownsRow base e size v n vs) (hb : base' ≤ base) : w.ownsRow base' e size v n vs := by
  refine ⟨h.1, ?_⟩
  rcases h.2 with h2 | ⟨g, cap, cur, hv, hg, r⟩
  · exact .inl h2
  · exact .inr ⟨g, cap, cur, hv, by omega, r⟩
theorem ownsRow_upd {w w' : World} {base n size : Nat} {e : TypeId} {v : Value} {vs : List Value} {S : Nat → Prop} (h : w.ownsRow base e size v n vs) (hu : Upd S w w') (hs : ∀ k, base ≤ k → ¬ S k) : w'.ownsRow base e size v n vs := by
  refine ⟨h.1, ?_⟩
  rcases h.2 with h2 | ⟨g, cap, cur, hv, hg, hh, r⟩
  · exact .inl h2
  · exact .inr ⟨g, cap, cur, hv, hg, (hu.block _ (Array.getElem?_eq_some_iff.1 hh).1 (hs g hg)).trans hh, r⟩
end Go.Proofs.Ytdhimfkmgcfohaa
