/- Blocks of plain cells, loaded and stored whole. No program in sight. -/
import Derived.Test.YtdhimfkmgcfohaaBase2
import Derived.Deep.MidRow
namespace Go.Proofs.Ytdhimfkmgcfohaa
set_option linter.unusedVariables false
set_option linter.unusedSimpArgs false
open Go.RowKit

theorem upd_setCells (b : Nat) : ∀ (vs : List Value) (o : Nat) (w : World), Upd (fun k => k = b) w (w.setCells b o vs)
  | [], _, w => Upd.refl _ _
  | v :: r, o, w => by
    rw [World.setCells]
    exact ((Upd.refl (fun k => k = b) w).setCell (p := ⟨b, o, none⟩) (.inl rfl) v).trans (upd_setCells b r (o + 1) _)
def putL : Array Value → Nat → List Value → Array Value
  | arr, _, [] => arr
  | arr, o, v :: r => putL (arr.setIfInBounds o v) (o + 1) r
theorem Blk.over {b : Nat} {T : TypeId} : ∀ (vs : List Value) (w : World) (arr : Array Value) (o : Nat), Blk w b arr T → Blk (w.setCells b o vs) b (putL arr o vs) T
  | [], w, arr, o, h => h
  | v :: r, w, arr, o, h => by
    rw [World.setCells]
    exact Blk.over r _ _ (o + 1) (h.set o v)
theorem putL_all : ∀ (vs pre olds : List Value), olds.length = vs.length → putL (pre ++ olds).toArray pre.length vs = (pre ++ vs).toArray
  | [], pre, olds, h => by
    have : olds = [] := List.eq_nil_of_length_eq_zero (by simpa using h)
    subst this
    simp [putL]
  | v :: r, pre, [], h => by simp at h
  | v :: r, pre, o :: olds, h => by
    unfold putL
    rw [List.setIfInBounds_toArray, List.set_append_right _ _ (Nat.le_refl _), Nat.sub_self, List.set_cons_zero]
    have := putL_all r (pre ++ [v]) olds (by simpa using h)
    simpa using this
theorem Blk.all {w : World} {b : Nat} {T : TypeId} {olds : List Value} (h : Blk w b olds.toArray T) (vs : List Value) (hl : olds.length = vs.length) : Blk (w.setCells b 0 vs) b vs.toArray T := by
  have h1 := Blk.over vs w _ 0 h
  have h2 := putL_all vs [] olds hl
  simp only [List.nil_append, List.length_nil] at h2
  rwa [h2] at h1
theorem Blk.alls {w : World} {b : Nat} {T : TypeId} {olds : List Value} (h : Blk w b olds.toArray T) (vs : List Value) (hl : olds.length = vs.length) : Blk (w.setCells b 0 vs) b vs.toArray T ∧ Upd (fun k => k = b) w (w.setCells b 0 vs) := ⟨h.all vs hl, upd_setCells b vs 0 w⟩
theorem Blk.there {w : World} {b : Nat} {T : TypeId} {arr : Array Value} (h : Blk w b arr T) (n : Nat) (hn : n = arr.size) : w.there b 0 n := by
  subst hn
  intro j hj
  rw [Nat.zero_add, h.cell]
  exact ⟨by rw [Array.getElem?_eq_getElem hj]; rfl, h.free j⟩
theorem Blk.range {w : World} {b : Nat} {T : TypeId} {vs : List Value} (h : Blk w b vs.toArray T) : w.rangeAt b 0 vs := by
  intro j v hv
  rw [Nat.zero_add, h.cell, List.getElem?_toArray, hv]
end Go.Proofs.Ytdhimfkmgcfohaa
