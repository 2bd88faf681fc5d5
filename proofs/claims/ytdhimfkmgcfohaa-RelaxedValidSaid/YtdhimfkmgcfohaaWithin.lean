/- acequialow.Within of a right net. -/
import Derived.Test.YtdhimfkmgcfohaaNetOk
import Derived.Deep.CutRange
namespace Go.Proofs.Ytdhimfkmgcfohaa
set_option linter.unusedVariables false
open Go.RowKit

/-- A number, turned to one from 0 on. -/
def up0 (x : Int) : Int := if x < 0 then -(x + 1) else x
/-- What is within the k-th arc's capacity. -/
def wth (ls : List Int) (k : Nat) (x : Ar) : Int := if ls.length ≤ k ∨ x.f = x.t then 0 else up0 (ls.getD k 0) % (x.c + 1)
def wths (ls : List Int) (ys : List Ar) : List Int := ys.mapIdx (wth ls)
/-- A flow within the capacities. -/
def FsOk (fs : List Int) (ys : List Ar) : Prop := fs.length = ys.length ∧ ∀ (k : Nat) (x : Ar), ys[k]? = some x → ∃ v, fs[k]? = some v ∧ 0 ≤ v ∧ v ≤ x.c
theorem wths_len (ls : List Int) (ys : List Ar) : (wths ls ys).length = ys.length := by simp [wths]
theorem wths_at (ls : List Int) (ys : List Ar) (k : Nat) (h : k < ys.length) (h' : k < (wths ls ys).length) : (wths ls ys)[k] = wth ls k ys[k] := by simp [wths]
theorem wth_ok (ls : List Int) (k : Nat) (x : Ar) (hc : 0 ≤ x.c) : 0 ≤ wth ls k x ∧ wth ls k x ≤ x.c := by
  unfold wth
  split
  · omega
  · have h1 := Int.emod_nonneg (up0 (ls.getD k 0)) (show x.c + 1 ≠ 0 by omega)
    have h2 := Int.emod_lt_of_pos (up0 (ls.getD k 0)) (show 0 < x.c + 1 by omega)
    omega
theorem wths_ok {N : Int} (ls : List Int) (ys : List Ar) (hy : ∀ x ∈ ys, ArcOk N x) : FsOk (wths ls ys) ys := by
  refine ⟨wths_len ls ys, fun k x hx => ?_⟩
  obtain ⟨hk, rfl⟩ := List.getElem?_eq_some_iff.1 hx
  have ho := hy _ (List.getElem_mem hk)
  have hw := wth_ok ls k ys[k] (by unfold ArcOk at ho; omega)
  refine ⟨wth ls k ys[k], ?_, hw.1, hw.2⟩
  rw [List.getElem?_eq_getElem (by rw [wths_len]; exact hk), wths_at _ _ _ hk]
theorem filled_same {α : Type} (xs : List α) (z : α) (k : Nat) (h : k < xs.length) (hz : xs[k] = z) : filled xs z (k + 1) = filled xs z k := by
  rw [← filled_set xs z k h, hz]
  have hl : (filled xs z k).length = xs.length := length_filled xs z k (by omega)
  refine List.ext_getElem (by simp) fun i h1 h2 => ?_
  rw [List.getElem_set]
  split
  · rename_i e
    subst e
    simp [filled, List.getElem_append]
    exact fun _ => hz.symm
  · rfl
theorem map_at {ls : List Int} {k : Nat} (h : k < ls.length) : (ls.map (Value.int .i64))[k]? = some (.int .i64 (ls.getD k 0)) := by simp [h]

end Go.Proofs.Ytdhimfkmgcfohaa
