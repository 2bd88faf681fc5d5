/- What additions to cells come to, in whichever order. No program in sight. -/
import Derived.Test.YtnffnpolkkgnhaaBank
import Derived.Test.YtnffnpolkkgnhaaOpen
namespace Go.Proofs.Ytnffnpolkkgnhaa
set_option linter.unusedVariables false
open Go.RowKit

/-- What was added to cell j by the first k of some additions. -/
def tsum (A V : Nat → Int) (j : Int) : Nat → Int
  | 0 => 0
  | k + 1 => tsum A V j k + (if A k = j then V k else 0)
def tal (N : Nat) (A V : Nat → Int) (k : Nat) : List Int := (List.range N).map fun (j : Nat) => wrap64 (tsum A V (j : Int) k)
/-- Behind M additions, k of which were taken off again. -/
def tal2 (N : Nat) (A V : Nat → Int) (M k : Nat) : List Int := (List.range N).map fun (j : Nat) => wrap64 (tsum A V (j : Int) M - tsum A V (j : Int) k)
theorem tal_len (N : Nat) (A V : Nat → Int) (k : Nat) : (tal N A V k).length = N := by simp [tal]
theorem tal2_len (N : Nat) (A V : Nat → Int) (M k : Nat) : (tal2 N A V M k).length = N := by simp [tal2]
theorem wrap64_zero : wrap64 0 = 0 := by unfold wrap64; omega
theorem tal_zero (N : Nat) (A V : Nat → Int) : tal N A V 0 = List.replicate N 0 := by
  apply List.ext_getElem (by simp [tal])
  intro i h1 h2
  simp [tal, tsum, wrap64_zero]
theorem tal2_zero (N : Nat) (A V : Nat → Int) (M : Nat) : tal2 N A V M 0 = tal N A V M := by
  apply List.ext_getElem (by simp [tal, tal2])
  intro i h1 h2
  simp [tal, tal2, tsum]
theorem tal2_all (N : Nat) (A V : Nat → Int) (M : Nat) : tal2 N A V M M = List.replicate N 0 := by
  apply List.ext_getElem (by simp [tal2])
  intro i h1 h2
  simp [tal2, wrap64_zero]
theorem wrap64_add (x v : Int) : wrap64 (wrap64 x + v) = wrap64 (x + v) := by unfold wrap64; omega
theorem wrap64_neg (x v : Int) : wrap64 (wrap64 x + wrap64 (-v)) = wrap64 (x - v) := by unfold wrap64; omega
theorem row_put {N : Nat} {f g : Nat → Int} {q : Int} (h0 : 0 ≤ q) (h1 : q < N) (v : Int) (hq : g q.toNat = wrap64 (f q.toNat + v)) (ho : ∀ j : Nat, ¬ (j : Int) = q → g j = f j) :
    bput ((List.range N).map f) q (wrap64 (bget ((List.range N).map f) q + v)) = (List.range N).map g := by
  rw [bput_in _ h0, bget_in h0]
  apply List.ext_getElem (by simp)
  intro i h2 h3
  have hi : i < N := by simpa using h3
  rw [List.getElem_set]
  split
  · rename_i e
    subst e
    simp [List.getD, hi, hq]
  · rename_i e
    simp only [List.getElem_map, List.getElem_range]
    exact (ho i (by omega)).symm
theorem tal_put {N : Nat} {A V : Nat → Int} {k : Nat} {q v : Int} (ha : A k = q) (hv : V k = v) (h0 : 0 ≤ q) (h1 : q < N) :
    bput (tal N A V k) q (wrap64 (bget (tal N A V k) q + v)) = tal N A V (k + 1) := by
  subst ha hv
  refine row_put h0 h1 _ ?_ ?_
  · rw [wrap64_add, tsum, if_pos (by omega)]
  · intro j hj
    rw [tsum, if_neg (by omega), Int.add_zero]
theorem tal2_put {N : Nat} {A V : Nat → Int} {M k : Nat} {q v : Int} (ha : A k = q) (hv : V k = v) (h0 : 0 ≤ q) (h1 : q < N) :
    bput (tal2 N A V M k) q (wrap64 (bget (tal2 N A V M k) q + wrap64 (-v))) = tal2 N A V M (k + 1) := by
  subst ha hv
  refine row_put h0 h1 _ ?_ ?_
  · rw [wrap64_neg, tsum, if_pos (by omega)]
    congr 1
    omega
  · intro j hj
    rw [tsum, if_neg (by omega), Int.add_zero]
/-- Turned round. -/
def turned (M t : Nat) (f : Nat → Int) (i : Nat) : Int := f ((i + t) % M)
theorem tsum_congr {A V A' V' : Nat → Int} (j : Int) : ∀ k, (∀ i, i < k → A i = A' i ∧ V i = V' i) → tsum A V j k = tsum A' V' j k
  | 0, _ => rfl
  | k + 1, h => by
    rw [tsum, tsum, tsum_congr j k (fun i hi => h i (by omega)), (h k (by omega)).1, (h k (by omega)).2]
theorem tsum_shift (A V : Nat → Int) (j : Int) : ∀ k, tsum (fun i => A (i + 1)) (fun i => V (i + 1)) j k + (if A 0 = j then V 0 else 0) = tsum A V j (k + 1)
  | 0 => by simp [tsum]
  | k + 1 => by
    have h := tsum_shift A V j k
    show tsum (fun i => A (i + 1)) (fun i => V (i + 1)) j k + (if A (k + 1) = j then V (k + 1) else 0) + (if A 0 = j then V 0 else 0) = tsum A V j (k + 1) + (if A (k + 1) = j then V (k + 1) else 0)
    omega
theorem tsum_turned (A V : Nat → Int) (j : Int) (M : Nat) : ∀ t, tsum (turned M t A) (turned M t V) j M = tsum A V j M
  | 0 => tsum_congr j M (fun i hi => by simp [turned, Nat.mod_eq_of_lt hi])
  | t + 1 => by
    rw [← tsum_turned A V j M t]
    have h := tsum_shift (turned M t A) (turned M t V) j M
    have e : tsum (turned M (t + 1) A) (turned M (t + 1) V) j M = tsum (fun i => turned M t A (i + 1)) (fun i => turned M t V (i + 1)) j M :=
      tsum_congr j M (fun i hi => by
        have : i + (t + 1) = i + 1 + t := by omega
        simp [turned, this])
    rw [e]
    rw [tsum] at h
    have e2 : ∀ f : Nat → Int, turned M t f M = turned M t f 0 := by
      intro f
      simp [turned, Nat.add_mod_left]
    rw [e2, e2] at h
    omega
theorem tal_turned (N : Nat) (A V : Nat → Int) (M t : Nat) : tal N (turned M t A) (turned M t V) M = tal N A V M := by
  unfold tal
  simp only [tsum_turned]
/-- The cell that an access speaks of, and its number. -/
def numOf : Value → Int
  | .int _ n => n
  | _ => 0
def aOf (N : Nat) (els : List (List Value)) (i : Nat) : Int := bits .and .i64 (numOf ((els.getD i []).getD 1 (.bool false))) 255 % (N : Int)
def vOf (els : List (List Value)) (i : Nat) : Int := numOf ((els.getD i []).getD 2 (.bool false))
theorem op_row {els : List (List Value)} (hf : ∀ e ∈ els, fits [some .u8, some .i64, some .i64, some .i64, none] e) {b off : Nat} {w : World} (hc : ∀ i (h : i < els.length) j v, els[i][j]? = some v → w.cell? ⟨b, off + i * 5 + j, none⟩ = some v)
    {k : Nat} (hk : k < els.length) (N : Nat) : ∃ what at_ v0 old right, w.cell? ⟨b, off + k * 5, none⟩ = some (.int .u8 what) ∧ w.cell? ⟨b, off + k * 5 + 1, none⟩ = some (.int .i64 at_) ∧ w.cell? ⟨b, off + k * 5 + 2, none⟩ = some (.int .i64 v0) ∧
      w.cell? ⟨b, off + k * 5 + 3, none⟩ = some (.int .i64 old) ∧ w.cell? ⟨b, off + k * 5 + 4, none⟩ = some (.bool right) ∧ aOf N els k = bits .and .i64 at_ 255 % (N : Int) ∧ vOf els k = v0 := by
  have hf := hf (els[k]'hk) (List.getElem_mem _)
  obtain ⟨x1, u1, e1, h1, f1⟩ := fits_int hf
  obtain ⟨x2, u2, e2, _, f2⟩ := fits_int f1
  obtain ⟨x3, u3, e3, _, f3⟩ := fits_int f2
  obtain ⟨x4, u4, e4, _, f4⟩ := fits_int f3
  obtain ⟨x5, u5, e5, f5⟩ := fits_bool f4
  have hel : els[k]'hk = [.int .u8 x1, .int .i64 x2, .int .i64 x3, .int .i64 x4, .bool x5] := by rw [e1, e2, e3, e4, e5, fits_nil f5]
  have hd : els.getD k [] = [.int .u8 x1, .int .i64 x2, .int .i64 x3, .int .i64 x4, .bool x5] := by rw [← hel]; simp [List.getD, hk]
  have hc := hc k hk
  rw [hel] at hc
  refine ⟨x1, x2, x3, x4, x5, hc 0 _ rfl, hc 1 _ rfl, hc 2 _ rfl, hc 3 _ rfl, hc 4 _ rfl, ?_, ?_⟩
  · rw [aOf, hd]; rfl
  · rw [vOf, hd]; rfl
end Go.Proofs.Ytnffnpolkkgnhaa
