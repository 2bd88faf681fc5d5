/- A right graph; heights; what goes down. Plain. -/
import Derived.Test.YtdhimfkmgcfohaaCsrRd
namespace Go.Proofs.Ytdhimfkmgcfohaa
set_option linter.unusedVariables false
open Go.RowKit

/-- A right graph. -/
structure Gr (N S T : Int) (n m : Nat) (ys : List Ar) : Prop where
  ok : NetOk N S T ys
  hn : N.toNat = n
  hm : (enAll n ys).length = m
theorem Gr.len {N S T : Int} {n m : Nat} {ys : List Ar} (h : Gr N S T n m ys) : (n : Int) = N ∧ 2 ≤ n ∧ n ≤ 16 ∧ m ≤ 640 ∧ 0 ≤ S ∧ S < N ∧ 0 ≤ T ∧ T < N ∧ S ≠ T := by
  have h1 := h.ok.n2
  have h2 := h.ok.n16
  have h3 := h.hn
  have h4 := enAll_len n ys
  have h5 : n * ys.length ≤ 16 * 40 := Nat.mul_le_mul (by omega) h.ok.len
  have h6 := h.ok.s
  have h7 := h.ok.t
  have h8 := h.ok.st
  have h9 := h.hm
  omega
theorem Gr.arcs {N S T : Int} {n m : Nat} {ys : List Ar} (h : Gr N S T n m ys) : ∀ x ∈ ys, ArcOk (n : Int) x := by rw [h.len.1]; exact h.ok.arcs
/-- Where a vertex's row begins. -/
def fst (ys : List Ar) (v : Nat) : Nat := (enAll v ys).length
theorem fst_zero (ys : List Ar) : fst ys 0 = 0 := by simp [fst, enAll]
theorem fst_mono (ys : List Ar) {u v : Nat} (h : u ≤ v) : fst ys u ≤ fst ys v := by
  obtain ⟨d, rfl⟩ := Nat.exists_eq_add_of_le h
  exact enAll_mono u ys d
theorem firsts_get (n : Nat) (ys : List Ar) (v : Nat) (h : v ≤ n) : (nv (firsts (n + 1) ys))[v]? = some (.int .i64 (fst ys v : Nat)) := by
  unfold nv
  rw [List.getElem?_map, firsts_at _ _ _ (by omega)]
  rfl
/-- Where a residual arc begins. -/
def tl (ys : List Ar) : Nat → Nat → Nat
  | 0, _ => 0
  | n + 1, a => if fst ys n ≤ a then n else tl ys n a
theorem tl_of (ys : List Ar) (a v : Nat) (h1 : fst ys v ≤ a) (h2 : a < fst ys (v + 1)) : ∀ n, v < n → tl ys n a = v
  | 0, h => by omega
  | n + 1, h => by
    unfold tl
    by_cases hv : v = n
    · subst hv
      rw [if_pos h1]
    · rw [if_neg, tl_of ys a v h1 h2 n (by omega)]
      have := fst_mono ys (show v + 1 ≤ n by omega)
      omega
theorem tl_at (ys : List Ar) (a : Nat) : ∀ n, a < fst ys n → tl ys n a < n ∧ fst ys (tl ys n a) ≤ a ∧ a < fst ys (tl ys n a + 1)
  | 0, h => by rw [fst_zero] at h; omega
  | n + 1, h => by
    unfold tl
    split
    · exact ⟨by omega, by assumption, h⟩
    · have := tl_at ys a n (by omega)
      exact ⟨by omega, this.2.1, this.2.2⟩
/-- Where one ends. -/
def hd (n : Nat) (ys : List Ar) (a : Nat) : Nat := ((enAll n ys)[a]?.map fun e => e.h.toNat).getD 0
theorem hd_get {N S T : Int} {n m : Nat} {ys : List Ar} (h : Gr N S T n m ys) (a : Nat) (ha : a < m) : (hv (enAll n ys))[a]? = some (.int .i64 (hd n ys a : Nat)) ∧ hd n ys a < n := by
  have hm := h.hm
  have hl : a < (enAll n ys).length := by omega
  obtain ⟨x, hx, ⟨h1, h2, -⟩, -, -⟩ := mem_all.1 (List.getElem_mem hl)
  have ho := h.arcs _ (List.mem_of_getElem? hx)
  unfold ArcOk at ho
  have h3 : 0 ≤ (enAll n ys)[a].h ∧ (enAll n ys)[a].h < n := by rw [h2]; split <;> omega
  have h4 : hd n ys a = (enAll n ys)[a].h.toNat := by simp [hd, hl]
  rw [h4]
  refine ⟨?_, by omega⟩
  simp [hv, hl]
  omega
/-- Heights? -/
def rightB (N S T : Int) (hs : List Int) : Bool := decide ((hs.length : Int) = N) && hs.all (fun k => decide (0 ≤ k) && decide (k ≤ N)) && decide (hs.getD T.toNat 0 = 0) && decide (hs.getD S.toNat 0 = N)
def mayB (N S T : Int) (m : Nat) (rs hs : List Int) : Bool := decide (rs.length = m) && rightB N S T hs
theorem rightB_in {N S T : Int} {hs : List Int} (h : rightB N S T hs = true) (i : Nat) (hi : i < hs.length) : (hs.length : Int) = N ∧ 0 ≤ hs.getD i 0 ∧ hs.getD i 0 ≤ N := by
  simp only [rightB, Bool.and_eq_true, decide_eq_true_eq, List.all_eq_true] at h
  obtain ⟨⟨⟨h1, h2⟩, -⟩, -⟩ := h
  have := h2 hs[i] (List.getElem_mem hi)
  have e : hs.getD i 0 = hs[i] := by simp [hi]
  rw [e]
  omega
/-- How far down a residual arc goes. -/
def byOf (n : Nat) (ys : List Ar) (hs : List Int) (a : Nat) : Int := hs.getD (tl ys n a) 0 - hs.getD (hd n ys a) 0
def dnQ (S : Int) (n : Nat) (ys : List Ar) (rs hs : List Int) (p : Int → Bool) (a : Nat) : Bool := decide ((tl ys n a : Int) ≠ S) && decide (0 < rs.getD a 0) && p (byOf n ys hs a)
/-- What goes down so. -/
def dnL (N S T : Int) (n m : Nat) (ys : List Ar) (rs hs : List Int) (p : Int → Bool) : List Nat := if mayB N S T m rs hs then (List.range m).filter (dnQ S n ys rs hs p) else []
theorem dnL_len (N S T : Int) (n m : Nat) (ys : List Ar) (rs hs : List Int) (p : Int → Bool) : (dnL N S T n m ys rs hs p).length ≤ m := by
  unfold dnL
  split
  · have := List.length_filter_le (dnQ S n ys rs hs p) (List.range m)
    simpa using this
  · simp
theorem lv_get {hs : List Int} {i : Nat} (h : i < hs.length) : (lv hs)[i]? = some (.int .i64 (hs.getD i 0)) := by simp [lv, h]
theorem range_filter_succ (p : Nat → Bool) (k : Nat) : (List.range (k + 1)).filter p = (List.range k).filter p ++ (if p k then [k] else []) := by
  rw [List.range_succ, List.filter_append]
  cases h : p k <;> simp [h]
end Go.Proofs.Ytdhimfkmgcfohaa
