/- label.Least, acequiaref06.Least (printed by gen_lableast.py). -/
import Derived.Test.YticeionjlknlcaaLabValid
namespace Go.Proofs.Yticeionjlknlcaa
set_option linter.unusedVariables false
set_option linter.unusedSimpArgs false
open Go.RowKit

/-- How high a residual arc's end is. -/
def kk (n : Nat) (ys : List Ar) (hs : List Int) (a : Nat) : Int := hs.getD (hd n ys a) 0
/-- The first of the lowest open ends of a vertex. -/
def LeastIs (n : Nat) (ys : List Ar) (rs hs : List Int) (lo hi : Nat) (b l : Int) (p : Bool) : Prop :=
  (p = false ∧ b = 0 ∧ l = 0 ∧ ∀ a, lo ≤ a → a < hi → ¬ 0 < rs.getD a 0) ∨
  (p = true ∧ ∃ c : Nat, b = c ∧ lo ≤ c ∧ c < hi ∧ 0 < rs.getD c 0 ∧ l = kk n ys hs c ∧ ∀ a, lo ≤ a → a < hi → 0 < rs.getD a 0 → l < kk n ys hs a ∨ (l = kk n ys hs a ∧ c ≤ a))
def LeastOf (N S T : Int) (n m : Nat) (ys : List Ar) (rs hs : List Int) (u b l : Int) (p : Bool) : Prop :=
  if mayB N S T m rs hs = true ∧ 0 ≤ u ∧ u < N then LeastIs n ys rs hs (fst ys u.toNat) (fst ys (u.toNat + 1)) b l p else b = 0 ∧ l = 0 ∧ p = false
def LeastEnd (N S T : Int) (n m : Nat) (ys : List Ar) (rs hs : List Int) (u : Int) (w : World) (e : Ending) (w' : World) : Prop := ∃ b l p, e = .returned (.tuple #[.int .i64 b, .int .i64 l, .bool p]) ∧ LeastOf N S T n m ys rs hs u b l p ∧ Kept w w'
theorem least_one {n : Nat} {ys : List Ar} {rs hs : List Int} {lo hi : Nat} {b l b' l' : Int} {p p' : Bool} (h : LeastIs n ys rs hs lo hi b l p) (h' : LeastIs n ys rs hs lo hi b' l' p') : b = b' ∧ l = l' ∧ p = p' := by
  rcases h with ⟨rfl, rfl, rfl, h1⟩ | ⟨rfl, c, rfl, h1, h2, h3, h4, h5⟩ <;> rcases h' with ⟨rfl, rfl, rfl, g1⟩ | ⟨rfl, d, rfl, g1, g2, g3, g4, g5⟩
  · exact ⟨rfl, rfl, rfl⟩
  · exact absurd g3 (h1 d g1 g2)
  · exact absurd h3 (g1 c h1 h2)
  · have a1 := h5 d g1 g2 g3
    have a2 := g5 c h1 h2 h3
    have : c = d ∧ l = l' := by omega
    obtain ⟨rfl, rfl⟩ := this
    exact ⟨rfl, rfl, rfl⟩
theorem leastOf_one {N S T : Int} {n m : Nat} {ys : List Ar} {rs hs : List Int} {u b l b' l' : Int} {p p' : Bool} (h : LeastOf N S T n m ys rs hs u b l p) (h' : LeastOf N S T n m ys rs hs u b' l' p') : b = b' ∧ l = l' ∧ p = p' := by
  unfold LeastOf at h h'
  split at h
  · rename_i hc
    rw [if_pos hc] at h'
    exact least_one h h'
  · rename_i hc
    rw [if_neg hc] at h'
    obtain ⟨rfl, rfl, rfl⟩ := h
    obtain ⟨rfl, rfl, rfl⟩ := h'
    exact ⟨rfl, rfl, rfl⟩
/-- Of those up to a, rising. -/
def Asc (N : Int) (n : Nat) (ys : List Ar) (rs hs : List Int) (lo a : Nat) (b l : Int) : Prop :=
  (l = N + 1 ∧ b = 0 ∧ ∀ a', lo ≤ a' → a' < a → ¬ 0 < rs.getD a' 0) ∨
  (∃ c : Nat, b = c ∧ lo ≤ c ∧ c < a ∧ 0 < rs.getD c 0 ∧ l = kk n ys hs c ∧ l ≤ N ∧ ∀ a', lo ≤ a' → a' < a → 0 < rs.getD a' 0 → l < kk n ys hs a' ∨ (l = kk n ys hs a' ∧ c ≤ a'))
theorem asc_skip {N : Int} {n : Nat} {ys : List Ar} {rs hs : List Int} {lo a : Nat} {b l : Int} (h : Asc N n ys rs hs lo a b l) (hk : kk n ys hs a ≤ N) (hs' : ¬ (0 < rs.getD a 0 ∧ kk n ys hs a < l)) : Asc N n ys rs hs lo (a + 1) b l := by
  rcases h with ⟨rfl, rfl, h1⟩ | ⟨c, rfl, h1, h2, h3, h4, h6, h5⟩
  · refine .inl ⟨rfl, rfl, fun a' g1 g2 => ?_⟩
    by_cases ha : a' = a
    · subst ha
      intro g
      exact hs' ⟨g, by omega⟩
    · exact h1 a' g1 (by omega)
  · refine .inr ⟨c, rfl, h1, by omega, h3, h4, h6, fun a' g1 g2 g3 => ?_⟩
    by_cases ha : a' = a
    · subst ha
      have : ¬ kk n ys hs a' < l := fun g => hs' ⟨g3, g⟩
      omega
    · exact h5 a' g1 (by omega) g3
theorem asc_take {N : Int} {n : Nat} {ys : List Ar} {rs hs : List Int} {lo a : Nat} {b l : Int} (h : Asc N n ys rs hs lo a b l) (hl : lo ≤ a) (hk : kk n ys hs a ≤ N) (h0 : 0 < rs.getD a 0) (h1 : kk n ys hs a < l) : Asc N n ys rs hs lo (a + 1) a (kk n ys hs a) := by
  refine .inr ⟨a, rfl, hl, by omega, h0, rfl, hk, fun a' g1 g2 g3 => ?_⟩
  by_cases ha : a' = a
  · subst ha; omega
  · rcases h with ⟨rfl, rfl, e1⟩ | ⟨c, rfl, e1, e2, e3, e4, e6, e5⟩
    · exact absurd g3 (e1 a' g1 (by omega))
    · have := e5 a' g1 (by omega) g3
      omega
/-- Of those from a on, falling. -/
def Desc (n : Nat) (ys : List Ar) (rs hs : List Int) (a hi : Nat) (b l : Int) : Prop :=
  (l = -1 ∧ b = 0 ∧ ∀ a', a ≤ a' → a' < hi → ¬ 0 < rs.getD a' 0) ∨
  (∃ c : Nat, b = c ∧ a ≤ c ∧ c < hi ∧ 0 < rs.getD c 0 ∧ l = kk n ys hs c ∧ 0 ≤ l ∧ ∀ a', a ≤ a' → a' < hi → 0 < rs.getD a' 0 → l < kk n ys hs a' ∨ (l = kk n ys hs a' ∧ c ≤ a'))
theorem desc_skip {n : Nat} {ys : List Ar} {rs hs : List Int} {a hi : Nat} {b l : Int} (h : Desc n ys rs hs (a + 1) hi b l) (hs' : ¬ (0 < rs.getD a 0 ∧ (l < 0 ∨ kk n ys hs a ≤ l))) : Desc n ys rs hs a hi b l := by
  rcases h with ⟨rfl, rfl, h1⟩ | ⟨c, rfl, h1, h2, h3, h4, h6, h5⟩
  · refine .inl ⟨rfl, rfl, fun a' g1 g2 => ?_⟩
    by_cases ha : a' = a
    · subst ha
      intro g
      exact hs' ⟨g, .inl (by omega)⟩
    · exact h1 a' (by omega) g2
  · refine .inr ⟨c, rfl, by omega, h2, h3, h4, h6, fun a' g1 g2 g3 => ?_⟩
    by_cases ha : a' = a
    · subst ha
      have : ¬ kk n ys hs a' ≤ l := fun g => hs' ⟨g3, .inr g⟩
      omega
    · exact h5 a' (by omega) g2 g3
theorem desc_take {n : Nat} {ys : List Ar} {rs hs : List Int} {a hi : Nat} {b l : Int} (h : Desc n ys rs hs (a + 1) hi b l) (hh : a < hi) (hk : 0 ≤ kk n ys hs a) (h0 : 0 < rs.getD a 0) (h1 : l < 0 ∨ kk n ys hs a ≤ l) : Desc n ys rs hs a hi a (kk n ys hs a) := by
  refine .inr ⟨a, rfl, by omega, hh, h0, rfl, hk, fun a' g1 g2 g3 => ?_⟩
  by_cases ha : a' = a
  · subst ha; omega
  · rcases h with ⟨rfl, rfl, e1⟩ | ⟨c, rfl, e1, e2, e3, e4, e6, e5⟩
    · exact absurd g3 (e1 a' (by omega) g2)
    · have := e5 a' (by omega) g2 g3
      omega
end Go.Proofs.Yticeionjlknlcaa
