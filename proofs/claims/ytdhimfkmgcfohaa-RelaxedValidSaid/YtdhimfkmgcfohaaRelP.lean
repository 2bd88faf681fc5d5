/- Relaxed states and moves: plain. -/
import Derived.Test.YtdhimfkmgcfohaaRev
namespace Go.Proofs.Ytdhimfkmgcfohaa
set_option linter.unusedVariables false
set_option linter.unusedSimpArgs false
open Go.RowKit

/-- A move. -/
structure Ev where
  who : Int
  wt : Int
  u : Int
  a : Int
  d : Int
  h : Int
  lo : Int
def Ev.cells (e : Ev) : List Value := [.int .i64 e.who, .int .u8 e.wt, .int .i64 e.u, .int .i64 e.a, .int .i64 e.d, .int .i64 e.h, .int .i64 e.lo]
/-- A state. -/
structure PS where
  rs : List Int
  es : List Int
  hs : List Int
def PS.ok (p : PS) (n m : Nat) : Prop := p.rs.length = m ∧ p.es.length = n ∧ p.hs.length = n
def pushP (ys : List Ar) (p : PS) (e : Ev) : Int :=
  if e.a < (fst ys e.u.toNat : Int) ∨ (fst ys (e.u.toNat + 1) : Int) ≤ e.a then 2
  else if e.d < 1 ∨ p.es.getD e.u.toNat 0 < e.d ∨ p.rs.getD e.a.toNat 0 < e.d ∨ e.h ≠ p.hs.getD e.u.toNat 0 ∨ e.h ≤ e.lo then 30 else 0
def liftP (N : Int) (p : PS) (e : Ev) : Int := if e.h ≤ p.hs.getD e.u.toNat 0 ∨ 2 * N < e.h then 30 else 0
def legalP (N S T : Int) (ys : List Ar) (p : PS) (e : Ev) : Int :=
  if (e.wt ≠ 1 ∧ e.wt ≠ 2) ∨ e.u < 0 ∨ N ≤ e.u ∨ e.u = S ∨ e.u = T then 2
  else if e.wt = 2 then liftP N p e else pushP ys p e
/-- One more (or less) of one number of a list. -/
def plusAt (l : List Int) (i : Nat) (d : Int) : List Int := l.set i (wrap64 (l.getD i 0 + d))
def doesP (n : Nat) (ys : List Ar) (p : PS) (e : Ev) : PS :=
  if e.wt = 2 then ⟨p.rs, p.es, p.hs.set e.u.toNat e.h⟩
  else ⟨plusAt (plusAt p.rs e.a.toNat (-e.d)) (rv n ys e.a.toNat) e.d, plusAt (plusAt p.es e.u.toNat (-e.d)) (hd n ys e.a.toNat) e.d, p.hs⟩
theorem plusAt_len (l : List Int) (i : Nat) (d : Int) : (plusAt l i d).length = l.length := by simp [plusAt]
theorem doesP_ok {n m : Nat} {ys : List Ar} {p : PS} {e : Ev} (h : p.ok n m) : (doesP n ys p e).ok n m := by
  obtain ⟨h1, h2, h3⟩ := h
  unfold doesP PS.ok
  split <;> simp [plusAt_len, h1, h2, h3]
/-- Moves up to the first that may not be done: the state, how many, why. -/
def runP (N S T : Int) (n : Nat) (ys : List Ar) : List Ev → PS → PS × Nat × Int
  | [], p => (p, 0, 0)
  | e :: l, p => if legalP N S T ys p e = 0 then ((runP N S T n ys l (doesP n ys p e)).1, (runP N S T n ys l (doesP n ys p e)).2.1 + 1, (runP N S T n ys l (doesP n ys p e)).2.2) else (p, 0, legalP N S T ys p e)
def moveP (N S T : Int) (n : Nat) (ys : List Ar) (p : PS) (e : Ev) : PS := if legalP N S T ys p e = 0 then doesP n ys p e else p
theorem moveP_ok {N S T : Int} {n m : Nat} {ys : List Ar} {p : PS} {e : Ev} (h : p.ok n m) : (moveP N S T n ys p e).ok n m := by
  unfold moveP
  split
  · exact doesP_ok h
  · exact h
theorem runP_ok {N S T : Int} {n m : Nat} {ys : List Ar} : ∀ (l : List Ev) (p : PS), p.ok n m → (runP N S T n ys l p).1.ok n m
  | [], p, h => h
  | e :: l, p, h => by
    unfold runP
    split
    · exact runP_ok l _ (doesP_ok h)
    · exact h
/-- The lowest end of a vertex's arcs that are open, from arc a on, k arcs. -/
def leastP (n : Nat) (ys : List Ar) (p : PS) : Nat → Nat → Int → Bool → Int × Bool
  | 0, _, lo, so => (lo, so)
  | k + 1, a, lo, so =>
    if 0 < p.rs.getD a 0 ∧ (so = false ∨ p.hs.getD (hd n ys a) 0 < lo) then leastP n ys p k (a + 1) (p.hs.getD (hd n ys a) 0) true
    else leastP n ys p k (a + 1) lo so
def leastOf (n : Nat) (ys : List Ar) (p : PS) (u : Nat) : Int × Bool := leastP n ys p (fst ys (u + 1) - fst ys u) (fst ys u) 0 false
def strictP (N S T : Int) (n : Nat) (ys : List Ar) (p : PS) (e : Ev) : Bool :=
  if legalP N S T ys p e ≠ 0 then false
  else if e.wt = 1 then decide (p.hs.getD e.u.toNat 0 - p.hs.getD (hd n ys e.a.toNat) 0 = 1 ∧ e.d = min (p.es.getD e.u.toNat 0) (p.rs.getD e.a.toNat 0))
  else (leastOf n ys p e.u.toNat).2 && decide (0 < p.es.getD e.u.toNat 0 ∧ p.hs.getD e.u.toNat 0 ≤ (leastOf n ys p e.u.toNat).1 ∧ e.h = (leastOf n ys p e.u.toNat).1 + 1)
end Go.Proofs.Ytdhimfkmgcfohaa
