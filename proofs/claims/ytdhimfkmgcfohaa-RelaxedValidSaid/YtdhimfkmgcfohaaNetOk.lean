/- A right net; the state of acequialow.Some. No walk. -/
import Derived.Test.YtdhimfkmgcfohaaArcRow
import Derived.Test.YtdhimfkmgcfohaaStep
namespace Go.Proofs.Ytdhimfkmgcfohaa
set_option linter.unusedVariables false
open Go.RowKit

def ArcOk (N : Int) (x : Ar) : Prop := 0 ≤ x.f ∧ x.f < N ∧ 0 ≤ x.t ∧ x.t < N ∧ 0 ≤ x.c ∧ x.c < 1125899906842624
structure NetOk (N S T : Int) (ys : List Ar) : Prop where
  n2 : 2 ≤ N
  n16 : N ≤ 16
  s : 0 ≤ S ∧ S < N
  t : 0 ≤ T ∧ T < N
  st : S ≠ T
  len : ys.length ≤ 40
  arcs : ∀ x ∈ ys, ArcOk N x
/-- What hands back a net. -/
def NetIs (w : World) (e : Ending) (w' : World) : Prop := ∃ N S T a c ys, e = .returned (.agg #[.int .i64 N, .int .i64 S, .int .i64 T, .slice a (List.length ys) c]) ∧ NetOk N S T ys ∧ Own w' w.heap.size (.slice a ys.length c) ys ∧ Kept w w'
/-- The state of Some: what came in, where it hands back, the net that is made. -/
structure SF (w : World) (nb rb ob Bs : Nat) (va : Value) (N S T : Int) (vn : Value) (vo : Value) (ys : List Ar) (wr : World) : Prop where
  kp : Kept w wr
  prm : ∃ N0 S0 T0, Blk wr nb #[.int .i64 N0, .int .i64 S0, .int .i64 T0, va] 24
  res : Blk wr rb #[.int .i64 0, .int .i64 0, .int .i64 0, .slice none 0 0] 24
  net : Blk wr ob #[.int .i64 N, .int .i64 S, .int .i64 T, vn] 24
  own : Own wr Bs vo ys
  lt : w.heap.size ≤ nb ∧ nb < Bs ∧ rb < Bs ∧ ob < Bs ∧ Bs ≤ wr.heap.size ∧ w.heap.size ≤ rb ∧ w.heap.size ≤ ob ∧ nb ≠ ob ∧ rb ≠ ob
section
variable {w : World} {nb rb ob Bs : Nat} {va : Value} {N S T : Int} {vn vo : Value} {ys : List Ar} {wr w' : World}
theorem SF.kept (h : SF w nb rb ob Bs va N S T vn vo ys wr) (hk : Kept wr w') : SF w nb rb ob Bs va N S T vn vo ys w' :=
  ⟨h.kp.trans hk, by obtain ⟨a, b, c, hb⟩ := h.prm; exact ⟨a, b, c, hb.kept hk⟩, h.res.kept hk, h.net.kept hk, h.own.kept hk, by have := h.lt; have := hk.size; omega⟩
theorem SF.app (h : SF w nb rb ob Bs va N S T vn vo ys wr) {vo' : Value} {x : Ar} {n : Nat} (hn : ys.length + 1 = n) (hr : w'.ownsRow Bs 68 3 vo' n (acells ys ++ [.int .i64 x.f, .int .i64 x.t, .int .i64 x.c])) (hg : wr.grownBy w' vo.ownBlock) :
    SF w nb rb ob Bs va N S T vn vo' (ys ++ [x]) w' := by
  have hu : Upd (fun k => vo.ownBlock = some k) wr w' := Upd.grown (Upd.refl _ _) hg (fun k hk => .inl hk)
  have hb : ∀ k, k < Bs → ¬ vo.ownBlock = some k := fun k hk he => by have := (World.ownsRow.lt h.own k he).1; omega
  have hl := h.lt
  refine ⟨h.kp.then hu (fun k hk he => hb k (by omega) he), ?_, h.res.upd hu (hb _ (by omega)), h.net.upd hu (hb _ (by omega)), ?_, by have := hu.size; omega⟩
  · obtain ⟨a, b, c, hp⟩ := h.prm
    exact ⟨a, b, c, hp.upd hu (hb _ (by omega))⟩
  · unfold Own
    rw [acells_append, List.length_append]
    subst hn
    exact hr
theorem SF.setBox (h : SF w nb rb ob Bs va N S T vn vo ys wr) (hu : Upd (fun k => k = ob) wr w') {N' S' T' : Int} {vn' : Value} (hb : Blk w' ob #[.int .i64 N', .int .i64 S', .int .i64 T', vn'] 24) : SF w nb rb ob Bs va N' S' T' vn' vo ys w' := by
  have hl := h.lt
  refine ⟨h.kp.then hu (fun k hk he => by omega), ?_, h.res.upd hu (by omega), hb, ownsRow_far h.own hu (fun k h1 h2 => by have := (World.ownsRow.lt h.own k h1).1; omega), by have := hu.size; omega⟩
  obtain ⟨a, b, c, hp⟩ := h.prm
  exact ⟨a, b, c, hp.upd hu (by omega)⟩
theorem SF.setS (h : SF w nb rb ob Bs va N S T vn vo ys wr) (x : Int) : SF w nb rb ob Bs va N x T vn vo ys (wr.setCell ⟨ob, 1, none⟩ (.int .i64 x)) :=
  h.setBox (Upd.setCell (S := fun k => k = ob) (Upd.refl _ _) (.inl rfl) _) (by have := h.net.set 1 (.int .i64 x); simpa using this)
theorem SF.setT (h : SF w nb rb ob Bs va N S T vn vo ys wr) (x : Int) : SF w nb rb ob Bs va N S x vn vo ys (wr.setCell ⟨ob, 2, none⟩ (.int .i64 x)) :=
  h.setBox (Upd.setCell (S := fun k => k = ob) (Upd.refl _ _) (.inl rfl) _) (by have := h.net.set 2 (.int .i64 x); simpa using this)
theorem SF.setN (h : SF w nb rb ob Bs va N S T vn vo ys wr) (v : Value) : SF w nb rb ob Bs va N S T v vo ys (wr.setCell ⟨ob, 3, none⟩ v) :=
  h.setBox (Upd.setCell (S := fun k => k = ob) (Upd.refl _ _) (.inl rfl) _) (by have := h.net.set 3 v; simpa using this)
end
/-- .. and the arc's box. -/
structure RS (w : World) (nb rb ob Bs : Nat) (va : Value) (N S T : Int) (vn : Value) (vo : Value) (ys : List Ar) (xb : Nat) (f t cc : Int) (wr : World) : Prop where
  sf : SF w nb rb ob Bs va N S T vn vo ys wr
  bx : Blk wr xb #[.int .i64 f, .int .i64 t, .int .i64 cc] 68
theorem RS.kept {w : World} {nb rb ob Bs : Nat} {va : Value} {N S T : Int} {vn vo : Value} {ys : List Ar} {xb : Nat} {f t cc : Int} {wr w' : World} (h : RS w nb rb ob Bs va N S T vn vo ys xb f t cc wr) (hk : Kept wr w') : RS w nb rb ob Bs va N S T vn vo ys xb f t cc w' := ⟨h.sf.kept hk, h.bx.kept hk⟩
end Go.Proofs.Ytdhimfkmgcfohaa
