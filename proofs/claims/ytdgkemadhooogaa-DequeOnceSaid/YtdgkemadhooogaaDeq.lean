/- A machine of package deque in its box, and what its steps come to. No program in sight but the types' numbers. -/
import Derived.Test.YtdgkemadhooogaaBankCas
import Derived.Test.YtdgkemadhooogaaTop
import Derived.Test.YtdgkemadhooogaaPlan
namespace Go.Proofs.Ytdgkemadhooogaa
set_option linter.unusedVariables false
set_option linter.unusedSimpArgs false
open Go.RowKit

/-- How far a machine is, what it read, whether it is done, and has something. -/
structure DM where
  a : Int
  t : Int
  b : Int
  x : Int
  done : Bool
  got : Bool
def PL (l : Lay) (k : Int) (m : DM) (ex : List Value) : List Value :=
  .int .i64 l.verts :: .int .i64 l.arcs :: .int .i64 l.workers :: .int .i64 l.room :: .int .i64 l.res :: .int .i64 l.ex :: .int .i64 l.h :: .int .i64 l.flag :: .int .i64 l.pending :: .int .i64 l.ask :: .int .i64 l.count :: .int .i64 l.sense :: .int .i64 l.deques :: .int .i64 l.size :: .int .i64 k :: .int .i64 m.a :: .int .i64 m.t :: .int .i64 m.b :: .int .i64 m.x :: .bool m.done :: .bool m.got :: ex
/-- The machine in its box, of type T; ex: what it has besides. -/
def PB (w : World) (mb : Nat) (T : TypeId) (l : Lay) (k : Int) (m : DM) (ex : List Value) : Prop := Blk w mb (PL l k m ex).toArray T
section
variable {w w' : World} {mb : Nat} {T : TypeId} {l : Lay} {k : Int} {m : DM} {ex : List Value}
theorem PB.upd {S : Nat → Prop} (h : PB w mb T l k m ex) (hu : Upd S w w') (hs : ¬ S mb) : PB w' mb T l k m ex := Blk.upd h hu hs
theorem PB.kept (h : PB w mb T l k m ex) (hu : Kept w w') : PB w' mb T l k m ex := Blk.kept h hu
theorem PB.lt (h : PB w mb T l k m ex) : mb < w.heap.size := Blk.lt h
theorem PB.free (h : PB w mb T l k m ex) (i : Nat) : w.frozen? ⟨mb, i, none⟩ = false := Blk.free h i
theorem PB.cell (h : PB w mb T l k m ex) (i : Nat) : w.cell? ⟨mb, i, none⟩ = (PL l k m ex)[i]? := by
  have := Blk.cell h i
  rwa [List.getElem?_toArray] at this
theorem PB.put (h : PB w mb T l k m ex) (i : Nat) (v : Value) {m' : DM} {ex' : List Value} (e : (PL l k m ex).set i v = PL l k m' ex') : PB (w.setCell ⟨mb, i, none⟩ v) mb T l k m' ex' := by
  have := Blk.set h i v
  rw [List.setIfInBounds_toArray, e] at this
  exact this
/-- The fourteen cells of the plan. -/
theorem PB.lay (h : PB w mb T l k m ex) : w.cell? ⟨mb, 0, none⟩ = some (.int .i64 l.verts) ∧ w.cell? ⟨mb, 1, none⟩ = some (.int .i64 l.arcs) ∧ w.cell? ⟨mb, 2, none⟩ = some (.int .i64 l.workers) ∧ w.cell? ⟨mb, 3, none⟩ = some (.int .i64 l.room) ∧ w.cell? ⟨mb, 4, none⟩ = some (.int .i64 l.res) ∧ w.cell? ⟨mb, 5, none⟩ = some (.int .i64 l.ex) ∧ w.cell? ⟨mb, 6, none⟩ = some (.int .i64 l.h) ∧ w.cell? ⟨mb, 7, none⟩ = some (.int .i64 l.flag) ∧ w.cell? ⟨mb, 8, none⟩ = some (.int .i64 l.pending) ∧ w.cell? ⟨mb, 9, none⟩ = some (.int .i64 l.ask) ∧ w.cell? ⟨mb, 10, none⟩ = some (.int .i64 l.count) ∧ w.cell? ⟨mb, 11, none⟩ = some (.int .i64 l.sense) ∧ w.cell? ⟨mb, 12, none⟩ = some (.int .i64 l.deques) ∧ w.cell? ⟨mb, 13, none⟩ = some (.int .i64 l.size) ∧ w.cell? ⟨mb, 14, none⟩ = some (.int .i64 k) := by
  refine ⟨?_, ?_, ?_, ?_, ?_, ?_, ?_, ?_, ?_, ?_, ?_, ?_, ?_, ?_, ?_⟩ <;> (rw [h.cell]; rfl)
theorem PB.own (h : PB w mb T l k m ex) : w.cell? ⟨mb, 15, none⟩ = some (.int .i64 m.a) ∧ w.cell? ⟨mb, 16, none⟩ = some (.int .i64 m.t) ∧ w.cell? ⟨mb, 17, none⟩ = some (.int .i64 m.b) ∧ w.cell? ⟨mb, 18, none⟩ = some (.int .i64 m.x) ∧ w.cell? ⟨mb, 19, none⟩ = some (.bool m.done) ∧ w.cell? ⟨mb, 20, none⟩ = some (.bool m.got) := by
  refine ⟨?_, ?_, ?_, ?_, ?_, ?_⟩ <;> (rw [h.cell]; rfl)
end
/-- Where a worker's deque is: its top's cell, and its room. -/
structure Geo (l : Lay) (k : Int) (tp r : Nat) : Prop where
  d0 : 0 ≤ l.deques
  d1 : l.deques ≤ 1000000
  r13 : r ≤ 13
  room : l.room = ((2 ^ r : Nat) : Int)
  k0 : 0 ≤ k
  k1 : k ≤ 255
  top : l.deques + k * (l.room + 2) = (tp : Int)
theorem Geo.room_le {l : Lay} {k : Int} {tp r : Nat} (h : Geo l k tp r) : 1 ≤ l.room ∧ l.room ≤ 8192 := by
  have h1 : 2 ^ r ≤ 2 ^ 13 := Nat.pow_le_pow_right (by omega) h.r13
  have h2 : 1 ≤ 2 ^ r := Nat.one_le_two_pow
  rw [h.room]
  omega
theorem Geo.tp_le {l : Lay} {k : Int} {tp r : Nat} (h : Geo l k tp r) : (tp : Int) ≤ 4000000 := by
  have hm2 : k * (l.room + 2) ≤ 255 * 8194 := Int.mul_le_mul h.k1 (by have := h.room_le; omega) (by have := h.room_le; omega) (by omega)
  rw [← h.top]
  have := h.d1
  omega
theorem bput_two {xs : List Int} {i j : Int} {v : Int} (h : i ≠ j) (hi : 0 ≤ i) (hj : 0 ≤ j) : bget (bput xs i v) j = bget xs j := by
  rw [bput_in v hi, bget_in hj, bget_in hj]
  simp only [List.getD_eq_getElem?_getD, List.getElem?_set]
  rw [if_neg (by omega)]
theorem bput_self {xs : List Int} {i : Int} {v : Int} (hi : 0 ≤ i) (hl : i.toNat < xs.length) : bget (bput xs i v) i = v := by
  rw [bput_in v hi, bget_in hi]
  simp [List.getD_eq_getElem?_getD, List.getElem?_set, hl]
theorem bput_len (xs : List Int) (i v : Int) : (bput xs i v).length = xs.length := by
  unfold bput
  split <;> simp
/-- The slot's cell. -/
def slot (tp r : Nat) (j : Int) : Int := (tp : Int) + 2 + ((j.toNat % 2 ^ r : Nat) : Int)
/-- What a push's step leaves of it, and of the bank. -/
def pushS (tp r : Nat) (v : Int) (m : DM) (xs : List Int) : DM × List Int :=
  if m.done then (m, xs)
  else if m.a = 0 then ({ m with a := 1, b := bget xs (tp + 1) }, xs)
  else if m.a = 1 then (if ((2 ^ r : Nat) : Int) ≤ m.b - bget xs tp then { m with a := 2, t := bget xs tp, done := true, got := false } else { m with a := 2, t := bget xs tp }, xs)
  else if m.a = 2 then ({ m with a := 3 }, bput xs (slot tp r m.b) v)
  else ({ m with a := m.a + 1, done := true, got := true }, bput xs (tp + 1) (m.b + 1))
/-- What a pop's step leaves. -/
def popS (tp r : Nat) (m : DM) (xs : List Int) : DM × List Int :=
  if m.done then (m, xs)
  else if m.a = 0 then ({ m with a := 1, b := bget xs (tp + 1) - 1 }, xs)
  else if m.a = 1 then ({ m with a := 2 }, bput xs (tp + 1) m.b)
  else if m.a = 2 then ({ m with a := 3, t := bget xs tp }, xs)
  else if m.a = 3 then
    (if m.b < m.t then ({ m with a := 4, done := true }, bput xs (tp + 1) (m.b + 1))
     else (if m.t < m.b then { m with a := 4, x := bget xs (slot tp r m.b), done := true, got := true } else { m with a := 4, x := bget xs (slot tp r m.b) }, xs))
  else if m.a = 4 then ({ m with a := 5, got := decide (bget xs tp = m.t) }, if bget xs tp = m.t then bput xs tp (m.t + 1) else xs)
  else ({ m with a := m.a + 1, done := true }, bput xs (tp + 1) (m.b + 1))
/-- What a steal's step leaves. -/
def stealS (tp r : Nat) (m : DM) (xs : List Int) : DM × List Int :=
  if m.done then (m, xs)
  else if m.a = 0 then ({ m with a := 1, t := bget xs tp }, xs)
  else if m.a = 1 then (if bget xs (tp + 1) ≤ m.t then { m with a := 2, b := bget xs (tp + 1), done := true, got := false } else { m with a := 2, b := bget xs (tp + 1) }, xs)
  else if m.a = 2 then ({ m with a := 3, x := bget xs (slot tp r m.t) }, xs)
  else ({ m with a := m.a + 1, done := true, got := decide (bget xs tp = m.t) }, if bget xs tp = m.t then bput xs tp (m.t + 1) else xs)
/-- What a step leaves in memory. -/
def DSt (T : TypeId) (l : Lay) (k : Int) (mb bb g : Nat) (m : DM) (ex : List Value) (xs : List Int) (w w' : World) : Prop := PB w' mb T l k m ex ∧ Bnk w' bb g xs ∧ Upd (fun i => i = g ∨ i = mb) w w'
end Go.Proofs.Ytdgkemadhooogaa
