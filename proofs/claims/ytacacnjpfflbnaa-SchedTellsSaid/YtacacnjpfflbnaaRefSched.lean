/- The reference of layer 15: New, Next. -/
import Derived.Test.YtacacnjpfflbnaaTwo
import Derived.Deep.CutRange
namespace Go.Proofs.Ytacacnjpfflbnaa
set_option linter.unusedVariables false
open Go.RowKit

theorem whoAt_mod (n f : Nat) (dl : List Bool) : ∀ m, whoAt n (f % n) dl m = whoAt n f dl m
  | 0 => rfl
  | m + 1 => by
    simp only [whoAt]
    rw [Nat.mod_add_mod, whoAt_mod n f dl m]
def wv : Option Nat → Int
  | none => -1
  | some v => (v : Int)
def allK (t dl : List Bool) (k : Nat) : Bool := (List.range k).all fun i => t.getD i false || dl.getD i false
theorem allK_succ (t dl : List Bool) (k : Nat) : allK t dl (k + 1) = (allK t dl k && (t.getD k false || dl.getD k false)) := by
  unfold allK; rw [List.range_succ, List.all_append]; simp
theorem allK_all (t dl : List Bool) : allK t dl t.length = allT t dl := rfl

theorem refNew_any (n : Nat) (a : Option Addr) (m c : Nat) (w : World) (hn : n ≤ 64) :
    Calls Try.prog 12 #[.int .i64 (n : Int), .slice a m c] w fun e w' => ∃ b, e = .returned (.agg #[.int .i64 (n : Int), .slice a m c, .int .i64 (-1), .slice (some ⟨b, 0, none⟩) n n, .int .i64 0]) ∧ Blk w' b ((List.replicate n false).map Value.bool).toArray 4 ∧ w.heap.size ≤ b ∧ Kept w w' := by
  have hmk := fun w => make_one (P := Try.prog) (t := 28) (e := 4) (z := .bool false) (v := .bool false) (bytes := 1) Try.underlying28 (by kernel_rfl) rfl .i64 n (by omega) (by omega) w
  go_enter Try.func12, Try.ntmps12
  go_wp2_with fail
  refine bodyPost_ret (v := .agg #[.int .i64 (n : Int), .slice a m c, .int .i64 (-1), .slice (some ⟨w.heap.size + 1, 0, none⟩) n n, .int .i64 0]) (by simp [results, Try.results12, go_sem]) rfl ⟨_, rfl, ?_, by omega, ((Upd.refl _ _).alloc _).alloc _⟩
  rw [← zeros_bools]
  exact Blk.newAt _ _ _ _ (by simp)

/-- What the reference's step is handed. -/
structure RefIn (w : World) (s : SS) (last : Int) (pa : Option Addr) (pc : Nat) (ta : Option Addr) : Prop where
  picks : Rd w pa (s.picks.map (Value.int .i64))
  told : Rd w ta (s.told.map Value.bool)
  le : s.picks.length ≤ pc
  most : pc ≤ maxLen
  n1 : 0 < s.told.length
  n2 : s.told.length ≤ 64
  lt : s.last < s.told.length
  last : last = (s.last : Int) ∨ last = -1 ∧ s.last = s.told.length - 1
  ended : s.ended < 4611686018427387904
theorem RefIn.from {w : World} {s : SS} {last : Int} {pa : Option Addr} {pc : Nat} {ta : Option Addr} (h : RefIn w s last pa pc ta) (hp : s.picks = []) (dl : List Bool) :
    s.who dl = whoAt s.told.length (last + 1).toNat dl s.told.length := by
  unfold SS.who
  rw [hp, ← whoAt_mod _ (last + 1).toNat]
  congr 1
  simp only [fromOf]
  rcases h.last with e | ⟨e1, e2⟩
  · rw [e]; rfl
  · have := h.n1
    rw [e1, e2]
    have : s.told.length - 1 + 1 = s.told.length := by omega
    rw [this]; simp

def RefNextIs (s : SS) (last : Int) (pa : Option Addr) (pc : Nat) (ta : Option Addr) (tc : Nat) (dl : List Bool) (w : World) (e : Ending) (w' : World) : Prop := match s.who dl with
  | none => e = .returned (.tuple #[.agg #[.int .i64 (s.told.length : Int), .slice pa s.picks.length pc, .int .i64 last, .slice ta s.told.length tc, .int .i64 (s.ended : Int)], .int .i64 (-1)]) ∧ Kept w w'
  | some v => ∃ pa' pc' tb tc', e = .returned (.tuple #[.agg #[.int .i64 (s.told.length : Int), .slice pa' (s.tell v dl).picks.length pc', .int .i64 (v : Int), .slice (some ⟨tb, 0, none⟩) s.told.length tc', .int .i64 ((s.tell v dl).ended : Int)], .int .i64 (v : Int)]) ∧
      Rd w' pa' ((s.tell v dl).picks.map (Value.int .i64)) ∧ Rd w' (some ⟨tb, 0, none⟩) ((s.tell v dl).told.map Value.bool) ∧ (s.tell v dl).picks.length ≤ pc' ∧ pc' ≤ maxLen ∧ (∀ x, pa' = some x → ∃ y, pa = some y ∧ y.block = x.block) ∧ w.heap.size ≤ tb ∧ Kept w w'
end Go.Proofs.Ytacacnjpfflbnaa
