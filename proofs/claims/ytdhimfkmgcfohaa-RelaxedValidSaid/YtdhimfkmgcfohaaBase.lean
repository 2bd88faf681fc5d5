/- Facts on worlds, blocks and frames, with no program in sight. No condition. -/
import Derived.WalkKit
import Derived.WalkSpells
import Derived.WalkLawsBesides
import Derived.Lib.Hide
import Derived.BigQuiet
import Derived.Deep.LoopGhost
namespace Go.Proofs.Ytdhimfkmgcfohaa
set_option linter.unusedVariables false
open Go.RowKit

/-- Of the old blocks none but those of S has turned. -/
structure Upd (S : Nat → Prop) (w w' : World) : Prop where
  os : w'.os = w.os
  tape : w'.tape = w.tape
  output : w'.output = w.output
  size : w.heap.size ≤ w'.heap.size
  block : ∀ k, k < w.heap.size → ¬ S k → w'.heap[k]? = w.heap[k]?

theorem Upd.refl (S : Nat → Prop) (w : World) : Upd S w w := ⟨rfl, rfl, rfl, Nat.le_refl _, fun _ _ _ => rfl⟩
theorem Upd.trans {S : Nat → Prop} {a b c : World} (h : Upd S a b) (k : Upd S b c) : Upd S a c :=
  ⟨k.os.trans h.os, k.tape.trans h.tape, k.output.trans h.output, Nat.le_trans h.size k.size,
   fun i hi hs => (k.block i (Nat.lt_of_lt_of_le hi h.size) hs).trans (h.block i hi hs)⟩
/-- Widened, where the old blocks are concerned alone. -/
theorem Upd.wide {S S' : Nat → Prop} {w w' : World} (h : Upd S w w') (hs : ∀ k, k < w.heap.size → S k → S' k) : Upd S' w w' :=
  ⟨h.os, h.tape, h.output, h.size, fun k hk hn => h.block k hk fun s => hn (hs k hk s)⟩
/-- A step that may have turned blocks of S' too, none of which was there at first, or which S has. -/
theorem Upd.then {S S' : Nat → Prop} {a b c : World} (h : Upd S a b) (k : Upd S' b c) (hs : ∀ i, i < a.heap.size → S' i → S i) : Upd S a c :=
  ⟨k.os.trans h.os, k.tape.trans h.tape, k.output.trans h.output, Nat.le_trans h.size k.size,
   fun i hi hn => (k.block i (Nat.lt_of_lt_of_le hi h.size) (fun s => hn (hs i hi s))).trans (h.block i hi hn)⟩
theorem Upd.alloc {S : Nat → Prop} {a w : World} (h : Upd S a w) (o : Obj) : Upd S a (w.alloc o) :=
  h.trans ⟨rfl, rfl, rfl, by simp, fun k hk _ => Below.heap_alloc _ _ _ hk⟩
theorem Upd.drew {S : Nat → Prop} {a w : World} (h : Upd S a w) : Upd S a w.drew := ⟨h.os, h.tape, h.output, h.size, h.block⟩
theorem Upd.setCell {S : Nat → Prop} {a w : World} (h : Upd S a w) {p : Addr} (hp : S p.block ∨ a.heap.size ≤ p.block) (u : Value) : Upd S a (w.setCell p u) :=
  ⟨h.os, h.tape, h.output, by have := h.size; simpa [World.setCell] using this, fun k hk hn => by
    rw [Below.heap_setCell _ _ _ _ (by intro e; subst e; rcases hp with hp | hp; exact hn hp; omega)]; exact h.block k hk hn⟩
theorem Upd.grown {S : Nat → Prop} {a w w' : World} {row : Option Nat} (h : Upd S a w) (hg : w.grownBy w' row) (hr : ∀ k, row = some k → S k ∨ a.heap.size ≤ k) : Upd S a w' :=
  ⟨hg.os.trans h.os, hg.tape.trans h.tape, hg.output.trans h.output, Nat.le_trans h.size hg.size, fun k hk hn => by
    rw [hg.block k (Nat.lt_of_lt_of_le hk h.size) (by intro e; rcases hr k e.symm with hp | hp; exact hn hp; omega)]; exact h.block k hk hn⟩
theorem Upd.below {S : Nat → Prop} {w w' : World} (h : Upd S w w') (hs : ∀ k, k < w.heap.size → ¬ S k) : Below w.heap.size w w' :=
  ⟨h.os, h.tape, h.output, h.size, fun k hk => h.block k hk (hs k hk)⟩
/-- Nothing that was there has turned. -/
abbrev Kept (w w' : World) : Prop := Upd (fun _ => False) w w'
theorem Kept.below {w w' : World} (h : Kept w w') : Below w.heap.size w w' := Upd.below h fun _ _ f => f

/-- A block of plain cells. -/
def Blk (w : World) (b : Nat) (arr : Array Value) (T : TypeId) : Prop := w.heap[b]? = some (.cells arr T (0, 0))
theorem Blk.lt {w : World} {b : Nat} {arr : Array Value} {T : TypeId} (h : Blk w b arr T) : b < w.heap.size := (Array.getElem?_eq_some_iff.1 h).1
theorem Blk.cell {w : World} {b : Nat} {arr : Array Value} {T : TypeId} (h : Blk w b arr T) (i : Nat) : w.cell? ⟨b, i, none⟩ = arr[i]? := cell_of_row w b i arr T (0, 0) h
theorem Blk.free {w : World} {b : Nat} {arr : Array Value} {T : TypeId} (h : Blk w b arr T) (i : Nat) : w.frozen? ⟨b, i, none⟩ = false := frozen_of_row w b i arr T h
theorem Blk.upd {w w' : World} {b : Nat} {arr : Array Value} {T : TypeId} {S : Nat → Prop} (h : Blk w b arr T) (hu : Upd S w w') (hn : ¬ S b) : Blk w' b arr T :=
  (hu.block b h.lt hn).trans h
theorem Blk.kept {w w' : World} {b : Nat} {arr : Array Value} {T : TypeId} (h : Blk w b arr T) (hu : Kept w w') : Blk w' b arr T := h.upd hu fun f => f
theorem Blk.alloc {w : World} {b : Nat} {arr : Array Value} {T : TypeId} (h : Blk w b arr T) (o : Obj) : Blk (w.alloc o) b arr T := h.kept ((Upd.refl _ _).alloc o)
theorem Blk.drew {w : World} {b : Nat} {arr : Array Value} {T : TypeId} (h : Blk w b arr T) : Blk w.drew b arr T := h
theorem Blk.new (w : World) (arr : Array Value) (T : TypeId) : Blk (w.alloc (.cells arr T)) w.heap.size arr T := heap_alloc_new w _
theorem Blk.set {w : World} {b : Nat} {arr : Array Value} {T : TypeId} (h : Blk w b arr T) (i : Nat) (v : Value) : Blk (w.setCell ⟨b, i, none⟩ v) b (arr.setIfInBounds i v) T :=
  heap_setCell_same w b i arr T v h
theorem Blk.other {w : World} {b : Nat} {arr : Array Value} {T : TypeId} (h : Blk w b arr T) {p : Addr} (hp : b ≠ p.block) (v : Value) : Blk (w.setCell p v) b arr T :=
  (Below.heap_setCell w p v b hp).trans h
theorem Blk.same {w : World} {b : Nat} {arr arr' : Array Value} {T T' : TypeId} (h : Blk w b arr T) (h' : Blk w b arr' T') : arr = arr' ∧ T = T' := by
  have := h.symm.trans h'
  simp at this
  exact this
/-- A world in which nothing has turned of what was there in w. -/
structure Ext (w : World) where
  to : World
  kept : Kept w to
instance (w : World) : Nonempty (Ext w) := ⟨⟨w, Upd.refl _ _⟩⟩
def ext (w : World) (u : Ext w) : World := u.to
theorem cell?_ext {w : World} (u : Ext w) {a : Addr} (h : (w.cell? a).isSome = true) : (ext w u).cell? a = w.cell? a := by
  obtain ⟨v, hv⟩ := Option.isSome_iff_exists.1 h
  have hb := World.block_lt_of_cell? w a hv
  exact World.cell?_of_block (u.kept.block _ hb fun f => f)
theorem kept_ext (w : World) (u : Ext w) : Kept w (ext w u) := u.kept
/-- A call in a region that draws its order: it makes memory of its own alone. -/
theorem kept_call {P : Program} {f : FuncId} {args : Array Value} {w : World} {u : Ext w} {v : Value}
    (h : Calls P f args (ext w u) fun e w' => e = .returned v ∧ Kept (ext w u) w') : Calls P f args (ext w u) fun e w'' => e = .returned v ∧ ∃ u', w'' = ext w u' :=
  h.mono fun _ w' ⟨he, hk⟩ => ⟨he, ⟨w', u.kept.trans hk⟩, rfl⟩
theorem same_call {P : Program} {f : FuncId} {args : Array Value} {w : World} {u : Ext w} {v : Value}
    (h : Calls P f args (ext w u) fun e w' => e = .returned v ∧ ext w u = w') : Calls P f args (ext w u) fun e w'' => e = .returned v ∧ ∃ u', w'' = ext w u' :=
  h.mono fun _ _ ⟨he, hk⟩ => ⟨he, u, hk.symm⟩
/-- A region that draws its order, whose operations read, and whose callees make memory of their own alone: walked once, in the order of the text. -/
theorem wp_region_kept {P : Program} {id : Nat} {Q : Exit → Act → World → Prop} {a : Act} {w : World} {l : List Oper} (hm : P.follows .mixedOrders = true) (hB : Region.lexB .any l.toArray = true)
    (h : wpQuiet P l.toArray (fun w' => ∃ u, w' = ext w u) (fun a' => ∀ w', Kept w w' → Q .normal a' w') l a) : (Code.region id l.toArray true).wp P Q a w := by
  refine wp_region_quiet (C := fun w' => ∃ u, w' = ext w u) hm hB ⟨⟨w.drew, (Upd.refl _ _).drew⟩, rfl⟩ ?_
  have e : (fun a' => ∀ w', (∃ u, w' = ext w u) → Q .normal a' w') = (fun a' => ∀ w', Kept w w' → Q .normal a' w') := by
    funext a'
    exact propext ⟨fun h w' hk => h w' ⟨⟨w', hk⟩, rfl⟩, fun h w' ⟨u, hu⟩ => h w' (by rw [hu]; exact u.kept)⟩
  rw [e]
  simpa using h
/-- So many cells of one value. -/
def zeros (n : Nat) (v : Value) : Array Value := (List.replicate n v).toArray
theorem zeros_toList (n : Nat) (v : Value) : (zeros n v) = (List.replicate n v).toArray := rfl
theorem zeros_ints (n : Nat) (k : IntKind) (z : Int) : zeros n (.int k z) = ((List.replicate n z).map (Value.int k)).toArray := by simp [zeros]
theorem zeros_bools (n : Nat) (z : Bool) : zeros n (.bool z) = ((List.replicate n z).map Value.bool).toArray := by simp [zeros]
/-- make, of elements of one cell. -/
theorem make_one {P : Program} {t e : TypeId} {z v : Value} {bytes : Nat} (ht : P.underlying t = some (.slice e)) (hi : (P.info? e).map (fun i => (i.zero, i.size, i.bytes)) = some (some z, 1, bytes)) (hz : z.cells = #[v])
    (k : IntKind) (n : Nat) (hb : bytes * n ≤ 281474976710656) (hn : n ≤ 9223372036854775807) (w : World) :
    (Instr.makeSlice t (.int k n) (.int k n)).run P w = .ok (.slice (some ⟨w.heap.size, 0, none⟩) n n) (w.alloc (.cells (zeros n v) e)) := by
  obtain ⟨i, h1, h2, h3, h4⟩ := info_parts hi
  have hb' : (i.bytes : Int) * (n : Int) ≤ 281474976710656 := by
    rw [h4]
    have h : ((bytes * n : Nat) : Int) ≤ 281474976710656 := by omega
    rwa [Int.natCast_mul] at h
  rw [run_make w t e i z ht h1 h2 k k n n (by omega) (Int.le_refl _) hb' (by omega), hz, h3]
  have e1 : madeCells #[v] ((n : Int).toNat * 1) = zeros n v := by
    apply Array.toList_inj.1
    rw [toList_madeCells_one]
    simp [zeros]
  rw [e1]
  simp
/-- A list, filled up to k. -/
def filled {α : Type} (xs : List α) (z : α) (k : Nat) : List α := xs.take k ++ List.replicate (xs.length - k) z
theorem filled_zero {α : Type} (xs : List α) (z : α) : filled xs z 0 = List.replicate xs.length z := by simp [filled]
theorem filled_all {α : Type} (xs : List α) (z : α) : filled xs z xs.length = xs := by simp [filled]
@[simp] theorem length_filled {α : Type} (xs : List α) (z : α) (k : Nat) (h : k ≤ xs.length) : (filled xs z k).length = xs.length := by simp [filled]; omega
theorem filled_set {α : Type} (xs : List α) (z : α) (k : Nat) (h : k < xs.length) : (filled xs z k).set k xs[k] = filled xs z (k + 1) := by
  apply List.ext_getElem?
  intro i
  have hl : (xs.take k).length = k := by simp; omega
  unfold filled
  rw [List.getElem?_set]
  by_cases hi : k = i
  · subst hi
    rw [if_pos rfl, List.getElem?_append_left (by simp; omega)]
    simp [h]
    omega
  · rw [if_neg hi]
    by_cases h1 : i < k
    · rw [List.getElem?_append_left (by omega), List.getElem?_append_left (by simp; omega)]
      simp [h1, show i < k + 1 from by omega]
    · rw [List.getElem?_append_right (by omega), List.getElem?_append_right (by simp; omega)]
      simp only [List.getElem?_replicate, List.length_take, hl]
      rw [Nat.min_eq_left (by omega)]
      congr 1
      simp; omega
theorem Blk.fill {α : Type} {w : World} {b k : Nat} {T : TypeId} {xs : List α} {z : α} {f : α → Value} (h : Blk w b ((filled xs z k).map f).toArray T) (hk : k < xs.length) : Blk (w.setCell ⟨b, k, none⟩ (f xs[k])) b ((filled xs z (k + 1)).map f).toArray T := by
  have := h.set k (f xs[k])
  rw [← filled_set xs z k hk, List.map_set]
  simpa using this
theorem Blk.filling {α : Type} {w : World} {b k : Nat} {T : TypeId} {xs : List α} {z : α} {f : α → Value} (h : Blk w b ((filled xs z k).map f).toArray T) (hk : k < xs.length) : w.cell? ⟨b, k, none⟩ = some (f ((filled xs z k).getD k z)) := by
  have hl : (filled xs z k).length = xs.length := length_filled xs z k (by omega)
  rw [h.cell]
  simp [hl, hk]
theorem ret_int {k : IntKind} {a b : Int} (h : a = b) : Ending.returned (.int k a) = .returned (.int k b) := by rw [h]
theorem ret_bool {a b : Bool} (h : a = b) : Ending.returned (.bool a) = .returned (.bool b) := by rw [h]
end Go.Proofs.Ytdhimfkmgcfohaa
