/- A net of one's own, in a box and a row; its arcs changed one by one. No walk. -/
import Derived.Test.YtafabeehbifgaaaNetOwn
import Derived.Test.YtafabeehbifgaaaNetRules
namespace Go.Proofs.Ytafabeehbifgaaa
set_option linter.unusedVariables false
open Go.RowKit

/-- The net in block mb, whose arcs lie in a row of their own. -/
structure NF (w : World) (mb : Nat) (N S T : Int) (a : Option Addr) (n c : Nat) (ys : List Ar) (wr : World) : Prop where
  kp : Kept w wr
  net : Blk wr mb #[.int .i64 N, .int .i64 S, .int .i64 T, .slice a n c] 24
  own : Own wr w.heap.size (.slice a n c) ys
  ge : w.heap.size ≤ mb
section
variable {w : World} {mb : Nat} {N S T : Int} {a : Option Addr} {n c : Nat} {ys : List Ar} {wr w' : World}
theorem NF.kept (h : NF w mb N S T a n c ys wr) (hk : Kept wr w') : NF w mb N S T a n c ys w' := ⟨h.kp.trans hk, h.net.kept hk, h.own.kept hk, h.ge⟩
theorem NF.len (h : NF w mb N S T a n c ys wr) : n = ys.length := h.own.at.1
/-- The box was written. -/
theorem NF.box (h : NF w mb N S T a n c ys wr) (hu : Upd (fun k => k = mb) wr w') {N' S' T' : Int} (hb : Blk w' mb #[.int .i64 N', .int .i64 S', .int .i64 T', .slice a n c] 24) : NF w mb N' S' T' a n c ys w' :=
  ⟨h.kp.then hu (fun k hk he => by have := h.ge; omega), hb, h.own.far hu (fun g hg he => by subst hg; exact h.own.ne h.net (by decide) he), h.ge⟩
theorem NF.setN (h : NF w mb N S T a n c ys wr) (x : Int) : NF w mb x S T a n c ys (wr.setCell ⟨mb, 0, none⟩ (.int .i64 x)) :=
  h.box (Upd.setCell (S := fun k => k = mb) (Upd.refl _ _) (.inl rfl) _) (by have := h.net.set 0 (.int .i64 x); simpa using this)
theorem NF.setS (h : NF w mb N S T a n c ys wr) (x : Int) : NF w mb N x T a n c ys (wr.setCell ⟨mb, 1, none⟩ (.int .i64 x)) :=
  h.box (Upd.setCell (S := fun k => k = mb) (Upd.refl _ _) (.inl rfl) _) (by have := h.net.set 1 (.int .i64 x); simpa using this)
theorem NF.setT (h : NF w mb N S T a n c ys wr) (x : Int) : NF w mb N S x a n c ys (wr.setCell ⟨mb, 2, none⟩ (.int .i64 x)) :=
  h.box (Upd.setCell (S := fun k => k = mb) (Upd.refl _ _) (.inl rfl) _) (by have := h.net.set 2 (.int .i64 x); simpa using this)
/-- A cell of the row was written. -/
theorem NF.put {g : Nat} (h : NF w mb N S T (some ⟨g, 0, none⟩) n c ys wr) (i : Nat) (hi : i < ys.length * 3) (v : Value) {zs : List Ar} (hz : (acells ys).set i v = acells zs) (hl : zs.length = ys.length) :
    NF w mb N S T (some ⟨g, 0, none⟩) n c zs (wr.setCell ⟨g, i, none⟩ v) := by
  have hge := (World.ownsRow.lt h.own g rfl).1
  have hu : Upd (fun k => k = g) wr (wr.setCell ⟨g, i, none⟩ v) := Upd.setCell (S := fun k => k = g) (Upd.refl _ _) (.inl rfl) _
  exact ⟨h.kp.then hu (fun k hk he => by omega), h.net.upd hu (fun e => h.own.ne h.net (by decide) e.symm), h.own.put i hi v hz hl, h.ge⟩
theorem NF.setF {g : Nat} (h : NF w mb N S T (some ⟨g, 0, none⟩) n c ys wr) (k : Nat) (hk : k < ys.length) (x : Int) :
    NF w mb N S T (some ⟨g, 0, none⟩) n c (ys.set k ⟨x, ys[k].t, ys[k].c⟩) (wr.setCell ⟨g, k * 3, none⟩ (.int .i64 x)) := h.put _ (by omega) _ (acells_setF ys k hk x) (by simp)
theorem NF.setTo {g : Nat} (h : NF w mb N S T (some ⟨g, 0, none⟩) n c ys wr) (k : Nat) (hk : k < ys.length) (x : Int) :
    NF w mb N S T (some ⟨g, 0, none⟩) n c (ys.set k ⟨ys[k].f, x, ys[k].c⟩) (wr.setCell ⟨g, k * 3 + 1, none⟩ (.int .i64 x)) := h.put _ (by omega) _ (acells_setT ys k hk x) (by simp)
theorem NF.setC {g : Nat} (h : NF w mb N S T (some ⟨g, 0, none⟩) n c ys wr) (k : Nat) (hk : k < ys.length) (x : Int) :
    NF w mb N S T (some ⟨g, 0, none⟩) n c (ys.set k ⟨ys[k].f, ys[k].t, x⟩) (wr.setCell ⟨g, k * 3 + 2, none⟩ (.int .i64 x)) := h.put _ (by omega) _ (acells_setC ys k hk x) (by simp)
end
/-- Arcs changed, up to k. -/
def mapTo (k : Nat) (g : Ar → Ar) (ys : List Ar) : List Ar := (ys.take k).map g ++ ys.drop k
theorem mapTo_zero (g : Ar → Ar) (ys : List Ar) : mapTo 0 g ys = ys := by simp [mapTo]
theorem mapTo_all {k : Nat} (g : Ar → Ar) (ys : List Ar) (h : ys.length ≤ k) : mapTo k g ys = ys.map g := by simp [mapTo, List.take_of_length_le h, List.drop_of_length_le h]
theorem mapTo_len (k : Nat) (g : Ar → Ar) (ys : List Ar) : (mapTo k g ys).length = ys.length := by simp [mapTo]; omega
theorem mapTo_get (k : Nat) (g : Ar → Ar) (ys : List Ar) (h : k < ys.length) (h' : k < (mapTo k g ys).length) : (mapTo k g ys)[k] = ys[k] := by
  have e : (mapTo k g ys)[k]? = some ys[k] := by
    unfold mapTo
    rw [List.getElem?_append_right (by simp; omega)]
    simp [Nat.min_eq_left (Nat.le_of_lt h), h]
  have h2 := (List.getElem?_eq_some_iff.1 e).2
  exact h2
theorem mapTo_set (k : Nat) (g : Ar → Ar) (ys : List Ar) (h : k < ys.length) : (mapTo k g ys).set k (g ys[k]) = mapTo (k + 1) g ys := by
  unfold mapTo
  rw [List.set_append_right _ _ (by simp; omega), List.take_succ_eq_append_getElem h, List.map_append]
  simp only [List.length_map, List.length_take, Nat.min_eq_left (Nat.le_of_lt h), Nat.sub_self, List.map_cons, List.map_nil, List.append_assoc, List.cons_append, List.nil_append]
  rw [List.drop_eq_getElem_cons h]
  rfl
end Go.Proofs.Ytafabeehbifgaaa
