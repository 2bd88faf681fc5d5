/- A row of arcs that the call itself has made (as XNetOwn's first part). -/
import Derived.Test.YtdhimfkmgcfohaaNet
namespace Go.Proofs.Ytdhimfkmgcfohaa
set_option linter.unusedVariables false
open Go.RowKit

theorem acells_setF : ∀ (ys : List Ar) (k : Nat) (h : k < ys.length) (x : Int), (acells ys).set (k * 3) (.int .i64 x) = acells (ys.set k ⟨x, ys[k].t, ys[k].c⟩)
  | [], k, h, x => by simp at h
  | a :: ys, 0, h, x => rfl
  | a :: ys, k + 1, h, x => by
    have e : (k + 1) * 3 = k * 3 + 1 + 1 + 1 := by omega
    rw [e]
    simp only [acells, List.set_cons_succ, List.getElem_cons_succ]
    rw [acells_setF ys k (by simpa using h) x]
theorem acells_setT : ∀ (ys : List Ar) (k : Nat) (h : k < ys.length) (x : Int), (acells ys).set (k * 3 + 1) (.int .i64 x) = acells (ys.set k ⟨ys[k].f, x, ys[k].c⟩)
  | [], k, h, x => by simp at h
  | a :: ys, 0, h, x => rfl
  | a :: ys, k + 1, h, x => by
    have e : (k + 1) * 3 + 1 = k * 3 + 1 + 1 + 1 + 1 := by omega
    rw [e]
    simp only [acells, List.set_cons_succ, List.getElem_cons_succ]
    rw [acells_setT ys k (by simpa using h) x]
theorem acells_setC : ∀ (ys : List Ar) (k : Nat) (h : k < ys.length) (x : Int), (acells ys).set (k * 3 + 2) (.int .i64 x) = acells (ys.set k ⟨ys[k].f, ys[k].t, x⟩)
  | [], k, h, x => by simp at h
  | a :: ys, 0, h, x => rfl
  | a :: ys, k + 1, h, x => by
    have e : (k + 1) * 3 + 2 = k * 3 + 2 + 1 + 1 + 1 := by omega
    rw [e]
    simp only [acells, List.set_cons_succ, List.getElem_cons_succ]
    rw [acells_setC ys k (by simpa using h) x]
/-- v is a row of these arcs, in a block of its own, from base on. -/
def Own (w : World) (base : Nat) (v : Value) (ys : List Ar) : Prop := w.ownsRow base 68 3 v ys.length (acells ys)
theorem Own.nil (w : World) (base : Nat) : Own w base (.slice none 0 0) [] := World.ownsRow_nil w base _ _
theorem Own.mem {w : World} {base : Nat} {v : Value} {ys : List Ar} (h : Own w base v ys) : ∃ a c, v = .slice a ys.length c ∧ Ars w a ys := by
  rcases h.2 with ⟨rfl, h0⟩ | ⟨g, cap, cur, rfl, hb, hh, hn, hm, hs, ht⟩
  · exact ⟨none, 0, by rw [h0], .inl (by rw [List.eq_nil_of_length_eq_zero h0]; rfl)⟩
  · refine ⟨some ⟨g, 0, none⟩, cap, rfl, .inr ⟨g, 0, rfl, fun i u hu => ?_⟩⟩
    rw [Nat.zero_add, cell_of_row w g i cur _ (0, 0) hh]
    rw [← ht, List.getElem?_take] at hu
    split at hu
    · simpa using hu
    · cases hu
theorem Own.at {w : World} {base : Nat} {a : Option Addr} {c n : Nat} {ys : List Ar} (h : Own w base (.slice a n c) ys) : n = ys.length ∧ Ars w a ys := by
  obtain ⟨a', c', e, hA⟩ := h.mem
  cases e
  exact ⟨rfl, hA⟩
theorem Own.blk {w : World} {base : Nat} {a : Option Addr} {c n : Nat} {ys : List Ar} (h : Own w base (.slice a n c) ys) (hk : 0 < ys.length) : ∃ g, a = some ⟨g, 0, none⟩ ∧ base ≤ g ∧ g < w.heap.size ∧ (∀ i, w.frozen? ⟨g, i, none⟩ = false) := by
  rcases h.2 with ⟨e, h0⟩ | ⟨g, cap, cur, e, hb, hh, hn, hm, hs, ht⟩
  · omega
  · cases e
    exact ⟨g, rfl, hb, (Array.getElem?_eq_some_iff.1 hh).1, fun i => frozen_of_row w g i cur _ hh⟩
theorem Own.base {w : World} {base base' : Nat} {v : Value} {ys : List Ar} (h : Own w base v ys) (hb : base' ≤ base) : Own w base' v ys := ownsRow_base h hb
theorem Own.upd {w w' : World} {base : Nat} {v : Value} {ys : List Ar} {S : Nat → Prop} (h : Own w base v ys) (hu : Upd S w w') (hs : ∀ k, base ≤ k → ¬ S k) : Own w' base v ys := ownsRow_upd h hu hs
theorem Own.kept {w w' : World} {base : Nat} {v : Value} {ys : List Ar} (h : Own w base v ys) (hu : Kept w w') : Own w' base v ys := h.upd hu (fun _ _ f => f)
/-- Only one block is turned, another one. -/
theorem Own.far {w w' : World} {base : Nat} {a : Option Addr} {n c : Nat} {ys : List Ar} {S : Nat → Prop} (h : Own w base (.slice a n c) ys) (hu : Upd S w w') (hs : ∀ g, a = some ⟨g, 0, none⟩ → ¬ S g) : Own w' base (.slice a n c) ys := by
  refine ⟨h.1, ?_⟩
  rcases h.2 with h2 | ⟨g, cap, cur, hv, hg, hh, r⟩
  · exact .inl h2
  · cases hv
    exact .inr ⟨g, _, cur, rfl, hg, (hu.block _ (Array.getElem?_eq_some_iff.1 hh).1 (hs g rfl)).trans hh, r⟩
theorem Own.put {w : World} {base g c n : Nat} {ys zs : List Ar} (h : Own w base (.slice (some ⟨g, 0, none⟩) n c) ys) (i : Nat) (hi : i < ys.length * 3) (v : Value) (hz : (acells ys).set i v = acells zs) (hl : zs.length = ys.length) :
    Own (w.setCell ⟨g, i, none⟩ v) base (.slice (some ⟨g, 0, none⟩) n c) zs := by
  refine ⟨acells_len zs, ?_⟩
  rcases h.2 with ⟨e, h0⟩ | ⟨g', cap, cur, e, hb, hh, hn, hm, hs, ht⟩
  · cases e
  · cases e
    refine .inr ⟨g, c, cur.setIfInBounds i v, by rw [hl], hb, heap_setCell_same w g i cur _ v hh, by omega, hm, by simpa using hs, ?_⟩
    rw [hl, ← hz, ← ht]
    simp only [Array.toList_setIfInBounds, List.take_set]
theorem Own.setF {w : World} {base g c n : Nat} {ys : List Ar} (h : Own w base (.slice (some ⟨g, 0, none⟩) n c) ys) (k : Nat) (hk : k < ys.length) (x : Int) :
    Own (w.setCell ⟨g, k * 3, none⟩ (.int .i64 x)) base (.slice (some ⟨g, 0, none⟩) n c) (ys.set k ⟨x, ys[k].t, ys[k].c⟩) := h.put _ (by omega) _ (acells_setF ys k hk x) (by simp)
theorem Own.setT {w : World} {base g c n : Nat} {ys : List Ar} (h : Own w base (.slice (some ⟨g, 0, none⟩) n c) ys) (k : Nat) (hk : k < ys.length) (x : Int) :
    Own (w.setCell ⟨g, k * 3 + 1, none⟩ (.int .i64 x)) base (.slice (some ⟨g, 0, none⟩) n c) (ys.set k ⟨ys[k].f, x, ys[k].c⟩) := h.put _ (by omega) _ (acells_setT ys k hk x) (by simp)
theorem Own.setC {w : World} {base g c n : Nat} {ys : List Ar} (h : Own w base (.slice (some ⟨g, 0, none⟩) n c) ys) (k : Nat) (hk : k < ys.length) (x : Int) :
    Own (w.setCell ⟨g, k * 3 + 2, none⟩ (.int .i64 x)) base (.slice (some ⟨g, 0, none⟩) n c) (ys.set k ⟨ys[k].f, ys[k].t, x⟩) := h.put _ (by omega) _ (acells_setC ys k hk x) (by simp)
theorem Blk.put4 {w : World} {b : Nat} {T : TypeId} {z0 z1 z2 z3 : Value} (h : Blk w b #[z0, z1, z2, z3] T) (a0 a1 a2 a3 : Value) :
    ∃ w3, w3 = (((w.setCell ⟨b, 0, none⟩ a0).setCell ⟨b, 1, none⟩ a1).setCell ⟨b, 2, none⟩ a2).setCell ⟨b, 3, none⟩ a3 ∧ Blk w3 b #[a0, a1, a2, a3] T ∧ Upd (fun k => k = b) w w3 := by
  refine ⟨_, rfl, ?_, ?_⟩
  · have := (((h.set 0 a0).set 1 a1).set 2 a2).set 3 a3
    simpa using this
  · iterate 4 refine Upd.setCell (S := fun k => k = b) ?_ (.inl rfl) _
    exact Upd.refl _ _
theorem Own.ne {w : World} {base g n c b : Nat} {ys : List Ar} {arr : Array Value} {T : TypeId} (h : Own w base (.slice (some ⟨g, 0, none⟩) n c) ys) (hb : Blk w b arr T) (hT : T ≠ 68) : ¬ g = b := by
  intro e
  subst e
  rcases h.2 with ⟨e, _⟩ | ⟨g', cap, cur, e, _, hh, _⟩
  · cases e
  · cases e
    have := hh.symm.trans hb
    simp at this
    exact hT this.2.symm
theorem infoArc : (Try.prog.info? 68).map (fun i => (i.zero, i.size, i.bytes)) = some (some (.agg #[.int .i64 0, .int .i64 0, .int .i64 0]), 3, 24) := by kernel_rfl

end Go.Proofs.Ytdhimfkmgcfohaa
