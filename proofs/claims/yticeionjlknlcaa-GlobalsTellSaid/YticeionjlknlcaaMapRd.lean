/- Rows read where a map alone has turned; an own row, as a block; small numbers. No program in sight. -/
import Derived.Test.YticeionjlknlcaaMap
import Derived.Test.YticeionjlknlcaaTail
import Derived.Test.YticeionjlknlcaaGst
namespace Go.Proofs.Yticeionjlknlcaa
set_option linter.unusedVariables false
open Go.RowKit Go.Maps

theorem Rd.mapped {w w' : World} {a : Option Addr} {vs : List Value} {b m : Nat} {h : List Int} {l : List Bool} (hr : Rd w a vs) (hm : Mp w b m h l) (hu : Upd (fun k => k = b) w w') : Rd w' a vs := by
  rcases hr with e | ⟨c, off, rfl, hc⟩
  · exact .inl e
  · refine .inr ⟨c, off, rfl, fun i u hi => ?_⟩
    have h1 := hc i u hi
    refine (hu.cells ⟨c, off + i, none⟩ (by rw [h1]; rfl) ?_).trans h1
    intro e
    obtain ⟨D, ⟨es, clock, hb, -⟩, -⟩ := hm
    have e : c = b := e
    subst e
    simp [World.cell?, hb] at h1
theorem row_blk {w : World} {base k c : Nat} {e : TypeId} {a : Option Addr} {vs : List Value} (h : w.ownsRow base e 1 (.slice a k c) k vs) (hn : 0 < k) : ∃ g rest, a = some ⟨g, 0, none⟩ ∧ base ≤ g ∧ Blk w g (vs ++ rest).toArray e := by
  rcases h.2 with ⟨h1, h2⟩ | ⟨g, cap, cur, h1, h2, h3, h4, h5, h6, h7⟩
  · omega
  · cases h1
    refine ⟨g, cur.toList.drop (k * 1), rfl, h2, ?_⟩
    rw [← h7, List.take_append_drop]
    exact h3
theorem rd_set {w : World} {g u : Nat} {hs : List Int} {rest : List Value} {T : TypeId} {x : Int} (h : Blk w g (lv hs ++ rest).toArray T) (hu : u < hs.length) : Rd (w.setCell ⟨g, u, none⟩ (.int .i64 x)) (some ⟨g, 0, none⟩) (lv (hs.set u x)) := by
  have h1 := h.set u (.int .i64 x)
  have e : (lv hs ++ rest).toArray.setIfInBounds u (.int .i64 x) = (lv (hs.set u x) ++ rest).toArray := by
    simp [lv, List.map_set, hu]
  rw [e] at h1
  refine .inr ⟨g, 0, rfl, fun i v hi => ?_⟩
  rw [Nat.zero_add, h1.cell]
  simp only [List.getElem?_toArray]
  rw [List.getElem?_append_left (List.getElem?_eq_some_iff.1 hi).1]
  exact hi
theorem wrap_up (x : Nat) (h : x ≤ 1000) : wrap64 ((x : Int) + 1) = ((x + 1 : Nat) : Int) := by unfold wrap64; omega
theorem wrap_up' (x : Nat) (h : x ≤ 1000) : IntKind.i64.wrap ((x : Int) + 1) = ((x + 1 : Nat) : Int) := by rw [IntKind.wrap_i64]; omega
theorem wrap_df (x y z : Int) (h : x - y = z) (h0 : -1000 ≤ z) (h1 : z ≤ 1000) : IntKind.i64.wrap (x - y) = z := by rw [h, IntKind.wrap_i64]; omega
theorem wrap_df' (x y z : Int) (h : x - y = z) (h0 : -1000 ≤ z) (h1 : z ≤ 1000) : wrap64 (x - y) = z := by rw [h]; unfold wrap64; omega
/-- A row of numbers, where a cell of a block of another type was stored. -/
theorem rd_far {w : World} {a : Option Addr} {l : List Nat} {rb k : Nat} {arr : Array Value} {x : Value} (h : Rd w a (nv l)) (hb : Blk w rb arr 2) (hne : ∀ y, a = some y → l ≠ [] → y.block ≠ rb) : Rd (w.setCell ⟨rb, k, none⟩ x) a (nv l) := by
  by_cases hl : l = []
  · subst hl; exact .inl rfl
  · rcases h with h | ⟨b, off, rfl, hc⟩
    · exact .inl h
    · have := hne ⟨b, off, none⟩ rfl hl
      exact .inr ⟨b, off, rfl, fun i u hi => by rw [World.cell?_of_block (Below.heap_setCell _ _ _ _ (by exact this))]; exact hc i u hi⟩
theorem wrap_sm (x : Int) (h0 : 0 ≤ x) (h : x ≤ 1000) : wrap64 (x + 1) = x + 1 := by unfold wrap64; omega
end Go.Proofs.Yticeionjlknlcaa
