/- The reference's bank: a slice of its own; what Is, Load and Put answer. -/
import Derived.Test.YtdgkemadhooogaaBank
import Derived.Test.YtdgkemadhooogaaBase2
namespace Go.Proofs.Ytdgkemadhooogaa
set_option linter.unusedVariables false
open Go.RowKit

/-- The slice (some ⟨g, 0⟩) of length and these numbers. -/
def RB (w : World) (g cap : Nat) (xs : List Int) : Prop := w.ownsRow 0 2 1 (.slice (some ⟨g, 0, none⟩) xs.length cap) xs.length (xs.map (Value.int .i64))
theorem RB.upd {w w' : World} {g cap : Nat} {xs : List Int} {S : Nat → Prop} (h : RB w g cap xs) (hu : Upd S w w') (hs : ¬ S g) : RB w' g cap xs := by
  refine ⟨h.1, ?_⟩
  rcases h.2 with ⟨h1, _⟩ | ⟨g', cap', cur, hv, hb, hh, r⟩
  · cases h1
  · cases hv
    exact .inr ⟨_, _, cur, rfl, hb, (hu.block _ (Array.getElem?_eq_some_iff.1 hh).1 hs).trans hh, r⟩
theorem RB.kept {w w' : World} {g cap : Nat} {xs : List Int} (h : RB w g cap xs) (hu : Kept w w') : RB w' g cap xs := h.upd hu fun f => f
theorem RB.lt {w : World} {g cap : Nat} {xs : List Int} (h : RB w g cap xs) : g < w.heap.size := (World.ownsRow.lt h g rfl).2
theorem RB.cell {w : World} {g cap : Nat} {xs : List Int} (h : RB w g cap xs) {i : Nat} (hi : i < xs.length) : w.cell? ⟨g, i, none⟩ = some (.int .i64 (xs.getD i 0)) := by
  rw [World.ownsRow.cellAt h i (by omega)]
  simp [hi]
theorem RB.free {w : World} {g cap : Nat} {xs : List Int} (h : RB w g cap xs) (i : Nat) : w.frozen? ⟨g, i, none⟩ = false := World.ownsRow.frozenAt h i
theorem RB.set {w : World} {g cap : Nat} {xs : List Int} (h : RB w g cap xs) (i : Nat) (hi : i < xs.length) (v : Int) : RB (w.setCell ⟨g, i, none⟩ (.int .i64 v)) g cap (xs.set i v) := by
  have := World.ownsRow.stored h i (.int .i64 v)
  unfold RB
  rw [List.length_set, List.map_set]
  exact this.1

theorem refIs_yes (g cap : Nat) (xs : List Int) (i : Int) (w : World) (hm : xs.length ≤ 1000000) (h : 0 ≤ i ∧ i < xs.length) :
    Calls Try.prog 89 #[.slice (some ⟨g, 0, none⟩) xs.length cap, .int .i64 i] w fun e w' => e = .returned (.bool true) ∧ w = w' := by
  obtain ⟨h0, h1⟩ := h
  go_enter Try.func89, Try.ntmps89
  go_wp2
  go_ret
  exact ⟨rfl, rfl⟩
theorem refIs_no (g cap : Nat) (xs : List Int) (i : Int) (w : World) (hm : xs.length ≤ 1000000) (h : ¬ (0 ≤ i ∧ i < xs.length)) :
    Calls Try.prog 89 #[.slice (some ⟨g, 0, none⟩) xs.length cap, .int .i64 i] w fun e w' => e = .returned (.bool false) ∧ w = w' := by
  by_cases h0 : 0 ≤ i
  · have h1 : ¬ i < xs.length := by omega
    clear h
    go_enter Try.func89, Try.ntmps89
    go_wp2
    go_ret
    exact ⟨rfl, rfl⟩
  · clear h
    go_enter Try.func89, Try.ntmps89
    go_wp2
    go_ret
    exact ⟨rfl, rfl⟩
theorem refLoad_any {g cap : Nat} {xs : List Int} {w : World} (hr : RB w g cap xs) (i : Int) (hm : xs.length ≤ 1000000) :
    Calls Try.prog 53 #[.slice (some ⟨g, 0, none⟩) xs.length cap, .int .i64 i] w fun e w' => e = .returned (.int .i64 (bget xs i)) ∧ w = w' := by
  by_cases h : 0 ≤ i ∧ i < xs.length
  · have hi := fun w => Lib.hid (refIs_yes g cap xs i w hm h)
    rw [bget_in h.1]
    obtain ⟨n, rfl⟩ := Int.eq_ofNat_of_zero_le h.1
    have hn : n < xs.length := by omega
    have hc := hr.cell hn
    rw [Int.toNat_natCast]
    generalize xs.getD n 0 = x at hc
    clear hr h
    go_enter Try.func53, Try.ntmps53
    go_wp2_with (go_at_call 89; refine (hi _).out.mono ?_; rintro e w' ⟨rfl, rfl⟩)
    go_ret
    exact ⟨rfl, rfl⟩
  · have hi := fun w => Lib.hid (refIs_no g cap xs i w hm h)
    rw [bget_out h]
    clear hr h
    go_enter Try.func53, Try.ntmps53
    go_wp2_with (go_at_call 89; refine (hi _).out.mono ?_; rintro e w' ⟨rfl, rfl⟩)
    go_ret
    exact ⟨rfl, rfl⟩

theorem info2 : (Try.prog.info? 2).map (fun i => (i.zero, i.size, i.bytes)) = some (some (.int .i64 0), 1, 8) := by kernel_rfl

def PutIs (xs : List Int) (w : World) (e : Ending) (w' : World) : Prop := ∃ g cap, e = .returned (.slice (some ⟨g, 0, none⟩) xs.length cap) ∧ RB w' g cap xs ∧ w.heap.size ≤ g ∧ Kept w w'

set_option maxHeartbeats 1000000 in
theorem refPut_any {g cap : Nat} {xs : List Int} {w : World} (hr : RB w g cap xs) (i v : Int) (hm : xs.length ≤ 1000000) :
    Calls Try.prog 87 #[.slice (some ⟨g, 0, none⟩) xs.length cap, .int .i64 i, .int .i64 v] w (PutIs (bput xs i v) w) := by
  obtain ⟨i0, hi, hz0, hz1, hz2⟩ := info_parts info2
  have HR := Lib.hid hr
  clear hr
  have hsz : (xs.map (Value.int .i64)).length = xs.length * 1 := by simp
  go_enter Try.func87, Try.ntmps87
  go_wp2_with (at_builtin; refine wpList_append_own _ rfl _ _ 70 rfl w.heap.size 2 i0 (.int .i64 0) 1 8 Try.underlying70 hi hz0 hz1 hz2 rfl (by decide) _ 0 [] rfl (World.ownsRow_lit w #[] 0 (Nat.le_refl _) (by decide) rfl) ⟨g, 0, none⟩ xs.length cap (xs.map (Value.int .i64)) rfl hsz ?c1 ?c2 ?c3 ?c4 ?c5 ?_)
  case c1 => 
    intro j u hu
    rw [List.getElem?_map] at hu
    obtain ⟨x, hx, rfl⟩ := Option.map_eq_some_iff.1 hu
    have hj := (List.getElem?_eq_some_iff.1 hx).1
    rw [Addr.add_lit, Nat.zero_add, World.cell?_alloc_past (hn := HR.out.lt), HR.out.cell hj]
    simp [List.getD, hx]
  case c2 => exact ints_oneCell _ _
  case c3 => unfold maxLen; omega
  case c4 => omega
  case c5 => simp
  intro v' w1 hown hgrow hnil
  obtain ⟨g', cap', rfl⟩ : ∃ g' cap', v' = .slice (some ⟨g', 0, none⟩) xs.length cap' := by
    rcases hown.2 with ⟨h1, _⟩ | ⟨g', cap', cur, hv, _⟩
    · exact absurd h1 hnil
    · exact ⟨g', cap', hv⟩
  have hR1 : RB w1 g' cap' xs := by
    refine ⟨hown.1, ?_⟩
    rcases hown.2 with ⟨h1, _⟩ | ⟨g2, cap2, cur, hv, hb, r⟩
    · cases h1
    · exact .inr ⟨g2, cap2, cur, hv, Nat.zero_le _, r⟩
  have hg' : w.heap.size ≤ g' := (World.ownsRow.lt hown g' rfl).1
  have hK1 : Kept w w1 := Upd.grown ((Upd.refl _ _).alloc (.cells #[] 2)) hgrow (fun k hk => .inr (by cases hk; exact Nat.le_refl _))
  clear hnil hgrow hown
  have HR1 := Lib.hid hR1
  have HK1 := Lib.hid hK1
  by_cases h : 0 ≤ i ∧ i < xs.length
  · have hc := hR1.cell (i := i.toNat) (by omega)
    have hf := hR1.free i.toNat
    have hfin : Hid (PutIs (bput xs i v) w (.returned (.slice (some ⟨g', 0, none⟩) xs.length cap')) (w1.setCell ⟨g', i.toNat, none⟩ (.int .i64 v))) := by
      refine ⟨g', cap', by simp, ?_, hg', hK1.setCell (p := ⟨g', i.toNat, none⟩) (.inr hg') _⟩
      rw [bput_in v h.1]
      exact hR1.set i.toNat (by omega) v
    obtain ⟨h0, h1⟩ := h
    clear hR1 hK1 hsz
    go_wp2
    go_ret
    exact hfin.out
  · have hfin : Hid (PutIs (bput xs i v) w (.returned (.slice (some ⟨g', 0, none⟩) xs.length cap')) w1) := by
      refine ⟨g', cap', by simp, ?_, hg', hK1⟩
      rw [bput_out v h]
      exact hR1
    clear hR1 hK1 hsz
    by_cases h0 : 0 ≤ i
    · have h1 : ¬ i < xs.length := by omega
      clear h
      go_wp2
      go_ret
      exact hfin.out
    · clear h
      go_wp2
      go_ret
      exact hfin.out
end Go.Proofs.Ytdgkemadhooogaa
