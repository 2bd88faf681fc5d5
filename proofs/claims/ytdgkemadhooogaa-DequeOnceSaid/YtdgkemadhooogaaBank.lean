/- What each function of package cells that touches a bank does, said of blocks. No condition but the bank's own form. -/
import Derived.Test.YtdgkemadhooogaaProg
import Derived.Test.YtdgkemadhooogaaBase
namespace Go.Proofs.Ytdgkemadhooogaa
set_option linter.unusedVariables false
open Go.RowKit

/-- The bank at block bb, its cells at block g. -/
structure Bnk (w : World) (bb g : Nat) (xs : List Int) : Prop where
  head : Blk w bb #[.slice (some ⟨g, 0, none⟩) xs.length xs.length] 147
  row : Blk w g (xs.map (Value.int .i64)).toArray 164
  ne : bb ≠ g
  small : xs.length ≤ 524288

theorem Bnk.upd {w w' : World} {bb g : Nat} {xs : List Int} {S : Nat → Prop} (h : Bnk w bb g xs) (hu : Upd S w w') (h1 : ¬ S bb) (h2 : ¬ S g) : Bnk w' bb g xs :=
  ⟨h.head.upd hu h1, h.row.upd hu h2, h.ne, h.small⟩
theorem Bnk.kept {w w' : World} {bb g : Nat} {xs : List Int} (h : Bnk w bb g xs) (hu : Kept w w') : Bnk w' bb g xs := h.upd hu (fun f => f) (fun f => f)
theorem Bnk.cell {w : World} {bb g : Nat} {xs : List Int} (h : Bnk w bb g xs) {i : Nat} (hi : i < xs.length) : w.cell? ⟨g, i, none⟩ = some (.int .i64 (xs.getD i 0)) := by
  rw [h.row.cell]; simp [hi]

/-- What a cell has; 0 if there is none. -/
def bget (xs : List Int) (i : Int) : Int := if 0 ≤ i then xs.getD i.toNat 0 else 0
/-- The cells, of which one has v. -/
def bput (xs : List Int) (i : Int) (v : Int) : List Int := if 0 ≤ i then xs.set i.toNat v else xs
theorem bget_in {xs : List Int} {i : Int} (h : 0 ≤ i) : bget xs i = xs.getD i.toNat 0 := if_pos h
theorem bget_out {xs : List Int} {i : Int} (h : ¬ (0 ≤ i ∧ i < xs.length)) : bget xs i = 0 := by
  unfold bget; split
  · rw [List.getD_eq_getElem?_getD, List.getElem?_eq_none (by omega)]; rfl
  · rfl
theorem bput_in {xs : List Int} {i : Int} (v : Int) (h : 0 ≤ i) : bput xs i v = xs.set i.toNat v := if_pos h
theorem bput_out {xs : List Int} {i : Int} (v : Int) (h : ¬ (0 ≤ i ∧ i < xs.length)) : bput xs i v = xs := by
  unfold bput; split
  · rw [List.set_eq_of_length_le (by omega)]
  · rfl
@[simp] theorem length_bput (xs : List Int) (i v : Int) : (bput xs i v).length = xs.length := by unfold bput; split <;> simp

theorem Bnk.set {w : World} {bb g : Nat} {xs : List Int} (h : Bnk w bb g xs) (i : Nat) (v : Int) : Bnk (w.setCell ⟨g, i, none⟩ (.int .i64 v)) bb g (xs.set i v) := by
  refine ⟨by simpa using h.head.other (p := ⟨g, i, none⟩) h.ne _, ?_, h.ne, by simpa using h.small⟩
  have := h.row.set i (.int .i64 v)
  simpa [List.map_set] using this

theorem updCell (w : World) (g i : Nat) (v : Value) : Upd (fun k => k = g) w (w.setCell ⟨g, i, none⟩ v) := Upd.setCell (S := fun k => k = g) (p := ⟨g, i, none⟩) (Upd.refl _ _) (.inl rfl) v

theorem at_in {w : World} {bb g : Nat} {xs : List Int} (h : Bnk w bb g xs) (i : Int) (h0 : 0 ≤ i) (h1 : i < xs.length) :
    Calls Try.prog 66 #[.pointer (some ⟨bb, 0, none⟩), .int .i64 i] w fun e w' => e = .returned (.pointer (some ⟨g, i.toNat, none⟩)) ∧ w = w' := by
  obtain ⟨n, rfl⟩ := Int.eq_ofNat_of_zero_le h0
  have hc : w.cell? ⟨bb, 0, none⟩ = some (.slice (some ⟨g, 0, none⟩) xs.length xs.length) := by rw [h.head.cell]; rfl
  have hsm := h.small
  have hn : n < xs.length := by omega
  clear h0 h1 h
  go_enter Try.func66, Try.ntmps66
  go_wp2
  go_ret
  exact ⟨by simp, rfl⟩

theorem at_out {w : World} {bb g : Nat} {xs : List Int} (h : Bnk w bb g xs) (i : Int) (h0 : ¬ (0 ≤ i ∧ i < xs.length)) :
    Calls Try.prog 66 #[.pointer (some ⟨bb, 0, none⟩), .int .i64 i] w fun e w' => e = .returned (.pointer none) ∧ w = w' := by
  have hc : w.cell? ⟨bb, 0, none⟩ = some (.slice (some ⟨g, 0, none⟩) xs.length xs.length) := by rw [h.head.cell]; rfl
  have hsm := h.small
  by_cases hi : i < 0
  · clear h h0
    go_enter Try.func66, Try.ntmps66
    go_wp2
    go_ret
    exact ⟨rfl, rfl⟩
  · have h2 : ¬ (i < (xs.length : Int)) := by omega
    clear h h0
    go_enter Try.func66, Try.ntmps66
    go_wp2
    go_ret
    exact ⟨rfl, rfl⟩

theorem Load_bank {w : World} {bb g : Nat} {xs : List Int} (h : Bnk w bb g xs) (i : Int) :
    Calls Try.prog 35 #[.pointer (some ⟨bb, 0, none⟩), .int .i64 i] w fun e w' => e = .returned (.int .i64 (bget xs i)) ∧ w = w' := by
  by_cases hi : 0 ≤ i ∧ i < xs.length
  · have ha := Lib.hid (at_in h i hi.1 hi.2)
    rw [bget_in hi.1]
    have hc := h.cell (i := i.toNat) (by omega)
    have hld := run_call_load (P := Try.prog) Try.func97 (by kernel_rfl) (by kernel_rfl) (by kernel_rfl) .i64 (by kernel_rfl) hc
    generalize xs.getD i.toNat 0 = x at hc hld
    clear h hi
    go_enter Try.func35, Try.ntmps35
    go_wp2_with (go_at_call 66; refine ha.out.mono ?_; rintro e w' ⟨rfl, rfl⟩)
    go_wp2
    go_ret
    exact ⟨rfl, rfl⟩
  · have ha := Lib.hid (at_out h i hi)
    rw [bget_out hi]
    clear h hi
    go_enter Try.func35, Try.ntmps35
    go_wp2_with (go_at_call 66; refine ha.out.mono ?_; rintro e w' ⟨rfl, rfl⟩)
    go_ret
    exact ⟨rfl, rfl⟩

theorem Store_bank {w : World} {bb g : Nat} {xs : List Int} (h : Bnk w bb g xs) (i v : Int) :
    Calls Try.prog 59 #[.pointer (some ⟨bb, 0, none⟩), .int .i64 i, .int .i64 v] w fun e w' => e = .returned (.tuple #[]) ∧ Bnk w' bb g (bput xs i v) ∧ Upd (fun k => k = g) w w' := by
  by_cases hi : 0 ≤ i ∧ i < xs.length
  · have ha := Lib.hid (at_in h i hi.1 hi.2)
    rw [bput_in v hi.1]
    have hc := h.cell (i := i.toNat) (by omega)
    have hfin := Lib.hid (show Bnk (w.setCell ⟨g, i.toNat, none⟩ (.int .i64 v)) bb g (xs.set i.toNat v) ∧ Upd (fun k => k = g) w (w.setCell ⟨g, i.toNat, none⟩ (.int .i64 v)) from ⟨h.set _ _, updCell _ _ _ _⟩)
    have hld := fun y => run_call_store (P := Try.prog) Try.func107 (by kernel_rfl) (by kernel_rfl) (by kernel_rfl) (by kernel_rfl) (k := .i64) (y := y) hc (h.row.free _)
    clear hc h hi
    go_enter Try.func59, Try.ntmps59
    go_wp2_with (go_at_call 66; refine ha.out.mono ?_; rintro e w' ⟨rfl, rfl⟩)
    go_wp2
    go_end0
    go_wp2
    go_end0
    exact ⟨rfl, hfin.out⟩
  · have ha := Lib.hid (at_out h i hi)
    rw [bput_out v hi]
    have hfin := Lib.hid (show Bnk w bb g xs ∧ Upd (fun k => k = g) w w from ⟨h, Upd.refl _ _⟩)
    clear h hi
    go_enter Try.func59, Try.ntmps59
    go_wp2_with (go_at_call 66; refine ha.out.mono ?_; rintro e w' ⟨rfl, rfl⟩)
    go_end0
    exact ⟨rfl, hfin.out⟩


theorem Load_is {w : World} {bb g : Nat} {xs : List Int} (h : Bnk w bb g xs) (i r : Int) (hr : bget xs i = r) :
    Calls Try.prog 35 #[.pointer (some ⟨bb, 0, none⟩), .int .i64 i] w fun e w' => e = .returned (.int .i64 r) ∧ w = w' := by
  subst hr; exact Load_bank h i
theorem Store_is {w : World} {bb g : Nat} {xs : List Int} (h : Bnk w bb g xs) (i v : Int) (ys : List Int) (hy : bput xs i v = ys) :
    Calls Try.prog 59 #[.pointer (some ⟨bb, 0, none⟩), .int .i64 i, .int .i64 v] w fun e w' => e = .returned (.tuple #[]) ∧ Bnk w' bb g ys ∧ Upd (fun k => k = g) w w' := by
  subst hy; exact Store_bank h i v
end Go.Proofs.Ytdgkemadhooogaa
