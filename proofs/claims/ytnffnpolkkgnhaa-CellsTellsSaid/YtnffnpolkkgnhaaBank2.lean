/- New, All and the chapter's examples. -/
import Derived.Test.YtnffnpolkkgnhaaBank
namespace Go.Proofs.Ytnffnpolkkgnhaa
set_option linter.unusedVariables false
open Go.RowKit

/-- A new bank: its blocks are new, all its cells 0. -/
def NewBank (n : Nat) (w : World) (e : Ending) (w' : World) : Prop :=
  ∃ bb g, e = .returned (.tuple #[.pointer (some ⟨bb, 0, none⟩), .int .i64 0]) ∧ Bnk w' bb g (List.replicate n 0) ∧ w.heap.size ≤ bb ∧ w.heap.size ≤ g ∧ Kept w w'

theorem New_ok (n : Nat) (w : World) (h : n ≤ 524288) :
    Calls Try.prog 19 #[.int .i64 n] w (NewBank n w) := by
  have hmk := fun w => make_one (P := Try.prog) (t := 56) (e := 72) (z := .agg #[.int .i64 0]) (v := .int .i64 0) (bytes := 8) Try.underlying56 (by kernel_rfl) rfl .i64 n (by omega) (by omega) w
  go_enter Try.func19, Try.ntmps19
  go_wp2
  go_ret2
  refine ⟨w.heap.size + 1, w.heap.size, rfl, ⟨?_, ?_, by omega, by simpa using h⟩, by omega, by omega, ((Upd.refl _ _).alloc _).alloc _⟩
  · have := Blk.new (w.alloc (.cells (zeros n (.int .i64 0)) 72)) #[.slice (some ⟨w.heap.size, 0, none⟩) n n] 58
    simpa using this
  · have := (Blk.new w (zeros n (.int .i64 0)) 72).alloc (.cells #[.slice (some ⟨w.heap.size, 0, none⟩) n n] 58)
    rw [← zeros_ints]
    exact this

theorem New_no (n : Int) (w : World) (h : n < 0 ∨ 524288 < n) :
    Calls Try.prog 19 #[.int .i64 n] w fun e w' => e = .returned (.tuple #[.pointer none, .int .i64 2]) ∧ w = w' := by
  rcases h with h | h
  · go_enter Try.func19, Try.ntmps19
    go_wp2
    go_ret2
    exact ⟨rfl, rfl⟩
  · have h0 : ¬ n < 0 := by omega
    go_enter Try.func19, Try.ntmps19
    go_wp2
    go_ret2
    exact ⟨rfl, rfl⟩

/-- A slice of numbers in a block of its own, from its head on. -/
def Ints (w : World) (v : Value) (xs : List Int) (k : IntKind) (T base : Nat) : Prop :=
  ∃ g, v = .slice (some ⟨g, 0, none⟩) xs.length xs.length ∧ Blk w g (xs.map (Value.int k)).toArray T ∧ base ≤ g
def AllOf (xs : List Int) (w : World) (e : Ending) (w' : World) : Prop :=
  ∃ v, e = .returned v ∧ Ints w' v xs .i64 2 w.heap.size ∧ Kept w w'

set_option maxHeartbeats 400000 in
theorem All_bank {w : World} {bb g : Nat} {xs : List Int} (h : Bnk w bb g xs) :
    Calls Try.prog 28 #[.pointer (some ⟨bb, 0, none⟩)] w (AllOf xs w) := by
  have hlen := fun w (h : Bnk w bb g xs) => Len_bank h
  have hsm := h.small
  have hmk := fun w => make_one (P := Try.prog) (t := 42) (e := 2) (z := .int .i64 0) (v := .int .i64 0) (bytes := 8) Try.underlying42 (by kernel_rfl) rfl .i64 xs.length (by omega) (by omega) w
  have H := Lib.hid h
  clear h
  go_enter Try.func28, Try.ntmps28
  go_wp2_with (go_at_call 20; refine (Len_bank H.out).mono ?_; rintro e w' ⟨rfl, rfl⟩)
  go_loopw [10] (fun i wr => ∃ k : Nat, i = .int .i64 k ∧ k ≤ xs.length ∧ Blk wr w.heap.size ((filled xs 0 k).map (Value.int .i64)).toArray 2 ∧ Hid (Bnk wr bb g xs) ∧ Hid (Kept w wr)) (fun i _ => xs.length - (intOf i).toNat)
  case atStart =>
    refine ⟨0, rfl, by omega, ?_, Lib.hid (H.out.kept ((Upd.refl _ _).alloc _)), Lib.hid ((Upd.refl _ _).alloc _)⟩
    rw [filled_zero, ← zeros_ints]
    exact Blk.new _ _ _
  case round =>
    obtain ⟨k, rfl, hk, hb, HB, HK⟩ := hrel
    by_cases hlt : k < xs.length
    · have hc := hb.filling hlt
      have hf := hb.free k
      have e : bget xs k = xs[k] := by rw [bget_in (by omega)]; simp [hlt]
      have hfin : Hid (Blk (wr.setCell ⟨w.heap.size, k, none⟩ (.int .i64 (bget xs k))) w.heap.size ((filled xs 0 (k + 1)).map (Value.int .i64)).toArray 2) := by
        rw [e]; exact hb.fill hlt
      have hB2 : Hid (Bnk (wr.setCell ⟨w.heap.size, k, none⟩ (.int .i64 (bget xs k))) bb g xs) := HB.out.upd (S := fun j => j = w.heap.size) (updCell _ _ _ _) (fun e => by have := H.out.head.lt; omega) (fun e => by have := H.out.row.lt; omega)
      have hK2 : Hid (Kept w (wr.setCell ⟨w.heap.size, k, none⟩ (.int .i64 (bget xs k)))) := HK.out.setCell (.inr (Nat.le_refl _)) _
      have hld := fun i => Lib.hid (Load_bank HB.out i)
      clear hb HB HK e
      go_wp2_with (go_at_call 22; refine (hld _).out.mono ?_; rintro e w' ⟨rfl, rfl⟩)
      go_roundw
      case rel => exact ⟨k + 1, by go_num, by omega, hfin, hB2, hK2⟩
      case measure => simp [intOf]; omega
    · obtain rfl : k = xs.length := by omega
      have hfin : Hid (AllOf xs w (.returned (.slice (some ⟨w.heap.size, 0, none⟩) xs.length xs.length)) wr) := ⟨_, rfl, ⟨_, rfl, by rw [filled_all] at hb; exact hb, Nat.le_refl _⟩, HK.out⟩
      clear hb HB HK
      go_wp2
      go_ret
      exact hfin.out

theorem Load_is {w : World} {bb g : Nat} {xs : List Int} (h : Bnk w bb g xs) (i r : Int) (hr : bget xs i = r) :
    Calls Try.prog 22 #[.pointer (some ⟨bb, 0, none⟩), .int .i64 i] w fun e w' => e = .returned (.int .i64 r) ∧ w = w' := by
  subst hr; exact Load_bank h i
theorem Store_is {w : World} {bb g : Nat} {xs : List Int} (h : Bnk w bb g xs) (i v : Int) (ys : List Int) (hy : bput xs i v = ys) :
    Calls Try.prog 23 #[.pointer (some ⟨bb, 0, none⟩), .int .i64 i, .int .i64 v] w fun e w' => e = .returned (.tuple #[]) ∧ Bnk w' bb g ys ∧ Upd (fun k => k = g) w w' := by
  subst hy; exact Store_bank h i v
theorem Add_is {w : World} {bb g : Nat} {xs : List Int} (h : Bnk w bb g xs) (i v r : Int) (ys : List Int) (hr : (if 0 ≤ i ∧ i < xs.length then wrap64 (bget xs i + v) else 0) = r) (hy : bput xs i (wrap64 (bget xs i + v)) = ys) :
    Calls Try.prog 25 #[.pointer (some ⟨bb, 0, none⟩), .int .i64 i, .int .i64 v] w fun e w' => e = .returned (.int .i64 r) ∧ Bnk w' bb g ys ∧ Upd (fun k => k = g) w w' := by
  subst hr hy; exact Add_bank h i v
theorem CAS_is {w : World} {bb g : Nat} {xs : List Int} (h : Bnk w bb g xs) (i old v : Int) (r : Bool) (ys : List Int) (hr : decide ((0 ≤ i ∧ i < xs.length) ∧ bget xs i = old) = r) (hy : (if bget xs i = old then bput xs i v else xs) = ys) :
    Calls Try.prog 27 #[.pointer (some ⟨bb, 0, none⟩), .int .i64 i, .int .i64 old, .int .i64 v] w fun e w' => e = .returned (.bool r) ∧ Bnk w' bb g ys ∧ Upd (fun k => k = g) w w' := by
  subst hr hy; exact CAS_bank h i old v
end Go.Proofs.Ytnffnpolkkgnhaa
