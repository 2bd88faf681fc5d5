/- All. -/
import Derived.Test.YtdgkemadhooogaaBankLen
namespace Go.Proofs.Ytdgkemadhooogaa
set_option linter.unusedVariables false
open Go.RowKit

/-- A slice of numbers in a block of its own, from its head on. -/
def Ints (w : World) (v : Value) (xs : List Int) (k : IntKind) (T base : Nat) : Prop :=
  ∃ g, v = .slice (some ⟨g, 0, none⟩) xs.length xs.length ∧ Blk w g (xs.map (Value.int k)).toArray T ∧ base ≤ g
def AllOf (xs : List Int) (w : World) (e : Ending) (w' : World) : Prop :=
  ∃ v, e = .returned v ∧ Ints w' v xs .i64 2 w.heap.size ∧ Kept w w'

set_option maxHeartbeats 400000 in
theorem All_bank {w : World} {bb g : Nat} {xs : List Int} (h : Bnk w bb g xs) :
    Calls Try.prog 25 #[.pointer (some ⟨bb, 0, none⟩)] w (AllOf xs w) := by
  have hlen := fun w (h : Bnk w bb g xs) => Len_bank h
  have hsm := h.small
  have hmk := fun w => make_one (P := Try.prog) (t := 29) (e := 2) (z := .int .i64 0) (v := .int .i64 0) (bytes := 8) Try.underlying29 (by kernel_rfl) rfl .i64 xs.length (by omega) (by omega) w
  have H := Lib.hid h
  clear h
  go_enter Try.func25, Try.ntmps25
  go_wp2_with (go_at_call 50; refine (Len_bank H.out).mono ?_; rintro e w' ⟨rfl, rfl⟩)
  go_loopw [10] (fun i wr => ∃ k : Nat, i = .int .i64 k ∧ k ≤ xs.length ∧ Blk wr w.heap.size ((filled xs 0 k).map (Value.int .i64)).toArray 2 ∧ Hid (Bnk wr bb g xs) ∧ Hid (Kept w wr)) (fun i _ => xs.length - (intOf i).toNat)
  case atStart =>
    refine ⟨0, rfl, by omega, ?_, Lib.hid (H.out.kept ((Upd.refl _ _).alloc _)), Lib.hid ((Upd.refl _ _).alloc _)⟩
    rw [filled_zero, ← zeros_ints]
    exact Blk.new _ _ _
  case round =>
    obtain ⟨k, rfl, hk, hb, HB, HK⟩ := hrel
    by_cases hlt : k < xs.length
    · have hc := hb.filling hlt
      have hf := hb.free k
      have e : bget xs k = xs[k] := by rw [bget_in (by omega)]; simp [hlt]
      have hfin : Hid (Blk (wr.setCell ⟨w.heap.size, k, none⟩ (.int .i64 (bget xs k))) w.heap.size ((filled xs 0 (k + 1)).map (Value.int .i64)).toArray 2) := by
        rw [e]; exact hb.fill hlt
      have hB2 : Hid (Bnk (wr.setCell ⟨w.heap.size, k, none⟩ (.int .i64 (bget xs k))) bb g xs) := HB.out.upd (S := fun j => j = w.heap.size) (updCell _ _ _ _) (fun e => by have := H.out.head.lt; omega) (fun e => by have := H.out.row.lt; omega)
      have hK2 : Hid (Kept w (wr.setCell ⟨w.heap.size, k, none⟩ (.int .i64 (bget xs k)))) := HK.out.setCell (.inr (Nat.le_refl _)) _
      have hld := fun i => Lib.hid (Load_bank HB.out i)
      clear hb HB HK e
      go_wp2_with (go_at_call 35; refine (hld _).out.mono ?_; rintro e w' ⟨rfl, rfl⟩)
      go_roundw
      case rel => exact ⟨k + 1, by go_num, by omega, hfin, hB2, hK2⟩
      case measure => simp [intOf]; omega
    · obtain rfl : k = xs.length := by omega
      have hfin : Hid (AllOf xs w (.returned (.slice (some ⟨w.heap.size, 0, none⟩) xs.length xs.length)) wr) := ⟨_, rfl, ⟨_, rfl, by rw [filled_all] at hb; exact hb, Nat.le_refl _⟩, HK.out⟩
      clear hb HB HK
      go_wp2
      go_ret
      exact hfin.out

end Go.Proofs.Ytdgkemadhooogaa
