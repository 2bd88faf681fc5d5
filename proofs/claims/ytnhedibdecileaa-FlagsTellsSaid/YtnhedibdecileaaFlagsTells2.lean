/- The law FlagsTells: a slice with no cells, and the walk. -/
import Derived.Test.YtnhedibdecileaaFlagsTells
namespace Go.Proofs.Ytnhedibdecileaa
set_option linter.unusedVariables false
open Go.RowKit

set_option maxRecDepth 100000 in
set_option maxHeartbeats 4000000 in
theorem flagsTells_none (a0 : Int) (a : Option Addr) (cap : Nat) (w : World) (w0 : 0 ≤ a0 ∧ a0 ≤ 255) (hmost : cap ≤ maxLen) :
    Calls Try.prog 5 #[.int .u8 a0, .slice a 0 cap] w fun e w' => e = .returned (.bool true) ∧ Kept w w' := by
  obtain ⟨N, hN⟩ := Int.eq_ofNat_of_zero_le (show 0 ≤ 1 + a0 % 30 by omega)
  have hN1 : 1 ≤ N := by omega
  have hN2 : N ≤ 30 := by omega
  have hN0 : ¬ (N : Int) = 0 := by omega
  obtain ⟨hm, m, hs1, hm2, hfl, hvt, hfm⟩ := plan_size (N : Int) (by omega) (by omega)
  obtain ⟨l, hl⟩ : ∃ l, planOf (N : Int) 3 2 = l := ⟨_, rfl⟩
  have HP := fun w => Lib.hid (bank_any (N : Int) l m w hm hl (by rw [← hl]; exact hs1) hm2)
  rw [hl] at hs1 hfl hvt
  clear hm hl hfl
  obtain ⟨verts, arcs, workers, room, res, ex, hh, flag, pending, ask, count, sense, deques, size⟩ := l
  simp only at hs1 hvt
  subst hs1 hvt
  have hmk := fun w => make_one (P := Try.prog) (t := 46) (e := 2) (z := .int .i64 0) (v := .int .i64 0) (bytes := 8) Try.underlying46 (by kernel_rfl) rfl .i64 m (by omega) (by omega) w
  have hsl : ∀ w : World, (Instr.slice 22 (.slice a 0 cap) none (some (.int .i64 0)) none).run Try.prog w = .ok (.slice a 0 cap) w := fun w => run_take (P := Try.prog) Try.underlying22 (size := 3) (by kernel_rfl) a 0 cap 0 (by omega) w
  unfold maxLen at hmost
  clear hfm
  go_enter Try.func5, Try.ntmps5
  go_wp2_with fail
  refine (HP _).out.mono ?_
  rintro e w1 ⟨bb, g, rfl, hB, hbb, hg, hk⟩
  simp only [Lay.val, Lay.vals]
  have HK := Lib.hid hk
  clear hB hk HP
  go_wp2_with fail
  go_loop [37] (fun x => x = .int .i64 0) (fun _ => 0)
  case atStart => rfl
  case round =>
    subst hrel
    go_wp2_with fail
    refine (awake_any _).mono ?_
    rintro e w5 ⟨rfl, hk5⟩
    go_wp2
    go_ret
    exact ⟨rfl, ((HK.out.alloc _).alloc _).trans hk5⟩

theorem flagsTells_walk (n : Int) (a : Option Addr) (cap : Nat) (els : List (List Value)) (w : World) (w0 : (Lit.int .u8 n).wf = true) (h : FlatRow [some .u8, none, none] w a cap els) (_hf : ∀ x ∈ els, fits [some .u8, none, none] x) :
    Calls Try.prog 5 #[.int .u8 n, .slice a els.length cap] w fun e w' => e = .returned (.bool true) ∧ Kept w w' := by
  rcases h.cells with h0 | ⟨b, off, rfl, hc⟩
  · rw [h0]
    exact flagsTells_none n a cap w (bounds_u8 w0) h.most
  · exact flagsTells_some n b off cap els w (bounds_u8 w0) h.le h.most hc h.fit
end Go.Proofs.Ytnhedibdecileaa
