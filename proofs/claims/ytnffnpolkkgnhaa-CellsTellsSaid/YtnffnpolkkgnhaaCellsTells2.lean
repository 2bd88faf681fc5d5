/- The law CellsTells: all its inputs. -/
import Derived.Test.YtnffnpolkkgnhaaCellsTells
namespace Go.Proofs.Ytnffnpolkkgnhaa
set_option linter.unusedVariables false
open Go.RowKit

set_option maxRecDepth 100000 in
set_option maxHeartbeats 4000000 in
theorem cellsTells_none (N : Nat) (a : Option Addr) (cap0 : Nat) (w : World) (hN : N ≤ 40) (hmost : cap0 ≤ maxLen) :
    Calls Try.prog 5 #[.int .i64 N, .slice a 0 cap0] w fun e w' => e = .returned (.bool true) ∧ Kept w w' := by
  have hmk := fun w => make_one (P := Try.prog) (t := 43) (e := 2) (z := .int .i64 0) (v := .int .i64 0) (bytes := 8) Try.underlying43 (by kernel_rfl) rfl .i64 N (by omega) (by omega) w
  have hsl : ∀ w : World, (Instr.slice 37 (.slice a 0 cap0) none (some (.int .i64 0)) none).run Try.prog w = .ok (.slice a 0 cap0) w := fun w => run_take (P := Try.prog) Try.underlying37 (size := 5) (by kernel_rfl) a 0 cap0 0 (by omega) w
  unfold maxLen at hmost
  go_enter Try.func5, Try.ntmps5
  go_wp2_with fail
  refine (New_ok N _ (by omega)).mono ?_
  rintro e w1 ⟨bb, g, rfl, hB, hbb, hg, hk⟩
  have HB := Lib.hid hB
  have HK := Lib.hid hk
  clear hB hk
  go_wp2_with fail
  refine (Len_bank HB.out).mono ?_
  rintro e w' ⟨rfl, rfl⟩
  rw [List.length_replicate]
  clear HB
  go_wp2_with fail
  go_loop [54] (fun x => x = .int .i64 0) (fun _ => 0)
  case atStart => rfl
  case round =>
    subst hrel
    go_wp2_with fail
    refine (awake_any _).mono ?_
    rintro e w5 ⟨rfl, hk5⟩
    go_wp2
    go_ret
    exact ⟨rfl, (HK.out.alloc _).trans hk5⟩

set_option maxRecDepth 100000 in
set_option maxHeartbeats 4000000 in
theorem cellsTells_big (N : Nat) (a : Option Addr) (len cap0 : Nat) (w : World) (h1 : 40 < N) (h2 : N ≤ 524288) :
    Calls Try.prog 5 #[.int .i64 N, .slice a len cap0] w fun e w' => e = .returned (.bool true) ∧ Kept w w' := by
  have h3 : (40 : Int) < (N : Int) := by omega
  have h4 : (N : Int) ≤ 524288 := by omega
  go_enter Try.func5, Try.ntmps5
  go_wp2_with fail
  refine (New_ok N _ (by omega)).mono ?_
  rintro e w1 ⟨bb, g, rfl, hB, hbb, hg, hk⟩
  have HB := Lib.hid hB
  have HK := Lib.hid hk
  clear hB hk
  go_wp2_with fail
  refine (Len_bank HB.out).mono ?_
  rintro e w' ⟨rfl, rfl⟩
  rw [List.length_replicate]
  clear HB
  go_wp2_with fail
  refine (awake_any _).mono ?_
  rintro e w5 ⟨rfl, hk5⟩
  go_wp2
  go_ret
  exact ⟨rfl, HK.out.trans hk5⟩

set_option maxRecDepth 100000 in
set_option maxHeartbeats 4000000 in
theorem cellsTells_out (n : Int) (a : Option Addr) (len cap0 : Nat) (w : World) (h : n < 0 ∨ 524288 < n) :
    Calls Try.prog 5 #[.int .i64 n, .slice a len cap0] w fun e w' => e = .returned (.bool true) ∧ Kept w w' := by
  have HN := fun w => Lib.hid (New_no n w h)
  rcases h with h | h
  · go_enter Try.func5, Try.ntmps5
    go_wp2_with fail
    refine (HN _).out.mono ?_
    rintro e w' ⟨rfl, rfl⟩
    go_wp2_with fail
    refine (awake_any _).mono ?_
    rintro e w5 ⟨rfl, hk5⟩
    go_wp2
    go_ret
    exact ⟨rfl, hk5⟩
  · have h0 : ¬ n < 0 := by omega
    go_enter Try.func5, Try.ntmps5
    go_wp2_with fail
    refine (HN _).out.mono ?_
    rintro e w' ⟨rfl, rfl⟩
    go_wp2_with fail
    refine (awake_any _).mono ?_
    rintro e w5 ⟨rfl, hk5⟩
    go_wp2
    go_ret
    exact ⟨rfl, hk5⟩

theorem cellsTells_walk (n : Int) (a : Option Addr) (cap : Nat) (els : List (List Value)) (w : World) (w0 : (Lit.int .i64 n).wf = true) (h : FlatRow [some .u8, some .i64, some .i64, some .i64, none] w a cap els) (_hf : ∀ x ∈ els, fits [some .u8, some .i64, some .i64, some .i64, none] x) :
    Calls Try.prog 5 #[.int .i64 n, .slice a els.length cap] w fun e w' => e = .returned (.bool true) ∧ Kept w w' := by
  by_cases h1 : n < 0 ∨ 524288 < n
  · exact cellsTells_out n a els.length cap w h1
  · obtain ⟨N, rfl⟩ := Int.eq_ofNat_of_zero_le (show 0 ≤ n by omega)
    by_cases h2 : 40 < N
    · exact cellsTells_big N a els.length cap w h2 (by omega)
    · rcases h.cells with h0 | ⟨b, off, rfl, hc⟩
      · rw [h0]
        exact cellsTells_none N a cap w (by omega) h.most
      · exact cellsTells_some N b off cap els w (by omega) h.le h.most hc h.fit
end Go.Proofs.Ytnffnpolkkgnhaa
