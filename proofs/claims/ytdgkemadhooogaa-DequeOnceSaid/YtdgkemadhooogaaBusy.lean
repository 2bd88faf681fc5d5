/- acequialaw11.runner.busy (printed by gen_refstep11.py). -/
import Derived.Test.YtdgkemadhooogaaRowsG
import Derived.Test.YtdgkemadhooogaaOnceT
import Derived.Deep.RegionHeld3
import Derived.Deep.CutRange
import Derived.StillTailTactics
import Derived.Deep.MidRow
namespace Go.Proofs.Ytdgkemadhooogaa
set_option linter.unusedVariables false
set_option linter.unusedSimpArgs false
open Go.RowKit
attribute [local go_sem] cell?_ext

/-- The pointers of a runner. -/
def ptr3 : Option Sd → List Value
  | none => [.pointer none, .pointer none, .pointer none]
  | some ⟨.push _, mb, _, _⟩ => [.pointer (some ⟨mb, 0, none⟩), .pointer none, .pointer none]
  | some ⟨.pop, mb, _, _⟩ => [.pointer none, .pointer (some ⟨mb, 0, none⟩), .pointer none]
  | some ⟨.steal, mb, _, _⟩ => [.pointer none, .pointer none, .pointer (some ⟨mb, 0, none⟩)]
def rcell (x : Option Sd) (v : Int) : List Value := ptr3 x ++ [.int .i64 v]
theorem rcell_len (x : Option Sd) (v : Int) : (rcell x v).length = 4 := by
  unfold rcell
  rw [List.length_append]
  unfold ptr3
  split <;> rfl
set_option maxRecDepth 100000 in
set_option maxHeartbeats 4000000 in
theorem busy_none {w : World} {sg i o : Nat} {ls : List (List Value)} {v : Int} (hR : Rows w sg 4 40 ls) (hi : ls[i]? = some (rcell none v)) (ho : o = i * 4) :
    Calls Try.prog 12 #[.pointer (some ⟨sg, o, none⟩)] w fun e w' => e = .returned (.bool false) ∧ w = w' := by
  have c0 : w.cell? ⟨sg, o, none⟩ = some (.pointer none) := by have h := hR.cell hi ho 0 (by omega); exact h
  have c1 : w.cell? ⟨sg, o + 1, none⟩ = some (.pointer none) := by have h := hR.cell hi ho 1 (by omega); exact h
  have c2 : w.cell? ⟨sg, o + 2, none⟩ = some (.pointer none) := by have h := hR.cell hi ho 2 (by omega); exact h
  clear hR hi ho
  go_enter Try.func12, Try.ntmps12
  go_wp2_with fail
  go_ret
  exact ⟨rfl, rfl⟩
set_option maxRecDepth 100000 in
set_option maxHeartbeats 4000000 in
theorem busy_push {w : World} {sg i o : Nat} {ls : List (List Value)} {v : Int} {v0 : Int} {mb : Nat} {m : DM} {lo : Bool} (hR : Rows w sg 4 40 ls) (hi : ls[i]? = some (rcell (some ⟨.push v0, mb, m, lo⟩) v)) (ho : o = i * 4) :
    Calls Try.prog 12 #[.pointer (some ⟨sg, o, none⟩)] w fun e w' => e = .returned (.bool true) ∧ w = w' := by
  have c0 : w.cell? ⟨sg, o, none⟩ = some (.pointer (some ⟨mb, 0, none⟩)) := by have h := hR.cell hi ho 0 (by omega); exact h
  have c1 : w.cell? ⟨sg, o + 1, none⟩ = some (.pointer none) := by have h := hR.cell hi ho 1 (by omega); exact h
  have c2 : w.cell? ⟨sg, o + 2, none⟩ = some (.pointer none) := by have h := hR.cell hi ho 2 (by omega); exact h
  clear hR hi ho
  go_enter Try.func12, Try.ntmps12
  go_wp2_with fail
  go_ret
  exact ⟨rfl, rfl⟩
set_option maxRecDepth 100000 in
set_option maxHeartbeats 4000000 in
theorem busy_pop {w : World} {sg i o : Nat} {ls : List (List Value)} {v : Int} {mb : Nat} {m : DM} {lo : Bool} (hR : Rows w sg 4 40 ls) (hi : ls[i]? = some (rcell (some ⟨.pop, mb, m, lo⟩) v)) (ho : o = i * 4) :
    Calls Try.prog 12 #[.pointer (some ⟨sg, o, none⟩)] w fun e w' => e = .returned (.bool true) ∧ w = w' := by
  have c0 : w.cell? ⟨sg, o, none⟩ = some (.pointer none) := by have h := hR.cell hi ho 0 (by omega); exact h
  have c1 : w.cell? ⟨sg, o + 1, none⟩ = some (.pointer (some ⟨mb, 0, none⟩)) := by have h := hR.cell hi ho 1 (by omega); exact h
  have c2 : w.cell? ⟨sg, o + 2, none⟩ = some (.pointer none) := by have h := hR.cell hi ho 2 (by omega); exact h
  clear hR hi ho
  go_enter Try.func12, Try.ntmps12
  go_wp2_with fail
  go_ret
  exact ⟨rfl, rfl⟩
set_option maxRecDepth 100000 in
set_option maxHeartbeats 4000000 in
theorem busy_steal {w : World} {sg i o : Nat} {ls : List (List Value)} {v : Int} {mb : Nat} {m : DM} {lo : Bool} (hR : Rows w sg 4 40 ls) (hi : ls[i]? = some (rcell (some ⟨.steal, mb, m, lo⟩) v)) (ho : o = i * 4) :
    Calls Try.prog 12 #[.pointer (some ⟨sg, o, none⟩)] w fun e w' => e = .returned (.bool true) ∧ w = w' := by
  have c0 : w.cell? ⟨sg, o, none⟩ = some (.pointer none) := by have h := hR.cell hi ho 0 (by omega); exact h
  have c1 : w.cell? ⟨sg, o + 1, none⟩ = some (.pointer none) := by have h := hR.cell hi ho 1 (by omega); exact h
  have c2 : w.cell? ⟨sg, o + 2, none⟩ = some (.pointer (some ⟨mb, 0, none⟩)) := by have h := hR.cell hi ho 2 (by omega); exact h
  clear hR hi ho
  go_enter Try.func12, Try.ntmps12
  go_wp2_with fail
  go_ret
  exact ⟨rfl, rfl⟩
theorem busy_any {w : World} {sg i o : Nat} {ls : List (List Value)} {v : Int} (x : Option Sd) (hR : Rows w sg 4 40 ls) (hi : ls[i]? = some (rcell x v)) (ho : o = i * 4) :
    Calls Try.prog 12 #[.pointer (some ⟨sg, o, none⟩)] w fun e w' => e = .returned (.bool x.isSome) ∧ w = w' := by
  cases x with
  | none => exact busy_none hR hi ho
  | some d =>
    obtain ⟨kd, mb, m, lo⟩ := d
    cases kd with
    | push v0 => exact busy_push hR hi ho
    | pop => exact busy_pop hR hi ho
    | steal => exact busy_steal hR hi ho
end Go.Proofs.Ytdgkemadhooogaa
