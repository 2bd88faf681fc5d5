/- The reference's table (layer 13). -/
import Derived.Test.YtccjgbmbggbmgaaCountOne
import Derived.Test.YtccjgbmbggbmgaaRefBank
import Derived.Deep.RegionHeld3
namespace Go.Proofs.Ytccjgbmbggbmgaa
set_option linter.unusedVariables false
open Go.RowKit

theorem refLoadN {g cap N : Nat} {xs : List Int} {w : World} (hr : RB w g cap xs) (hN : xs.length = N) (i : Int) (hm : N ≤ 1000000) :
    Calls Try.prog 40 #[.slice (some ⟨g, 0, none⟩) N cap, .int .i64 i] w fun e w' => e = .returned (.int .i64 (bget xs i)) ∧ w = w' := by
  subst hN; exact refLoad_any hr i hm
def PutN (N : Nat) (xs : List Int) (w : World) (e : Ending) (w' : World) : Prop := ∃ g cap, e = .returned (.slice (some ⟨g, 0, none⟩) N cap) ∧ RB w' g cap xs ∧ w.heap.size ≤ g ∧ Kept w w'
theorem refPutN {g cap N : Nat} {xs : List Int} {w : World} (hr : RB w g cap xs) (hN : xs.length = N) (i v : Int) (hm : N ≤ 1000000) :
    Calls Try.prog 39 #[.slice (some ⟨g, 0, none⟩) N cap, .int .i64 i, .int .i64 v] w (PutN N (bput xs i v) w) := by
  subst hN
  refine (refPut_any hr i v hm).mono fun e w' ⟨g', c', h1, h2⟩ => ⟨g', c', ?_, h2⟩
  rw [h1, length_bput]
theorem cntLoad7 {g cap : Nat} {p a : Int} {w : World} (hr : RB w g cap (cnt p a)) :
    Calls Try.prog 40 #[.slice (some ⟨g, 0, none⟩) 15 cap, .int .i64 7] w fun e w' => e = .returned (.int .i64 p) ∧ w = w' := refLoadN (N := 15) hr rfl 7 (by omega)
theorem cntLoad8 {g cap : Nat} {p a : Int} {w : World} (hr : RB w g cap (cnt p a)) :
    Calls Try.prog 40 #[.slice (some ⟨g, 0, none⟩) 15 cap, .int .i64 8] w fun e w' => e = .returned (.int .i64 a) ∧ w = w' := refLoadN (N := 15) hr rfl 8 (by omega)
theorem cntPut7 {g cap : Nat} {p a : Int} {w : World} (hr : RB w g cap (cnt p a)) (q : Int) :
    Calls Try.prog 39 #[.slice (some ⟨g, 0, none⟩) 15 cap, .int .i64 7, .int .i64 q] w (PutN 15 (cnt q a) w) := refPutN (N := 15) hr rfl 7 q (by omega)
theorem cntPut8 {g cap : Nat} {p a : Int} {w : World} (hr : RB w g cap (cnt p a)) (q : Int) :
    Calls Try.prog 39 #[.slice (some ⟨g, 0, none⟩) 15 cap, .int .i64 8, .int .i64 q] w (PutN 15 (cnt p q) w) := refPutN (N := 15) hr rfl 8 q (by omega)
def RefIs (k n p a : Int) (w : World) (e : Ending) (w' : World) : Prop := ∃ g cap, e = .returned (.tuple #[.slice (some ⟨g, 0, none⟩) 15 cap, .bool (telK k n p a)]) ∧ RB w' g cap (cnt (penK k n p) (askK k a)) ∧ Kept w w'

set_option maxRecDepth 100000 in
set_option maxHeartbeats 4000000 in
theorem refStep_0 (n p a : Int) {w : World} {g cap : Nat} (hr : RB w g cap (cnt p a)) :
    Calls Try.prog 22 #[.int .i64 0, .int .i64 n, .agg #[.int .i64 2, .int .i64 1, .int .i64 1, .int .i64 2, .int .i64 0, .int .i64 1, .int .i64 3, .int .i64 5, .int .i64 7, .int .i64 8, .int .i64 9, .int .i64 10, .int .i64 11, .int .i64 15], .slice (some ⟨g, 0, none⟩) 15 cap] w (RefIs 0 n p a w) := by
  have HR := Lib.hid (hr.kept ((Upd.refl _ w).alloc (.cells #[.int .i64 2, .int .i64 1, .int .i64 1, .int .i64 2, .int .i64 0, .int .i64 1, .int .i64 3, .int .i64 5, .int .i64 7, .int .i64 8, .int .i64 9, .int .i64 10, .int .i64 11, .int .i64 15] 24)))
  have hL : Blk (w.alloc (.cells #[.int .i64 2, .int .i64 1, .int .i64 1, .int .i64 2, .int .i64 0, .int .i64 1, .int .i64 3, .int .i64 5, .int .i64 7, .int .i64 8, .int .i64 9, .int .i64 10, .int .i64 11, .int .i64 15] 24)) w.heap.size #[.int .i64 2, .int .i64 1, .int .i64 1, .int .i64 2, .int .i64 0, .int .i64 1, .int .i64 3, .int .i64 5, .int .i64 7, .int .i64 8, .int .i64 9, .int .i64 10, .int .i64 11, .int .i64 15] 24 := Blk.new _ _ _
  have HK := Lib.hid ((Upd.refl (fun _ => False) w).alloc (.cells #[.int .i64 2, .int .i64 1, .int .i64 1, .int .i64 2, .int .i64 0, .int .i64 1, .int .i64 3, .int .i64 5, .int .i64 7, .int .i64 8, .int .i64 9, .int .i64 10, .int .i64 11, .int .i64 15] 24))
  have c7 : (w.alloc (.cells #[.int .i64 2, .int .i64 1, .int .i64 1, .int .i64 2, .int .i64 0, .int .i64 1, .int .i64 3, .int .i64 5, .int .i64 7, .int .i64 8, .int .i64 9, .int .i64 10, .int .i64 11, .int .i64 15] 24)).cell? ⟨w.heap.size, 8, none⟩ = some (.int .i64 7) := by rw [hL.cell]; rfl
  have hL := Lib.hid hL
  clear hr
  go_enter Try.func22, Try.ntmps22
  obtain ⟨q, hq⟩ : ∃ q, IntKind.i64.wrap (p + n) = q := ⟨_, rfl⟩
  have HQ : Hid (penK 0 n p = q) := Lib.hid (by rw [← hq]; simp [penK, IntKind.wrap_i64, wrap64])
  go_wp2_with fail
  generalize hw1 : w.alloc (.cells #[.int .i64 2, .int .i64 1, .int .i64 1, .int .i64 2, .int .i64 0, .int .i64 1, .int .i64 3, .int .i64 5, .int .i64 7, .int .i64 8, .int .i64 9, .int .i64 10, .int .i64 11, .int .i64 15] 24) = w1 at HR hL HK c7 ⊢
  go_region_held3 (fun w' => w'.cell? ⟨w.heap.size, 8, none⟩ = some (.int .i64 7))
    (first | exact c7 | exact d7)
    ((first
      | (go_at_call 40; refine (cntLoad7 (HR.out.kept (Upd.refl _ _).drew)).mono ?_; rintro e w2 ⟨rfl, rfl⟩)
      | (go_at_call 39; refine (cntPut7 (HR.out.kept (Upd.refl _ _).drew) (q)).mono ?_; rintro e w3 ⟨g3, cap3, rfl, hR3, hg3, hk3⟩; have HR3 := Lib.hid hR3; have HK3 := Lib.hid (HK.out.drew.trans hk3); have HL3 := Lib.hid (hL.out.kept ((Upd.refl _ _).drew.trans hk3)); have d7 : w3.cell? ⟨w.heap.size, 8, none⟩ = some (.int .i64 7) := (HL3.out.cell 8); clear hR3 hg3 hk3)))
  all_goals
    have HF : Hid (RefIs 0 n p a w (.returned (.tuple #[.slice (some ⟨g3, 0, none⟩) 15 cap3, .bool false])) w3) := Lib.hid ⟨_, _, rfl, by rw [HQ.out]; exact HR3.out, HK3.out⟩
    go_wp2
    go_ret2
    exact HF.out

set_option maxRecDepth 100000 in
set_option maxHeartbeats 4000000 in
theorem refStep_1 (n p a : Int) {w : World} {g cap : Nat} (hr : RB w g cap (cnt p a)) :
    Calls Try.prog 22 #[.int .i64 1, .int .i64 n, .agg #[.int .i64 2, .int .i64 1, .int .i64 1, .int .i64 2, .int .i64 0, .int .i64 1, .int .i64 3, .int .i64 5, .int .i64 7, .int .i64 8, .int .i64 9, .int .i64 10, .int .i64 11, .int .i64 15], .slice (some ⟨g, 0, none⟩) 15 cap] w (RefIs 1 n p a w) := by
  have HR := Lib.hid (hr.kept ((Upd.refl _ w).alloc (.cells #[.int .i64 2, .int .i64 1, .int .i64 1, .int .i64 2, .int .i64 0, .int .i64 1, .int .i64 3, .int .i64 5, .int .i64 7, .int .i64 8, .int .i64 9, .int .i64 10, .int .i64 11, .int .i64 15] 24)))
  have hL : Blk (w.alloc (.cells #[.int .i64 2, .int .i64 1, .int .i64 1, .int .i64 2, .int .i64 0, .int .i64 1, .int .i64 3, .int .i64 5, .int .i64 7, .int .i64 8, .int .i64 9, .int .i64 10, .int .i64 11, .int .i64 15] 24)) w.heap.size #[.int .i64 2, .int .i64 1, .int .i64 1, .int .i64 2, .int .i64 0, .int .i64 1, .int .i64 3, .int .i64 5, .int .i64 7, .int .i64 8, .int .i64 9, .int .i64 10, .int .i64 11, .int .i64 15] 24 := Blk.new _ _ _
  have HK := Lib.hid ((Upd.refl (fun _ => False) w).alloc (.cells #[.int .i64 2, .int .i64 1, .int .i64 1, .int .i64 2, .int .i64 0, .int .i64 1, .int .i64 3, .int .i64 5, .int .i64 7, .int .i64 8, .int .i64 9, .int .i64 10, .int .i64 11, .int .i64 15] 24))
  have c7 : (w.alloc (.cells #[.int .i64 2, .int .i64 1, .int .i64 1, .int .i64 2, .int .i64 0, .int .i64 1, .int .i64 3, .int .i64 5, .int .i64 7, .int .i64 8, .int .i64 9, .int .i64 10, .int .i64 11, .int .i64 15] 24)).cell? ⟨w.heap.size, 8, none⟩ = some (.int .i64 7) := by rw [hL.cell]; rfl
  have hL := Lib.hid hL
  clear hr
  go_enter Try.func22, Try.ntmps22
  obtain ⟨q, hq⟩ : ∃ q, IntKind.i64.wrap (p - 1) = q := ⟨_, rfl⟩
  have HQ : Hid (penK 1 n p = q) := Lib.hid (by rw [← hq]; simp [penK, IntKind.wrap_i64, wrap64]; omega)
  go_wp2_with fail
  generalize hw1 : w.alloc (.cells #[.int .i64 2, .int .i64 1, .int .i64 1, .int .i64 2, .int .i64 0, .int .i64 1, .int .i64 3, .int .i64 5, .int .i64 7, .int .i64 8, .int .i64 9, .int .i64 10, .int .i64 11, .int .i64 15] 24) = w1 at HR hL HK c7 ⊢
  go_region_held3 (fun w' => w'.cell? ⟨w.heap.size, 8, none⟩ = some (.int .i64 7))
    (first | exact c7 | exact d7)
    ((first
      | (go_at_call 40; refine (cntLoad7 (HR.out.kept (Upd.refl _ _).drew)).mono ?_; rintro e w2 ⟨rfl, rfl⟩)
      | (go_at_call 39; refine (cntPut7 (HR.out.kept (Upd.refl _ _).drew) (q)).mono ?_; rintro e w3 ⟨g3, cap3, rfl, hR3, hg3, hk3⟩; have HR3 := Lib.hid hR3; have HK3 := Lib.hid (HK.out.drew.trans hk3); have HL3 := Lib.hid (hL.out.kept ((Upd.refl _ _).drew.trans hk3)); have d7 : w3.cell? ⟨w.heap.size, 8, none⟩ = some (.int .i64 7) := (HL3.out.cell 8); clear hR3 hg3 hk3)))
  all_goals
    have HF : Hid (RefIs 1 n p a w (.returned (.tuple #[.slice (some ⟨g3, 0, none⟩) 15 cap3, .bool (q == 0)])) w3) := Lib.hid ⟨_, _, by rw [show telK 1 n p a = (penK 1 n p == 0) from rfl, HQ.out], by rw [HQ.out]; exact HR3.out, HK3.out⟩
    go_wp2_with fail
    refine (cntLoad7 HR3.out).mono ?_
    rintro e w' ⟨rfl, rfl⟩
    go_wp2
    go_ret2
    exact HF.out

set_option maxRecDepth 100000 in
set_option maxHeartbeats 4000000 in
theorem refStep_2 (n p a : Int) {w : World} {g cap : Nat} (hr : RB w g cap (cnt p a)) :
    Calls Try.prog 22 #[.int .i64 2, .int .i64 n, .agg #[.int .i64 2, .int .i64 1, .int .i64 1, .int .i64 2, .int .i64 0, .int .i64 1, .int .i64 3, .int .i64 5, .int .i64 7, .int .i64 8, .int .i64 9, .int .i64 10, .int .i64 11, .int .i64 15], .slice (some ⟨g, 0, none⟩) 15 cap] w (RefIs 2 n p a w) := by
  have HR := Lib.hid (hr.kept ((Upd.refl _ w).alloc (.cells #[.int .i64 2, .int .i64 1, .int .i64 1, .int .i64 2, .int .i64 0, .int .i64 1, .int .i64 3, .int .i64 5, .int .i64 7, .int .i64 8, .int .i64 9, .int .i64 10, .int .i64 11, .int .i64 15] 24)))
  have hL : Blk (w.alloc (.cells #[.int .i64 2, .int .i64 1, .int .i64 1, .int .i64 2, .int .i64 0, .int .i64 1, .int .i64 3, .int .i64 5, .int .i64 7, .int .i64 8, .int .i64 9, .int .i64 10, .int .i64 11, .int .i64 15] 24)) w.heap.size #[.int .i64 2, .int .i64 1, .int .i64 1, .int .i64 2, .int .i64 0, .int .i64 1, .int .i64 3, .int .i64 5, .int .i64 7, .int .i64 8, .int .i64 9, .int .i64 10, .int .i64 11, .int .i64 15] 24 := Blk.new _ _ _
  have HK := Lib.hid ((Upd.refl (fun _ => False) w).alloc (.cells #[.int .i64 2, .int .i64 1, .int .i64 1, .int .i64 2, .int .i64 0, .int .i64 1, .int .i64 3, .int .i64 5, .int .i64 7, .int .i64 8, .int .i64 9, .int .i64 10, .int .i64 11, .int .i64 15] 24))
  have c7 : (w.alloc (.cells #[.int .i64 2, .int .i64 1, .int .i64 1, .int .i64 2, .int .i64 0, .int .i64 1, .int .i64 3, .int .i64 5, .int .i64 7, .int .i64 8, .int .i64 9, .int .i64 10, .int .i64 11, .int .i64 15] 24)).cell? ⟨w.heap.size, 8, none⟩ = some (.int .i64 7) := by rw [hL.cell]; rfl
  have hL := Lib.hid hL
  clear hr
  go_enter Try.func22, Try.ntmps22
  go_wp2_with fail
  refine (cntLoad7 HR.out).mono ?_
  rintro e w' ⟨rfl, rfl⟩
  go_wp2
  go_ret2
  exact ⟨_, _, rfl, HR.out, HK.out⟩

set_option maxRecDepth 100000 in
set_option maxHeartbeats 4000000 in
theorem refStep_3 (n p a : Int) {w : World} {g cap : Nat} (hr : RB w g cap (cnt p a)) :
    Calls Try.prog 22 #[.int .i64 3, .int .i64 n, .agg #[.int .i64 2, .int .i64 1, .int .i64 1, .int .i64 2, .int .i64 0, .int .i64 1, .int .i64 3, .int .i64 5, .int .i64 7, .int .i64 8, .int .i64 9, .int .i64 10, .int .i64 11, .int .i64 15], .slice (some ⟨g, 0, none⟩) 15 cap] w (RefIs 3 n p a w) := by
  have HR := Lib.hid (hr.kept ((Upd.refl _ w).alloc (.cells #[.int .i64 2, .int .i64 1, .int .i64 1, .int .i64 2, .int .i64 0, .int .i64 1, .int .i64 3, .int .i64 5, .int .i64 7, .int .i64 8, .int .i64 9, .int .i64 10, .int .i64 11, .int .i64 15] 24)))
  have hL : Blk (w.alloc (.cells #[.int .i64 2, .int .i64 1, .int .i64 1, .int .i64 2, .int .i64 0, .int .i64 1, .int .i64 3, .int .i64 5, .int .i64 7, .int .i64 8, .int .i64 9, .int .i64 10, .int .i64 11, .int .i64 15] 24)) w.heap.size #[.int .i64 2, .int .i64 1, .int .i64 1, .int .i64 2, .int .i64 0, .int .i64 1, .int .i64 3, .int .i64 5, .int .i64 7, .int .i64 8, .int .i64 9, .int .i64 10, .int .i64 11, .int .i64 15] 24 := Blk.new _ _ _
  have HK := Lib.hid ((Upd.refl (fun _ => False) w).alloc (.cells #[.int .i64 2, .int .i64 1, .int .i64 1, .int .i64 2, .int .i64 0, .int .i64 1, .int .i64 3, .int .i64 5, .int .i64 7, .int .i64 8, .int .i64 9, .int .i64 10, .int .i64 11, .int .i64 15] 24))
  have c7 : (w.alloc (.cells #[.int .i64 2, .int .i64 1, .int .i64 1, .int .i64 2, .int .i64 0, .int .i64 1, .int .i64 3, .int .i64 5, .int .i64 7, .int .i64 8, .int .i64 9, .int .i64 10, .int .i64 11, .int .i64 15] 24)).cell? ⟨w.heap.size, 8, none⟩ = some (.int .i64 7) := by rw [hL.cell]; rfl
  have hL := Lib.hid hL
  clear hr
  go_enter Try.func22, Try.ntmps22
  have c8 : (w.alloc (.cells #[.int .i64 2, .int .i64 1, .int .i64 1, .int .i64 2, .int .i64 0, .int .i64 1, .int .i64 3, .int .i64 5, .int .i64 7, .int .i64 8, .int .i64 9, .int .i64 10, .int .i64 11, .int .i64 15] 24)).cell? ⟨w.heap.size, 9, none⟩ = some (.int .i64 8) := by rw [hL.out.cell]; rfl
  go_wp2_with fail
  refine (cntPut8 HR.out 1).mono ?_
  rintro e w3 ⟨g3, cap3, rfl, hR3, hg3, hk3⟩
  have HR3 := Lib.hid hR3
  have HK3 := Lib.hid (HK.out.trans hk3)
  clear hR3 hg3 hk3
  go_wp2
  go_ret2
  exact ⟨_, _, rfl, HR3.out, HK3.out⟩

set_option maxRecDepth 100000 in
set_option maxHeartbeats 4000000 in
theorem refStep_4 (n p a : Int) {w : World} {g cap : Nat} (hr : RB w g cap (cnt p a)) :
    Calls Try.prog 22 #[.int .i64 4, .int .i64 n, .agg #[.int .i64 2, .int .i64 1, .int .i64 1, .int .i64 2, .int .i64 0, .int .i64 1, .int .i64 3, .int .i64 5, .int .i64 7, .int .i64 8, .int .i64 9, .int .i64 10, .int .i64 11, .int .i64 15], .slice (some ⟨g, 0, none⟩) 15 cap] w (RefIs 4 n p a w) := by
  have HR := Lib.hid (hr.kept ((Upd.refl _ w).alloc (.cells #[.int .i64 2, .int .i64 1, .int .i64 1, .int .i64 2, .int .i64 0, .int .i64 1, .int .i64 3, .int .i64 5, .int .i64 7, .int .i64 8, .int .i64 9, .int .i64 10, .int .i64 11, .int .i64 15] 24)))
  have hL : Blk (w.alloc (.cells #[.int .i64 2, .int .i64 1, .int .i64 1, .int .i64 2, .int .i64 0, .int .i64 1, .int .i64 3, .int .i64 5, .int .i64 7, .int .i64 8, .int .i64 9, .int .i64 10, .int .i64 11, .int .i64 15] 24)) w.heap.size #[.int .i64 2, .int .i64 1, .int .i64 1, .int .i64 2, .int .i64 0, .int .i64 1, .int .i64 3, .int .i64 5, .int .i64 7, .int .i64 8, .int .i64 9, .int .i64 10, .int .i64 11, .int .i64 15] 24 := Blk.new _ _ _
  have HK := Lib.hid ((Upd.refl (fun _ => False) w).alloc (.cells #[.int .i64 2, .int .i64 1, .int .i64 1, .int .i64 2, .int .i64 0, .int .i64 1, .int .i64 3, .int .i64 5, .int .i64 7, .int .i64 8, .int .i64 9, .int .i64 10, .int .i64 11, .int .i64 15] 24))
  have c7 : (w.alloc (.cells #[.int .i64 2, .int .i64 1, .int .i64 1, .int .i64 2, .int .i64 0, .int .i64 1, .int .i64 3, .int .i64 5, .int .i64 7, .int .i64 8, .int .i64 9, .int .i64 10, .int .i64 11, .int .i64 15] 24)).cell? ⟨w.heap.size, 8, none⟩ = some (.int .i64 7) := by rw [hL.cell]; rfl
  have hL := Lib.hid hL
  clear hr
  go_enter Try.func22, Try.ntmps22
  have c8 : (w.alloc (.cells #[.int .i64 2, .int .i64 1, .int .i64 1, .int .i64 2, .int .i64 0, .int .i64 1, .int .i64 3, .int .i64 5, .int .i64 7, .int .i64 8, .int .i64 9, .int .i64 10, .int .i64 11, .int .i64 15] 24)).cell? ⟨w.heap.size, 9, none⟩ = some (.int .i64 8) := by rw [hL.out.cell]; rfl
  go_wp2_with fail
  refine (cntLoad8 HR.out).mono ?_
  rintro e w' ⟨rfl, rfl⟩
  go_wp2
  go_ret2
  exact ⟨_, _, rfl, HR.out, HK.out⟩

theorem refStep_any (k : Int) (hk0 : 0 ≤ k) (hk1 : k < 5) (n p a : Int) {w : World} {g cap : Nat} (hr : RB w g cap (cnt p a)) :
    Calls Try.prog 22 #[.int .i64 k, .int .i64 n, .agg #[.int .i64 2, .int .i64 1, .int .i64 1, .int .i64 2, .int .i64 0, .int .i64 1, .int .i64 3, .int .i64 5, .int .i64 7, .int .i64 8, .int .i64 9, .int .i64 10, .int .i64 11, .int .i64 15], .slice (some ⟨g, 0, none⟩) 15 cap] w (RefIs k n p a w) := by
  have h : k = 0 ∨ k = 1 ∨ k = 2 ∨ k = 3 ∨ k = 4 := by omega
  rcases h with rfl | rfl | rfl | rfl | rfl
  · exact refStep_0 n p a hr
  · exact refStep_1 n p a hr
  · exact refStep_2 n p a hr
  · exact refStep_3 n p a hr
  · exact refStep_4 n p a hr
end Go.Proofs.Ytccjgbmbggbmgaa
