/- The chapter's examples: awake answers true. -/
import Derived.Test.YtnffnpolkkgnhaaPlan
import Derived.Test.YtnffnpolkkgnhaaTop
import Derived.Test.YtnffnpolkkgnhaaBank2
namespace Go.Proofs.Ytnffnpolkkgnhaa
set_option linter.unusedVariables false
open Go.RowKit

theorem plan342 : planOf 3 4 2 = ⟨3, 4, 2, 4, 0, 4, 7, 10, 13, 14, 15, 16, 17, 29⟩ := by decide

set_option maxHeartbeats 1000000 in
theorem awake_any (w : World) :
    Calls Try.prog 11 #[] w fun e w' => e = .returned (.bool true) ∧ Kept w w' := by
  go_enter Try.func11, Try.ntmps11
  go_wp2_with fail
  refine (Plan_ok 3 4 2 _ (by unfold May; omega)).mono ?_
  rw [plan342]
  rintro e w1 ⟨rfl, hk1⟩
  simp only [Lay.val, Lay.vals]
  go_wp2_with fail
  refine (New_ok 29 _ (by omega)).mono ?_
  rintro e w2 ⟨bb, g, rfl, hB, hbb, hg, hk2⟩
  have hL := Lib.hid ((Blk.new w1 (⟨3, 4, 2, 4, 0, 4, 7, 10, 13, 14, 15, 16, 17, 29⟩ : Lay).vals 24).kept hk2)
  have HK2 := Lib.hid (((hk1.alloc _).trans hk2))
  have HB := Lib.hid hB
  have c2 := hL.out.cell
  simp only [Lay.vals] at c2
  have hg' : w.heap.size ≤ g := by have := hk1.size; simp at hg; omega
  clear hB hk1 hk2 hbb hg
  go_wp2_with fail
  refine (Top_any ⟨3, 4, 2, 4, 0, 4, 7, 10, 13, 14, 15, 16, 17, 29⟩ 1 _ (by decide) (by decide) (by decide) (by decide) (by decide +kernel) (by decide +kernel)).mono ?_
  rintro e w3 ⟨rfl, hk3⟩
  have hL3 := Lib.hid (hL.out.kept hk3)
  have HK3 := Lib.hid (HK2.out.trans hk3)
  have HB3 := Lib.hid (HB.out.kept hk3)
  have c3 := hL3.out.cell
  simp only [Lay.vals] at c3
  clear hL HK2 HB c2 hk3
  go_wp2_with fail
  refine (Bottom_any ⟨3, 4, 2, 4, 0, 4, 7, 10, 13, 14, 15, 16, 17, 29⟩ 1 _ (by decide) (by decide) (by decide) (by decide) (by decide +kernel) (by decide +kernel)).mono ?_
  rintro e w4 ⟨rfl, hk4⟩
  have hL4 := Lib.hid (hL3.out.kept hk4)
  have HK4 := Lib.hid (HK3.out.trans hk4)
  have HB4 := Lib.hid (HB3.out.kept hk4)
  have c4 := hL4.out.cell
  simp only [Lay.vals] at c4
  clear hL3 HK3 HB3 c3 hk4
  go_wp2_with fail
  refine (Slot_any ⟨3, 4, 2, 4, 0, 4, 7, 10, 13, 14, 15, 16, 17, 29⟩ 1 2 6 _ (by decide) (by decide) (by decide) (by decide) (by decide) (by decide +kernel) (by decide +kernel)).mono ?_
  rintro e w5 ⟨rfl, hk5⟩
  have HK5 := Lib.hid (HK4.out.trans hk5)
  have HB5 := Lib.hid (HB4.out.kept hk5)
  clear hL4 HK4 HB4 c4 hk5
  go_wp2_with fail
  refine (Store_is HB5.out 2 5 (List.replicate 2 0 ++ 5 :: List.replicate 26 0) (by decide +kernel)).mono ?_
  rintro e w6 ⟨rfl, hB6, hU6⟩
  have HB6 := Lib.hid hB6
  have HK6 := Lib.hid (HK5.out.then hU6 (fun i h e => by omega))
  clear hB6 hU6 HB5 HK5
  go_wp2_with fail
  refine (Add_is HB6.out 2 (-7) (-2) (List.replicate 2 0 ++ (-2) :: List.replicate 26 0) (by decide +kernel) (by decide +kernel)).mono ?_
  rintro e w7 ⟨rfl, hB7, hU7⟩
  have HB7 := Lib.hid hB7
  have HK7 := Lib.hid (HK6.out.then hU7 (fun i h e => by omega))
  clear hB7 hU7 HB6 HK6
  go_wp2_with fail
  refine (CAS_is HB7.out 2 (-2) 9 true (List.replicate 2 0 ++ 9 :: List.replicate 26 0) (by decide +kernel) (by decide +kernel)).mono ?_
  rintro e w8 ⟨rfl, hB8, hU8⟩
  have HB8 := Lib.hid hB8
  have HK8 := Lib.hid (HK7.out.then hU8 (fun i h e => by omega))
  clear hB8 hU8 HB7 HK7
  go_wp2_with fail
  refine (CAS_is HB8.out 2 (-2) 1 false (List.replicate 2 0 ++ 9 :: List.replicate 26 0) (by decide +kernel) (by decide +kernel)).mono ?_
  rintro e w9 ⟨rfl, hB9, hU9⟩
  have HB9 := Lib.hid hB9
  have HK9 := Lib.hid (HK8.out.then hU9 (fun i h e => by omega))
  clear hB9 hU9 HB8 HK8
  go_wp2_with fail
  refine (Load_is HB9.out 2 9 (by decide +kernel)).mono ?_
  rintro e w10 ⟨rfl, rfl⟩
  go_wp2_with fail
  refine (Len_bank HB9.out).mono ?_
  rintro e w10 ⟨rfl, rfl⟩
  have e29 : (((List.replicate 2 0 ++ 9 :: List.replicate 26 0 : List Int).length : Nat) : Int) = 29 := by decide
  rw [e29]
  go_wp2
  go_ret
  exact ⟨rfl, HK9.out⟩
end Go.Proofs.Ytnffnpolkkgnhaa
