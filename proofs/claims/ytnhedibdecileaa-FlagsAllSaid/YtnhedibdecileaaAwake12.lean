/- The chapter's examples (layer 12): awake answers true. -/
import Derived.Test.YtnhedibdecileaaClaims
namespace Go.Proofs.Ytnhedibdecileaa
set_option linter.unusedVariables false
open Go.RowKit

set_option maxRecDepth 100000 in
set_option maxHeartbeats 1000000 in
theorem awake_any (w : World) :
    Calls Try.prog 12 #[] w fun e w' => e = .returned (.bool true) ∧ Kept w w' := by
  have hp : planOf 4 3 2 = ⟨4, 3, 2, 4, 0, 3, 7, 11, 15, 16, 17, 18, 19, 31⟩ := by decide
  have HP := fun w => Lib.hid (bank_any 4 _ 31 w (by unfold May; omega) hp rfl (by omega))
  clear hp
  go_enter Try.func12, Try.ntmps12
  go_wp2_with fail
  refine (HP _).out.mono ?_
  rintro e w1 ⟨bb, g, rfl, hB, hbb, hg, hk⟩
  have HB := Lib.hid hB
  have HK := Lib.hid hk
  clear hB hk
  simp only [Lay.val, Lay.vals]
  go_wp2_with fail
  refine (claims_any ⟨4, 3, 2, 4, 0, 3, 7, 11, 15, 16, 17, 18, 19, 31⟩ bb g 2 true (List.replicate 31 0) (List.replicate 13 0 ++ 1 :: List.replicate 17 0) _ (HB.out.kept ((Upd.refl _ _).alloc _)) (by decide) (by decide) (by decide) (by decide) (by decide) (by decide +kernel) (by decide +kernel)).mono ?_
  rintro e w2 ⟨rfl, hB, hU⟩
  have hL : Blk (w1.alloc (.cells (⟨4, 3, 2, 4, 0, 3, 7, 11, 15, 16, 17, 18, 19, 31⟩ : Lay).vals 25)) w1.heap.size (⟨4, 3, 2, 4, 0, 3, 7, 11, 15, 16, 17, 18, 19, 31⟩ : Lay).vals 25 := Blk.new _ _ _
  have hlg : ¬ w1.heap.size = g := fun e => by have := HB.out.row.lt; omega
  have HL2 := Lib.hid (hL.upd hU hlg)
  have HB2 := Lib.hid hB
  have HK2 := Lib.hid ((HK.out.alloc (.cells (⟨4, 3, 2, 4, 0, 3, 7, 11, 15, 16, 17, 18, 19, 31⟩ : Lay).vals 25)).then hU (fun i h e => by omega))
  have cl2 := HL2.out.cell
  simp only [Lay.vals] at cl2
  clear hL hB hU HB HK
  go_wp2_with fail
  refine (claims_any ⟨4, 3, 2, 4, 0, 3, 7, 11, 15, 16, 17, 18, 19, 31⟩ bb g 2 false (List.replicate 13 0 ++ 1 :: List.replicate 17 0) (List.replicate 13 0 ++ 1 :: List.replicate 17 0) _ HB2.out (by decide) (by decide) (by decide) (by decide) (by decide) (by decide +kernel) (by decide +kernel)).mono ?_
  rintro e w3 ⟨rfl, hB, hU⟩
  have HL3 := Lib.hid (HL2.out.upd hU hlg)
  have HB3 := Lib.hid hB
  have HK3 := Lib.hid (HK2.out.then hU (fun i h e => by omega))
  have cl3 := HL3.out.cell
  simp only [Lay.vals] at cl3
  clear hB hU HB2 HK2 HL2 cl2
  go_wp2_with fail
  refine (Held_any ⟨4, 3, 2, 4, 0, 3, 7, 11, 15, 16, 17, 18, 19, 31⟩ bb g (List.replicate 13 0 ++ 1 :: List.replicate 17 0) 4 _ HB3.out rfl (by decide) (by decide) (by decide)).mono ?_
  rintro e w4 ⟨v, rfl, hO, hk⟩
  rw [show heldOf (List.replicate 13 0 ++ 1 :: List.replicate 17 0) 11 4 = [2] from by decide +kernel] at hO
  obtain ⟨a, c, rfl, hR⟩ := Rd.owns hO
  have HL4 := Lib.hid (HL3.out.kept hk)
  have HB4 := Lib.hid (HB3.out.kept hk)
  have HK4 := Lib.hid (HK3.out.trans hk)
  have HR4 := Lib.hid hR
  clear hO hR hk HL3 HB3 HK3 cl3
  go_wp2_with fail
  refine (ints_same a _ c _ [2] [2] _ (HR4.out.kept ((Upd.refl _ _).alloc _)) (Rd.blk (Blk.new _ _ _)) (by decide) (by decide)).mono ?_
  rintro e w5 ⟨rfl, hk⟩
  have HL5 := Lib.hid ((HL4.out.alloc _).kept hk)
  have HB5 := Lib.hid ((HB4.out.kept ((Upd.refl _ _).alloc _)).kept hk)
  have HK5 := Lib.hid ((HK4.out.alloc _).trans hk)
  have cl5 := HL5.out.cell
  simp only [Lay.vals] at cl5
  have hd : decide (([2] : List Int) = [2]) = true := by decide
  rw [hd]
  clear hk HL4 HB4 HK4 HR4 hd
  go_wp2_with fail
  refine (NewFree_any ⟨4, 3, 2, 4, 0, 3, 7, 11, 15, 16, 17, 18, 19, 31⟩ 2 _ (by decide) (by decide) (by decide) (by decide)).mono ?_
  rintro e w6 ⟨rfl, hk⟩
  have HL6 := Lib.hid (HL5.out.kept hk)
  have HB6 := Lib.hid (HB5.out.kept hk)
  have HK6 := Lib.hid (HK5.out.trans hk)
  clear hk HL5 HB5 HK5 cl5
  go_wp2_with fail
  refine (Free_step _ bb g 13 (List.replicate 13 0 ++ 1 :: List.replicate 17 0) (List.replicate 31 0) _ (Blk.new _ _ _) (HB6.out.kept ((Upd.refl _ _).alloc _)) (by decide +kernel)).mono ?_
  rintro e w7 ⟨rfl, hC, hB, hU⟩
  have h6 : w1.heap.size < w6.heap.size := HL6.out.lt
  have hs6 := HK6.out.size
  have HL7 := Lib.hid ((HL6.out.alloc _).upd hU (fun e => by rcases e with e | e; exact hlg e; omega))
  have HB7 := Lib.hid hB
  have HK7 := Lib.hid ((HK6.out.alloc _).then hU (fun i h e => by rcases e with e | e <;> omega))
  have cl7 := HL7.out.cell
  simp only [Lay.vals] at cl7
  clear hC hB hU HL6 HB6 HK6
  go_wp2_with fail
  refine (claims_any ⟨4, 3, 2, 4, 0, 3, 7, 11, 15, 16, 17, 18, 19, 31⟩ bb g 2 true (List.replicate 31 0) (List.replicate 13 0 ++ 1 :: List.replicate 17 0) _ HB7.out (by decide) (by decide) (by decide) (by decide) (by decide) (by decide +kernel) (by decide +kernel)).mono ?_
  rintro e w8 ⟨rfl, hB, hU⟩
  have HK8 := Lib.hid (HK7.out.then hU (fun i h e => by omega))
  clear hB hU HL7 HB7 HK7 cl7
  go_wp2
  go_ret
  exact ⟨rfl, HK8.out⟩
end Go.Proofs.Ytnhedibdecileaa
