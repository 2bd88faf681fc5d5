/- The chapter's examples (layer 13): awake answers true. -/
import Derived.Test.YtccjgbmbggbmgaaCountBank
namespace Go.Proofs.Ytccjgbmbggbmgaa
set_option linter.unusedVariables false
open Go.RowKit

set_option maxRecDepth 100000 in
set_option maxHeartbeats 2000000 in
theorem awake_any (w : World) :
    Calls Try.prog 13 #[] w fun e w' => e = .returned (.bool true) ∧ Kept w w' := by
  have HP := fun w => Lib.hid (bank_any w)
  go_enter Try.func13, Try.ntmps13
  go_wp2_with fail
  refine (HP _).out.mono ?_
  rintro e w0 ⟨bb, g, rfl, hB, hbb, hg, hk⟩
  have HB0 := Lib.hid (hB.kept ((Upd.refl _ _).alloc (.cells lv 24)))
  have HL0 : Hid (LBox (w0.alloc (.cells lv 24)) w0.heap.size) := Lib.hid (Blk.new _ _ _)
  have HK0 := Lib.hid ((hk.wide (fun _ _ f => f.elim) : Upd (fun k => k = g) w w0).alloc (.cells lv 24))
  have lgg := hB.row.lt
  have lbb := hB.head.lt
  have hs0 := hk.size
  generalize hpb : w0.heap.size = pb at *
  simp only [lv] at HB0 HL0 HK0 ⊢
  clear hB hk
  have cl0 := HL0.out.cell
  go_wp2_with fail
  refine (NewUp_any 2 _).mono ?_
  rintro e w1 ⟨lb0, nb0, rfl, hl, hn, h1, h2, hk⟩
  have HL1 := Lib.hid (show LBox _ _ from (Blk.kept HL0.out hk).alloc (.cells #[.func (.func 44) #[] #[.pointer (some ⟨lb0, 0, none⟩), .pointer (some ⟨nb0, 0, none⟩)], .bool false, .bool false] 32))
  have HB1 := Lib.hid ((HB0.out.kept hk).kept ((Upd.refl _ _).alloc (.cells #[.func (.func 44) #[] #[.pointer (some ⟨lb0, 0, none⟩), .pointer (some ⟨nb0, 0, none⟩)], .bool false, .bool false] 32)))
  have HK1 := Lib.hid ((HK0.out.trans (hk.wide (fun _ _ f => f.elim))).alloc (.cells #[.func (.func 44) #[] #[.pointer (some ⟨lb0, 0, none⟩), .pointer (some ⟨nb0, 0, none⟩)], .bool false, .bool false] 32))
  have hmx1 := HL1.out.lt
  have lg1 := (HB0.out.kept hk).row.lt
  have lb1 := (HB0.out.kept hk).head.lt
  have hp1 := (Blk.kept HL0.out hk).lt
  have hs1 := (HK0.out.trans (hk.wide (fun _ _ f => f.elim))).size
  go_wp2_with fail
  refine (Up_step (step_add (Blk.newAt w1 _ _ _ rfl) ⟨by omega, by omega⟩ (addIt HB1.out rfl (Blk.alloc hl _) _ (hn.alloc _) 2 (by decide +kernel)))).mono ?_
  rintro e w2 ⟨rfl, hS⟩
  have HL2 := Lib.hid (show LBox _ _ from Blk.upd HL1.out hS.upd (fun e => by omega))
  have HB2 : Hid (Bnk w2 bb g (cnt 2 0)) := Lib.hid hS.bank
  have HK2 := Lib.hid (HK1.out.then hS.upd (fun i hi e => by omega))
  clear hS hk HB0 HL0 HK0 HB1 HL1 HK1 cl0
  have cl2 := HL2.out.cell
  go_wp2_with fail
  refine (last_any (z := false) (ys := cnt 1 0) HB2.out rfl (by decide +kernel) (by decide +kernel)).mono ?_
  rintro e w3 ⟨rfl, hB, hU⟩
  have HL3 := Lib.hid (show LBox _ _ from Blk.upd HL2.out hU (fun e => by omega))
  have HB3 := Lib.hid hB
  have HK3 := Lib.hid (HK2.out.trans hU)
  clear hB hU HB2 HL2 HK2 cl2
  have cl3 := HL3.out.cell
  go_wp2_with fail
  refine (zero_any (z := false) (ys := cnt 1 0) HB3.out rfl (by decide +kernel) (by decide +kernel)).mono ?_
  rintro e w4 ⟨rfl, hB, hU⟩
  have HL4 := Lib.hid (show LBox _ _ from Blk.upd HL3.out hU (fun e => by omega))
  have HB4 := Lib.hid hB
  have HK4 := Lib.hid (HK3.out.trans hU)
  clear hB hU HB3 HL3 HK3 cl3
  have cl4 := HL4.out.cell
  go_wp2_with fail
  refine (last_any (z := true) (ys := cnt 0 0) HB4.out rfl (by decide +kernel) (by decide +kernel)).mono ?_
  rintro e w5 ⟨rfl, hB, hU⟩
  have HL5 := Lib.hid (show LBox _ _ from Blk.upd HL4.out hU (fun e => by omega))
  have HB5 := Lib.hid hB
  have HK5 := Lib.hid (HK4.out.trans hU)
  clear hB hU HB4 HL4 HK4 cl4
  have cl5 := HL5.out.cell
  go_wp2_with fail
  refine (zero_any (z := true) (ys := cnt 0 0) HB5.out rfl (by decide +kernel) (by decide +kernel)).mono ?_
  rintro e w6 ⟨rfl, hB, hU⟩
  have HL6 := Lib.hid (show LBox _ _ from Blk.upd HL5.out hU (fun e => by omega))
  have HB6 := Lib.hid hB
  have HK6 := Lib.hid (HK5.out.trans hU)
  clear hB hU HB5 HL5 HK5 cl5
  have cl6 := HL6.out.cell
  go_wp2_with fail
  refine (asked_any (z := false) (ys := cnt 0 0) HB6.out rfl (by decide +kernel) (by decide +kernel)).mono ?_
  rintro e w7 ⟨rfl, hB, hU⟩
  have HL7 := Lib.hid (show LBox _ _ from Blk.upd HL6.out hU (fun e => by omega))
  have HB7 := Lib.hid hB
  have HK7 := Lib.hid (HK6.out.trans hU)
  clear hB hU HB6 HL6 HK6 cl6
  have cl7 := HL7.out.cell
  go_wp2_with fail
  refine (NewAsk_any _).mono ?_
  rintro e w8 ⟨lb1, rfl, hl, h1, hk⟩
  have HL8 := Lib.hid (show LBox _ _ from (Blk.kept HL7.out hk).alloc (.cells #[.func (.func 37) #[] #[.pointer (some ⟨lb1, 0, none⟩)], .bool false, .bool false] 44))
  have HB8 := Lib.hid ((HB7.out.kept hk).kept ((Upd.refl _ _).alloc (.cells #[.func (.func 37) #[] #[.pointer (some ⟨lb1, 0, none⟩)], .bool false, .bool false] 44)))
  have HK8 := Lib.hid ((HK7.out.trans (hk.wide (fun _ _ f => f.elim))).alloc (.cells #[.func (.func 37) #[] #[.pointer (some ⟨lb1, 0, none⟩)], .bool false, .bool false] 44))
  have hmx8 := HL8.out.lt
  have lg8 := (HB7.out.kept hk).row.lt
  have lb8 := (HB7.out.kept hk).head.lt
  have hp8 := (Blk.kept HL7.out hk).lt
  have hs8 := (HK7.out.trans (hk.wide (fun _ _ f => f.elim))).size
  go_wp2_with fail
  refine (Ask_step (step_ask (Blk.newAt w8 _ _ _ rfl) ⟨by omega, by omega⟩ (askIt HB8.out (Blk.alloc hl _)))).mono ?_
  rintro e w9 ⟨rfl, hS⟩
  have HL9 := Lib.hid (show LBox _ _ from Blk.upd HL8.out hS.upd (fun e => by omega))
  have HB9 : Hid (Bnk w9 bb g (cnt 0 1)) := Lib.hid hS.bank
  have HK9 := Lib.hid (HK8.out.then hS.upd (fun i hi e => by omega))
  clear hS hk HB7 HL7 HK7 HB8 HL8 HK8 cl7
  have cl9 := HL9.out.cell
  go_wp2_with fail
  refine (asked_any (z := true) (ys := cnt 0 1) HB9.out rfl (by decide +kernel) (by decide +kernel)).mono ?_
  rintro e w10 ⟨rfl, hB, hU⟩
  have HL10 := Lib.hid (show LBox _ _ from Blk.upd HL9.out hU (fun e => by omega))
  have HB10 := Lib.hid hB
  have HK10 := Lib.hid (HK9.out.trans hU)
  clear hB hU HB9 HL9 HK9 cl9
  go_wp2
  go_ret
  exact ⟨rfl, HK10.out.wide (fun i hi e => by omega)⟩
end Go.Proofs.Ytccjgbmbggbmgaa
