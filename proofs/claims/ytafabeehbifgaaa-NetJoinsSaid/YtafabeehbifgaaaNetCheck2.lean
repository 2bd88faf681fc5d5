/- net.rules, net.Check. -/
import Derived.Test.YtafabeehbifgaaaNetCheck
import Derived.Laws.EntriesVeiled
namespace Go.Proofs.Ytafabeehbifgaaa
set_option linter.unusedVariables false
open Go.RowKit

theorem Blk.set12 {w : World} {b : Nat} {T : TypeId} {z0 z1 z2 z3 z4 z5 z6 z7 z8 z9 z10 z11 : Value} (h : Blk w b #[z0, z1, z2, z3, z4, z5, z6, z7, z8, z9, z10, z11] T) (a0 a1 a2 a3 a4 a5 a6 a7 a8 a9 a10 a11 : Value) :
    Blk ((((((((((((w.setCell ⟨b, 0, none⟩ a0).setCell ⟨b, 1, none⟩ a1).setCell ⟨b, 2, none⟩ a2).setCell ⟨b, 3, none⟩ a3).setCell ⟨b, 4, none⟩ a4).setCell ⟨b, 5, none⟩ a5).setCell ⟨b, 6, none⟩ a6).setCell ⟨b, 7, none⟩ a7).setCell ⟨b, 8, none⟩ a8).setCell ⟨b, 9, none⟩ a9).setCell ⟨b, 10, none⟩ a10).setCell ⟨b, 11, none⟩ a11) b #[a0, a1, a2, a3, a4, a5, a6, a7, a8, a9, a10, a11] T := by
  have := ((((((((((((h.set 0 a0).set 1 a1).set 2 a2).set 3 a3).set 4 a4).set 5 a5).set 6 a6).set 7 a7).set 8 a8).set 9 a9).set 10 a10).set 11 a11)
  simpa using this
theorem upd_set12 (w : World) (b : Nat) (a0 a1 a2 a3 a4 a5 a6 a7 a8 a9 a10 a11 : Value) : Upd (fun k => k = b) w ((((((((((((w.setCell ⟨b, 0, none⟩ a0).setCell ⟨b, 1, none⟩ a1).setCell ⟨b, 2, none⟩ a2).setCell ⟨b, 3, none⟩ a3).setCell ⟨b, 4, none⟩ a4).setCell ⟨b, 5, none⟩ a5).setCell ⟨b, 6, none⟩ a6).setCell ⟨b, 7, none⟩ a7).setCell ⟨b, 8, none⟩ a8).setCell ⟨b, 9, none⟩ a9).setCell ⟨b, 10, none⟩ a10).setCell ⟨b, 11, none⟩ a11) := by
  iterate 12 refine Upd.setCell (S := fun k => k = b) ?_ (.inl rfl) _
  exact Upd.refl _ _
theorem Blk.put12 {w : World} {b : Nat} {T : TypeId} {z0 z1 z2 z3 z4 z5 z6 z7 z8 z9 z10 z11 : Value} (h : Blk w b #[z0, z1, z2, z3, z4, z5, z6, z7, z8, z9, z10, z11] T) (a0 a1 a2 a3 a4 a5 a6 a7 a8 a9 a10 a11 : Value) :
    ∃ w3, w3 = ((((((((((((w.setCell ⟨b, 0, none⟩ a0).setCell ⟨b, 1, none⟩ a1).setCell ⟨b, 2, none⟩ a2).setCell ⟨b, 3, none⟩ a3).setCell ⟨b, 4, none⟩ a4).setCell ⟨b, 5, none⟩ a5).setCell ⟨b, 6, none⟩ a6).setCell ⟨b, 7, none⟩ a7).setCell ⟨b, 8, none⟩ a8).setCell ⟨b, 9, none⟩ a9).setCell ⟨b, 10, none⟩ a10).setCell ⟨b, 11, none⟩ a11) ∧ Blk w3 b #[a0, a1, a2, a3, a4, a5, a6, a7, a8, a9, a10, a11] T ∧ Upd (fun k => k = b) w w3 :=
  ⟨_, rfl, h.set12 a0 a1 a2 a3 a4 a5 a6 a7 a8 a9 a10 a11, upd_set12 w b a0 a1 a2 a3 a4 a5 a6 a7 a8 a9 a10 a11⟩
def fnV (k : FuncId) : Value := .func (.func k) #[] #[]
def rulesV (b1 b2 : Nat) : Value := .agg #[.func (.func 23) #[] #[], .int .i64 10, .func (.func 24) #[] #[], .int .i64 11, .func (.func 25) #[] #[], .int .i64 12,
  .func (.func 31) #[] #[.pointer (some ⟨b1, 0, none⟩)], .int .i64 13, .func (.func 31) #[] #[.pointer (some ⟨b2, 0, none⟩)], .int .i64 14, .func (.func 30) #[] #[], .int .i64 15]
def RulesAt (w : World) (e : Ending) (w' : World) : Prop := ∃ b1 b2, e = .returned (rulesV b1 b2) ∧ Blk w' b1 #[soV true] 56 ∧ Blk w' b2 #[soV false] 56 ∧ Kept w w'
theorem ofMade (q : Bool) (w : World) : Calls Try.prog 27 #[soV q] w fun e w' => ∃ b, e = .returned (.func (.func 31) #[] #[.pointer (some ⟨b, 0, none⟩)]) ∧ Blk w' b #[soV q] 56 ∧ Kept w w' ∧ w.heap.size ≤ b := by
  unfold soV
  generalize (if q = true then 28 else 29) = fq
  go_enter Try.func27, Try.ntmps27
  go_wp2_with fail
  go_ret
  exact ⟨_, rfl, Blk.new _ _ _, (Upd.refl _ _).alloc _, by simp⟩
theorem rules_any (w : World) : Calls Try.prog 21 #[] w (RulesAt w) := by
  have H1 := fun w => Lib.hid (ofMade true w)
  have H2 := fun w => Lib.hid (ofMade false w)
  unfold soV at H1 H2
  simp only [Bool.false_eq_true, if_false, if_true] at H1 H2
  go_enter Try.func21, Try.ntmps21
  go_wp2_with fail
  refine (H1 _).out.mono ?_
  rintro e w1 ⟨b1, rfl, hb1, hk1, hn1⟩
  have HB0 := Lib.hid ((Blk.new _ _ _).kept hk1)
  have HK1 := Lib.hid (((Upd.refl _ _).alloc _).trans hk1)
  have HB1 := Lib.hid hb1
  have hlt1 : w.heap.size < w1.heap.size := by have := hk1.size; simp at this; omega
  clear hk1 hb1
  go_wp2_with fail
  refine (H2 _).out.mono ?_
  rintro e w2 ⟨b2, rfl, hb2, hk2, hn2⟩
  have HB1' := Lib.hid (HB1.out.kept hk2)
  have HB2 := Lib.hid hb2
  have HB0' := Lib.hid (HB0.out.kept hk2)
  have HK2 := Lib.hid (HK1.out.trans hk2)
  have hB := HB0'.out.cell
  have hF := HB0'.out.free
  simp at hn1
  have hne1 : ¬ b1 = w.heap.size := by omega
  have hne2 : ¬ b2 = w.heap.size := by omega
  clear HB1 hb2 HB0 HK1 hk2
  go_wp2
  obtain ⟨w3, hw3, hB3, hU3⟩ := HB0'.out.put12 (.func (.func 23) #[] #[]) (.int .i64 10) (.func (.func 24) #[] #[]) (.int .i64 11) (.func (.func 25) #[] #[]) (.int .i64 12) (.func (.func 31) #[] #[.pointer (some ⟨b1, 0, none⟩)]) (.int .i64 13) (.func (.func 31) #[] #[.pointer (some ⟨b2, 0, none⟩)]) (.int .i64 14) (.func (.func 30) #[] #[]) (.int .i64 15)
  rw [← hw3]
  have hc := hB3.cell
  clear hw3 hB hF
  refine bodyPost_ret (v := rulesV b1 b2) ?_ rfl ?_
  · simp [results, Try.results21, go_sem, rulesV, hc]
  · refine ⟨b1, b2, rfl, HB1'.out.upd hU3 hne1, HB2.out.upd hU3 hne2, HK2.out.then hU3 ?_⟩
    intro i hi he
    omega
theorem ruleAt0 (b1 b2 : Nat) (w : World) : (Instr.index 50 (.agg #[.func (.func 23) #[] #[], .int .i64 10, .func (.func 24) #[] #[], .int .i64 11, .func (.func 25) #[] #[], .int .i64 12, .func (.func 31) #[] #[.pointer (some ⟨b1, 0, none⟩)], .int .i64 13, .func (.func 31) #[] #[.pointer (some ⟨b2, 0, none⟩)], .int .i64 14, .func (.func 30) #[] #[], .int .i64 15]) (.int .i64 0)).run Try.prog w = .ok (.agg #[.func (.func 23) #[] #[], .int .i64 10]) w := by kernel_rfl
theorem ruleAt1 (b1 b2 : Nat) (w : World) : (Instr.index 50 (.agg #[.func (.func 23) #[] #[], .int .i64 10, .func (.func 24) #[] #[], .int .i64 11, .func (.func 25) #[] #[], .int .i64 12, .func (.func 31) #[] #[.pointer (some ⟨b1, 0, none⟩)], .int .i64 13, .func (.func 31) #[] #[.pointer (some ⟨b2, 0, none⟩)], .int .i64 14, .func (.func 30) #[] #[], .int .i64 15]) (.int .i64 1)).run Try.prog w = .ok (.agg #[.func (.func 24) #[] #[], .int .i64 11]) w := by kernel_rfl
theorem ruleAt2 (b1 b2 : Nat) (w : World) : (Instr.index 50 (.agg #[.func (.func 23) #[] #[], .int .i64 10, .func (.func 24) #[] #[], .int .i64 11, .func (.func 25) #[] #[], .int .i64 12, .func (.func 31) #[] #[.pointer (some ⟨b1, 0, none⟩)], .int .i64 13, .func (.func 31) #[] #[.pointer (some ⟨b2, 0, none⟩)], .int .i64 14, .func (.func 30) #[] #[], .int .i64 15]) (.int .i64 2)).run Try.prog w = .ok (.agg #[.func (.func 25) #[] #[], .int .i64 12]) w := by kernel_rfl
theorem ruleAt3 (b1 b2 : Nat) (w : World) : (Instr.index 50 (.agg #[.func (.func 23) #[] #[], .int .i64 10, .func (.func 24) #[] #[], .int .i64 11, .func (.func 25) #[] #[], .int .i64 12, .func (.func 31) #[] #[.pointer (some ⟨b1, 0, none⟩)], .int .i64 13, .func (.func 31) #[] #[.pointer (some ⟨b2, 0, none⟩)], .int .i64 14, .func (.func 30) #[] #[], .int .i64 15]) (.int .i64 3)).run Try.prog w = .ok (.agg #[.func (.func 31) #[] #[.pointer (some ⟨b1, 0, none⟩)], .int .i64 13]) w := by kernel_rfl
theorem ruleAt4 (b1 b2 : Nat) (w : World) : (Instr.index 50 (.agg #[.func (.func 23) #[] #[], .int .i64 10, .func (.func 24) #[] #[], .int .i64 11, .func (.func 25) #[] #[], .int .i64 12, .func (.func 31) #[] #[.pointer (some ⟨b1, 0, none⟩)], .int .i64 13, .func (.func 31) #[] #[.pointer (some ⟨b2, 0, none⟩)], .int .i64 14, .func (.func 30) #[] #[], .int .i64 15]) (.int .i64 4)).run Try.prog w = .ok (.agg #[.func (.func 31) #[] #[.pointer (some ⟨b2, 0, none⟩)], .int .i64 14]) w := by kernel_rfl
theorem ruleAt5 (b1 b2 : Nat) (w : World) : (Instr.index 50 (.agg #[.func (.func 23) #[] #[], .int .i64 10, .func (.func 24) #[] #[], .int .i64 11, .func (.func 25) #[] #[], .int .i64 12, .func (.func 31) #[] #[.pointer (some ⟨b1, 0, none⟩)], .int .i64 13, .func (.func 31) #[] #[.pointer (some ⟨b2, 0, none⟩)], .int .i64 14, .func (.func 30) #[] #[], .int .i64 15]) (.int .i64 5)).run Try.prog w = .ok (.agg #[.func (.func 30) #[] #[], .int .i64 15]) w := by kernel_rfl
set_option maxRecDepth 100000 in
set_option maxHeartbeats 1000000 in
theorem Check_any (N S T : Int) (a : Option Addr) (c : Nat) (ys : List Ar) (w : World) (h : Ars w a ys) (hm : ys.length ≤ 1000000000) :
    Calls Try.prog 10 #[.agg #[.int .i64 N, .int .i64 S, .int .i64 T, .slice a ys.length c]] w fun e w' => e = .returned (.int .i64 (chkOf N S T ys)) ∧ Kept w w' := by
  have HR := fun w => Lib.hid (rules_any w)
  have HX := Lib.hid h
  have HN := Lib.hid (Blk.new w #[.int .i64 N, .int .i64 S, .int .i64 T, .slice a ys.length c] 24)
  have HK0 := Lib.hid ((Upd.refl (fun _ => False) w).alloc (.cells #[.int .i64 N, .int .i64 S, .int .i64 T, .slice a ys.length c] 24))
  clear h
  go_enter Try.func10, Try.ntmps10
  go_wp2_with fail
  refine (HR _).out.mono ?_
  rintro e w1 ⟨b1, b2, rfl, hb1, hb2, hk1⟩
  have HB1 := Lib.hid hb1
  have HB2 := Lib.hid hb2
  have HN1 := Lib.hid (HN.out.kept hk1)
  have HK1 := Lib.hid (HK0.out.trans hk1)
  clear hb1 hb2 hk1 HN HK0 HR
  generalize w.heap.size = nb at HN1
  unfold rulesV
  go_wp2_with fail
  go_loopw [6] (fun i wr => ∃ k : Nat, i = .int .i64 k ∧ k ≤ 6 ∧ Hid (∀ j, j < k → rule N S T ys j = true) ∧ Hid (Kept w1 wr)) (fun i _ => 6 - (intOf i).toNat)
  case atStart => exact ⟨0, rfl, by omega, Lib.hid (by omega), Lib.hid (Upd.refl _ _)⟩
  case round =>
    obtain ⟨k, rfl, hk, HA, HK⟩ := hrel
    have HN2 := Lib.hid (HN1.out.kept HK.out)
    have hN := HN2.out.cell
    have hlt := HN2.out.lt
    by_cases k6 : k = 6
    · subst k6
      have HE : Hid (chkOf N S T ys = 0) := Lib.hid (by
        have h := HA.out
        simp only [chkOf, h 0 (by omega), h 1 (by omega), h 2 (by omega), h 3 (by omega), h 4 (by omega), h 5 (by omega)]
        simp)
      clear HA
      go_wp2_with fail
      go_ret
      exact ⟨ret_int HE.out.symm, HK1.out.trans HK.out⟩
    by_cases k0 : k = 0
    · subst k0
      have hix := ruleAt0 b1 b2
      have HC := Lib.hid (rule0 N S T ys a ys.length c (wr.alloc (.cells #[.func (.func 23) #[] #[], .int .i64 10] 49)))
      obtain ⟨z, hz⟩ : ∃ z, rule N S T ys 0 = z := ⟨_, rfl⟩
      rw [hz] at HC
      have HB := Lib.hid (Blk.new wr #[.func (.func 23) #[] #[], .int .i64 10] 49)
      have HK2 := Lib.hid ((HK1.out.trans HK.out).alloc (.cells #[.func (.func 23) #[] #[], .int .i64 10] 49))
      have HK3 := Lib.hid (HK.out.alloc (.cells #[.func (.func 23) #[] #[], .int .i64 10] 49))
      cases z
      · have HE : Hid (chkOf N S T ys = 10) := Lib.hid (by
          have h := HA.out
          simp only [chkOf, hz]
          simp)
        clear hz HA k6 
        go_wp2_with fail
        refine HC.out.mono ?_
        rintro e w3 ⟨rfl, hk3⟩
        have hB := (HB.out.kept hk3).cell
        have HK4 := Lib.hid (HK2.out.trans hk3)
        clear hk3 HC HN2 hN
        go_wp2_with fail
        go_ret
        exact ⟨ret_int HE.out.symm, HK4.out⟩
      · have HA2 : Hid (∀ j, j < 1 → rule N S T ys j = true) := Lib.hid (by
          intro j hj
          by_cases e : j = 0
          · rw [e]; exact hz
          · exact HA.out j (by omega))
        clear hz HA k6 
        go_wp2_with fail
        refine HC.out.mono ?_
        rintro e w3 ⟨rfl, hk3⟩
        have HK4 := Lib.hid (HK3.out.trans hk3)
        clear hk3 HC HN2 hN HB
        go_wp2_with fail
        go_roundw
        case rel => exact ⟨1, by go_num, by omega, HA2, HK4⟩
        case measure => simp [intOf]
    by_cases k1 : k = 1
    · subst k1
      have hix := ruleAt1 b1 b2
      have HC := Lib.hid (rule1 N S T ys a c (wr.alloc (.cells #[.func (.func 24) #[] #[], .int .i64 11] 49)))
      obtain ⟨z, hz⟩ : ∃ z, rule N S T ys 1 = z := ⟨_, rfl⟩
      rw [hz] at HC
      have HB := Lib.hid (Blk.new wr #[.func (.func 24) #[] #[], .int .i64 11] 49)
      have HK2 := Lib.hid ((HK1.out.trans HK.out).alloc (.cells #[.func (.func 24) #[] #[], .int .i64 11] 49))
      have HK3 := Lib.hid (HK.out.alloc (.cells #[.func (.func 24) #[] #[], .int .i64 11] 49))
      cases z
      · have HE : Hid (chkOf N S T ys = 11) := Lib.hid (by
          have h := HA.out
          simp only [chkOf, hz, h 0 (by omega)]
          simp)
        clear hz HA k6 k0
        go_wp2_with fail
        refine HC.out.mono ?_
        rintro e w3 ⟨rfl, hk3⟩
        have hB := (HB.out.kept hk3).cell
        have HK4 := Lib.hid (HK2.out.trans hk3)
        clear hk3 HC HN2 hN
        go_wp2_with fail
        go_ret
        exact ⟨ret_int HE.out.symm, HK4.out⟩
      · have HA2 : Hid (∀ j, j < 2 → rule N S T ys j = true) := Lib.hid (by
          intro j hj
          by_cases e : j = 1
          · rw [e]; exact hz
          · exact HA.out j (by omega))
        clear hz HA k6 k0
        go_wp2_with fail
        refine HC.out.mono ?_
        rintro e w3 ⟨rfl, hk3⟩
        have HK4 := Lib.hid (HK3.out.trans hk3)
        clear hk3 HC HN2 hN HB
        go_wp2_with fail
        go_roundw
        case rel => exact ⟨2, by go_num, by omega, HA2, HK4⟩
        case measure => simp [intOf]
    by_cases k2 : k = 2
    · subst k2
      have hix := ruleAt2 b1 b2
      have HC := Lib.hid (rule2 N S T ys a ys.length c (wr.alloc (.cells #[.func (.func 25) #[] #[], .int .i64 12] 49)))
      obtain ⟨z, hz⟩ : ∃ z, rule N S T ys 2 = z := ⟨_, rfl⟩
      rw [hz] at HC
      have HB := Lib.hid (Blk.new wr #[.func (.func 25) #[] #[], .int .i64 12] 49)
      have HK2 := Lib.hid ((HK1.out.trans HK.out).alloc (.cells #[.func (.func 25) #[] #[], .int .i64 12] 49))
      have HK3 := Lib.hid (HK.out.alloc (.cells #[.func (.func 25) #[] #[], .int .i64 12] 49))
      cases z
      · have HE : Hid (chkOf N S T ys = 12) := Lib.hid (by
          have h := HA.out
          simp only [chkOf, hz, h 0 (by omega), h 1 (by omega)]
          simp)
        clear hz HA k6 k0 k1
        go_wp2_with fail
        refine HC.out.mono ?_
        rintro e w3 ⟨rfl, hk3⟩
        have hB := (HB.out.kept hk3).cell
        have HK4 := Lib.hid (HK2.out.trans hk3)
        clear hk3 HC HN2 hN
        go_wp2_with fail
        go_ret
        exact ⟨ret_int HE.out.symm, HK4.out⟩
      · have HA2 : Hid (∀ j, j < 3 → rule N S T ys j = true) := Lib.hid (by
          intro j hj
          by_cases e : j = 2
          · rw [e]; exact hz
          · exact HA.out j (by omega))
        clear hz HA k6 k0 k1
        go_wp2_with fail
        refine HC.out.mono ?_
        rintro e w3 ⟨rfl, hk3⟩
        have HK4 := Lib.hid (HK3.out.trans hk3)
        clear hk3 HC HN2 hN HB
        go_wp2_with fail
        go_roundw
        case rel => exact ⟨3, by go_num, by omega, HA2, HK4⟩
        case measure => simp [intOf]
    by_cases k3 : k = 3
    · subst k3
      have hix := ruleAt3 b1 b2
      have HC := Lib.hid (ofCall true N S T a c ys b1 (wr.alloc (.cells #[.func (.func 31) #[] #[.pointer (some ⟨b1, 0, none⟩)], .int .i64 13] 49)) (HB1.out.kept (HK.out.alloc _)) (HX.out.kept ((HK1.out.trans HK.out).alloc _)) hm)
      obtain ⟨z, hz⟩ : ∃ z, rule N S T ys 3 = z := ⟨_, rfl⟩
      rw [show ys.all (so true N) = z from hz] at HC
      have HB := Lib.hid (Blk.new wr #[.func (.func 31) #[] #[.pointer (some ⟨b1, 0, none⟩)], .int .i64 13] 49)
      have HK2 := Lib.hid ((HK1.out.trans HK.out).alloc (.cells #[.func (.func 31) #[] #[.pointer (some ⟨b1, 0, none⟩)], .int .i64 13] 49))
      have HK3 := Lib.hid (HK.out.alloc (.cells #[.func (.func 31) #[] #[.pointer (some ⟨b1, 0, none⟩)], .int .i64 13] 49))
      cases z
      · have HE : Hid (chkOf N S T ys = 13) := Lib.hid (by
          have h := HA.out
          simp only [chkOf, hz, h 0 (by omega), h 1 (by omega), h 2 (by omega)]
          simp)
        clear hz HA k6 k0 k1 k2
        go_wp2_with fail
        refine HC.out.mono ?_
        rintro e w3 ⟨rfl, hk3⟩
        have hB := (HB.out.kept hk3).cell
        have HK4 := Lib.hid (HK2.out.trans hk3)
        clear hk3 HC HN2 hN
        go_wp2_with fail
        go_ret
        exact ⟨ret_int HE.out.symm, HK4.out⟩
      · have HA2 : Hid (∀ j, j < 4 → rule N S T ys j = true) := Lib.hid (by
          intro j hj
          by_cases e : j = 3
          · rw [e]; exact hz
          · exact HA.out j (by omega))
        clear hz HA k6 k0 k1 k2
        go_wp2_with fail
        refine HC.out.mono ?_
        rintro e w3 ⟨rfl, hk3⟩
        have HK4 := Lib.hid (HK3.out.trans hk3)
        clear hk3 HC HN2 hN HB
        go_wp2_with fail
        go_roundw
        case rel => exact ⟨4, by go_num, by omega, HA2, HK4⟩
        case measure => simp [intOf]
    by_cases k4 : k = 4
    · subst k4
      have hix := ruleAt4 b1 b2
      have HC := Lib.hid (ofCall false N S T a c ys b2 (wr.alloc (.cells #[.func (.func 31) #[] #[.pointer (some ⟨b2, 0, none⟩)], .int .i64 14] 49)) (HB2.out.kept (HK.out.alloc _)) (HX.out.kept ((HK1.out.trans HK.out).alloc _)) hm)
      obtain ⟨z, hz⟩ : ∃ z, rule N S T ys 4 = z := ⟨_, rfl⟩
      rw [show ys.all (so false N) = z from hz] at HC
      have HB := Lib.hid (Blk.new wr #[.func (.func 31) #[] #[.pointer (some ⟨b2, 0, none⟩)], .int .i64 14] 49)
      have HK2 := Lib.hid ((HK1.out.trans HK.out).alloc (.cells #[.func (.func 31) #[] #[.pointer (some ⟨b2, 0, none⟩)], .int .i64 14] 49))
      have HK3 := Lib.hid (HK.out.alloc (.cells #[.func (.func 31) #[] #[.pointer (some ⟨b2, 0, none⟩)], .int .i64 14] 49))
      cases z
      · have HE : Hid (chkOf N S T ys = 14) := Lib.hid (by
          have h := HA.out
          simp only [chkOf, hz, h 0 (by omega), h 1 (by omega), h 2 (by omega), h 3 (by omega)]
          simp)
        clear hz HA k6 k0 k1 k2 k3
        go_wp2_with fail
        refine HC.out.mono ?_
        rintro e w3 ⟨rfl, hk3⟩
        have hB := (HB.out.kept hk3).cell
        have HK4 := Lib.hid (HK2.out.trans hk3)
        clear hk3 HC HN2 hN
        go_wp2_with fail
        go_ret
        exact ⟨ret_int HE.out.symm, HK4.out⟩
      · have HA2 : Hid (∀ j, j < 5 → rule N S T ys j = true) := Lib.hid (by
          intro j hj
          by_cases e : j = 4
          · rw [e]; exact hz
          · exact HA.out j (by omega))
        clear hz HA k6 k0 k1 k2 k3
        go_wp2_with fail
        refine HC.out.mono ?_
        rintro e w3 ⟨rfl, hk3⟩
        have HK4 := Lib.hid (HK3.out.trans hk3)
        clear hk3 HC HN2 hN HB
        go_wp2_with fail
        go_roundw
        case rel => exact ⟨5, by go_num, by omega, HA2, HK4⟩
        case measure => simp [intOf]
    by_cases k5 : k = 5
    · subst k5
      have hix := ruleAt5 b1 b2
      have HC := Lib.hid (rule5 N S T ys a c (wr.alloc (.cells #[.func (.func 30) #[] #[], .int .i64 15] 49)) (HX.out.kept ((HK1.out.trans HK.out).alloc _)) hm)
      obtain ⟨z, hz⟩ : ∃ z, rule N S T ys 5 = z := ⟨_, rfl⟩
      rw [hz] at HC
      have HB := Lib.hid (Blk.new wr #[.func (.func 30) #[] #[], .int .i64 15] 49)
      have HK2 := Lib.hid ((HK1.out.trans HK.out).alloc (.cells #[.func (.func 30) #[] #[], .int .i64 15] 49))
      have HK3 := Lib.hid (HK.out.alloc (.cells #[.func (.func 30) #[] #[], .int .i64 15] 49))
      cases z
      · have HE : Hid (chkOf N S T ys = 15) := Lib.hid (by
          have h := HA.out
          simp only [chkOf, hz, h 0 (by omega), h 1 (by omega), h 2 (by omega), h 3 (by omega), h 4 (by omega)]
          simp)
        clear hz HA k6 k0 k1 k2 k3 k4
        go_wp2_with fail
        refine HC.out.mono ?_
        rintro e w3 ⟨rfl, hk3⟩
        have hB := (HB.out.kept hk3).cell
        have HK4 := Lib.hid (HK2.out.trans hk3)
        clear hk3 HC HN2 hN
        go_wp2_with fail
        go_ret
        exact ⟨ret_int HE.out.symm, HK4.out⟩
      · have HA2 : Hid (∀ j, j < 6 → rule N S T ys j = true) := Lib.hid (by
          intro j hj
          by_cases e : j = 5
          · rw [e]; exact hz
          · exact HA.out j (by omega))
        clear hz HA k6 k0 k1 k2 k3 k4
        go_wp2_with fail
        refine HC.out.mono ?_
        rintro e w3 ⟨rfl, hk3⟩
        have HK4 := Lib.hid (HK3.out.trans hk3)
        clear hk3 HC HN2 hN HB
        go_wp2_with fail
        go_roundw
        case rel => exact ⟨6, by go_num, by omega, HA2, HK4⟩
        case measure => simp [intOf]
    omega
end Go.Proofs.Ytafabeehbifgaaa
