/- The chapter's examples (printed by gen_awake01.py). -/
import Derived.Test.YtafabeehbifgaaaNetFour
import Derived.Test.YtafabeehbifgaaaNetSame
import Derived.Test.YtafabeehbifgaaaJoinWalk
import Derived.Test.YtafabeehbifgaaaInts01
import Derived.Deep.CutRange
namespace Go.Proofs.Ytafabeehbifgaaa
set_option linter.unusedVariables false
open Go.RowKit

theorem arsNew (W : World) (ys : List Ar) : Ars (W.alloc (.cells (acells ys).toArray 31)) (some ⟨W.heap.size, 0, none⟩) ys :=
  .inr ⟨W.heap.size, 0, rfl, fun i u hu => by rw [Nat.zero_add, (Blk.new W _ _).cell]; simpa using hu⟩
theorem four_is (w : World) : Calls Try.prog 17 #[] w fun e w' => ∃ a c, e = .returned (.agg #[.int .i64 4, .int .i64 0, .int .i64 3, .slice a 5 c]) ∧ Ars w' a fourL ∧ Kept w w' :=
  (Four_any w).mono fun e w' ⟨a, c, he, ho, hk⟩ => ⟨a, c, he, ho.at.2, hk⟩
theorem chk_four (a : Option Addr) (c : Nat) (w : World) (h : Ars w a (fourL)) :
    Calls Try.prog 10 #[.agg #[.int .i64 4, .int .i64 0, .int .i64 3, .slice a 5 c]] w fun e w' => e = .returned (.int .i64 0) ∧ Kept w w' := by
  have h1 := Check_any 4 0 3 a c (fourL) w h (by decide)
  rw [show chkOf 4 0 3 (fourL) = 0 by decide] at h1
  exact h1
theorem chk_ends (a : Option Addr) (c : Nat) (w : World) (h : Ars w a (fourL)) :
    Calls Try.prog 10 #[.agg #[.int .i64 4, .int .i64 3, .int .i64 3, .slice a 5 c]] w fun e w' => e = .returned (.int .i64 12) ∧ Kept w w' := by
  have h1 := Check_any 4 3 3 a c (fourL) w h (by decide)
  rw [show chkOf 4 3 3 (fourL) = 12 by decide] at h1
  exact h1
theorem chk_1 (a : Option Addr) (c : Nat) (w : World) (h : Ars w a (fourL ++ [⟨0, 4, 0⟩])) :
    Calls Try.prog 10 #[.agg #[.int .i64 4, .int .i64 0, .int .i64 3, .slice a 6 c]] w fun e w' => e = .returned (.int .i64 13) ∧ Kept w w' := by
  have h1 := Check_any 4 0 3 a c (fourL ++ [⟨0, 4, 0⟩]) w h (by decide)
  rw [show chkOf 4 0 3 (fourL ++ [⟨0, 4, 0⟩]) = 13 by decide] at h1
  exact h1
theorem chk_2 (a : Option Addr) (c : Nat) (w : World) (h : Ars w a (fourL ++ [⟨0, 0, -1⟩, ⟨0, 4, 0⟩])) :
    Calls Try.prog 10 #[.agg #[.int .i64 4, .int .i64 0, .int .i64 3, .slice a 7 c]] w fun e w' => e = .returned (.int .i64 13) ∧ Kept w w' := by
  have h1 := Check_any 4 0 3 a c (fourL ++ [⟨0, 0, -1⟩, ⟨0, 4, 0⟩]) w h (by decide)
  rw [show chkOf 4 0 3 (fourL ++ [⟨0, 0, -1⟩, ⟨0, 4, 0⟩]) = 13 by decide] at h1
  exact h1
theorem chk_3 (a : Option Addr) (c : Nat) (w : World) (h : Ars w a (fourL ++ [⟨0, 0, 4611686018427387904⟩, ⟨0, 0, 4611686018427387904⟩])) :
    Calls Try.prog 10 #[.agg #[.int .i64 4, .int .i64 0, .int .i64 3, .slice a 7 c]] w fun e w' => e = .returned (.int .i64 15) ∧ Kept w w' := by
  have h1 := Check_any 4 0 3 a c (fourL ++ [⟨0, 0, 4611686018427387904⟩, ⟨0, 0, 4611686018427387904⟩]) w h (by decide)
  rw [show chkOf 4 0 3 (fourL ++ [⟨0, 0, 4611686018427387904⟩, ⟨0, 0, 4611686018427387904⟩]) = 15 by decide] at h1
  exact h1
theorem with_1 (a : Addr) (c : Nat) (w : World) (h : Ars w (some a) [⟨0, 4, 0⟩]) :
    Calls Try.prog 18 #[.slice (some a) 1 c] w fun e w' => ∃ a' c', e = .returned (.agg #[.int .i64 4, .int .i64 0, .int .i64 3, .slice a' 6 c']) ∧ Ars w' a' (fourL ++ [⟨0, 4, 0⟩]) ∧ Kept w w' :=
  (with_any (some a) c [⟨0, 4, 0⟩] w h rfl (by decide)).mono fun e w' ⟨a', c', he, ho, hk⟩ => ⟨a', c', he, ho.at.2, hk⟩
theorem with_2 (a : Addr) (c : Nat) (w : World) (h : Ars w (some a) [⟨0, 0, -1⟩, ⟨0, 4, 0⟩]) :
    Calls Try.prog 18 #[.slice (some a) 2 c] w fun e w' => ∃ a' c', e = .returned (.agg #[.int .i64 4, .int .i64 0, .int .i64 3, .slice a' 7 c']) ∧ Ars w' a' (fourL ++ [⟨0, 0, -1⟩, ⟨0, 4, 0⟩]) ∧ Kept w w' :=
  (with_any (some a) c [⟨0, 0, -1⟩, ⟨0, 4, 0⟩] w h rfl (by decide)).mono fun e w' ⟨a', c', he, ho, hk⟩ => ⟨a', c', he, ho.at.2, hk⟩
theorem with_3 (a : Addr) (c : Nat) (w : World) (h : Ars w (some a) [⟨0, 0, 4611686018427387904⟩, ⟨0, 0, 4611686018427387904⟩]) :
    Calls Try.prog 18 #[.slice (some a) 2 c] w fun e w' => ∃ a' c', e = .returned (.agg #[.int .i64 4, .int .i64 0, .int .i64 3, .slice a' 7 c']) ∧ Ars w' a' (fourL ++ [⟨0, 0, 4611686018427387904⟩, ⟨0, 0, 4611686018427387904⟩]) ∧ Kept w w' :=
  (with_any (some a) c [⟨0, 0, 4611686018427387904⟩, ⟨0, 0, 4611686018427387904⟩] w h rfl (by decide)).mono fun e w' ⟨a', c', he, ho, hk⟩ => ⟨a', c', he, ho.at.2, hk⟩
theorem sum_four (a : Option Addr) (c : Nat) (w : World) (h : Ars w a fourL) :
    Calls Try.prog 12 #[.agg #[.int .i64 4, .int .i64 0, .int .i64 3, .slice a 5 c]] w fun e w' => e = .returned (.tuple #[.int .i64 20, .bool true]) ∧ Kept w w' := by
  have h1 := Sum_any 4 0 3 a c fourL w h (by decide)
  rw [show sumT fourL = 20 by decide, show sumB fourL = true by decide] at h1
  exact h1
theorem join_ex (a : Option Addr) (c : Nat) (w : World) (h : Ars w a [⟨0, 1, 2⟩, ⟨1, 1, 9⟩, ⟨0, 1, 3⟩]) :
    Calls Try.prog 13 #[.agg #[.int .i64 2, .int .i64 0, .int .i64 1, .slice a 3 c]] w fun e w' => ∃ ao co af cf, e = .returned (.tuple #[.agg #[.int .i64 2, .int .i64 0, .int .i64 1, .slice ao 1 co], .slice af 3 cf]) ∧ Ars w' ao [⟨0, 1, 5⟩] ∧ Rd w' af ([0, -1, 0].map (Value.int .i64)) ∧ Kept w w' := by
  refine (Join_ok 2 0 1 a c [⟨0, 1, 2⟩, ⟨1, 1, 9⟩, ⟨0, 1, 3⟩] w h (by decide) (by decide)).mono ?_
  rw [show joinGo [] [] [⟨0, 1, 2⟩, ⟨1, 1, 9⟩, ⟨0, 1, 3⟩] = ([⟨0, 1, 5⟩], [0, -1, 0]) by decide]
  rintro e w' ⟨ao, co, vof, rfl, ho, hr, hk⟩
  obtain ⟨af, cf, rfl⟩ := row_form hr
  obtain ⟨a2, c2, e2, hR⟩ := Rd.owns hr
  cases e2
  exact ⟨ao, co, af, cf, rfl, ho.at.2, hR, hk⟩
theorem same_ex (a a' : Option Addr) (c c' : Nat) (w : World) (hx : Ars w a [⟨0, 1, 5⟩]) (hy : Ars w a' [⟨0, 1, 5⟩]) :
    Calls Try.prog 14 #[.agg #[.int .i64 2, .int .i64 0, .int .i64 1, .slice a 1 c], .agg #[.int .i64 2, .int .i64 0, .int .i64 1, .slice a' 1 c']] w fun e w' => e = .returned (.bool true) ∧ Kept w w' := by
  have h1 := SameNet_eq 2 0 1 a a' c c' [⟨0, 1, 5⟩] [⟨0, 1, 5⟩] w hx hy rfl (by decide)
  simpa using h1
theorem ints_ex (a a' : Option Addr) (c c' : Nat) (w : World) (hx : Rd w a ([0, -1, 0].map (Value.int .i64))) (hy : Rd w a' ([0, -1, 0].map (Value.int .i64))) :
    Calls Try.prog 19 #[.slice a 3 c, .slice a' 3 c'] w fun e w' => e = .returned (.bool true) ∧ Kept w w' := by
  have h1 := ints_same a a' c c' [0, -1, 0] [0, -1, 0] w hx hy (by decide) (by decide)
  simpa using h1

set_option maxRecDepth 100000 in
set_option maxHeartbeats 1000000 in
theorem awake_any (w : World) : Calls Try.prog 8 #[] w fun e w' => e = .returned (.bool true) ∧ Kept w w' := by
  have HFour := fun w => Lib.hid (four_is w)
  go_enter Try.func8, Try.ntmps8
  go_wp2_with fail
  refine (HFour _).out.mono ?_
  rintro e w1 ⟨a1, c1, rfl, hA1, hk1⟩
  have HK1 := Lib.hid hk1
  have HE1 := Lib.hid hA1
  clear hA1 hk1
  go_upto_region 3 with (fail)
  have HB := Lib.hid (Blk.new w1 #[.int .i64 4, .int .i64 3, .int .i64 3, .slice a1 5 c1] 24)
  have HK2 := Lib.hid (HK1.out.trans ((Upd.refl _ _).alloc (.cells #[.int .i64 4, .int .i64 3, .int .i64 3, .slice a1 5 c1] 24)))
  have HE2 := Lib.hid (HE1.out.kept ((Upd.refl _ _).alloc (.cells #[.int .i64 4, .int .i64 3, .int .i64 3, .slice a1 5 c1] 24)))
  clear HK1 HE1
  generalize (w1.alloc (.cells #[.int .i64 4, .int .i64 3, .int .i64 3, .slice a1 5 c1] 24)) = w2 at HK2 HE2 HB ⊢
  generalize w1.heap.size = eb at HB ⊢
  have HB2 := HB
  clear HB
  go_wp2_with fail
  refine (HFour _).out.mono ?_
  rintro e w3 ⟨a3, c3, rfl, hA, hk⟩
  have HK3 := Lib.hid (HK2.out.trans hk)
  have HE3 := Lib.hid (HE2.out.kept hk)
  have HB3 := Lib.hid (HB2.out.kept hk)
  clear HK2 HE2 HB2
  have HF3 := Lib.hid hA
  clear hk hA
  go_wp2_with fail
  have HC := Lib.hid (sum_four a3 c3 w3 HF3.out)
  clear HF3
  refine HC.out.mono ?_
  rintro e w4 ⟨rfl, hk⟩
  have HK4 := Lib.hid (HK3.out.trans hk)
  have HE4 := Lib.hid (HE3.out.kept hk)
  have HB4 := Lib.hid (HB3.out.kept hk)
  clear HK3 HE3 HB3
  clear hk 
  clear HC
  go_upto_region 4 with (fail)
  go_wp2_with fail
  have HC := Lib.hid (join_ex (some ⟨w4.heap.size, 0, none⟩) 3 (w4.alloc (.cells #[.int .i64 0, .int .i64 1, .int .i64 2, .int .i64 1, .int .i64 1, .int .i64 9, .int .i64 0, .int .i64 1, .int .i64 3] 31)) (arsNew w4 [⟨0, 1, 2⟩, ⟨1, 1, 9⟩, ⟨0, 1, 3⟩]))
  refine HC.out.mono ?_
  rintro e w5 ⟨ao, co, af, cf, rfl, hJ, hO, hk⟩
  have HK5 := Lib.hid (HK4.out.trans (((Upd.refl _ _).alloc (.cells #[.int .i64 0, .int .i64 1, .int .i64 2, .int .i64 1, .int .i64 1, .int .i64 9, .int .i64 0, .int .i64 1, .int .i64 3] 31)).trans hk))
  have HE5 := Lib.hid (HE4.out.kept (((Upd.refl _ _).alloc (.cells #[.int .i64 0, .int .i64 1, .int .i64 2, .int .i64 1, .int .i64 1, .int .i64 9, .int .i64 0, .int .i64 1, .int .i64 3] 31)).trans hk))
  have HB5 := Lib.hid (HB4.out.kept (((Upd.refl _ _).alloc (.cells #[.int .i64 0, .int .i64 1, .int .i64 2, .int .i64 1, .int .i64 1, .int .i64 9, .int .i64 0, .int .i64 1, .int .i64 3] 31)).trans hk))
  clear HK4 HE4 HB4
  have HJ5 := Lib.hid hJ
  have HO5 := Lib.hid hO
  clear hk hJ hO
  clear HC
  go_upto_region 5 with (fail)
  have HD := Lib.hid (Blk.new w5 #[.int .i64 2, .int .i64 0, .int .i64 1, .slice ao 1 co] 24)
  have HK6 := Lib.hid (HK5.out.trans ((Upd.refl _ _).alloc (.cells #[.int .i64 2, .int .i64 0, .int .i64 1, .slice ao 1 co] 24)))
  have HE6 := Lib.hid (HE5.out.kept ((Upd.refl _ _).alloc (.cells #[.int .i64 2, .int .i64 0, .int .i64 1, .slice ao 1 co] 24)))
  have HB6 := Lib.hid (HB5.out.kept ((Upd.refl _ _).alloc (.cells #[.int .i64 2, .int .i64 0, .int .i64 1, .slice ao 1 co] 24)))
  have HJ6 := Lib.hid (HJ5.out.kept ((Upd.refl _ _).alloc (.cells #[.int .i64 2, .int .i64 0, .int .i64 1, .slice ao 1 co] 24)))
  have HO6 := Lib.hid (HO5.out.kept ((Upd.refl _ _).alloc (.cells #[.int .i64 2, .int .i64 0, .int .i64 1, .slice ao 1 co] 24)))
  clear HK5 HE5 HB5 HJ5 HO5
  generalize (w5.alloc (.cells #[.int .i64 2, .int .i64 0, .int .i64 1, .slice ao 1 co] 24)) = w6 at HK6 HE6 HB6 HJ6 HO6 HD ⊢
  generalize w5.heap.size = jb at HD ⊢
  have HD6 := HD
  clear HD
  go_wp2_with fail
  refine (HFour _).out.mono ?_
  rintro e w7 ⟨a5, c5, rfl, hA, hk⟩
  have HK7 := Lib.hid (HK6.out.trans hk)
  have HE7 := Lib.hid (HE6.out.kept hk)
  have HB7 := Lib.hid (HB6.out.kept hk)
  have HJ7 := Lib.hid (HJ6.out.kept hk)
  have HO7 := Lib.hid (HO6.out.kept hk)
  have HD7 := Lib.hid (HD6.out.kept hk)
  clear HK6 HE6 HB6 HJ6 HO6 HD6
  have HF7 := Lib.hid hA
  clear hk hA
  have HC := Lib.hid (chk_four a5 c5 w7 HF7.out)
  clear HF7
  go_wp2_with fail
  refine HC.out.mono ?_
  rintro e w8 ⟨rfl, hk⟩
  have HK8 := Lib.hid (HK7.out.trans hk)
  have HE8 := Lib.hid (HE7.out.kept hk)
  have HB8 := Lib.hid (HB7.out.kept hk)
  have HJ8 := Lib.hid (HJ7.out.kept hk)
  have HO8 := Lib.hid (HO7.out.kept hk)
  have HD8 := Lib.hid (HD7.out.kept hk)
  clear HK7 HE7 HB7 HJ7 HO7 HD7
  clear hk 
  clear HC
  have HC := Lib.hid (chk_ends a1 c1 w8 HE8.out)
  have cb := HB8.out.cell
  go_wp2_with fail
  clear cb
  refine HC.out.mono ?_
  rintro e w9 ⟨rfl, hk⟩
  have HK9 := Lib.hid (HK8.out.trans hk)
  have HE9 := Lib.hid (HE8.out.kept hk)
  have HB9 := Lib.hid (HB8.out.kept hk)
  have HJ9 := Lib.hid (HJ8.out.kept hk)
  have HO9 := Lib.hid (HO8.out.kept hk)
  have HD9 := Lib.hid (HD8.out.kept hk)
  clear HK8 HE8 HB8 HJ8 HO8 HD8
  clear hk 
  clear HC
  have HC := Lib.hid (with_1 ⟨w9.heap.size, 0, none⟩ 1 (w9.alloc (.cells #[.int .i64 0, .int .i64 4, .int .i64 0] 31)) (arsNew w9 [⟨0, 4, 0⟩]))
  go_wp2_with fail
  refine HC.out.mono ?_
  rintro e w10 ⟨b1, d1, rfl, hA, hk⟩
  have HK10 := Lib.hid (HK9.out.trans (((Upd.refl _ _).alloc (.cells #[.int .i64 0, .int .i64 4, .int .i64 0] 31)).trans hk))
  have HE10 := Lib.hid (HE9.out.kept (((Upd.refl _ _).alloc (.cells #[.int .i64 0, .int .i64 4, .int .i64 0] 31)).trans hk))
  have HB10 := Lib.hid (HB9.out.kept (((Upd.refl _ _).alloc (.cells #[.int .i64 0, .int .i64 4, .int .i64 0] 31)).trans hk))
  have HJ10 := Lib.hid (HJ9.out.kept (((Upd.refl _ _).alloc (.cells #[.int .i64 0, .int .i64 4, .int .i64 0] 31)).trans hk))
  have HO10 := Lib.hid (HO9.out.kept (((Upd.refl _ _).alloc (.cells #[.int .i64 0, .int .i64 4, .int .i64 0] 31)).trans hk))
  have HD10 := Lib.hid (HD9.out.kept (((Upd.refl _ _).alloc (.cells #[.int .i64 0, .int .i64 4, .int .i64 0] 31)).trans hk))
  clear HK9 HE9 HB9 HJ9 HO9 HD9
  have HF10 := Lib.hid hA
  clear hk hA
  clear HC
  have HC := Lib.hid (chk_1 b1 d1 w10 HF10.out)
  clear HF10
  go_wp2_with fail
  refine HC.out.mono ?_
  rintro e w11 ⟨rfl, hk⟩
  have HK11 := Lib.hid (HK10.out.trans hk)
  have HE11 := Lib.hid (HE10.out.kept hk)
  have HB11 := Lib.hid (HB10.out.kept hk)
  have HJ11 := Lib.hid (HJ10.out.kept hk)
  have HO11 := Lib.hid (HO10.out.kept hk)
  have HD11 := Lib.hid (HD10.out.kept hk)
  clear HK10 HE10 HB10 HJ10 HO10 HD10
  clear hk 
  clear HC
  have HC := Lib.hid (with_2 ⟨w11.heap.size, 0, none⟩ 2 (w11.alloc (.cells #[.int .i64 0, .int .i64 0, .int .i64 (-1), .int .i64 0, .int .i64 4, .int .i64 0] 31)) (arsNew w11 [⟨0, 0, -1⟩, ⟨0, 4, 0⟩]))
  go_wp2_with fail
  refine HC.out.mono ?_
  rintro e w12 ⟨b2, d2, rfl, hA, hk⟩
  have HK12 := Lib.hid (HK11.out.trans (((Upd.refl _ _).alloc (.cells #[.int .i64 0, .int .i64 0, .int .i64 (-1), .int .i64 0, .int .i64 4, .int .i64 0] 31)).trans hk))
  have HE12 := Lib.hid (HE11.out.kept (((Upd.refl _ _).alloc (.cells #[.int .i64 0, .int .i64 0, .int .i64 (-1), .int .i64 0, .int .i64 4, .int .i64 0] 31)).trans hk))
  have HB12 := Lib.hid (HB11.out.kept (((Upd.refl _ _).alloc (.cells #[.int .i64 0, .int .i64 0, .int .i64 (-1), .int .i64 0, .int .i64 4, .int .i64 0] 31)).trans hk))
  have HJ12 := Lib.hid (HJ11.out.kept (((Upd.refl _ _).alloc (.cells #[.int .i64 0, .int .i64 0, .int .i64 (-1), .int .i64 0, .int .i64 4, .int .i64 0] 31)).trans hk))
  have HO12 := Lib.hid (HO11.out.kept (((Upd.refl _ _).alloc (.cells #[.int .i64 0, .int .i64 0, .int .i64 (-1), .int .i64 0, .int .i64 4, .int .i64 0] 31)).trans hk))
  have HD12 := Lib.hid (HD11.out.kept (((Upd.refl _ _).alloc (.cells #[.int .i64 0, .int .i64 0, .int .i64 (-1), .int .i64 0, .int .i64 4, .int .i64 0] 31)).trans hk))
  clear HK11 HE11 HB11 HJ11 HO11 HD11
  have HF12 := Lib.hid hA
  clear hk hA
  clear HC
  have HC := Lib.hid (chk_2 b2 d2 w12 HF12.out)
  clear HF12
  go_wp2_with fail
  refine HC.out.mono ?_
  rintro e w13 ⟨rfl, hk⟩
  have HK13 := Lib.hid (HK12.out.trans hk)
  have HE13 := Lib.hid (HE12.out.kept hk)
  have HB13 := Lib.hid (HB12.out.kept hk)
  have HJ13 := Lib.hid (HJ12.out.kept hk)
  have HO13 := Lib.hid (HO12.out.kept hk)
  have HD13 := Lib.hid (HD12.out.kept hk)
  clear HK12 HE12 HB12 HJ12 HO12 HD12
  clear hk 
  clear HC
  go_upto_region 7 with (fail)
  have HC := Lib.hid (with_3 ⟨w13.heap.size, 0, none⟩ 2 (w13.alloc (.cells #[.int .i64 0, .int .i64 0, .int .i64 4611686018427387904, .int .i64 0, .int .i64 0, .int .i64 4611686018427387904] 31)) (arsNew w13 [⟨0, 0, 4611686018427387904⟩, ⟨0, 0, 4611686018427387904⟩]))
  go_wp2_with fail
  refine HC.out.mono ?_
  rintro e w14 ⟨a7, c7, rfl, hA, hk⟩
  have HK14 := Lib.hid (HK13.out.trans (((Upd.refl _ _).alloc (.cells #[.int .i64 0, .int .i64 0, .int .i64 4611686018427387904, .int .i64 0, .int .i64 0, .int .i64 4611686018427387904] 31)).trans hk))
  have HE14 := Lib.hid (HE13.out.kept (((Upd.refl _ _).alloc (.cells #[.int .i64 0, .int .i64 0, .int .i64 4611686018427387904, .int .i64 0, .int .i64 0, .int .i64 4611686018427387904] 31)).trans hk))
  have HB14 := Lib.hid (HB13.out.kept (((Upd.refl _ _).alloc (.cells #[.int .i64 0, .int .i64 0, .int .i64 4611686018427387904, .int .i64 0, .int .i64 0, .int .i64 4611686018427387904] 31)).trans hk))
  have HJ14 := Lib.hid (HJ13.out.kept (((Upd.refl _ _).alloc (.cells #[.int .i64 0, .int .i64 0, .int .i64 4611686018427387904, .int .i64 0, .int .i64 0, .int .i64 4611686018427387904] 31)).trans hk))
  have HO14 := Lib.hid (HO13.out.kept (((Upd.refl _ _).alloc (.cells #[.int .i64 0, .int .i64 0, .int .i64 4611686018427387904, .int .i64 0, .int .i64 0, .int .i64 4611686018427387904] 31)).trans hk))
  have HD14 := Lib.hid (HD13.out.kept (((Upd.refl _ _).alloc (.cells #[.int .i64 0, .int .i64 0, .int .i64 4611686018427387904, .int .i64 0, .int .i64 0, .int .i64 4611686018427387904] 31)).trans hk))
  clear HK13 HE13 HB13 HJ13 HO13 HD13
  have HF14 := Lib.hid hA
  clear hk hA
  clear HC
  have HC := Lib.hid (chk_3 a7 c7 w14 HF14.out)
  clear HF14
  go_wp2_with fail
  refine HC.out.mono ?_
  rintro e w15 ⟨rfl, hk⟩
  have HK15 := Lib.hid (HK14.out.trans hk)
  have HE15 := Lib.hid (HE14.out.kept hk)
  have HB15 := Lib.hid (HB14.out.kept hk)
  have HJ15 := Lib.hid (HJ14.out.kept hk)
  have HO15 := Lib.hid (HO14.out.kept hk)
  have HD15 := Lib.hid (HD14.out.kept hk)
  clear HK14 HE14 HB14 HJ14 HO14 HD14
  clear hk 
  clear HC
  have HC := Lib.hid (same_ex ao (some ⟨w15.heap.size, 0, none⟩) co 1 (w15.alloc (.cells #[.int .i64 0, .int .i64 1, .int .i64 5] 31)) (HJ15.out.kept ((Upd.refl _ _).alloc _)) (arsNew w15 [⟨0, 1, 5⟩]))
  have cb := HD15.out.cell
  have lb := HD15.out.lt
  go_wp2_with fail
  clear cb lb
  refine HC.out.mono ?_
  rintro e w16 ⟨rfl, hk⟩
  have HK16 := Lib.hid (HK15.out.trans (((Upd.refl _ _).alloc (.cells #[.int .i64 0, .int .i64 1, .int .i64 5] 31)).trans hk))
  have HE16 := Lib.hid (HE15.out.kept (((Upd.refl _ _).alloc (.cells #[.int .i64 0, .int .i64 1, .int .i64 5] 31)).trans hk))
  have HB16 := Lib.hid (HB15.out.kept (((Upd.refl _ _).alloc (.cells #[.int .i64 0, .int .i64 1, .int .i64 5] 31)).trans hk))
  have HJ16 := Lib.hid (HJ15.out.kept (((Upd.refl _ _).alloc (.cells #[.int .i64 0, .int .i64 1, .int .i64 5] 31)).trans hk))
  have HO16 := Lib.hid (HO15.out.kept (((Upd.refl _ _).alloc (.cells #[.int .i64 0, .int .i64 1, .int .i64 5] 31)).trans hk))
  have HD16 := Lib.hid (HD15.out.kept (((Upd.refl _ _).alloc (.cells #[.int .i64 0, .int .i64 1, .int .i64 5] 31)).trans hk))
  clear HK15 HE15 HB15 HJ15 HO15 HD15
  clear hk 
  clear HC
  have HC := Lib.hid (ints_ex af (some ⟨w16.heap.size, 0, none⟩) cf 3 (w16.alloc (.cells #[.int .i64 0, .int .i64 (-1), .int .i64 0] 3)) (HO16.out.kept ((Upd.refl _ _).alloc _)) (Rd.blk (Blk.new w16 _ _)))
  go_wp2_with fail
  refine HC.out.mono ?_
  rintro e w17 ⟨rfl, hk⟩
  have HK17 := Lib.hid (HK16.out.trans (((Upd.refl _ _).alloc (.cells #[.int .i64 0, .int .i64 (-1), .int .i64 0] 3)).trans hk))
  have HE17 := Lib.hid (HE16.out.kept (((Upd.refl _ _).alloc (.cells #[.int .i64 0, .int .i64 (-1), .int .i64 0] 3)).trans hk))
  have HB17 := Lib.hid (HB16.out.kept (((Upd.refl _ _).alloc (.cells #[.int .i64 0, .int .i64 (-1), .int .i64 0] 3)).trans hk))
  have HJ17 := Lib.hid (HJ16.out.kept (((Upd.refl _ _).alloc (.cells #[.int .i64 0, .int .i64 (-1), .int .i64 0] 3)).trans hk))
  have HO17 := Lib.hid (HO16.out.kept (((Upd.refl _ _).alloc (.cells #[.int .i64 0, .int .i64 (-1), .int .i64 0] 3)).trans hk))
  have HD17 := Lib.hid (HD16.out.kept (((Upd.refl _ _).alloc (.cells #[.int .i64 0, .int .i64 (-1), .int .i64 0] 3)).trans hk))
  clear HK16 HE16 HB16 HJ16 HO16 HD16
  clear hk 
  clear HC
  go_wp2_with fail
  go_ret
  exact ⟨rfl, HK17.out⟩
end Go.Proofs.Ytafabeehbifgaaa
