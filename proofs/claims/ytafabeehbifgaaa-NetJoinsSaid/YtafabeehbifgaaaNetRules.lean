/- net.Check: its rules, each by itself. -/
import Derived.Test.YtafabeehbifgaaaNetSum
namespace Go.Proofs.Ytafabeehbifgaaa
set_option linter.unusedVariables false
open Go.RowKit

/-- Is it a vertex? -/
def inN (N v : Int) : Bool := decide (0 ≤ v ∧ v < N)
/-- The rules. -/
def rule (N S T : Int) (ys : List Ar) : Nat → Bool
  | 0 => decide (2 ≤ N ∧ N ≤ 4096)
  | 1 => decide (ys.length ≤ 16384)
  | 2 => inN N S && (inN N T && decide (S ≠ T))
  | 3 => ys.all fun a => inN N a.f && inN N a.t
  | 4 => ys.all fun a => decide (0 ≤ a.c)
  | _ => sumB ys
/-- A net's error. -/
def chkOf (N S T : Int) (ys : List Ar) : Int :=
  if rule N S T ys 0 = false then 10 else if rule N S T ys 1 = false then 11 else if rule N S T ys 2 = false then 12 else
  if rule N S T ys 3 = false then 13 else if rule N S T ys 4 = false then 14 else if rule N S T ys 5 = false then 15 else 0

theorem vertex_any (N S T : Int) (sl : Value) (v : Int) (a : Option Addr) (l c : Nat) (hsl : sl = .slice a l c) (w : World) :
    Calls Try.prog 26 #[.agg #[.int .i64 N, .int .i64 S, .int .i64 T, sl], .int .i64 v] w fun e w' => e = .returned (.bool (inN N v)) ∧ Kept w w' := by
  subst hsl
  by_cases h0 : 0 ≤ v
  · by_cases h1 : v < N
    · have hb : inN N v = true := by simp [inN, h0, h1]
      rw [hb]
      go_enter Try.func26, Try.ntmps26
      go_wp2_with fail
      go_ret
      exact ⟨rfl, (Upd.refl _ _).alloc _⟩
    · have hb : inN N v = false := by simp [inN, h0]; omega
      rw [hb]
      go_enter Try.func26, Try.ntmps26
      go_wp2_with fail
      go_ret
      exact ⟨rfl, (Upd.refl _ _).alloc _⟩
  · have hb : inN N v = false := by simp [inN]; omega
    rw [hb]
    go_enter Try.func26, Try.ntmps26
    go_wp2_with fail
    go_ret
    exact ⟨rfl, (Upd.refl _ _).alloc _⟩

theorem rule0 (N S T : Int) (ys : List Ar) (a : Option Addr) (l c : Nat) (w : World) :
    Calls Try.prog 23 #[.agg #[.int .i64 N, .int .i64 S, .int .i64 T, .slice a l c]] w fun e w' => e = .returned (.bool (rule N S T ys 0)) ∧ Kept w w' := by
  by_cases h0 : 2 ≤ N
  · by_cases h1 : N ≤ 4096
    · have hb : rule N S T ys 0 = true := by simp [rule, h0, h1]
      rw [hb]
      go_enter Try.func23, Try.ntmps23
      go_wp2_with fail
      go_ret
      exact ⟨rfl, (Upd.refl _ _).alloc _⟩
    · have hb : rule N S T ys 0 = false := by simp [rule, h0]; omega
      rw [hb]
      go_enter Try.func23, Try.ntmps23
      go_wp2_with fail
      go_ret
      exact ⟨rfl, (Upd.refl _ _).alloc _⟩
  · have hb : rule N S T ys 0 = false := by simp [rule]; omega
    rw [hb]
    go_enter Try.func23, Try.ntmps23
    go_wp2_with fail
    go_ret
    exact ⟨rfl, (Upd.refl _ _).alloc _⟩
theorem rule1 (N S T : Int) (ys : List Ar) (a : Option Addr) (c : Nat) (w : World) :
    Calls Try.prog 24 #[.agg #[.int .i64 N, .int .i64 S, .int .i64 T, .slice a ys.length c]] w fun e w' => e = .returned (.bool (rule N S T ys 1)) ∧ Kept w w' := by
  go_enter Try.func24, Try.ntmps24
  go_wp2_with fail
  go_ret
  refine ⟨ret_bool ?_, (Upd.refl _ _).alloc _⟩
  simp only [rule]
  congr 1
  simp
  omega
theorem vertex_is {N v : Int} {b : Bool} (h : inN N v = b) (S T : Int) (a : Option Addr) (l c : Nat) (w : World) :
    Calls Try.prog 26 #[.agg #[.int .i64 N, .int .i64 S, .int .i64 T, .slice a l c], .int .i64 v] w fun e w' => e = .returned (.bool b) ∧ Kept w w' := by
  subst h; exact vertex_any N S T _ v a l c rfl w
theorem rule2 (N S T : Int) (ys : List Ar) (a : Option Addr) (l c : Nat) (w : World) :
    Calls Try.prog 25 #[.agg #[.int .i64 N, .int .i64 S, .int .i64 T, .slice a l c]] w fun e w' => e = .returned (.bool (rule N S T ys 2)) ∧ Kept w w' := by
  have hr : rule N S T ys 2 = (inN N S && (inN N T && decide (S ≠ T))) := rfl
  rw [hr]
  cases hS : inN N S with
  | false =>
    have H1 := fun w => Lib.hid (vertex_is hS S T a l c w)
    clear hS hr
    go_enter Try.func25, Try.ntmps25
    go_wp2_with fail
    refine (H1 _).out.mono ?_
    rintro e w1 ⟨rfl, hk1⟩
    have HK := Lib.hid (((Upd.refl _ _).alloc _).trans hk1)
    clear hk1
    go_wp2
    go_ret
    exact ⟨rfl, HK.out⟩
  | true =>
    have H1 := fun w => Lib.hid (vertex_is hS S T a l c w)
    cases hT : inN N T with
    | false =>
      have H2 := fun w => Lib.hid (vertex_is hT S T a l c w)
      clear hS hT hr
      go_enter Try.func25, Try.ntmps25
      go_wp2_with fail
      refine (H1 _).out.mono ?_
      rintro e w1 ⟨rfl, hk1⟩
      have HK := Lib.hid (((Upd.refl _ _).alloc _).trans hk1)
      have hB : ∀ i, w1.cell? ⟨w.heap.size, i, none⟩ = (#[.int .i64 N, .int .i64 S, .int .i64 T, .slice a l c] : Array Value)[i]? := ((Blk.new _ _ _).kept hk1).cell
      clear hk1
      go_wp2_with fail
      refine (H2 _).out.mono ?_
      rintro e w2 ⟨rfl, hk2⟩
      have HK2 := Lib.hid (HK.out.trans hk2)
      clear hk2 hB HK
      go_wp2
      go_ret
      exact ⟨rfl, HK2.out⟩
    | true =>
      have H2 := fun w => Lib.hid (vertex_is hT S T a l c w)
      clear hS hT hr
      go_enter Try.func25, Try.ntmps25
      go_wp2_with fail
      refine (H1 _).out.mono ?_
      rintro e w1 ⟨rfl, hk1⟩
      have HK := Lib.hid (((Upd.refl _ _).alloc _).trans hk1)
      have HB := Lib.hid ((Blk.new w #[.int .i64 N, .int .i64 S, .int .i64 T, .slice a l c] 24).kept hk1)
      have hB := HB.out.cell
      clear hk1
      go_wp2_with fail
      refine (H2 _).out.mono ?_
      rintro e w2 ⟨rfl, hk2⟩
      have HK2 := Lib.hid (HK.out.trans hk2)
      have hB2 := (HB.out.kept hk2).cell
      clear hk2 hB HK HB
      go_wp2
      go_ret
      refine ⟨ret_bool ?_, HK2.out⟩
      simp [bne]
      try (by_cases h : S = T <;> simp [h])
theorem rule3 (N S T : Int) (f t k : Int) (a : Option Addr) (l c : Nat) (w : World) :
    Calls Try.prog 28 #[.agg #[.int .i64 N, .int .i64 S, .int .i64 T, .slice a l c], .agg #[.int .i64 f, .int .i64 t, .int .i64 k]] w fun e w' => e = .returned (.bool (inN N f && inN N t)) ∧ Kept w w' := by
  cases hS : inN N f with
  | false =>
    have H1 := fun w => Lib.hid (vertex_is hS S T a l c w)
    clear hS
    go_enter Try.func28, Try.ntmps28
    go_wp2_with fail
    refine (H1 _).out.mono ?_
    rintro e w1 ⟨rfl, hk1⟩
    have HK := Lib.hid ((((Upd.refl _ _).alloc _).alloc _).trans hk1)
    clear hk1
    go_wp2
    go_ret
    exact ⟨rfl, HK.out⟩
  | true =>
    have H1 := fun w => Lib.hid (vertex_is hS S T a l c w)
    obtain ⟨b2, hT⟩ : ∃ b2, inN N t = b2 := ⟨_, rfl⟩
    rw [hT]
    have H2 := fun w => Lib.hid (vertex_is hT S T a l c w)
    clear hS hT
    go_enter Try.func28, Try.ntmps28
    go_wp2_with fail
    refine (H1 _).out.mono ?_
    rintro e w1 ⟨rfl, hk1⟩
    have HK := Lib.hid ((((Upd.refl _ _).alloc _).alloc _).trans hk1)
    have hB := (((Blk.new w #[.int .i64 N, .int .i64 S, .int .i64 T, .slice a l c] 24).alloc (.cells #[.int .i64 f, .int .i64 t, .int .i64 k] 31)).kept hk1).cell
    have hA := ((Blk.new (w.alloc (.cells #[.int .i64 N, .int .i64 S, .int .i64 T, .slice a l c] 24)) #[.int .i64 f, .int .i64 t, .int .i64 k] 31).kept hk1).cell
    have e1 : (w.alloc (.cells #[.int .i64 N, .int .i64 S, .int .i64 T, .slice a l c] 24)).heap.size = w.heap.size + 1 := by simp
    rw [e1] at hA
    clear e1
    clear hk1
    go_wp2_with fail
    refine (H2 _).out.mono ?_
    rintro e w2 ⟨rfl, hk2⟩
    have HK2 := Lib.hid (HK.out.trans hk2)
    clear hk2 hA hB HK
    go_wp2
    go_ret
    exact ⟨rfl, HK2.out⟩
theorem rule4 (N S T : Int) (f t k : Int) (a : Option Addr) (l c : Nat) (w : World) :
    Calls Try.prog 29 #[.agg #[.int .i64 N, .int .i64 S, .int .i64 T, .slice a l c], .agg #[.int .i64 f, .int .i64 t, .int .i64 k]] w fun e w' => e = .returned (.bool (decide (0 ≤ k))) ∧ Kept w w' := by
  go_enter Try.func29, Try.ntmps29
  go_wp2_with fail
  go_ret
  exact ⟨rfl, ((Upd.refl _ _).alloc _).alloc _⟩
theorem rule5 (N S T : Int) (ys : List Ar) (a : Option Addr) (c : Nat) (w : World) (h : Ars w a ys) (hm : ys.length ≤ 1000000000) :
    Calls Try.prog 30 #[.agg #[.int .i64 N, .int .i64 S, .int .i64 T, .slice a ys.length c]] w fun e w' => e = .returned (.bool (rule N S T ys 5)) ∧ Kept w w' := by
  have H1 := Lib.hid (Sum_any N S T a c ys (w.alloc (.cells #[.int .i64 N, .int .i64 S, .int .i64 T, .slice a ys.length c] 24)) (h.kept ((Upd.refl _ _).alloc _)) hm)
  have hr : rule N S T ys 5 = sumB ys := rfl
  rw [hr]
  clear hr h
  go_enter Try.func30, Try.ntmps30
  go_wp2_with fail
  refine H1.out.mono ?_
  rintro e w1 ⟨rfl, hk1⟩
  have HK := Lib.hid (((Upd.refl _ _).alloc _).trans hk1)
  clear hk1
  go_wp2
  go_ret
  exact ⟨rfl, HK.out⟩
end Go.Proofs.Ytafabeehbifgaaa
