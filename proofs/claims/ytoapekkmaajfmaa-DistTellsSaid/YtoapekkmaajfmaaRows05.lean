/- acequialaw05.rows (printed by gen_distrows.py). -/
import Derived.Test.YtoapekkmaajfmaaDistRows
import Derived.Test.YtoapekkmaajfmaaInts05
namespace Go.Proofs.Ytoapekkmaajfmaa
set_option linter.unusedVariables false
set_option linter.unusedSimpArgs false
open Go.RowKit

theorem nats_z (a a' : Option Addr) (c c' : Nat) (l l' : List Nat) (k k' : Nat) (z : Bool) (w : World) (hx : Rd w a (nv l)) (hy : Rd w a' (nv l')) (hk : l.length = k) (hk' : l'.length = k') (m1 : k ≤ 1000000000) (m2 : k' ≤ 1000000000) (hz : decide (l = l') = z) :
    Calls Try.prog 13 #[.slice a k c, .slice a' k' c'] w fun e w' => e = .returned (.bool z) ∧ Kept w w' := by
  subst hk hk' hz
  have e : ∀ l : List Nat, nv l = lv (l.map fun (n : Nat) => (n : Int)) := fun l => by simp [nv, lv]
  rw [e] at hx hy
  have h1 := ints_same a a' c c' (l.map fun (n : Nat) => (n : Int)) (l'.map fun (n : Nat) => (n : Int)) w hx hy (by simpa using m1) (by simpa using m2)
  have e2 : (l.map (fun (n : Nat) => (n : Int)) = l'.map (fun (n : Nat) => (n : Int))) ↔ l = l' := by
    constructor
    · intro h
      have := congrArg (List.map Int.toNat) h
      simpa [Function.comp_def] using this
    · intro h; rw [h]
  rw [decide_eq_decide.2 e2] at h1
  simpa using h1
set_option maxHeartbeats 4000000 in
theorem rows_same (a a' : Option Addr) (L c c' : Nat) (R : Nat → List Nat) (w : World) (hx : RowsV w a L R) (hy : RowsV w a' L R) (hL : L ≤ 1000000) (hR : ∀ j, j < L → (R j).length ≤ 1000000000) :
    Calls Try.prog 20 #[.slice a L c, .slice a' L c'] w fun e w' => e = .returned (.bool true) ∧ Kept w w' := by
  have HX := Lib.hid hx
  have HY := Lib.hid hy
  have hnn : ((L : Int) != (L : Int)) = false := by simp
  clear hx hy
  go_enter Try.func20, Try.ntmps20
  go_upto_region 4 with (fail)
  go_loopw [13] (fun ix wr => ∃ (j : Nat), ix = .int .i64 j ∧ j ≤ L ∧ Hid (Kept w wr)) (fun ix _ => L - (intOf ix).toNat)
  case atStart => exact ⟨0, rfl, by omega, Lib.hid (Upd.refl _ _)⟩
  case round =>
    obtain ⟨j, rfl, hj, HK⟩ := hrel
    by_cases hlt : j < L
    · obtain ⟨vs, h1, h2, h3⟩ := HX.out.kept HK.out
      obtain ⟨vs', g1, g2, g3⟩ := HY.out.kept HK.out
      obtain ⟨b1, c1, e1, r1⟩ := h3 j hlt
      obtain ⟨b2, c2, e2, r2⟩ := g3 j hlt
      obtain ⟨ab, ao, rfl, ac⟩ := h1.at j (by omega)
      obtain ⟨bb, bo, rfl, bc⟩ := g1.at j (by omega)
      rw [e1] at ac
      rw [e2] at bc
      obtain ⟨q, hq⟩ : ∃ q, (R j).length = q := ⟨_, rfl⟩
      have hq2 : q ≤ 1000000000 := by rw [← hq]; exact hR j hlt
      rw [hq] at ac bc
      have R1 := Lib.hid r1
      have R2 := Lib.hid r2
      have HQ := Lib.hid hq
      have C0 : wr.drew.cell? ⟨ab, ao + j, none⟩ = some (.slice b1 q c1) ∧ wr.drew.cell? ⟨bb, bo + j, none⟩ = some (.slice b2 q c2) := ⟨ac, bc⟩
      have K0 := Lib.hid (HK.out.drew)
      have i1 : (0 : Int) ≤ (j : Int) := by omega
      have i2 : (j : Int) < (L : Int) := by omega
      have hjm : (j : Int) ≤ 1000000 := by omega
      clear h1 h2 h3 g1 g2 g3 e1 e2 r1 r2 hq ac bc
      go_upto_region 6 with (fail)
      go_region_held3 (fun w' => w'.cell? ⟨ab, ao + j, none⟩ = some (.slice b1 q c1) ∧ w'.cell? ⟨bb, bo + j, none⟩ = some (.slice b2 q c2))
        (first | exact C0 | exact C1)
        ((first
        | (go_at_call 13; refine (nats_z _ _ _ _ (R j) (R j) q q true _ (R1.out.kept ((Upd.refl _ _).drew)) (R2.out.kept ((Upd.refl _ _).drew)) HQ.out HQ.out hq2 hq2 (by simp)).mono ?_; rintro e W6 ⟨rfl, hk6⟩; have K1 := Lib.hid (K0.out.trans hk6); have C1 : W6.cell? ⟨ab, ao + j, none⟩ = some (.slice b1 q c1) ∧ W6.cell? ⟨bb, bo + j, none⟩ = some (.slice b2 q c2) := ⟨(keptCells hk6 _ (by rw [C0.1]; rfl)).trans C0.1, (keptCells hk6 _ (by rw [C0.2]; rfl)).trans C0.2⟩; clear hk6)))
      clear C0 C1 R1 R2 HK K0
      go_wp2_with fail
      go_roundw
      case rel => exact ⟨j + 1, by go_num, by omega, K1⟩
      case measure => simp [intOf]; omega
    · have i2 : ¬ (j : Int) < (L : Int) := by omega
      go_wp2_with fail
      go_ret
      exact ⟨rfl, HK.out⟩
end Go.Proofs.Ytoapekkmaajfmaa
