/- What the laws of chapter 11 share (printed by gen_deq.py). -/
import Derived.Test.YtdgkemadhooogaaAwake11
import Derived.Test.YtdgkemadhooogaaDeqTo
import Derived.Test.YtdgkemadhooogaaOffRow
import Derived.Test.YtdgkemadhooogaaOpen
import Derived.Test.YtdgkemadhooogaaBase2
import Derived.Deep.RegionHeld3
import Derived.Deep.CutRange
import Derived.StillTailTactics
import Derived.Deep.MidRow
namespace Go.Proofs.Ytdgkemadhooogaa
set_option linter.unusedVariables false
set_option linter.unusedSimpArgs false
open Go.RowKit
attribute [local go_sem] cell?_ext

/-- What the law looks at: the plan's box, the bank. -/
structure DA (w : World) (B lb bb g : Nat) (lv : Array Value) (xs : List Int) (W : World) : Prop where
  kp : Kept w W
  l : Blk W lb lv 24
  b : Bnk W bb g xs
  nz : w.heap.size ≤ lb ∧ w.heap.size ≤ bb ∧ w.heap.size ≤ g ∧ lb < B ∧ bb < B ∧ g < B ∧ ¬ lb = bb ∧ ¬ lb = g ∧ B ≤ W.heap.size
section
variable {w W W' : World} {B lb bb g : Nat} {lv : Array Value} {xs : List Int}
theorem DA.kept (h : DA w B lb bb g lv xs W) (k : Kept W W') : DA w B lb bb g lv xs W' := ⟨h.kp.trans k, h.l.kept k, h.b.kept k, by have := h.nz; have := k.size; omega⟩
theorem DA.far (h : DA w B lb bb g lv xs W) (k : Upd (fun i => B ≤ i) W W') : DA w B lb bb g lv xs W' := by
  have n := h.nz
  have := k.size
  exact ⟨h.kp.then k (fun i hi e => by omega), h.l.upd k (by omega), h.b.upd k (by omega) (by omega), by omega⟩
theorem DA.mach (h : DA w B lb bb g lv xs W) {kd : Kd} {l : Lay} {k : Int} {mb : Nat} {s' : KS} (hK : KSt kd l k mb bb g s' W W') (hm : B ≤ mb) : DA w B lb bb g lv s'.xs W' := by
  have n := h.nz
  have := hK.2.2.size
  exact ⟨h.kp.then hK.2.2 (fun i hi e => by omega), h.l.upd hK.2.2 (by omega), hK.2.1, by omega⟩
end
theorem Row.ahead {tp tq r : Nat} {xs ys : List Int} {T : Int} (h : Row tp r xs T []) (ha : Ahead tq xs ys) (hq : tp + 2 ≤ tq) : Row tp r ys T [] := by
  refine ⟨by rw [ha.1]; exact h.fit, h.t0, h.big, h.room, by rw [ha.2 _ (by omega) (by omega)]; exact h.top, by rw [ha.2 _ (by omega) (by omega)]; exact h.bot, fun j hj => by simp at hj⟩
theorem row_zero {tp r S : Nat} (h : tp + 2 + 2 ^ r ≤ S) : Row tp r (List.replicate S 0) 0 [] := by
  have h0 : 0 < 2 ^ r := Nat.pow_pos (by omega)
  have g : ∀ i : Int, 0 ≤ i → bget (List.replicate S 0) i = 0 := fun i hi => by
    rw [bget_in hi]
    simp [List.getD, List.getElem?_replicate]
    split <;> rfl
  exact ⟨by rw [List.length_replicate]; exact h, by omega, by simp, by simp, g _ (by omega), g _ (by omega), fun j hj => by simp at hj⟩
theorem op_of {e : List Value} (hf : fits [some .u8, some .u8, some .i64] e) : ∃ a b c, e = [.int .u8 a, .int .u8 b, .int .i64 c] ∧ 0 ≤ b ∧ b ≤ 255 := by
  obtain ⟨x1, u1, e1, h1, f1⟩ := fits_int hf
  obtain ⟨x2, u2, e2, h2, f2⟩ := fits_int f1
  obtain ⟨x3, u3, e3, h3, f3⟩ := fits_int f2
  exact ⟨x1, x2, x3, by rw [e1, e2, e3, fits_nil f3], (bounds_u8 h2).1, (bounds_u8 h2).2⟩
/-- Plans of some vertices and workers: where the deques are. -/
theorem plan_geo (v k : Int) (hv : 0 ≤ v ∧ v ≤ 4096) (hk : 1 ≤ k ∧ k ≤ 16) : ∃ (r S : Nat), (planOf v 0 k).size = (S : Int) ∧ S ≤ 524288 ∧ (planOf v 0 k).room = ((2 ^ r : Nat) : Int) ∧ r ≤ 13 ∧ v ≤ ((2 ^ r : Nat) : Int) ∧ 2 ^ r ≤ 8192 ∧
    ∀ i : Int, 0 ≤ i → i < k → ∃ tp : Nat, Geo (planOf v 0 k) i tp r ∧ (tp : Int) = (planOf v 0 k).deques + i * (((2 ^ r : Nat) : Int) + 2) ∧ tp + 2 + 2 ^ r ≤ S := by
  obtain ⟨r, hr, e⟩ := roomOf_pow v
  have h1 := roomOf_le v
  have h2 : 0 ≤ k * (roomOf v + 2) := Int.mul_nonneg (by omega) (by omega)
  have h3 : k * (roomOf v + 2) ≤ 16 * 8194 := Int.mul_le_mul hk.2 (by omega) (by omega) (by omega)
  have h4 := roomFrom_done 13 1 v (by omega) (by omega)
  have h5 : v ≤ roomOf v := h4
  have hsz : (planOf v 0 k).size = 0 + v + v + v + 1 + 1 + 1 + 1 + k * (roomOf v + 2) := rfl
  have hdq : (planOf v 0 k).deques = 0 + v + v + v + 1 + 1 + 1 + 1 := rfl
  have hrm : (planOf v 0 k).room = roomOf v := rfl
  refine ⟨r, (planOf v 0 k).size.toNat, by rw [hsz]; omega, ?_, by rw [hrm, e], hr, by rw [← e]; exact h5, by omega, fun i h0 hi => ?_⟩
  · rw [hsz]; omega
  · have h6 : 0 ≤ i * (roomOf v + 2) := Int.mul_nonneg h0 (by omega)
    have h7 : (i + 1) * (roomOf v + 2) ≤ k * (roomOf v + 2) := Int.mul_le_mul_of_nonneg_right (by omega) (by omega)
    rw [Int.add_mul, Int.one_mul] at h7
    refine ⟨((planOf v 0 k).deques + i * (roomOf v + 2)).toNat, ⟨by rw [hdq]; omega, by rw [hdq]; omega, hr, by rw [hrm, e], h0, by omega, ?_⟩, ?_, ?_⟩
    · rw [hrm, hdq]; omega
    · rw [← e, hdq]; omega
    · rw [hsz, hdq]; omega
theorem DA.alloc2 {w W W' : World} {B lb bb g : Nat} {lv : Array Value} {xs : List Int} (h : DA w B lb bb g lv xs W) (k : KK W W') : DA w B lb bb g lv xs W' := h.kept k.k
end Go.Proofs.Ytdgkemadhooogaa
