/- cmp.Compare, cmp.Or, globals.Risen. -/
import Derived.Test.YticeionjlknlcaaBase2
import Derived.Test.YticeionjlknlcaaRd
import Derived.Test.YticeionjlknlcaaProg
import Derived.Deep.RegionHeld3
import Derived.Deep.CutRange
namespace Go.Proofs.Yticeionjlknlcaa
set_option linter.unusedVariables false
set_option linter.unusedSimpArgs false
open Go.RowKit

def cmpI (x y : Int) : Int := if x < y then -1 else if y < x then 1 else 0
theorem cmp64_any (x y : Int) (w : World) : Calls Try.prog 54 #[.int .i64 x, .int .i64 y] w fun e w' => e = .returned (.int .i64 (cmpI x y)) ∧ w = w' := by
  unfold cmpI
  by_cases h1 : x < y
  · rw [if_pos h1]
    go_enter Try.func54, Try.ntmps54
    go_wp2
    go_ret
    exact ⟨rfl, rfl⟩
  · rw [if_neg h1]
    by_cases h2 : y < x
    · rw [if_pos h2]
      go_enter Try.func54, Try.ntmps54
      go_wp2
      go_ret
      exact ⟨rfl, rfl⟩
    · rw [if_neg h2]
      go_enter Try.func54, Try.ntmps54
      go_wp2
      go_ret
      exact ⟨rfl, rfl⟩
theorem cmpint_any (x y : Int) (w : World) : Calls Try.prog 55 #[.int .i64 x, .int .i64 y] w fun e w' => e = .returned (.int .i64 (cmpI x y)) ∧ w = w' := by
  unfold cmpI
  by_cases h1 : x < y
  · rw [if_pos h1]
    go_enter Try.func55, Try.ntmps55
    go_wp2
    go_ret
    exact ⟨rfl, rfl⟩
  · rw [if_neg h1]
    by_cases h2 : y < x
    · rw [if_pos h2]
      go_enter Try.func55, Try.ntmps55
      go_wp2
      go_ret
      exact ⟨rfl, rfl⟩
    · rw [if_neg h2]
      go_enter Try.func55, Try.ntmps55
      go_wp2
      go_ret
      exact ⟨rfl, rfl⟩
theorem or2_any (a b : Int) (g : Nat) (w : World) (hg : Blk w g #[.int .i64 a, .int .i64 b] 3) : Calls Try.prog 53 #[.slice (some ⟨g, 0, none⟩) 2 2] w fun e w' => e = .returned (.int .i64 (if a = 0 then b else a)) ∧ w = w' := by
  have hc := hg.cell
  have HG := Lib.hid hg
  clear hg
  go_enter Try.func53, Try.ntmps53
  go_wp2_with fail
  go_loopw [8] (fun i wr => ∃ k : Nat, i = .int .i64 k ∧ k ≤ 2 ∧ Hid (1 ≤ k → a = 0) ∧ Hid (2 ≤ k → b = 0) ∧ Hid (w = wr)) (fun i _ => 2 - (intOf i).toNat)
  case atStart => exact ⟨0, rfl, by omega, Lib.hid (fun h => by omega), Lib.hid (fun h => by omega), Lib.hid rfl⟩
  case round =>
    obtain ⟨k, rfl, hk, HA, HB, HW⟩ := hrel
    have hw := HW.out
    subst hw
    obtain rfl | rfl | rfl : k = 0 ∨ k = 1 ∨ k = 2 := by omega
    · by_cases h0 : a = 0
      · have hb0 : (a != 0) = false := by simp [h0]
        have HA0 := Lib.hid h0
        clear h0
        go_wp2_with fail
        go_roundw
        case rel => exact ⟨1, by go_num, by omega, Lib.hid (fun _ => HA0.out), Lib.hid (fun h => by omega), by first | exact Lib.hid rfl | exact Lib.hid trivial⟩
        case measure => simp [intOf]
      · have hb0 : (a != 0) = true := by simp [h0]
        have HA0 := Lib.hid h0
        clear h0
        go_wp2_with fail
        go_ret
        exact ⟨rfl, rfl⟩
    · have ha0 : a = 0 := HA.out (by omega)
      subst ha0
      by_cases h0 : b = 0
      · have hb0 : (b != 0) = false := by simp [h0]
        have HA0 := Lib.hid h0
        clear h0
        go_wp2_with fail
        go_roundw
        case rel => exact ⟨2, by go_num, by omega, (by first | exact Lib.hid (fun _ => rfl) | exact Lib.hid (fun _ => trivial)), Lib.hid (fun _ => HA0.out), by first | exact Lib.hid rfl | exact Lib.hid trivial⟩
        case measure => simp [intOf]
      · have hb0 : (b != 0) = true := by simp [h0]
        have HA0 := Lib.hid h0
        clear h0
        go_wp2_with fail
        go_ret
        exact ⟨rfl, rfl⟩
    · have ha0 : a = 0 := HA.out (by omega)
      have hb0 : b = 0 := HB.out (by omega)
      subst ha0 hb0
      go_wp2_with fail
      go_ret
      exact ⟨rfl, rfl⟩
/-- Has it risen? -/
def riB (g1 s1 g2 s2 : Int) : Bool := decide (g1 < g2 ∨ (g1 = g2 ∧ s1 < s2))
theorem ri_cmp (g1 s1 g2 s2 : Int) : decide ((if cmpI g1 g2 = 0 then cmpI s1 s2 else cmpI g1 g2) < 0) = riB g1 s1 g2 s2 := by
  unfold riB cmpI
  by_cases a : g1 < g2
  · simp [a]
  · by_cases b : g2 < g1
    · have : ¬ g1 = g2 := by omega
      simp [a, b, this]
    · have e : g1 = g2 := by omega
      subst e
      by_cases c : s1 < s2
      · simp [c]
      · by_cases d : s2 < s1 <;> simp [c, d]
theorem risen_any (g1 s1 g2 s2 : Int) (w : World) : Calls Try.prog 27 #[.agg #[.int .i64 g1, .int .i64 s1], .agg #[.int .i64 g2, .int .i64 s2]] w fun e w' => e = .returned (.bool (riB g1 s1 g2 s2)) ∧ Kept w w' := by
  have HK := Lib.hid (((Upd.refl (fun _ => False) w).alloc (.cells #[.int .i64 g1, .int .i64 s1] 48)).alloc (.cells #[.int .i64 g2, .int .i64 s2] 48))
  have HA := Lib.hid ((Blk.new w #[.int .i64 g1, .int .i64 s1] 48).alloc (.cells #[.int .i64 g2, .int .i64 s2] 48))
  have HB := Lib.hid (Blk.new (w.alloc (.cells #[.int .i64 g1, .int .i64 s1] 48)) #[.int .i64 g2, .int .i64 s2] 48)
  obtain ⟨c1, hc1⟩ : ∃ c, cmpI g1 g2 = c := ⟨_, rfl⟩
  obtain ⟨c2, hc2⟩ : ∃ c, cmpI s1 s2 = c := ⟨_, rfl⟩
  have H1 := fun w => Lib.hid (hc1 ▸ cmp64_any g1 g2 w)
  have H2 := fun w => Lib.hid (hc2 ▸ cmpint_any s1 s2 w)
  have HRI : Hid (decide ((if c1 = 0 then c2 else c1) < 0) = riB g1 s1 g2 s2) := Lib.hid (by rw [← hc1, ← hc2]; exact ri_cmp _ _ _ _)
  clear hc1 hc2
  go_enter Try.func27, Try.ntmps27
  go_upto_region 1 with (fail)
  rw [show (w.alloc (.cells #[.int .i64 g1, .int .i64 s1] 48)).heap.size = w.heap.size + 1 by simp] at HB
  generalize ((w.alloc (.cells #[.int .i64 g1, .int .i64 s1] 48)).alloc (.cells #[.int .i64 g2, .int .i64 s2] 48)) = W at HA HB HK ⊢
  generalize w.heap.size + 1 = b3 at HB ⊢
  generalize w.heap.size = b2 at HA ⊢
  have C0 : (∀ i, W.drew.cell? ⟨b2, i, none⟩ = (#[.int .i64 g1, .int .i64 s1] : Array Value)[i]?) ∧ (∀ i, W.drew.cell? ⟨b3, i, none⟩ = (#[.int .i64 g2, .int .i64 s2] : Array Value)[i]?) := ⟨HA.out.drew.cell, HB.out.drew.cell⟩
  have C1 : (∀ i, (W.drew.alloc (.cells #[.int .i64 c1, .int .i64 c2] 3)).cell? ⟨b2, i, none⟩ = (#[.int .i64 g1, .int .i64 s1] : Array Value)[i]?) ∧ (∀ i, (W.drew.alloc (.cells #[.int .i64 c1, .int .i64 c2] 3)).cell? ⟨b3, i, none⟩ = (#[.int .i64 g2, .int .i64 s2] : Array Value)[i]?) := ⟨(HA.out.drew.alloc _).cell, (HB.out.drew.alloc _).cell⟩
  have HKZ := Lib.hid (HK.out.trans ((Upd.refl (fun _ => False) W).drew.alloc (.cells #[.int .i64 c1, .int .i64 c2] 3)))
  obtain ⟨r, hr⟩ : ∃ r, (if c1 = 0 then c2 else c1) = r := ⟨_, rfl⟩
  rw [hr] at HRI
  have HO := Lib.hid (hr ▸ or2_any c1 c2 _ _ (Blk.new W.drew #[.int .i64 c1, .int .i64 c2] 3))
  clear hr
  go_region_held3 (fun w' => (∀ i, w'.cell? ⟨b2, i, none⟩ = (#[.int .i64 g1, .int .i64 s1] : Array Value)[i]?) ∧ (∀ i, w'.cell? ⟨b3, i, none⟩ = (#[.int .i64 g2, .int .i64 s2] : Array Value)[i]?))
    (first | exact C0 | exact C1)
    ((first
      | (go_at_call 53; refine HO.out.mono ?_; rintro e w' ⟨rfl, rfl⟩)
      | (go_at_call 55; refine (H2 _).out.mono ?_; rintro e w' ⟨rfl, rfl⟩)
      | (go_at_call 54; refine (H1 _).out.mono ?_; rintro e w' ⟨rfl, rfl⟩)))
  go_wp2_with fail
  go_ret
  exact ⟨congrArg (fun z : Bool => Ending.returned (Value.bool z)) HRI.out, HKZ.out⟩
end Go.Proofs.Yticeionjlknlcaa
