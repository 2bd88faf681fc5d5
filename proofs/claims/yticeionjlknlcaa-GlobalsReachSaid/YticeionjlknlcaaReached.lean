/- globals.Reached. -/
import Derived.Test.YticeionjlknlcaaAwake20
namespace Go.Proofs.Yticeionjlknlcaa
set_option linter.unusedVariables false
set_option linter.unusedSimpArgs false
open Go.RowKit
attribute [local go_sem] cell?_ext

theorem infoBoolG : (Try.prog.info? 4).map (fun i => (i.zero, i.size, i.bytes)) = some (some (.bool false), 1, 1) := by kernel_rfl
/-- Who is below N. -/
def rcL (N : Int) (X : List Int) : List Bool := X.map fun k => decide (k < N)
theorem rcL_next {N : Int} {X : List Int} {k : Nat} (h : k < X.length) : rcL N (X.take (k + 1)) = rcL N (X.take k) ++ [decide (X.getD k 0 < N)] := by
  unfold rcL
  rw [List.take_succ_eq_append_getElem h, List.map_append, List.map_singleton]
  simp [List.getD, List.getElem?_eq_getElem h]
def ReachEnd (w : World) (N S T : Int) (n m : Nat) (ys : List Ar) (rs : List Int) (e : Ending) (w' : World) : Prop :=
  ∃ a c X, e = .returned (.slice a n c) ∧ IsLow S n m ys rs (allN n N T) X ∧ Rd w' a ((rcL N X).map Value.bool) ∧ (∀ ad, a = some ad → w.heap.size ≤ ad.block) ∧ Kept w w'
set_option maxRecDepth 100000 in
set_option maxHeartbeats 8000000 in
theorem reached_ok (N S T : Int) (n m : Nat) (a3 a4 a5 a6 a7 a8 : Option Addr) (c3 c4 c5 c6 c7 c8 : Nat) (ys : List Ar) (ra : Option Addr) (rc : Nat) (rs : List Int) (w : World) (hg : Gr N S T n m ys) (hrm : rs.length = m) (hcr : CsrR w n ys a3 a4 a5 a6 a7 a8) (hr : Rd w ra (lv rs)) :
    Calls Try.prog 29 #[.agg #[.int .i64 N, .int .i64 S, .int .i64 T, .slice a3 (n + 1) c3, .slice a4 m c4, .slice a5 m c5, .slice a6 m c6, .slice a7 m c7, .slice a8 m c8], .slice ra m rc] w (ReachEnd w N S T n m ys rs) := by
  have HX := fun (w : World) (hcr : CsrR w n ys a3 a4 a5 a6 a7 a8) (hr : Rd w ra (lv rs)) => Lib.hid (show Calls Try.prog 25 #[.agg #[.int .i64 N, .int .i64 S, .int .i64 T, .slice a3 (n + 1) c3, .slice a4 m c4, .slice a5 m c5, .slice a6 m c6, .slice a7 m c7, .slice a8 m c8], .slice ra m rc, .int .i64 1] w (ExactEnd w N S T n m ys rs) from exact_ok N S T n m a3 a4 a5 a6 a7 a8 c3 c4 c5 c6 c7 c8 ys ra rc rs 1 w hg hrm hcr hr (by omega) (by omega))
  have hn16 : n ≤ 16 := by have := hg.len; omega
  have hA := (Upd.refl (fun _ => False) w).alloc (.cells #[.int .i64 N, .int .i64 S, .int .i64 T, .slice a3 (n + 1) c3, .slice a4 m c4, .slice a5 m c5, .slice a6 m c6, .slice a7 m c7, .slice a8 m c8] 29)
  have HK1 : Hid (Kept w (w.alloc (.cells #[.int .i64 N, .int .i64 S, .int .i64 T, .slice a3 (n + 1) c3, .slice a4 m c4, .slice a5 m c5, .slice a6 m c6, .slice a7 m c7, .slice a8 m c8] 29))) := Lib.hid hA
  have HC1 := Lib.hid (HX _ (hcr.kept hA) (hr.kept hA)).out
  have HCB : Hid (Blk (w.alloc (.cells #[.int .i64 N, .int .i64 S, .int .i64 T, .slice a3 (n + 1) c3, .slice a4 m c4, .slice a5 m c5, .slice a6 m c6, .slice a7 m c7, .slice a8 m c8] 29)) w.heap.size #[.int .i64 N, .int .i64 S, .int .i64 T, .slice a3 (n + 1) c3, .slice a4 m c4, .slice a5 m c5, .slice a6 m c6, .slice a7 m c7, .slice a8 m c8] 29) := Lib.hid (Blk.new _ _ _)
  clear hg hrm hcr hr hA HX
  go_enter Try.func29, Try.ntmps29
  go_wp2_with fail
  change Calls _ _ _ (w.alloc (.cells #[.int .i64 N, .int .i64 S, .int .i64 T, .slice a3 (n + 1) c3, .slice a4 m c4, .slice a5 m c5, .slice a6 m c6, .slice a7 m c7, .slice a8 m c8] 29)) _
  refine HC1.out.mono ?_
  rintro e w1 ⟨xb, X, rfl, hX, hB, -, hk⟩
  have HK2 := Lib.hid (HK1.out.trans hk)
  have HCB2 := Lib.hid (HCB.out.kept hk)
  have HXL := Lib.hid hX
  have HXB := Lib.hid hB
  have HXN : Hid (X.length = n) := Lib.hid hX.len
  clear hX hB hk HK1 HCB HC1
  generalize w.heap.size = cb at HCB2 ⊢
  go_wp2_with fail
  go_loopw [5, 12] (fun y z wr => ∃ (k : Nat) (oa : Option Addr) (oc : Nat), y = .slice oa k oc ∧ z = .int .i64 k ∧ k ≤ n ∧ Hid (wr.ownsRow w1.heap.size 4 1 (.slice oa k oc) k ((rcL N (X.take k)).map Value.bool)) ∧ Hid (Kept w1 wr)) (fun _ z _ => n - (intOf z).toNat)
  case atStart => exact ⟨0, none, 0, rfl, rfl, by omega, Lib.hid (by simpa [rcL] using World.ownsRow_nil _ _ _ _), Lib.hid (Upd.refl _ _)⟩
  case round =>
    obtain ⟨k, oa, oc, rfl, rfl, hk, HO, HK⟩ := hrel
    have bx := (HCB2.out.kept HK.out).cell
    by_cases hik : k < n
    · have xc : wr.cell? ⟨xb, k, none⟩ = some (.int .i64 (X.getD k 0)) := by rw [(HXB.out.kept HK.out).cell]; simp only [List.getElem?_toArray]; exact lv_get (by rw [HXN.out]; exact hik)
      have HNX := Lib.hid (rcL_next (N := N) (X := X) (k := k) (by rw [HXN.out]; exact hik))
      generalize X.getD k 0 = xv at xc HNX
      obtain ⟨z, hz⟩ : ∃ z, decide (xv < N) = z := ⟨_, rfl⟩
      rw [hz] at HNX
      have i1 : (0 : Int) ≤ (k : Int) := by omega
      have i2 : (k : Int) < (n : Int) := by omega
      obtain ⟨i0, hi0, hz0, hz1, hz2⟩ := info_parts infoBoolG
      have ho := HO.out
      have hbs := HK.out.size
      cases z
      all_goals
        go_wp2_with (first | (at_builtin; refine wpList_push rfl _ _ 27 rfl w1.heap.size 4 i0 (.bool false) 1 Try.underlying27 hi0 hz0 hz1 hz2 rfl (by decide) _ _ _ rfl ho _ rfl rfl (by omega) hbs ?_; intro gg cap' w7 hown hg2; clear hi0 hz0 hz1 hz2 ho hbs) | fail)
        have HK3 : Hid (Kept w1 w7) := Lib.hid (hg2.kept HK.out HO.out (Nat.le_refl _))
        have HO3 : Hid (w7.ownsRow w1.heap.size 4 1 (.slice (some ⟨gg, 0, none⟩) (k + 1) cap') (k + 1) ((rcL N (X.take (k + 1))).map Value.bool)) := Lib.hid (by rw [HNX.out, List.map_append]; exact hown)
        clear hown hg2 HO HK HNX bx xc hz
        go_wp2_with fail
        go_roundw
        case rel => exact ⟨k + 1, _, _, rfl, by go_num, by omega, HO3, HK3⟩
        case measure => simp [intOf]; omega
    · obtain rfl : n = k := by omega
      have HTA : Hid (X.take n = X) := Lib.hid (List.take_of_length_le (by rw [HXN.out]; exact Nat.le_refl _))
      go_wp2_with fail
      go_ret
      exact ⟨oa, oc, X, rfl, HXL.out, by
        obtain ⟨a', c', e, hr⟩ := Rd.owns HO.out
        cases e
        rwa [HTA.out] at hr, fun ad e => by
        have h1 := (World.ownsRow.lt HO.out ad.block (by rw [e]; rfl)).1
        have h2 := HK2.out.size
        omega, HK2.out.trans HK.out⟩
set_option maxHeartbeats 1000000 in
theorem bools_eq (a a' : Option Addr) (c c' : Nat) (xs : List Bool) (n : Nat) (w : World) (hx : Rd w a (xs.map Value.bool)) (hy : Rd w a' (xs.map Value.bool)) (hn : xs.length = n) (mx : n ≤ 1000000000) :
    Calls Try.prog 30 #[.slice a n c, .slice a' n c'] w fun e w' => e = .returned (.bool true) ∧ Kept w w' := by
  have HX := Lib.hid hx
  have HY := Lib.hid hy
  have HN := Lib.hid hn
  clear hx hy hn
  go_enter Try.func30, Try.ntmps30
  go_wp2_with fail
  go_loopw [13] (fun i wr => ∃ k : Nat, i = .int .i64 k ∧ k ≤ n ∧ Hid (Kept w wr)) (fun i _ => n - (intOf i).toNat)
  case atStart => exact ⟨0, rfl, by omega, Lib.hid (Upd.refl _ _)⟩
  case round =>
    obtain ⟨k, rfl, hk, HK⟩ := hrel
    by_cases hlt : k < n
    · have hkx : k < xs.length := by rw [HN.out]; exact hlt
      obtain ⟨b, off, rfl, hc1⟩ := (HX.out.kept HK.out).at k (by simpa using hkx)
      obtain ⟨b', off', rfl, hc2⟩ := (HY.out.kept HK.out).at k (by simpa using hkx)
      rw [show (xs.map Value.bool)[k]? = some (.bool xs[k]) by simp [hkx]] at hc1 hc2
      generalize xs[k] = z at hc1 hc2
      have j0 : (0 : Int) ≤ (k : Int) := by omega
      have j1 : (k : Int) < (n : Int) := by omega
      clear hkx
      cases z
      all_goals
        go_wp2_with fail
        go_quiet (fail)
        have HK3 : Hid (Kept w (wr.drewN nq)) := Lib.hid (HK.out.trans ⟨rfl, rfl, rfl, Nat.le_refl _, fun _ _ _ => rfl⟩)
        clear HK hc1 hc2
        go_wp2_with fail
        go_roundw
        case rel => exact ⟨k + 1, by go_num, by omega, HK3⟩
        case measure => simp [intOf]; omega
    · go_wp2_with fail
      go_ret
      exact ⟨rfl, HK.out⟩
end Go.Proofs.Yticeionjlknlcaa
