/- repair.Lowered, acequiaref19.Lowered. (printed by gen_lowered.py) -/
import Derived.Test.YticeionjlknlcaaRefLower
namespace Go.Proofs.Yticeionjlknlcaa
set_option linter.unusedVariables false
set_option linter.unusedSimpArgs false
open Go.RowKit
attribute [local go_sem] cell?_ext

/-- Who of the first k is lowered. -/
def lowD (L hs : List Int) (k : Nat) : List Nat := (List.range k).filter fun v => decide (L.getD v 0 < hs.getD v 0)
theorem lowD_len (L hs : List Int) (k : Nat) : (lowD L hs k).length ≤ k := by
  have := List.length_filter_le (fun v => decide (L.getD v 0 < hs.getD v 0)) (List.range k)
  simpa [lowD] using this
theorem lowD_yes {L hs : List Int} {k : Nat} (h : L.getD k 0 < hs.getD k 0) : lowD L hs (k + 1) = lowD L hs k ++ [k] := by
  unfold lowD
  rw [range_filter_succ, if_pos (by simpa using h)]
theorem lowD_no {L hs : List Int} {k : Nat} (h : ¬ L.getD k 0 < hs.getD k 0) : lowD L hs (k + 1) = lowD L hs k := by
  unfold lowD
  rw [range_filter_succ, if_neg (by simpa using h), List.append_nil]
theorem row_rdl {w : World} {base n c : Nat} {e : TypeId} {a : Option Addr} {vs : List Value} (h : w.ownsRow base e 1 (.slice a n c) n vs) : Rd w a vs := by
  obtain ⟨a', c', e9, h1⟩ := Rd.owns h
  cases e9
  exact h1
/-- What Lowered hands back. -/
def LwdEnd (w : World) (N S T : Int) (n m : Nat) (ys : List Ar) (rs hs : List Int) (e : Ending) (w' : World) : Prop :=
  ∃ a k c L, e = .returned (.slice a k c) ∧ LowL N S T n m ys rs hs L ∧ (lowD L hs L.length).length = k ∧ Rd w' a (nv (lowD L hs L.length)) ∧ Kept w w'
set_option maxRecDepth 100000 in
set_option maxHeartbeats 8000000 in
theorem lowered_any (N S T : Int) (n m : Nat) (a3 a4 a5 a6 a7 a8 : Option Addr) (c3 c4 c5 c6 c7 c8 : Nat) (ys : List Ar) (ra : Option Addr) (rc : Nat) (rs : List Int) (ha : Option Addr) (hc : Nat) (hs : List Int) (w : World) (hg : Gr N S T n m ys) (hcr : CsrR w n ys a3 a4 a5 a6 a7 a8) (hr : Rd w ra (lv rs)) (hh : Rd w ha (lv hs)) (hm : hs.length ≤ 9223372036854775807) (hrm : rs.length ≤ 9223372036854775807) :
    Calls Try.prog 18 #[.agg #[.int .i64 N, .int .i64 S, .int .i64 T, .slice a3 (n + 1) c3, .slice a4 m c4, .slice a5 m c5, .slice a6 m c6, .slice a7 m c7, .slice a8 m c8], .slice ra rs.length rc, .slice ha hs.length hc] w (LwdEnd w N S T n m ys rs hs) := by
  have HLW : ∀ w', Kept w w' → Hid (Calls Try.prog 16 #[.agg #[.int .i64 N, .int .i64 S, .int .i64 T, .slice a3 (n + 1) c3, .slice a4 m c4, .slice a5 m c5, .slice a6 m c6, .slice a7 m c7, .slice a8 m c8], .slice ra rs.length rc, .slice ha hs.length hc] w' (LowEnd w' N S T n m ys rs hs)) := fun w' k =>
    Lib.hid (lower_any N S T n m a3 a4 a5 a6 a7 a8 c3 c4 c5 c6 c7 c8 ys ra rc rs ha hc hs w' hg (hcr.kept k) (hr.kept k) (hh.kept k) hm hrm)
  have hnl := hg.len
  obtain ⟨rl, hrl⟩ : ∃ rl, rs.length = rl := ⟨_, rfl⟩
  obtain ⟨hl, hhl⟩ : ∃ hl, hs.length = hl := ⟨_, rfl⟩
  have HHS := Lib.hid hh
  have HHL := Lib.hid hhl
  rw [hrl] at HLW ⊢
  rw [hhl] at HLW hm ⊢
  have hn16 : 2 ≤ n ∧ n ≤ 16 := ⟨hnl.2.1, hnl.2.2.1⟩
  have HNL := Lib.hid hnl
  clear hg hcr hr hh hrl hhl hnl hrm
  go_enter Try.func18, Try.ntmps18
  have HK1 : Hid (Kept w (w.alloc (.cells #[.int .i64 N, .int .i64 S, .int .i64 T, .slice a3 (n + 1) c3, .slice a4 m c4, .slice a5 m c5, .slice a6 m c6, .slice a7 m c7, .slice a8 m c8] 29))) := Lib.hid ((Upd.refl (fun _ => False) w).alloc _)
  have HLW1 := HLW _ HK1.out
  clear HLW
  go_wp2_with fail
  refine HLW1.out.mono ?_
  rintro e w4 ⟨la, l, lc, L, rfl, hll, hlow, hrd, hlc, -, hk⟩
  have HK4 := Lib.hid (HK1.out.trans hk)
  have HLL := Lib.hid hll
  have HLO := Lib.hid hlow
  have HRD := Lib.hid hrd
  have hl16 : l ≤ 16 := by
    unfold LowL at hlow
    split at hlow
    · have := hlow.len; omega
    · subst hlow; simp at hll; omega
  have HLH : Hid (l ≤ hl) := Lib.hid (by
    unfold LowL at hlow
    split at hlow
    · rename_i h
      have h1 := hlow.len
      unfold mayB at h
      have h2 := (right_parts.1 (Bool.and_eq_true_iff.1 h).2).1
      have h3 := HHL.out
      have h4 := HNL.out.1
      omega
    · subst hlow; simp at hll; omega)
  clear hll hlow hrd hk HK1 HLW1
  go_wp2_with fail
  go_loopw [7, 15] (fun y z wr => ∃ (j k : Nat) (oa : Option Addr) (oc : Nat), z = .int .i64 j ∧ j ≤ l ∧ y = .slice oa k oc ∧ Hid ((lowD L hs j).length = k) ∧ Hid (wr.ownsRow w4.heap.size 3 1 (.slice oa k oc) k (nv (lowD L hs j))) ∧ Hid (Kept w4 wr) ∧ Hid (w4.heap.size ≤ wr.heap.size)) (fun _ z _ => l - (intOf z).toNat)
  case atStart => exact ⟨0, 0, none, 0, rfl, by omega, rfl, Lib.hid rfl, Lib.hid (World.ownsRow_nil _ _ _ _), Lib.hid (Upd.refl _ _), Lib.hid (Nat.le_refl _)⟩
  case round =>
    obtain ⟨j, k, oa, oc, rfl, hj, rfl, HKL, HO, HK, HUP⟩ := hrel
    by_cases hjl : j < l
    · have hjI : (j : Int) < (l : Int) := by omega
      have hj0 : (0 : Int) ≤ (j : Int) := by omega
      have hjh : (j : Int) < (hl : Int) := by have := HLH.out; omega
      obtain ⟨b5, o5, e5, f5⟩ := (HRD.out.kept HK.out).num (i := j) (by rw [HLL.out]; exact hjl)
      obtain ⟨b6, o6, e6, f6⟩ := ((HHS.out.kept HK4.out).kept HK.out).num (i := j) (by rw [HHL.out]; have := HLH.out; omega)
      subst e5
      subst e6
      obtain ⟨x, hx⟩ : ∃ x, L.getD j 0 = x := ⟨_, rfl⟩
      obtain ⟨y, hy⟩ : ∃ y, hs.getD j 0 = y := ⟨_, rfl⟩
      rw [hx] at f5
      rw [hy] at f6
      have HXY := Lib.hid (And.intro hx hy)
      have hk16 : k ≤ 16 := by have h1 := HKL.out; have h2 := lowD_len L hs j; omega
      clear hx hy
      by_cases hxy : x < y
      · as_aux_lemma =>
        have HD : Hid (lowD L hs (j + 1) = lowD L hs j ++ [j]) := Lib.hid (lowD_yes (by rw [HXY.out.1, HXY.out.2]; exact hxy))
        have HK2 := HK
        have HO2 := HO
        have HUP2 := HUP
        obtain ⟨w9, hw9⟩ : ∃ w9, wr = w9 := ⟨_, rfl⟩
        subst hw9
        obtain ⟨i0, hi0, hz0, hz1, hz2⟩ := info_parts infoInt
        have ho := HO2.out
        have hbs := HUP2.out
        go_wp2_with (first | (at_builtin; refine wpList_push rfl _ _ 26 rfl w4.heap.size 3 i0 (.int .i64 0) 8 Try.underlying26 hi0 hz0 hz1 hz2 rfl (by decide) _ _ _ rfl ho (.int .i64 (j : Int)) rfl rfl (by omega) hbs ?_; intro gg cap' w7 hown hg2; clear hi0 hz0 hz1 hz2 ho hbs) | fail)
        have HO3 : Hid (w7.ownsRow w4.heap.size 3 1 (.slice (some ⟨gg, 0, none⟩) (k + 1) cap') (k + 1) (nv (lowD L hs (j + 1)))) := Lib.hid (by rw [HD.out, show nv (lowD L hs j ++ [j]) = nv (lowD L hs j) ++ [.int .i64 (j : Int)] by simp [nv]]; exact hown)
        have HK3 : Hid (Kept w4 w7) := Lib.hid (hg2.kept HK2.out HO2.out (Nat.le_refl _))
        have HUP3 : Hid (w4.heap.size ≤ w7.heap.size) := Lib.hid HK3.out.size
        have HKL3 : Hid ((lowD L hs (j + 1)).length = k + 1) := Lib.hid (by rw [HD.out, List.length_append, HKL.out]; rfl)
        clear hown hg2 HO HK HUP HO2 HK2 HUP2 HKL HD f5 f6
        go_roundw
        case rel => exact ⟨j + 1, k + 1, _, _, by go_num, by omega, rfl, HKL3, HO3, HK3, HUP3⟩
        case measure => simp [intOf]; omega
      · as_aux_lemma =>
        have HD : Hid (lowD L hs (j + 1) = lowD L hs j) := Lib.hid (lowD_no (by rw [HXY.out.1, HXY.out.2]; exact hxy))
        have g1 : decide (x < y) = false := decide_eq_false hxy
        have HK2 := HK
        have HO2 := HO
        have HUP2 := HUP
        obtain ⟨w9, hw9⟩ : ∃ w9, wr = w9 := ⟨_, rfl⟩
        subst hw9
        go_wp2_with fail
        go_roundw
        case rel => exact ⟨j + 1, k, oa, oc, by go_num, by omega, rfl, by rw [HD.out]; exact HKL, by rw [HD.out]; exact HO2, HK2, HUP2⟩
        case measure => simp [intOf]; omega
    · as_aux_lemma =>
      have hjI : ¬ (j : Int) < (l : Int) := by omega
      obtain rfl : l = j := by omega
      go_wp2_with fail
      go_ret
      exact ⟨oa, k, oc, L, rfl, HLO.out, by rw [HLL.out]; exact HKL.out, by rw [HLL.out]; exact row_rdl HO.out, HK4.out.trans HK.out⟩
set_option maxRecDepth 100000 in
set_option maxHeartbeats 8000000 in
theorem refLowered_any (N S T : Int) (n m : Nat) (a3 a4 a5 a6 a7 a8 : Option Addr) (c3 c4 c5 c6 c7 c8 : Nat) (ys : List Ar) (ra : Option Addr) (rc : Nat) (rs : List Int) (ha : Option Addr) (hc : Nat) (hs : List Int) (w : World) (hg : Gr N S T n m ys) (hcr : CsrR w n ys a3 a4 a5 a6 a7 a8) (hr : Rd w ra (lv rs)) (hh : Rd w ha (lv hs)) (hm : hs.length ≤ 9223372036854775807) (hrm : rs.length ≤ 9223372036854775807) (hso : SomeOr ha hs.length hc) :
    Calls Try.prog 19 #[.agg #[.int .i64 N, .int .i64 S, .int .i64 T, .slice a3 (n + 1) c3, .slice a4 m c4, .slice a5 m c5, .slice a6 m c6, .slice a7 m c7, .slice a8 m c8], .slice ra rs.length rc, .slice ha hs.length hc] w (LwdEnd w N S T n m ys rs hs) := by
  have HLW : ∀ w', Kept w w' → Hid (Calls Try.prog 17 #[.agg #[.int .i64 N, .int .i64 S, .int .i64 T, .slice a3 (n + 1) c3, .slice a4 m c4, .slice a5 m c5, .slice a6 m c6, .slice a7 m c7, .slice a8 m c8], .slice ra rs.length rc, .slice ha hs.length hc] w' (LowEnd w' N S T n m ys rs hs)) := fun w' k =>
    Lib.hid (refLower_any N S T n m a3 a4 a5 a6 a7 a8 c3 c4 c5 c6 c7 c8 ys ra rc rs ha hc hs w' hg (hcr.kept k) (hr.kept k) (hh.kept k) hm hrm hso)
  have hnl := hg.len
  obtain ⟨rl, hrl⟩ : ∃ rl, rs.length = rl := ⟨_, rfl⟩
  obtain ⟨hl, hhl⟩ : ∃ hl, hs.length = hl := ⟨_, rfl⟩
  have HHS := Lib.hid hh
  have HHL := Lib.hid hhl
  rw [hrl] at HLW ⊢
  rw [hhl] at HLW hm ⊢
  have hn16 : 2 ≤ n ∧ n ≤ 16 := ⟨hnl.2.1, hnl.2.2.1⟩
  have HNL := Lib.hid hnl
  clear hg hcr hr hh hrl hhl hnl hrm hso
  go_enter Try.func19, Try.ntmps19
  have HK1 : Hid (Kept w (w.alloc (.cells #[.int .i64 N, .int .i64 S, .int .i64 T, .slice a3 (n + 1) c3, .slice a4 m c4, .slice a5 m c5, .slice a6 m c6, .slice a7 m c7, .slice a8 m c8] 29))) := Lib.hid ((Upd.refl (fun _ => False) w).alloc _)
  have HLW1 := HLW _ HK1.out
  clear HLW
  go_wp2_with fail
  refine HLW1.out.mono ?_
  rintro e w4 ⟨la, l, lc, L, rfl, hll, hlow, hrd, hlc, -, hk⟩
  have HK4 := Lib.hid (HK1.out.trans hk)
  have HLL := Lib.hid hll
  have HLO := Lib.hid hlow
  have HRD := Lib.hid hrd
  have hl16 : l ≤ 16 := by
    unfold LowL at hlow
    split at hlow
    · have := hlow.len; omega
    · subst hlow; simp at hll; omega
  have HLH : Hid (l ≤ hl) := Lib.hid (by
    unfold LowL at hlow
    split at hlow
    · rename_i h
      have h1 := hlow.len
      unfold mayB at h
      have h2 := (right_parts.1 (Bool.and_eq_true_iff.1 h).2).1
      have h3 := HHL.out
      have h4 := HNL.out.1
      omega
    · subst hlow; simp at hll; omega)
  clear hll hlow hrd hk HK1 HLW1
  go_wp2_with fail
  go_loopw [8, 9] (fun y z wr => ∃ (j k : Nat) (oa : Option Addr) (oc : Nat), z = .int .i64 j ∧ j ≤ l ∧ y = .slice oa k oc ∧ Hid ((lowD L hs j).length = k) ∧ Hid (wr.ownsRow w4.heap.size 3 1 (.slice oa k oc) k (nv (lowD L hs j))) ∧ Hid (Kept w4 wr) ∧ Hid (w4.heap.size ≤ wr.heap.size)) (fun _ z _ => l - (intOf z).toNat)
  case atStart => exact ⟨0, 0, none, 0, rfl, by omega, rfl, Lib.hid rfl, Lib.hid (World.ownsRow_nil _ _ _ _), Lib.hid (Upd.refl _ _), Lib.hid (Nat.le_refl _)⟩
  case round =>
    obtain ⟨j, k, oa, oc, rfl, hj, rfl, HKL, HO, HK, HUP⟩ := hrel
    by_cases hjl : j < l
    · have hjI : (j : Int) < (l : Int) := by omega
      have hj0 : (0 : Int) ≤ (j : Int) := by omega
      have hjh : (j : Int) < (hl : Int) := by have := HLH.out; omega
      obtain ⟨b5, o5, e5, f5⟩ := (HRD.out.kept HK.out).num (i := j) (by rw [HLL.out]; exact hjl)
      obtain ⟨b6, o6, e6, f6⟩ := ((HHS.out.kept HK4.out).kept HK.out).num (i := j) (by rw [HHL.out]; have := HLH.out; omega)
      subst e5
      subst e6
      obtain ⟨x, hx⟩ : ∃ x, L.getD j 0 = x := ⟨_, rfl⟩
      obtain ⟨y, hy⟩ : ∃ y, hs.getD j 0 = y := ⟨_, rfl⟩
      rw [hx] at f5
      rw [hy] at f6
      have HXY := Lib.hid (And.intro hx hy)
      have hk16 : k ≤ 16 := by have h1 := HKL.out; have h2 := lowD_len L hs j; omega
      clear hx hy
      by_cases hxy : x < y
      · as_aux_lemma =>
        have HD : Hid (lowD L hs (j + 1) = lowD L hs j ++ [j]) := Lib.hid (lowD_yes (by rw [HXY.out.1, HXY.out.2]; exact hxy))
        go_upto_region 6 with (fail)
        refine wp_region_kept (by kernel_rfl) (by kernel_rfl) ?_
        repeat (go_big_quiet_step (fail))
        refine wpQuiet_nil ?_
        intro w9 hk9
        have HK2 := Lib.hid (HK.out.trans hk9)
        have HO2 := Lib.hid (ownsRow_upd HO.out hk9 (fun _ _ f => f))
        have HUP2 : Hid (w4.heap.size ≤ w9.heap.size) := Lib.hid (Nat.le_trans HUP.out hk9.size)
        clear hk9
        obtain ⟨i0, hi0, hz0, hz1, hz2⟩ := info_parts infoInt
        have ho := HO2.out
        have hbs := HUP2.out
        go_wp2_with (first | (at_builtin; refine wpList_push rfl _ _ 26 rfl w4.heap.size 3 i0 (.int .i64 0) 8 Try.underlying26 hi0 hz0 hz1 hz2 rfl (by decide) _ _ _ rfl ho (.int .i64 (j : Int)) rfl rfl (by omega) hbs ?_; intro gg cap' w7 hown hg2; clear hi0 hz0 hz1 hz2 ho hbs) | fail)
        have HO3 : Hid (w7.ownsRow w4.heap.size 3 1 (.slice (some ⟨gg, 0, none⟩) (k + 1) cap') (k + 1) (nv (lowD L hs (j + 1)))) := Lib.hid (by rw [HD.out, show nv (lowD L hs j ++ [j]) = nv (lowD L hs j) ++ [.int .i64 (j : Int)] by simp [nv]]; exact hown)
        have HK3 : Hid (Kept w4 w7) := Lib.hid (hg2.kept HK2.out HO2.out (Nat.le_refl _))
        have HUP3 : Hid (w4.heap.size ≤ w7.heap.size) := Lib.hid HK3.out.size
        have HKL3 : Hid ((lowD L hs (j + 1)).length = k + 1) := Lib.hid (by rw [HD.out, List.length_append, HKL.out]; rfl)
        clear hown hg2 HO HK HUP HO2 HK2 HUP2 HKL HD f5 f6
        go_roundw
        case rel => exact ⟨j + 1, k + 1, _, _, by go_num, by omega, rfl, HKL3, HO3, HK3, HUP3⟩
        case measure => simp [intOf]; omega
      · as_aux_lemma =>
        have HD : Hid (lowD L hs (j + 1) = lowD L hs j) := Lib.hid (lowD_no (by rw [HXY.out.1, HXY.out.2]; exact hxy))
        have g1 : decide (x < y) = false := decide_eq_false hxy
        go_upto_region 6 with (fail)
        refine wp_region_kept (by kernel_rfl) (by kernel_rfl) ?_
        repeat (go_big_quiet_step (fail))
        refine wpQuiet_nil ?_
        intro w9 hk9
        have HK2 := Lib.hid (HK.out.trans hk9)
        have HO2 := Lib.hid (ownsRow_upd HO.out hk9 (fun _ _ f => f))
        have HUP2 : Hid (w4.heap.size ≤ w9.heap.size) := Lib.hid (Nat.le_trans HUP.out hk9.size)
        clear hk9
        go_wp2_with fail
        go_roundw
        case rel => exact ⟨j + 1, k, oa, oc, by go_num, by omega, rfl, by rw [HD.out]; exact HKL, by rw [HD.out]; exact HO2, HK2, HUP2⟩
        case measure => simp [intOf]; omega
    · as_aux_lemma =>
      have hjI : ¬ (j : Int) < (l : Int) := by omega
      obtain rfl : l = j := by omega
      go_wp2_with fail
      go_ret
      exact ⟨oa, k, oc, L, rfl, HLO.out, by rw [HLL.out]; exact HKL.out, by rw [HLL.out]; exact row_rdl HO.out, HK4.out.trans HK.out⟩
theorem lowD_mem {L hs : List Int} {k v : Nat} : v ∈ lowD L hs k ↔ v < k ∧ L.getD v 0 < hs.getD v 0 := by
  unfold lowD
  rw [List.mem_filter, List.mem_range, decide_eq_true_eq]
theorem lowD_none {hs : List Int} (k : Nat) : lowD hs hs k = [] := by
  unfold lowD
  rw [List.filter_eq_nil_iff]
  intro v _
  rw [decide_eq_true_eq]
  exact Int.lt_irrefl _
/-- What Lower hands back at right heights. -/
def LowAt (w : World) (S : Int) (n m : Nat) (ys : List Ar) (rs hs : List Int) (e : Ending) (w' : World) : Prop :=
  ∃ a c L, e = .returned (.slice a n c) ∧ IsLow S n m ys rs hs L ∧ Rd w' a (lv L) ∧ (∀ ad, a = some ad → w.heap.size ≤ ad.block) ∧ Kept w w'
def LwdAt (w : World) (S : Int) (n m : Nat) (ys : List Ar) (rs hs : List Int) (e : Ending) (w' : World) : Prop :=
  ∃ a k c L, e = .returned (.slice a k c) ∧ IsLow S n m ys rs hs L ∧ (lowD L hs n).length = k ∧ Rd w' a (nv (lowD L hs n)) ∧ Kept w w'
theorem low_at (N S T : Int) (n m : Nat) (a3 a4 a5 a6 a7 a8 : Option Addr) (c3 c4 c5 c6 c7 c8 : Nat) (ys : List Ar) (ra : Option Addr) (rc : Nat) (rs : List Int) (ha : Option Addr) (hc : Nat) (hs : List Int) (w : World) (hg : Gr N S T n m ys) (hrm : rs.length = m) (hl : hs.length = n) (hR : rightB N S T hs = true) (hcr : CsrR w n ys a3 a4 a5 a6 a7 a8) (hr : Rd w ra (lv rs)) (hh : Rd w ha (lv hs)) :
    Calls Try.prog 16 #[.agg #[.int .i64 N, .int .i64 S, .int .i64 T, .slice a3 (n + 1) c3, .slice a4 m c4, .slice a5 m c5, .slice a6 m c6, .slice a7 m c7, .slice a8 m c8], .slice ra m rc, .slice ha n hc] w (LowAt w S n m ys rs hs) := by
  have hlen := hg.len
  have h1 := lower_any N S T n m a3 a4 a5 a6 a7 a8 c3 c4 c5 c6 c7 c8 ys ra rc rs ha hc hs w hg hcr hr hh (by omega) (by omega)
  rw [hrm, hl] at h1
  have hmay : mayB N S T m rs hs = true := by
    unfold mayB
    rw [hR, hrm]
    simp
  refine h1.mono ?_
  rintro e w' ⟨a, k, c, L, rfl, hk, hL, hr, -, hlo, hkk⟩
  unfold LowL at hL
  rw [if_pos hmay] at hL
  have hn := hL.len
  obtain rfl : n = k := by omega
  exact ⟨a, c, L, rfl, hL, hr, hlo, hkk⟩
theorem lwd_at (N S T : Int) (n m : Nat) (a3 a4 a5 a6 a7 a8 : Option Addr) (c3 c4 c5 c6 c7 c8 : Nat) (ys : List Ar) (ra : Option Addr) (rc : Nat) (rs : List Int) (ha : Option Addr) (hc : Nat) (hs : List Int) (w : World) (hg : Gr N S T n m ys) (hrm : rs.length = m) (hl : hs.length = n) (hR : rightB N S T hs = true) (hcr : CsrR w n ys a3 a4 a5 a6 a7 a8) (hr : Rd w ra (lv rs)) (hh : Rd w ha (lv hs)) :
    Calls Try.prog 18 #[.agg #[.int .i64 N, .int .i64 S, .int .i64 T, .slice a3 (n + 1) c3, .slice a4 m c4, .slice a5 m c5, .slice a6 m c6, .slice a7 m c7, .slice a8 m c8], .slice ra m rc, .slice ha n hc] w (LwdAt w S n m ys rs hs) := by
  have hlen := hg.len
  have h1 := lowered_any N S T n m a3 a4 a5 a6 a7 a8 c3 c4 c5 c6 c7 c8 ys ra rc rs ha hc hs w hg hcr hr hh (by omega) (by omega)
  rw [hrm, hl] at h1
  have hmay : mayB N S T m rs hs = true := by
    unfold mayB
    rw [hR, hrm]
    simp
  refine h1.mono ?_
  rintro e w' ⟨a, k, c, L, rfl, hL, hk, hr, hkk⟩
  unfold LowL at hL
  rw [if_pos hmay] at hL
  rw [hL.len] at hk hr
  exact ⟨a, k, c, L, rfl, hL, hk, hr, hkk⟩
end Go.Proofs.Yticeionjlknlcaa
