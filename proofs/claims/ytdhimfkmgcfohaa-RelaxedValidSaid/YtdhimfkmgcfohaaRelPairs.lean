/- relaxed.state.pairs (printed by gen_relpairs.py) -/
import Derived.Test.YtdhimfkmgcfohaaRelLegal2
import Derived.Deep.CutRange
import Derived.Deep.RegionHeld3
import Derived.Deep.MidRow
import Derived.Deep.Onto
namespace Go.Proofs.Ytdhimfkmgcfohaa
set_option linter.unusedVariables false
set_option linter.unusedSimpArgs false
open Go.RowKit
attribute [local go_sem] cell?_ext

/-- What may go along a residual arc. -/
def cp (n : Nat) (ys : List Ar) (a : Nat) : Int := ((enAll n ys)[a]?.map fun e => e.c).getD 0
theorem cp_get {N S T : Int} {n m : Nat} {ys : List Ar} (h : Gr N S T n m ys) (a : Nat) (ha : a < m) : (cv (enAll n ys))[a]? = some (.int .i64 (cp n ys a)) ∧ 0 ≤ cp n ys a ∧ cp n ys a < 1125899906842624 := by
  have hm := h.hm
  have hl : a < (enAll n ys).length := by omega
  obtain ⟨x, hx, ⟨h1, h2, h3⟩, -, -⟩ := mem_all.1 (List.getElem_mem hl)
  have ho := h.arcs _ (List.mem_of_getElem? hx)
  unfold ArcOk at ho
  have h4 : cp n ys a = (enAll n ys)[a].c := by simp [cp, hl]
  rw [h4]
  refine ⟨by simp [cv, hl], ?_⟩
  rw [h3]
  split <;> omega
def most (n : Nat) (ys : List Ar) (a : Nat) : Int := cp n ys a + cp n ys (rv n ys a)
def pairOk (n : Nat) (ys : List Ar) (rs : List Int) (a : Nat) : Bool := decide (0 ≤ rs.getD a 0) && decide (rs.getD a 0 ≤ most n ys a) && decide (rs.getD (rv n ys a) 0 = most n ys a - rs.getD a 0)
def pairsB (n m : Nat) (ys : List Ar) (rs : List Int) : Bool := (List.range m).all (pairOk n ys rs)
theorem all_succ (f : Nat → Bool) (k : Nat) : (List.range (k + 1)).all f = ((List.range k).all f && f k) := by simp [List.range_succ]
theorem all_no {f : Nat → Bool} {k m : Nat} (h : k < m) (hf : f k = false) : (List.range m).all f = false := by
  rw [List.all_eq_false]
  exact ⟨k, by simpa using h, by simp [hf]⟩
set_option maxRecDepth 100000 in
set_option maxHeartbeats 4000000 in
theorem pairs_any (N S T : Int) (n m : Nat) (a3 a4 a5 a6 a7 a8 : Option Addr) (c3 c4 c5 c6 c7 c8 : Nat) (ys : List Ar) (p : PS) (ra : Option Addr) (rc : Nat) (ea : Option Addr) (ec : Nat) (za : Option Addr) (zc : Nat) (w : World) (hg : Gr N S T n m ys) (hcr : CsrR w n ys a3 a4 a5 a6 a7 a8) (hrl : p.rs.length = m) (hr : Rd w ra (lv p.rs)) (hri : ∀ x ∈ p.rs, -9223372036854775808 ≤ x ∧ x ≤ 9223372036854775807) :
    Calls Try.prog 33 #[.agg #[.int .i64 N, .int .i64 S, .int .i64 T, .slice a3 (n + 1) c3, .slice a4 m c4, .slice a5 m c5, .slice a6 m c6, .slice a7 m c7, .slice a8 m c8, .slice ra m rc, .slice ea n ec, .slice za n zc]] w fun e w' => e = .returned (.bool (pairsB n m ys p.rs)) ∧ Kept w w' := by
  have HK := Lib.hid ((Upd.refl (fun _ => False) w).alloc (.cells #[.int .i64 N, .int .i64 S, .int .i64 T, .slice a3 (n + 1) c3, .slice a4 m c4, .slice a5 m c5, .slice a6 m c6, .slice a7 m c7, .slice a8 m c8, .slice ra m rc, .slice ea n ec, .slice za n zc] 73))
  have HB := Lib.hid (Blk.new w #[.int .i64 N, .int .i64 S, .int .i64 T, .slice a3 (n + 1) c3, .slice a4 m c4, .slice a5 m c5, .slice a6 m c6, .slice a7 m c7, .slice a8 m c8, .slice ra m rc, .slice ea n ec, .slice za n zc] 73)
  have HG := Lib.hid hg
  have HCR := Lib.hid hcr
  have HRL := Lib.hid hrl
  have HRR := Lib.hid hr
  have HRI := Lib.hid hri
  have hm6 := hg.len.2.2.2.1
  obtain ⟨V, hV⟩ : ∃ V, pairsB n m ys p.rs = V := ⟨_, rfl⟩
  rw [hV]
  have HV := Lib.hid hV
  clear hg hcr hrl hr hri hV
  go_enter Try.func33, Try.ntmps33
  go_upto_region 1 with (fail)
  generalize (w.alloc (.cells #[.int .i64 N, .int .i64 S, .int .i64 T, .slice a3 (n + 1) c3, .slice a4 m c4, .slice a5 m c5, .slice a6 m c6, .slice a7 m c7, .slice a8 m c8, .slice ra m rc, .slice ea n ec, .slice za n zc] 73)) = W0 at HK HB ⊢
  generalize w.heap.size = sb at HB ⊢
  have bx := HB.out.cell
  go_upto_region 2 with (fail)
  clear bx
  go_loopw [11] (fun x wr => ∃ k : Nat, x = .int .i64 k ∧ k ≤ m ∧ Hid ((List.range k).all (pairOk n ys p.rs) = true) ∧ Hid (Kept W0 wr)) (fun x _ => m - (intOf x).toNat)
  case atStart => exact ⟨0, rfl, by omega, Lib.hid (by simp), Lib.hid (Upd.refl _ _)⟩
  case round =>
    obtain ⟨k, rfl, hk, HA, HKW⟩ := hrel
    by_cases hlt : k < m
    · obtain ⟨q1, q2, q3⟩ := cp_get HG.out k hlt
      obtain ⟨q4, q5, -⟩ := rv_facts HG.out k hlt
      obtain ⟨q6, q7, q8⟩ := cp_get HG.out (rv n ys k) q5
      obtain ⟨b6, o6, e6, k6⟩ := HCR.out.r6.at k (List.getElem?_eq_some_iff.1 q1).1
      obtain ⟨b6', o6', e6', k6'⟩ := HCR.out.r6.at (rv n ys k) (List.getElem?_eq_some_iff.1 q6).1
      rw [e6] at e6'
      cases e6'
      obtain ⟨b5, o5, e5, k5⟩ := HCR.out.r5.at k (List.getElem?_eq_some_iff.1 q4).1
      obtain ⟨rb, ro, rfl, k9⟩ := HRR.out.num (i := k) (by have := HRL.out; omega)
      obtain ⟨rb', ro', e9', k9'⟩ := HRR.out.num (i := rv n ys k) (by have := HRL.out; omega)
      cases e9'
      rw [q1] at k6
      rw [q6] at k6'
      rw [q4] at k5
      have hxi := HRI.out (p.rs.getD k 0) (by rw [List.getD_eq_getElem?_getD, List.getElem?_eq_getElem (show k < p.rs.length by have := HRL.out; omega)]; exact List.getElem_mem _)
      obtain ⟨z, hz⟩ : ∃ z, pairOk n ys p.rs k = z := ⟨_, rfl⟩
      have HZ0 : Hid ((decide (0 ≤ p.rs.getD k 0) && decide (p.rs.getD k 0 ≤ cp n ys k + cp n ys (rv n ys k)) && decide (p.rs.getD (rv n ys k) 0 = cp n ys k + cp n ys (rv n ys k) - p.rs.getD k 0)) = z) := Lib.hid hz
      have HN1 : Hid (z = true → (List.range (k + 1)).all (pairOk n ys p.rs) = true) := Lib.hid (fun e => by rw [all_succ, HA.out, hz, e]; rfl)
      have HN2 : Hid (z = false → V = false) := Lib.hid (fun e => by rw [← HV.out]; exact all_no hlt (by rw [hz, e]))
      generalize cp n ys k = c1 at k6 HZ0 q2 q3
      generalize rv n ys k = rn at q5 k5 k6' k9' HZ0 q7 q8
      generalize cp n ys rn = c2 at k6' HZ0 q7 q8
      generalize p.rs.getD k 0 = x at k9 HZ0 hxi
      generalize p.rs.getD rn 0 = y at k9' HZ0
      have HBB := Lib.hid (show Blk wr sb #[.int .i64 N, .int .i64 S, .int .i64 T, .slice a3 (n + 1) c3, .slice a4 m c4, .slice (some ⟨b5, o5, none⟩) m c5, .slice (some ⟨b6, o6, none⟩) m c6, .slice a7 m c7, .slice a8 m c8, .slice (some ⟨rb, ro, none⟩) m rc, .slice ea n ec, .slice za n zc] 73 by have h := HB.out.kept HKW.out; rwa [e5, e6] at h)
      have bx := HBB.out.cell
      have d5 := (keptCells (HK.out.trans HKW.out) _ (by rw [k5]; rfl)).trans k5
      have d6 := (keptCells (HK.out.trans HKW.out) _ (by rw [k6]; rfl)).trans k6
      have d6' := (keptCells (HK.out.trans HKW.out) _ (by rw [k6']; rfl)).trans k6'
      have d9 := (keptCells (HK.out.trans HKW.out) _ (by rw [k9]; rfl)).trans k9
      have d9' := (keptCells (HK.out.trans HKW.out) _ (by rw [k9']; rfl)).trans k9'
      have j1 : (k : Int) < (m : Int) := by omega
      have j2 : (0 : Int) ≤ (k : Int) := by omega
      have j3 : (rn : Int) < (m : Int) := by omega
      have j4 : (0 : Int) ≤ (rn : Int) := by omega
      obtain ⟨mo, hmo⟩ : ∃ q, c1 + c2 = q := ⟨_, rfl⟩
      rw [hmo] at HZ0
      have hw4 : IntKind.i64.wrap (c1 + c2) = mo := by rw [IntKind.wrap_i64]; omega
      have hmb : 0 ≤ mo ∧ mo ≤ 2251799813685248 := by omega
      clear q1 q4 q6 e5 e6 k5 k6 k6' k9 k9' hmo hz q2 q3 q7 q8
      as_aux_lemma =>
      go_upto_region 5 with (fail)
      refine wp_region_kept (by kernel_rfl) (by kernel_rfl) ?_
      repeat (go_big_quiet_step (fail))
      refine wpQuiet_nil ?_
      intro w5 hk5
      have HKW5 := Lib.hid (HKW.out.trans hk5)
      have bx' := (HBB.out.kept hk5).cell
      have c9' := (keptCells hk5 _ (by rw [d9']; rfl)).trans d9'
      clear hk5 HKW bx d5 d6 d6' d9 d9' HBB hw4
      by_cases t1 : x < 0
      · as_aux_lemma =>
        have y1 : decide (x < 0) = true := by simpa using t1
        have HVF := Lib.hid (HN2.out (by rw [← HZ0.out]; simp [show ¬ 0 ≤ x by omega]))
        have HKF := Lib.hid (HK.out.trans HKW5.out)
        clear HZ0 HN1 HN2 HA t1 hxi hmb
        go_wp2_with fail
        go_ret
        exact ⟨by rw [HVF.out]; rfl, HKF.out⟩
      · have y1 : decide (x < 0) = false := by simpa using t1
        by_cases t2 : mo < x
        · as_aux_lemma =>
          have y2 : decide (mo < x) = true := by simpa using t2
          have HVF := Lib.hid (HN2.out (by rw [← HZ0.out]; simp [show ¬ x ≤ mo by omega]))
          have HKF := Lib.hid (HK.out.trans HKW5.out)
          clear HZ0 HN1 HN2 HA t1 t2 hxi hmb
          go_wp2_with fail
          go_ret
          exact ⟨by rw [HVF.out]; rfl, HKF.out⟩
        · have y2 : decide (mo < x) = false := by simpa using t2
          obtain ⟨df, hdf⟩ : ∃ q, mo - x = q := ⟨_, rfl⟩
          rw [hdf] at HZ0
          have hw5 : wrap64 (mo - x) = df := by unfold wrap64; omega
          have HT := Lib.hid (And.intro t1 t2)
          clear hdf t1 t2 hxi hmb
          by_cases t3 : y = df
          · as_aux_lemma =>
            have y3 : (y != df) = false := by simpa using t3
            have HA2 := Lib.hid (HN1.out (by rw [← HZ0.out]; have := HT.out; simp [t3]; omega))
            clear HZ0 HN1 HN2 HA t3 HT
            go_wp2_with fail
            go_roundw
            case rel => exact ⟨k + 1, by go_num, by omega, HA2, HKW5⟩
            case measure => clear hw5; simp [intOf]; omega
          · as_aux_lemma =>
            have y3 : (y != df) = true := by simpa using t3
            have HVF := Lib.hid (HN2.out (by rw [← HZ0.out]; simp [t3]))
            have HKF := Lib.hid (HK.out.trans HKW5.out)
            clear HZ0 HN1 HN2 HA t3 HT
            go_wp2_with fail
            go_ret
            exact ⟨by rw [HVF.out]; rfl, HKF.out⟩
    · obtain rfl : k = m := by omega
      have j1 : ¬ (k : Int) < (k : Int) := by omega
      as_aux_lemma =>
      have HVF : Hid (V = true) := Lib.hid (by rw [← HV.out]; exact HA.out)
      have HKF := Lib.hid (HK.out.trans HKW.out)
      clear HA HV
      go_wp2_with fail
      go_ret
      exact ⟨by rw [HVF.out]; rfl, HKF.out⟩
end Go.Proofs.Ytdhimfkmgcfohaa
