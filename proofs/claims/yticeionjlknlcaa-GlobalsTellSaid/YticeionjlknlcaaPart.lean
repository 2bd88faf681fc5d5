/- (*globals.search).part. (printed by gen_part.py) -/
import Derived.Test.YticeionjlknlcaaGloP
import Derived.Test.YticeionjlknlcaaMapRd
import Derived.Test.YticeionjlknlcaaPush
import Derived.Test.YticeionjlknlcaaCopyRow
namespace Go.Proofs.Yticeionjlknlcaa
set_option linter.unusedVariables false
set_option linter.unusedSimpArgs false
open Go.RowKit
attribute [local go_sem] cell?_ext

/-- A search in its box. -/
structure SR (N S T : Int) (n m : Nat) (a3 a4 a5 a6 a7 a8 : Option Addr) (c3 c4 c5 c6 c7 c8 : Nat) (wB : World) (ys : List Ar) (ra : Option Addr) (rc : Nat) (rs : List Int) (sb hb : Nat) (h : List Int) (w : World) : Prop where
  kp : Kept wB w
  box : Blk w sb #[.int .i64 N, .int .i64 S, .int .i64 T, .slice a3 (n + 1) c3, .slice a4 m c4, .slice a5 m c5, .slice a6 m c6, .slice a7 m c7, .slice a8 m c8, .slice ra m rc, .slice (some ⟨hb, 0, none⟩) n n] 87
  cr0 : CsrR wB n ys a3 a4 a5 a6 a7 a8
  rs0 : Rd wB ra (lv rs)
  h : Blk w hb (lv h).toArray 3
  lo : wB.heap.size ≤ hb
section
variable {N S T : Int} {n m : Nat} {a3 a4 a5 a6 a7 a8 : Option Addr} {c3 c4 c5 c6 c7 c8 : Nat} {wB : World} {ys : List Ar} {ra : Option Addr} {rc : Nat} {rs : List Int} {sb hb : Nat} {h : List Int} {w w' : World}
theorem SR.cr (s : SR N S T n m a3 a4 a5 a6 a7 a8 c3 c4 c5 c6 c7 c8 wB ys ra rc rs sb hb h w) : CsrR w n ys a3 a4 a5 a6 a7 a8 := s.cr0.kept s.kp
theorem SR.rsw (s : SR N S T n m a3 a4 a5 a6 a7 a8 c3 c4 c5 c6 c7 c8 wB ys ra rc rs sb hb h w) : Rd w ra (lv rs) := s.rs0.kept s.kp
theorem SR.kept (s : SR N S T n m a3 a4 a5 a6 a7 a8 c3 c4 c5 c6 c7 c8 wB ys ra rc rs sb hb h w) (k : Kept w w') : SR N S T n m a3 a4 a5 a6 a7 a8 c3 c4 c5 c6 c7 c8 wB ys ra rc rs sb hb h w' := ⟨s.kp.trans k, s.box.kept k, s.cr0, s.rs0, s.h.kept k, s.lo⟩
theorem SR.ne (s : SR N S T n m a3 a4 a5 a6 a7 a8 c3 c4 c5 c6 c7 c8 wB ys ra rc rs sb hb h w) : ¬ sb = hb := fun e => by
  have h1 := s.box
  rw [e] at h1
  have := (h1.same s.h).2
  revert this
  decide
theorem SR.put (s : SR N S T n m a3 a4 a5 a6 a7 a8 c3 c4 c5 c6 c7 c8 wB ys ra rc rs sb hb h w) (u : Nat) (x : Int) : SR N S T n m a3 a4 a5 a6 a7 a8 c3 c4 c5 c6 c7 c8 wB ys ra rc rs sb hb (h.set u x) (w.setCell ⟨hb, u, none⟩ (.int .i64 x)) := by
  refine ⟨s.kp.set s.lo _, s.box.other s.ne _, s.cr0, s.rs0, ?_, s.lo⟩
  have := s.h.set u (.int .i64 x)
  rwa [show (lv (h.set u x)).toArray = (lv h).toArray.setIfInBounds u (.int .i64 x) by simp [lv, List.map_set]]
end
/-- A row of numbers of its own is handed back. -/
def PartEnd (l : List Nat) (w : World) (e : Ending) (w' : World) : Prop := ∃ a k c, e = .returned (.slice a k c) ∧ l.length = k ∧ w'.ownsRow w.heap.size 3 1 (.slice a k c) k (nv l) ∧ Kept w w'
set_option maxRecDepth 100000 in
set_option maxHeartbeats 8000000 in
theorem part_any (N S T : Int) (n m : Nat) (a3 a4 a5 a6 a7 a8 : Option Addr) (c3 c4 c5 c6 c7 c8 : Nat) (wB : World) (ys : List Ar) (ra : Option Addr) (rc : Nat) (rs : List Int) (sb hb : Nat) (h : List Int) (row : List Nat) (rw' : Option Addr) (rk rwc : Nat) (w : World) (hg : Gr N S T n m ys) (hrm : rs.length = m) (hhl : h.length = n) (hs : SR N S T n m a3 a4 a5 a6 a7 a8 c3 c4 c5 c6 c7 c8 wB ys ra rc rs sb hb h w) (hrow : Rd w rw' (nv row)) (HRL : Hid (row.length = rk)) (hrk : rk ≤ 16) (hrn : ∀ v ∈ row, v < n) :
    Calls Try.prog 68 #[.pointer (some ⟨sb, 0, none⟩), .slice rw' rk rwc] w (PartEnd (partL N S n ys rs h row) w) := by
  have HG := Lib.hid hg
  have HRM := Lib.hid hrm
  have HHL := Lib.hid hhl
  have HW0' := Lib.hid hs
  have HRW := Lib.hid hrow
  have HRN := Lib.hid hrn
  have hm640 : m ≤ 640 := by have := hg.len; omega
  have hn16 : n ≤ 16 := by have := hg.len; omega
  clear hg hrm hhl hs hrow hrn
  go_enter Try.func68, Try.ntmps68
  go_wp2_with fail
  go_loopw [5, 12] (fun y z wr => ∃ (j k : Nat) (oa : Option Addr) (oc : Nat), y = .slice oa k oc ∧ z = .int .i64 j ∧ j ≤ rk ∧ Hid ((partL N S n ys rs h (row.take j)).length = k) ∧ Hid (wr.ownsRow w.heap.size 3 1 (.slice oa k oc) k (nv (partL N S n ys rs h (row.take j)))) ∧ Hid (SR N S T n m a3 a4 a5 a6 a7 a8 c3 c4 c5 c6 c7 c8 wB ys ra rc rs sb hb h wr) ∧ Hid (Kept w wr)) (fun _ z _ => rk - (intOf z).toNat)
  case atStart => exact ⟨0, 0, none, 0, rfl, rfl, by omega, Lib.hid (by simp [partL]), Lib.hid (by simp [partL, nv]; exact World.ownsRow_nil _ _ _ _), HW0', Lib.hid (Upd.refl _ _)⟩
  case round =>
    obtain ⟨j, k, oa, oc, rfl, rfl, hj, HKL0, HO0, HW0, HK0⟩ := hrel
    by_cases hjk : j < rk
    · have hjI : (j : Int) < (rk : Int) := by omega
      have hj0 : (0 : Int) ≤ (j : Int) := by omega
      have hjr : j < row.length := by rw [HRL.out]; exact hjk
      obtain ⟨b7, o7, e7, f7⟩ := (HRW.out.kept HK0.out).at j (by rw [nv_len]; exact hjr)
      subst e7
      obtain ⟨v0, hv0⟩ : ∃ v0, row[j] = v0 := ⟨_, rfl⟩
      rw [show (nv row)[j]? = some (.int .i64 (v0 : Nat)) by simp [nv, hjr, hv0]] at f7
      have hvn : v0 < n := by rw [← hv0]; exact HRN.out _ (List.getElem_mem _)
      have HTK : Hid (row.take (j + 1) = row.take j ++ [v0]) := Lib.hid (by rw [List.take_succ_eq_append_getElem hjr, hv0])
      have HBD : Hid (∀ a, a < m → (partL N S n ys rs h (row.take j) ++ hitsTo N S n ys rs h v0 a).length ≤ 640 * 17) := Lib.hid (fun a ha => by
        have h1 := part_len (N := N) (rs := rs) (h := h) (row := row.take j) HG.out (fun v hv => HRN.out v (List.mem_of_mem_take hv))
        have h2 := hits_len (N := N) (S := S) (n := n) (ys := ys) (rs := rs) (h := h) v0 a
        have h3 : (row.take j).length ≤ 16 := by rw [List.length_take]; omega
        have h4 := Nat.mul_le_mul h3 hm640
        rw [List.length_append]
        omega)
      obtain ⟨b3, o3, e3, f3⟩ := HW0.out.cr.r3.at v0 (by rw [nv_len, firsts_len]; omega)
      rw [firsts_get n ys v0 (by omega)] at f3
      have v4 : (0 : Int) ≤ (v0 : Int) := by omega
      have v5 : (v0 : Int) < ((n + 1 : Nat) : Int) := by omega
      have bx := HW0.out.box.cell
      rw [e3] at bx
      clear e3
      have HKL1 : Hid ((partL N S n ys rs h (row.take j) ++ hitsTo N S n ys rs h v0 (fst ys v0)).length = k) := Lib.hid (by rw [hits_none, List.append_nil]; exact HKL0.out)
      have HO1 : Hid (wr.ownsRow w.heap.size 3 1 (.slice oa k oc) k (nv (partL N S n ys rs h (row.take j) ++ hitsTo N S n ys rs h v0 (fst ys v0)))) := Lib.hid (by rw [hits_none, List.append_nil]; exact HO0.out)
      have HFM : Hid (fst ys v0 ≤ fst ys (v0 + 1)) := Lib.hid (fst_mono ys (by omega))
      clear hv0 HKL0 HO0
      go_wp2_with fail
      clear f3 bx v5 f7
      rename World => wq
      go_loopw [5, 8] (fun y z wr => ∃ (a k : Nat) (oa : Option Addr) (oc : Nat), y = .slice oa k oc ∧ z = .int .i64 a ∧ fst ys v0 ≤ a ∧ a ≤ fst ys (v0 + 1) ∧ Hid ((partL N S n ys rs h (row.take j) ++ hitsTo N S n ys rs h v0 a).length = k) ∧ Hid (wr.ownsRow w.heap.size 3 1 (.slice oa k oc) k (nv (partL N S n ys rs h (row.take j) ++ hitsTo N S n ys rs h v0 a))) ∧ Hid (SR N S T n m a3 a4 a5 a6 a7 a8 c3 c4 c5 c6 c7 c8 wB ys ra rc rs sb hb h wr) ∧ Hid (Kept w wr)) (fun _ z _ => fst ys (v0 + 1) - (intOf z).toNat)
      case atStart => exact ⟨fst ys v0, k, oa, oc, rfl, rfl, Nat.le_refl _, HFM.out, HKL1, HO1, HW0, HK0⟩
      case round =>
        clear HKL1 HO1
        have HKL0 := HFM
        have HO0 := HFM
        obtain ⟨a, k, oa, oc, rfl, rfl, ha1, ha2, HKL, HO, HW, HK⟩ := hrel
        clear HKL0 HO0 HW0 HK0
        have bx := HW.out.box.cell
        obtain ⟨b3, o3, e3, f3⟩ := HW.out.cr.r3.at (v0 + 1) (by rw [nv_len, firsts_len]; omega)
        rw [firsts_get n ys (v0 + 1) (by omega)] at f3
        obtain ⟨f, hf⟩ : ∃ f, fst ys (v0 + 1) = f := ⟨_, rfl⟩
        rw [hf] at f3 ha2
        have HF := Lib.hid hf
        clear hf
        rw [e3] at bx
        clear e3
        have v1 : (v0 : Int) + 1 ≤ 17 := by omega
        have v2 : (0 : Int) ≤ (v0 : Int) + 1 := by omega
        have v3 : (v0 : Int) + 1 < ((n + 1 : Nat) : Int) := by omega
        have hc1 : ((v0 + 1 : Nat) : Int) = (v0 : Int) + 1 := by omega
        by_cases haf : a < f
        · have haI : (a : Int) < (f : Int) := by omega
          have ham : a < m := by
            have h1 := fst_mono ys (show v0 + 1 ≤ n by omega)
            have h2 := HG.out.hm
            have h3 := HF.out
            unfold fst at h1 h3
            omega
          have ham' : (a : Int) < (m : Int) := by omega
          have ham0 : (0 : Int) ≤ (a : Int) := by omega
          have hm640 : (m : Int) ≤ 640 := by omega
          obtain ⟨b4, o4, e4, f4⟩ := HW.out.cr.r4.at a (by rw [hv_len]; have := HG.out.hm; omega)
          rw [(hd_get HG.out a ham).1] at f4
          obtain ⟨b5, o5, e5, f5⟩ := HW.out.cr.r5.at a (by have h1 := (rv_facts HG.out a ham).1; exact (List.getElem?_eq_some_iff.1 h1).1)
          rw [(rv_facts HG.out a ham).1] at f5
          obtain ⟨u, hu⟩ : ∃ u, hd n ys a = u := ⟨_, rfl⟩
          obtain ⟨r, hr⟩ : ∃ r, rv n ys a = r := ⟨_, rfl⟩
          rw [hu] at f4
          rw [hr] at f5
          rw [e4, e5] at bx
          clear e4 e5
          have hun : u < n := by rw [← hu]; exact (hd_get HG.out a ham).2
          have hrm' : r < m := by rw [← hr]; exact (rv_facts HG.out a ham).2.1
          obtain ⟨b6, o6, e6, f6⟩ := HW.out.rsw.num (i := r) (by rw [HRM.out]; exact hrm')
          rw [e6] at bx
          clear e6
          have c1 : wr.cell? ⟨hb, u, none⟩ = some (.int .i64 (h.getD u 0)) := by rw [HW.out.h.cell]; simp only [List.getElem?_toArray]; exact lv_get (by rw [HHL.out]; exact hun)
          obtain ⟨x, hx⟩ : ∃ x, rs.getD r 0 = x := ⟨_, rfl⟩
          obtain ⟨o, ho⟩ : ∃ o, h.getD u 0 = o := ⟨_, rfl⟩
          rw [hx] at f6
          rw [ho] at c1
          have HU := Lib.hid hu
          have HQ : Hid (decide ((hd n ys a : Int) ≠ S) = decide ((u : Int) ≠ S) ∧ decide (0 < rs.getD (rv n ys a) 0) = decide (0 < x) ∧ decide (h.getD (hd n ys a) 0 = N) = decide (o = N)) := Lib.hid ⟨by rw [hu], by rw [hr, hx], by rw [hu, ho]⟩
          have un1 : (u : Int) < (n : Int) := by omega
          have un0 : (0 : Int) ≤ (u : Int) := by omega
          have rm1 : (r : Int) < (m : Int) := by omega
          have rm0 : (0 : Int) ≤ (r : Int) := by omega
          have hk700 : k ≤ 640 * 17 := by have h1 := HKL.out; have h2 := HBD.out a ham; omega
          have hkI : (k : Int) ≤ 20000 := by omega
          clear hu hr hx ho
          by_cases hS : (u : Int) = S
          · as_aux_lemma =>
            have g1 : ((u : Int) != S) = false := by simp [hS]
            have HC : Hid (decide ((u : Int) ≠ S) = false) := Lib.hid (by simp [hS])
            clear hS
            have HL2 : Hid (hitsTo N S n ys rs h v0 (a + 1) = hitsTo N S n ys rs h v0 a) := Lib.hid (hits_no (by unfold gq; rw [HQ.out.1, HQ.out.2.1, HQ.out.2.2]; simp [HC.out]))
            go_upto_region 9 with (fail)
            refine wp_region_kept (by kernel_rfl) (by kernel_rfl) ?_
            repeat (go_big_quiet_step (fail))
            refine wpQuiet_nil ?_
            intro w9 hk9
            have HW2 := Lib.hid (HW.out.kept hk9)
            have HK2 := Lib.hid (HK.out.trans hk9)
            have HO2 := Lib.hid (ownsRow_upd HO.out hk9 (fun _ _ f => f))
            have bx2 := HW2.out.box.cell
            clear hk9 HW HK HO bx f3 f4 f5 f6 c1
            go_wp2_with fail
            go_roundw
            case rel => exact ⟨a + 1, k, oa, oc, rfl, by go_num, by omega, by have := HF.out; omega, by rw [HL2.out]; exact HKL, by rw [HL2.out]; exact HO2, HW2, HK2⟩
            case measure => (have := HF.out; simp [intOf]; omega)
          · have g1 : ((u : Int) != S) = true := by simp [hS]
            have HC1 : Hid (decide ((u : Int) ≠ S) = true) := Lib.hid (by simp [hS])
            clear hS
            by_cases hx0 : 0 < x
            · have g2 : decide (0 < x) = true := decide_eq_true hx0
              by_cases hoN : o = N
              · as_aux_lemma =>
                have g3 : (o == N) = true := by simp [hoN]
                have HL2 : Hid (hitsTo N S n ys rs h v0 (a + 1) = hitsTo N S n ys rs h v0 a ++ [u]) := Lib.hid (by rw [hits_yes ha1 (by unfold gq; rw [HQ.out.1, HQ.out.2.1, HQ.out.2.2]; simp [HC1.out, hx0, hoN]), HU.out])
                clear hoN
                go_upto_region 9 with (fail)
                refine wp_region_kept (by kernel_rfl) (by kernel_rfl) ?_
                repeat (go_big_quiet_step (fail))
                refine wpQuiet_nil ?_
                intro w9 hk9
                have HW2 := Lib.hid (HW.out.kept hk9)
                have HK2 := Lib.hid (HK.out.trans hk9)
                have HO2 := Lib.hid (ownsRow_upd HO.out hk9 (fun _ _ f => f))
                have bx2 := HW2.out.box.cell
                clear hk9 HW HK HO bx f3 f4 f5 f6 c1
                obtain ⟨i0, hi0, hz0, hz1, hz2⟩ := info_parts infoInt
                have ho := HO2.out
                have hbs := HK2.out.size
                go_wp2_with (first | (at_builtin; refine wpList_push rfl _ _ 26 rfl w.heap.size 3 i0 (.int .i64 0) 8 Try.underlying26 hi0 hz0 hz1 hz2 rfl (by decide) _ _ _ rfl ho (.int .i64 (u : Int)) rfl rfl (by omega) hbs ?_; intro gg cap' w7 hown hg2; clear hi0 hz0 hz1 hz2 ho hbs) | fail)
                have HK3 : Hid (Kept w w7) := Lib.hid (hg2.kept HK2.out HO2.out (Nat.le_refl _))
                have HW3 : Hid (SR N S T n m a3 a4 a5 a6 a7 a8 c3 c4 c5 c6 c7 c8 wB ys ra rc rs sb hb h w7) := Lib.hid (HW0'.out.kept HK3.out)
                have HO3 : Hid (w7.ownsRow w.heap.size 3 1 (.slice (some ⟨gg, 0, none⟩) (k + 1) cap') (k + 1) (nv (partL N S n ys rs h (row.take j) ++ hitsTo N S n ys rs h v0 (a + 1)))) := Lib.hid (by rw [HL2.out, ← List.append_assoc, show nv ((partL N S n ys rs h (row.take j) ++ hitsTo N S n ys rs h v0 a) ++ [u]) = nv (partL N S n ys rs h (row.take j) ++ hitsTo N S n ys rs h v0 a) ++ [.int .i64 (u : Int)] by simp [nv]]; exact hown)
                have HKL3 : Hid ((partL N S n ys rs h (row.take j) ++ hitsTo N S n ys rs h v0 (a + 1)).length = k + 1) := Lib.hid (by rw [HL2.out, ← List.append_assoc, List.length_append, HKL.out]; rfl)
                clear hown hg2 HO2 HK2 HW2 HKL HL2 bx2
                have bx := HW3.out.box.cell
                go_wp2_with fail
                go_roundw
                case rel => exact ⟨a + 1, k + 1, _, _, rfl, by go_num, by omega, by have := HF.out; omega, HKL3, HO3, HW3, HK3⟩
                case measure => (have := HF.out; simp [intOf]; omega)
              · as_aux_lemma =>
                have g3 : (o == N) = false := by simp [hoN]
                have HC : Hid (decide (o = N) = false) := Lib.hid (decide_eq_false hoN)
                clear hoN
                have HL2 : Hid (hitsTo N S n ys rs h v0 (a + 1) = hitsTo N S n ys rs h v0 a) := Lib.hid (hits_no (by unfold gq; rw [HQ.out.1, HQ.out.2.1, HQ.out.2.2]; simp [HC.out]))
                go_upto_region 9 with (fail)
                refine wp_region_kept (by kernel_rfl) (by kernel_rfl) ?_
                repeat (go_big_quiet_step (fail))
                refine wpQuiet_nil ?_
                intro w9 hk9
                have HW2 := Lib.hid (HW.out.kept hk9)
                have HK2 := Lib.hid (HK.out.trans hk9)
                have HO2 := Lib.hid (ownsRow_upd HO.out hk9 (fun _ _ f => f))
                have bx2 := HW2.out.box.cell
                clear hk9 HW HK HO bx f3 f4 f5 f6 c1
                go_wp2_with fail
                go_roundw
                case rel => exact ⟨a + 1, k, oa, oc, rfl, by go_num, by omega, by have := HF.out; omega, by rw [HL2.out]; exact HKL, by rw [HL2.out]; exact HO2, HW2, HK2⟩
                case measure => (have := HF.out; simp [intOf]; omega)
            · as_aux_lemma =>
              have g2 : decide (0 < x) = false := decide_eq_false hx0
              have HC : Hid (decide (0 < x) = false) := Lib.hid g2
              have HL2 : Hid (hitsTo N S n ys rs h v0 (a + 1) = hitsTo N S n ys rs h v0 a) := Lib.hid (hits_no (by unfold gq; rw [HQ.out.1, HQ.out.2.1, HQ.out.2.2]; simp [HC.out]))
              go_upto_region 9 with (fail)
              refine wp_region_kept (by kernel_rfl) (by kernel_rfl) ?_
              repeat (go_big_quiet_step (fail))
              refine wpQuiet_nil ?_
              intro w9 hk9
              have HW2 := Lib.hid (HW.out.kept hk9)
              have HK2 := Lib.hid (HK.out.trans hk9)
              have HO2 := Lib.hid (ownsRow_upd HO.out hk9 (fun _ _ f => f))
              have bx2 := HW2.out.box.cell
              clear hk9 HW HK HO bx f3 f4 f5 f6 c1
              go_wp2_with fail
              go_roundw
              case rel => exact ⟨a + 1, k, oa, oc, rfl, by go_num, by omega, by have := HF.out; omega, by rw [HL2.out]; exact HKL, by rw [HL2.out]; exact HO2, HW2, HK2⟩
              case measure => (have := HF.out; simp [intOf]; omega)
        · as_aux_lemma =>
          have haI : ¬ (a : Int) < (f : Int) := by omega
          have haf2 : a = fst ys (v0 + 1) := by rw [HF.out]; omega
          subst haf2
          have HP2 : Hid (partL N S n ys rs h (row.take (j + 1)) = partL N S n ys rs h (row.take j) ++ hitsTo N S n ys rs h v0 (fst ys (v0 + 1))) := Lib.hid (by rw [HTK.out, part_append, part_one])
          go_wp2_with fail
          go_roundw
          case rel => exact ⟨j + 1, k, oa, oc, rfl, by go_num, by omega, by rw [HP2.out]; exact HKL, by rw [HP2.out]; exact HO, HW, HK⟩
          case measure => (simp [intOf]; omega)
    · as_aux_lemma =>
      have hjI : ¬ (j : Int) < (rk : Int) := by omega
      obtain rfl : rk = j := by omega
      have HTA : Hid (row.take rk = row) := Lib.hid (List.take_of_length_le (by rw [HRL.out]; exact Nat.le_refl _))
      go_wp2_with fail
      go_ret
      exact ⟨oa, k, oc, rfl, by rw [← HKL0.out, HTA.out], by have := HO0.out; rwa [HTA.out] at this, HK0.out⟩
end Go.Proofs.Yticeionjlknlcaa
