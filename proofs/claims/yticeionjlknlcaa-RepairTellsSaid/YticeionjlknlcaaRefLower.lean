/- acequiaref19.Lower. (printed by gen_reflower.py) -/
import Derived.Test.YticeionjlknlcaaLowerW
import Derived.Test.YticeionjlknlcaaRefRight
namespace Go.Proofs.Yticeionjlknlcaa
set_option linter.unusedVariables false
set_option linter.unusedSimpArgs false
open Go.RowKit
attribute [local go_sem] cell?_ext

/-- Valid over the arcs up to a. -/
def VldU (S : Int) (n : Nat) (ys : List Ar) (rs os : List Int) (a : Nat) : Prop := ∀ b, b < a → (tl ys n b : Int) ≠ S → 0 < rs.getD b 0 → os.getD (tl ys n b) 0 ≤ os.getD (hd n ys b) 0 + 1
theorem VldU.next {S : Int} {n : Nat} {ys : List Ar} {rs os : List Int} {a : Nat} (h : VldU S n ys rs os a) (hc : (tl ys n a : Int) ≠ S → 0 < rs.getD a 0 → os.getD (tl ys n a) 0 ≤ os.getD (hd n ys a) 0 + 1) : VldU S n ys rs os (a + 1) := fun b hb => by
  by_cases e : b = a
  · subst e; exact hc
  · exact h b (by omega)
theorem LC.first {N S T : Int} {n m : Nat} {ys : List Ar} {rs hs : List Int} (hr : rightB N S T hs = true) (hn : hs.length = n) : LC N S n m ys rs hs hs [] := by
  have h := (LI.start (N := N) (S := S) (T := T) (n := n) (m := m) (ys := ys) (rs := rs) hr hn).1
  exact ⟨h.len, h.bd, fun x hx => (by cases hx), h.low, h.top, by simp; omega⟩
theorem LC.down1 {N S T : Int} {n m : Nat} {ys : List Ar} {rs hs os : List Int} (h : LC N S n m ys rs hs os []) (hg : Gr N S T n m ys) (a : Nat) (ha : a < m) (hS : (tl ys n a : Int) ≠ S) (hr : 0 < rs.getD a 0) (hlt : os.getD (hd n ys a) 0 + 1 < os.getD (tl ys n a) 0) :
    LC N S n m ys rs hs (os.set (tl ys n a) (os.getD (hd n ys a) 0 + 1)) [] ∧ (os.set (tl ys n a) (os.getD (hd n ys a) 0 + 1)).sum + 1 ≤ os.sum := by
  have hm : a < fst ys n := by have := hg.hm; unfold fst; omega
  have htn := (tl_at ys a n hm).1
  have hhn := (hd_get hg a ha).2
  have hul : tl ys n a < os.length := by rw [h.len]; exact htn
  have hs := sum_set os (tl ys n a) (os.getD (hd n ys a) 0 + 1) hul
  have hbh := h.bd _ hhn
  have hbt := h.bd _ htn
  have hle : ∀ w, (os.set (tl ys n a) (os.getD (hd n ys a) 0 + 1)).getD w 0 ≤ os.getD w 0 := fun w => by
    rw [getD_set hul]
    split
    · rename_i e; subst e; omega
    · exact Int.le_refl _
  refine ⟨⟨by rw [List.length_set]; exact h.len, fun v hv => ?_, fun x hx => (by cases hx), fun v hv => Int.le_trans (hle v) (h.low v hv), fun gs hgv hgl v hv => ?_, ?_⟩, by omega⟩
  · rw [getD_set hul]
    split
    · omega
    · exact h.bd v hv
  · rw [getD_set hul]
    split
    · rename_i e
      subst e
      have h1 := hgv a ha hS hr
      have h2 := h.top gs hgv hgl _ hhn
      omega
    · exact h.top gs hgv hgl v hv
  · have := h.cnt
    simp only [List.length_nil] at this ⊢
    omega
/-- What the reference's Lower holds on its way. -/
structure RWS (N S T : Int) (n m : Nat) (a3 a4 a5 a6 a7 a8 : Option Addr) (c3 c4 c5 c6 c7 c8 : Nat) (w : World) (ys : List Ar) (cb : Nat) (ra : Option Addr) (rs : List Int) (ob : Nat) (rest : List Value) (os : List Int) (wr : World) : Prop where
  kp : Kept w wr
  box : Blk wr cb #[.int .i64 N, .int .i64 S, .int .i64 T, .slice a3 (n + 1) c3, .slice a4 m c4, .slice a5 m c5, .slice a6 m c6, .slice a7 m c7, .slice a8 m c8] 29
  cr : CsrR w n ys a3 a4 a5 a6 a7 a8
  rs : Rd w ra (lv rs)
  out : Blk wr ob (lv os ++ rest).toArray 3
  lo : w.heap.size ≤ ob
  ne : cb ≠ ob
section
variable {N S T : Int} {n m : Nat} {a3 a4 a5 a6 a7 a8 : Option Addr} {c3 c4 c5 c6 c7 c8 : Nat} {w : World} {ys : List Ar} {cb : Nat} {ra : Option Addr} {rs : List Int} {ob : Nat} {rest : List Value} {os : List Int} {wr w' : World}
theorem RWS.kept (h : RWS N S T n m a3 a4 a5 a6 a7 a8 c3 c4 c5 c6 c7 c8 w ys cb ra rs ob rest os wr) (k : Kept wr w') : RWS N S T n m a3 a4 a5 a6 a7 a8 c3 c4 c5 c6 c7 c8 w ys cb ra rs ob rest os w' := ⟨h.kp.trans k, h.box.kept k, h.cr, h.rs, h.out.kept k, h.lo, h.ne⟩
theorem RWS.put (h : RWS N S T n m a3 a4 a5 a6 a7 a8 c3 c4 c5 c6 c7 c8 w ys cb ra rs ob rest os wr) (u : Nat) (hu : u < os.length) (x : Int) : RWS N S T n m a3 a4 a5 a6 a7 a8 c3 c4 c5 c6 c7 c8 w ys cb ra rs ob rest (os.set u x) (wr.setCell ⟨ob, u, none⟩ (.int .i64 x)) := by
  have hU : Upd (fun k => k = ob) wr (wr.setCell ⟨ob, u, none⟩ (.int .i64 x)) := Upd.setCell (S := fun k => k = ob) (p := ⟨ob, u, none⟩) (Upd.refl _ _) (.inl rfl) _
  refine ⟨Upd.late h.kp hU (fun i e => by have := h.lo; omega), h.box.upd hU h.ne, h.cr, h.rs, ?_, h.lo, h.ne⟩
  have := h.out.set u (.int .i64 x)
  rw [List.setIfInBounds_toArray, List.set_append_left _ _ (by rw [lv_len]; exact hu)] at this
  rw [show lv (os.set u x) = (lv os).set u (.int .i64 x) by simp [lv, List.map_set]]
  exact this
theorem RWS.num (h : RWS N S T n m a3 a4 a5 a6 a7 a8 c3 c4 c5 c6 c7 c8 w ys cb ra rs ob rest os wr) {u : Nat} (hu : u < os.length) : wr.cell? ⟨ob, u, none⟩ = some (.int .i64 (os.getD u 0)) := by
  rw [h.out.cell]
  have : (lv os)[u]? = some (.int .i64 (os.getD u 0)) := lv_get hu
  simpa [List.getElem?_append_left (show u < (lv os).length by rw [lv_len]; exact hu)] using this
end
set_option maxRecDepth 100000 in
set_option maxHeartbeats 8000000 in
theorem refLower_any (N S T : Int) (n m : Nat) (a3 a4 a5 a6 a7 a8 : Option Addr) (c3 c4 c5 c6 c7 c8 : Nat) (ys : List Ar) (ra : Option Addr) (rc : Nat) (rs : List Int) (ha : Option Addr) (hc : Nat) (hs : List Int) (w : World) (hg : Gr N S T n m ys) (hcr : CsrR w n ys a3 a4 a5 a6 a7 a8) (hr : Rd w ra (lv rs)) (hh : Rd w ha (lv hs)) (hm : hs.length ≤ 9223372036854775807) (hrm : rs.length ≤ 9223372036854775807) (hso : SomeOr ha hs.length hc) :
    Calls Try.prog 17 #[.agg #[.int .i64 N, .int .i64 S, .int .i64 T, .slice a3 (n + 1) c3, .slice a4 m c4, .slice a5 m c5, .slice a6 m c6, .slice a7 m c7, .slice a8 m c8], .slice ra rs.length rc, .slice ha hs.length hc] w (LowEnd w N S T n m ys rs hs) := by
  have HG := Lib.hid hg
  have hnl := hg.len
  obtain ⟨rl, hrl⟩ : ∃ rl, rs.length = rl := ⟨_, rfl⟩
  obtain ⟨hl, hhl⟩ : ∃ hl, hs.length = hl := ⟨_, rfl⟩
  have HRT : ∀ w', Rd w' ha (lv hs) → Hid (Calls Try.prog 45 #[.agg #[.int .i64 N, .int .i64 S, .int .i64 T, .slice a3 (n + 1) c3, .slice a4 m c4, .slice a5 m c5, .slice a6 m c6, .slice a7 m c7, .slice a8 m c8], .slice ha hl hc] w' fun e w'' => e = .returned (.bool (rightB N S T hs)) ∧ Kept w' w'') := by
    intro w' h
    rw [← hhl]
    exact Lib.hid (refRight_any N S T n m a3 a4 a5 a6 a7 a8 c3 c4 c5 c6 c7 c8 ys ha hc hs w' hg h hm)
  have HCR := Lib.hid hcr
  have HRS := Lib.hid hr
  have HHS := Lib.hid hh
  have HRL := Lib.hid hrl
  have HHL := Lib.hid hhl
  rw [hrl] at hrm ⊢
  rw [hhl] at hm hso ⊢
  have HSO := Lib.hid hso
  have hn16 : 2 ≤ n ∧ n ≤ 16 := ⟨hnl.2.1, hnl.2.2.1⟩
  have HNL := Lib.hid hnl
  clear hg hcr hr hh hrl hhl hnl hso
  go_enter Try.func17, Try.ntmps17
  go_upto_region 1 with (fail)
  obtain ⟨cb, hcb⟩ : ∃ cb, w.heap.size = cb := ⟨_, rfl⟩
  have HB1 : Hid (Blk (w.alloc (.cells #[.int .i64 N, .int .i64 S, .int .i64 T, .slice a3 (n + 1) c3, .slice a4 m c4, .slice a5 m c5, .slice a6 m c6, .slice a7 m c7, .slice a8 m c8] 29)) cb #[.int .i64 N, .int .i64 S, .int .i64 T, .slice a3 (n + 1) c3, .slice a4 m c4, .slice a5 m c5, .slice a6 m c6, .slice a7 m c7, .slice a8 m c8] 29) := Lib.hid (by rw [← hcb]; exact Blk.new _ _ _)
  have HK1 : Hid (Kept w (w.alloc (.cells #[.int .i64 N, .int .i64 S, .int .i64 T, .slice a3 (n + 1) c3, .slice a4 m c4, .slice a5 m c5, .slice a6 m c6, .slice a7 m c7, .slice a8 m c8] 29))) := Lib.hid ((Upd.refl (fun _ => False) w).alloc _)
  rw [hcb]
  have HCB := Lib.hid hcb
  clear hcb
  generalize (w.alloc (.cells #[.int .i64 N, .int .i64 S, .int .i64 T, .slice a3 (n + 1) c3, .slice a4 m c4, .slice a5 m c5, .slice a6 m c6, .slice a7 m c7, .slice a8 m c8] 29)) = w1 at HB1 HK1 ⊢
  have cb1 := HB1.out.cell
  by_cases hrm2 : rl = m
  · as_aux_lemma =>
    have hne : ((rl : Int) != (m : Int)) = false := by subst hrm2; simp
    have HRM : Hid (rl = m) := Lib.hid hrm2
    clear hrm2
    go_wp2_with fail
    refine (HRT _ (HHS.out.kept HK1.out)).out.mono ?_
    rintro e w3 ⟨rfl, hk⟩
    have HB3 := Lib.hid (HB1.out.kept hk)
    have HK3 := Lib.hid (HK1.out.trans hk)
    clear hk HB1 HK1 cb1
    cases hrb : rightB N S T hs
    · as_aux_lemma =>
      have HMB : Hid (mayB N S T m rs hs = false) := Lib.hid (by unfold mayB; rw [hrb]; simp)
      clear hrb
      go_wp2_with fail
      go_ret
      exact ⟨none, 0, 0, [], rfl, rfl, by unfold LowL; rw [HMB.out]; rfl, .inl rfl, Nat.le_refl _, (fun _ e => by cases e), HK3.out⟩
    · as_aux_lemma =>
      have HMB : Hid (mayB N S T m rs hs = true) := Lib.hid (by unfold mayB; rw [hrb, HRL.out, HRM.out]; simp)
      have HRB := Lib.hid hrb
      have hln : n = hl := by
        have h1 := (right_parts.1 hrb).1
        have h2 := HNL.out.1
        rw [HHL.out] at h1
        omega
      subst hln
      clear hrb
      have hr3 := HHS.out.kept HK3.out
      have hcl : (lv hs).length = n := by rw [lv_len]; exact HHL.out
      have hsoo := HSO.out
      obtain ⟨i0, hi0, hz0, hz1, hz2⟩ := info_parts infoInt
      have h1c : ∀ x ∈ lv hs, x.oneCell' = true := by
        intro x hx
        obtain ⟨y, -, rfl⟩ := List.mem_map.1 hx
        rfl
      go_upto_region 4 with (first | (at_builtin; refine wpList_copied rfl _ _ 26 rfl 3 i0 (.int .i64 0) 8 Try.underlying26 hi0 hz0 hz1 hz2 rfl (by decide) ha n hc (lv hs) rfl rfl hr3 hcl hsoo h1c (by omega) ?_; intro ua uc w4 hown hk; clear hi0 hz0 hz1 hz2 h1c hr3 hsoo) | fail)
      obtain ⟨ob, rest, rfl, hob, hblk⟩ := row_blk hown (by omega)
      have hoc := row_cap' hown
      have HW5 : Hid (RWS N S T n m a3 a4 a5 a6 a7 a8 c3 c4 c5 c6 c7 c8 w ys cb ra rs ob rest hs w4) := Lib.hid ⟨HK3.out.trans hk, HB3.out.kept hk, HCR.out, HRS.out, hblk, Nat.le_trans HK3.out.size hob, fun e => by have := HB3.out.lt; omega⟩
      clear hk hown hob hblk HB3 HK3 HRT hcl
      go_wp2_with fail
      as_aux_lemma =>
      go_loopg [8] (2 * hs.sum + 1).toNat (fun k y wr => ∃ (mo : Bool) (os : List Int), y = .bool mo ∧ Hid (LC N S n m ys rs hs os []) ∧ Hid (2 * os.sum + (mo.toNat : Int) ≤ k) ∧ Hid (mo = false → VldU S n ys rs os m) ∧ Hid (RWS N S T n m a3 a4 a5 a6 a7 a8 c3 c4 c5 c6 c7 c8 w ys cb ra rs ob rest os wr))
      case atStart => exact ⟨true, hs, rfl, Lib.hid (LC.first HRB.out HHL.out), Lib.hid (by simp; omega), Lib.hid (fun h => (by cases h)), HW5⟩
      case round =>
        obtain ⟨mo, os, rfl, HLC0, HMU0, HVL0, HW0⟩ := hrel
        clear HW5
        cases mo
        · as_aux_lemma =>
          have HLOW : Hid (IsLow S n m ys rs hs os) := Lib.hid ⟨HLC0.out.len, fun b hb h1 h2 => HVL0.out rfl b hb h1 h2, HLC0.out.low, HLC0.out.top⟩
          clear HLC0 HMU0 HVL0
          go_wp2_with fail
          go_ret
          exact ⟨some ⟨ob, 0, none⟩, n, uc, os, rfl, HLOW.out.len, by unfold LowL; rw [HMB.out]; exact HLOW.out, blk_pre HW0.out.out, hoc, (fun _ e => by cases e; exact HW0.out.lo), HW0.out.kp⟩
        · as_aux_lemma =>
          have HMU1 : Hid (2 * os.sum + 1 ≤ gk) := Lib.hid (by have := HMU0.out; simpa using this)
          have HVL1 : Hid (VldU S n ys rs os (fst ys 0)) := Lib.hid (by rw [fst_zero]; exact fun b hb => absurd hb (Nat.not_lt_zero _))
          clear HVL0 HMU0
          go_wp2_with fail
          go_loopw [8, 9] (fun y z wr => ∃ (u : Nat) (mo : Bool) (os : List Int), z = .int .i64 u ∧ y = .bool mo ∧ u ≤ n ∧ Hid (LC N S n m ys rs hs os []) ∧ Hid (mo = false → VldU S n ys rs os (fst ys u)) ∧ Hid (2 * os.sum + 1 + (if mo = true then 2 else 0) ≤ gk) ∧ Hid (RWS N S T n m a3 a4 a5 a6 a7 a8 c3 c4 c5 c6 c7 c8 w ys cb ra rs ob rest os wr)) (fun _ z _ => n - (intOf z).toNat)
          case atStart => exact ⟨0, false, os, rfl, rfl, by omega, HLC0, Lib.hid (fun _ => HVL1.out), Lib.hid (by rw [if_neg (by decide)]; have := HMU1.out; omega), HW0⟩
          case round =>
            obtain ⟨u, mo, os, rfl, rfl, hu, HLC0, HVL0, HMU0, HW0⟩ := hrel
            clear HMU1 HVL1
            have cb9 := HW0.out.box.cell
            by_cases hun : u < n
            · as_aux_lemma =>
              have hunI : (u : Int) < N := by have := HNL.out; omega
              have un0 : (0 : Int) ≤ (u : Int) := by omega
              obtain ⟨b3, o3, e3, f3⟩ := (HW0.out.cr.r3.kept HW0.out.kp).at u (by rw [nv_len, firsts_len]; omega)
              rw [firsts_get n ys u (by omega)] at f3
              have v03 : (u : Int) < ((n + 1 : Nat) : Int) := by omega
              obtain ⟨f0, hf0⟩ : ∃ f0, fst ys u = f0 := ⟨_, rfl⟩
              rw [hf0] at f3
              have HF0 := Lib.hid hf0
              have HF1 : Hid (fst ys u ≤ fst ys (u + 1)) := Lib.hid (fst_mono ys (Nat.le_succ _))
              clear hf0
              rw [e3] at cb9
              go_wp2_with fail
              clear cb9 f3 v03 e3 hunI
              go_loopw [8, 10] (fun y z wr => ∃ (a : Nat) (mo : Bool) (os : List Int), z = .int .i64 a ∧ y = .bool mo ∧ fst ys u ≤ a ∧ a ≤ fst ys (u + 1) ∧ Hid (LC N S n m ys rs hs os []) ∧ Hid (mo = false → VldU S n ys rs os a) ∧ Hid (2 * os.sum + 1 + (if mo = true then 2 else 0) ≤ gk) ∧ Hid (RWS N S T n m a3 a4 a5 a6 a7 a8 c3 c4 c5 c6 c7 c8 w ys cb ra rs ob rest os wr)) (fun _ z _ => fst ys (u + 1) - (intOf z).toNat)
              case atStart => exact ⟨f0, mo, os, rfl, rfl, by rw [HF0.out]; exact Nat.le_refl _, by rw [← HF0.out]; exact HF1.out, HLC0, by rw [← HF0.out]; exact HVL0, HMU0, HW0⟩
              case round =>
                obtain ⟨a, mo, os, rfl, rfl, ha1, ha2, HLC, HVL, HMU, HW⟩ := hrel
                clear HLC0 HVL0 HMU0 HW0
                have cb9 := HW.out.box.cell
                obtain ⟨b3, o3, e3, f3⟩ := (HW.out.cr.r3.kept HW.out.kp).at (u + 1) (by rw [nv_len, firsts_len]; omega)
                rw [firsts_get n ys (u + 1) (by omega)] at f3
                obtain ⟨f, hf⟩ : ∃ f, fst ys (u + 1) = f := ⟨_, rfl⟩
                rw [hf] at f3 ha2
                have HF := Lib.hid hf
                clear hf
                subst e3
                have v1 : (u : Int) + 1 ≤ 17 := by omega
                have v2 : (0 : Int) ≤ (u : Int) + 1 := by omega
                have v3 : (u : Int) + 1 < ((n + 1 : Nat) : Int) := by omega
                by_cases haf : a < f
                · have haI : (a : Int) < (f : Int) := by omega
                  have ham : a < m := by
                    have h1 := fst_mono ys (show u + 1 ≤ n by omega)
                    have h2 := HG.out.hm
                    have h3 := HF.out
                    unfold fst at h1 h3
                    omega
                  have ham' : (a : Int) < (m : Int) := by omega
                  have ham0 : (0 : Int) ≤ (a : Int) := by omega
                  have hm640 : (m : Int) ≤ 640 := by have := HNL.out; omega
                  obtain ⟨b4, o4, e4, f4⟩ := (HW.out.cr.r4.kept HW.out.kp).at a (by rw [hv_len]; have := HG.out.hm; omega)
                  rw [(hd_get HG.out a ham).1] at f4
                  obtain ⟨t, ht⟩ : ∃ t, hd n ys a = t := ⟨_, rfl⟩
                  rw [ht] at f4
                  subst e4
                  have htn : t < n := by rw [← ht]; exact (hd_get HG.out a ham).2
                  obtain ⟨b6, o6, e6, f6⟩ := (HW.out.rs.kept HW.out.kp).num (i := a) (by rw [HRL.out, HRM.out]; exact ham)
                  subst e6
                  have c1 := HW.out.num (u := u) (by rw [HLC.out.len]; exact hun)
                  have c2 := HW.out.num (u := t) (by rw [HLC.out.len]; exact htn)
                  obtain ⟨x, hx⟩ : ∃ x, rs.getD a 0 = x := ⟨_, rfl⟩
                  obtain ⟨o, ho⟩ : ∃ o, os.getD u 0 = o := ⟨_, rfl⟩
                  obtain ⟨k, hk⟩ : ∃ k, os.getD t 0 = k := ⟨_, rfl⟩
                  rw [hx] at f6
                  rw [ho] at c1
                  rw [hk] at c2
                  have HU := Lib.hid (And.intro ht (And.intro hx (And.intro ho hk)))
                  have un1 : (u : Int) < (n : Int) := by omega
                  have un0 : (0 : Int) ≤ (u : Int) := by omega
                  have tn1 : (t : Int) < (n : Int) := by omega
                  have tn0 : (0 : Int) ≤ (t : Int) := by omega
                  have rl1 : (a : Int) < (rl : Int) := by have := HRM.out; omega
                  have hb0 := HLC.out.bd u hun
                  have hb1 := HLC.out.bd t htn
                  rw [ho] at hb0
                  rw [hk] at hb1
                  have hk17 : 0 ≤ k ∧ k ≤ 16 := by have h3 := HNL.out; omega
                  have ho17 : 0 ≤ o ∧ o ≤ 16 := by have h3 := HNL.out; omega
                  have HTL : Hid (tl ys n a = u) := Lib.hid (tl_of ys a u ha1 (by rw [HF.out]; exact haf) n hun)
                  clear ht hx ho hk hb0 hb1
                  by_cases hS : (u : Int) = S
                  · as_aux_lemma =>
                    have g1 : ((u : Int) != S) = false := by simp [hS]
                    have HVL2 : Hid (mo = false → VldU S n ys rs os (a + 1)) := Lib.hid (fun e => (HVL.out e).next (fun h _ => by rw [HTL.out] at h; exact absurd hS h))
                    clear hS
                    go_upto_region 13 with (fail)
                    refine wp_region_kept (by kernel_rfl) (by kernel_rfl) ?_
                    repeat (go_big_quiet_step (fail))
                    refine wpQuiet_nil ?_
                    intro w9 hk9
                    have HW2 := Lib.hid (HW.out.kept hk9)
                    clear hk9 HW
                    go_wp2_with fail
                    go_roundw
                    case rel => exact ⟨a + 1, mo, os, by go_num, rfl, by omega, by have := HF.out; omega, HLC, HVL2, HMU, HW2⟩
                    case measure => (have := HF.out; simp [intOf]; omega)
                  · have g1 : ((u : Int) != S) = true := by simp [hS]
                    have HS := Lib.hid hS
                    clear hS
                    by_cases hx0 : 0 < x
                    · by_cases hko : k + 1 < o
                      · as_aux_lemma =>
                        go_upto_region 13 with (fail)
                        refine wp_region_kept (by kernel_rfl) (by kernel_rfl) ?_
                        repeat (go_big_quiet_step (fail))
                        refine wpQuiet_nil ?_
                        intro w9 hk9
                        have HW2 := Lib.hid (HW.out.kept hk9)
                        clear hk9 HW
                        have hdn := HLC.out.down1 HG.out a ham (by rw [HTL.out]; exact HS.out) (by rw [HU.out.2.1]; exact hx0) (by rw [HTL.out, HU.out.1, HU.out.2.2.2, HU.out.2.2.1]; exact hko)
                        rw [HTL.out, HU.out.1, HU.out.2.2.2] at hdn
                        have HLC3 := Lib.hid hdn.1
                        have HMU3 : Hid (2 * (os.set u (k + 1)).sum + 3 ≤ gk) := Lib.hid (by have := hdn.2; have h2 := HMU.out; cases mo <;> simp at h2 <;> omega)
                        have HW3 := Lib.hid (HW2.out.put u (by rw [HLC.out.len]; exact hun) (k + 1))
                        have d1 := HW2.out.num (u := u) (by rw [HLC.out.len]; exact hun)
                        have d2 := HW2.out.num (u := t) (by rw [HLC.out.len]; exact htn)
                        rw [HU.out.2.2.1] at d1
                        rw [HU.out.2.2.2] at d2
                        have d3 := HW2.out.out.free u
                        have d4 := HW2.out.box.cell
                        obtain ⟨b4', o4', e4', f4'⟩ := (HW2.out.cr.r4.kept HW2.out.kp).at a (by rw [hv_len]; have := HG.out.hm; omega)
                        rw [(hd_get HG.out a ham).1, HU.out.1] at f4'
                        cases e4'
                        clear hdn HLC HVL HMU HW2
                        go_wp2_with fail
                        go_roundw
                        case rel => exact ⟨a + 1, true, _, by go_num, rfl, by omega, by have := HF.out; omega, HLC3, Lib.hid (fun h => (by cases h)), Lib.hid (by rw [if_pos rfl]; have := HMU3.out; omega), HW3⟩
                        case measure => (have := HF.out; simp [intOf]; omega)
                      · as_aux_lemma =>
                        have HVL2 : Hid (mo = false → VldU S n ys rs os (a + 1)) := Lib.hid (fun e => (HVL.out e).next (fun _ _ => by rw [HTL.out, HU.out.1, HU.out.2.2.2, HU.out.2.2.1]; omega))
                        have g3 : decide (k + 1 < o) = false := decide_eq_false hko
                        go_upto_region 13 with (fail)
                        refine wp_region_kept (by kernel_rfl) (by kernel_rfl) ?_
                        repeat (go_big_quiet_step (fail))
                        refine wpQuiet_nil ?_
                        intro w9 hk9
                        have HW2 := Lib.hid (HW.out.kept hk9)
                        clear hk9 HW
                        go_wp2_with fail
                        go_roundw
                        case rel => exact ⟨a + 1, mo, os, by go_num, rfl, by omega, by have := HF.out; omega, HLC, HVL2, HMU, HW2⟩
                        case measure => (have := HF.out; simp [intOf]; omega)
                    · as_aux_lemma =>
                      have HVL2 : Hid (mo = false → VldU S n ys rs os (a + 1)) := Lib.hid (fun e => (HVL.out e).next (fun _ h => by rw [HU.out.2.1] at h; exact absurd h hx0))
                      have g2 : decide (0 < x) = false := decide_eq_false hx0
                      go_upto_region 13 with (fail)
                      refine wp_region_kept (by kernel_rfl) (by kernel_rfl) ?_
                      repeat (go_big_quiet_step (fail))
                      refine wpQuiet_nil ?_
                      intro w9 hk9
                      have HW2 := Lib.hid (HW.out.kept hk9)
                      clear hk9 HW
                      go_wp2_with fail
                      go_roundw
                      case rel => exact ⟨a + 1, mo, os, by go_num, rfl, by omega, by have := HF.out; omega, HLC, HVL2, HMU, HW2⟩
                      case measure => (have := HF.out; simp [intOf]; omega)
                · as_aux_lemma =>
                  have haI : ¬ (a : Int) < (f : Int) := by omega
                  have haf2 : a = fst ys (u + 1) := by rw [HF.out]; omega
                  subst haf2
                  go_wp2_with fail
                  go_roundw
                  case rel => exact ⟨u + 1, mo, os, by go_num, rfl, by omega, HLC, HVL, HMU, HW⟩
                  case measure => simp [intOf]; omega
            · as_aux_lemma =>
              have hunI : ¬ (u : Int) < N := by have := HNL.out; omega
              obtain rfl : n = u := by omega
              have HVL2 : Hid (mo = false → VldU S n ys rs os m) := Lib.hid (fun e => by have h := HVL0.out e; have h2 := HG.out.hm; unfold fst at h; rw [h2] at h; exact h)
              go_wp2_with fail
              go_roundg (gk - 1)
              case rel => exact ⟨mo, os, rfl, HLC0, Lib.hid (by have h := HMU0.out; cases mo <;> simp at h ⊢ <;> omega), HVL2, HW0⟩
              case measure => (have h := HMU0.out; have h2 := low_sum HLC0.out; cases mo <;> simp at h <;> omega)
  · as_aux_lemma =>
    have hne : ((rl : Int) != (m : Int)) = true := by simp; omega
    have HMB : Hid (mayB N S T m rs hs = false) := Lib.hid (by unfold mayB; rw [HRL.out]; simp [hrm2])
    clear hrm2
    go_wp2_with fail
    go_ret
    exact ⟨none, 0, 0, [], rfl, rfl, by unfold LowL; rw [HMB.out]; rfl, .inl rfl, Nat.le_refl _, (fun _ e => by cases e), HK1.out⟩
end Go.Proofs.Yticeionjlknlcaa
