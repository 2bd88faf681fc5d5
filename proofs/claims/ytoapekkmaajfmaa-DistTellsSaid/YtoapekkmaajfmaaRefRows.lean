/- acequiaref05.Rows; where it does not fit (printed by gen_refrows.py). -/
import Derived.Test.YtoapekkmaajfmaaDistRows
import Derived.Test.YtoapekkmaajfmaaRefNo
import Derived.Test.YtoapekkmaajfmaaRowsP
namespace Go.Proofs.Ytoapekkmaajfmaa
set_option linter.unusedVariables false
set_option linter.unusedSimpArgs false
open Go.RowKit
attribute [local go_sem] cell?_ext

theorem many_ex {n : Nat} {d : List Nat} (hle : ∀ v, v < n → d.getD v 0 ≤ n) : ∀ v, v ≤ n → ∃ L, Many n d v L
  | 0, _ => ⟨0, Many.zero n d⟩
  | v + 1, h => by
    obtain ⟨L, hL⟩ := many_ex hle v (by omega)
    by_cases e : d.getD v 0 = n
    · exact ⟨L, hL.skip e⟩
    · exact ⟨_, hL.step rfl (by have := hle v (by omega); omega)⟩
theorem Many.one {n v L L' : Nat} {d : List Nat} (h : Many n d v L) (h' : Many n d v L') (hv : v ≤ n) : L = L' := by
  obtain ⟨a1, a2, a3⟩ := h
  obtain ⟨b1, b2, b3⟩ := h'
  have p : L ≤ L' := by
    rcases a2 with e | ⟨x, hx, e⟩
    · omega
    · have := b1 x hx (by omega); omega
  have q : L' ≤ L := by
    rcases b2 with e | ⟨x, hx, e⟩
    · omega
    · have := a1 x hx (by omega); omega
  omega
theorem ownsRow_one {w : World} {b b' e n : Nat} {v : Value} {xs ys : List Value} (h : w.ownsRow b e 1 v n xs) (h' : w.ownsRow b' e 1 v n ys) : xs = ys := by
  rcases h.2 with ⟨h1, h2⟩ | ⟨g, cap, cur, h1, h2, h3, h4, h5, h6, h7⟩
  · rw [List.eq_nil_of_length_eq_zero (show xs.length = 0 by have := h.1; omega), List.eq_nil_of_length_eq_zero (show ys.length = 0 by have := h'.1; omega)]
  · subst h1
    rcases h'.2 with ⟨g1, g2⟩ | ⟨g', cap', cur', g1, g2, g3, g4, g5, g6, g7⟩
    · cases g1
    · cases g1
      rw [h3] at g3
      cases g3
      rw [← h7, ← g7]
/-- A whole row, moved into the rows. -/
theorem RR.push {w wr w' : World} {v v' u : Value} {L : Nat} {R : Nat → List Nat} (h : RR w wr v L R) {vs : List Value} (h1 : wr.ownsRow w.heap.size 27 1 v L vs) (h2 : ∀ j, j < L → ∃ u, vs[j]? = some u ∧ wr.ownsRow w.heap.size 3 1 u (R j).length (nv (R j))) (h3 : ∀ (i j : Nat) (u u' : Value), vs[i]? = some u → vs[j]? = some u' → i ≠ j → FarV u u')
    (ho : w'.ownsRow w.heap.size 27 1 v' (L + 1) (vs ++ [u])) (hg : Grew wr w' v v') (hu : wr.ownsRow w.heap.size 3 1 u (R L).length (nv (R L))) (hf : ∀ (j : Nat) (u' : Value), vs[j]? = some u' → FarV u' u) : RR w w' v' (L + 1) R := by
  have hl : vs.length = L := by have := h1.1; simpa using this
  have last : ∀ (i : Nat) (x : Value), ¬ i < L → (vs ++ [u])[i]? = some x → x = u := fun i x hi hx => by
    rw [List.getElem?_append_right (by omega)] at hx
    rcases Nat.eq_zero_or_pos (i - vs.length) with e | e
    · rw [e] at hx; simpa using hx.symm
    · rw [List.getElem?_eq_none (by simp; omega)] at hx; cases hx
  have idx : ∀ (i : Nat) (x : Value), (vs ++ [u])[i]? = some x → i ≤ L := fun i x hx => by
    have := (List.getElem?_eq_some_iff.1 hx).1
    simp at this
    omega
  refine ⟨hg.kept h.kp h1 (Nat.le_refl _), _, ho, fun j hj => ?_, fun i j x x' hi hj hne => ?_⟩
  · by_cases e : j < L
    · obtain ⟨u, e1, e2⟩ := h2 j e
      exact ⟨u, by rw [List.getElem?_append_left (by omega)]; exact e1, hg.row e2 (rows_far h1 e2 (by decide))⟩
    · obtain rfl : j = L := by omega
      exact ⟨u, by rw [List.getElem?_append_right (by omega)]; simp [hl], hg.row hu (rows_far h1 hu (by decide))⟩
  · by_cases a : i < L
    · rw [List.getElem?_append_left (by omega)] at hi
      by_cases b : j < L
      · rw [List.getElem?_append_left (by omega)] at hj
        exact h3 i j x x' hi hj hne
      · rw [last j x' b hj]
        exact hf i x hi
    · rw [last i x a hi]
      by_cases b : j < L
      · rw [List.getElem?_append_left (by omega)] at hj
        exact (hf j x' hj).symm
      · have h4 := idx i x hi
        have h5 := idx j x' hj
        omega
def RowsEnd (n v : Nat) (E : Nat → Nat → Prop) (w : World) (e : Ending) (w' : World) : Prop := ∃ (d : List Nat) (a : Option Addr) (L c : Nat), e = .returned (.slice a L c) ∧ IsD n v E d ∧ Many n d n L ∧ RowsV w' a L (lvl d n) ∧ Kept w w'
set_option maxHeartbeats 4000000 in
theorem refRows_ok (N S T : Int) (n m : Nat) (a3 a4 a5 a6 a7 a8 : Option Addr) (c3 c4 c5 c6 c7 c8 : Nat) (ys : List Ar) (ra : Option Addr) (rc : Nat) (rs : List Int) (v : Nat) (w : World) (hg : Gr N S T n m ys) (hcr : CsrR w n ys a3 a4 a5 a6 a7 a8) (hr : Rd w ra (lv rs)) (hm : rs.length = m) (hv : v < n) :
    Calls Try.prog 21 #[.agg #[.int .i64 N, .int .i64 S, .int .i64 T, .slice a3 (n + 1) c3, .slice a4 m c4, .slice a5 m c5, .slice a6 m c6, .slice a7 m c7, .slice a8 m c8], .slice ra m rc, .int .i64 v] w (RowsEnd n v (fun u x => OpenA n m ys rs x u) w) := by
  have HK := Lib.hid ((Upd.refl (fun _ => False) w).alloc (.cells #[.int .i64 N, .int .i64 S, .int .i64 T, .slice a3 (n + 1) c3, .slice a4 m c4, .slice a5 m c5, .slice a6 m c6, .slice a7 m c7, .slice a8 m c8] 29))
  have HB := Lib.hid (Blk.new w #[.int .i64 N, .int .i64 S, .int .i64 T, .slice a3 (n + 1) c3, .slice a4 m c4, .slice a5 m c5, .slice a6 m c6, .slice a7 m c7, .slice a8 m c8] 29)
  have hnN := hg.len.1
  have hn16 : n ≤ 16 := by have := hg.len; omega
  have hn2 : 2 ≤ n := by have := hg.len; omega
  have HT2 := fun (w' : World) (k : Kept w w') => Lib.hid (refTo_ok N S T n m a3 a4 a5 a6 a7 a8 c3 c4 c5 c6 c7 c8 ys ra rc rs v w' hg (hcr.kept k) (hr.kept k) hm hv)
  clear hg hcr hr
  subst hnN
  have HT := HT2
  clear HT2
  go_enter Try.func21, Try.ntmps21
  go_upto_region 1 with (fail)
  generalize (w.alloc (.cells #[.int .i64 n, .int .i64 S, .int .i64 T, .slice a3 (n + 1) c3, .slice a4 m c4, .slice a5 m c5, .slice a6 m c6, .slice a7 m c7, .slice a8 m c8] 29)) = W0 at HK HB ⊢
  generalize w.heap.size = cb at HB ⊢
  have bx := HB.out.cell
  go_wp2_with fail
  refine (HT _ HK.out).out.mono ?_
  rintro e W2 ⟨db, dc, d, rfl, hd0, hd2, hk2⟩
  have HD := Lib.hid hd0
  have HI := Lib.hid hd2
  have HB2 := Lib.hid (HB.out.kept hk2)
  have HK2 := Lib.hid (HK.out.trans hk2)
  have HDL : Hid (d.length = n) := Lib.hid hd2.len
  clear hd0 hd2 hk2 HB HK HT bx
  have HDC : Hid (∀ w', Kept W2 w' → ∀ v, v < n → w'.cell? ⟨db, v, none⟩ = some (.int .i64 (d.getD v 0 : Nat))) := Lib.hid (fun w' k v hv => by
    obtain ⟨b, o, e, h⟩ := (HD.out.kept k).at v (by rw [nv_len, HDL.out]; exact hv)
    cases e
    rw [nv_get (by rw [HDL.out]; exact hv)] at h
    simpa using h)
  obtain ⟨L, hL⟩ := many_ex (n := n) (d := d) HI.out.le n (Nat.le_refl _)
  have HML := Lib.hid hL
  have HLN : Hid (L ≤ n) := Lib.hid hL.2.2
  clear hL
  have hn0 : decide ((0 : Int) < (n : Int)) = true := by simp; omega
  have hn0' : decide (0 < n) = true := by simp; omega
  go_upto_region 4 with (fail)
  go_loopw [8, 9] (fun ox kx wr => ∃ (k : Nat) (oa : Option Addr) (c oc : Nat), ox = .slice oa c oc ∧ kx = .int .i64 k ∧ k ≤ n ∧ c ≤ k ∧ Hid (c = min k L) ∧ Hid (RR W2 wr (.slice oa c oc) c (lvl d n))) (fun _ kx _ => n - (intOf kx).toNat)
  case atStart => exact ⟨0, none, 0, 0, rfl, rfl, by omega, by omega, Lib.hid (by simp), Lib.hid (RR.nil _ _)⟩
  case round =>
    obtain ⟨k, oa, c, oc, rfl, rfl, hkn, hck, HC, HR⟩ := hrel
    obtain ⟨wo, rfl⟩ : ∃ wo : World, wo = wr := ⟨_, rfl⟩
    have bx := (HB2.out.kept HR.out.kp).cell
    by_cases hlt : k < n
    · have i1 : decide ((k : Int) < (n : Int)) = true := by simpa using hlt
      have i1' : decide (k < n) = true := by simpa using hlt
      go_upto_region 8 with (fail)
      clear bx
      go_loopw [10, 11] (fun rx vx wr => ∃ (v : Nat) (r : Option Addr) (q qc : Nat), rx = .slice r q qc ∧ vx = .int .i64 v ∧ v ≤ n ∧ q ≤ v ∧ Hid ((lvl d v k).length = q) ∧ Hid (Kept wo wr) ∧ Hid (wr.ownsRow wo.heap.size 3 1 (.slice r q qc) q (nv (lvl d v k)))) (fun _ vx _ => n - (intOf vx).toNat)
      case atStart => exact ⟨0, none, 0, 0, rfl, rfl, by omega, by omega, Lib.hid rfl, Lib.hid (Upd.refl _ _), Lib.hid (World.ownsRow_nil _ _ _ _)⟩
      case round =>
        obtain ⟨v, r, q, qc, rfl, rfl, hvn, hqv, HQ, HKQ, HRQ⟩ := hrel
        have bx := (HB2.out.kept (HR.out.kp.trans HKQ.out)).cell
        by_cases hvl : v < n
        · have dcv := HDC.out wr (HR.out.kp.trans HKQ.out) v hvl
          obtain ⟨y, hy⟩ : ∃ y, d.getD v 0 = y := ⟨_, rfl⟩
          rw [hy] at dcv
          have HY := Lib.hid hy
          have j0 : (v : Int) < (n : Int) := by omega
          have j1 : (0 : Int) ≤ (v : Int) := by omega
          have hv16 : (v : Int) ≤ 1000 := by omega
          clear hy
          by_cases hyk : y = k
          · have z1 : ((y : Int) == (k : Int)) = true := by simp [hyk]
            have HN : Hid (lvl d (v + 1) k = lvl d v k ++ [v]) := Lib.hid (by rw [lvl_succ, if_pos (by rw [HY.out]; exact hyk)])
            obtain ⟨i0', hi0, hz0, hz1, hz2⟩ := info_parts infoInt
            have hxl : q ≤ 2000000 := by omega
            have hbs := HKQ.out.size
            have ho := HRQ.out
            clear hyk HRQ
            go_upto_region 9 with (first | (at_builtin; refine wpList_push rfl _ _ 27 rfl wo.heap.size 3 i0' (.int .i64 0) 8 Try.underlying27 hi0 hz0 hz1 hz2 rfl (by decide) _ _ _ rfl ho (.int .i64 (v : Int)) rfl rfl hxl hbs ?_; intro g cap' w5 hown hg2; clear hi0 hz0 hz1 hz2 hxl hbs; have HK6 := Lib.hid (hg2.kept HKQ.out ho (Nat.le_refl _)); have HR6 := Lib.hid hown; clear hown hg2 ho HKQ) | fail)
            go_wp2_with fail
            go_roundw
            case rel => exact ⟨v + 1, _, q + 1, _, rfl, by go_num, by omega, by omega, Lib.hid (by rw [HN.out, List.length_append, HQ.out]; rfl), HK6, Lib.hid (by rw [HN.out, show nv (lvl d v k ++ [v]) = nv (lvl d v k) ++ [.int .i64 (v : Int)] by simp [nv]]; exact HR6.out)⟩
            case measure => simp [intOf]; omega
          · have z1 : ((y : Int) == (k : Int)) = false := by simp; omega
            have HN : Hid (lvl d (v + 1) k = lvl d v k) := Lib.hid (by rw [lvl_succ, if_neg (by rw [HY.out]; exact hyk)])
            clear hyk
            go_wp2_with fail
            go_roundw
            case rel => exact ⟨v + 1, r, q, qc, rfl, by go_num, by omega, by omega, Lib.hid (by rw [HN.out]; exact HQ.out), HKQ, Lib.hid (by rw [HN.out]; exact HRQ.out)⟩
            case measure => simp [intOf]; omega
        · have j0 : ¬ (v : Int) < (n : Int) := by omega
          have hk16 : (k : Int) ≤ 1000 := by omega
          have HVN : Hid (v = n) := Lib.hid (by omega)
          by_cases hq0 : q = 0
          · subst hq0
            have HC2 : Hid (c = min (k + 1) L) := Lib.hid (by
              have h1 := HC.out
              have h2 := HQ.out
              rw [HVN.out] at h2
              rcases Nat.lt_or_ge k L with h | h
              · exfalso
                obtain ⟨x, hx, hxk⟩ := lvl_all HI.out HML.out k h
                have h3 : x ∈ lvl d n k := lvl_mem.2 ⟨hx, hxk⟩
                have h4 := List.eq_nil_of_length_eq_zero h2
                rw [h4] at h3
                cases h3
              · omega)
            have HR2 := Lib.hid (HR.out.kept HKQ.out)
            have hck2 : c ≤ k + 1 := by omega
            clear HC HQ HRQ HVN HR
            go_wp2_with fail
            go_roundw
            case rel => exact ⟨k + 1, oa, c, oc, rfl, by go_num, by omega, hck2, HC2, HR2⟩
            case measure => simp [intOf]; omega
          · have z1 : decide ((0 : Int) < (q : Int)) = true := by simp; omega
            have z1' : decide (0 < q) = true := by simp; omega
            have hkL : k < L := by
              have h2 := HQ.out
              rw [HVN.out] at h2
              obtain ⟨x, hx⟩ : ∃ x, x ∈ lvl d n k := by
                cases h4 : lvl d n k with
                | nil => rw [h4] at h2; exact absurd h2.symm hq0
                | cons x xs => exact ⟨x, List.mem_cons_self⟩
              obtain ⟨h5, h6⟩ := lvl_mem.1 hx
              have := HML.out.1 x h5 (by omega)
              omega
            obtain rfl : c = k := by have := HC.out; omega
            have HC2 : Hid (c + 1 = min (c + 1) L) := Lib.hid (by omega)
            have HR2 := Lib.hid (HR.out.kept HKQ.out)
            obtain ⟨vs, h1, h2, h3⟩ := HR2.out.ex
            have HFAR : Hid (∀ (j : Nat) (u : Value), vs[j]? = some u → FarV u (.slice r q qc)) := Lib.hid (by
              obtain ⟨vs0, g1, g2, g3⟩ := HR.out.ex
              have he : vs = vs0 := ownsRow_one h1 (ownsRow_upd g1 HKQ.out (fun _ _ f => f))
              subst he
              intro j u hu k' e1 e2
              have hj : j < c := by
                have h5 := (List.getElem?_eq_some_iff.1 hu).1
                have h6 := g1.1
                omega
              obtain ⟨u', e3, e4⟩ := g2 j hj
              rw [hu] at e3
              cases e3
              have h7 := (World.ownsRow.lt e4 k' e1).2
              have h8 := (World.ownsRow.lt HRQ.out k' e2).1
              omega)
            have HRQ2 : Hid (wr.ownsRow W2.heap.size 3 1 (.slice r q qc) (lvl d n c).length (nv (lvl d n c))) := Lib.hid (by
              have h5 := ownsRow_base HRQ.out HR.out.kp.size
              have h6 := HQ.out
              rw [HVN.out] at h5 h6
              rw [h6]
              exact h5)
            have H1 := Lib.hid h1
            have H2 := Lib.hid h2
            have H3 := Lib.hid h3
            obtain ⟨i0', hi0, hz0, hz1, hz2⟩ := info_parts infoRow
            have hxl : c ≤ 2000000 := by omega
            have hbs := HR2.out.kp.size
            clear h2 h3 hck HC HQ HRQ HVN hq0 hkL
            go_upto_region 5 with (first | (at_builtin; refine wpList_pushw rfl _ _ 39 rfl W2.heap.size 27 i0' (.slice none 0 0) 24 Try.underlying39 hi0 hz0 hz1 hz2 rfl (by decide) _ _ _ rfl h1 (.slice r q qc) rfl rfl hxl hbs ?_; intro g cap' w' hown hg2; clear hi0 hz0 hz1 hz2 hxl hbs; have HR3 := Lib.hid (HR2.out.push H1.out H2.out H3.out hown hg2 HRQ2.out HFAR.out); clear hown hg2 h1 H1 H2 H3 HR HR2 HRQ2 HFAR) | fail)
            go_wp2_with fail
            go_roundw
            case rel => exact ⟨c + 1, _, c + 1, _, rfl, by go_num, by omega, by omega, HC2, HR3⟩
            case measure => simp [intOf]; omega
    · have i1 : decide ((k : Int) < (n : Int)) = false := by simp; omega
      have i1' : decide (k < n) = false := by simp; omega
      have hc : c = L := by have h1 := HC.out; have h2 := HLN.out; omega
      have HMC : Hid (Many n d n c) := Lib.hid (by rw [hc]; exact HML.out)
      have HRV := Lib.hid (HR.out.rowsV)
      have HKZ := Lib.hid (HK2.out.trans HR.out.kp)
      clear HR hc HC
      go_wp2_with fail
      go_ret
      exact ⟨d, oa, c, oc, rfl, HI.out, HMC.out, HRV.out, HKZ.out⟩
theorem rows_no (N S T : Int) (n m : Nat) (a3 a4 a5 a6 a7 a8 : Option Addr) (c3 c4 c5 c6 c7 c8 : Nat) (ra : Option Addr) (rl rc : Nat) (v : Int) (w : World) (hz : (decide (rl = m) && decide (0 ≤ v) && decide (v < N)) = false) :
    Calls Try.prog 15 #[.agg #[.int .i64 N, .int .i64 S, .int .i64 T, .slice a3 (n + 1) c3, .slice a4 m c4, .slice a5 m c5, .slice a6 m c6, .slice a7 m c7, .slice a8 m c8], .slice ra rl rc, .int .i64 v] w fun e w' => e = .returned (.slice none 0 0) ∧ Kept w w' := by
  have HK := Lib.hid ((Upd.refl (fun _ => False) w).alloc (.cells #[.int .i64 N, .int .i64 S, .int .i64 T, .slice a3 (n + 1) c3, .slice a4 m c4, .slice a5 m c5, .slice a6 m c6, .slice a7 m c7, .slice a8 m c8] 29))
  have HB := Lib.hid (Blk.new w #[.int .i64 N, .int .i64 S, .int .i64 T, .slice a3 (n + 1) c3, .slice a4 m c4, .slice a5 m c5, .slice a6 m c6, .slice a7 m c7, .slice a8 m c8] 29)
  have HT := fun (w' : World) => Lib.hid (to_no N S T n m a3 a4 a5 a6 a7 a8 c3 c4 c5 c6 c7 c8 ra rl rc v w' hz)
  clear hz
  go_enter Try.func15, Try.ntmps15
  go_upto_region 1 with (fail)
  generalize (w.alloc (.cells #[.int .i64 N, .int .i64 S, .int .i64 T, .slice a3 (n + 1) c3, .slice a4 m c4, .slice a5 m c5, .slice a6 m c6, .slice a7 m c7, .slice a8 m c8] 29)) = W0 at HK HB ⊢
  generalize w.heap.size = cb at HB ⊢
  have bx := HB.out.cell
  go_wp2_with fail
  refine (HT _).out.mono ?_
  rintro e W2 ⟨rfl, hk2⟩
  have HKZ := Lib.hid (HK.out.trans hk2)
  have HB2 := Lib.hid (HB.out.kept hk2)
  clear hk2 HT HK bx HB
  have bx := HB2.out.cell
  go_upto_region 4 with (fail)
  go_loopw [8, 17] (fun ox ix wr => ox = .slice none 0 0 ∧ ix = .int .i64 0 ∧ wr = W2) (fun _ ix _ => 0)
  case atStart => exact ⟨rfl, rfl, rfl⟩
  case round =>
    obtain ⟨rfl, rfl, hwe⟩ := hrel
    rw [hwe]
    clear hwe
    go_wp2_with fail
    go_ret
    exact ⟨rfl, HKZ.out⟩
theorem refRows_no (N S T : Int) (n m : Nat) (a3 a4 a5 a6 a7 a8 : Option Addr) (c3 c4 c5 c6 c7 c8 : Nat) (ra : Option Addr) (rl rc : Nat) (v : Int) (w : World) (hz : (decide (rl = m) && decide (0 ≤ v) && decide (v < N)) = false) :
    Calls Try.prog 21 #[.agg #[.int .i64 N, .int .i64 S, .int .i64 T, .slice a3 (n + 1) c3, .slice a4 m c4, .slice a5 m c5, .slice a6 m c6, .slice a7 m c7, .slice a8 m c8], .slice ra rl rc, .int .i64 v] w fun e w' => e = .returned (.slice none 0 0) ∧ Kept w w' := by
  have HK := Lib.hid ((Upd.refl (fun _ => False) w).alloc (.cells #[.int .i64 N, .int .i64 S, .int .i64 T, .slice a3 (n + 1) c3, .slice a4 m c4, .slice a5 m c5, .slice a6 m c6, .slice a7 m c7, .slice a8 m c8] 29))
  have HB := Lib.hid (Blk.new w #[.int .i64 N, .int .i64 S, .int .i64 T, .slice a3 (n + 1) c3, .slice a4 m c4, .slice a5 m c5, .slice a6 m c6, .slice a7 m c7, .slice a8 m c8] 29)
  have HT := fun (w' : World) => Lib.hid (refTo_no N S T n m a3 a4 a5 a6 a7 a8 c3 c4 c5 c6 c7 c8 ra rl rc v w' hz)
  clear hz
  go_enter Try.func21, Try.ntmps21
  go_upto_region 1 with (fail)
  generalize (w.alloc (.cells #[.int .i64 N, .int .i64 S, .int .i64 T, .slice a3 (n + 1) c3, .slice a4 m c4, .slice a5 m c5, .slice a6 m c6, .slice a7 m c7, .slice a8 m c8] 29)) = W0 at HK HB ⊢
  generalize w.heap.size = cb at HB ⊢
  have bx := HB.out.cell
  go_wp2_with fail
  refine (HT _).out.mono ?_
  rintro e W2 ⟨rfl, hk2⟩
  have HKZ := Lib.hid (HK.out.trans hk2)
  have HB2 := Lib.hid (HB.out.kept hk2)
  clear hk2 HT HK bx HB
  have bx := HB2.out.cell
  go_upto_region 4 with (fail)
  go_loopw [8, 9] (fun ox ix wr => ox = .slice none 0 0 ∧ ix = .int .i64 0 ∧ wr = W2) (fun _ ix _ => 0)
  case atStart => exact ⟨rfl, rfl, rfl⟩
  case round =>
    obtain ⟨rfl, rfl, hwe⟩ := hrel
    rw [hwe]
    clear hwe
    by_cases hN : 0 < N
    · have q1 : decide (0 < N) = true := by simpa using hN
      go_wp2_with fail
      go_ret
      exact ⟨rfl, HKZ.out⟩
    · have q1 : decide (0 < N) = false := by simpa using hN
      go_wp2_with fail
      go_ret
      exact ⟨rfl, HKZ.out⟩
end Go.Proofs.Ytoapekkmaajfmaa
