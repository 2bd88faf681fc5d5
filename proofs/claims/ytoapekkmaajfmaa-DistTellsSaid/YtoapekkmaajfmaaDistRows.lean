/- dist.Rows, acequialaw05.rows (printed by gen_distrows.py). -/
import Derived.Test.YtoapekkmaajfmaaDistTo
import Derived.Test.YtoapekkmaajfmaaRowsOf
import Derived.Deep.CutRange
namespace Go.Proofs.Ytoapekkmaajfmaa
set_option linter.unusedVariables false
set_option linter.unusedSimpArgs false
open Go.RowKit
attribute [local go_sem] cell?_ext

/-- So many rows: nobody is beyond, and the last one is not empty. -/
def Many (n : Nat) (d : List Nat) (v L : Nat) : Prop := (∀ x, x < v → d.getD x 0 < n → d.getD x 0 < L) ∧ (L = 0 ∨ ∃ x, x < v ∧ d.getD x 0 + 1 = L) ∧ L ≤ n
theorem Many.zero (n : Nat) (d : List Nat) : Many n d 0 0 := ⟨fun x h => by omega, .inl rfl, by omega⟩
theorem Many.skip {n v L : Nat} {d : List Nat} (h : Many n d v L) (hn : d.getD v 0 = n) : Many n d (v + 1) L := by
  refine ⟨fun x hx hl => ?_, ?_, h.2.2⟩
  · by_cases e : x = v
    · subst e; omega
    · exact h.1 x (by omega) hl
  · rcases h.2.1 with e | ⟨x, hx, e⟩
    · exact .inl e
    · exact .inr ⟨x, by omega, e⟩
theorem Many.step {n v L k : Nat} {d : List Nat} (h : Many n d v L) (hk : d.getD v 0 = k) (hn : k < n) : Many n d (v + 1) (max L (k + 1)) := by
  refine ⟨fun x hx hl => ?_, ?_, by have := h.2.2; omega⟩
  · by_cases e : x = v
    · subst e; omega
    · have := h.1 x (by omega) hl; omega
  · by_cases e : L ≤ k
    · exact .inr ⟨v, by omega, by omega⟩
    · rcases h.2.1 with e | ⟨x, hx, e⟩
      · omega
      · exact .inr ⟨x, by omega, by omega⟩
set_option maxHeartbeats 4000000 in
theorem rows_ok (N S T : Int) (n m : Nat) (a3 a4 a5 a6 a7 a8 : Option Addr) (c3 c4 c5 c6 c7 c8 : Nat) (ys : List Ar) (ra : Option Addr) (rc : Nat) (rs : List Int) (v : Nat) (w : World) (hg : Gr N S T n m ys) (hcr : CsrR w n ys a3 a4 a5 a6 a7 a8) (hr : Rd w ra (lv rs)) (hm : rs.length = m) (hv : v < n) :
    Calls Try.prog 15 #[.agg #[.int .i64 N, .int .i64 S, .int .i64 T, .slice a3 (n + 1) c3, .slice a4 m c4, .slice a5 m c5, .slice a6 m c6, .slice a7 m c7, .slice a8 m c8], .slice ra m rc, .int .i64 v] w fun e w' => ∃ (d : List Nat) (a : Option Addr) (L c : Nat), e = .returned (.slice a L c) ∧ IsD n v (fun u x => OpenA n m ys rs x u) d ∧ Many n d n L ∧ RowsV w' a L (lvl d n) ∧ Kept w w' := by
  have HK := Lib.hid ((Upd.refl (fun _ => False) w).alloc (.cells #[.int .i64 N, .int .i64 S, .int .i64 T, .slice a3 (n + 1) c3, .slice a4 m c4, .slice a5 m c5, .slice a6 m c6, .slice a7 m c7, .slice a8 m c8] 29))
  have HB := Lib.hid (Blk.new w #[.int .i64 N, .int .i64 S, .int .i64 T, .slice a3 (n + 1) c3, .slice a4 m c4, .slice a5 m c5, .slice a6 m c6, .slice a7 m c7, .slice a8 m c8] 29)
  have hnN := hg.len.1
  have hn16 : n ≤ 16 := by have := hg.len; omega
  have HT := fun (w' : World) (k : Kept w w') => Lib.hid (to_ok N S T n m a3 a4 a5 a6 a7 a8 c3 c4 c5 c6 c7 c8 ys ra rc rs v w' hg (hcr.kept k) (hr.kept k) hm hv)
  have HT2 := HT
  clear hg hcr hr HT
  subst hnN
  have HT := HT2
  clear HT2
  go_enter Try.func15, Try.ntmps15
  go_upto_region 1 with (fail)
  generalize (w.alloc (.cells #[.int .i64 n, .int .i64 S, .int .i64 T, .slice a3 (n + 1) c3, .slice a4 m c4, .slice a5 m c5, .slice a6 m c6, .slice a7 m c7, .slice a8 m c8] 29)) = W0 at HK HB ⊢
  generalize w.heap.size = cb at HB ⊢
  have bx := HB.out.cell
  go_wp2_with fail
  refine (HT _ HK.out).out.mono ?_
  rintro e W2 ⟨db, d, rfl, hd0, -, hd2, hk2⟩
  have HD := Lib.hid hd0
  have HI := Lib.hid hd2
  have HB2 := Lib.hid (HB.out.kept hk2)
  have HK2 := Lib.hid (HK.out.trans hk2)
  have HDL : Hid (d.length = n) := Lib.hid hd2.len
  clear hd0 hd2 hk2 HB HK HT bx
  go_upto_region 4 with (fail)
  go_loopw [8, 17] (fun ox ix wr => ∃ (v : Nat) (oa : Option Addr) (L oc : Nat), ox = .slice oa L oc ∧ ix = .int .i64 v ∧ v ≤ n ∧ L ≤ n ∧ Hid (RR W2 wr (.slice oa L oc) L (lvl d v)) ∧ Hid (Many n d v L)) (fun _ ix _ => n - (intOf ix).toNat)
  case atStart => exact ⟨0, none, 0, 0, rfl, rfl, by omega, by omega, Lib.hid (RR.nil _ _), Lib.hid (Many.zero _ _)⟩
  case round =>
    obtain ⟨v, oa, L, oc, rfl, rfl, hv2, hLn, HR, HM⟩ := hrel
    obtain ⟨wo, rfl⟩ : ∃ wo : World, wo = wr := ⟨_, rfl⟩
    by_cases hlt : v < n
    · have bx := (HB2.out.kept HR.out.kp).cell
      have dc0 : wo.cell? ⟨db, v, none⟩ = some (.int .i64 (d.getD v 0 : Nat)) := by rw [(HD.out.kept HR.out.kp).cell]; simp only [List.getElem?_toArray]; exact nv_get (by rw [HDL.out]; exact hlt)
      obtain ⟨k, hk⟩ : ∃ k, d.getD v 0 = k := ⟨_, rfl⟩
      have hkn : k ≤ n := by rw [← hk]; exact HI.out.le v hlt
      rw [hk] at dc0
      have HKD := Lib.hid hk
      have i1 : (v : Int) < (n : Int) := by omega
      have i0 : (0 : Int) ≤ (v : Int) := by omega
      clear hk
      by_cases hkk : k = n
      · have hb1 : ((k : Int) == (n : Int)) = true := by simp [hkk]
        have HM2 := Lib.hid (HM.out.skip (by rw [HKD.out]; exact hkk))
        have HR2 : Hid (RR W2 wo (.slice oa L oc) L (lvl d (v + 1))) := Lib.hid (HR.out.congr (fun j hj => by
          rw [lvl_succ, if_neg (by rw [HKD.out]; omega)]))
        clear hkk HM HR
        go_wp2_with fail
        go_roundw
        case rel => exact ⟨v + 1, oa, L, oc, rfl, by go_num, by omega, hLn, HR2, HM2⟩
        case measure => simp [intOf]; omega
      · have hb1 : ((k : Int) == (n : Int)) = false := by simp; omega
        have HM2 := Lib.hid (HM.out.step HKD.out (by omega))
        have HNIL : Hid (∀ j, L ≤ j → j < n → lvl d v j = []) := Lib.hid (fun j hj hjn => lvl_nil (fun x hx e => by
          have := HM.out.1 x hx (by omega)
          omega))
        obtain ⟨L0, hL0⟩ : ∃ L0, L0 = L := ⟨_, rfl⟩
        have HLL : Hid (max L0 (k + 1) = max L (k + 1)) := Lib.hid (by rw [hL0])
        have HM3 : Hid (Many n d (v + 1) (max L0 (k + 1))) := Lib.hid (by rw [hL0]; exact HM2.out)
        have HN3 : Hid (∀ j, L0 ≤ j → j < n → lvl d v j = []) := Lib.hid (by rw [hL0]; exact HNIL.out)
        have hLL0 : L0 ≤ L := by omega
        have hkn' : k < n := by omega
        have hLk : L ≤ max L0 (k + 1) := by omega
        clear HM2 HNIL HLL HM hkk hL0 hkn
        go_upto_region 7 with (fail)
        clear bx dc0
        go_loopw [8] (fun ox wr => ∃ (oa : Option Addr) (L oc : Nat), ox = .slice oa L oc ∧ L0 ≤ L ∧ L ≤ n ∧ L ≤ max L0 (k + 1) ∧ Hid (RR W2 wr (.slice oa L oc) L (lvl d v))) (fun ox _ => k + 1 - lenV ox)
        case atStart => exact ⟨oa, L, oc, rfl, hLL0, hLn, hLk, HR⟩
        case round =>
          clear HR hLL0 hLn hLk
          obtain ⟨oa, L, oc, rfl, hLL0, hLn, hLk, HR⟩ := hrel
          by_cases hLK : L ≤ k
          · have j0 : (L : Int) ≤ (k : Int) := by omega
            obtain ⟨vs, h1, h2, h3⟩ := HR.out.ex
            have H1 := Lib.hid h1
            have H2 := Lib.hid h2
            have H3 := Lib.hid h3
            obtain ⟨i0', hi0, hz0, hz1, hz2⟩ := info_parts infoRow
            have hxl : L ≤ 2000000 := by omega
            have hbs := HR.out.kp.size
            clear h2 h3
            go_wp2_with (first | (at_builtin; refine wpList_pushw rfl _ _ 39 rfl W2.heap.size 27 i0' (.slice none 0 0) 24 Try.underlying39 hi0 hz0 hz1 hz2 rfl (by decide) _ _ _ rfl h1 (.slice none 0 0) rfl rfl hxl hbs ?_; intro g cap' w' hown hg2; clear hi0 hz0 hz1 hz2 hxl hbs) | fail)
            have HR2 := Lib.hid (HR.out.grow H1.out H2.out H3.out hown hg2 (HN3.out L hLL0 (by omega)))
            clear hown hg2 h1 H1 H2 H3 HR
            go_roundw
            case rel => exact ⟨_, L + 1, _, rfl, by omega, by omega, by omega, HR2⟩
            case measure => simp [lenV]; omega
          · have j0 : ¬ (L : Int) ≤ (k : Int) := by omega
            have hkL : k < L := by omega
            have hmx : L = max L0 (k + 1) := by omega
            have HM4 : Hid (Many n d (v + 1) L) := Lib.hid (by rw [hmx]; exact HM3.out)
            clear hmx hLk HM3
            obtain ⟨vs, h1, h2, h3⟩ := HR.out.ex
            obtain ⟨g, rfl⟩ : ∃ g, oa = some ⟨g, 0, none⟩ := by
              rcases h1.2 with ⟨e1, e2⟩ | ⟨g, cap, cur, e1, -⟩
              · cases e1; omega
              · cases e1; exact ⟨g, rfl⟩
            obtain ⟨u, e1, e2⟩ := h2 k hkL
            have oc0 := h1.cellAt k (by omega)
            rw [e1] at oc0
            obtain ⟨ua, uc, rfl, -⟩ := Rd.owns e2
            have H1 := Lib.hid h1
            have H2 := Lib.hid h2
            have H3 := Lib.hid h3
            have E1 := Lib.hid e1
            have E2 := Lib.hid e2
            obtain ⟨i0', hi0, hz0, hz1, hz2⟩ := info_parts infoInt
            have hxl : (lvl d v k).length ≤ 2000000 := by
              have := List.length_filter_le (fun x => d.getD x 0 == k) (List.range v)
              rw [List.length_range] at this
              unfold lvl
              omega
            have hbs := HR.out.kp.size
            have j1 : (0 : Int) ≤ (k : Int) := by omega
            have j2 : (k : Int) < (L : Int) := by omega
            obtain ⟨q, hq⟩ : ∃ q, (lvl d v k).length = q := ⟨_, rfl⟩
            rw [hq] at hxl oc0 e2 E2 E1
            have HQ := Lib.hid hq
            clear h1 h2 h3 e1 hq
            go_upto_region 9 with (fail)
            have ho := e2
            go_wp2_with (first | (at_builtin; refine wpList_pushw rfl _ _ 27 rfl W2.heap.size 3 i0' (.int .i64 0) 8 Try.underlying27 hi0 hz0 hz1 hz2 rfl (by decide) _ _ _ rfl ho (.int .i64 (v : Int)) rfl rfl hxl hbs ?_; intro g2 cap2 w5 hown hg2; clear hi0 hz0 hz1 hz2 hxl hbs; obtain ⟨⟨y5, c5'⟩, f5', HR5⟩ := HR.out.add (R' := lvl d (v + 1)) H1.out H2.out H3.out hkL E1.out (by rw [HQ.out]; exact E2.out) (by rw [HQ.out]; exact hown) hg2 (by rw [lvl_succ, if_pos HKD.out]) (fun j hj => by rw [lvl_succ, if_neg (by rw [HKD.out]; exact fun e => hj e.symm)]); have HR6 := Lib.hid HR5; clear HR5 hown hg2 H1 H2 H3 E1 E2 ho e2 HR oc0) | fail)
            go_roundw
            case rel => exact ⟨v + 1, _, L, oc, rfl, by go_num, by omega, hLn, HR6, HM4⟩
            case measure => simp [intOf]; omega
    · have hvn : v = n := by omega
      have HRV : Hid (RowsV wo oa L (lvl d n)) := Lib.hid (by have := HR.out.rowsV; rw [hvn] at this; exact this)
      have HMN : Hid (Many n d n L) := Lib.hid (by have := HM.out; rw [hvn] at this; exact this)
      have HKZ := Lib.hid (HK2.out.trans HR.out.kp)
      have i1 : ¬ (v : Int) < (n : Int) := by omega
      clear HM HR hvn
      go_wp2_with fail
      go_ret

      exact ⟨d, oa, L, ⟨oc, rfl⟩, HI.out, HMN.out, HRV.out, HKZ.out⟩
end Go.Proofs.Ytoapekkmaajfmaa
