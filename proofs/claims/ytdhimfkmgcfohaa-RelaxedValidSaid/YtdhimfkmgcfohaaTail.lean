/- sort.SearchInts over numbers that rise, csr.Len, csr.Tail (printed by gen_tail.py). -/
import Derived.Test.YtdhimfkmgcfohaaGr
import Derived.Test.YtdhimfkmgcfohaaRefMake
import Derived.Deep.CutRange
import Derived.Deep.RegionHeld3
namespace Go.Proofs.Ytdhimfkmgcfohaa
set_option linter.unusedVariables false
set_option linter.unusedSimpArgs false
open Go.RowKit
attribute [local go_sem] cell?_ext

theorem nv_get {fl : List Nat} {i : Nat} (h : i < fl.length) : (nv fl)[i]? = some (.int .i64 (fl.getD i 0 : Nat)) := by simp [nv, h]
theorem geCall (ba bx : Nat) (fa : Option Addr) (fc : Nat) (fl : List Nat) (x : Int) (i : Nat) (w : World) (h1 : Blk w ba #[.slice fa fl.length fc] 27) (h2 : Blk w bx #[.int .i64 x] 3) (hr : Rd w fa (nv fl)) (hi : i < fl.length) :
    Calls Try.prog 79 #[.int .i64 i, .pointer (some ⟨ba, 0, none⟩), .pointer (some ⟨bx, 0, none⟩)] w fun e w' => e = .returned (.bool (decide (x ≤ (fl.getD i 0 : Nat)))) ∧ Kept w w' := by
  obtain ⟨b, o, rfl, c0⟩ := hr.at i (by rw [nv_len]; exact hi)
  rw [nv_get hi] at c0
  generalize fl.getD i 0 = y at c0 ⊢
  have c1 := h1.cell
  have c2 := h2.cell
  have j0 : (0 : Int) ≤ (i : Int) := by omega
  have j1 : (i : Int) < (fl.length : Int) := by omega
  clear hr
  go_enter Try.func79, Try.ntmps79
  go_wp2_with fail
  refine wp_region_kept (by kernel_rfl) (by kernel_rfl) ?_
  repeat (go_big_quiet_step (fail))
  refine wpQuiet_nil ?_
  intro w1 hk1
  go_wp2_with fail
  go_ret
  exact ⟨rfl, hk1⟩
set_option maxHeartbeats 2000000 in
theorem search_any (ba bx : Nat) (fa : Option Addr) (fc : Nat) (fl : List Nat) (x : Int) (w : World) (h1 : Blk w ba #[.slice fa fl.length fc] 27) (h2 : Blk w bx #[.int .i64 x] 3) (hr : Rd w fa (nv fl)) (hl : fl.length ≤ 1000000)
    (hmono : ∀ i j, i ≤ j → j < fl.length → fl.getD i 0 ≤ fl.getD j 0) :
    Calls Try.prog 78 #[.int .i64 fl.length, .func (.func 79) #[] #[.pointer (some ⟨ba, 0, none⟩), .pointer (some ⟨bx, 0, none⟩)]] w fun e w' => ∃ r : Nat, e = .returned (.int .i64 r) ∧ r ≤ fl.length ∧ (∀ k, k < r → (fl.getD k 0 : Int) < x) ∧ (r < fl.length → x ≤ (fl.getD r 0 : Nat)) ∧ Kept w w' := by
  have H1 := Lib.hid h1
  have H2 := Lib.hid h2
  have HR := Lib.hid hr
  have HM := Lib.hid hmono
  clear h1 h2 hr hmono
  go_enter Try.func78, Try.ntmps78
  go_wp2_with fail
  go_loopw [5, 6] (fun iv jv wr => ∃ i j : Nat, iv = .int .i64 i ∧ jv = .int .i64 j ∧ i ≤ j ∧ j ≤ fl.length ∧ Hid (∀ k, k < i → (fl.getD k 0 : Int) < x) ∧ Hid (∀ k, j ≤ k → k < fl.length → x ≤ (fl.getD k 0 : Nat)) ∧ Hid (Kept w wr)) (fun iv jv _ => (intOf jv).toNat - (intOf iv).toNat)
  case atStart => exact ⟨0, fl.length, rfl, rfl, by omega, by omega, Lib.hid (fun k hk => by omega), Lib.hid (fun k h1 h2 => by omega), Lib.hid (Upd.refl _ _)⟩
  case round =>
    obtain ⟨i, j, rfl, rfl, hij, hjl, HL, HH, HK⟩ := hrel
    by_cases hlt : i < j
    · obtain ⟨h, hh⟩ : ∃ h : Nat, h = (i + j) / 2 := ⟨_, rfl⟩
      have q1 : i ≤ h := by omega
      have q2 : h < j := by omega
      have q3 : ((i : Int) + (j : Int)) / 2 = (h : Int) := by omega
      clear hh
      have w1 : wrap64 ((i : Int) + (j : Int)) = (i : Int) + (j : Int) := by unfold wrap64; omega
      go_upto_region 4 with (fail)
      clear q3 w1
      have HC := Lib.hid (geCall ba bx fa fc fl x h wr (H1.out.kept HK.out) (H2.out.kept HK.out) (HR.out.kept HK.out) (by omega))
      have w2 : wrap64 ((h : Int) + 1) = (h : Int) + 1 := by unfold wrap64; omega
      by_cases hz : x ≤ (fl.getD h 0 : Nat)
      · rw [show decide (x ≤ ((fl.getD h 0 : Nat) : Int)) = true by simpa using hz] at HC
        have HZ := Lib.hid hz
        clear hz
        go_wp2_with fail
        refine HC.out.mono ?_
        rintro e w1 ⟨rfl, hk1⟩
        have HK2 := Lib.hid (HK.out.trans hk1)
        clear hk1
        go_wp2_with fail
        go_roundw
        case rel =>
          refine ⟨i, h, rfl, rfl, q1, by omega, HL, Lib.hid (fun k hk1 hk2 => ?_), HK2⟩
          have := HM.out h k hk1 hk2
          have := HZ.out
          omega
        case measure => simp [intOf]; omega
      · rw [show decide (x ≤ ((fl.getD h 0 : Nat) : Int)) = false by simpa using hz] at HC
        have HZ := Lib.hid hz
        clear hz
        go_wp2_with fail
        refine HC.out.mono ?_
        rintro e w1 ⟨rfl, hk1⟩
        have HK2 := Lib.hid (HK.out.trans hk1)
        clear hk1
        go_wp2_with fail
        go_roundw
        case rel =>
          refine ⟨h + 1, j, by go_num, rfl, by omega, hjl, Lib.hid (fun k hk1 => ?_), HH, HK2⟩
          have := HM.out k h (by omega) (by omega)
          have := HZ.out
          omega
        case measure => simp [intOf]; omega
    · have hij' : i = j := by omega
      subst hij'
      go_wp2_with fail
      go_ret
      exact ⟨i, rfl, hjl, HL.out, fun h => HH.out i (Nat.le_refl _) h, HK.out⟩
theorem searchInts_any (fa : Option Addr) (fc : Nat) (fl : List Nat) (x : Int) (w : World) (hr : Rd w fa (nv fl)) (hl : fl.length ≤ 1000000)
    (hmono : ∀ i j, i ≤ j → j < fl.length → fl.getD i 0 ≤ fl.getD j 0) :
    Calls Try.prog 70 #[.slice fa fl.length fc, .int .i64 x] w fun e w' => ∃ r : Nat, e = .returned (.int .i64 r) ∧ r ≤ fl.length ∧ (∀ k, k < r → (fl.getD k 0 : Int) < x) ∧ (r < fl.length → x ≤ (fl.getD r 0 : Nat)) ∧ Kept w w' := by
  have hk := ((Upd.refl (fun _ => False) w).alloc (.cells #[.slice fa fl.length fc] 27)).alloc (.cells #[.int .i64 x] 3)
  have h1 := (Blk.new w #[.slice fa fl.length fc] 27).alloc (.cells #[.int .i64 x] 3)
  have h2 := Blk.new (w.alloc (.cells #[.slice fa fl.length fc] 27)) #[.int .i64 x] 3
  have e1 : (w.alloc (.cells #[.slice fa fl.length fc] 27)).heap.size = w.heap.size + 1 := by simp
  rw [e1] at h2
  have HC := Lib.hid (search_any w.heap.size (w.heap.size + 1) fa fc fl x _ h1 h2 (hr.kept hk) hl hmono)
  have HK := Lib.hid hk
  clear h1 h2 hk e1 hr hmono
  go_enter Try.func70, Try.ntmps70
  go_wp2_with fail
  refine HC.out.mono ?_
  rintro e w1 ⟨r, rfl, g1, g2, g3, hk1⟩
  have HK2 := Lib.hid (HK.out.trans hk1)
  have G2 := Lib.hid g2
  have G3 := Lib.hid g3
  clear hk1 g2 g3
  go_wp2_with fail
  go_ret
  exact ⟨r, rfl, g1, G2.out, G3.out, HK2.out⟩
theorem len_any (N S T : Int) (n m : Nat) (a3 a4 a5 a6 a7 a8 : Option Addr) (c3 c4 c5 c6 c7 c8 : Nat) (w : World) : Calls Try.prog 31 #[.agg #[.int .i64 N, .int .i64 S, .int .i64 T, .slice a3 (n + 1) c3, .slice a4 m c4, .slice a5 m c5, .slice a6 m c6, .slice a7 m c7, .slice a8 m c8]] w fun e w' => e = .returned (.int .i64 m) ∧ Kept w w' := by
  have HK := Lib.hid ((Upd.refl (fun _ => False) w).alloc (.cells #[.int .i64 N, .int .i64 S, .int .i64 T, .slice a3 (n + 1) c3, .slice a4 m c4, .slice a5 m c5, .slice a6 m c6, .slice a7 m c7, .slice a8 m c8] 32))
  have HB := Lib.hid (Blk.new w #[.int .i64 N, .int .i64 S, .int .i64 T, .slice a3 (n + 1) c3, .slice a4 m c4, .slice a5 m c5, .slice a6 m c6, .slice a7 m c7, .slice a8 m c8] 32)
  go_enter Try.func31, Try.ntmps31
  go_upto_region 1 with (fail)
  generalize (w.alloc (.cells #[.int .i64 N, .int .i64 S, .int .i64 T, .slice a3 (n + 1) c3, .slice a4 m c4, .slice a5 m c5, .slice a6 m c6, .slice a7 m c7, .slice a8 m c8] 32)) = W0 at HK HB ⊢
  have cx := HB.out.cell
  go_wp2_with fail
  go_ret
  exact ⟨rfl, HK.out⟩
theorem firsts_mono (n : Nat) (ys : List Ar) : ∀ i j, i ≤ j → j < (firsts (n + 1) ys).length → (firsts (n + 1) ys).getD i 0 ≤ (firsts (n + 1) ys).getD j 0 := by
  intro i j hij hj
  rw [firsts_len] at hj
  have h1 := firsts_at (n + 1) ys i (by omega)
  have h2 := firsts_at (n + 1) ys j hj
  rw [List.getD_eq_getElem?_getD, List.getD_eq_getElem?_getD, h1, h2]
  exact fst_mono ys hij
set_option maxHeartbeats 2000000 in
theorem tail_any (N S T : Int) (n m : Nat) (a3 a4 a5 a6 a7 a8 : Option Addr) (c3 c4 c5 c6 c7 c8 : Nat) (ys : List Ar) (i : Nat) (w : World) (hg : Gr N S T n m ys) (hc : Rd w a3 (nv (firsts (n + 1) ys))) (hi : i < m) :
    Calls Try.prog 57 #[.agg #[.int .i64 N, .int .i64 S, .int .i64 T, .slice a3 (n + 1) c3, .slice a4 m c4, .slice a5 m c5, .slice a6 m c6, .slice a7 m c7, .slice a8 m c8], .int .i64 i] w fun e w' => e = .returned (.tuple #[.int .i64 (tl ys n i : Nat), .bool true]) ∧ Kept w w' := by
  have HK := Lib.hid ((Upd.refl (fun _ => False) w).alloc (.cells #[.int .i64 N, .int .i64 S, .int .i64 T, .slice a3 (n + 1) c3, .slice a4 m c4, .slice a5 m c5, .slice a6 m c6, .slice a7 m c7, .slice a8 m c8] 32))
  have HB := Lib.hid (Blk.new w #[.int .i64 N, .int .i64 S, .int .i64 T, .slice a3 (n + 1) c3, .slice a4 m c4, .slice a5 m c5, .slice a6 m c6, .slice a7 m c7, .slice a8 m c8] 32)
  have HR := Lib.hid (hc.kept HK.out)
  have HG := Lib.hid hg
  obtain ⟨hnN, hn2, hn3, hm6, -⟩ := hg.len
  clear hc hg
  go_enter Try.func57, Try.ntmps57
  go_upto_region 1 with (fail)
  generalize (w.alloc (.cells #[.int .i64 N, .int .i64 S, .int .i64 T, .slice a3 (n + 1) c3, .slice a4 m c4, .slice a5 m c5, .slice a6 m c6, .slice a7 m c7, .slice a8 m c8] 32)) = W0 at HK HB HR ⊢
  generalize w.heap.size = cb at HB ⊢
  have cx := HB.out.cell
  have j0 : ¬ (i : Int) < 0 := by omega
  have j1 : ¬ (m : Int) ≤ (i : Int) := by omega
  go_wp2_with fail
  refine (len_any N S T n m a3 a4 a5 a6 a7 a8 c3 c4 c5 c6 c7 c8 _).mono ?_
  rintro e w1 ⟨rfl, hk1⟩
  have HB1 := Lib.hid (HB.out.kept hk1)
  have HK1 := Lib.hid (HK.out.trans hk1)
  have HR1 := Lib.hid (HR.out.kept hk1)
  clear hk1 HB HK HR cx
  have cx := HB1.out.cell
  have w2 : wrap64 ((i : Int) + 1) = (i : Int) + 1 := by unfold wrap64; omega
  have HS := fun (w : World) (hr : Rd w a3 (nv (firsts (n + 1) ys))) => Lib.hid (by
    have h := searchInts_any a3 c3 (firsts (n + 1) ys) ((i : Int) + 1) w hr (by rw [firsts_len]; omega) (firsts_mono n ys)
    rw [firsts_len] at h
    exact h)
  go_wp2_with fail
  refine (HS _ HR1.out).out.mono ?_
  rintro e w2 ⟨r, rfl, g1, g2, g3, hk2⟩
  have hkey : r = tl ys n i + 1 := by
    have hmn : fst ys n = m := HG.out.hm
    obtain ⟨t1, t2, t3⟩ := tl_at ys i n (by omega)
    have f1 : ∀ k, k ≤ n → (firsts (n + 1) ys).getD k 0 = fst ys k := fun k hk => by
      rw [List.getD_eq_getElem?_getD, firsts_at _ _ _ (by omega)]
      rfl
    rcases Nat.lt_trichotomy r (tl ys n i + 1) with h | h | h
    · have h1 := g3 (by omega)
      rw [f1 r (by omega)] at h1
      have := fst_mono ys (show r ≤ tl ys n i by omega)
      omega
    · exact h
    · have h1 := g2 (tl ys n i + 1) h
      rw [f1 _ (by omega)] at h1
      omega
  subst hkey
  have HK2 := Lib.hid (HK1.out.trans hk2)
  have w3 : wrap64 ((((tl ys n i + 1 : Nat)) : Int) - 1) = (tl ys n i : Nat) := by unfold wrap64; omega
  clear hk2 g2 g3 cx
  go_wp2_with fail
  go_ret2
  exact ⟨rfl, HK2.out⟩
end Go.Proofs.Ytdhimfkmgcfohaa
