/- globals.Mark (printed by gen_mark20.py). -/
import Derived.Test.YticeionjlknlcaaAwake20
import Derived.Handy
namespace Go.Proofs.Yticeionjlknlcaa
set_option linter.unusedVariables false
set_option linter.unusedSimpArgs false
open Go.RowKit
attribute [local go_sem] cell?_ext

theorem allN_right20 {N S T : Int} {n m : Nat} {ys : List Ar} (hg : Gr N S T n m ys) : rightB N S T (allN n N T) = true := by
  have hl := hg.len
  refine right_parts.2 ⟨by rw [allN_len]; omega, fun x hx => ?_, ?_, ?_⟩
  · obtain ⟨v, hv, rfl⟩ := List.mem_iff_getElem.1 hx
    rw [allN_len] at hv
    have e := allN_get n N T v hv (by omega)
    rw [show (allN n N T)[v] = (allN n N T).getD v 0 by simp [allN_len, hv], e]
    split <;> omega
  · rw [allN_get _ _ _ _ (by omega) (by omega), if_pos rfl]
  · rw [allN_get _ _ _ _ (by omega) (by omega), if_neg (by omega)]
theorem eqNilM {P : Program} {t e : TypeId} (ht : P.underlying t = some (.slice e)) (a : Option Addr) (l c : Nat) (w : World) : (binOp .eql t (.slice a l c) (.slice none 0 0)).run P w = .ok (.bool a.isNone) w := by
  simp [binOp, run_equal_slice_nil w t e a l c ht]
theorem take_next {X : List Int} {k : Nat} (h : k < X.length) : (X.take (k + 1)).sum = (X.take k).sum + X.getD k 0 := by
  rw [List.take_succ_eq_append_getElem h, List.sum_append, List.sum_singleton]
  simp [List.getD, List.getElem?_eq_getElem h]
theorem take_bd {X : List Int} (h : ∀ x ∈ X, 0 ≤ x ∧ x ≤ 16) : ∀ k, k ≤ X.length → 0 ≤ (X.take k).sum ∧ (X.take k).sum ≤ 16 * k
  | 0, _ => by simp
  | k + 1, hk => by
    have h1 := take_bd h k (by omega)
    have h2 := h _ (List.getElem_mem (show k < X.length by omega))
    rw [List.take_succ_eq_append_getElem (by omega), List.sum_append, List.sum_singleton]
    omega
def MarkEnd (w : World) (N S T : Int) (n m : Nat) (ys : List Ar) (rs es : List Int) (e : Ending) (w' : World) : Prop :=
  ∃ X, e = .returned (.agg #[.int .i64 (es.getD T.toNat 0), .int .i64 X.sum]) ∧ IsLow S n m ys rs (allN n N T) X ∧ Kept w w'
set_option maxRecDepth 100000 in
set_option maxHeartbeats 4000000 in
theorem mark_ok (N S T : Int) (n m : Nat) (a3 a4 a5 a6 a7 a8 : Option Addr) (c3 c4 c5 c6 c7 c8 : Nat) (ys : List Ar) (ra : Option Addr) (rc : Nat) (rs : List Int) (ea : Option Addr) (ec : Nat) (es : List Int) (za : Option Addr) (zl zc : Nat) (w : World) (hg : Gr N S T n m ys) (hrm : rs.length = m) (hcr : CsrR w n ys a3 a4 a5 a6 a7 a8) (hr : Rd w ra (lv rs)) (he : Rd w ea (lv es)) (hen : es.length = n) :
    Calls Try.prog 26 #[.agg #[.int .i64 N, .int .i64 S, .int .i64 T, .slice a3 (n + 1) c3, .slice a4 m c4, .slice a5 m c5, .slice a6 m c6, .slice a7 m c7, .slice a8 m c8], .agg #[.slice ra m rc, .slice ea n ec, .slice za zl zc]] w (MarkEnd w N S T n m ys rs es) := by
  have HX := fun (w : World) (hcr : CsrR w n ys a3 a4 a5 a6 a7 a8) (hr : Rd w ra (lv rs)) => Lib.hid (show Calls Try.prog 25 #[.agg #[.int .i64 N, .int .i64 S, .int .i64 T, .slice a3 (n + 1) c3, .slice a4 m c4, .slice a5 m c5, .slice a6 m c6, .slice a7 m c7, .slice a8 m c8], .slice ra m rc, .int .i64 1] w (ExactEnd w N S T n m ys rs) from exact_ok N S T n m a3 a4 a5 a6 a7 a8 c3 c4 c5 c6 c7 c8 ys ra rc rs 1 w hg hrm hcr hr (by omega) (by omega))
  have hn16 : n ≤ 16 := by have := hg.len; omega
  have HK1 : Hid (Kept w (((w.alloc (.cells #[.int .i64 N, .int .i64 S, .int .i64 T, .slice a3 (n + 1) c3, .slice a4 m c4, .slice a5 m c5, .slice a6 m c6, .slice a7 m c7, .slice a8 m c8] 29)).alloc (.cells #[.slice ra m rc, .slice ea n ec, .slice za zl zc] 51)).alloc (.cells #[.int .i64 0, .int .i64 0] 48))) := Lib.hid ((((Upd.refl (fun _ => False) w).alloc (.cells #[.int .i64 N, .int .i64 S, .int .i64 T, .slice a3 (n + 1) c3, .slice a4 m c4, .slice a5 m c5, .slice a6 m c6, .slice a7 m c7, .slice a8 m c8] 29)).alloc (.cells #[.slice ra m rc, .slice ea n ec, .slice za zl zc] 51)).alloc (.cells #[.int .i64 0, .int .i64 0] 48))
  have HCB : Hid (Blk (((w.alloc (.cells #[.int .i64 N, .int .i64 S, .int .i64 T, .slice a3 (n + 1) c3, .slice a4 m c4, .slice a5 m c5, .slice a6 m c6, .slice a7 m c7, .slice a8 m c8] 29)).alloc (.cells #[.slice ra m rc, .slice ea n ec, .slice za zl zc] 51)).alloc (.cells #[.int .i64 0, .int .i64 0] 48)) w.heap.size #[.int .i64 N, .int .i64 S, .int .i64 T, .slice a3 (n + 1) c3, .slice a4 m c4, .slice a5 m c5, .slice a6 m c6, .slice a7 m c7, .slice a8 m c8] 29) := Lib.hid (((Blk.new w _ _).alloc _).alloc _)
  have HPB : Hid (Blk (((w.alloc (.cells #[.int .i64 N, .int .i64 S, .int .i64 T, .slice a3 (n + 1) c3, .slice a4 m c4, .slice a5 m c5, .slice a6 m c6, .slice a7 m c7, .slice a8 m c8] 29)).alloc (.cells #[.slice ra m rc, .slice ea n ec, .slice za zl zc] 51)).alloc (.cells #[.int .i64 0, .int .i64 0] 48)) (w.alloc (.cells #[.int .i64 N, .int .i64 S, .int .i64 T, .slice a3 (n + 1) c3, .slice a4 m c4, .slice a5 m c5, .slice a6 m c6, .slice a7 m c7, .slice a8 m c8] 29)).heap.size #[.slice ra m rc, .slice ea n ec, .slice za zl zc] 51) := Lib.hid ((Blk.new _ _ _).alloc _)
  have HOB : Hid (Blk (((w.alloc (.cells #[.int .i64 N, .int .i64 S, .int .i64 T, .slice a3 (n + 1) c3, .slice a4 m c4, .slice a5 m c5, .slice a6 m c6, .slice a7 m c7, .slice a8 m c8] 29)).alloc (.cells #[.slice ra m rc, .slice ea n ec, .slice za zl zc] 51)).alloc (.cells #[.int .i64 0, .int .i64 0] 48)) ((w.alloc (.cells #[.int .i64 N, .int .i64 S, .int .i64 T, .slice a3 (n + 1) c3, .slice a4 m c4, .slice a5 m c5, .slice a6 m c6, .slice a7 m c7, .slice a8 m c8] 29)).alloc (.cells #[.slice ra m rc, .slice ea n ec, .slice za zl zc] 51)).heap.size #[.int .i64 0, .int .i64 0] 48) := Lib.hid (Blk.new _ _ _)
  have HC1 := Lib.hid (HX _ (hcr.kept HK1.out) (hr.kept HK1.out)).out
  have HE := Lib.hid (he.kept HK1.out)
  have HEN := Lib.hid hen
  have HG := Lib.hid hg
  clear hg hrm hcr hr he hen HX
  go_enter Try.func26, Try.ntmps26
  go_wp2_with fail
  change Calls _ _ _ (((w.alloc (.cells #[.int .i64 N, .int .i64 S, .int .i64 T, .slice a3 (n + 1) c3, .slice a4 m c4, .slice a5 m c5, .slice a6 m c6, .slice a7 m c7, .slice a8 m c8] 29)).alloc (.cells #[.slice ra m rc, .slice ea n ec, .slice za zl zc] 51)).alloc (.cells #[.int .i64 0, .int .i64 0] 48)) _
  refine HC1.out.mono ?_
  rintro e w1 ⟨xb, X, rfl, hX, hB, -, hk⟩
  have HK2 := Lib.hid (HK1.out.trans hk)
  have HCB2 := Lib.hid (HCB.out.kept hk)
  have HPB2 := Lib.hid (HPB.out.kept hk)
  have HOB2 := Lib.hid (HOB.out.kept hk)
  have HE2 := Lib.hid (HE.out.kept hk)
  have HXL := Lib.hid hX
  have HXB := Lib.hid hB
  have HXN : Hid (X.length = n) := Lib.hid hX.len
  have HXI : Hid (∀ x ∈ X, 0 ≤ x ∧ x ≤ 16) := Lib.hid (fun x hx => by
    have h1 := (right_parts.1 (low_right HG.out (allN_right20 HG.out) hX)).2.1 x hx
    have := HG.out.len
    omega)
  clear hX hB hk HK1 HCB HPB HOB HE HC1
  have hs1 : (w.alloc (.cells #[.int .i64 N, .int .i64 S, .int .i64 T, .slice a3 (n + 1) c3, .slice a4 m c4, .slice a5 m c5, .slice a6 m c6, .slice a7 m c7, .slice a8 m c8] 29)).heap.size = w.heap.size + 1 := World.size_alloc _ _
  have hs2 : ((w.alloc (.cells #[.int .i64 N, .int .i64 S, .int .i64 T, .slice a3 (n + 1) c3, .slice a4 m c4, .slice a5 m c5, .slice a6 m c6, .slice a7 m c7, .slice a8 m c8] 29)).alloc (.cells #[.slice ra m rc, .slice ea n ec, .slice za zl zc] 51)).heap.size = w.heap.size + 1 + 1 := by rw [← hs1]; exact World.size_alloc _ _
  rw [hs2] at HOB2
  rw [hs1] at HPB2
  clear hs1 hs2
  generalize hcb : w.heap.size = cb at HCB2 HPB2 HOB2 ⊢
  have HOBL : Hid (cb ≤ cb + 1 + 1 ∧ cb + 1 + 1 < w1.heap.size ∧ w.heap.size = cb) := Lib.hid ⟨by omega, HOB2.out.lt, hcb⟩
  have HNE : Hid (¬ cb + 1 = cb + 1 + 1 ∧ ¬ cb = cb + 1 + 1) := Lib.hid ⟨by omega, by omega⟩
  clear hcb
  generalize cb + 1 + 1 = ob at HOB2 HOBL HNE ⊢
  generalize cb + 1 = pb at HPB2 HNE ⊢
  obtain ⟨hT0, hT1⟩ : 0 ≤ T ∧ T < (n : Int) := by have := HG.out.len; omega
  obtain ⟨eb, eo, rfl, ec0⟩ := HE2.out.num (i := T.toNat) (by rw [HEN.out]; omega)
  have hnN : ((n : Int) != N) = false := by have := HG.out.len.1; simp [this]
  have bx := HCB2.out.cell
  have px := HPB2.out.cell
  obtain ⟨et, het⟩ : ∃ et, es.getD T.toNat 0 = et := ⟨_, rfl⟩
  rw [het] at ec0
  have HET := Lib.hid het
  clear het
  have hnil : ∀ w, (binOp .eql 26 (.slice (some ⟨xb, 0, none⟩) n n) (.slice none 0 0)).run Try.prog w = .ok (.bool false) w := fun w => eqNilM Try.underlying26 (some ⟨xb, 0, none⟩) n n w
  go_wp2_with fail
  have HSB : Hid (Blk (w1.alloc (.cells #[.int .i64 et, .int .i64 0] 48)) w1.heap.size #[.int .i64 et, .int .i64 (X.take 0).sum] 48) := Lib.hid (by rw [List.take_zero, List.sum_nil]; exact Blk.new _ _ _)
  have HKV : Hid (Kept w1 (w1.alloc (.cells #[.int .i64 et, .int .i64 0] 48))) := Lib.hid ((Upd.refl _ _).alloc _)
  clear bx px ec0 hnil hnN
  generalize (w1.alloc (.cells #[.int .i64 et, .int .i64 0] 48)) = W2 at HSB HKV ⊢
  obtain ⟨sb, hsb⟩ : ∃ sb, w1.heap.size = sb := ⟨_, rfl⟩
  rw [hsb] at HSB ⊢
  have HSE : Hid (w1.heap.size ≤ sb ∧ ¬ ob = sb) := Lib.hid ⟨by omega, by have := HOBL.out; omega⟩
  clear hsb
  go_loopw [33] (fun ix wr => ∃ k : Nat, ix = .int .i64 k ∧ k ≤ n ∧ Hid (Blk wr sb #[.int .i64 et, .int .i64 (X.take k).sum] 48) ∧ Hid (Kept w1 wr)) (fun ix _ => n - (intOf ix).toNat)
  case atStart => exact ⟨0, rfl, by omega, HSB, HKV⟩
  case round =>
    clear HSB HKV
    obtain ⟨k, rfl, hk, HSB, HKV⟩ := hrel
    have sx := HSB.out.cell
    by_cases hik : k < n
    · have i1 : (0 : Int) ≤ (k : Int) := by omega
      have i2 : (k : Int) < (n : Int) := by omega
      have xc : wr.cell? ⟨xb, k, none⟩ = some (.int .i64 (X.getD k 0)) := by rw [(HXB.out.kept HKV.out).cell]; simp only [List.getElem?_toArray]; exact lv_get (by rw [HXN.out]; exact hik)
      have HNX := Lib.hid (take_next (X := X) (k := k) (by rw [HXN.out]; exact hik))
      have hw := show wrap64 ((X.take k).sum + X.getD k 0) = (X.take (k + 1)).sum by
        have h1 := take_bd HXI.out (k + 1) (by rw [HXN.out]; exact hik)
        have h2 := HNX.out
        unfold wrap64
        omega
      have fo := HSB.out.free 1
      have HS2 : Hid (Blk (wr.setCell ⟨sb, 1, none⟩ (.int .i64 (X.take (k + 1)).sum)) sb #[.int .i64 et, .int .i64 (X.take (k + 1)).sum] 48) := Lib.hid (HSB.out.set 1 (.int .i64 (X.take (k + 1)).sum))
      have HK2' : Hid (Kept w1 (wr.setCell ⟨sb, 1, none⟩ (.int .i64 (X.take (k + 1)).sum))) := Lib.hid (HKV.out.set (p := ⟨sb, 1, none⟩) HSE.out.1 _)
      obtain ⟨s1, hs1⟩ : ∃ s, (X.take (k + 1)).sum = s := ⟨_, rfl⟩
      have HE1 := Lib.hid hs1
      rw [hs1] at hw HS2 HK2'
      clear hs1
      generalize (X.take k).sum = s0 at hw sx
      generalize X.getD k 0 = xv at hw xc
      clear HNX HSB HKV
      go_wp2_with fail
      go_roundw
      case rel => exact ⟨k + 1, by go_num, by omega, by rw [HE1.out]; exact HS2, HK2'⟩
      case measure => simp [intOf]; omega
    · obtain rfl : n = k := by omega
      have HTA : Hid (X.take n = X) := Lib.hid (List.take_of_length_le (by rw [HXN.out]; exact Nat.le_refl _))
      rw [HTA.out] at sx
      have HO2 := Lib.hid (HOB2.out.kept HKV.out)
      have ox := HO2.out.cell
      have f0 := HO2.out.free 0
      have f1 := HO2.out.free 1
      have HK9 : Hid (Kept w wr) := Lib.hid (HK2.out.trans HKV.out)
      have HFIN : Hid (∀ v0 v1, Kept w ((wr.setCell ⟨ob, 0, none⟩ v0).setCell ⟨ob, 1, none⟩ v1)) := Lib.hid (fun v0 v1 => (HK9.out.set (p := ⟨ob, 0, none⟩) (by have := HOBL.out; simp only; omega) _).set (p := ⟨ob, 1, none⟩) (by have := HOBL.out; simp only; omega) _)
      generalize hXs : X.sum = xs at sx
      have HXS := Lib.hid hXs
      clear hXs
      go_wp2_with fail
      have HBO : Hid (Blk ((wr.setCell ⟨ob, 0, none⟩ (.int .i64 et)).setCell ⟨ob, 1, none⟩ (.int .i64 xs)) ob #[.int .i64 et, .int .i64 xs] 48) := Lib.hid ((HO2.out.set 0 (.int .i64 et)).set 1 (.int .i64 xs))
      have HKF := Lib.hid (HFIN.out (.int .i64 et) (.int .i64 xs))
      clear HFIN HO2 ox f0 f1
      generalize ((wr.setCell ⟨ob, 0, none⟩ (.int .i64 et)).setCell ⟨ob, 1, none⟩ (.int .i64 xs)) = Wf at HBO HKF ⊢
      have o0 : Wf.cell? ⟨ob, 0, none⟩ = some (.int .i64 et) := by rw [HBO.out.cell]; rfl
      have o1 : Wf.cell? ⟨ob, 1, none⟩ = some (.int .i64 xs) := by rw [HBO.out.cell]; rfl
      refine bodyPost_ret (v := .agg #[.int .i64 et, .int .i64 xs]) (by simp [results, Try.results26, go_sem, o0, o1]) rfl ?_
      exact ⟨X, by rw [HXS.out, HET.out], HXL.out, HKF.out⟩
end Go.Proofs.Yticeionjlknlcaa
