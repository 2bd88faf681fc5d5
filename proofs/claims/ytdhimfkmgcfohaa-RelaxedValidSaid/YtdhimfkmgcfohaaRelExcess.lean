/- relaxed.state.excess (printed by gen_relexcess.py) -/
import Derived.Test.YtdhimfkmgcfohaaRelDoes
import Derived.Test.YtdhimfkmgcfohaaTail
import Derived.Deep.CutRange
import Derived.Deep.RegionHeld3
import Derived.Deep.MidRow
import Derived.Deep.Onto
import Derived.Laws.OwnMore
import Derived.Deep.AppendLies
namespace Go.Proofs.Ytdhimfkmgcfohaa
set_option linter.unusedVariables false
set_option linter.unusedSimpArgs false
open Go.RowKit
attribute [local go_sem] cell?_ext

/-- Does a residual arc lead back? -/
def bk (n : Nat) (ys : List Ar) (a : Nat) : Bool := ((enAll n ys)[a]?.map fun e => e.b).getD false
theorem bk_get {N S T : Int} {n m : Nat} {ys : List Ar} (h : Gr N S T n m ys) (a : Nat) (ha : a < m) : (bv (enAll n ys))[a]? = some (.bool (bk n ys a)) := by
  have hm := h.hm
  have hl : a < (enAll n ys).length := by omega
  simp [bk, bv, hl]
/-- What is left of the excesses when the first k arcs back are reckoned. -/
def leftL (n : Nat) (ys : List Ar) (rs es : List Int) : Nat → List Int
  | 0 => es
  | k + 1 => if bk n ys k then plusAt (plusAt (leftL n ys rs es k) (tl ys n k) (-(rs.getD k 0))) (hd n ys k) (rs.getD k 0) else leftL n ys rs es k
theorem leftL_len (n : Nat) (ys : List Ar) (rs es : List Int) : ∀ k, (leftL n ys rs es k).length = es.length
  | 0 => rfl
  | k + 1 => by
    unfold leftL
    split
    · simp [plusAt_len, leftL_len n ys rs es k]
    · exact leftL_len n ys rs es k
def excOk (S : Int) (lf es : List Int) (v : Nat) : Bool := decide (lf.getD v 0 = 0) && (decide ((v : Int) = S) || decide (0 ≤ es.getD v 0))
def excessB (S : Int) (n m : Nat) (ys : List Ar) (rs es : List Int) : Bool := (List.range n).all (excOk S (leftL n ys rs es m) es)
theorem Blk.range9 {w : World} {b : Nat} {T : TypeId} {vs us : List Value} (h : Blk w b (vs ++ us).toArray T) : w.rangeAt b 0 vs := by
  intro j v hv
  rw [Nat.zero_add, h.cell, List.getElem?_toArray, List.getElem?_append_left (List.getElem?_eq_some_iff.1 hv).1, hv]
theorem all_succ' (f : Nat → Bool) (k : Nat) : (List.range (k + 1)).all f = ((List.range k).all f && f k) := by simp [List.range_succ]
theorem all_no' {f : Nat → Bool} {k m : Nat} (h : k < m) (hf : f k = false) : (List.range m).all f = false := by
  rw [List.all_eq_false]
  exact ⟨k, by simpa using h, by simp [hf]⟩
theorem lv_set (xs : List Int) (i : Nat) (x : Int) : (lv xs).set i (.int .i64 x) = lv (xs.set i x) := by simp [lv, List.map_set]
set_option maxRecDepth 100000 in
set_option maxHeartbeats 4000000 in
theorem excess_any (N S T : Int) (n m : Nat) (a3 a4 a5 a6 a7 a8 : Option Addr) (c3 c4 c5 c6 c7 c8 : Nat) (ys : List Ar) (p : PS) (ra : Option Addr) (rc : Nat) (ea : Option Addr) (ec : Nat) (za : Option Addr) (zc : Nat) (w : World) (hg : Gr N S T n m ys) (hcr : CsrR w n ys a3 a4 a5 a6 a7 a8) (hok : p.ok n m) (hr : Rd w ra (lv p.rs)) (he : Rd w ea (lv p.es)) (hz : Rd w za (lv p.hs)) (s2 : SomeOr ea n ec) :
    Calls Try.prog 34 #[.agg #[.int .i64 N, .int .i64 S, .int .i64 T, .slice a3 (n + 1) c3, .slice a4 m c4, .slice a5 m c5, .slice a6 m c6, .slice a7 m c7, .slice a8 m c8, .slice ra m rc, .slice ea n ec, .slice za n zc]] w fun e w' => e = .returned (.bool (excessB S n m ys p.rs p.es)) ∧ Kept w w' := by
  obtain ⟨hrl, hel, -⟩ := (show p.rs.length = m ∧ p.es.length = n ∧ p.hs.length = n from hok)
  have hl16 := hg.len
  have HK := Lib.hid ((Upd.refl (fun _ => False) w).alloc (.cells #[.int .i64 N, .int .i64 S, .int .i64 T, .slice a3 (n + 1) c3, .slice a4 m c4, .slice a5 m c5, .slice a6 m c6, .slice a7 m c7, .slice a8 m c8, .slice ra m rc, .slice ea n ec, .slice za n zc] 73))
  have HB := Lib.hid (Blk.new w #[.int .i64 N, .int .i64 S, .int .i64 T, .slice a3 (n + 1) c3, .slice a4 m c4, .slice a5 m c5, .slice a6 m c6, .slice a7 m c7, .slice a8 m c8, .slice ra m rc, .slice ea n ec, .slice za n zc] 73)
  have HG := Lib.hid hg
  have HCR := Lib.hid hcr
  have HRL := Lib.hid (And.intro hrl hel)
  have HRR := Lib.hid hr
  have HEE := Lib.hid he
  have HCL := fun (W : World) (k : Kept w W) => Lib.hid (clone64 ea n ec p.es W (he.kept k) hel s2 (by omega))
  have hnm : m ≤ 640 ∧ n ≤ 16 ∧ 2 ≤ n := by omega
  obtain ⟨V, hV⟩ : ∃ V, excessB S n m ys p.rs p.es = V := ⟨_, rfl⟩
  rw [hV]
  have HV := Lib.hid hV
  clear hg hcr hrl hel hr he hz hok s2 hl16 hV
  go_enter Try.func34, Try.ntmps34
  go_upto_region 1 with (fail)
  generalize (w.alloc (.cells #[.int .i64 N, .int .i64 S, .int .i64 T, .slice a3 (n + 1) c3, .slice a4 m c4, .slice a5 m c5, .slice a6 m c6, .slice a7 m c7, .slice a8 m c8, .slice ra m rc, .slice ea n ec, .slice za n zc] 73)) = W0 at HK HB ⊢
  generalize w.heap.size = sb at HB ⊢
  have bx := HB.out.cell
  go_wp2_with fail
  refine (HCL _ HK.out).out.mono ?_
  rintro e w1 ⟨la, lc, rfl, hO, hk1⟩
  obtain ⟨lg, lcc, e1, hlg⟩ := hO.form (by omega)
  cases e1
  have O1 : Hid (w1.ownsRow W0.heap.size 2 1 (.slice (some ⟨lg, 0, none⟩) n lc) n (lv (leftL n ys p.rs p.es 0))) := Lib.hid hO
  have HLG : Hid (W0.heap.size ≤ lg) := Lib.hid hlg.1
  have K1 := Lib.hid hk1
  have HB1 := Lib.hid (HB.out.kept hk1)
  clear hO hlg hk1 bx HCL
  have bx := HB1.out.cell
  go_upto_region 3 with (fail)
  clear bx HB1
  go_loopw [18] (fun x wr => ∃ k : Nat, x = .int .i64 k ∧ k ≤ m ∧ Hid (wr.ownsRow W0.heap.size 2 1 (.slice (some ⟨lg, 0, none⟩) n lc) n (lv (leftL n ys p.rs p.es k))) ∧ Hid (Kept W0 wr)) (fun x _ => m - (intOf x).toNat)
  case atStart => exact ⟨0, rfl, by omega, O1, K1⟩
  case round =>
    clear O1 K1
    obtain ⟨k, rfl, hk, OW, KW⟩ := hrel
    by_cases hlt : k < m
    · have q1 := bk_get HG.out k hlt
      obtain ⟨q2, q3⟩ := hd_get HG.out k hlt
      obtain ⟨b8, o8, e8, k8⟩ := HCR.out.r8.at k (List.getElem?_eq_some_iff.1 q1).1
      obtain ⟨b4, o4, e4, k4⟩ := HCR.out.r4.at k (List.getElem?_eq_some_iff.1 q2).1
      obtain ⟨rb, ro, rfl, k9⟩ := HRR.out.num (i := k) (by have := HRL.out; omega)
      rw [q1] at k8
      rw [q2] at k4
      have HTA := fun (W : World) (kw : Kept w W) => Lib.hid (tail_any N S T n m a3 a4 a5 a6 a7 a8 c3 c4 c5 c6 c7 c8 ys k W HG.out (HCR.out.r3.kept kw) hlt)
      have HTL := Lib.hid (tl_at ys k n (by unfold fst; rw [HG.out.hm]; exact hlt)).1
      have HST : Hid (leftL n ys p.rs p.es (k + 1) = if bk n ys k then plusAt (plusAt (leftL n ys p.rs p.es k) (tl ys n k) (-(p.rs.getD k 0))) (hd n ys k) (p.rs.getD k 0) else leftL n ys p.rs p.es k) := Lib.hid rfl
      obtain ⟨z, hz⟩ : ∃ z, bk n ys k = z := ⟨_, rfl⟩
      rw [hz] at k8 HST
      generalize hd n ys k = hn at q3 k4 HST
      generalize tl ys n k = un at HTA HTL HST
      generalize p.rs.getD k 0 = x at k9 HST
      have HBW := Lib.hid (HB.out.kept KW.out)
      have d8 := (keptCells (HK.out.trans KW.out) _ (by rw [k8]; rfl)).trans k8
      have d9 := (keptCells (HK.out.trans KW.out) _ (by rw [k9]; rfl)).trans k9
      have HLL := Lib.hid (leftL_len n ys p.rs p.es k)
      have j1 : (k : Int) < (m : Int) := by omega
      have j2 : (0 : Int) ≤ (k : Int) := by omega
      have HE8 := Lib.hid e8
      have HE4 := Lib.hid e4
      have bx := HBW.out.cell
      rw [HE8.out] at bx
      clear q1 q2 k8 k9 hz e8 e4
      generalize hLk : leftL n ys p.rs p.es k = Lk at OW HST HLL
      clear hLk
      cases z
      · as_aux_lemma =>
        have OW2 : Hid (wr.ownsRow W0.heap.size 2 1 (.slice (some ⟨lg, 0, none⟩) n lc) n (lv (leftL n ys p.rs p.es (k + 1)))) := Lib.hid (by rw [HST.out]; exact OW.out)
        clear OW HST HTA
        go_wp2_with fail
        go_roundw
        case rel => exact ⟨k + 1, by go_num, by omega, OW2, KW⟩
        case measure => simp [intOf]; omega
      · as_aux_lemma =>
        have hra9 := Blk.range9 (vs := [.int .i64 N, .int .i64 S, .int .i64 T, .slice a3 (n + 1) c3, .slice a4 m c4, .slice a5 m c5, .slice a6 m c6, .slice a7 m c7, .slice a8 m c8]) (us := [.slice (some ⟨rb, ro, none⟩) m rc, .slice ea n ec, .slice za n zc]) HBW.out
        have hz9 : (Try.prog.info? 32).map (·.size) = some 9 := by kernel_rfl
        have HTB := HTA wr (HK.out.trans KW.out)
        go_wp2_with (first | (refine wpList_load_mid rfl _ _ rfl sb 0 rfl [.int .i64 N, .int .i64 S, .int .i64 T, .slice a3 (n + 1) c3, .slice a4 m c4, .slice a5 m c5, .slice a6 m c6, .slice a7 m c7, .slice a8 m c8] _ hra9 Try.underlying32 rfl hz9 ?_) | fail)
        refine HTB.out.mono ?_
        rintro e W6 ⟨rfl, hk6⟩
        have O6 : Hid (W6.ownsRow W0.heap.size 2 1 (.slice (some ⟨lg, 0, none⟩) n lc) n (lv (Lk))) := Lib.hid (ownsRow_far OW.out hk6 (fun _ _ f => f))
        have K6 := Lib.hid (KW.out.trans hk6)
        have HB6 := Lib.hid (HBW.out.kept hk6)
        clear hra9 hz9 HTB HTA bx OW KW hk6 d8 d9 HBW
        have hun : un < n := HTL.out
        have hll : Lk.length = n := by have := HLL.out; have := HRL.out.2; omega
        have i1 : (un : Int) < (n : Int) := by omega
        have i2 : (0 : Int) ≤ (un : Int) := by omega
        have i3 : (hn : Int) < (n : Int) := by omega
        have i4 : (0 : Int) ≤ (hn : Int) := by omega
        have cA : W6.cell? ⟨lg, un, none⟩ = some (.int .i64 (Lk.getD un 0)) := (O6.out.cellAt un (by omega)).trans (lv_get (by omega))
        have fA : W6.frozen? ⟨lg, un, none⟩ = false := O6.out.frozenAt un
        obtain ⟨y1, hy1⟩ : ∃ y, Lk.getD un 0 = y := ⟨_, rfl⟩
        rw [hy1] at cA
        obtain ⟨q1, hq1⟩ : ∃ q, wrap64 (y1 - x) = q := ⟨_, rfl⟩
        have HQ1 : Hid (plusAt Lk un (-x) = Lk.set un q1) := Lib.hid (by unfold plusAt; rw [hy1, ← hq1]; rfl)
        have HLN : Hid ((Lk.set un q1).length = n) := Lib.hid (by simpa using hll)
        clear hy1 hll
        go_upto_region 8 with (fail)
        clear cA fA hq1
        have O7 : Hid ((W6.setCell ⟨lg, un, none⟩ (.int .i64 q1)).ownsRow W0.heap.size 2 1 (.slice (some ⟨lg, 0, none⟩) n lc) n (lv (Lk.set un q1))) := Lib.hid (by
          have h := (O6.out.stored un (.int .i64 q1)).1
          rw [lv_set] at h
          exact h)
        have K7 : Hid (Kept W0 (W6.setCell ⟨lg, un, none⟩ (.int .i64 q1))) := Lib.hid (K6.out.then (updCellO W6 lg un (.int .i64 q1)) (fun i hi e => by have := HLG.out; omega))
        clear O6 K6
        generalize W6.setCell ⟨lg, un, none⟩ (.int .i64 q1) = W7 at O7 K7 ⊢
        have bx := (HB6.out.upd (show Upd (fun _ => False) W6 W6 from Upd.refl _ _) (fun f => f))
        have hb7 : Blk W7 sb #[.int .i64 N, .int .i64 S, .int .i64 T, .slice a3 (n + 1) c3, .slice a4 m c4, .slice a5 m c5, .slice a6 m c6, .slice a7 m c7, .slice a8 m c8, .slice (some ⟨rb, ro, none⟩) m rc, .slice ea n ec, .slice za n zc] 73 := HB.out.kept K7.out
        clear bx
        have bx := hb7.cell
        rw [HE4.out] at bx
        have d4 := (keptCells (HK.out.trans K7.out) _ (by rw [k4]; rfl)).trans k4
        have cA : W7.cell? ⟨lg, hn, none⟩ = some (.int .i64 ((Lk.set un q1).getD hn 0)) := (O7.out.cellAt hn (by omega)).trans (lv_get (by have := HLN.out; omega))
        have fA : W7.frozen? ⟨lg, hn, none⟩ = false := O7.out.frozenAt hn
        obtain ⟨y2, hy2⟩ : ∃ y, (Lk.set un q1).getD hn 0 = y := ⟨_, rfl⟩
        rw [hy2] at cA
        obtain ⟨q2, hq2⟩ : ∃ q, wrap64 (y2 + x) = q := ⟨_, rfl⟩
        have HQ2 : Hid (plusAt (Lk.set un q1) hn x = (Lk.set un q1).set hn q2) := Lib.hid (by unfold plusAt; rw [hy2, ← hq2])
        clear hy2 hb7
        go_upto_region 9 with (fail)
        clear cA fA hq2 bx d4
        have O8 : Hid ((W7.setCell ⟨lg, hn, none⟩ (.int .i64 q2)).ownsRow W0.heap.size 2 1 (.slice (some ⟨lg, 0, none⟩) n lc) n (lv ((Lk.set un q1).set hn q2))) := Lib.hid (by
          have h := (O7.out.stored hn (.int .i64 q2)).1
          rw [lv_set] at h
          exact h)
        have K8 : Hid (Kept W0 (W7.setCell ⟨lg, hn, none⟩ (.int .i64 q2))) := Lib.hid (K7.out.then (updCellO W7 lg hn (.int .i64 q2)) (fun i hi e => by have := HLG.out; omega))
        clear O7 K7
        generalize W7.setCell ⟨lg, hn, none⟩ (.int .i64 q2) = W8 at O8 K8 ⊢
        have OW2 : Hid (W8.ownsRow W0.heap.size 2 1 (.slice (some ⟨lg, 0, none⟩) n lc) n (lv (leftL n ys p.rs p.es (k + 1)))) := Lib.hid (by rw [HST.out, if_pos trivial, HQ1.out, HQ2.out]; exact O8.out)
        clear O8 HST HQ1 HQ2 HLN
        go_wp2_with fail
        go_roundw
        case rel => exact ⟨k + 1, by go_num, by omega, OW2, K8⟩
        case measure => simp [intOf]; omega
    · have j1 : ¬ (k : Int) < (m : Int) := by omega
      have hkm : k = m := by omega
      have O2 : Hid (wr.ownsRow W0.heap.size 2 1 (.slice (some ⟨lg, 0, none⟩) n lc) n (lv (leftL n ys p.rs p.es m))) := Lib.hid (by rw [← hkm]; exact OW.out)
      have HLL : Hid ((leftL n ys p.rs p.es m).length = n) := Lib.hid (by rw [leftL_len]; exact HRL.out.2)
      have HV2 : Hid ((List.range n).all (excOk S (leftL n ys p.rs p.es m) p.es) = V) := Lib.hid HV.out
      clear hkm OW
      generalize leftL n ys p.rs p.es m = Lm at O2 HLL HV2
      as_aux_lemma =>
      go_upto_region 11 with (fail)
      clear hlt j1
      obtain ⟨wo, rfl⟩ : ∃ wo : World, wo = wr := ⟨_, rfl⟩
      go_loopw [59] (fun x wr => ∃ v : Nat, x = .int .i64 v ∧ v ≤ n ∧ Hid ((List.range v).all (excOk S Lm p.es) = true) ∧ Hid (Kept wo wr)) (fun x _ => n - (intOf x).toNat)
      case atStart => exact ⟨0, rfl, by omega, Lib.hid (by simp), Lib.hid (Upd.refl _ _)⟩
      case round =>
        obtain ⟨v, rfl, hv, HA, HKW⟩ := hrel
        by_cases hlt : v < n
        · obtain ⟨eb, eo, e5, k5⟩ := HEE.out.num (i := v) (by have := HRL.out.2; omega)
          have cA0 : wo.cell? ⟨lg, v, none⟩ = some (.int .i64 (Lm.getD v 0)) := (O2.out.cellAt v (by omega)).trans (lv_get (by have := HLL.out; omega))
          have cA := (keptCells HKW.out _ (by rw [cA0]; rfl)).trans cA0
          have c5 := (keptCells ((HK.out.trans KW.out).trans HKW.out) _ (by rw [k5]; rfl)).trans k5
          obtain ⟨z, hz⟩ : ∃ z, excOk S Lm p.es v = z := ⟨_, rfl⟩
          have HZ0 : Hid ((decide (Lm.getD v 0 = 0) && (decide ((v : Int) = S) || decide (0 ≤ p.es.getD v 0))) = z) := Lib.hid hz
          have HN1 : Hid (z = true → (List.range (v + 1)).all (excOk S Lm p.es) = true) := Lib.hid (fun e => by rw [all_succ', HA.out, hz, e]; rfl)
          have HN2 : Hid (z = false → V = false) := Lib.hid (fun e => by rw [← HV2.out]; exact all_no' hlt (by rw [hz, e]))
          generalize Lm.getD v 0 = x at cA HZ0
          generalize p.es.getD v 0 = xe at c5 HZ0
          have HBX := HB.out.kept (KW.out.trans HKW.out)
          have bx := HBX.cell
          rw [e5] at bx
          have i1 : (v : Int) < (n : Int) := by omega
          have i2 : (0 : Int) ≤ (v : Int) := by omega
          clear hz cA0 k5 HBX
          by_cases t1 : x = 0
          · have y1 : (x != 0) = false := by simpa using t1
            by_cases t2 : (v : Int) = S
            · have y2 : ((v : Int) != S) = false := by simpa using t2
              as_aux_lemma =>
              have HA2 := Lib.hid (HN1.out (by rw [← HZ0.out]; simp [t1, t2]))
              clear HZ0 HN1 HN2 HA
              try clear t3
              try clear t2
              try clear t1
              go_wp2_with fail
              go_roundw
              case rel => exact ⟨v + 1, by go_num, by omega, HA2, HKW⟩
              case measure => simp [intOf]; omega
            · have y2 : ((v : Int) != S) = true := by simpa using t2
              by_cases t3 : xe < 0
              · have y3 : decide (xe < 0) = true := by simpa using t3
                as_aux_lemma =>
                have HVF := Lib.hid (HN2.out (by rw [← HZ0.out]; simp [t2, show ¬ 0 ≤ xe by omega]))
                have HKF := Lib.hid ((HK.out.trans KW.out).trans HKW.out)
                clear HZ0 HN1 HN2 HA
                try clear t3
                try clear t2
                try clear t1
                go_wp2_with fail
                go_ret
                exact ⟨by rw [HVF.out]; rfl, HKF.out⟩
              · have y3 : decide (xe < 0) = false := by simpa using t3
                as_aux_lemma =>
                have HA2 := Lib.hid (HN1.out (by rw [← HZ0.out]; simp [t1, show 0 ≤ xe by omega]))
                clear HZ0 HN1 HN2 HA
                try clear t3
                try clear t2
                try clear t1
                go_wp2_with fail
                go_roundw
                case rel => exact ⟨v + 1, by go_num, by omega, HA2, HKW⟩
                case measure => simp [intOf]; omega
          · have y1 : (x != 0) = true := by simpa using t1
            as_aux_lemma =>
            have HVF := Lib.hid (HN2.out (by rw [← HZ0.out]; simp [t1]))
            have HKF := Lib.hid ((HK.out.trans KW.out).trans HKW.out)
            clear HZ0 HN1 HN2 HA
            try clear t3
            try clear t2
            try clear t1
            go_wp2_with fail
            go_ret
            exact ⟨by rw [HVF.out]; rfl, HKF.out⟩
        · have j1 : ¬ (v : Int) < (n : Int) := by omega
          have hvn : v = n := by omega
          have HVF : Hid (V = true) := Lib.hid (by rw [← HV2.out, ← hvn]; exact HA.out)
          have HKF := Lib.hid ((HK.out.trans KW.out).trans HKW.out)
          clear hvn
          as_aux_lemma =>
          go_wp2_with fail
          go_ret
          exact ⟨by rw [HVF.out]; rfl, HKF.out⟩
end Go.Proofs.Ytdhimfkmgcfohaa
