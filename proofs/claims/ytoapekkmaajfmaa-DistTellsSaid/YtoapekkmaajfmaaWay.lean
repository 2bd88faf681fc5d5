/- dist.Way (printed by gen_nearer.py). -/
import Derived.Test.YtoapekkmaajfmaaNearer
import Derived.Test.YtoapekkmaajfmaaPush
namespace Go.Proofs.Ytoapekkmaajfmaa
set_option linter.unusedVariables false
set_option linter.unusedSimpArgs false
open Go.RowKit
attribute [local go_sem] cell?_ext

theorem eqNil {P : Program} {t e : TypeId} (ht : P.underlying t = some (.slice e)) (a : Option Addr) (l c : Nat) (w : World) : (binOp .eql t (.slice a l c) (.slice none 0 0)).run P w = .ok (.bool a.isNone) w := by
  simp [binOp, run_equal_slice_nil w t e a l c ht]

/-- Where one is behind the first i arcs of a row. -/
def atOf (n : Nat) (ys : List Ar) (s : Nat) (ws : List Nat) : Nat → Nat
  | 0 => s
  | i + 1 => hd n ys (ws.getD i 0)
/-- Open arcs, one behind the other, from s to u. -/
structure WayS (n m : Nat) (ys : List Ar) (rs : List Int) (s u : Nat) (ws : List Nat) : Prop where
  arc : ∀ i, i < ws.length → ws.getD i 0 < m ∧ 0 < rs.getD (ws.getD i 0) 0 ∧ tl ys n (ws.getD i 0) = atOf n ys s ws i
  end_ : atOf n ys s ws ws.length = u
theorem WayS.nil (n m : Nat) (ys : List Ar) (rs : List Int) (s : Nat) : WayS n m ys rs s s [] := ⟨fun i h => by simp at h, rfl⟩
theorem atOf_app (n : Nat) (ys : List Ar) (s : Nat) (ws : List Nat) (a i : Nat) (h : i ≤ ws.length) : atOf n ys s (ws ++ [a]) i = atOf n ys s ws i := by
  cases i with
  | zero => rfl
  | succ i =>
    show hd n ys ((ws ++ [a]).getD i 0) = hd n ys (ws.getD i 0)
    rw [List.getD_eq_getElem?_getD, List.getElem?_append_left (by omega), ← List.getD_eq_getElem?_getD]
theorem WayS.push {n m : Nat} {ys : List Ar} {rs : List Int} {s u : Nat} {ws : List Nat} (h : WayS n m ys rs s u ws) {a : Nat} (ha : a < m) (hr : 0 < rs.getD a 0) (ht : tl ys n a = u) : WayS n m ys rs s (hd n ys a) (ws ++ [a]) := by
  have g : ∀ i, i < ws.length → (ws ++ [a]).getD i 0 = ws.getD i 0 := fun i hi => by rw [List.getD_eq_getElem?_getD, List.getElem?_append_left hi, ← List.getD_eq_getElem?_getD]
  have gl : (ws ++ [a]).getD ws.length 0 = a := by simp [List.getD_eq_getElem?_getD]
  refine ⟨fun i hi => ?_, ?_⟩
  · rw [List.length_append] at hi
    rcases Nat.lt_or_ge i ws.length with e | e
    · rw [g i e, atOf_app n ys s ws a i (by omega)]
      exact h.arc i e
    · obtain rfl : i = ws.length := by simp at hi; omega
      rw [gl, atOf_app n ys s ws a _ (Nat.le_refl _), h.end_]
      exact ⟨ha, hr, ht⟩
  · rw [List.length_append]
    show hd n ys ((ws ++ [a]).getD ws.length 0) = hd n ys a
    rw [gl]
/-- Each arc is the least that leads nearer. -/
def WayL (n m : Nat) (ys : List Ar) (rs : List Int) (d : List Nat) (s : Nat) (ws : List Nat) : Prop := ∀ i, i < ws.length → Nr1 n m ys rs d (atOf n ys s ws i) (ws.getD i 0)
theorem WayL.push {n m : Nat} {ys : List Ar} {rs : List Int} {d : List Nat} {s u : Nat} {ws : List Nat} (h : WayL n m ys rs d s ws) {a : Nat} (hu : atOf n ys s ws ws.length = u) (ha : Nr1 n m ys rs d u a) : WayL n m ys rs d s (ws ++ [a]) := by
  intro i hi
  rw [List.length_append] at hi
  rw [atOf_app n ys s ws a i (by simp at hi; omega)]
  rcases Nat.lt_or_ge i ws.length with e | e
  · rw [show (ws ++ [a]).getD i 0 = ws.getD i 0 by rw [List.getD_eq_getElem?_getD, List.getElem?_append_left e, ← List.getD_eq_getElem?_getD]]
    exact h i e
  · obtain rfl : i = ws.length := by simp at hi; omega
    rw [show (ws ++ [a]).getD ws.length 0 = a by simp [List.getD_eq_getElem?_getD], hu]
    exact ha
theorem WayL.one {n m : Nat} {ys : List Ar} {rs : List Int} {d : List Nat} {s : Nat} {ws vs : List Nat} (h : WayL n m ys rs d s ws) (h' : WayL n m ys rs d s vs) (hl : ws.length = vs.length) : ws = vs := by
  have key : ∀ i, i ≤ ws.length → atOf n ys s ws i = atOf n ys s vs i := by
    intro i
    induction i with
    | zero => intro _; rfl
    | succ i ih =>
      intro hi
      have e := ih (by omega)
      have h1 := h i (by omega)
      have h2 := h' i (by omega)
      rw [← e] at h2
      show hd n ys (ws.getD i 0) = hd n ys (vs.getD i 0)
      rw [h1.one h2]
  refine List.ext_getElem hl fun i h1 h2 => ?_
  have g1 := h i h1
  have g2 := h' i h2
  rw [← key i (by omega)] at g2
  have := g1.one g2
  simpa [h1, h2] using this
def WayEnd (n m : Nat) (ys : List Ar) (rs : List Int) (s t : Nat) (w : World) (e : Ending) (w' : World) : Prop := ∃ (d ws : List Nat) (a : Option Addr) (k c : Nat) (z : Bool), e = .returned (.tuple #[.slice a k c, .bool z]) ∧ ws.length = k ∧ Rd w' a (nv ws) ∧ IsD n t (fun u x => OpenA n m ys rs x u) d ∧
      (z = false → k = 0 ∧ d.getD s 0 = n) ∧ (z = true → d.getD s 0 < n ∧ k = d.getD s 0 ∧ WayS n m ys rs s t ws ∧ WayL n m ys rs d s ws) ∧ Kept w w'
set_option maxHeartbeats 4000000 in
theorem way_ok (N S T : Int) (n m : Nat) (a3 a4 a5 a6 a7 a8 : Option Addr) (c3 c4 c5 c6 c7 c8 : Nat) (ys : List Ar) (ra : Option Addr) (rc : Nat) (rs : List Int) (s t : Nat) (w : World) (hg : Gr N S T n m ys) (hcr : CsrR w n ys a3 a4 a5 a6 a7 a8) (hr : Rd w ra (lv rs)) (hm : rs.length = m) (hs : s < n) (ht : t < n) :
    Calls Try.prog 16 #[.agg #[.int .i64 N, .int .i64 S, .int .i64 T, .slice a3 (n + 1) c3, .slice a4 m c4, .slice a5 m c5, .slice a6 m c6, .slice a7 m c7, .slice a8 m c8], .slice ra m rc, .int .i64 s, .int .i64 t] w (WayEnd n m ys rs s t w) := by
  have HK := Lib.hid ((Upd.refl (fun _ => False) w).alloc (.cells #[.int .i64 N, .int .i64 S, .int .i64 T, .slice a3 (n + 1) c3, .slice a4 m c4, .slice a5 m c5, .slice a6 m c6, .slice a7 m c7, .slice a8 m c8] 29))
  have HB := Lib.hid (Blk.new w #[.int .i64 N, .int .i64 S, .int .i64 T, .slice a3 (n + 1) c3, .slice a4 m c4, .slice a5 m c5, .slice a6 m c6, .slice a7 m c7, .slice a8 m c8] 29)
  obtain ⟨hnN, hn2, hn16, hm6, -⟩ := hg.len
  have HT := fun (w' : World) (k : Kept w w') => Lib.hid (to_ok N S T n m a3 a4 a5 a6 a7 a8 c3 c4 c5 c6 c7 c8 ys ra rc rs t w' hg (hcr.kept k) (hr.kept k) hm ht)
  have HNR := fun (db : Nat) (d : List Nat) (u : Nat) (w' : World) (k : Kept w w') (h1 : Rd w' (some ⟨db, 0, none⟩) (nv d)) (h2 : d.length = n) (h3 : u < n) (h4 : ∃ a, Nr n m ys rs d u a) => Lib.hid (nearer_ok N S T n m a3 a4 a5 a6 a7 a8 c3 c4 c5 c6 c7 c8 ys ra rc rs db d u w' hg (hcr.kept k) (hr.kept k) hm h1 h2 h3 h4)
  have HG := Lib.hid hg
  have HCR := Lib.hid hcr
  clear hg hcr hr hm
  subst hnN
  go_enter Try.func16, Try.ntmps16
  go_upto_region 1 with (fail)
  generalize (w.alloc (.cells #[.int .i64 n, .int .i64 S, .int .i64 T, .slice a3 (n + 1) c3, .slice a4 m c4, .slice a5 m c5, .slice a6 m c6, .slice a7 m c7, .slice a8 m c8] 29)) = W0 at HK HB ⊢
  generalize w.heap.size = cb at HB ⊢
  have bx := HB.out.cell
  go_wp2_with fail
  refine (HT _ HK.out).out.mono ?_
  rintro e W2 ⟨db, d, rfl, hd0, -, hd2, hk2⟩
  have HD := Lib.hid hd0
  have HI := Lib.hid hd2
  have HB2 := Lib.hid (HB.out.kept hk2)
  have HK2 := Lib.hid (HK.out.trans hk2)
  have HDL : Hid (d.length = n) := Lib.hid hd2.len
  clear hd0 hd2 hk2 HB HK HT bx
  have bx := HB2.out.cell
  have hnil := eqNil (P := Try.prog) Try.underlying27 (some ⟨db, 0, none⟩) n n
  simp only [Option.isNone_some] at hnil
  have dc0 : W2.cell? ⟨db, s, none⟩ = some (.int .i64 (d.getD s 0 : Nat)) := by rw [HD.out.cell]; simp only [List.getElem?_toArray]; exact nv_get (by rw [HDL.out]; exact hs)
  obtain ⟨y, hy⟩ : ∃ y, d.getD s 0 = y := ⟨_, rfl⟩
  rw [hy] at dc0
  have HY := Lib.hid hy
  have j0 : ¬ (s : Int) < 0 := by omega
  have j1 : decide ((s : Int) < 0) = false := decide_eq_false j0
  have j2 : ¬ (n : Int) ≤ (s : Int) := by omega
  have j3 : decide ((n : Int) ≤ (s : Int)) = false := decide_eq_false j2
  have j2n : ¬ n ≤ s := by omega
  have j3n : decide (n ≤ s) = false := decide_eq_false j2n
  have j4 : (0 : Int) ≤ (s : Int) := by omega
  have j5 : (s : Int) < (n : Int) := by omega
  have hyn : y ≤ n := by rw [← hy]; exact HI.out.le s hs
  clear hy
  by_cases hyy : y = n
  · have z1 : ((y : Int) == (n : Int)) = true := by simp [hyy]
    have HYN := Lib.hid hyy
    clear hyy
    have C0 : (∀ i, W2.drew.cell? ⟨cb, i, none⟩ = (#[.int .i64 n, .int .i64 S, .int .i64 T, .slice a3 (n + 1) c3, .slice a4 m c4, .slice a5 m c5, .slice a6 m c6, .slice a7 m c7, .slice a8 m c8] : Array Value)[i]?) ∧ W2.drew.cell? ⟨db, s, none⟩ = some (.int .i64 (y : Nat)) := ⟨bx, dc0⟩
    have hk1 : Kept W2 W2.drew := (Upd.refl _ _).drew
    go_upto_region 2 with (fail)
    go_region_held3 (fun w' => (∀ i, w'.cell? ⟨cb, i, none⟩ = (#[.int .i64 n, .int .i64 S, .int .i64 T, .slice a3 (n + 1) c3, .slice a4 m c4, .slice a5 m c5, .slice a6 m c6, .slice a7 m c7, .slice a8 m c8] : Array Value)[i]?) ∧ w'.cell? ⟨db, s, none⟩ = some (.int .i64 (y : Nat))) (exact C0) (fail)
    obtain ⟨w1, hw1⟩ : ∃ w1, w1 = W2.drew := ⟨_, rfl⟩
    rw [← hw1] at hk1
    clear C0
    have HKZ : Hid (Kept w W2.drew) := Lib.hid (by rw [← hw1]; exact HK2.out.trans hk1)
    clear hk1 bx dc0 hnil hw1
    go_wp2_with fail
    go_ret2
    exact ⟨d, [], none, 0, 0, false, rfl, rfl, .inl rfl, HI.out, fun _ => ⟨rfl, by rw [HY.out]; exact HYN.out⟩, fun h => (by cases h), HKZ.out⟩
  · have z1 : ((y : Int) == (n : Int)) = false := by simp; omega
    have hylt : y < n := by omega
    clear hyy
    have C0 : (∀ i, W2.drew.cell? ⟨cb, i, none⟩ = (#[.int .i64 n, .int .i64 S, .int .i64 T, .slice a3 (n + 1) c3, .slice a4 m c4, .slice a5 m c5, .slice a6 m c6, .slice a7 m c7, .slice a8 m c8] : Array Value)[i]?) ∧ W2.drew.cell? ⟨db, s, none⟩ = some (.int .i64 (y : Nat)) := ⟨bx, dc0⟩
    have hk1 : Kept W2 W2.drew := (Upd.refl _ _).drew
    go_upto_region 2 with (fail)
    go_region_held3 (fun w' => (∀ i, w'.cell? ⟨cb, i, none⟩ = (#[.int .i64 n, .int .i64 S, .int .i64 T, .slice a3 (n + 1) c3, .slice a4 m c4, .slice a5 m c5, .slice a6 m c6, .slice a7 m c7, .slice a8 m c8] : Array Value)[i]?) ∧ w'.cell? ⟨db, s, none⟩ = some (.int .i64 (y : Nat))) (exact C0) (fail)
    obtain ⟨w1, hw1⟩ : ∃ w1, w1 = W2.drew := ⟨_, rfl⟩
    rw [← hw1] at hk1
    clear C0
    have HK3 := Lib.hid (HK2.out.trans hk1)
    have HB3 := Lib.hid (HB2.out.kept hk1)
    have HD3 := Lib.hid (HD.out.kept hk1)
    have HWS := Lib.hid (And.intro (WayS.nil n m ys rs s) (show WayL n m ys rs d s [] from fun i h => by simp at h))
    have HRW := Lib.hid (World.ownsRow_nil w1 w1.heap.size 3 1)
    have HKK := Lib.hid (Upd.refl (fun _ => False) w1)
    clear hk1 bx dc0 hnil HB2 HD HK2
    go_upto_region 6 with (fail)
    rw [← hw1]
    clear hw1
    go_loopw [11, 12] (fun ox ux wr => ∃ (ws : List Nat) (u : Nat) (a : Option Addr) (k c : Nat), ox = .slice a k c ∧ ux = .int .i64 u ∧ u < n ∧ k ≤ n ∧ Hid (ws.length = k) ∧ Hid (Kept w1 wr) ∧ Hid (wr.ownsRow w1.heap.size 3 1 (.slice a k c) k (nv ws)) ∧ Hid (WayS n m ys rs s u ws ∧ WayL n m ys rs d s ws) ∧ Hid (d.getD u 0 + k = y)) (fun _ ux _ => d.getD (intOf ux).toNat 0)
    case atStart => exact ⟨[], s, none, 0, 0, rfl, rfl, hs, by omega, Lib.hid rfl, HKK, HRW, HWS, Lib.hid (by have := HY.out; omega)⟩
    case round =>
      clear HKK HRW HWS
      obtain ⟨ws, u, a, k, c, rfl, rfl, hun, hkn, HWL, HKK, HRW, HWS, HDU⟩ := hrel
      by_cases hut : u = t
      · have z2 : ((u : Int) != (t : Int)) = false := by simp [hut]
        have HE : Hid ((WayS n m ys rs s t ws ∧ WayL n m ys rs d s ws) ∧ k = y) := Lib.hid (by
          have h1 := HWS.out
          have h2 := HDU.out
          rw [hut] at h1 h2
          rw [HI.out.src] at h2
          exact ⟨h1, by omega⟩)
        have HKZ := Lib.hid (HK3.out.trans HKK.out)
        obtain ⟨a', c', e9, hrd⟩ := Rd.owns HRW.out
        cases e9
        have HRD := Lib.hid hrd
        clear hrd hut HWS HRW
        go_wp2_with fail
        go_ret2
        exact ⟨d, ws, a, k, c, true, rfl, HWL.out, HRD.out, HI.out, fun h => (by cases h), fun _ => ⟨by rw [HY.out]; exact hylt, by rw [HY.out]; exact HE.out.2, HE.out.1.1, HE.out.1.2⟩, HKZ.out⟩
      · have z2 : ((u : Int) != (t : Int)) = true := by simp; omega
        have hdu : d.getD u 0 ≤ y := by have := HDU.out; omega
        have hnx : ∃ a, Nr n m ys rs d u a := by
          obtain ⟨v, hv, ⟨a, ha, h1, h2, h3⟩, h4⟩ := HI.out.par u hun hut (by omega)
          exact ⟨a, ha, h1, h3, by rw [h2]; omega⟩
        have HQ := Lib.hid (HNR db d u wr (HK3.out.trans HKK.out) (Rd.blk (HD3.out.kept HKK.out)) HDL.out hun hnx)
        have bx := (HB3.out.kept HKK.out).cell
        clear hut hnx hdu
        go_wp2_with fail
        refine HQ.out.out.mono ?_
        rintro e w4 ⟨b, rfl, hb1, hk4⟩
        have HB1 := Lib.hid hb1
        obtain ⟨⟨g1, g2, g3, g4⟩, -⟩ := hb1
        obtain ⟨x, hx⟩ : ∃ x, hd n ys b = x := ⟨_, rfl⟩
        have hxn : x < n := by rw [← hx]; exact (hd_get HG.out b g1).2
        have hstep : d.getD u 0 ≤ d.getD x 0 + 1 := HI.out.step x u hxn hun ⟨b, g1, g2, hx, g3⟩
        rw [hx] at g4
        have HDX : Hid (d.getD x 0 + (k + 1) = y) := Lib.hid (by have := HDU.out; omega)
        have HMS : Hid (d.getD x 0 < d.getD u 0) := Lib.hid g4
        have HW2 : Hid (WayS n m ys rs s x (ws ++ [b]) ∧ WayL n m ys rs d s (ws ++ [b])) := Lib.hid (by rw [← hx]; exact ⟨HWS.out.1.push g1 g3 g2, HWS.out.2.push HWS.out.1.end_ HB1.out⟩)
        have hk1n : k + 1 ≤ n := by have := HDX.out; omega
        have HK5 := Lib.hid (HKK.out.trans hk4)
        have HR5 := Lib.hid (ownsRow_upd HRW.out hk4 (fun _ _ f => f))
        obtain ⟨b4, o4, rfl, hc4⟩ := (HCR.out.kept (HK3.out.trans HK5.out)).r4.at b (by rw [show (hv (enAll n ys)).length = (enAll n ys).length by simp [hv], HG.out.hm]; exact g1)
        rw [(hd_get HG.out b g1).1, hx] at hc4
        have HC4B : Hid (∀ w', Kept w1 w' → w'.cell? ⟨b4, o4 + b, none⟩ = some (.int .i64 (x : Nat))) := Lib.hid (fun w' k' => by
          obtain ⟨b4', o4', e, h⟩ := (HCR.out.kept (HK3.out.trans k')).r4.at b (by rw [show (hv (enAll n ys)).length = (enAll n ys).length by simp [hv], HG.out.hm]; exact g1)
          cases e
          rwa [(hd_get HG.out b g1).1, hx] at h)
        have j6 : ¬ (b : Int) < 0 := by omega
        have j7 : decide ((b : Int) < 0) = false := decide_eq_false j6
        have j8 : (0 : Int) ≤ (b : Int) := by omega
        have j9 : (b : Int) < (m : Int) := by omega
        clear g2 g3 g4 hx hstep hk4 bx HKK HRW HWS HDU HQ hc4
        obtain ⟨i0', hi0, hz0, hz1, hz2⟩ := info_parts infoInt
        have hxl : k ≤ 2000000 := by omega
        have hbs := HK5.out.size
        have ho := HR5.out
        have HB4 := Lib.hid (HB3.out.kept HK5.out)
        go_upto_region 11 with (first | (at_builtin; refine wpList_push rfl _ _ 27 rfl w1.heap.size 3 i0' (.int .i64 0) 8 Try.underlying27 hi0 hz0 hz1 hz2 rfl (by decide) _ _ _ rfl ho (.int .i64 (b : Int)) rfl rfl hxl hbs ?_; intro g cap' w5 hown hg2; clear hi0 hz0 hz1 hz2 hxl hbs; have HK6 := Lib.hid (hg2.kept HK5.out ho (Nat.le_refl _)); have HR6 := Lib.hid hown; clear hown hg2 ho HR5 HK5) | fail)
        have bx := (HB3.out.kept HK6.out).cell
        have hc4 := HC4B.out _ HK6.out
        go_wp2_with fail
        go_roundw
        case rel => exact ⟨ws ++ [b], x, _, k + 1, _, rfl, rfl, hxn, hk1n, Lib.hid (by rw [List.length_append, HWL.out]; rfl), HK6, Lib.hid (by rw [show nv (ws ++ [b]) = nv ws ++ [.int .i64 (b : Int)] by simp [nv]]; exact HR6.out), HW2, HDX⟩
        case measure => simp [intOf]; exact HMS.out
end Go.Proofs.Ytoapekkmaajfmaa
