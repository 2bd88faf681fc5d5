/- The law RepairOrder (printed by gen_order19.py). -/
import Derived.Test.YticeionjlknlcaaLowered
import Derived.Test.YticeionjlknlcaaAwake19
import Derived.Test.YticeionjlknlcaaLabAt
import Derived.Test.YticeionjlknlcaaGst
import Derived.Test.YticeionjlknlcaaCopyRow
import Derived.Test.YticeionjlknlcaaMapRd
import Derived.Test.YticeionjlknlcaaRowsRd
import Derived.Deep.CutRange
import Derived.StillTailTactics
namespace Go.Proofs.Yticeionjlknlcaa
set_option linter.unusedVariables false
set_option linter.unusedSimpArgs false
open Go.RowKit

attribute [local go_sem] cell?_ext
/-- The lower of both, up to k. -/
structure OB (n : Nat) (wB : World) (hb gb ob : Nat) (hs gs : List Int) (k : Nat) (wr : World) : Prop where
  kp : Kept wB wr
  h : Blk wr hb (lv hs).toArray 3
  g : Blk wr gb (lv gs).toArray 3
  o : Blk wr ob (lv (filled (zipL min n hs gs) 0 k)).toArray 3
  n1 : ¬ hb = ob
  n2 : ¬ gb = ob
  lo : wB.heap.size ≤ ob
structure OC (n : Nat) (wB : World) (hb gb ob : Nat) (hs gs : List Int) (wr : World) : Prop where
  kp : Kept wB wr
  h : Blk wr hb (lv hs).toArray 3
  g : Blk wr gb (lv gs).toArray 3
  o : Blk wr ob (lv (zipL min n hs gs)).toArray 3
section
variable {n : Nat} {wB : World} {hb gb ob : Nat} {hs gs : List Int} {k : Nat} {wr w' : World}
theorem OB.kept (h : OB n wB hb gb ob hs gs k wr) (hk : Kept wr w') : OB n wB hb gb ob hs gs k w' := ⟨h.kp.trans hk, h.h.kept hk, h.g.kept hk, h.o.kept hk, h.n1, h.n2, h.lo⟩
theorem OC.kept (h : OC n wB hb gb ob hs gs wr) (hk : Kept wr w') : OC n wB hb gb ob hs gs w' := ⟨h.kp.trans hk, h.h.kept hk, h.g.kept hk, h.o.kept hk⟩
theorem OB.drew (h : OB n wB hb gb ob hs gs k wr) : OB n wB hb gb ob hs gs k wr.drew := h.kept (Upd.refl _ _).drew
theorem OC.drew (h : OC n wB hb gb ob hs gs wr) : OC n wB hb gb ob hs gs wr.drew := h.kept (Upd.refl _ _).drew
theorem OB.put (h : OB n wB hb gb ob hs gs k wr) (hk : k < n) {x : Int} (ex : x = min (hs.getD k 0) (gs.getD k 0)) : OB n wB hb gb ob hs gs (k + 1) (wr.setCell ⟨ob, k, none⟩ (.int .i64 x)) := by
  have l1 := zipL_len min n hs gs
  have f1 := h.o.fill (xs := zipL min n hs gs) (by omega)
  have g1 : (zipL min n hs gs)[k]'(by omega) = x := by simp [zipL, ex]
  rw [g1] at f1
  exact ⟨h.kp.set h.lo _, h.h.other h.n1 _, h.g.other h.n2 _, f1, h.n1, h.n2, h.lo⟩
theorem OB.full (h : OB n wB hb gb ob hs gs n wr) : OC n wB hb gb ob hs gs wr := by
  refine ⟨h.kp, h.h, h.g, ?_⟩
  have h1 := h.o
  have e : filled (zipL min n hs gs) 0 n = zipL min n hs gs := by
    have h2 := filled_all (zipL min n hs gs) 0
    rwa [zipL_len] at h2
  rwa [e] at h1
end
/-- A copy whose arcs are shut one by one. -/
structure LessIs (W7 : World) (la : Option Addr) (L : List Int) (wr : World) : Prop where
  kp : Kept W7 wr
  l : L = [] ∨ ∃ g rest, la = some ⟨g, 0, none⟩ ∧ W7.heap.size ≤ g ∧ Blk wr g (lv L ++ rest).toArray 2
section
variable {W7 : World} {la : Option Addr} {L : List Int} {wr w' : World}
theorem LessIs.rd (h : LessIs W7 la L wr) : Rd wr la (lv L) := by
  rcases h.l with rfl | ⟨g, rest, rfl, -, hb⟩
  · exact .inl rfl
  · refine .inr ⟨g, 0, rfl, fun i u hu => ?_⟩
    rw [Nat.zero_add, hb.cell]
    simp only [List.getElem?_toArray]
    rw [List.getElem?_append_left (List.getElem?_eq_some_iff.1 hu).1]
    exact hu
theorem LessIs.put {g : Nat} {rest : List Value} (h : LessIs W7 la L wr) (hg : W7.heap.size ≤ g) (hb : Blk wr g (lv L ++ rest).toArray 2) {k : Nat} (hk : k < L.length) : LessIs W7 (some ⟨g, 0, none⟩) (L.set k 0) (wr.setCell ⟨g, k, none⟩ (.int .i64 0)) := by
  refine ⟨h.kp.set hg _, .inr ⟨g, rest, rfl, hg, ?_⟩⟩
  have := hb.set k (.int .i64 0)
  rwa [show (lv (L.set k 0) ++ rest).toArray = (lv L ++ rest).toArray.setIfInBounds k (.int .i64 0) by
    have hkl : k < (lv L).length := by rw [lv_len]; exact hk
    simp only [List.setIfInBounds_toArray, List.set_append_left k _ hkl]
    simp [lv, List.map_set]]
end
set_option maxRecDepth 100000 in
set_option maxHeartbeats 4000000 in
theorem repairOrder_core (N0 S0 T0 : Int) (a : Option Addr) (k0 cap : Nat) (ys0 : List Ar) (la : Option Addr) (lc : Nat) (ls : List Int) (ha : Option Addr) (hc : Nat) (hs0 : List Int) (ga : Option Addr) (gc : Nat) (gs0 : List Int) (sa : Option Addr) (sc : Nat) (sh : List Bool) (w : World)
    (h : Ars w a ys0) (hk0 : ys0.length = k0) (hle : k0 ≤ cap) (hmost : cap ≤ 9223372036854775807) (hwf : ∀ x ∈ ys0, -9223372036854775808 ≤ x.c ∧ x.c ≤ 9223372036854775807)
    (hl : Rd w la (lv ls)) (hli : ∀ x ∈ ls, -9223372036854775808 ≤ x ∧ x ≤ 9223372036854775807) (hll : ls.length ≤ 9223372036854775807)
    (hh1 : Rd w ha (lv hs0)) (hh2 : Rd w ga (lv gs0)) (hm1 : hs0.length ≤ 9223372036854775807) (hm2 : gs0.length ≤ 9223372036854775807) (hsl : sh.length ≤ 9223372036854775807) (hsh : sh.length = 0 ∨ ∃ b off, sa = some ⟨b, off, none⟩ ∧ ∀ i (h : i < sh.length), w.cell? ⟨b, off + i, none⟩ = some (.bool sh[i])) :
    Calls Try.prog 4 #[.agg #[.int .i64 N0, .int .i64 S0, .int .i64 T0, .slice a k0 cap], .slice la ls.length lc, .slice ha hs0.length hc, .slice ga gs0.length gc, .slice sa sh.length sc] w fun e w' => e = .returned (.bool true) ∧ Kept w w' := by
  have HS : ∀ (w : World), Ars w a ys0 → Hid (Calls Try.prog 13 #[.agg #[.int .i64 N0, .int .i64 S0, .int .i64 T0, .slice a k0 cap], .int .i64 16, .int .i64 40] w (NetIs w)) := by
    intro w h
    subst hk0
    exact Lib.hid (Some_any N0 S0 T0 a cap ys0 w h hle hmost hwf)
  have HX := Lib.hid (h.kept ((Upd.refl (fun _ => False) w).alloc (.cells #[.int .i64 N0, .int .i64 S0, .int .i64 T0, .slice a k0 cap] 24)))
  have HK := Lib.hid ((Upd.refl (fun _ => False) w).alloc (.cells #[.int .i64 N0, .int .i64 S0, .int .i64 T0, .slice a k0 cap] 24))
  have HL := Lib.hid hl
  have HLI := Lib.hid hli
  have HHR := Lib.hid hh1
  have HGR := Lib.hid hh2
  have HHX := Lib.hid hm1
  have HGX := Lib.hid hm2
  clear hh1 hh2 hm1 hm2
  have HSH := Lib.hid hsh
  clear hsh
  clear h hl hli hle hmost hwf
  go_enter Try.func4, Try.ntmps4
  go_wp2_with fail
  refine (HS _ HX.out).out.mono ?_
  rintro e w1 ⟨N, S, T, a', cap', ys, rfl, hok, hown, hk1⟩
  have HK1 := Lib.hid (HK.out.trans hk1)
  have HOK := Lib.hid hok
  have HA : Hid (Ars w1 a' ys) := Lib.hid hown.at.2
  clear hk1 hok hown HS HX HK
  have HLE := fun (w : World) (h : Ars w a' ys) (hl : Rd w la (lv ls)) => Lib.hid (Left_ok N S T a' cap' ys la lc ls w h HOK.out hl HLI.out hll)
  go_wp2_with fail
  refine (HLE _ HA.out (HL.out.kept HK1.out)).out.mono ?_
  rintro e w2 ⟨B, n, m, a3, c3, a4, c4, a5, c5, a6, c6, a7, c7, a8, c8, ra, rc, rfl, hn, hm2, hcr, -, hk2, -, hro⟩
  have HG : Hid (Gr N S T n m ys) := Lib.hid ⟨HOK.out, hn, hm2⟩
  obtain ⟨rs, hrs⟩ : ∃ rs, resAll (wths ls ys) n ys = rs := ⟨_, rfl⟩
  have HRM : Hid (rs.length = m) := Lib.hid (by rw [← hrs, resAll_len]; exact hm2)
  have HRI : Hid (∀ x ∈ rs, 0 ≤ x ∧ x < 1125899906842624) := Lib.hid (by rw [← hrs]; exact left_in HG.out HLI.out)
  rw [hrs] at hro
  have HRC : Hid (m ≤ rc) := Lib.hid (row_cap' hro)
  have HSO : Hid ((∃ ad, ra = some ad) ∨ (ra = none ∧ m = 0 ∧ rc = 0)) := Lib.hid (someOr_row hro)
  obtain ⟨ra', rc', e9, hrr⟩ := Rd.owns hro
  cases e9
  have hA := (Upd.refl (fun _ => False) w2).alloc (.cells #[.int .i64 N, .int .i64 S, .int .i64 T, .slice a3 (n + 1) c3, .slice a4 m c4, .slice a5 m c5, .slice a6 m c6, .slice a7 m c7, .slice a8 m c8] 29)
  have HK0 := Lib.hid ((HK1.out.trans hk2).trans hA)
  have HGF : Hid (GF N S T n m a3 a4 a5 a6 a7 a8 c3 c4 c5 c6 c7 c8 ys w2.heap.size ra rs (w2.alloc (.cells #[.int .i64 N, .int .i64 S, .int .i64 T, .slice a3 (n + 1) c3, .slice a4 m c4, .slice a5 m c5, .slice a6 m c6, .slice a7 m c7, .slice a8 m c8] 29))) := Lib.hid ⟨Blk.new _ _ _, hcr.kept hA, hrr.kept hA⟩
  clear hn hm2 hcr hk2 hro hrr hrs hA HLE HA HOK HK1 HL HLI hll
  clear hk0
  go_upto_region 2 with (fail)
  generalize (w2.alloc (.cells #[.int .i64 N, .int .i64 S, .int .i64 T, .slice a3 (n + 1) c3, .slice a4 m c4, .slice a5 m c5, .slice a6 m c6, .slice a7 m c7, .slice a8 m c8] 29)) = wB at HGF HK0 ⊢
  generalize w2.heap.size = cb at HGF ⊢
  have HK1 : Hid (Kept wB wB) := Lib.hid (Upd.refl _ _)
  have hcb0 := HGF.out.box.lt
  have C0 : (∀ i, wB.drew.cell? ⟨cb, i, none⟩ = (#[.int .i64 N, .int .i64 S, .int .i64 T, .slice a3 (n + 1) c3, .slice a4 m c4, .slice a5 m c5, .slice a6 m c6, .slice a7 m c7, .slice a8 m c8] : Array Value)[i]?) := HGF.out.box.drew.cell
  have K0 := Lib.hid (Upd.refl (fun _ => False) wB).drew
  have G1 := fun (w : World) (k : Kept wB w) => Lib.hid (heights_any N S T n m a3 a4 a5 a6 a7 a8 c3 c4 c5 c6 c7 c8 ys ha hc hs0 w HG.out (HHR.out.kept (HK0.out.trans k)) HHX.out)
  have G2 := fun (w : World) (k : Kept wB w) => Lib.hid (heights_any N S T n m a3 a4 a5 a6 a7 a8 c3 c4 c5 c6 c7 c8 ys ga gc gs0 w HG.out (HGR.out.kept (HK0.out.trans k)) HGX.out)
  clear hcb0
  go_region_held3 (fun w' => (∀ i, w'.cell? ⟨cb, i, none⟩ = (#[.int .i64 N, .int .i64 S, .int .i64 T, .slice a3 (n + 1) c3, .slice a4 m c4, .slice a5 m c5, .slice a6 m c6, .slice a7 m c7, .slice a8 m c8] : Array Value)[i]?))
    (first | exact C0 | exact C1 | exact C2)
    ((first
    | (go_at_call 14; refine (G2 _ K1.out).out.mono ?_; rintro e W2 ⟨gb, rfl, h3, h4, h5⟩; have K2 := Lib.hid (K1.out.trans h5); have HBH2 := Lib.hid (HBH.out.kept h5); have HBG := Lib.hid h3; have HH := Lib.hid h4; have C2 : (∀ i, W2.cell? ⟨cb, i, none⟩ = (#[.int .i64 N, .int .i64 S, .int .i64 T, .slice a3 (n + 1) c3, .slice a4 m c4, .slice a5 m c5, .slice a6 m c6, .slice a7 m c7, .slice a8 m c8] : Array Value)[i]?) := (HGF.out.kept K2.out).box.cell; clear h3 h4 h5)
    | (go_at_call 14; refine (G1 _ K0.out).out.mono ?_; rintro e W1 ⟨hb, rfl, h0, h1, h2⟩; have K1 := Lib.hid (K0.out.trans h2); have HBH := Lib.hid h0; have HHH := Lib.hid h1; have C1 : (∀ i, W1.cell? ⟨cb, i, none⟩ = (#[.int .i64 N, .int .i64 S, .int .i64 T, .slice a3 (n + 1) c3, .slice a4 m c4, .slice a5 m c5, .slice a6 m c6, .slice a7 m c7, .slice a8 m c8] : Array Value)[i]?) := (HGF.out.kept K1.out).box.cell; clear h0 h1 h2)))
  have hne : Hid (¬ hb = gb ∧ wB.heap.size ≤ hb ∧ wB.heap.size ≤ gb) := Lib.hid (by
    have h1 := HHH.out
    have h2 := HH.out
    have h3 := HBH.out.lt
    have h4 := K1.out.size
    refine ⟨by omega, h1, by omega⟩)
  clear C0 C1 C2 G1 G2 K0 K1 HBH HHH HH HHR HGR HHX HGX
  have HRH : Hid (rightB N S T (htL N S T n hs0) = true) := Lib.hid (htL_right HG.out _)
  have HRG : Hid (rightB N S T (htL N S T n gs0) = true) := Lib.hid (htL_right HG.out _)
  generalize (htL N S T n hs0) = hs at HBH2 HRH
  generalize (htL N S T n gs0) = gs at HBG HRG
  have HHL : Hid (hs.length = n) := Lib.hid (by have h1 := (right_parts.1 HRH.out).1; have := HG.out.len; omega)
  have HGL : Hid (gs.length = n) := Lib.hid (by have h1 := (right_parts.1 HRG.out).1; have := HG.out.len; omega)
  have hmk := fun w => make_one (P := Try.prog) (t := 26) (e := 3) (z := .int .i64 0) (v := .int .i64 0) (bytes := 8) Try.underlying26 (by kernel_rfl) rfl .i64 n (by have := HG.out.len; omega) (by have := HG.out.len; omega) w
  rw [HG.out.len.1] at hmk
  have bx := (HGF.out.kept K2.out).box.cell
  go_upto_region 5 with (fail)
  have OB0 : Hid (OB n wB hb gb W2.heap.size hs gs 0 (W2.alloc (.cells (zeros n (.int .i64 0)) 3))) := Lib.hid (by
    have hk := (Upd.refl (fun _ => False) W2).alloc (.cells (zeros n (.int .i64 0)) 3)
    have l1 := HBH2.out.lt
    have l2 := HBG.out.lt
    have l3 := K2.out.size
    refine ⟨K2.out.trans hk, HBH2.out.kept hk, HBG.out.kept hk, ?_, by omega, by omega, by omega⟩
    rw [← show zeros n (.int .i64 0) = (lv (filled (zipL min n hs gs) 0 0)).toArray by rw [zeros_ints, filled_zero, zipL_len, lv]]
    exact Blk.new W2 (zeros n (.int .i64 0)) 3)
  clear hmk bx K2 HBH2 HBG
  generalize (W2.alloc (.cells (zeros n (.int .i64 0)) 3)) = W3 at OB0 ⊢
  generalize W2.heap.size = ob at OB0 ⊢
  have hn16 : n ≤ 16 := by have := HG.out.len; omega
  go_loopw [40] (fun ix wr => ∃ k : Nat, ix = .int .i64 k ∧ k ≤ n ∧ Hid (OB n wB hb gb ob hs gs k wr)) (fun ix _ => n - (intOf ix).toNat)
  case atStart => exact ⟨0, rfl, by omega, OB0⟩
  case round =>
    clear OB0
    obtain ⟨k, rfl, hk, OB1⟩ := hrel
    by_cases hlk : k < n
    · have ch : wr.drew.cell? ⟨hb, k, none⟩ = some (.int .i64 (hs.getD k 0)) := by rw [OB1.out.h.drew.cell]; simp only [List.getElem?_toArray]; exact lv_get (by rw [HHL.out]; exact hlk)
      have cg : wr.drew.cell? ⟨gb, k, none⟩ = some (.int .i64 (gs.getD k 0)) := by rw [OB1.out.g.drew.cell]; simp only [List.getElem?_toArray]; exact lv_get (by rw [HGL.out]; exact hlk)
      have co := OB1.out.o.drew.filling (xs := zipL min n hs gs) (by rw [zipL_len]; exact hlk)
      have fo := OB1.out.o.drew.free k
      have OB2 := Lib.hid (fun (x : Int) (ex : x = min (hs.getD k 0) (gs.getD k 0)) => OB1.out.drew.put hlk ex)
      generalize hs.getD k 0 = hv' at ch OB2
      generalize gs.getD k 0 = gv at cg OB2
      obtain ⟨mn, hmn⟩ : ∃ x, x = min hv' gv := ⟨_, rfl⟩
      have e1 : (if gv < hv' then gv else hv') = mn := by split <;> omega
      have OB3 := Lib.hid (OB2.out mn hmn)
      clear OB2 OB1 hmn
      have i1 : (0 : Int) ≤ (k : Int) := by omega
      have i2 : (k : Int) < (n : Int) := by omega
      go_upto_region 7 with (fail)
      go_still_tail 12, (by kernel_rfl)
      change wpList _ _ _ _ _ wr.drew
      go_wp2_with fail
      go_roundw
      case rel => exact ⟨k + 1, by go_num, by omega, OB3⟩
      case measure => simp [intOf]; omega
    · obtain rfl : n = k := by omega
      clear hlk hk
      go_upto_region 9 with (fail)
      clear hn16
      have HZR : Hid (rightB N S T (zipL min n hs gs) = true) := Lib.hid (zip_right HG.out min (fun x y => by omega) HRH.out HRG.out)
      have HZL : Hid ((zipL min n hs gs).length = n) := Lib.hid (zipL_len _ _ _ _)
      have LH := fun (w : World) (k : Kept wB w) (h : Rd w (some ⟨hb, 0, none⟩) (lv hs)) => Lib.hid (low_at N S T n m a3 a4 a5 a6 a7 a8 c3 c4 c5 c6 c7 c8 ys ra rc rs (some ⟨hb, 0, none⟩) n hs w HG.out HRM.out HHL.out HRH.out (HGF.out.kept k).cr (HGF.out.kept k).rs h)
      have LG := fun (w : World) (k : Kept wB w) (h : Rd w (some ⟨gb, 0, none⟩) (lv gs)) => Lib.hid (low_at N S T n m a3 a4 a5 a6 a7 a8 c3 c4 c5 c6 c7 c8 ys ra rc rs (some ⟨gb, 0, none⟩) n gs w HG.out HRM.out HGL.out HRG.out (HGF.out.kept k).cr (HGF.out.kept k).rs h)
      have LZ := fun (w : World) (k : Kept wB w) (h : Rd w (some ⟨ob, 0, none⟩) (lv (zipL min n hs gs))) => Lib.hid (low_at N S T n m a3 a4 a5 a6 a7 a8 c3 c4 c5 c6 c7 c8 ys ra rc rs (some ⟨ob, 0, none⟩) n (zipL min n hs gs) w HG.out HRM.out HZL.out HZR.out (HGF.out.kept k).cr (HGF.out.kept k).rs h)
      have OB4 : Hid (OC n wB hb gb ob hs gs wr.drew) := Lib.hid OB1.out.full.drew
      have K4 := Lib.hid OB4.out.kp
      have C4 : (∀ i, wr.drew.cell? ⟨cb, i, none⟩ = (#[.int .i64 N, .int .i64 S, .int .i64 T, .slice a3 (n + 1) c3, .slice a4 m c4, .slice a5 m c5, .slice a6 m c6, .slice a7 m c7, .slice a8 m c8] : Array Value)[i]?) := (HGF.out.kept K4.out).box.cell
      clear OB1
      go_region_held3 (fun w' => (∀ i, w'.cell? ⟨cb, i, none⟩ = (#[.int .i64 N, .int .i64 S, .int .i64 T, .slice a3 (n + 1) c3, .slice a4 m c4, .slice a5 m c5, .slice a6 m c6, .slice a7 m c7, .slice a8 m c8] : Array Value)[i]?))
        (first | exact C4 | exact C5 | exact C6 | exact C7)
        ((first
        | (go_at_call 16; refine (LZ _ OB6.out.kp (Rd.blk OB6.out.o)).out.mono ?_; rintro e W7 ⟨za, zc, Lz, rfl, hl0, hr0, -, hk0⟩; have C7 : (∀ i, W7.cell? ⟨cb, i, none⟩ = (#[.int .i64 N, .int .i64 S, .int .i64 T, .slice a3 (n + 1) c3, .slice a4 m c4, .slice a5 m c5, .slice a6 m c6, .slice a7 m c7, .slice a8 m c8] : Array Value)[i]?) := (HGF.out.kept (OB6.out.kp.trans hk0)).box.cell; have OB7 := Lib.hid (OB6.out.kept hk0); have LLz := Lib.hid hl0; have RZ7 := Lib.hid hr0; have RX7 := Lib.hid (RX6.out.kept hk0); have RY7 := Lib.hid (RY6.out.kept hk0); clear hl0 hr0 hk0)
        | (go_at_call 16; refine (LG _ OB5.out.kp (Rd.blk OB5.out.g)).out.mono ?_; rintro e W6 ⟨ya, yc, Ly, rfl, hl0, hr0, -, hk0⟩; have C6 : (∀ i, W6.cell? ⟨cb, i, none⟩ = (#[.int .i64 N, .int .i64 S, .int .i64 T, .slice a3 (n + 1) c3, .slice a4 m c4, .slice a5 m c5, .slice a6 m c6, .slice a7 m c7, .slice a8 m c8] : Array Value)[i]?) := (HGF.out.kept (OB5.out.kp.trans hk0)).box.cell; have OB6 := Lib.hid (OB5.out.kept hk0); have LLy := Lib.hid hl0; have RY6 := Lib.hid hr0; have RX6 := Lib.hid (RX5.out.kept hk0); clear hl0 hr0 hk0)
        | (go_at_call 16; refine (LH _ OB4.out.kp (Rd.blk OB4.out.h)).out.mono ?_; rintro e W5 ⟨xa, xc, Lx, rfl, hl0, hr0, -, hk0⟩; have C5 : (∀ i, W5.cell? ⟨cb, i, none⟩ = (#[.int .i64 N, .int .i64 S, .int .i64 T, .slice a3 (n + 1) c3, .slice a4 m c4, .slice a5 m c5, .slice a6 m c6, .slice a7 m c7, .slice a8 m c8] : Array Value)[i]?) := (HGF.out.kept (OB4.out.kp.trans hk0)).box.cell; have OB5 := Lib.hid (OB4.out.kept hk0); have LLx := Lib.hid hl0; have RX5 := Lib.hid hr0; clear hl0 hr0 hk0)))
      clear C4 C5 C6 C7 OB4 OB5 OB6 RX5 RX6 RY6 LH LG LZ K4
      have HZM : Hid (∀ v, v < n → Lz.getD v 0 = min (Lx.getD v 0) (Ly.getD v 0)) := Lib.hid (fun v hv => IsLow.both LLx.out LLy.out LLz.out HG.out v hv)
      have HLLN : Hid (Lx.length = n ∧ Ly.length = n ∧ Lz.length = n) := Lib.hid ⟨LLx.out.len, LLy.out.len, LLz.out.len⟩
      clear LLy LLz HZR HZL
      obtain ⟨i0, hi0, hz0, hz1, hz2⟩ := info_parts infoLong
      have hrs := (HGF.out.kept OB7.out.kp).rs
      have hrl := HRM.out
      have hml : m ≤ 2000000 := by have := HG.out.len; omega
      have hso := HSO.out
      have h1c : ∀ u ∈ lv rs, u.oneCell' = true := by
        intro u hu
        obtain ⟨x, -, rfl⟩ := List.mem_map.1 hu
        rfl
      go_upto_region 12 with (first | (at_builtin; refine wpList_copied rfl _ _ 25 rfl 2 i0 (.int .i64 0) 8 Try.underlying25 hi0 hz0 hz1 hz2 rfl (by decide) ra m rc (lv rs) rfl rfl hrs (by rw [lv_len]; exact hrl) hso h1c hml ?_; intro la0 lc0 W8 hown hk2; clear hi0 hz0 hz1 hz2 hrs hrl hso h1c) | fail)
      have LI0 : Hid (LessIs W7 la0 rs W8) := Lib.hid (by
        refine ⟨hk2, ?_⟩
        by_cases h0 : 0 < m
        · obtain ⟨g, rest, e, h1, h2⟩ := row_blk hown h0
          exact .inr ⟨g, rest, e, h1, h2⟩
        · exact .inl (List.eq_nil_of_length_eq_zero (by rw [HRM.out]; omega)))
      clear hown hk2 HSO
      go_loopw [73] (fun ix wr => ∃ (k : Nat) (L : List Int), ix = .int .i64 k ∧ k ≤ m ∧ Hid (L.length = m) ∧ Hid (∀ a, 0 < L.getD a 0 → 0 < rs.getD a 0) ∧ Hid (LessIs W7 la0 L wr)) (fun ix _ => m - (intOf ix).toNat)
      case atStart => exact ⟨0, rs, rfl, by omega, HRM, Lib.hid (fun _ h => h), LI0⟩
      case round =>
        clear LI0
        obtain ⟨k, L, rfl, hk, HLM, HLS, LI1⟩ := hrel
        by_cases hlk : k < m
        · have i1 : (0 : Int) ≤ (k : Int) := by omega
          have i2 : (k : Int) < (m : Int) := by omega
          obtain ⟨g, rest, hg1, hg2, hg3⟩ := LI1.out.l.resolve_left (fun e => by have := HLM.out; rw [e] at this; simp at this; omega)
          subst hg1
          have STAY : Hid (LessIs W7 (some ⟨g, 0, none⟩) L wr) := LI1
          have PUT : Hid (LessIs W7 (some ⟨g, 0, none⟩) (L.set k 0) (wr.setCell ⟨g, k, none⟩ (.int .i64 0))) := Lib.hid (LI1.out.put hg2 hg3 (by rw [HLM.out]; exact hlk))
          have lc : wr.cell? ⟨g, k, none⟩ = some (.int .i64 (L.getD k 0)) := by
            rw [hg3.cell]
            simp only [List.getElem?_toArray]
            rw [List.getElem?_append_left (by rw [lv_len, HLM.out]; exact hlk)]
            exact lv_get (by rw [HLM.out]; exact hlk)
          have lf := hg3.free k
          generalize L.getD k 0 = l0 at lc
          have HLS2 : Hid (∀ a, 0 < (L.set k 0).getD a 0 → 0 < rs.getD a 0) := Lib.hid (fun a h => by
            rw [getD_set (by rw [HLM.out]; exact hlk)] at h
            split at h
            · omega
            · exact HLS.out a h)
          have HLM2 : Hid ((L.set k 0).length = m) := Lib.hid (by rw [List.length_set]; exact HLM.out)
          clear LI1 hg3
          by_cases hks : k < sh.length
          · obtain ⟨sb, so, rfl, hsc⟩ := HSH.out.resolve_left (by omega)
            have sc := (keptCells ((HK0.out.trans OB7.out.kp).trans STAY.out.kp) _ (by rw [hsc k hks]; rfl)).trans (hsc k hks)
            have j2 : (k : Int) < (sh.length : Int) := by omega
            generalize sh[k] = bz at sc
            cases bz with
            | false =>
              go_wp2_with fail
              go_roundw
              case rel => exact ⟨k + 1, L, by go_num, by omega, HLM, HLS, STAY⟩
              case measure => simp [intOf]; omega
            | true =>
              go_wp2_with fail
              go_roundw
              case rel => exact ⟨k + 1, L.set k 0, by go_num, by omega, HLM2, HLS2, PUT⟩
              case measure => simp [intOf]; omega
          · have j2 : decide ((k : Int) < (sh.length : Int)) = false := decide_eq_false (by omega)
            have j3 : ¬ (k : Int) < (sh.length : Int) := by omega
            go_wp2_with fail
            go_roundw
            case rel => exact ⟨k + 1, L, by go_num, by omega, HLM, HLS, STAY⟩
            case measure => simp [intOf]; omega
        · have HLW := fun (w : World) (k : Kept wB w) (hl : Rd w la0 (lv L)) (h : Rd w (some ⟨hb, 0, none⟩) (lv hs)) => Lib.hid (low_at N S T n m a3 a4 a5 a6 a7 a8 c3 c4 c5 c6 c7 c8 ys la0 lc0 L (some ⟨hb, 0, none⟩) n hs w HG.out HLM.out HHL.out HRH.out (HGF.out.kept k).cr hl h)
          have KL := Lib.hid (OB7.out.kp.trans LI1.out.kp)
          have bx := (HGF.out.kept KL.out).box.cell
          clear hk hml
          go_wp2_with fail
          refine (HLW _ KL.out LI1.out.rd (Rd.blk (OB7.out.h.kept LI1.out.kp))).out.mono ?_
          rintro e W9 ⟨wa, wc, Lw, rfl, hl0, hr0, -, hk0⟩
          have HWX : Hid (∀ v, v < n → Lx.getD v 0 ≤ Lw.getD v 0) := Lib.hid (fun v hv => IsLow.shut LLx.out hl0 HLS.out v hv)
          have HWL : Hid (Lw.length = n) := Lib.hid hl0.len
          have hk9 := LI1.out.kp.trans hk0
          have KB9 := Lib.hid (OB7.out.kp.trans hk9)
          have RX9 := Lib.hid (RX7.out.kept hk9)
          have RY9 := Lib.hid (RY7.out.kept hk9)
          have RZ9 := Lib.hid (RZ7.out.kept hk9)
          have RW9 := Lib.hid hr0
          have F4 : Hid (Kept W9 W9) := Lib.hid (Upd.refl _ _)
          clear hk9 KL OB7 RX7 RY7 RZ7
          clear hl0 hr0 hk0 LI1 bx HLS HLM LLx HLW
          have bx := (HGF.out.kept KB9.out).box.cell
          have hnN : ((n : Int) != N) = false := by have := HG.out.len.1; simp [this]
          go_upto_region 21 with (fail)
          clear hnN bx
          have hn16 : n ≤ 16 := by have := HG.out.len; omega
          go_loopw [122] (fun ix wr => ∃ (k : Nat), ix = .int .i64 k ∧ k ≤ n ∧ Hid (Kept W9 wr)) (fun ix _ => n - (intOf ix).toNat)
          case atStart => exact ⟨0, rfl, by omega, F4⟩
          case round =>
            clear F4
            obtain ⟨k, rfl, hk, F4⟩ := hrel
            by_cases hik : k < n
            · obtain ⟨xb, xo, rfl, xcell⟩ := (RX9.out.kept F4.out).num (i := k) (by rw [HLLN.out.1]; exact hik)
              obtain ⟨yb, yo, rfl, ycell⟩ := (RY9.out.kept F4.out).num (i := k) (by rw [HLLN.out.2.1]; exact hik)
              obtain ⟨zb, zo, rfl, zcell⟩ := (RZ9.out.kept F4.out).num (i := k) (by rw [HLLN.out.2.2]; exact hik)
              obtain ⟨wb', wo, rfl, wcell⟩ := (RW9.out.kept F4.out).num (i := k) (by rw [HWL.out]; exact hik)
              have h1 := HZM.out k hik
              have h2 := HWX.out k hik
              generalize Lx.getD k 0 = xv at *
              generalize Ly.getD k 0 = yv at *
              generalize Lz.getD k 0 = zv at *
              generalize Lw.getD k 0 = wv at *
              have g1 : decide (xv < zv) = false := decide_eq_false (by omega)
              have g2 : decide (yv < zv) = false := decide_eq_false (by omega)
              have g3 : (if yv < xv then yv else xv) = zv := by split <;> omega
              have g4 : decide (wv < xv) = false := decide_eq_false (by omega)
              have g5 : ¬ xv < zv := by omega
              have g6 : ¬ yv < zv := by omega
              have g7 : ¬ wv < xv := by omega
              clear h1 h2
              have i1 : (0 : Int) ≤ (k : Int) := by omega
              have i2 : (k : Int) < (n : Int) := by omega
              go_upto_region 23 with (fail)
              refine wp_region_kept (by kernel_rfl) (by kernel_rfl) ?_
              repeat (go_big_quiet_step (fail))
              refine wpQuiet_nil ?_
              intro w9 hk9
              have F5 := Lib.hid (F4.out.trans hk9)
              clear hk9 F4 xcell ycell zcell wcell
              go_wp2_with fail
              go_roundw
              case rel => exact ⟨k + 1, by go_num, by omega, F5⟩
              case measure => simp [intOf]; omega
            · go_wp2_with fail
              refine (awake19_any _).mono ?_
              rintro e Wz ⟨rfl, hkz⟩
              have HKZ := Lib.hid (((HK0.out.trans KB9.out).trans F4.out).trans hkz)
              clear hkz F4
              go_wp2_with fail
              go_ret
              exact ⟨rfl, HKZ.out⟩
theorem repairOrder_walk (N S T : Int) (a : Option Addr) (cap : Nat) (els : List (List Value)) (s1 : Option Addr) (cap1 : Nat) (z1 : List Int) (s2 : Option Addr) (cap2 : Nat) (z2 : List Int) (s3 : Option Addr) (cap3 : Nat) (z3 : List Int) (s4 : Option Addr) (cap4 : Nat) (z4 : List Bool) (w : World) (_wN : (Lit.int .i64 N).wf = true) (_wS : (Lit.int .i64 S).wf = true) (_wT : (Lit.int .i64 T).wf = true) (hrow : FlatRow [some .i64, some .i64, some .i64] w a cap els) (_hf : ∀ x ∈ els, fits [some .i64, some .i64, some .i64] x)
    (w1 : IntRow .i64 w s1 cap1 z1) (m1 : ∀ n ∈ z1, (Lit.int .i64 n).wf = true) (w2 : IntRow .i64 w s2 cap2 z2) (_m2 : ∀ n ∈ z2, (Lit.int .i64 n).wf = true) (w3 : IntRow .i64 w s3 cap3 z3) (_m3 : ∀ n ∈ z3, (Lit.int .i64 n).wf = true) (w4 : BoolRow w s4 cap4 z4) :
    Calls Try.prog 4 #[.agg #[.int .i64 N, .int .i64 S, .int .i64 T, .slice a els.length cap], .slice s1 z1.length cap1, .slice s2 z2.length cap2, .slice s3 z3.length cap3, .slice s4 z4.length cap4] w fun e w' => e = .returned (.bool true) ∧ Kept w w' := by
  obtain ⟨xs, hl, hA, hx⟩ := ars_of_flat hrow
  have hle := hrow.le
  have hmo := hrow.most
  have l1 := w1.le
  have l1' := w1.most
  have l2 := w2.le
  have l2' := w2.most
  have l3 := w3.le
  have l3' := w3.most
  have l4 := w4.le
  have l4' := w4.most
  unfold maxLen at hmo l1' l2' l3' l4'
  exact repairOrder_core N S T a els.length cap xs s1 cap1 z1 s2 cap2 z2 s3 cap3 z3 s4 cap4 z4 w hA hl hle hmo (fun x hx0 => bounds_i64 (hx x hx0).2.2) w1.rd (fun x hx0 => bounds_i64 (m1 x hx0)) (by omega) w2.rd w3.rd (by omega) (by omega) (by omega) w4.cells
end Go.Proofs.Yticeionjlknlcaa
