/- The law GlobalsReach (printed by gen_reach20.py). -/
import Derived.Test.YticeionjlknlcaaReached
import Derived.Test.YticeionjlknlcaaReachP
import Derived.Test.YticeionjlknlcaaLabAt
import Derived.Test.YticeionjlknlcaaGst
import Derived.Test.YticeionjlknlcaaMapRd
import Derived.Deep.CutRange
import Derived.StillTailTactics
namespace Go.Proofs.Yticeionjlknlcaa
set_option linter.unusedVariables false
set_option linter.unusedSimpArgs false
open Go.RowKit

attribute [local go_sem] cell?_ext
theorem rc_at {w : World} {a : Option Addr} {N : Int} {X : List Int} (h : Rd w a ((rcL N X).map Value.bool)) {i : Nat} (hi : i < X.length) : ∃ b off, a = some ⟨b, off, none⟩ ∧ w.cell? ⟨b, off + i, none⟩ = some (.bool (decide (X.getD i 0 < N))) := by
  obtain ⟨b, off, e, hc⟩ := h.at i (by simp [rcL]; exact hi)
  exact ⟨b, off, e, by rw [hc]; simp [rcL, hi, List.getD]⟩
theorem getD_in {rs : List Int} {lo hi : Int} (h : ∀ x ∈ rs, lo ≤ x ∧ x < hi) {i : Nat} (hi' : i < rs.length) : lo ≤ rs.getD i 0 ∧ rs.getD i 0 < hi := by
  have := h _ (List.getElem_mem hi')
  simpa [List.getD, List.getElem?_eq_getElem hi'] using this
theorem IntRow.rd {k : IntKind} {w : World} {a : Option Addr} {cap : Nat} {zs : List Int} (h : IntRow k w a cap zs) : Rd w a (zs.map (Value.int k)) := by
  rcases h.cells with h0 | ⟨b, off, rfl, hc⟩
  · exact .inl (by rw [List.eq_nil_of_length_eq_zero h0]; rfl)
  · refine .inr ⟨b, off, rfl, fun i u hu => ?_⟩
    rw [List.getElem?_map] at hu
    obtain ⟨x, hx, rfl⟩ := Option.map_eq_some_iff.1 hu
    obtain ⟨hi, rfl⟩ := List.getElem?_eq_some_iff.1 hx
    exact hc i hi
/-- What the law looks at; what is left lies in a row of its own. -/
structure GO (N S T : Int) (n m : Nat) (a3 a4 a5 a6 a7 a8 : Option Addr) (c3 c4 c5 c6 c7 c8 : Nat) (w : World) (B : Nat) (ys : List Ar) (cb : Nat) (ra : Option Addr) (L X : List Int) (ia : Option Addr) (xb : Nat) (wr : World) : Prop where
  kp : Kept w wr
  gf : GF N S T n m a3 a4 a5 a6 a7 a8 c3 c4 c5 c6 c7 c8 ys cb ra L wr
  is : Rd wr ia ((rcL N X).map Value.bool)
  xs : Rd wr (some ⟨xb, 0, none⟩) (lv X)
  l : L = [] ∨ ∃ g rest, ra = some ⟨g, 0, none⟩ ∧ w.heap.size ≤ g ∧ B ≤ g ∧ ¬ cb = g ∧ (∀ ad, ia = some ad → ¬ ad.block = g) ∧ ¬ xb = g ∧ Blk wr g (lv L ++ rest).toArray 2
theorem GO.kept {N S T : Int} {n m : Nat} {a3 a4 a5 a6 a7 a8 : Option Addr} {c3 c4 c5 c6 c7 c8 : Nat} {w : World} {B : Nat} {ys : List Ar} {cb : Nat} {ra : Option Addr} {L X : List Int} {ia : Option Addr} {xb : Nat} {wr w' : World} (h : GO N S T n m a3 a4 a5 a6 a7 a8 c3 c4 c5 c6 c7 c8 w B ys cb ra L X ia xb wr) (k : Kept wr w') : GO N S T n m a3 a4 a5 a6 a7 a8 c3 c4 c5 c6 c7 c8 w B ys cb ra L X ia xb w' :=
  ⟨h.kp.trans k, h.gf.kept k, h.is.kept k, h.xs.kept k, h.l.imp id fun ⟨g, rest, e, h1, h2, h3, h4, h5, h6⟩ => ⟨g, rest, e, h1, h2, h3, h4, h5, h6.kept k⟩⟩
theorem GO.put {N S T : Int} {n m : Nat} {a3 a4 a5 a6 a7 a8 : Option Addr} {c3 c4 c5 c6 c7 c8 : Nat} {w : World} {B : Nat} {ys : List Ar} {cb : Nat} {L X : List Int} {ia : Option Addr} {xb : Nat} {wr : World} {g : Nat} {rest : List Value} (h : GO N S T n m a3 a4 a5 a6 a7 a8 c3 c4 c5 c6 c7 c8 w B ys cb (some ⟨g, 0, none⟩) L X ia xb wr) (hl : ∃ lo, CsrL lo B a3 a4 a5 a6 a7 a8)
    (hg : w.heap.size ≤ g ∧ B ≤ g ∧ ¬ cb = g ∧ (∀ ad, ia = some ad → ¬ ad.block = g) ∧ ¬ xb = g ∧ Blk wr g (lv L ++ rest).toArray 2) {k : Nat} (hk : k < L.length) (x : Int) : GO N S T n m a3 a4 a5 a6 a7 a8 c3 c4 c5 c6 c7 c8 w B ys cb (some ⟨g, 0, none⟩) (L.set k x) X ia xb (wr.setCell ⟨g, k, none⟩ (.int .i64 x)) := by
  obtain ⟨g1, g2, g3, g4, g5, g6⟩ := hg
  obtain ⟨lo, hl⟩ := hl
  have hu : Upd (fun b => b = g) wr (wr.setCell ⟨g, k, none⟩ (.int .i64 x)) := Upd.setCell (S := fun b => b = g) (Upd.refl _ _) (.inl rfl) _
  have hB : Blk (wr.setCell ⟨g, k, none⟩ (.int .i64 x)) g (lv (L.set k x) ++ rest).toArray 2 := by
    have := g6.set k (.int .i64 x)
    rwa [show (lv (L.set k x) ++ rest).toArray = (lv L ++ rest).toArray.setIfInBounds k (.int .i64 x) by
      have hkl : k < (lv L).length := by rw [lv_len]; exact hk
      simp only [List.setIfInBounds_toArray, List.set_append_left k _ hkl]
      simp [lv, List.map_set]]
  refine ⟨h.kp.set g1 _, ⟨h.gf.box.other g3 _, h.gf.cr.upd hl hu (fun k _ h2 h3 => by subst h3; omega), rd_set g6 hk⟩, h.is.upd hu g4, h.xs.upd hu (fun ad e => by cases e; exact g5), .inr ⟨g, rest, rfl, g1, g2, g3, g4, g5, hB⟩⟩
set_option maxRecDepth 100000 in
set_option maxHeartbeats 4000000 in
theorem globalsReach_core (N0 S0 T0 : Int) (a : Option Addr) (k0 cap : Nat) (ys0 : List Ar) (la : Option Addr) (lc : Nat) (ls : List Int) (moa : Option Addr) (moc : Nat) (mo : List Int) (w : World)
    (h : Ars w a ys0) (hk0 : ys0.length = k0) (hle : k0 ≤ cap) (hmost : cap ≤ 9223372036854775807) (hwf : ∀ x ∈ ys0, -9223372036854775808 ≤ x.c ∧ x.c ≤ 9223372036854775807)
    (hl : Rd w la (lv ls)) (hli : ∀ x ∈ ls, -9223372036854775808 ≤ x ∧ x ≤ 9223372036854775807) (hll : ls.length ≤ 9223372036854775807)
    (hm1 : Rd w moa (mo.map (Value.int .u8))) (hm2 : ∀ x ∈ mo, 0 ≤ x ∧ x ≤ 255) (hm3 : mo.length ≤ 9223372036854775807) :
    Calls Try.prog 10 #[.agg #[.int .i64 N0, .int .i64 S0, .int .i64 T0, .slice a k0 cap], .slice la ls.length lc, .slice moa mo.length moc] w fun e w' => e = .returned (.bool true) ∧ Kept w w' := by
  have HS : ∀ (w : World), Ars w a ys0 → Hid (Calls Try.prog 13 #[.agg #[.int .i64 N0, .int .i64 S0, .int .i64 T0, .slice a k0 cap], .int .i64 16, .int .i64 40] w (NetIs w)) := by
    intro w h
    subst hk0
    exact Lib.hid (Some_any N0 S0 T0 a cap ys0 w h hle hmost hwf)
  have HX := Lib.hid (h.kept ((Upd.refl (fun _ => False) w).alloc (.cells #[.int .i64 N0, .int .i64 S0, .int .i64 T0, .slice a k0 cap] 24)))
  have HK := Lib.hid ((Upd.refl (fun _ => False) w).alloc (.cells #[.int .i64 N0, .int .i64 S0, .int .i64 T0, .slice a k0 cap] 24))
  have HL := Lib.hid hl
  have HLI := Lib.hid hli
  have HMO := Lib.hid hm1
  have HMB := Lib.hid hm2
  have hml := hm3
  clear hm1 hm2 hm3
  clear h hl hli hle hmost hwf
  go_enter Try.func10, Try.ntmps10
  go_wp2_with fail
  refine (HS _ HX.out).out.mono ?_
  rintro e w1 ⟨N, S, T, a', cap', ys, rfl, hok, hown, hk1⟩
  have HK1 := Lib.hid (HK.out.trans hk1)
  have HOK := Lib.hid hok
  have HA : Hid (Ars w1 a' ys) := Lib.hid hown.at.2
  clear hk1 hok hown HS HX HK
  have HLE := fun (w : World) (h : Ars w a' ys) (hl : Rd w la (lv ls)) => Lib.hid (Left_ok N S T a' cap' ys la lc ls w h HOK.out hl HLI.out hll)
  go_wp2_with fail
  refine (HLE _ HA.out (HL.out.kept HK1.out)).out.mono ?_
  rintro e w2 ⟨B, n, m, a3, c3, a4, c4, a5, c5, a6, c6, a7, c7, a8, c8, ra, rc, rfl, hn, hm2, hcr, hcl, hk2, hBl, hro⟩
  have HG : Hid (Gr N S T n m ys) := Lib.hid ⟨HOK.out, hn, hm2⟩
  obtain ⟨rs, hrs⟩ : ∃ rs, resAll (wths ls ys) n ys = rs := ⟨_, rfl⟩
  have HRM : Hid (rs.length = m) := Lib.hid (by rw [← hrs, resAll_len]; exact hm2)
  have HRI : Hid (∀ x ∈ rs, 0 ≤ x ∧ x < 1125899906842624) := Lib.hid (by rw [← hrs]; exact left_in HG.out HLI.out)
  rw [hrs] at hro
  have HRC : Hid (m ≤ rc) := Lib.hid (row_cap' hro)
  have HSO : Hid ((∃ ad, ra = some ad) ∨ (ra = none ∧ m = 0 ∧ rc = 0)) := Lib.hid (someOr_row hro)
  obtain ⟨ra', rc', e9, hrr⟩ := Rd.owns hro
  cases e9
  have hA := (Upd.refl (fun _ => False) w2).alloc (.cells #[.int .i64 N, .int .i64 S, .int .i64 T, .slice a3 (n + 1) c3, .slice a4 m c4, .slice a5 m c5, .slice a6 m c6, .slice a7 m c7, .slice a8 m c8] 29)
  have HK0 := Lib.hid ((HK1.out.trans hk2).trans hA)
  have HCL : Hid (∃ lo, CsrL lo B a3 a4 a5 a6 a7 a8) := Lib.hid ⟨_, hcl⟩
  have HBB : Hid (w.heap.size ≤ B) := Lib.hid (Nat.le_trans HK1.out.size hBl)
  have HRO : Hid ((w2.alloc (.cells #[.int .i64 N, .int .i64 S, .int .i64 T, .slice a3 (n + 1) c3, .slice a4 m c4, .slice a5 m c5, .slice a6 m c6, .slice a7 m c7, .slice a8 m c8] 29)).ownsRow B 2 1 (.slice ra m rc) m (lv rs)) := Lib.hid (ownsRow_upd hro hA (fun _ _ f => f))
  have HGC : Hid (∀ g, (Value.slice ra m rc).ownBlock = some g → g < w2.heap.size) := Lib.hid (fun g e => (World.ownsRow.lt hro g e).2)
  have HGF : Hid (GF N S T n m a3 a4 a5 a6 a7 a8 c3 c4 c5 c6 c7 c8 ys w2.heap.size ra rs (w2.alloc (.cells #[.int .i64 N, .int .i64 S, .int .i64 T, .slice a3 (n + 1) c3, .slice a4 m c4, .slice a5 m c5, .slice a6 m c6, .slice a7 m c7, .slice a8 m c8] 29))) := Lib.hid ⟨Blk.new _ _ _, hcr.kept hA, hrr.kept hA⟩
  clear hn hm2 hcr hcl hBl hk2 hro hrr hrs hA HLE HA HOK HK1 HL HLI hll
  clear hk0
  go_upto_region 2 with (fail)
  generalize (w2.alloc (.cells #[.int .i64 N, .int .i64 S, .int .i64 T, .slice a3 (n + 1) c3, .slice a4 m c4, .slice a5 m c5, .slice a6 m c6, .slice a7 m c7, .slice a8 m c8] 29)) = wB at HGF HK0 HRO ⊢
  generalize w2.heap.size = cb at HGF HGC ⊢
  have HK1 : Hid (Kept wB wB) := Lib.hid (Upd.refl _ _)
  have HRE := fun (w : World) (k : Kept wB w) => Lib.hid (reached_ok N S T n m a3 a4 a5 a6 a7 a8 c3 c4 c5 c6 c7 c8 ys ra rc rs w HG.out HRM.out (HGF.out.kept k).cr (HGF.out.kept k).rs)
  have HE3 := fun (w : World) (k : Kept wB w) => Lib.hid (show Calls Try.prog 25 #[.agg #[.int .i64 N, .int .i64 S, .int .i64 T, .slice a3 (n + 1) c3, .slice a4 m c4, .slice a5 m c5, .slice a6 m c6, .slice a7 m c7, .slice a8 m c8], .slice ra m rc, .int .i64 3] w (ExactEnd w N S T n m ys rs) from exact_ok N S T n m a3 a4 a5 a6 a7 a8 c3 c4 c5 c6 c7 c8 ys ra rc rs 3 w HG.out HRM.out (HGF.out.kept k).cr (HGF.out.kept k).rs (by omega) (by omega))
  have C0 : (∀ i, wB.drew.cell? ⟨cb, i, none⟩ = (#[.int .i64 N, .int .i64 S, .int .i64 T, .slice a3 (n + 1) c3, .slice a4 m c4, .slice a5 m c5, .slice a6 m c6, .slice a7 m c7, .slice a8 m c8] : Array Value)[i]?) := HGF.out.box.drew.cell
  have K0 := Lib.hid (Upd.refl (fun _ => False) wB).drew
  go_region_held3 (fun w' => (∀ i, w'.cell? ⟨cb, i, none⟩ = (#[.int .i64 N, .int .i64 S, .int .i64 T, .slice a3 (n + 1) c3, .slice a4 m c4, .slice a5 m c5, .slice a6 m c6, .slice a7 m c7, .slice a8 m c8] : Array Value)[i]?))
    (first | exact C0 | exact C1 | exact C2)
    ((first
    | (go_at_call 25; (with_reducible refine (HE3 _ K1.out).out.mono ?_); rintro e W2 ⟨xb, Y, rfl, hY, hB, hge, hk⟩; obtain rfl := HXL.out.unique hY; have K2 := Lib.hid (K1.out.trans hk); have RI2 := Lib.hid (RI1.out.kept hk); have RX2 := Lib.hid (Rd.blk hB); have HXG : Hid (wB.heap.size ≤ xb) := Lib.hid (Nat.le_trans K1.out.size hge); have C2 : (∀ i, W2.cell? ⟨cb, i, none⟩ = (#[.int .i64 N, .int .i64 S, .int .i64 T, .slice a3 (n + 1) c3, .slice a4 m c4, .slice a5 m c5, .slice a6 m c6, .slice a7 m c7, .slice a8 m c8] : Array Value)[i]?) := (HGF.out.kept K2.out).box.cell; clear hY hB hge hk)
    | (go_at_call 29; (with_reducible refine (HRE _ K0.out).out.mono ?_); rintro e W1 ⟨ia, ic, X, rfl, hX, hB, hge, hk⟩; have K1 := Lib.hid (K0.out.trans hk); have HXL := Lib.hid hX; have RI1 := Lib.hid hB; have HIG : Hid (∀ ad, ia = some ad → wB.heap.size ≤ ad.block) := Lib.hid hge; have C1 : (∀ i, W1.cell? ⟨cb, i, none⟩ = (#[.int .i64 N, .int .i64 S, .int .i64 T, .slice a3 (n + 1) c3, .slice a4 m c4, .slice a5 m c5, .slice a6 m c6, .slice a7 m c7, .slice a8 m c8] : Array Value)[i]?) := (HGF.out.kept K1.out).box.cell; clear hX hB hge hk)))
  clear C0 C1 C2 K0 K1 RI1 HRE HE3
  rename_i hHeld
  clear hHeld
  have hn16 : n ≤ 16 := by have := HG.out.len; omega
  have hm640 : m ≤ 640 := by have := HG.out.len; omega
  have HXN : Hid (X.length = n) := Lib.hid HXL.out.len
  have HXR : Hid (rightB N S T X = true) := Lib.hid (low_right HG.out (allN_right HG.out) HXL.out)
  obtain ⟨hS0, hS1, hT0, hT1⟩ : 0 ≤ S ∧ S < (n : Int) ∧ 0 ≤ T ∧ T < (n : Int) := by have := HG.out.len; omega
  obtain ⟨ib, io, rfl, icT⟩ := rc_at RI2.out (i := T.toNat) (by rw [HXN.out]; omega)
  obtain ⟨ib', io', e9, icS⟩ := rc_at RI2.out (i := S.toNat) (by rw [HXN.out]; omega)
  cases e9
  rw [(right_parts.1 HXR.out).2.2.1, decide_eq_true (by have := HG.out.len; omega)] at icT
  rw [(right_parts.1 HXR.out).2.2.2, decide_eq_false (Int.lt_irrefl N)] at icS
  have bx := (HGF.out.kept K2.out).box.cell
  have hnN : ((n : Int) != N) = false := by have := HG.out.len.1; simp [this]
  go_wp2_with fail
  clear hnN icT icS hS0 hS1 hT0 hT1 bx
  go_loopw [57] (fun ix wr => ∃ k : Nat, ix = .int .i64 k ∧ k ≤ n ∧ Hid (Kept W2 wr)) (fun ix _ => n - (intOf ix).toNat)
  case atStart => exact ⟨0, rfl, by omega, Lib.hid (Upd.refl _ _)⟩
  case round =>
    obtain ⟨k, rfl, hk, HK⟩ := hrel
    by_cases hik : k < n
    · have i1 : (0 : Int) ≤ (k : Int) := by omega
      have i2 : (k : Int) < (n : Int) := by omega
      have i3 : (k : Int) < ((n + 1 : Nat) : Int) := by omega
      have v1 : (k : Int) + 1 ≤ 17 := by omega
      have v2 : (0 : Int) ≤ (k : Int) + 1 := by omega
      have v3 : (k : Int) + 1 < ((n + 1 : Nat) : Int) := by omega
      have hc1 : ((k + 1 : Nat) : Int) = (k : Int) + 1 := by omega
      have K3 := Lib.hid (K2.out.trans HK.out)
      have bx := (HGF.out.kept K3.out).box.cell
      obtain ⟨b3, o3, e3, f3⟩ := (HGF.out.kept K3.out).cr.r3.at k (by rw [nv_len, firsts_len]; omega)
      rw [firsts_get n ys k (by omega)] at f3
      rw [e3] at bx
      clear e3
      obtain ⟨bt, hbt⟩ : ∃ b, decide ((k : Int) = T) = b := ⟨_, rfl⟩
      have bt1 : ((k : Int) == T) = bt := by rw [← hbt]; rfl
      have HS0 : Hid (someB N T n ys rs X k (fst ys k) = bt) := Lib.hid (by rw [some_start, hbt])
      have HFM : Hid (fst ys k ≤ fst ys (k + 1)) := Lib.hid (fst_mono ys (by omega))
      clear hbt
      go_wp2_with fail
      clear f3 bx bt1
      rename World => wq
      go_loopw [12, 13] (fun y z wr => ∃ a : Nat, y = .bool (someB N T n ys rs X k a) ∧ z = .int .i64 a ∧ fst ys k ≤ a ∧ a ≤ fst ys (k + 1) ∧ Hid (Kept W2 wr)) (fun _ z _ => fst ys (k + 1) - (intOf z).toNat)
      case atStart => exact ⟨fst ys k, by rw [HS0.out], rfl, Nat.le_refl _, HFM.out, HK⟩
      case round =>
        clear HK K3 HS0
        obtain ⟨a, rfl, rfl, ha1, ha2, HK⟩ := hrel
        have K3 := Lib.hid (K2.out.trans HK.out)
        have bx := (HGF.out.kept K3.out).box.cell
        obtain ⟨b3, o3, e3, f3⟩ := (HGF.out.kept K3.out).cr.r3.at (k + 1) (by rw [nv_len, firsts_len]; omega)
        rw [firsts_get n ys (k + 1) (by omega)] at f3
        obtain ⟨f, hf⟩ : ∃ f, fst ys (k + 1) = f := ⟨_, rfl⟩
        rw [hf] at f3 ha2
        have HF := Lib.hid hf
        clear hf
        rw [e3] at bx
        clear e3
        by_cases haf : a < f
        · have haI : (a : Int) < (f : Int) := by omega
          have ham : a < m := by
            have h1 := fst_mono ys (show k + 1 ≤ n by omega)
            have h2 := HG.out.hm
            have h3 := HF.out
            unfold fst at h1 h3
            omega
          have ham' : (a : Int) < (m : Int) := by omega
          have ham0 : (0 : Int) ≤ (a : Int) := by omega
          obtain ⟨b4, o4, e4, f4⟩ := (HGF.out.kept K3.out).cr.r4.at a (by rw [hv_len]; have := HG.out.hm; omega)
          rw [(hd_get HG.out a ham).1] at f4
          have HSN : Hid (someB N T n ys rs X k (a + 1) = (someB N T n ys rs X k a || (decide (0 < rs.getD a 0) && decide (X.getD (hd n ys a) 0 < N)))) := Lib.hid (some_next ha1)
          have hun := (hd_get HG.out a ham).2
          obtain ⟨rb, ro, er, fr⟩ := (HGF.out.kept K3.out).rs.num (i := a) (by rw [HRM.out]; exact ham)
          obtain ⟨ib', io', e9, ic⟩ := rc_at (RI2.out.kept HK.out) (i := hd n ys a) (by rw [HXN.out]; exact hun)
          cases e9
          subst er
          rw [e4] at bx
          clear e4
          generalize hd n ys a = u at f4 HSN hun ic
          generalize rs.getD a 0 = x at HSN fr
          obtain ⟨q, hq⟩ : ∃ q, decide (X.getD u 0 < N) = q := ⟨_, rfl⟩
          rw [hq] at HSN ic
          obtain ⟨z, hz⟩ : ∃ z, someB N T n ys rs X k a = z := ⟨_, rfl⟩
          rw [hz] at HSN ⊢
          have un1 : (u : Int) < (n : Int) := by omega
          have un0 : (0 : Int) ≤ (u : Int) := by omega
          clear hq hz
          have HKR := HK
          by_cases hx0 : 0 < x
          · have g2 : decide (0 < x) = true := decide_eq_true hx0
            rw [g2, Bool.true_and] at HSN
            cases z
            · rw [Bool.false_or] at HSN
              go_wp2_with fail
              go_roundw
              case rel => exact ⟨a + 1, by rw [HSN.out], by go_num, by omega, by have := HF.out; omega, HKR⟩
              case measure => (have := HF.out; simp [intOf]; omega)
            · rw [Bool.true_or] at HSN
              go_wp2_with fail
              go_roundw
              case rel => exact ⟨a + 1, by rw [HSN.out], by go_num, by omega, by have := HF.out; omega, HKR⟩
              case measure => (have := HF.out; simp [intOf]; omega)
          · have g2 : decide (0 < x) = false := decide_eq_false hx0
            rw [g2, Bool.false_and, Bool.or_false] at HSN
            cases z
            all_goals
              go_wp2_with fail
              go_roundw
              case rel => exact ⟨a + 1, by rw [HSN.out], by go_num, by omega, by have := HF.out; omega, HKR⟩
              case measure => (have := HF.out; simp [intOf]; omega)
        · obtain rfl : f = a := by omega
          clear ha1 ha2 HFM
          obtain ⟨ib', io', e9, ic⟩ := rc_at (RI2.out.kept HK.out) (i := k) (by rw [HXN.out]; exact hik)
          cases e9
          obtain ⟨xb', xo, ex, xc⟩ := (RX2.out.kept HK.out).num (i := k) (by rw [HXN.out]; exact hik)
          cases ex
          rw [Nat.zero_add] at xc
          have HSI : Hid ((k : Int) ≠ S → someB N T n ys rs X k f = decide (X.getD k 0 < N)) := Lib.hid (fun h => by rw [← HF.out]; exact some_is HG.out HXL.out k hik h)
          generalize X.getD k 0 = xv at ic xc HSI
          obtain ⟨q, hq⟩ : ∃ q, decide (xv < N) = q := ⟨_, rfl⟩
          rw [hq] at ic HSI
          generalize someB N T n ys rs X k f = z at HSI ⊢
          have HKR := HK
          by_cases hS : (k : Int) = S
          · have g1 : ((k : Int) != S) = false := by simp [hS]
            clear hS HSI
            go_upto_region 13 with (fail)
            refine wp_region_kept (by kernel_rfl) (by kernel_rfl) ?_
            repeat (go_big_quiet_step (fail))
            refine wpQuiet_nil ?_
            intro w9 hk9
            have HK9 := Lib.hid (HKR.out.trans hk9)
            clear hk9
            go_wp2_with fail
            go_roundw
            case rel => exact ⟨k + 1, by go_num, by omega, HK9⟩
            case measure => simp [intOf]; omega
          · have g1 : ((k : Int) != S) = true := by simp [hS]
            obtain rfl := HSI.out hS
            clear hS HSI
            go_upto_region 13 with (fail)
            cases z
            all_goals
              refine wp_region_kept (by kernel_rfl) (by kernel_rfl) ?_
              repeat (go_big_quiet_step (fail))
              refine wpQuiet_nil ?_
              intro w9 hk9
              have HK9 := Lib.hid (HKR.out.trans hk9)
              clear hk9
              go_wp2_with fail
              go_roundw
              case rel => exact ⟨k + 1, by go_num, by omega, HK9⟩
              case measure => simp [intOf]; omega
    · obtain rfl : n = k := by omega
      have GO0 : Hid (GO N S T n m a3 a4 a5 a6 a7 a8 c3 c4 c5 c6 c7 c8 w B ys cb ra rs X (some ⟨ib, io, none⟩) xb wr) := Lib.hid (by
        have k3 := K2.out.trans HK.out
        refine ⟨HK0.out.trans k3, HGF.out.kept k3, RI2.out.kept HK.out, RX2.out.kept HK.out, ?_⟩
        by_cases h0 : 0 < m
        · obtain ⟨g, rest, e, h1, h2⟩ := row_blk (ownsRow_upd HRO.out k3 (fun _ _ f => f)) h0
          have h4 := HGC.out g (by rw [e]; rfl)
          have h3 := (World.ownsRow.lt HRO.out g (by rw [e]; rfl)).2
          have h5 := HXG.out
          have h6 := HIG.out _ rfl
          exact .inr ⟨g, rest, e, Nat.le_trans HBB.out h1, h1, by omega, fun ad e => by cases e; simp only at h6 ⊢; omega, by omega, h2⟩
        · exact .inl (List.eq_nil_of_length_eq_zero (by rw [HRM.out]; omega)))
      clear K2 HK RI2 RX2 HXR hik hk HRO HGC HXG HIG HBB HRC HSO
      go_wp2_with fail
      go_loopw [126] (fun ix wr => ∃ (k : Nat) (L : List Int), ix = .int .i64 k ∧ k ≤ m ∧ Hid (L.length = m) ∧ Hid (∀ a, 0 < L.getD a 0 ↔ 0 < rs.getD a 0) ∧ Hid (∀ a, k ≤ a → L.getD a 0 = rs.getD a 0) ∧ Hid (GO N S T n m a3 a4 a5 a6 a7 a8 c3 c4 c5 c6 c7 c8 w B ys cb ra L X (some ⟨ib, io, none⟩) xb wr)) (fun ix _ => m - (intOf ix).toNat)
      case atStart => exact ⟨0, rs, rfl, by omega, HRM, Lib.hid (fun _ => Iff.rfl), Lib.hid (fun _ _ => rfl), GO0⟩
      case round =>
        clear GO0
        obtain ⟨k, L, rfl, hk, HLM, HSG, HLR, GO1⟩ := hrel
        by_cases hlk : k < m
        · have i1 : (0 : Int) ≤ (k : Int) := by omega
          have i2 : (k : Int) < (m : Int) := by omega
          obtain ⟨g, rest, hg1, HG2⟩ := GO1.out.l.resolve_left (fun e => by have := HLM.out; rw [e] at this; simp at this; omega)
          subst hg1
          have HG2 := Lib.hid HG2
          have STAY := GO1
          obtain ⟨rb, ro, er, fr⟩ := GO1.out.gf.rs.num (i := k) (by rw [HLM.out]; exact hlk)
          cases er
          rw [Nat.zero_add] at fr
          have PUT := Lib.hid (fun (x : Int) => (GO1.out.kept (Upd.refl _ _).drew).put HCL.out (rest := rest) ⟨HG2.out.1, HG2.out.2.1, HG2.out.2.2.1, HG2.out.2.2.2.1, HG2.out.2.2.2.2.1, HG2.out.2.2.2.2.2.drew⟩ (k := k) (by rw [HLM.out]; exact hlk) x)
          have fo := HG2.out.2.2.2.2.2.free k
          have HX0 : Hid (0 ≤ L.getD k 0 ∧ L.getD k 0 < 1125899906842624) := Lib.hid (by rw [HLR.out k (Nat.le_refl k)]; exact getD_in HRI.out (by rw [HRM.out]; exact hlk))
          have HS2 : Hid (∀ x : Int, 0 < L.getD k 0 → 0 < x → ∀ a, 0 < (L.set k x).getD a 0 ↔ 0 < rs.getD a 0) := Lib.hid (fun x h0 h1 a => by
            rw [getD_set (by rw [HLM.out]; exact hlk)]
            split
            · rename_i e; subst e; have := (HSG.out a).1 h0; omega
            · exact HSG.out a)
          have HL2 : Hid (∀ x : Int, (L.set k x).length = m ∧ ∀ a, k + 1 ≤ a → (L.set k x).getD a 0 = rs.getD a 0) := Lib.hid (fun x => ⟨by rw [List.length_set]; exact HLM.out, fun a ha => by rw [getD_set (by rw [HLM.out]; exact hlk), if_neg (by omega)]; exact HLR.out a (by omega)⟩)
          have HLR2 : Hid (∀ a, k + 1 ≤ a → L.getD a 0 = rs.getD a 0) := Lib.hid (fun a ha => HLR.out a (by omega))
          obtain ⟨x, hx⟩ : ∃ x, L.getD k 0 = x := ⟨_, rfl⟩
          rw [hx] at fr HX0 HS2
          clear hx
          clear HLR
          by_cases hx0 : 0 < x
          · have g2 : decide (0 < x) = true := decide_eq_true hx0
            by_cases hmk : k < mo.length
            · have j2 : (k : Int) < (mo.length : Int) := by omega
              have kw := GO1.out.kp
              obtain ⟨mb, mof, em, fm⟩ := (HMO.out.kept kw).at k (by rw [List.length_map]; exact hmk)
              rw [show (mo.map (Value.int .u8))[k]? = some (.int .u8 mo[k]) by simp [hmk]] at fm
              obtain ⟨p1, p2⟩ := HMB.out mo[k] (List.getElem_mem hmk)
              subst em
              generalize mo[k] = y at fm p1 p2
              obtain ⟨x1, x2⟩ := HX0.out
              have w1 : IntKind.i64.wrap y = y := by rw [IntKind.wrap_i64]; omega
              have w2 : wrap64 y = y := by unfold wrap64; omega
              have w3 : wrap64 (x + y) = x + y := by unfold wrap64; omega
              have w4 : IntKind.i64.wrap (x + y) = x + y := by rw [IntKind.wrap_i64]; omega
              have NEW := Lib.hid (PUT.out (x + y))
              have NSG := Lib.hid (HS2.out (x + y) hx0 (by omega))
              have NL := Lib.hid (HL2.out (x + y))
              clear PUT HS2 HL2 kw x1 x2
              go_upto_region 20 with (fail)
              go_still_tail 11, (by kernel_rfl)
              change wpList _ _ _ _ _ wr.drew
              go_wp2_with fail
              go_roundw
              case rel => exact ⟨k + 1, L.set k (x + y), by go_num, by omega, Lib.hid NL.out.1, NSG, Lib.hid NL.out.2, NEW⟩
              case measure => simp [intOf]; omega
            · have j2 : ¬ (k : Int) < (mo.length : Int) := by omega
              have j3 : decide ((k : Int) < (mo.length : Int)) = false := decide_eq_false j2
              clear PUT HS2 HL2
              go_wp2_with fail
              go_roundw
              case rel => exact ⟨k + 1, L, by go_num, by omega, HLM, HSG, HLR2, STAY⟩
              case measure => simp [intOf]; omega
          · have g2 : decide (0 < x) = false := decide_eq_false hx0
            clear PUT HS2 HL2
            go_wp2_with fail
            go_roundw
            case rel => exact ⟨k + 1, L, by go_num, by omega, HLM, HSG, HLR2, STAY⟩
            case measure => simp [intOf]; omega
        · obtain rfl : m = k := by omega
          have HLX : Hid (IsLow S n m ys L (allN n N T) X) := Lib.hid (low_signs HXL.out HSG.out)
          have HRE2 := Lib.hid (reached_ok N S T n m a3 a4 a5 a6 a7 a8 c3 c4 c5 c6 c7 c8 ys ra rc L wr HG.out HLM.out GO1.out.gf.cr GO1.out.gf.rs)
          have HE1 := fun (w : World) (k : Kept wr w) => Lib.hid (show Calls Try.prog 25 #[.agg #[.int .i64 N, .int .i64 S, .int .i64 T, .slice a3 (n + 1) c3, .slice a4 m c4, .slice a5 m c5, .slice a6 m c6, .slice a7 m c7, .slice a8 m c8], .slice ra m rc, .int .i64 1] w (ExactEnd w N S T n m ys L) from exact_ok N S T n m a3 a4 a5 a6 a7 a8 c3 c4 c5 c6 c7 c8 ys ra rc L 1 w HG.out HLM.out (GO1.out.kept k).gf.cr (GO1.out.kept k).gf.rs (by omega) (by omega))
          have bx := GO1.out.gf.box.cell
          clear HSG HLR HXL hlk hk
          go_wp2_with fail
          refine HRE2.out.mono ?_
          rintro e W3 ⟨ja, jc, X3, rfl, hX, hB, -, hk⟩
          obtain rfl := HLX.out.unique hX
          have K3 := Lib.hid hk
          have HBQ := Lib.hid (bools_eq ja (some ⟨ib, io, none⟩) jc ic (rcL N X) n W3 hB (GO1.out.kept hk).is (by unfold rcL; rw [List.length_map]; exact HXN.out) (by omega))
          clear hX hB hk HRE2 bx
          go_wp2_with fail
          refine HBQ.out.mono ?_
          rintro e W4 ⟨rfl, hk⟩
          have K4 := Lib.hid (K3.out.trans hk)
          clear hk HBQ K3
          have bx := (GO1.out.kept K4.out).gf.box.cell
          go_wp2_with fail
          refine (HE1 _ K4.out).out.mono ?_
          rintro e W5 ⟨yb, X4, rfl, hX, hB, -, hk⟩
          obtain rfl := HLX.out.unique hX
          have K5 := Lib.hid (K4.out.trans hk)
          have HI := Lib.hid (ints_exG (some ⟨yb, 0, none⟩) (some ⟨xb, 0, none⟩) n n X n W5 HXN.out (by omega) (Rd.blk hB) (GO1.out.kept K5.out).xs)
          clear hX hB hk K4 bx HE1
          go_wp2_with fail
          refine HI.out.mono ?_
          rintro e W6 ⟨rfl, hk⟩
          have K6 := Lib.hid (K5.out.trans hk)
          clear hk HI K5
          go_wp2_with fail
          refine (awake20_any _).mono ?_
          rintro e Wz ⟨rfl, hkz⟩
          have HKZ := Lib.hid (GO1.out.kp.trans (K6.out.trans hkz))
          clear hkz
          go_wp2_with fail
          go_ret
          exact ⟨rfl, HKZ.out⟩
theorem globalsReach_walk (N S T : Int) (a : Option Addr) (cap : Nat) (els : List (List Value)) (s1 : Option Addr) (cap1 : Nat) (z1 : List Int) (s2 : Option Addr) (cap2 : Nat) (z2 : List Int) (w : World) (_wN : (Lit.int .i64 N).wf = true) (_wS : (Lit.int .i64 S).wf = true) (_wT : (Lit.int .i64 T).wf = true) (hrow : FlatRow [some .i64, some .i64, some .i64] w a cap els) (_hf : ∀ x ∈ els, fits [some .i64, some .i64, some .i64] x)
    (w1 : IntRow .i64 w s1 cap1 z1) (m1 : ∀ n ∈ z1, (Lit.int .i64 n).wf = true) (w2 : IntRow .u8 w s2 cap2 z2) (m2 : ∀ n ∈ z2, (Lit.int .u8 n).wf = true) :
    Calls Try.prog 10 #[.agg #[.int .i64 N, .int .i64 S, .int .i64 T, .slice a els.length cap], .slice s1 z1.length cap1, .slice s2 z2.length cap2] w fun e w' => e = .returned (.bool true) ∧ Kept w w' := by
  obtain ⟨xs, hl, hA, hx⟩ := ars_of_flat hrow
  have hle := hrow.le
  have hmo := hrow.most
  have l1 := w1.le
  have l1' := w1.most
  have l2 := w2.le
  have l2' := w2.most
  unfold maxLen at hmo l1' l2'
  exact globalsReach_core N S T a els.length cap xs s1 cap1 z1 s2 cap2 z2 w hA hl hle hmo (fun x hx0 => bounds_i64 (hx x hx0).2.2) w1.rd (fun x hx0 => bounds_i64 (m1 x hx0)) (by omega) w2.rd (fun x hx0 => bounds_u8 (m2 x hx0)) (by omega)
end Go.Proofs.Yticeionjlknlcaa
