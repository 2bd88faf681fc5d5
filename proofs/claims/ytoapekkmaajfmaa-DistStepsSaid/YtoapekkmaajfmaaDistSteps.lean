/- The law DistSteps (printed by gen_diststeps.py). -/
import Derived.Test.YtoapekkmaajfmaaAwake05
import Derived.Test.YtoapekkmaajfmaaSomeNet
import Derived.Test.YtoapekkmaajfmaaRowsRd
import Derived.Deep.CutRange
import Derived.Test.YtoapekkmaajfmaaQuietTail
namespace Go.Proofs.Ytoapekkmaajfmaa
set_option linter.unusedVariables false
set_option linter.unusedSimpArgs false
open Go.RowKit
attribute [local go_sem] cell?_ext

theorem own_ne {w : World} {base n c b : Nat} {a : Option Addr} {ys : List Ar} {arr : Array Value} {T : TypeId} (h : Own w base (.slice a n c) ys) (hb : Blk w b arr T) (hl : b < base) : ∀ g, a = some g → ¬ g.block = b := by
  rintro g rfl e
  rcases h.2 with ⟨e1, -⟩ | ⟨g', cap, cur, e1, hbb, -⟩
  · cases e1
  · cases e1
    simp at e
    omega
theorem nb_set {w : World} {b : Nat} {nr : List Bool} {T : TypeId} (h : Blk w b (nr.map Value.bool).toArray T) (i : Nat) (x : Bool) : Blk (w.setCell ⟨b, i, none⟩ (.bool x)) b ((nr.set i x).map Value.bool).toArray T := by
  have := h.set i (.bool x)
  rwa [show ((nr.set i x).map Value.bool).toArray = (nr.map Value.bool).toArray.setIfInBounds i (.bool x) by simp [List.map_set]]
theorem beq_up (x y : Nat) : ((x : Int) == ((y + 1 : Nat) : Int)) = decide (x = y + 1) ∧ (x == y + 1) = decide (x = y + 1) := by
  by_cases h : x = y + 1
  · simp [h]
  · simp [h]; omega
/-- Where one is, and where one goes: by whether it is to a vertex. -/
def dirU (n : Nat) (ys : List Ar) (z : Bool) (a : Nat) : Nat := if z then tl ys n a else hd n ys a
def dirV (n : Nat) (ys : List Ar) (z : Bool) (a : Nat) : Nat := if z then hd n ys a else tl ys n a
def StE (n m : Nat) (ys : List Ar) (rs : List Int) (z : Bool) (x y : Nat) : Prop := ∃ a, a < m ∧ dirV n ys z a = x ∧ dirU n ys z a = y ∧ 0 < rs.getD a 0
theorem stE_true (n m : Nat) (ys : List Ar) (rs : List Int) (x y : Nat) : StE n m ys rs true x y ↔ OpenA n m ys rs y x := by
  unfold StE OpenA dirU dirV
  simp only [if_true]
  exact ⟨fun ⟨a, h1, h2, h3, h4⟩ => ⟨a, h1, h3, h2, h4⟩, fun ⟨a, h1, h2, h3, h4⟩ => ⟨a, h1, h3, h2, h4⟩⟩
theorem stE_false (n m : Nat) (ys : List Ar) (rs : List Int) (x y : Nat) : StE n m ys rs false x y ↔ OpenA n m ys rs x y := by
  unfold StE OpenA dirU dirV
  simp only [Bool.false_eq_true, if_false]
/-- Who has an open arc that leads a step nearer, among the first k. -/
structure Near (n m : Nat) (ys : List Ar) (rs : List Int) (z : Bool) (d : List Nat) (k : Nat) (nr : List Bool) : Prop where
  len : nr.length = n
  at_ : ∀ v, v < n → (nr.getD v false = true ↔ ∃ b, b < k ∧ 0 < rs.getD b 0 ∧ dirU n ys z b = v ∧ d.getD v 0 = d.getD (dirV n ys z b) 0 + 1)
theorem Near.zero (n m : Nat) (ys : List Ar) (rs : List Int) (z : Bool) (d : List Nat) : Near n m ys rs z d 0 (List.replicate n false) :=
  ⟨by simp, fun v hv => by simp [hv]⟩
theorem Near.skip {n m : Nat} {ys : List Ar} {rs : List Int} {z : Bool} {d : List Nat} {k : Nat} {nr : List Bool} (h : Near n m ys rs z d k nr) (hr : ¬ 0 < rs.getD k 0) : Near n m ys rs z d (k + 1) nr := by
  refine ⟨h.len, fun v hv => (h.at_ v hv).trans ⟨fun ⟨b, h1, h2⟩ => ⟨b, by omega, h2⟩, fun ⟨b, h1, h2, h3⟩ => ?_⟩⟩
  by_cases e : b = k
  · subst e; exact absurd h2 hr
  · exact ⟨b, by omega, h2, h3⟩
theorem Near.step {n m : Nat} {ys : List Ar} {rs : List Int} {z : Bool} {d : List Nat} {k : Nat} {nr : List Bool} (h : Near n m ys rs z d k nr) (hr : 0 < rs.getD k 0) {u : Nat} (hu : dirU n ys z k = u) (hun : u < n) {x : Bool} (hx : x = (nr.getD u false || decide (d.getD u 0 = d.getD (dirV n ys z k) 0 + 1))) : Near n m ys rs z d (k + 1) (nr.set u x) := by
  refine ⟨by rw [List.length_set]; exact h.len, fun v hv => ?_⟩
  rw [List.getD_eq_getElem?_getD, List.getElem?_set]
  by_cases e : u = v
  · subst e
    rw [if_pos rfl, if_pos (by rw [h.len]; exact hun)]
    simp only [Option.getD_some, hx, Bool.or_eq_true, decide_eq_true_eq]
    rw [h.at_ u hv]
    constructor
    · rintro (⟨b, h1, h2⟩ | h1)
      · exact ⟨b, by omega, h2⟩
      · exact ⟨k, by omega, hr, hu, h1⟩
    · rintro ⟨b, h1, h2, h3, h4⟩
      by_cases e : b = k
      · subst e; exact .inr h4
      · exact .inl ⟨b, by omega, h2, h3, h4⟩
  · rw [if_neg e, ← List.getD_eq_getElem?_getD, h.at_ v hv]
    constructor
    · rintro ⟨b, h1, h2⟩; exact ⟨b, by omega, h2⟩
    · rintro ⟨b, h1, h2, h3, h4⟩
      by_cases e2 : b = k
      · subst e2; exact absurd (hu.symm.trans h3) e
      · exact ⟨b, by omega, h2, h3, h4⟩
set_option maxRecDepth 100000 in
set_option maxHeartbeats 4000000 in
theorem distSteps_core (N0 S0 T0 : Int) (a : Option Addr) (k0 cap : Nat) (ys0 : List Ar) (la : Option Addr) (lc : Nat) (ls : List Int) (at0 : Int) (w : World)
    (h : Ars w a ys0) (hk0 : ys0.length = k0) (hle : k0 ≤ cap) (hmost : cap ≤ 9223372036854775807) (hwf : ∀ x ∈ ys0, -9223372036854775808 ≤ x.c ∧ x.c ≤ 9223372036854775807)
    (hl : Rd w la (lv ls)) (hli : ∀ x ∈ ls, -9223372036854775808 ≤ x ∧ x ≤ 9223372036854775807) (hll : ls.length ≤ 9223372036854775807)
    (ha0 : 0 ≤ at0) (ha1 : at0 ≤ 255) :
    Calls Try.prog 7 #[.agg #[.int .i64 N0, .int .i64 S0, .int .i64 T0, .slice a k0 cap], .slice la ls.length lc, .int .u8 at0] w fun e w' => e = .returned (.bool true) ∧ Kept w w' := by
  have HS : ∀ (w : World), Ars w a ys0 → Hid (Calls Try.prog 10 #[.agg #[.int .i64 N0, .int .i64 S0, .int .i64 T0, .slice a k0 cap], .int .i64 16, .int .i64 40] w (NetIs w)) := by
    intro w h
    subst hk0
    exact Lib.hid (Some_any N0 S0 T0 a cap ys0 w h hle hmost hwf)
  have HX := Lib.hid (h.kept ((Upd.refl (fun _ => False) w).alloc (.cells #[.int .i64 N0, .int .i64 S0, .int .i64 T0, .slice a k0 cap] 24)))
  have HK := Lib.hid ((Upd.refl (fun _ => False) w).alloc (.cells #[.int .i64 N0, .int .i64 S0, .int .i64 T0, .slice a k0 cap] 24))
  have HL := Lib.hid hl
  have HLI := Lib.hid hli
  clear h hl hli hle hmost hwf
  go_enter Try.func7, Try.ntmps7
  go_wp2_with fail
  refine (HS _ HX.out).out.mono ?_
  rintro e w1 ⟨N, S, T, a', cap', ys, rfl, hok, hown, hk1⟩
  have HOK := Lib.hid hok
  have hnw := (Blk.new w #[.int .i64 N0, .int .i64 S0, .int .i64 T0, .slice a k0 cap] 24).kept hk1
  obtain ⟨w3, hw3, hB3, hU3⟩ := hnw.put4 (.int .i64 N) (.int .i64 S) (.int .i64 T) (.slice a' ys.length cap')
  have hne : ∀ g, a' = some ⟨g, 0, none⟩ → ¬ g = w.heap.size := fun g e => own_ne hown hnw (by simp) _ e
  have HK1 : Hid (Kept w w3) := Lib.hid ((HK.out.trans hk1).then hU3 (fun i hi e => by omega))
  have HA : Hid (Ars w3 a' ys) := Lib.hid (hown.far hU3 hne).at.2
  have HNB := Lib.hid hB3
  have hcb := hnw.cell
  have hfb := hnw.free
  have HLE := fun (w : World) (h : Ars w a' ys) (hl : Rd w la (lv ls)) => Lib.hid (Left_ok N S T a' cap' ys la lc ls w h HOK.out hl HLI.out hll)
  clear hk1 hok hown HS HX HK hnw hB3 hU3 hne
  go_upto_region 2 with (fail)
  rw [← hw3]
  clear hcb hfb hw3
  have bn := HNB.out.cell
  go_wp2_with fail
  refine (HLE _ HA.out (HL.out.kept HK1.out)).out.mono ?_
  rintro e w2 ⟨B, n, m, a3, c3, a4, c4, a5, c5, a6, c6, a7, c7, a8, c8, ra, rc, rfl, hn, hm2, hcr, -, hk2, -, hro⟩
  clear bn HNB
  have HG : Hid (Gr N S T n m ys) := Lib.hid ⟨HOK.out, hn, hm2⟩
  obtain ⟨rs, hrs⟩ : ∃ rs, resAll (wths ls ys) n ys = rs := ⟨_, rfl⟩
  have HRM : Hid (rs.length = m) := Lib.hid (by rw [← hrs, resAll_len]; exact hm2)
  have HRI : Hid (∀ x ∈ rs, 0 ≤ x ∧ x < 1125899906842624) := Lib.hid (by rw [← hrs]; exact left_in HG.out HLI.out)
  rw [hrs] at hro
  have HRC : Hid (m ≤ rc) := Lib.hid (row_cap' hro)
  have HSO : Hid ((∃ ad, ra = some ad) ∨ (ra = none ∧ m = 0 ∧ rc = 0)) := Lib.hid (someOr_row hro)
  obtain ⟨ra', rc', e9, hrr⟩ := Rd.owns hro
  cases e9
  have hA := (Upd.refl (fun _ => False) w2).alloc (.cells #[.int .i64 N, .int .i64 S, .int .i64 T, .slice a3 (n + 1) c3, .slice a4 m c4, .slice a5 m c5, .slice a6 m c6, .slice a7 m c7, .slice a8 m c8] 29)
  have HK0 := Lib.hid ((HK1.out.trans hk2).trans hA)
  have HGF : Hid (GF N S T n m a3 a4 a5 a6 a7 a8 c3 c4 c5 c6 c7 c8 ys w2.heap.size ra rs (w2.alloc (.cells #[.int .i64 N, .int .i64 S, .int .i64 T, .slice a3 (n + 1) c3, .slice a4 m c4, .slice a5 m c5, .slice a6 m c6, .slice a7 m c7, .slice a8 m c8] 29))) := Lib.hid ⟨Blk.new _ _ _, hcr.kept hA, hrr.kept hA⟩
  clear hn hm2 hcr hk2 hro hrr hrs hA HLE HA HOK HK1 HL HLI hll
  clear hk0
  go_upto_region 3 with (fail)
  generalize (w2.alloc (.cells #[.int .i64 N, .int .i64 S, .int .i64 T, .slice a3 (n + 1) c3, .slice a4 m c4, .slice a5 m c5, .slice a6 m c6, .slice a7 m c7, .slice a8 m c8] 29)) = wB at HGF HK0 ⊢
  generalize w2.heap.size = cb at HGF ⊢
  have HK1 : Hid (Kept wB wB) := Lib.hid (Upd.refl _ _)
  obtain ⟨hnN, hn2, hn16, hm6, -⟩ := HG.out.len
  subst hnN
  obtain ⟨t, ht⟩ : ∃ t : Nat, at0 % (n : Int) = (t : Int) := ⟨(at0 % n).toNat, by have := Int.emod_nonneg at0 (show (n : Int) ≠ 0 by omega); omega⟩
  have htn : t < n := by have := Int.emod_lt_of_pos at0 (show (0 : Int) < n by omega); omega
  have htm : at0.tmod (n : Int) = (t : Int) := by rw [Int.tmod_eq_emod_of_nonneg ha0]; exact ht
  have hn0 : ¬ (n : Int) = 0 := by omega
  have hnb : ((n : Int) == 0) = false := by simpa using hn0
  have hn4 : ¬ n = 0 := by omega
  have hwa : IntKind.i64.wrap at0 = at0 := by rw [IntKind.wrap_i64]; omega
  have hwt : IntKind.i64.wrap (t : Int) = (t : Int) := by rw [IntKind.wrap_i64]; omega
  have bx := HGF.out.box.cell
  have HTB := Lib.hid (Blk.new wB #[.bool true, .bool false] 4)
  have HKT := Lib.hid ((Upd.refl (fun _ => False) wB).alloc (.cells #[.bool true, .bool false] 4))
  go_upto_region 5 with (fail)
  generalize (wB.alloc (.cells #[.bool true, .bool false] 4)) = wT at HTB HKT ⊢
  generalize wB.heap.size = tb at HTB ⊢
  clear htm hn0 hnb hn4 hwa hwt ht ha0 ha1 bx
  have TT := fun (w : World) (k : Kept wT w) => Lib.hid (to_ok (n : Int) S T n m a3 a4 a5 a6 a7 a8 c3 c4 c5 c6 c7 c8 ys ra rc rs t w HG.out (HGF.out.kept (HKT.out.trans k)).cr (HGF.out.kept (HKT.out.trans k)).rs HRM.out htn)
  have TF := fun (w : World) (k : Kept wT w) => Lib.hid (from_ok (n : Int) S T n m a3 a4 a5 a6 a7 a8 c3 c4 c5 c6 c7 c8 ys ra rc rs t w HG.out (HGF.out.kept (HKT.out.trans k)).cr (HGF.out.kept (HKT.out.trans k)).rs HRM.out htn)
  go_loopw [35] (fun ix wr => ∃ (i : Nat), ix = .int .i64 i ∧ i ≤ 2 ∧ Hid (Kept wT wr)) (fun ix _ => 2 - (intOf ix).toNat)
  case atStart => exact ⟨0, rfl, by omega, Lib.hid (Upd.refl _ _)⟩
  case round =>
    obtain ⟨i, rfl, hi, HK⟩ := hrel
    obtain ⟨wo, rfl⟩ : ∃ wo : World, wo = wr := ⟨_, rfl⟩
    by_cases hlt : i < 2
    · obtain ⟨z, hzc⟩ : ∃ z, wo.cell? ⟨tb, i, none⟩ = some (.bool z) := by
        rw [(HTB.out.kept HK.out).cell]
        obtain rfl | rfl : i = 0 ∨ i = 1 := by omega
        · exact ⟨true, rfl⟩
        · exact ⟨false, rfl⟩
      have j0 : (i : Int) < 2 := by omega
      have j1 : (0 : Int) ≤ (i : Int) := by omega
      have bx := (HGF.out.kept (HKT.out.trans HK.out)).box.cell
      go_upto_region 7 with (fail)
      clear hzc
      have FROM := (TF _ HK.out).out
      go_wp2_with fail
      refine FROM.mono ?_
      rintro e w3 ⟨db, d, rfl, hb, -, hd, hk'⟩
      have K3 := Lib.hid (HK.out.trans hk')
      have BF3 := Lib.hid hb
      have IF3 := Lib.hid hd
      clear hb hd hk' FROM bx
      go_upto_if 43 with (fail)
      go_cut [12] from 44 to 47 (fun x wx => ∃ (db : Nat) (d : List Nat), x = .slice (some ⟨db, 0, none⟩) n n ∧ Hid (Blk wx db (nv d).toArray 3) ∧ Hid (IsD n t (StE n m ys rs z) d) ∧ Hid (Kept wT wx))
      case first =>
        cases z with
        | true =>
          have bx := (HGF.out.kept (HKT.out.trans K3.out)).box.cell
          have TO := (TT _ K3.out).out
          go_wp2_with fail
          refine TO.mono ?_
          rintro e w4 ⟨d2, D2, rfl, hb, -, hd, hk'⟩
          have R := Lib.hid (And.intro hb (And.intro (hd.congr (fun u x _ _ => (stE_true n m ys rs u x).symm)) (K3.out.trans hk')))
          clear hb hd hk' TO bx
          go_wp2_with fail
          go_meet
          case rel => exact ⟨d2, D2, rfl, Lib.hid R.out.1, Lib.hid R.out.2.1, Lib.hid R.out.2.2⟩
        | false =>
          go_wp2_with fail
          go_meet
          case rel => exact ⟨db, d, rfl, BF3, Lib.hid (IF3.out.congr (fun u x _ _ => (stE_false n m ys rs u x).symm)), K3⟩
      case rest =>
        clear BF3 IF3 K3 HK
        obtain ⟨db, d, rfl, BD, ID, K4⟩ := hcut
        obtain ⟨wQ, rfl⟩ : ∃ wQ : World, wQ = wc := ⟨_, rfl⟩
        have HDL : Hid (d.length = n) := Lib.hid ID.out.len
        have HDC : Hid (∀ wr, Kept wQ wr → ∀ v, v < n → wr.cell? ⟨db, v, none⟩ = some (.int .i64 (d.getD v 0 : Nat))) := Lib.hid (fun wr hu v hv => by rw [(BD.out.kept hu).cell]; simp only [List.getElem?_toArray]; exact nv_get (by rw [HDL.out]; exact hv))
        have hnn : ((n : Int) != (n : Int)) = false := by simp
        have dct := HDC.out wQ (Upd.refl _ _) t htn
        rw [ID.out.src] at dct
        have a1 : (0 : Int) ≤ (t : Int) := by omega
        have a2 : (t : Int) < (n : Int) := by omega
        have bx := (HGF.out.kept (HKT.out.trans K4.out)).box.cell
        have hmk := fun w => make_one (P := Try.prog) (t := 26) (e := 4) (z := .bool false) (v := .bool false) (bytes := 1) Try.underlying26 (by kernel_rfl) rfl .i64 n (by omega) (by omega) w
        have HNB := Lib.hid (Blk.new wQ (zeros n (.bool false)) 4)
        have HKN := Lib.hid ((Upd.refl (fun _ => False) wQ).alloc (.cells (zeros n (.bool false)) 4))
        go_upto_region 14 with (fail)
        clear hmk dct bx
        have HNR : Hid (Blk (wQ.alloc (.cells (zeros n (.bool false)) 4)) wQ.heap.size ((List.replicate n false).map Value.bool).toArray 4) := Lib.hid (by rw [← zeros_bools]; exact HNB.out)
        generalize (wQ.alloc (.cells (zeros n (.bool false)) 4)) = w5 at HKN HNR ⊢
        generalize hnb0 : wQ.heap.size = nb at HNR ⊢
        have HNBB : Hid (wQ.heap.size ≤ nb) := Lib.hid (by omega)
        clear hnb0 HNB
        have HNE : Hid (Near n m ys rs z d 0 (List.replicate n false)) := Lib.hid (Near.zero n m ys rs z d)
        clear TT TF
        go_loopw [65] (fun ix wr => ∃ (a : Nat) (nr : List Bool), ix = .int .i64 a ∧ a ≤ m ∧ Hid (Kept wQ wr) ∧ Hid (Blk wr nb (nr.map Value.bool).toArray 4) ∧ Hid (Near n m ys rs z d a nr)) (fun ix _ => m - (intOf ix).toNat)
        case atStart => exact ⟨0, _, rfl, by omega, HKN, HNR, HNE⟩
        case round =>
          clear HKN HNR HNE
          obtain ⟨a, nr, rfl, ha, HK, HB, HNE⟩ := hrel
          by_cases ham : a < m
          · obtain ⟨u0, hu0⟩ : ∃ u, tl ys n a = u := ⟨_, rfl⟩
            obtain ⟨v0, hv0⟩ : ∃ v, hd n ys a = v := ⟨_, rfl⟩
            have u0n : u0 < n := by rw [← hu0]; exact (tl_at ys a n (by have := HG.out.hm; unfold fst; omega)).1
            have v0n : v0 < n := by rw [← hv0]; exact (hd_get HG.out a ham).2
            have HTA := fun (w : World) (k : Kept wB w) => Lib.hid (tail_any (n : Int) S T n m a3 a4 a5 a6 a7 a8 c3 c4 c5 c6 c7 c8 ys a w HG.out (HGF.out.kept k).cr.r3 ham)
            rw [hu0] at HTA
            have bx := (HGF.out.kept (HKT.out.trans (K4.out.trans HK.out))).box.cell
            have i1 : (0 : Int) ≤ (a : Int) := by omega
            have i2 : (a : Int) < (m : Int) := by omega
            have i3 : (a : Int) ≤ 1000 := by omega
            go_wp2_with fail
            refine (HTA _ (HKT.out.trans (K4.out.trans HK.out))).out.mono ?_
            rintro e w6 ⟨rfl, hk6⟩
            have K6 := Lib.hid (HK.out.trans hk6)
            have HB6 := Lib.hid (HB.out.kept hk6)
            clear hk6 HTA bx HK HB
            have bx := (HGF.out.kept (HKT.out.trans (K4.out.trans K6.out))).box.cell
            obtain ⟨b6, o6, rfl, rc0⟩ := (HGF.out.kept (HKT.out.trans (K4.out.trans K6.out))).rs.num (i := a) (by rw [HRM.out]; exact ham)
            obtain ⟨b4, o4, rfl, hc4⟩ := (HGF.out.kept (HKT.out.trans (K4.out.trans K6.out))).cr.r4.at a (by rw [show (hv (enAll n ys)).length = (enAll n ys).length by simp [hv], HG.out.hm]; exact ham)
            rw [(hd_get HG.out a ham).1, hv0] at hc4
            obtain ⟨r, hr⟩ : ∃ r, rs.getD a 0 = r := ⟨_, rfl⟩
            rw [hr] at rc0
            have HR := Lib.hid hr
            have HTV := Lib.hid (And.intro hu0 hv0)
            clear hu0 hv0 hr
            obtain ⟨U, hU⟩ : ∃ U, dirU n ys z a = U := ⟨_, rfl⟩
            obtain ⟨V, hV⟩ : ∃ V, dirV n ys z a = V := ⟨_, rfl⟩
            have UV : (z = true → U = u0 ∧ V = v0) ∧ (z = false → U = v0 ∧ V = u0) := by
              rw [← hU, ← hV]
              unfold dirU dirV
              rw [HTV.out.1, HTV.out.2]
              exact ⟨fun h => by simp [h], fun h => by simp [h]⟩
            have hUn : U < n := by cases z <;> simp at UV <;> omega
            have hVn : V < n := by cases z <;> simp at UV <;> omega
            have HU := Lib.hid hU
            have HV := Lib.hid hV
            clear hU hV
            have HUV := Lib.hid UV
            clear UV
            go_upto_if 82 with (fail)
            go_cut [15, 17] from 83 to 84 (fun x y wx => x = .int .i64 U ∧ y = .int .i64 V ∧ wx = w6)
            case first =>
              cases z with
              | true =>
                go_wp2_with fail
                go_meet
                case rel => exact ⟨by rw [(HUV.out.1 (by simp)).1], by rw [(HUV.out.1 (by simp)).2], rfl⟩
              | false =>
                go_wp2_with fail
                go_meet
                case rel => exact ⟨by rw [(HUV.out.2 (by simp)).1], by rw [(HUV.out.2 (by simp)).2], rfl⟩
            case rest =>
              obtain ⟨rfl, rfl, hwe⟩ := hcut
              rw [hwe]
              clear hwe hc4 HUV bx
              by_cases hr0 : 0 < r
              · have z1 : decide (0 < r) = true := by simpa using hr0
                obtain ⟨du, hdu⟩ : ∃ y, d.getD U 0 = y := ⟨_, rfl⟩
                obtain ⟨dv, hdv⟩ : ∃ y, d.getD V 0 = y := ⟨_, rfl⟩
                have hst : d.getD U 0 ≤ d.getD V 0 + 1 := ID.out.step V U hVn hUn ⟨a, ham, HV.out, HU.out, by rw [HR.out]; exact hr0⟩
                have hdn : dv ≤ n := by rw [← hdv]; exact ID.out.le V hVn
                have du1 := HDC.out w6 K6.out U hUn
                have dv1 := HDC.out w6 K6.out V hVn
                rw [hdu] at hst du1
                rw [hdv] at hst dv1
                have HDU := Lib.hid hdu
                have HDV := Lib.hid hdv
                have hd16 : dv ≤ 1000 := Nat.le_trans hdn (Nat.le_trans hn16 (by decide))
                have c1 : ¬ dv + 1 < du := by omega
                have c1' : decide (dv + 1 < du) = false := decide_eq_false c1
                have c2 : decide (((dv + 1 : Nat) : Int) < (du : Int)) = false := by simp; omega
                have c3 : decide ((dv : Int) + 1 < (du : Int)) = false := by simp; omega
                have c4 : ¬ (dv : Int) + 1 < (du : Int) := by omega
                have b0 : (0 : Int) ≤ (U : Int) := by omega
                have b1 : (U : Int) < (n : Int) := by omega
                have b2 : (0 : Int) ≤ (V : Int) := by omega
                have b3 : (V : Int) < (n : Int) := by omega
                have hwu := wrap_up dv hd16
                have hwu' := wrap_up' dv hd16
                clear hdu hdv hdn
                have HST := Lib.hid hst
                clear hst
                go_upto_region 23 with (fail)
                refine wp_region_kept (by kernel_rfl) (by kernel_rfl) ?_
                repeat (go_big_quiet_step (fail))
                refine wpQuiet_nil ?_
                intro w7 hk7
                have K7 := Lib.hid (K6.out.trans hk7)
                have HB7 := Lib.hid (HB6.out.kept hk7)
                clear hk7 du1 dv1 rc0
                have du1 := HDC.out w7 K7.out U hUn
                have dv1 := HDC.out w7 K7.out V hVn
                rw [HDU.out] at du1
                rw [HDV.out] at dv1
                obtain ⟨e, he⟩ : ∃ e, decide (du = dv + 1) = e := ⟨_, rfl⟩
                have e1 : ((du : Int) == ((dv + 1 : Nat) : Int)) = e := (beq_up du dv).1.trans he
                have e2 : (du == dv + 1) = e := (beq_up du dv).2.trans he
                have e3 : ((du : Int) == (dv : Int) + 1) = e := (beq_up du dv).1.trans he
                obtain ⟨bb, hbb⟩ : ∃ b, nr.getD U false = b := ⟨_, rfl⟩
                have hbc : (nr.map Value.bool).toArray[U]? = some (.bool bb) := by
                  have hl := HNE.out.len
                  rw [← hbb]
                  simp [show U < nr.length by omega]
                have bc := HB7.out.cell U
                rw [hbc] at bc
                have HBB := Lib.hid hbb
                have HE := Lib.hid he
                clear hbb he
                cases bb with
                | true =>
                  have HB9 : Hid (Blk (w7.drew.setCell ⟨nb, U, none⟩ (.bool true)) nb ((nr.set U true).map Value.bool).toArray 4) := Lib.hid (nb_set HB7.out.drew U true)
                  have HK9 : Hid (Kept wQ (w7.drew.setCell ⟨nb, U, none⟩ (.bool true))) := Lib.hid (Kept.set K7.out.drew HNBB.out _)
                  have HN9 : Hid (Near n m ys rs z d (a + 1) (nr.set U true)) := Lib.hid (HNE.out.step (by rw [HR.out]; exact hr0) HU.out hUn (by rw [HBB.out]; rfl))
                  have sc := HB7.out.drew.cell U
                  rw [hbc] at sc
                  have sf := HB7.out.drew.free U
                  go_upto_region 25 with (fail)
                  refine wp_region_quiet_tail 19 (by kernel_rfl) (by kernel_rfl) ?_
                  simp only [List.take_succ_cons, List.take_zero, List.drop_succ_cons, List.drop_zero]
                  repeat (go_big_quiet_step (fail))
                  refine wpQuiet_nil ?_
                  go_wp2_with fail
                  go_roundw
                  case rel => exact ⟨a + 1, _, by go_num, by omega, HK9, HB9, HN9⟩
                  case measure => simp [intOf]; omega
                | false =>
                  have HB9 : Hid (Blk (w7.drew.setCell ⟨nb, U, none⟩ (.bool e)) nb ((nr.set U e).map Value.bool).toArray 4) := Lib.hid (nb_set HB7.out.drew U e)
                  have HK9 : Hid (Kept wQ (w7.drew.setCell ⟨nb, U, none⟩ (.bool e))) := Lib.hid (Kept.set K7.out.drew HNBB.out _)
                  have HN9 : Hid (Near n m ys rs z d (a + 1) (nr.set U e)) := Lib.hid (HNE.out.step (by rw [HR.out]; exact hr0) HU.out hUn (by rw [HV.out, HBB.out, HDU.out, HDV.out, ← HE.out]; rfl))
                  have sc := HB7.out.drew.cell U
                  rw [hbc] at sc
                  have sf := HB7.out.drew.free U
                  go_upto_region 25 with (fail)
                  refine wp_region_quiet_tail 19 (by kernel_rfl) (by kernel_rfl) ?_
                  simp only [List.take_succ_cons, List.take_zero, List.drop_succ_cons, List.drop_zero]
                  repeat (go_big_quiet_step (fail))
                  refine wpQuiet_nil ?_
                  go_wp2_with fail
                  go_roundw
                  case rel => exact ⟨a + 1, _, by go_num, by omega, HK9, HB9, HN9⟩
                  case measure => simp [intOf]; omega
              · have z1 : decide (0 < r) = false := by simpa using hr0
                have HN9 : Hid (Near n m ys rs z d (a + 1) nr) := Lib.hid (HNE.out.skip (by rw [HR.out]; exact hr0))
                go_wp2_with fail
                go_roundw
                case rel => exact ⟨a + 1, nr, by go_num, by omega, K6, HB6, HN9⟩
                case measure => simp [intOf]; omega
          · have i2 : ¬ (a : Int) < (m : Int) := by omega
            have HNM : Hid (Near n m ys rs z d m nr) := Lib.hid (by have := HNE.out; rwa [show a = m by omega] at this)
            clear HNE
            have HKA := HK
            have HBA := HB
            clear HK HB
            obtain ⟨wA, rfl⟩ : ∃ wA : World, wA = wr := ⟨_, rfl⟩
            go_upto_region 28 with (fail)
            go_loopw [122] (fun ix wr => ∃ (v : Nat), ix = .int .i64 v ∧ v ≤ n ∧ Hid (Kept wA wr)) (fun ix _ => n - (intOf ix).toNat)
            case atStart => exact ⟨0, rfl, by omega, Lib.hid (Upd.refl _ _)⟩
            case round =>
              obtain ⟨v, rfl, hvn, HK⟩ := hrel
              by_cases hv : v < n
              · obtain ⟨k, hk⟩ : ∃ k, d.getD v 0 = k := ⟨_, rfl⟩
                have hkn : k ≤ n := by rw [← hk]; exact ID.out.le v hv
                have dc := HDC.out wr (HKA.out.trans HK.out) v hv
                rw [hk] at dc
                have bx := (HGF.out.kept (HKT.out.trans (K4.out.trans (HKA.out.trans HK.out)))).box.cell
                have j0 : (v : Int) < (n : Int) := by omega
                have j1 : (0 : Int) ≤ (v : Int) := by omega
                have j2 : decide ((k : Int) < 0) = false := by simp
                have j3 : decide ((n : Int) < (k : Int)) = false := by simp; omega
                have j4 : decide (n < k) = false := by simp; omega
                by_cases hvt : v = t
                · have hk0 : k = 0 := by rw [← hk, hvt]; exact ID.out.src
                  subst hvt
                  subst hk0
                  have q2 : ((v : Int) == (v : Int)) = true := by simp
                  have HKZ := HK
                  clear hk hkn
                  go_wp2_with fail
                  go_roundw
                  case rel => exact ⟨v + 1, by go_num, by omega, HKZ⟩
                  case measure => simp [intOf]; omega
                · have q2 : ((v : Int) == (t : Int)) = false := by simp; omega
                  have q2' : (v == t) = false := by simpa using hvt
                  have hk0 : 0 < k := by
                    rcases Nat.eq_zero_or_pos k with e | e
                    · exfalso
                      obtain ⟨x, hx, -, h⟩ := ID.out.par v hv hvt (by omega)
                      omega
                    · exact e
                  have q3 : ((k : Int) == 0) = false := by simp; omega
                  have q3' : (k == 0) = false := by simp; omega
                  have q4 : decide ((0 : Int) < (k : Int)) = true := by simp; omega
                  have q4' : decide (0 < k) = true := by simp; omega
                  by_cases hkl : k < n
                  · have q5 : decide ((k : Int) < (n : Int)) = true := by simp; omega
                    have q5' : decide (k < n) = true := by simp; omega
                    have hnr : nr.getD v false = true := by
                      obtain ⟨x, hx, ⟨b, hb, h1, h2, h3⟩, h⟩ := ID.out.par v hv hvt (by omega)
                      exact (HNM.out.at_ v hv).2 ⟨b, hb, h3, h2, by rw [h1]; exact h⟩
                    have hbc : (nr.map Value.bool).toArray[v]? = some (.bool true) := by
                      have hl := HNM.out.len
                      rw [← hnr]
                      simp [show v < nr.length by omega]
                    have bc := (HBA.out.kept HK.out).cell v
                    rw [hbc] at bc
                    have HKZ := HK
                    clear hk hkn hnr hbc
                    go_wp2_with fail
                    go_roundw
                    case rel => exact ⟨v + 1, by go_num, by omega, HKZ⟩
                    case measure => simp [intOf]; omega
                  · have q5 : decide ((k : Int) < (n : Int)) = false := by simp; omega
                    have q5' : decide (k < n) = false := by simp; omega
                    have HKZ := HK
                    clear hk hkn
                    go_wp2_with fail
                    go_roundw
                    case rel => exact ⟨v + 1, by go_num, by omega, HKZ⟩
                    case measure => simp [intOf]; omega
              · have j0 : ¬ (v : Int) < (n : Int) := by omega
                have HKZ := Lib.hid (K4.out.trans (HKA.out.trans HK.out))
                go_wp2_with fail
                go_roundw
                case rel => exact ⟨i + 1, by go_num, by omega, HKZ⟩
                case measure => simp [intOf]; omega
    · have j0 : ¬ (i : Int) < 2 := by omega
      have HAW := fun (w : World) => Lib.hid (awake5_any w)
      go_wp2_with fail
      refine (HAW _).out.mono ?_
      rintro e w9 ⟨rfl, hk9⟩
      go_wp2_with fail
      go_ret
      exact ⟨rfl, HK0.out.trans (HKT.out.trans (HK.out.trans hk9))⟩
theorem distSteps_walk (N S T : Int) (a : Option Addr) (cap : Nat) (els : List (List Value)) (s1 : Option Addr) (cap1 : Nat) (z1 : List Int) (at0 : Int) (w : World) (_wN : (Lit.int .i64 N).wf = true) (_wS : (Lit.int .i64 S).wf = true) (_wT : (Lit.int .i64 T).wf = true) (hrow : FlatRow [some .i64, some .i64, some .i64] w a cap els) (_hf : ∀ x ∈ els, fits [some .i64, some .i64, some .i64] x)
    (w1 : IntRow .i64 w s1 cap1 z1) (m1 : ∀ n ∈ z1, (Lit.int .i64 n).wf = true) (wa : (Lit.int .u8 at0).wf = true) :
    Calls Try.prog 7 #[.agg #[.int .i64 N, .int .i64 S, .int .i64 T, .slice a els.length cap], .slice s1 z1.length cap1, .int .u8 at0] w fun e w' => e = .returned (.bool true) ∧ Kept w w' := by
  obtain ⟨xs, hl, hA, hx⟩ := ars_of_flat hrow
  have hle := hrow.le
  have hmo := hrow.most
  have l1 := w1.le
  have l1' := w1.most
  unfold maxLen at hmo l1'
  exact distSteps_core N S T a els.length cap xs s1 cap1 z1 at0 w hA hl hle hmo (fun x hx0 => bounds_i64 (hx x hx0).2.2) w1.rd (fun x hx0 => bounds_i64 (m1 x hx0)) (by omega) (bounds_u8 wa).1 (bounds_u8 wa).2
end Go.Proofs.Ytoapekkmaajfmaa
