/- The law SchedRounds. -/
import Derived.Test.YtacacnjpfflbnaaMet
import Derived.Deep.CutRange
namespace Go.Proofs.Ytacacnjpfflbnaa
set_option linter.unusedVariables false
open Go.RowKit Go.Maps

theorem Next_somR {w : World} {bd : Nat → Prop} {sb tb : Nat} {s : SS} (hS : Sc w bd sb tb s) (hbd : ∀ k, bd k → k < w.heap.size) (a : Option Addr) (c m : Nat) (dl : List Bool) (hm : dl.length = m) (hd : Rd w a (dl.map Value.bool))
    (hda : ∀ b off, a = some ⟨b, off, none⟩ → dl.map Value.bool ≠ [] → ¬ (b = sb ∨ b = tb)) (he : s.ended < 4611686018427387904) (v : Nat) (hv : s.who dl = some v) (t : SS) (ht : s.step dl = t) :
    Calls Try.prog 10 #[.pointer (some ⟨sb, 0, none⟩), .slice a m c] w fun e w' => e = .returned (.tuple #[.int .i64 (v : Int), .bool true]) ∧ Sc w' bd sb tb t ∧ Upd (fun k => k = sb ∨ k = tb) w w' := by subst hm; exact Next_some hS hbd a c dl hd hda he v hv t ht

theorem grown_upd {w w' : World} {b : Nat} (h : w.grownBy w' (some b)) : Upd (fun k => k = b) w w' :=
  Upd.grown (Upd.refl _ _) h (fun j hj => .inl (by cases hj; rfl))
/-- What the law's first loop holds. -/
structure RW (w w2 : World) (D : Nat → Prop) (sa ta b m n : Nat) (wr : World) (s : SS) : Prop where
  up : w2.heap.size ≤ wr.heap.size
  sc : Sc wr D sa ta s
  met : Met wr b m s.told
  kp : Kept w wr
  nl : s.told.length = n
  ne : ¬ b = sa ∧ ¬ b = ta
  old : w.heap.size ≤ b
  bnew : w2.heap.size ≤ b

set_option maxRecDepth 100000 in
set_option maxHeartbeats 4000000 in
theorem schedRounds_walk (a0 : Int) (s1 : Option Addr) (cap1 : Nat) (z1 : List Int) (a2 : Int) (w : World) (w0 : (Lit.int .u8 a0).wf = true) (w1 : IntRow .i64 w s1 cap1 z1) (_m1 : ∀ n ∈ z1, (Lit.int .i64 n).wf = true) (w2 : (Lit.int .u16 a2).wf = true) :
    Calls Try.prog 6 #[.int .u8 a0, .slice s1 z1.length cap1, .int .u16 a2] w fun e w' => e = .returned (.bool true) ∧ Kept w w' := by
  have b0 := bounds_u8 w0
  have hmm := @run_makeMap Try.prog
  have b2 : 0 ≤ a2 := (bounds_u16 w2).1
  obtain ⟨M, hM⟩ := Int.eq_ofNat_of_zero_le (show 0 ≤ a2 % 301 by omega)
  have hM1 : M ≤ 300 := by omega
  obtain ⟨N, hN⟩ := Int.eq_ofNat_of_zero_le (show 0 ≤ 1 + a0 % 64 by omega)
  have hN1 : 1 ≤ N := by omega
  have hN2 : N ≤ 64 := by omega
  obtain ⟨K, hK⟩ : ∃ K, K = min z1.length 100 := ⟨_, rfl⟩
  have hK1 : K ≤ z1.length := by omega
  have hK2 : K ≤ 100 := by omega
  have hle := w1.le
  have hmost := w1.most
  have hsl := fun w => run_take (P := Try.prog) Try.underlying22 (size := 1) (by kernel_rfl) s1 z1.length cap1 K (by omega) w
  have hif1 : (if (100 : Int) < (z1.length : Int) then (100 : Int) else (z1.length : Int)) = (K : Int) := by split <;> omega
  have hif2 : (if 100 < z1.length then (100 : Int) else (z1.length : Int)) = (K : Int) := by split <;> omega
  have hmb := fun w => make_one (P := Try.prog) (t := 28) (e := 4) (z := .bool false) (v := .bool false) (bytes := 1) Try.underlying28 (by kernel_rfl) rfl .i64 N (by omega) (by omega) w
  unfold maxLen at hmost
  obtain ⟨P, hP⟩ : ∃ P, z1.take K = P := ⟨_, rfl⟩
  have hPl : P.length = K := by rw [← hP]; simp; omega
  have hrp : Rd w s1 (P.map (Value.int .i64)) := by
    rcases w1.rd with h0 | ⟨b, off, e, hc⟩
    · refine .inl ?_; rw [← hP, List.map_take, h0]; simp
    · refine .inr ⟨b, off, e, fun i u hu => ?_⟩
      rw [← hP, List.map_take, List.getElem?_take] at hu
      split at hu
      · exact hc i u hu
      · cases hu
  have HRP := Lib.hid hrp
  have HPL := Lib.hid hPl
  clear w0 w1 w2 _m1 hrp hP hPl hK
  go_enter Try.func6, Try.ntmps6
  go_wp2_with fail
  refine (New_okN N s1 cap1 K P _ HPL.out hN1 (by omega) HRP.out (by omega)).mono ?_
  rintro e w2 ⟨sa, ta, rfl, hS, ha, hta, hk2⟩
  have l1 := hS.lt
  have HR0 : Hid (RW w w2 (fun k => w.heap.size ≤ k ∧ k < w2.heap.size) sa ta w2.heap.size 0 N (w2.alloc (.map #[] 0)) ⟨P, N - 1, List.replicate N false, 0⟩) := by
    have hk := hk2.size
    exact Lib.hid ⟨((Upd.refl (fun _ => False) w2).alloc _).size, hS.kept ((Upd.refl _ _).alloc _), Met.new w2 N, hk2.alloc _, by simp, by omega, by omega, by omega⟩
  have hs2 := hk2.size
  clear hS hk2 hN
  go_wp2_with fail
  go_loopw [10, 11, 40] (fun mv r x wr => ∃ (k b m : Nat) (s : SS), x = .int .u16 k ∧ k ≤ M ∧ mv = .map (some b) ∧ r = .int .i64 (s.ended : Int) ∧ m ≤ k ∧ s.ended ≤ k ∧ Hid (RW w w2 (fun k => w.heap.size ≤ k ∧ k < w2.heap.size) sa ta b m N wr s)) (fun _ _ x _ => M - (intOf x).toNat)
  case atStart => exact ⟨0, w2.heap.size, 0, _, rfl, by omega, rfl, rfl, by omega, by simp, HR0⟩
  case round =>
    obtain ⟨k, b, m, s, rfl, hk, rfl, rfl, hm, hse, HR⟩ := hrel
    clear HR0
    by_cases hlt : k < M
    · have hltM : (k : Int) < a2 % 301 := by omega
      clear hM
      obtain ⟨v, hv, hvn⟩ := who_nil s (by have := HR.out.nl; omega)
      have HNe := Lib.hid (Next_nil HR.out.sc (fun z hz => by have := HR.out.up; omega) (by omega) v hv (s.step []) rfl)
      have HV := Lib.hid (And.intro hv hvn)
      clear hv hvn
      go_wp2_with fail
      refine HNe.out.mono ?_
      rintro e w3 ⟨rfl, hsc, hU⟩
      obtain ⟨D, hown, hd⟩ := HR.out.met.upd hU (by have := HR.out.ne; omega)
      have HSc := Lib.hid hsc
      have hk3 := Lib.hid (HR.out.kp.then hU (fun i hi e => by omega))
      have hup := Lib.hid (Nat.le_trans HR.out.up hU.size)
      have hd2 := Lib.hid (hd.put (hown.tidy lawI) v (by have := HV.out.2; exact this) (.lit (.int .i64 1)))
      have hsz : Hid (Maps.size (D.put (.int .i64 (v : Int)) (.lit (.int .i64 1))) = (s.told.set v true).count true) := Lib.hid (hd2.out.size)
      have HNE := Lib.hid (And.intro HR.out.ne (And.intro HR.out.old (And.intro HR.out.nl HR.out.bnew)))
      have hvb : v < 64 := by have := HV.out.2; have := HR.out.nl; omega
      clear hsc hU HNe HR hd
      by_cases hall : (s.told.set v true).count true = N
      · have hz : ((Maps.size (D.put (.int .i64 (v : Int)) (.lit (.int .i64 1))) : Int) == (N : Int)) = true := by rw [hsz.out, hall]; simp
        have hst := step_all HV.out.1 (by rw [hall, HNE.out.2.2.1])
        clear hall hsz
        go_wp2_with (first
          | (at_mapUpdate; refine wpList_mapUpdate_own _ rfl _ _ _ 46 rfl 3 3 lawI Try.underlying46 (plainElem (H := Unit) Try.prog 3) b m D rfl hown (by unfold maxLen; omega) _ _ _ rfl rfl (keyOf_int_mk Try.underlying3 (WalkArith.wf_i64 (by omega))) _ [] (plainElem_int Try.underlying3 (by decide)) ?_; intro w4 hown4 hgrow4; have HU := Lib.hid (grown_upd hgrow4); have HM := Lib.hid (show Met w4 b (m + 1) (s.told.set v true) from ⟨_, hown4, hd2.out⟩); have HS4 := Lib.hid (HSc.out.upd HU.out (fun e => HNE.out.1.1 e.symm) (fun e => HNE.out.1.2 e.symm) (fun z hz e => by have := HNE.out.2.2.2; omega)); have HK4 := Lib.hid (hk3.out.then HU.out (fun i hi e => by have := HNE.out.2.1; omega)); have HP4 := Lib.hid (Nat.le_trans hup.out HU.out.size))
          | (at_len; refine wpList_len_own _ rfl _ 46 rfl 3 3 Try.underlying46 (plainElem (H := Unit) Try.prog 3) b _ _ rfl hown4 ?_)
          | fail)
        have HR6 : Hid (RW w w2 (fun k => w.heap.size ≤ k ∧ k < w2.heap.size) sa ta w4.heap.size 0 N (w4.alloc (.map #[] 0)) (s.step [])) := by
          have h1 := HNE.out
          have h2 := HP4.out
          exact Lib.hid ⟨Nat.le_trans h2 ((Upd.refl (fun _ => False) w4).alloc _).size, HS4.out.kept ((Upd.refl _ _).alloc _), by rw [hst.1, h1.2.2.1]; exact Met.new w4 N, HK4.out.alloc _, by rw [told_step]; exact h1.2.2.1, by omega, by omega, by omega⟩
        clear hown4 hgrow4 HU HM HS4 HK4 HP4 hown hd2 hk3 hup hz
        have he := hst.2
        have HRo := Lib.hid (Rounds_sc HR6.out.sc ((s.ended : Int) + 1) (by rw [he]; simp))
        clear hst
        obtain ⟨wb, hwb⟩ : ∃ wb : World, w4.alloc (.map #[] 0) = wb := ⟨_, rfl⟩
        obtain ⟨bb, hbb⟩ : ∃ bb, w4.heap.size = bb := ⟨_, rfl⟩
        rw [hwb] at HR6 HRo
        rw [hbb] at HR6
        rw [hwb, hbb]
        refine HRo.out.mono ?_
        rintro e w' ⟨rfl, rfl⟩
        clear HRo hwb hbb HNE HV
        go_wp2_with fail
        go_roundw
        case rel => exact ⟨k + 1, bb, 0, s.step [], by go_num, by omega, rfl, by rw [he]; go_num, by omega, by omega, HR6⟩
        case measure => simp [intOf]; omega
      · have hz : ((Maps.size (D.put (.int .i64 (v : Int)) (.lit (.int .i64 1))) : Int) == (N : Int)) = false := by rw [hsz.out]; simpa using (by omega : ¬ ((s.told.set v true).count true : Int) = (N : Int))
        have hst := step_more HV.out.1 (by rw [HNE.out.2.2.1]; exact hall)
        clear hall hsz
        go_wp2_with (first
          | (at_mapUpdate; refine wpList_mapUpdate_own _ rfl _ _ _ 46 rfl 3 3 lawI Try.underlying46 (plainElem (H := Unit) Try.prog 3) b m D rfl hown (by unfold maxLen; omega) _ _ _ rfl rfl (keyOf_int_mk Try.underlying3 (WalkArith.wf_i64 (by omega))) _ [] (plainElem_int Try.underlying3 (by decide)) ?_; intro w4 hown4 hgrow4; have HU := Lib.hid (grown_upd hgrow4); have HM := Lib.hid (show Met w4 b (m + 1) (s.told.set v true) from ⟨_, hown4, hd2.out⟩); have HS4 := Lib.hid (HSc.out.upd HU.out (fun e => HNE.out.1.1 e.symm) (fun e => HNE.out.1.2 e.symm) (fun z hz e => by have := HNE.out.2.2.2; omega)); have HK4 := Lib.hid (hk3.out.then HU.out (fun i hi e => by have := HNE.out.2.1; omega)); have HP4 := Lib.hid (Nat.le_trans hup.out HU.out.size))
          | (at_len; refine wpList_len_own _ rfl _ 46 rfl 3 3 Try.underlying46 (plainElem (H := Unit) Try.prog 3) b _ _ rfl hown4 ?_)
          | fail)
        have HR6 : Hid (RW w w2 (fun k => w.heap.size ≤ k ∧ k < w2.heap.size) sa ta b (m + 1) N w4 (s.step [])) := by
          have h1 := HNE.out
          have h2 := HP4.out
          exact Lib.hid ⟨h2, HS4.out, by rw [hst.1]; exact HM.out, HK4.out, by rw [told_step]; exact h1.2.2.1, h1.1, h1.2.1, h1.2.2.2⟩
        clear hown4 hgrow4 HU HM HS4 HK4 HP4 hown hd2 hk3 hup hz
        have he := hst.2
        have HRo := Lib.hid (Rounds_sc HR6.out.sc (s.ended : Int) (by rw [he]))
        clear hst
        refine HRo.out.mono ?_
        rintro e w' ⟨rfl, rfl⟩
        clear HRo HNE HV
        go_wp2_with fail
        go_roundw
        case rel => exact ⟨k + 1, b, m + 1, s.step [], by go_num, by omega, rfl, by rw [he], by omega, by omega, HR6⟩
        case measure => simp [intOf]; omega
    · obtain ⟨h, hh⟩ := Int.eq_ofNat_of_zero_le (show 0 ≤ (N : Int) / 2 by omega)
      have hh1 : h < N := by omega
      have hht : (N : Int).tdiv 2 = (h : Int) := by rw [Int.tdiv_eq_ediv_of_nonneg (by omega)]; exact hh
      obtain ⟨wl, rfl⟩ : ∃ wl : World, wl = wr := ⟨_, rfl⟩
      have hltM : ¬ (k : Int) < a2 % 301 := by omega
      clear hlt hM
      go_wp2_with fail
      go_loopw [67] (fun i wr => ∃ j : Nat, i = .int .i64 j ∧ j ≤ N ∧ Hid (Blk wr wl.heap.size (((filled (List.range N) h j).map fun x : Nat => Value.bool ((x : Int) != (h : Int)))).toArray 4) ∧ Hid (Kept wl wr)) (fun i _ => N - (intOf i).toNat)
      case atStart =>
        refine ⟨0, rfl, by omega, Lib.hid ?_, Lib.hid ((Upd.refl _ _).alloc _)⟩
        rw [filled_zero]
        have : (zeros N (.bool false)) = ((List.replicate (List.range N).length h).map fun x : Nat => Value.bool ((x : Int) != (h : Int))).toArray := by simp [zeros]
        rw [← this]
        exact Blk.new _ _ _
      case round =>
        obtain ⟨j, rfl, hj, HF, HKj⟩ := hrel
        by_cases hlt2 : j < N
        · have hfx := HF.out.fill (f := fun x : Nat => Value.bool ((x : Int) != (h : Int))) (k := j) (by simpa using hlt2)
          have q2 := HF.out.filling (f := fun x : Nat => Value.bool ((x : Int) != (h : Int))) (k := j) (by simpa using hlt2)
          have f2 := HF.out.free j
          have e1 : (List.range N)[j]'(by simpa using hlt2) = j := by simp
          rw [e1] at hfx
          have HX := Lib.hid hfx
          have HKz := fun z : Bool => Lib.hid (HKj.out.setCell (p := ⟨wl.heap.size, j, none⟩) (.inr (Nat.le_refl _)) (.bool z))
          obtain ⟨z, hz⟩ : ∃ z, ((j : Int) != (h : Int)) = z := ⟨_, rfl⟩
          simp only [hz] at HX
          clear hfx HF HKj e1
          go_wp2_with fail
          go_roundw
          case rel => exact ⟨j + 1, by go_num, by omega, HX, HKz _⟩
          case measure => simp [intOf]; omega
        · obtain rfl : j = N := by omega
          have hF := HF.out
          rw [show filled (List.range j) h j = List.range j from by have := filled_all (List.range j) h; simpa using this] at hF
          have hrd : Rd wr (some ⟨wl.heap.size, 0, none⟩) ((butOf j h).map Value.bool) := by
            refine Rd.blk (T := 4) ?_
            unfold butOf
            rw [List.map_map]
            exact hF
          have HSc := Lib.hid (HR.out.sc.kept HKj.out)
          have HK := Lib.hid (HR.out.kp.trans HKj.out)
          have HRd := Lib.hid hrd
          have HNl := Lib.hid (And.intro HR.out.nl HR.out.up)
          have hszj := HKj.out.size
          clear hF hrd HF HKj HR hlt2
          have HRo := Lib.hid (Rounds_sc HSc.out (s.ended : Int) rfl)
          go_wp2_with fail
          refine HRo.out.mono ?_
          rintro e w' ⟨rfl, rfl⟩
          clear HRo
          go_wp2_with fail
          obtain ⟨wo, rfl⟩ : ∃ wo : World, wo = wr := ⟨_, rfl⟩
          have hw2l := HNl.out.2
          have hlw := Nat.le_trans HNl.out.2 hszj
          go_loopw [80] (fun x wr => ∃ (i : Nat) (t : SS), x = .int .i64 i ∧ i ≤ 5 ∧ Hid (t.told.length = j ∧ t.ended = s.ended + i) ∧ Hid (Sc wr (fun k => w.heap.size ≤ k ∧ k < w2.heap.size) sa ta t) ∧ Hid (Rd wr (some ⟨wl.heap.size, 0, none⟩) ((butOf j h).map Value.bool)) ∧ Hid (Kept w wr) ∧ Hid (w2.heap.size ≤ wr.heap.size)) (fun x _ => 5 - (intOf x).toNat)
          case atStart => exact ⟨0, s, rfl, by omega, Lib.hid ⟨HNl.out.1, rfl⟩, HSc, HRd, HK, Lib.hid (by omega)⟩
          case round =>
            obtain ⟨i, t, rfl, hi, HT, HS1, HR1, HK1, HU1⟩ := hrel
            clear HSc HRd HK
            by_cases hlt3 : i < 5
            · have HNe := Lib.hid (Next_somR HS1.out (fun z hz => by have := HU1.out; omega) (some ⟨wl.heap.size, 0, none⟩) j j (butOf j h) (butOf_length j h) HR1.out (fun b off e _ f => by cases e; omega) (by have := HT.out.2; omega) h (who_but t j h HT.out.1 hh1) (t.step (butOf j h)) rfl)
              have HT2 : Hid ((t.step (butOf j h)).told.length = j ∧ (t.step (butOf j h)).ended = s.ended + (i + 1)) := Lib.hid ⟨by rw [told_step]; exact HT.out.1, by rw [step_but t j h HT.out.1 hh1, HT.out.2]; omega⟩
              clear HT
              go_wp2_with fail
              refine HNe.out.mono ?_
              rintro e w5 ⟨rfl, hsc, hU⟩
              have HS2 := Lib.hid hsc
              have HR2 := Lib.hid (HR1.out.upd hU (fun b off e _ f => by cases e; omega))
              have HK2 := Lib.hid (HK1.out.then hU (fun i hi e => by omega))
              have HU2 := Lib.hid (Nat.le_trans HU1.out hU.size)
              have HRo := Lib.hid (Rounds_sc HS2.out ((s.ended : Int) + i + 1) (by rw [HT2.out.2]; omega))
              clear hU hsc HS1 HR1 HK1 HU1 HNe
              go_wp2_with fail
              refine HRo.out.mono ?_
              rintro e w' ⟨rfl, rfl⟩
              clear HRo
              go_wp2_with fail
              go_roundw
              case rel => exact ⟨i + 1, t.step (butOf j h), by go_num, by omega, HT2, HS2, HR2, HK2, HU2⟩
              case measure => simp [intOf]; omega
            · go_wp2_with fail
              refine (awake_any _).mono ?_
              rintro e w6 ⟨rfl, hk6⟩
              go_wp2
              go_ret
              exact ⟨rfl, HK1.out.trans hk6⟩
end Go.Proofs.Ytacacnjpfflbnaa
