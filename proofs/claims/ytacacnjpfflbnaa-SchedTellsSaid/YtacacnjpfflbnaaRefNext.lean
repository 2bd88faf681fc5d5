/- The reference of layer 15: Next. -/
import Derived.Test.YtacacnjpfflbnaaRefSched
namespace Go.Proofs.Ytacacnjpfflbnaa
set_option linter.unusedVariables false
open Go.RowKit

theorem upd5 (wx : World) (b : Nat) (a0 a1 a2 a3 a4 : Value) : Upd (fun k => k = b) wx (((((wx.setCell ⟨b, 0, none⟩ a0).setCell ⟨b, 1, none⟩ a1).setCell ⟨b, 2, none⟩ a2).setCell ⟨b, 3, none⟩ a3).setCell ⟨b, 4, none⟩ a4) :=
  ((((updCell wx b 0 a0).trans (updCell _ b 1 a1)).trans (updCell _ b 2 a2)).trans (updCell _ b 3 a3)).trans (updCell _ b 4 a4)
theorem own_rd {w : World} {base n cap g : Nat} {e : TypeId} {vs : List Value} (h : w.ownsRow base e 1 (.slice (some ⟨g, 0, none⟩) n cap) n vs) : Rd w (some ⟨g, 0, none⟩) vs := by
  refine .inr ⟨g, 0, rfl, fun i u hu => ?_⟩
  have hl : vs.length = n := by simpa using h.1
  rw [Nat.zero_add, (own_cell h i (by have := (List.getElem?_eq_some_iff.1 hu).1; omega)).1]
  exact hu
theorem whoAt_lt {n f : Nat} {dl : List Bool} {v : Nat} (hn : 0 < n) : ∀ m, whoAt n f dl m = some v → v < n
  | 0, h => by cases h
  | m + 1, h => by
    unfold whoAt at h
    split at h
    · exact whoAt_lt hn m h
    · cases h; exact Nat.mod_lt _ hn
theorem rd_tail {w : World} {pa pa' : Option Addr} {pc : Nat} {xs : List Int} (h : Rd w pa (xs.map (Value.int .i64))) (hle : xs.length ≤ pc) (hpa : (if pc = 1 then pa else pa.map (·.add 1)) = pa') (hp : 0 < xs.length) :
    Rd w pa' (xs.tail.map (Value.int .i64)) ∧ ∀ x, pa' = some x → ∃ y, pa = some y ∧ y.block = x.block := by
  refine ⟨?_, ?_⟩
  · rcases h with h0 | ⟨b, off, e, hc⟩
    · simp at h0; simp [h0] at hp
    · by_cases h1 : xs.length = 1
      · refine .inl ?_
        have : xs.tail = [] := List.eq_nil_of_length_eq_zero (by simp; omega)
        rw [this]; rfl
      · have hpc : ¬ pc = 1 := by omega
        rw [if_neg hpc, e] at hpa
        refine .inr ⟨b, off + 1, ?_, fun i u hu => ?_⟩
        · rw [← hpa]; simp [Addr.add_lit]
        · have hu2 : (xs.map (Value.int .i64))[i + 1]? = some u := by
            rw [List.getElem?_map] at hu ⊢
            rw [← hu]
            simp
          have := hc (i + 1) u hu2
          rw [show off + 1 + i = off + (i + 1) by omega]
          exact this
  · intro x e
    subst hpa
    split at e
    · exact ⟨x, e, rfl⟩
    · cases pa with
      | none => cases e
      | some y =>
        have e' : Addr.add y 1 = x := by simpa using e
        refine ⟨y, rfl, ?_⟩
        rw [← e']
        unfold Addr.add
        split <;> rfl
theorem Blk.set5 {w : World} {b : Nat} {T : TypeId} {z0 z1 z2 z3 z4 : Value} (h : Blk w b #[z0, z1, z2, z3, z4] T) (a0 a1 a2 a3 a4 : Value) :
    Blk (((((w.setCell ⟨b, 0, none⟩ a0).setCell ⟨b, 1, none⟩ a1).setCell ⟨b, 2, none⟩ a2).setCell ⟨b, 3, none⟩ a3).setCell ⟨b, 4, none⟩ a4) b #[a0, a1, a2, a3, a4] T := by
  have := ((((h.set 0 a0).set 1 a1).set 2 a2).set 3 a3).set 4 a4
  simpa using this
theorem kept5 {w wx : World} (h : Kept w wx) (b : Nat) (hb : w.heap.size ≤ b) (a0 a1 a2 a3 a4 : Value) : Kept w (((((wx.setCell ⟨b, 0, none⟩ a0).setCell ⟨b, 1, none⟩ a1).setCell ⟨b, 2, none⟩ a2).setCell ⟨b, 3, none⟩ a3).setCell ⟨b, 4, none⟩ a4) :=
  ((((h.setCell (p := ⟨b, 0, none⟩) (.inr hb) _).setCell (p := ⟨b, 1, none⟩) (.inr hb) _).setCell (p := ⟨b, 2, none⟩) (.inr hb) _).setCell (p := ⟨b, 3, none⟩) (.inr hb) _).setCell (p := ⟨b, 4, none⟩) (.inr hb) _

set_option maxRecDepth 100000 in
set_option maxHeartbeats 1000000 in
theorem refNext_any {w : World} {s : SS} {last : Int} {pa : Option Addr} {pc : Nat} {ta : Option Addr} (tc : Nat) (h : RefIn w s last pa pc ta) (a : Option Addr) (c : Nat) (dl : List Bool) (hd : Rd w a (dl.map Value.bool)) :
    Calls Try.prog 13 #[.agg #[.int .i64 (s.told.length : Int), .slice pa s.picks.length pc, .int .i64 last, .slice ta s.told.length tc, .int .i64 (s.ended : Int)], .slice a dl.length c] w (RefNextIs s last pa pc ta tc dl w) := by
  have n1 := h.n1
  have n2 := h.n2
  have hll := h.lt
  have hlast := h.last
  have hle := h.le
  have hmost := h.most
  have hen := h.ended
  unfold maxLen at hmost
  obtain ⟨i0, hi, hz0, hz1, hz2⟩ := info_parts infoBool
  have hn0 : ¬ (s.told.length : Int) = 0 := by omega
  have hl1 : -1 ≤ last := by omega
  have hl2 : last < s.told.length := by omega
  have hmk := fun w => make_one (P := Try.prog) (t := 28) (e := 4) (z := .bool false) (v := .bool false) (bytes := 1) Try.underlying28 (by kernel_rfl) rfl .i64 s.told.length (by omega) (by omega) w
  have H := Lib.hid h
  have HD := Lib.hid hd
  clear h hd hlast
  go_enter Try.func13, Try.ntmps13
  go_upto_if 19 with (fail)
  go_cut [6] from 13 to 32 (fun f wx => ∃ fr : Nat, f = .int .i64 (fr : Int) ∧ fr ≤ 64 ∧ Hid (s.who dl = whoAt s.told.length fr dl s.told.length) ∧ Hid (Blk wx w.heap.size #[.int .i64 (s.told.length : Int), .slice pa s.picks.length pc, .int .i64 last, .slice ta s.told.length tc, .int .i64 (s.ended : Int)] 39) ∧ Hid (Blk wx (w.heap.size + 1) #[.int .i64 0, .slice none 0 0, .int .i64 0, .slice none 0 0, .int .i64 0] 39) ∧ Hid (Kept w wx))
  case first =>
    have b0 : Blk ((w.alloc (.cells #[.int .i64 (s.told.length : Int), .slice pa s.picks.length pc, .int .i64 last, .slice ta s.told.length tc, .int .i64 (s.ended : Int)] 39)).alloc (.cells #[.int .i64 0, .slice none 0 0, .int .i64 0, .slice none 0 0, .int .i64 0] 39)) w.heap.size #[.int .i64 (s.told.length : Int), .slice pa s.picks.length pc, .int .i64 last, .slice ta s.told.length tc, .int .i64 (s.ended : Int)] 39 := (Blk.new _ _ _).alloc _
    have b1 : Blk ((w.alloc (.cells #[.int .i64 (s.told.length : Int), .slice pa s.picks.length pc, .int .i64 last, .slice ta s.told.length tc, .int .i64 (s.ended : Int)] 39)).alloc (.cells #[.int .i64 0, .slice none 0 0, .int .i64 0, .slice none 0 0, .int .i64 0] 39)) (w.heap.size + 1) #[.int .i64 0, .slice none 0 0, .int .i64 0, .slice none 0 0, .int .i64 0] 39 := Blk.newAt _ _ _ _ (by simp)
    have bk : Kept w ((w.alloc (.cells #[.int .i64 (s.told.length : Int), .slice pa s.picks.length pc, .int .i64 last, .slice ta s.told.length tc, .int .i64 (s.ended : Int)] 39)).alloc (.cells #[.int .i64 0, .slice none 0 0, .int .i64 0, .slice none 0 0, .int .i64 0] 39)) := ((Upd.refl _ _).alloc _).alloc _
    have B0 := Lib.hid b0
    have B1 := Lib.hid b1
    have BK := Lib.hid bk
    clear b0 b1 bk
    obtain hp | ⟨p, ps, hp⟩ : s.picks = [] ∨ ∃ p ps, s.picks = p :: ps := by
      cases s.picks with
      | nil => exact .inl rfl
      | cons p ps => exact .inr ⟨p, ps, rfl⟩
    ·
      have HP := Lib.hid hp
      have HF := Lib.hid (H.out.from hp dl)
      have hp0 : s.picks.length = 0 := by rw [hp]; rfl
      have hpl : ¬ 0 < s.picks.length := by omega
      obtain ⟨fr, hfr⟩ := Int.eq_ofNat_of_zero_le (show 0 ≤ last + 1 by omega)
      have hfr2 : fr ≤ 64 := by omega
      have HFR := Lib.hid hfr
      clear hp hp0
      go_wp2_with fail
      go_meet
      case rel => exact ⟨fr, congrArg _ HFR.out, hfr2, Lib.hid (by rw [HF.out, HFR.out]; rfl), B0, B1, BK⟩
    · obtain ⟨b, off, hpa, hc⟩ := H.out.picks.at 0 (by rw [hp]; simp)
      have hpl : 0 < s.picks.length := by rw [hp]; simp
      subst hpa
      have cp : w.cell? ⟨b, off, none⟩ = some (.int .i64 p) := by rw [Nat.add_zero] at hc; rw [hc, hp]; rfl
      have cp2 : ((w.alloc (.cells #[.int .i64 (s.told.length : Int), .slice (some ⟨b, off, none⟩) s.picks.length pc, .int .i64 last, .slice ta s.told.length tc, .int .i64 (s.ended : Int)] 39)).alloc (.cells #[.int .i64 0, .slice none 0 0, .int .i64 0, .slice none 0 0, .int .i64 0] 39)).cell? ⟨b, off, none⟩ = some (.int .i64 p) := (keptCells BK.out _ (by rw [cp]; rfl)).trans cp
      have HF : Hid (s.who dl = whoAt s.told.length (p % (s.told.length : Int)).toNat dl s.told.length) := Lib.hid (by unfold SS.who; rw [hp]; rfl)
      have t1 := tmod_turn p s.told.length (by omega)
      have t2 : -(s.told.length : Int) < p.tmod s.told.length := Int.lt_tmod_of_pos p (by omega)
      have t3 : p.tmod s.told.length < s.told.length := Int.tmod_lt_of_pos p (by omega)
      have HB0 := B0.out.cell
      have hkd : ∀ (W : World) (k : Nat), Kept W (W.drewN k) := fun W k => ⟨rfl, rfl, rfl, Nat.le_refl _, fun _ _ _ => rfl⟩
      by_cases hneg : p.tmod s.told.length < 0
      · obtain ⟨fr, hfr⟩ := Int.eq_ofNat_of_zero_le (show 0 ≤ p.tmod s.told.length + s.told.length by omega)
        have hfr2 : fr ≤ 64 := by omega
        have HFR : Hid (s.who dl = whoAt s.told.length fr dl s.told.length) := by
          apply Lib.hid
          rw [HF.out, ← whoAt_mod _ fr, ← t1, hfr]
          congr 1
        have HFv := Lib.hid hfr
        clear hc hp HF t1 hfr
        go_wp2_with fail
        go_quiet (fail)
        go_wp2_with fail
        go_meet
        case rel => exact ⟨fr, congrArg _ HFv.out, hfr2, HFR, Lib.hid (B0.out.kept (hkd _ _)), Lib.hid (B1.out.kept (hkd _ _)), Lib.hid (BK.out.trans (hkd _ _))⟩
      · obtain ⟨fr, hfr⟩ := Int.eq_ofNat_of_zero_le (show 0 ≤ p.tmod s.told.length by omega)
        have hfr2 : fr ≤ 64 := by omega
        have HFR : Hid (s.who dl = whoAt s.told.length fr dl s.told.length) := by
          apply Lib.hid
          rw [HF.out, ← t1, hfr, Int.add_emod_right, ← whoAt_mod _ fr]
          congr 1
        have HFv := Lib.hid hfr
        clear hc hp HF t1 hfr
        go_wp2_with fail
        go_quiet (fail)
        go_wp2_with fail
        go_meet
        case rel => exact ⟨fr, congrArg _ HFv.out, hfr2, HFR, Lib.hid (B0.out.kept (hkd _ _)), Lib.hid (B1.out.kept (hkd _ _)), Lib.hid (BK.out.trans (hkd _ _))⟩
  case rest =>
    obtain ⟨fr, rfl, hfr, HW, B0, B1, BK⟩ := hcut
    have HB0 := B0.out.cell
    go_wp2_with fail
    go_loop [7, 8] (fun x k => ∃ j : Nat, j ≤ s.told.length ∧ k = .int .i64 ((j : Int) - 1) ∧ x = .int .i64 (wv (whoAt s.told.length fr dl (s.told.length - j)))) (fun _ k => ((intOf k) + 1).toNat)
    case atStart => exact ⟨s.told.length, Nat.le_refl _, rfl, by rw [Nat.sub_self]; rfl⟩
    case round =>
      obtain ⟨j, hj, rfl, rfl⟩ := hrel
      by_cases hj0 : 0 < j
      · obtain ⟨i, rfl⟩ : ∃ i, j = i + 1 := ⟨j - 1, by omega⟩
        have e1 : (((i + 1 : Nat) : Int) - 1) = (i : Int) := by omega
        rw [e1]
        have hm : ((fr : Int) + (i : Int)) % (s.told.length : Int) = (((fr + i) % s.told.length : Nat) : Int) := by simp
        have hI := refIs_any a c dl ((fr + i) % s.told.length) wc (HD.out.kept BK.out)
        rw [← hm] at hI
        have HS : Hid (whoAt s.told.length fr dl (s.told.length - i) = if dl.getD ((fr + i) % s.told.length) false then whoAt s.told.length fr dl (s.told.length - (i + 1)) else some ((fr + i) % s.told.length)) := by
          apply Lib.hid
          obtain ⟨m, hm⟩ : ∃ m, s.told.length - i = m + 1 := ⟨s.told.length - i - 1, by omega⟩
          have e2 : s.told.length - (m + 1) = i := by omega
          have e3 : s.told.length - (i + 1) = m := by omega
          rw [hm, e3]
          conv => lhs; unfold whoAt
          rw [e2]
        obtain ⟨r, hr⟩ : ∃ r, dl.getD ((fr + i) % s.told.length) false = r := ⟨_, rfl⟩
        rw [hr] at HS
        rw [hr] at hI
        have HI := Lib.hid hI
        have HM := Lib.hid hm
        have hj1 : (i : Int) < s.told.length := by omega
        clear e1 hm hr hI
        cases r
        · go_wp2_with (go_at_call 23; refine HI.out.mono ?_; rintro e w' ⟨rfl, rfl⟩)
          go_round
          case rel => exact ⟨i, by omega, rfl, by rw [HS.out]; exact congrArg _ HM.out⟩
          case measure => simp [intOf]
        · go_wp2_with (go_at_call 23; refine HI.out.mono ?_; rintro e w' ⟨rfl, rfl⟩)
          go_round
          case rel => exact ⟨i, by omega, rfl, by rw [HS.out]; rfl⟩
          case measure => simp [intOf]
      · obtain rfl : j = 0 := by omega
        have hw : whoAt s.told.length fr dl (s.told.length - 0) = s.who dl := HW.out.symm
        rw [hw]
        clear hw HW
        cases hwho : s.who dl with
        | none =>
          have HFin : Hid (∀ w', Kept w w' → RefNextIs s last pa pc ta tc dl w (.returned (.tuple #[.agg #[.int .i64 (s.told.length : Int), .slice pa s.picks.length pc, .int .i64 last, .slice ta s.told.length tc, .int .i64 (s.ended : Int)], .int .i64 (-1)])) w') := Lib.hid fun w' hk => by unfold RefNextIs; rw [hwho]; exact ⟨rfl, hk⟩
          have HB1 := B1.out.cell
          have HF1 := B1.out.free
          clear hwho
          simp only [wv]
          go_wp2_with fail
          have hB := B1.out.set5 (.int .i64 (s.told.length : Int)) (.slice pa s.picks.length pc) (.int .i64 last) (.slice ta s.told.length tc) (.int .i64 (s.ended : Int))
          have hK := kept5 BK.out (w.heap.size + 1) (by omega) (.int .i64 (s.told.length : Int)) (.slice pa s.picks.length pc) (.int .i64 last) (.slice ta s.told.length tc) (.int .i64 (s.ended : Int))
          generalize (((((wc.setCell ⟨w.heap.size + 1, 0, none⟩ (.int .i64 (s.told.length : Int))).setCell ⟨w.heap.size + 1, 1, none⟩ (.slice pa s.picks.length pc)).setCell ⟨w.heap.size + 1, 2, none⟩ (.int .i64 last)).setCell ⟨w.heap.size + 1, 3, none⟩ (.slice ta s.told.length tc)).setCell ⟨w.heap.size + 1, 4, none⟩ (.int .i64 (s.ended : Int))) = W2 at hB hK ⊢
          have hc := hB.cell
          exact bodyPost_ret (v := .tuple #[.agg #[.int .i64 (s.told.length : Int), .slice pa s.picks.length pc, .int .i64 last, .slice ta s.told.length tc, .int .i64 (s.ended : Int)], .int .i64 (-1)]) (by simp [results, Try.results13, go_sem, hc]) rfl (HFin.out _ hK)
        | some v =>
          have HWh := Lib.hid hwho
          clear hwho
          simp only [wv]
          have hv : v < s.told.length := whoAt_lt n1 _ (HWh.out)
          have hvi : (v : Int) < s.told.length := by omega
          have hv0 : ¬ (v : Int) < 0 := by omega
          have HF0 := B0.out.free
          have HF1 := B1.out.free
          go_upto_if 57 with (fail)
          go_cut [] from 53 to 61 (fun wx => Hid (∃ pa' pc' m, s.picks.tail.length = m ∧ Blk wx w.heap.size #[.int .i64 (s.told.length : Int), .slice pa' m pc', .int .i64 last, .slice ta s.told.length tc, .int .i64 (s.ended : Int)] 39 ∧ Rd w pa' (s.picks.tail.map (Value.int .i64)) ∧ s.picks.tail.length ≤ pc' ∧ pc' ≤ maxLen ∧ (∀ x, pa' = some x → ∃ y, pa = some y ∧ y.block = x.block)) ∧ Hid (Blk wx (w.heap.size + 1) #[.int .i64 0, .slice none 0 0, .int .i64 0, .slice none 0 0, .int .i64 0] 39) ∧ Hid (Kept w wx))
          case first =>
            by_cases hpl : 0 < s.picks.length
            · obtain ⟨pa', hpa⟩ : ∃ pa', (if pc = 1 then pa else pa.map (·.add 1)) = pa' := ⟨_, rfl⟩
              have hsl : ∀ w : World, (Instr.slice 22 (.slice pa s.picks.length pc) (some (.int .i64 1)) none none).run Try.prog w = .ok (.slice pa' (s.picks.length - 1) (pc - 1)) w := fun w => by
                have := run_low (P := Try.prog) (t := 22) Try.underlying22 (size := 1) (by kernel_rfl) pa s.picks.length pc 1 hpl w
                rw [show (1 * 1 : Nat) = 1 from rfl, hpa] at this
                exact this
              obtain ⟨r1, r2⟩ := rd_tail H.out.picks hle hpa hpl
              have HR1 := Lib.hid r1
              have HR2 := Lib.hid r2
              clear hpa r1 r2
              go_wp2_with fail
              go_meet
              case rel =>
                have hU : Upd (fun k => k = w.heap.size) wc (wc.setCell ⟨w.heap.size, 1, none⟩ (.slice pa' (s.picks.length - 1) (pc - 1))) := updCell _ _ _ _
                have hK : Kept w (wc.setCell ⟨w.heap.size, 1, none⟩ (.slice pa' (s.picks.length - 1) (pc - 1))) := BK.out.setCell (p := ⟨w.heap.size, 1, none⟩) (.inr (Nat.le_refl _)) _
                refine ⟨Lib.hid ⟨pa', pc - 1, s.picks.tail.length, rfl, ?_, HR1.out, by simp; omega, by unfold maxLen; omega, HR2.out⟩, Lib.hid (B1.out.upd hU (fun e => by omega)), Lib.hid hK⟩
                have := B0.out.set 1 (.slice pa' (s.picks.length - 1) (pc - 1))
                simpa using this
            · have hp0 : s.picks.tail = s.picks := by
                have : s.picks = [] := List.eq_nil_of_length_eq_zero (by omega)
                rw [this]; rfl
              have HP0 := Lib.hid hp0
              clear hp0
              go_wp2_with fail
              go_meet
              case rel => exact ⟨Lib.hid ⟨pa, pc, s.picks.tail.length, rfl, by rw [HP0.out]; exact B0.out, by rw [HP0.out]; exact H.out.picks, by rw [HP0.out]; exact hle, H.out.most, fun x e => ⟨x, e, rfl⟩⟩, B1, BK⟩
          case rest =>
            obtain ⟨HE, B1', BK'⟩ := hcut
            obtain ⟨pa', pc', m, hm, hB, hR, hl', hm', hpp⟩ := HE.out
            have HMl := Lib.hid hm
            clear hm
            clear B0 B1 BK HF0 HF1 HB0 HE
            obtain ⟨bt, ot, rfl, htc⟩ := H.out.told.at 0 (by simpa using n1)
            clear htc
            have c2 : wc.cell? ⟨w.heap.size, 2, none⟩ = some (.int .i64 last) := by rw [hB.cell]; rfl
            have c3 : wc.cell? ⟨w.heap.size, 3, none⟩ = some (.slice (some ⟨bt, ot, none⟩) s.told.length tc) := by rw [hB.cell]; rfl
            have f2 := hB.free 2
            have hlt := hB.lt
            have h2 : Blk (wc.setCell ⟨w.heap.size, 2, none⟩ (.int .i64 (v : Int))) w.heap.size #[.int .i64 (s.told.length : Int), .slice pa' m pc', .int .i64 (v : Int), .slice (some ⟨bt, ot, none⟩) s.told.length tc, .int .i64 (s.ended : Int)] 39 := by
              have := hB.set 2 (.int .i64 (v : Int)); simpa using this
            have hK2 : Kept w (wc.setCell ⟨w.heap.size, 2, none⟩ (.int .i64 (v : Int))) := BK'.out.setCell (p := ⟨w.heap.size, 2, none⟩) (.inr (Nat.le_refl _)) _
            have hB12 := B1'.out.upd (updCell wc w.heap.size 2 (.int .i64 (v : Int))) (fun e => by omega)
            have HB2 := Lib.hid h2
            have HK2 := Lib.hid hK2
            have HB12 := Lib.hid hB12
            have HRR := Lib.hid hR
            have HTd := Lib.hid (H.out.told.kept hK2)
            clear h2 hK2 hB12 hB hR B1' BK'
            go_upto_region 18 with (fail)
            generalize wc.setCell ⟨w.heap.size, 2, none⟩ (.int .i64 (v : Int)) = W2 at HB2 HK2 HB12 HTd ⊢
            clear c2 c3 f2 hlt
            have c3 : W2.cell? ⟨w.heap.size, 3, none⟩ = some (.slice (some ⟨bt, ot, none⟩) s.told.length tc) := by rw [HB2.out.cell]; rfl
            have hlt2 : w.heap.size < W2.heap.size := HB2.out.lt
            go_wp2_with (at_builtin; refine wpList_append_own _ rfl _ _ 28 rfl w.heap.size 4 i0 (.bool false) 1 1 Try.underlying28 hi hz0 hz1 hz2 rfl (by decide) _ _ _ rfl (World.ownsRow_made W2 #[] 0 HK2.out.size (Nat.zero_le _) rfl) ⟨bt, ot, none⟩ s.told.length tc (s.told.map Value.bool) rfl ?qc1 ?qc2 ?qc3 ?qc4 ?qc5 ?qc6 ?_)
            case qc2 =>
              intro j u hj
              rcases HTd.out with h0 | ⟨b5, off5, e5, hc5⟩
              · simp at h0; rw [h0] at n1; simp at n1
              · cases e5
                refine Lib.cell?_alloc_some _ (hc5 j u ?_)
                rw [List.getElem?_map]
                rcases hj with ⟨h1, h2⟩ | ⟨h1, h2⟩ <;> rw [h1, ← h2] <;> rfl
            case qc3 => intro u hu; rcases hu with ⟨_, rfl⟩ | ⟨_, rfl⟩ <;> rfl
            case qc4 => unfold maxLen; omega
            case qc5 => omega
            case qc6 => have := HK2.out.size; simp; omega
            intro v' w3 hown hgrow hnil
            have hk23 : Kept W2 w3 := ((Upd.refl (fun _ => False) W2).alloc _).grown hgrow (fun k hk => .inr (by simp [Value.ownBlock] at hk; omega))
            have hown1 : w3.ownsRow w.heap.size 4 1 v' s.told.length (s.told.map Value.bool) := by simpa using hown
            obtain ⟨g0, cg, rfl, hsl⟩ := Sl.owns hown1
            obtain ⟨g, rfl⟩ := own_addr hown1 n1
            have hgl := (World.ownsRow.lt hown1 g rfl).1
            have HGN : Hid (¬ g = w.heap.size ∧ ¬ g = w.heap.size + 1) := by
              apply Lib.hid
              have hh : ∃ cur, w3.heap[g]? = some (.cells cur 4 (0, 0)) := by
                rcases hown1.2 with ⟨e1, _⟩ | ⟨g', cap', cur, e1, _, hh, _⟩
                · cases e1
                · cases e1; exact ⟨cur, hh⟩
              obtain ⟨cur, hh⟩ := hh
              have h0 := HB2.out.kept hk23
              have h1 := HB12.out.kept hk23
              refine ⟨fun e => ?_, fun e => ?_⟩
              · subst e; have := hh.symm.trans h0; simp at this
              · subst e; have := hh.symm.trans h1; simp at this
            have HB3 := Lib.hid (HB2.out.kept hk23)
            have HK3 := Lib.hid (HK2.out.trans hk23)
            have HB13 := Lib.hid (HB12.out.kept hk23)
            have hst := (World.ownsRow.stored hown1 v (.bool true)).1
            rw [show (s.told.map Value.bool).set v (.bool true) = (s.told.set v true).map Value.bool by rw [List.map_set]] at hst
            have HO4 := Lib.hid hst
            obtain ⟨q1, f1⟩ := own_cell hown1 v hv
            rw [show (s.told.map Value.bool)[v]? = some (.bool (s.told.getD v false)) by simp [hv]] at q1
            clear hown hgrow hnil hk23 hown1 hsl hst HB2 HK2 HB12 c3 hlt2
            go_upto_region 20 with (fail)
            have HU4 : Hid (Upd (fun k => k = g) w3 (w3.setCell ⟨g, v, none⟩ (.bool true))) := Lib.hid (updCell _ _ _ _)
            generalize w3.setCell ⟨g, v, none⟩ (.bool true) = W4 at HO4 HU4 ⊢
            have HB4 := Lib.hid (HB3.out.upd HU4.out (fun e => HGN.out.1 e.symm))
            have HB14 := Lib.hid (HB13.out.upd HU4.out (fun e => HGN.out.2 e.symm))
            have HK4 := Lib.hid (HK3.out.then HU4.out (fun i hi e => by omega))
            obtain ⟨t, ht⟩ : ∃ t, s.told.set v true = t := ⟨_, rfl⟩
            have htl : t.length = s.told.length := by rw [← ht]; simp
            rw [ht] at HO4
            have HTe : Hid (s.tell v dl = if allT t dl then ⟨s.picks.tail, v, List.replicate s.told.length false, s.ended + 1⟩ else ⟨s.picks.tail, v, t, s.ended⟩) := Lib.hid (by unfold SS.tell; rw [ht])
            have HTL := Lib.hid htl
            have c0 : W4.cell? ⟨w.heap.size, 0, none⟩ = some (.int .i64 (s.told.length : Int)) := by rw [HB4.out.cell]; rfl
            clear ht htl HB3 HK3 HB13 HU4 HTd
            go_wp2_with fail
            go_loop [11, 12] (fun x i => ∃ k : Nat, k ≤ s.told.length ∧ i = .int .i64 (k : Int) ∧ x = .bool (allK t dl k)) (fun _ i => s.told.length - (intOf i).toNat)
            case atStart => exact ⟨0, by omega, rfl, rfl⟩
            case round =>
              obtain ⟨k, hk, rfl, rfl⟩ := hrel
              by_cases hlt : k < s.told.length
              · obtain ⟨q2, f2⟩ := own_cell HO4.out k hlt
                rw [show (t.map Value.bool)[k]? = some (.bool (t.getD k false)) by have := HTL.out; simp [show k < t.length by omega]] at q2
                have HI := Lib.hid (refIs_any a c dl k W4 (HD.out.kept HK4.out))
                have HA := Lib.hid (allK_succ t dl k)
                obtain ⟨x, hx⟩ : ∃ x, allK t dl k = x := ⟨_, rfl⟩
                obtain ⟨y, hy⟩ : ∃ y, t.getD k false = y := ⟨_, rfl⟩
                obtain ⟨z, hz⟩ : ∃ z, dl.getD k false = z := ⟨_, rfl⟩
                rw [hx, hy, hz] at HA
                rw [hx]
                rw [hy] at q2
                rw [hz] at HI
                have hk0 : (k : Int) < s.told.length := by omega
                clear hx hy hz
                cases x <;> cases y <;> cases z
                all_goals
                  go_wp2_with (go_at_call 23; refine HI.out.mono ?_; rintro e w' ⟨rfl, rfl⟩)
                  go_round
                  case rel => exact ⟨k + 1, by omega, by go_num, by rw [HA.out]; rfl⟩
                  case measure => simp [intOf]; omega
              · obtain rfl : k = s.told.length := by omega
                have HFin : Hid (∀ (tb tc' : Nat) (tld : List Bool) (en : Nat) (w' : World), s.tell v dl = ⟨s.picks.tail, v, tld, en⟩ → Rd w' (some ⟨tb, 0, none⟩) (tld.map Value.bool) → w.heap.size ≤ tb → Kept w w' → RefNextIs s last pa pc (some ⟨bt, ot, none⟩) tc dl w (.returned (.tuple #[.agg #[.int .i64 (s.told.length : Int), .slice pa' m pc', .int .i64 (v : Int), .slice (some ⟨tb, 0, none⟩) s.told.length tc', .int .i64 (en : Int)], .int .i64 (v : Int)])) w') := by
                  refine Lib.hid fun tb tc' tld en w' he hr hb hk => ?_
                  unfold RefNextIs
                  rw [HWh.out]
                  simp only [he]
                  rw [HMl.out]
                  exact ⟨pa', pc', tb, tc', rfl, HRR.out.kept hk, hr, by rw [← HMl.out]; exact hl', hm', hpp, hb, hk⟩
                have hall : allT t dl = allK t dl s.told.length := by rw [← allK_all, HTL.out]
                obtain ⟨x, hx⟩ : ∃ x, allK t dl s.told.length = x := ⟨_, rfl⟩
                rw [hx] at hall ⊢
                have f3 := HB4.out.free
                have c3 : W4.cell? ⟨w.heap.size, 3, none⟩ = some (.slice (some ⟨bt, ot, none⟩) s.told.length tc) := by rw [HB4.out.cell]; rfl
                have c4 : W4.cell? ⟨w.heap.size, 4, none⟩ = some (.int .i64 (s.ended : Int)) := by rw [HB4.out.cell]; rfl
                clear hx
                cases x
                · have HTe2 : Hid (s.tell v dl = ⟨s.picks.tail, v, t, s.ended⟩) := Lib.hid (by rw [HTe.out, hall]; rfl)
                  clear hall HTe
                  go_upto_region 29 with (fail)
                  have h0 : Blk (W4.setCell ⟨w.heap.size, 3, none⟩ (.slice (some ⟨g, 0, none⟩) s.told.length cg)) w.heap.size #[.int .i64 (s.told.length : Int), .slice pa' m pc', .int .i64 (v : Int), .slice (some ⟨g, 0, none⟩) s.told.length cg, .int .i64 (s.ended : Int)] 39 := by
                    have := HB4.out.set 3 (.slice (some ⟨g, 0, none⟩) s.told.length cg); simpa using this
                  have hu := updCell W4 w.heap.size 3 (.slice (some ⟨g, 0, none⟩) s.told.length cg)
                  have h1 := HB14.out.upd hu (fun e => by omega)
                  have h2 := HK4.out.setCell (p := ⟨w.heap.size, 3, none⟩) (.inr (Nat.le_refl _)) (.slice (some ⟨g, 0, none⟩) s.told.length cg)
                  have h3 := (own_rd HO4.out).upd hu (fun b off e _ f => by cases e; exact HGN.out.1 f)
                  generalize W4.setCell ⟨w.heap.size, 3, none⟩ (.slice (some ⟨g, 0, none⟩) s.told.length cg) = W6 at h0 h1 h2 h3 ⊢
                  have hc6 := h0.cell
                  have hB := h1.set5 (.int .i64 (s.told.length : Int)) (.slice pa' m pc') (.int .i64 (v : Int)) (.slice (some ⟨g, 0, none⟩) s.told.length cg) (.int .i64 (s.ended : Int))
                  have hK := kept5 h2 (w.heap.size + 1) (by omega) (.int .i64 (s.told.length : Int)) (.slice pa' m pc') (.int .i64 (v : Int)) (.slice (some ⟨g, 0, none⟩) s.told.length cg) (.int .i64 (s.ended : Int))
                  have hU := upd5 W6 (w.heap.size + 1) (.int .i64 (s.told.length : Int)) (.slice pa' m pc') (.int .i64 (v : Int)) (.slice (some ⟨g, 0, none⟩) s.told.length cg) (.int .i64 (s.ended : Int))
                  have hf1 := h1.free
                  have hc1 := h1.cell
                  have H1 := Lib.hid h1
                  have H3 := Lib.hid h3
                  have HBf := Lib.hid hB
                  have HKf := Lib.hid hK
                  have HUf := Lib.hid hU
                  clear h0 h1 h2 h3 hB hK hU
                  go_wp2_with fail
                  generalize (((((W6.setCell ⟨w.heap.size + 1, 0, none⟩ (.int .i64 (s.told.length : Int))).setCell ⟨w.heap.size + 1, 1, none⟩ (.slice pa' m pc')).setCell ⟨w.heap.size + 1, 2, none⟩ (.int .i64 (v : Int))).setCell ⟨w.heap.size + 1, 3, none⟩ (.slice (some ⟨g, 0, none⟩) s.told.length cg)).setCell ⟨w.heap.size + 1, 4, none⟩ (.int .i64 (s.ended : Int))) = W7 at HBf HKf HUf ⊢
                  have hc := HBf.out.cell
                  exact bodyPost_ret (v := .tuple #[.agg #[.int .i64 (s.told.length : Int), .slice pa' m pc', .int .i64 (v : Int), .slice (some ⟨g, 0, none⟩) s.told.length cg, .int .i64 (s.ended : Int)], .int .i64 (v : Int)]) (by simp [results, Try.results13, go_sem, hc]) rfl (HFin.out _ _ _ _ W7 HTe2.out (H3.out.upd HUf.out (fun b off e _ => by cases e; exact HGN.out.2)) (hgl) HKf.out)
                · have HTe2 : Hid (s.tell v dl = ⟨s.picks.tail, v, List.replicate s.told.length false, s.ended + 1⟩) := Lib.hid (by rw [HTe.out, hall]; rfl)
                  clear hall HTe
                  have hw4 : w.heap.size < W4.heap.size := HB4.out.lt
                  have hw5 : w.heap.size + 1 < W4.heap.size := HB14.out.lt
                  go_upto_region 29 with (fail)
                  have h0 : Blk (((W4.setCell ⟨w.heap.size, 4, none⟩ (.int .i64 ((s.ended : Int) + 1))).setCell ⟨w.heap.size, 3, none⟩ (.slice (some ⟨W4.heap.size, 0, none⟩) s.told.length s.told.length)).alloc (.cells (zeros s.told.length (.bool false)) 4)) w.heap.size #[.int .i64 (s.told.length : Int), .slice pa' m pc', .int .i64 (v : Int), .slice (some ⟨W4.heap.size, 0, none⟩) s.told.length s.told.length, .int .i64 ((s.ended : Int) + 1)] 39 := by
                    have := ((HB4.out.set 4 (.int .i64 ((s.ended : Int) + 1))).set 3 (.slice (some ⟨W4.heap.size, 0, none⟩) s.told.length s.told.length)).alloc (.cells (zeros s.told.length (.bool false)) 4); simpa using this
                  have hu : Upd (fun k => k = w.heap.size) W4 (((W4.setCell ⟨w.heap.size, 4, none⟩ (.int .i64 ((s.ended : Int) + 1))).setCell ⟨w.heap.size, 3, none⟩ (.slice (some ⟨W4.heap.size, 0, none⟩) s.told.length s.told.length)).alloc (.cells (zeros s.told.length (.bool false)) 4)) := ((updCell W4 w.heap.size 4 (.int .i64 ((s.ended : Int) + 1))).setCell (p := ⟨w.heap.size, 3, none⟩) (.inl rfl) _).alloc _
                  have h1 := HB14.out.upd hu (fun e => by omega)
                  have h2 := HK4.out.then hu (fun i hi e => by omega)
                  have h3 : Rd (((W4.setCell ⟨w.heap.size, 4, none⟩ (.int .i64 ((s.ended : Int) + 1))).setCell ⟨w.heap.size, 3, none⟩ (.slice (some ⟨W4.heap.size, 0, none⟩) s.told.length s.told.length)).alloc (.cells (zeros s.told.length (.bool false)) 4)) (some ⟨W4.heap.size, 0, none⟩) ((List.replicate s.told.length false).map Value.bool) := by
                    have hz2 : Blk (((W4.setCell ⟨w.heap.size, 4, none⟩ (.int .i64 ((s.ended : Int) + 1))).setCell ⟨w.heap.size, 3, none⟩ (.slice (some ⟨W4.heap.size, 0, none⟩) s.told.length s.told.length)).alloc (.cells (zeros s.told.length (.bool false)) 4)) W4.heap.size (zeros s.told.length (.bool false)) 4 := Blk.newAt _ _ _ _ (by simp)
                    exact Rd.blk (T := 4) (by rw [← zeros_bools]; exact hz2)
                  generalize ((W4.setCell ⟨w.heap.size, 4, none⟩ (.int .i64 ((s.ended : Int) + 1))).setCell ⟨w.heap.size, 3, none⟩ (.slice (some ⟨W4.heap.size, 0, none⟩) s.told.length s.told.length)).alloc (.cells (zeros s.told.length (.bool false)) 4) = W6 at h0 h1 h2 h3 ⊢
                  have hc6 := h0.cell
                  have hB := h1.set5 (.int .i64 (s.told.length : Int)) (.slice pa' m pc') (.int .i64 (v : Int)) (.slice (some ⟨W4.heap.size, 0, none⟩) s.told.length s.told.length) (.int .i64 ((s.ended : Int) + 1))
                  have hK := kept5 h2 (w.heap.size + 1) (by omega) (.int .i64 (s.told.length : Int)) (.slice pa' m pc') (.int .i64 (v : Int)) (.slice (some ⟨W4.heap.size, 0, none⟩) s.told.length s.told.length) (.int .i64 ((s.ended : Int) + 1))
                  have hU := upd5 W6 (w.heap.size + 1) (.int .i64 (s.told.length : Int)) (.slice pa' m pc') (.int .i64 (v : Int)) (.slice (some ⟨W4.heap.size, 0, none⟩) s.told.length s.told.length) (.int .i64 ((s.ended : Int) + 1))
                  have hf1 := h1.free
                  have hc1 := h1.cell
                  have H1 := Lib.hid h1
                  have H3 := Lib.hid h3
                  have HBf := Lib.hid hB
                  have HKf := Lib.hid hK
                  have HUf := Lib.hid hU
                  clear h0 h1 h2 h3 hB hK hU
                  go_wp2_with fail
                  generalize (((((W6.setCell ⟨w.heap.size + 1, 0, none⟩ (.int .i64 (s.told.length : Int))).setCell ⟨w.heap.size + 1, 1, none⟩ (.slice pa' m pc')).setCell ⟨w.heap.size + 1, 2, none⟩ (.int .i64 (v : Int))).setCell ⟨w.heap.size + 1, 3, none⟩ (.slice (some ⟨W4.heap.size, 0, none⟩) s.told.length s.told.length)).setCell ⟨w.heap.size + 1, 4, none⟩ (.int .i64 ((s.ended : Int) + 1))) = W7 at HBf HKf HUf ⊢
                  have hc := HBf.out.cell
                  exact bodyPost_ret (v := .tuple #[.agg #[.int .i64 (s.told.length : Int), .slice pa' m pc', .int .i64 (v : Int), .slice (some ⟨W4.heap.size, 0, none⟩) s.told.length s.told.length, .int .i64 ((s.ended : Int) + 1)], .int .i64 (v : Int)]) (by simp [results, Try.results13, go_sem, hc]) rfl (HFin.out _ _ _ _ W7 HTe2.out (H3.out.upd HUf.out (fun b off e _ => by cases e; omega)) (by omega) HKf.out)
end Go.Proofs.Ytacacnjpfflbnaa
