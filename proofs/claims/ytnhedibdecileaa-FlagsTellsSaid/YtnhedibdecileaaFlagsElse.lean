/- The law FlagsElse. -/
import Derived.Test.YtnhedibdecileaaAwake12
import Derived.Test.YtnhedibdecileaaBankAll
namespace Go.Proofs.Ytnhedibdecileaa
set_option linter.unusedVariables false
open Go.RowKit

theorem IntRow.rd {k : IntKind} {w : World} {a : Option Addr} {cap : Nat} {zs : List Int} (h : IntRow k w a cap zs) : Rd w a (zs.map (Value.int k)) := by
  rcases h.cells with h0 | ⟨b, off, rfl, hc⟩
  · exact .inl (by simpa using List.eq_nil_of_length_eq_zero h0)
  · refine .inr ⟨b, off, rfl, fun i u hu => ?_⟩
    rw [List.getElem?_map] at hu
    obtain ⟨x, hx, rfl⟩ := Option.map_eq_some_iff.1 hu
    obtain ⟨hi, rfl⟩ := List.getElem?_eq_some_iff.1 hx
    exact hc i hi
/-- The flags of n vertices, from cell f on, are down. -/
def Down (xs : List Int) (f n : Nat) : Prop := ∀ j : Nat, j < n → bget xs ((f : Int) + (j : Int)) = 0
theorem bget_set_ne {xs : List Int} {i j : Nat} (v : Int) (h : i ≠ j) : bget (bput xs (i : Int) v) (j : Int) = bget xs (j : Int) := by
  rw [bput_in _ (by omega), bget_in (by omega), bget_in (by omega)]
  simp [h]
theorem Down.put {xs : List Int} {f n i : Nat} (h : Down xs f n) (hi : i < f ∨ f + n ≤ i) (v : Int) : Down (bput xs (i : Int) v) f n := fun j hj => by
  have e : (f : Int) + (j : Int) = ((f + j : Nat) : Int) := by omega
  rw [e, bget_set_ne _ (by omega), ← e]
  exact h j hj
theorem heldOf_down {xs : List Int} {f n : Nat} (h : Down xs f n) : heldOf xs (f : Int) n = [] := by
  unfold heldOf
  rw [List.map_eq_nil_iff, List.filter_eq_nil_iff]
  intro v hv
  have := h v (List.mem_range.1 hv)
  simp [this]
theorem bput_back {xs : List Int} {i : Int} (h0 : 0 ≤ i) (h1 : i < xs.length) (h : bget xs i = 0) (v : Int) : bput (bput xs i v) i 0 = xs := by
  rw [bput_in _ h0, bput_in _ h0, List.set_set]
  rw [bget_in h0] at h
  apply List.ext_getElem?
  intro j
  rw [List.getElem?_set]
  split
  · rename_i e
    subst e
    have : i.toNat < xs.length := by omega
    simp only [this, if_true]
    simp [this] at h
    simp [this, h]
  · rfl
theorem bget_put_same {xs : List Int} {i : Int} (h0 : 0 ≤ i) (h1 : i < xs.length) (v : Int) : bget (bput xs i v) i = v := by
  rw [bput_in _ h0, bget_in h0]
  have : i.toNat < xs.length := by omega
  simp [this]

set_option maxRecDepth 100000 in
set_option maxHeartbeats 8000000 in
theorem flagsElse_core (a0 a1 : Int) (a : Option Addr) (cap : Nat) (hs : List Int) (w : World) (w0 : 0 ≤ a0 ∧ a0 ≤ 255) (w1' : 0 ≤ a1 ∧ a1 ≤ 255) (hr : Rd w a (hs.map (Value.int .i64))) (hlen : hs.length ≤ cap) (hmost : cap ≤ maxLen) :
    Calls Try.prog 6 #[.int .u8 a0, .int .u8 a1, .slice a hs.length cap] w fun e w' => e = .returned (.bool true) ∧ Kept w w' := by
  obtain ⟨N, hN⟩ := Int.eq_ofNat_of_zero_le (show 0 ≤ 1 + a0 % 30 by omega)
  have hN1 : 1 ≤ N := by omega
  have hN2 : N ≤ 30 := by omega
  obtain ⟨hm, m, hs1, hm2, hfl, hvt, hfm⟩ := plan_size (N : Int) (by omega) (by omega)
  obtain ⟨l, hl⟩ : ∃ l, planOf (N : Int) 3 2 = l := ⟨_, rfl⟩
  have HP := fun w => Lib.hid (bank_any (N : Int) l m w hm hl (by rw [← hl]; exact hs1) hm2)
  rw [hl] at hs1 hfl hvt
  obtain ⟨f, hf⟩ := Int.eq_ofNat_of_zero_le (show 0 ≤ l.flag by omega)
  have hf1 : f + N ≤ m := by omega
  have hf2 : f ≤ 63 := by omega
  obtain ⟨q, hq⟩ := Int.eq_ofNat_of_zero_le (Int.emod_nonneg a1 (show (N : Int) ≠ 0 by omega))
  have hq1 : q < N := by have := Int.emod_lt_of_pos a1 (show (0 : Int) < (N : Int) by omega); omega
  have hN0 : ¬ (N : Int) = 0 := by omega
  have HNC := fun w => Lib.hid (NewClaim_any l (q : Int) w (by omega) (by omega) (by omega) (by omega))
  have HHe := fun bb g xs w hb => Lib.hid (Held_any l bb g xs N w hb hvt (by omega) (by omega) (by omega))
  clear hm hl hfl
  obtain ⟨verts, arcs, workers, room, res, ex, hh, flag, pending, ask, count, sense, deques, size⟩ := l
  simp only at hs1 hvt hf
  subst hs1 hvt hf
  simp only [Lay.val, Lay.vals] at HNC HHe
  have HR := Lib.hid hr
  unfold maxLen at hmost
  clear hr hfm
  go_enter Try.func6, Try.ntmps6
  go_wp2_with fail
  refine (HP _).out.mono ?_
  rintro e w1 ⟨bb, g, rfl, hB, hbb, hg, hk⟩
  simp only [Lay.val, Lay.vals]
  have HB := Lib.hid hB
  have HK := Lib.hid hk
  have hsz := hk.size
  have hg1 := hB.row.lt
  have hb1 := hB.head.lt
  clear hB hk HP
  go_wp2_with fail
  rw [hq]
  go_loopw [36] (fun i wr => ∃ (k : Nat) (xs : List Int), i = .int .i64 k ∧ k ≤ m ∧ Hid (xs.length = m) ∧ Hid (Down xs f N) ∧ Hid (Bnk wr bb g xs) ∧ Hid (Blk wr w1.heap.size #[.int .i64 (N : Int), .int .i64 arcs, .int .i64 workers, .int .i64 room, .int .i64 res, .int .i64 ex, .int .i64 hh, .int .i64 (f : Int), .int .i64 pending, .int .i64 ask, .int .i64 count, .int .i64 sense, .int .i64 deques, .int .i64 (m : Int)] 25) ∧ Hid (Kept w wr)) (fun i _ => m - (intOf i).toNat)
  case atStart =>
    refine ⟨0, List.replicate m 0, rfl, by omega, Lib.hid (by simp), Lib.hid ?_, Lib.hid (HB.out.kept ((Upd.refl _ _).alloc _)), Lib.hid (Blk.new _ _ _), Lib.hid (HK.out.alloc _)⟩
    intro j hj
    rw [bget_in (by omega), List.getD_eq_getElem?_getD, List.getElem?_replicate]
    split <;> rfl
  case round =>
    obtain ⟨k, xs, rfl, hk, HX, HD, HB1, HL1, HK1⟩ := hrel
    clear HB HK
    by_cases hlt : k < m
    · have c7 : wr.cell? ⟨w1.heap.size, 7, none⟩ = some (.int .i64 (f : Int)) := by rw [HL1.out.cell]; rfl
      by_cases hdo : (k < f ∨ f + N ≤ k) ∧ k < hs.length
      · obtain ⟨hdo1, hdo2⟩ := hdo
        obtain ⟨b, off, rfl, hc⟩ := HR.out.at k (by simpa using hdo2)
        have hc2 : wr.cell? ⟨b, off + k, none⟩ = some (.int .i64 (hs.getD k 0)) := (keptCells HK1.out _ (by rw [hc]; simp [hdo2])).trans (by rw [hc]; simp [hdo2])
        generalize hs.getD k 0 = z at hc2
        have HD2 := Lib.hid (HD.out.put hdo1 z)
        have HX2 : Hid ((bput xs (k : Int) z).length = m) := Lib.hid (by rw [length_bput]; exact HX.out)
        have HSt := Lib.hid (Store_is HB1.out (k : Int) z _ rfl)
        clear hc HD HX HB1
        rcases hdo1 with hdo1 | hdo1
        · go_wp2_with fail
          refine HSt.out.mono ?_
          rintro e w2 ⟨rfl, hB, hU⟩
          have HB2 := Lib.hid hB
          have HL2 := Lib.hid (HL1.out.upd hU (fun e => by omega))
          have HK2 := Lib.hid (HK1.out.then hU (fun i h e => by omega))
          clear hB hU HL1 HK1 c7 hc2 HSt
          go_wp2_with fail
          go_roundw
          case rel => exact ⟨k + 1, _, by go_num, by omega, HX2, HD2, HB2, HL2, HK2⟩
          case measure => simp [intOf]; omega
        · have hdo3 : ¬ k < f := by omega
          go_wp2_with fail
          refine HSt.out.mono ?_
          rintro e w2 ⟨rfl, hB, hU⟩
          have HB2 := Lib.hid hB
          have HL2 := Lib.hid (HL1.out.upd hU (fun e => by omega))
          have HK2 := Lib.hid (HK1.out.then hU (fun i h e => by omega))
          clear hB hU HL1 HK1 c7 hc2 HSt
          go_wp2_with fail
          go_roundw
          case rel => exact ⟨k + 1, _, by go_num, by omega, HX2, HD2, HB2, HL2, HK2⟩
          case measure => simp [intOf]; omega
      · by_cases h1 : k < f
        · have h2 : ¬ k < hs.length := fun h => hdo ⟨.inl h1, h⟩
          clear hdo
          go_wp2_with fail
          go_roundw
          case rel => exact ⟨k + 1, xs, by go_num, by omega, HX, HD, HB1, HL1, HK1⟩
          case measure => simp [intOf]; omega
        · by_cases h2 : f + N ≤ k
          · have h3 : ¬ k < hs.length := fun h => hdo ⟨.inr h2, h⟩
            clear hdo
            go_wp2_with fail
            go_roundw
            case rel => exact ⟨k + 1, xs, by go_num, by omega, HX, HD, HB1, HL1, HK1⟩
            case measure => simp [intOf]; omega
          · clear hdo
            go_wp2_with fail
            go_roundw
            case rel => exact ⟨k + 1, xs, by go_num, by omega, HX, HD, HB1, HL1, HK1⟩
            case measure => simp [intOf]; omega
    · have HXm := HX.out
      have hin : (f : Int) + (q : Int) < xs.length := by omega
      have hin0 : 0 ≤ (f : Int) + (q : Int) := by omega
      have hz0 : bget xs ((f : Int) + (q : Int)) = 0 := HD.out q hq1
      have hy1 : bget (bput xs ((f : Int) + (q : Int)) 1) ((f : Int) + (q : Int)) = 1 := bget_put_same hin0 hin 1
      have HCa := fun c w (hc : Blk w c #[.int .i64 ((f : Int) + (q : Int)), .bool false, .bool false] 51) (hb : Bnk w bb g xs) => Lib.hid (Claim_step c bb g ((f : Int) + (q : Int)) false true xs (bput xs ((f : Int) + (q : Int)) 1) w hc hb (decide_eq_true ⟨⟨hin0, hin⟩, hz0⟩) (if_pos hz0))
      have HCb := fun c w (hc : Blk w c #[.int .i64 ((f : Int) + (q : Int)), .bool false, .bool false] 51) (hb : Bnk w bb g (bput xs ((f : Int) + (q : Int)) 1)) => Lib.hid (Claim_step c bb g ((f : Int) + (q : Int)) false false (bput xs ((f : Int) + (q : Int)) 1) (bput xs ((f : Int) + (q : Int)) 1) w hc hb (decide_eq_false fun h => by rw [hy1] at h; exact absurd h.2 (by decide)) (if_neg (by rw [hy1]; decide)))
      have HSt := fun w (hb : Bnk w bb g (bput xs ((f : Int) + (q : Int)) 1)) => Lib.hid (Store_is hb ((f : Int) + (q : Int)) 0 xs (bput_back hin0 hin hz0 1))
      have HLd := fun w (hb : Bnk w bb g xs) => Lib.hid (Load_is hb ((f : Int) + (q : Int)) 0 hz0)
      have hwr := HL1.out.lt
      clear HXm hin hin0 hz0 hy1
      go_wp2_with fail
      refine (All_bank HB1.out).mono ?_
      rintro e w2 ⟨_, rfl, ⟨g3, rfl, hI, hg3⟩, hk⟩
      have HI2 := Lib.hid hI
      have HB2 := Lib.hid (HB1.out.kept hk)
      have HL2 := Lib.hid (HL1.out.kept hk)
      have HK2 := Lib.hid (HK1.out.trans hk)
      have cl2 := HL2.out.cell
      clear hI hk HB1 HL1 HK1
      go_wp2_with fail
      refine (HNC _).out.mono ?_
      rintro e w3 ⟨rfl, hk⟩
      have HI3 := Lib.hid (HI2.out.kept hk)
      have HB3 := Lib.hid (HB2.out.kept hk)
      have HL3 := Lib.hid (HL2.out.kept hk)
      have HK3 := Lib.hid (HK2.out.trans hk)
      have hg33 := HI3.out.lt
      have hl33 := HL3.out.lt
      have hg31 := HB3.out.row.lt
      have hk33 := HK3.out.size
      clear hk HI2 HB2 HL2 HK2 cl2
      have HA := Lib.hid ((Upd.refl (fun _ => False) w3).alloc (.cells #[.int .i64 ((f : Int) + (q : Int)), .bool false, .bool false] 51) |>.alloc (.cells #[.int .i64 ((f : Int) + (q : Int)), .bool false, .bool false] 51))
      have HDb : Hid (Blk ((w3.alloc (.cells #[.int .i64 ((f : Int) + (q : Int)), .bool false, .bool false] 51)).alloc (.cells #[.int .i64 ((f : Int) + (q : Int)), .bool false, .bool false] 51)) (w3.heap.size + 1) #[.int .i64 ((f : Int) + (q : Int)), .bool false, .bool false] 51) := by
        have := Blk.new (w3.alloc (.cells #[.int .i64 ((f : Int) + (q : Int)), .bool false, .bool false] 51)) #[.int .i64 ((f : Int) + (q : Int)), .bool false, .bool false] 51
        apply Lib.hid
        simpa using this
      go_wp2_with fail
      refine (HCa _ _ ((Blk.new _ _ _).alloc _) (HB3.out.kept HA.out)).out.mono ?_
      rintro e w4 ⟨rfl, hC, hB, hU⟩
      have HC4 := Lib.hid hC
      have HB4 := Lib.hid hB
      have HD4 := Lib.hid (HDb.out.upd hU (fun e => by rcases e with e | e <;> omega))
      have HI4 := Lib.hid ((HI3.out.kept HA.out).upd hU (fun e => by rcases e with e | e <;> first | omega | (subst e; have := (HI3.out.same HB3.out.row).2; simp at this)))
      have HL4 := Lib.hid ((HL3.out.kept HA.out).upd hU (fun e => by rcases e with e | e <;> omega))
      have HK4 := Lib.hid ((HK3.out.trans HA.out).then hU (fun i h e => by rcases e with e | e <;> omega))
      have cc4 : w4.cell? ⟨w3.heap.size, 2, none⟩ = some (.bool true) := by rw [HC4.out.cell]; rfl
      have cd4 : w4.cell? ⟨w3.heap.size + 1, 2, none⟩ = some (.bool false) := by rw [HD4.out.cell]; rfl
      clear hC hB hU HA HDb HI3 HB3 HL3 HK3
      go_wp2_with fail
      refine (Got_any _ true _ cc4).mono ?_
      rintro e w' ⟨rfl, rfl⟩
      go_wp2_with fail
      refine (Got_any _ false _ cd4).mono ?_
      rintro e w' ⟨rfl, rfl⟩
      go_wp2_with fail
      refine (HCb _ _ HD4.out HB4.out).out.mono ?_
      rintro e w5 ⟨rfl, hC, hB, hU⟩
      have HC5 := Lib.hid (HC4.out.upd hU (fun e => by rcases e with e | e <;> omega))
      have HB5 := Lib.hid hB
      have HI5 := Lib.hid (HI4.out.upd hU (fun e => by rcases e with e | e <;> first | omega | (subst e; have := (HI4.out.same HB4.out.row).2; simp at this)))
      have HL5 := Lib.hid (HL4.out.upd hU (fun e => by rcases e with e | e <;> omega))
      have HK5 := Lib.hid (HK4.out.then hU (fun i h e => by rcases e with e | e <;> omega))
      have cd5 : w5.cell? ⟨w3.heap.size + 1, 2, none⟩ = some (.bool false) := by rw [hC.cell]; rfl
      have cl5 := HL5.out.cell
      clear hC hB hU HC4 HB4 HD4 HI4 HL4 HK4 cc4 cd4
      go_wp2_with fail
      refine (Got_any _ false _ cd5).mono ?_
      rintro e w' ⟨rfl, rfl⟩
      go_wp2_with fail
      refine (HSt _ HB5.out).out.mono ?_
      rintro e w6 ⟨rfl, hB, hU⟩
      have HC6 := Lib.hid (HC5.out.upd hU (fun e => by omega))
      have HB6 := Lib.hid hB
      have HI6 := Lib.hid (HI5.out.upd hU (fun e => by subst e; have := (HI5.out.same HB5.out.row).2; simp at this))
      have HL6 := Lib.hid (HL5.out.upd hU (fun e => by omega))
      have HK6 := Lib.hid (HK5.out.then hU (fun i h e => by omega))
      clear hB hU HC5 HB5 HI5 HL5 HK5 cd5 cl5
      go_wp2_with fail
      refine (Claim_done _ bb _ true _ HC6.out).mono ?_
      rintro e w7 ⟨rfl, hC, hU⟩
      have hcb : ¬ w3.heap.size = bb := by omega
      have HB7 := Lib.hid (HB6.out.upd hU (fun e => by omega) (fun e => by omega))
      have HI7 := Lib.hid (HI6.out.upd hU (fun e => by omega))
      have HL7 := Lib.hid (HL6.out.upd hU (fun e => by omega))
      have HK7 := Lib.hid (HK6.out.then hU (fun i h e => by omega))
      have cc7 : w7.cell? ⟨w3.heap.size, 2, none⟩ = some (.bool true) := by rw [hC.cell]; rfl
      have cl7 := HL7.out.cell
      clear hC hU HC6 HB6 HI6 HL6 HK6 hcb
      go_wp2_with fail
      refine (Got_any _ true _ cc7).mono ?_
      rintro e w' ⟨rfl, rfl⟩
      go_wp2_with fail
      refine (HLd _ HB7.out).out.mono ?_
      rintro e w' ⟨rfl, rfl⟩
      go_wp2_with fail
      refine (All_bank HB7.out).mono ?_
      rintro e w8 ⟨_, rfl, ⟨g4, rfl, hI, hg4⟩, hk⟩
      have HJ8 := Lib.hid hI
      have HI8 := Lib.hid (HI7.out.kept hk)
      have HB8 := Lib.hid (HB7.out.kept hk)
      have HL8 := Lib.hid (HL7.out.kept hk)
      have HK8 := Lib.hid (HK7.out.trans hk)
      have hxs : xs.length ≤ 524288 := by have := HX.out; omega
      clear hI hk HB7 HI7 HL7 HK7 cc7 cl7
      go_wp2_with fail
      go_loopw [115] (fun x wq => ∃ j : Nat, x = .int .i64 j ∧ j ≤ xs.length ∧ Hid (Kept w8 wq)) (fun x _ => xs.length - (intOf x).toNat)
      case atStart => exact ⟨0, rfl, by omega, Lib.hid (Upd.refl _ _)⟩
      case round =>
        obtain ⟨j, rfl, hj, HQ⟩ := hrel
        by_cases hlt2 : j < xs.length
        · have c1 : wr.cell? ⟨g3, j, none⟩ = some (.int .i64 (xs.getD j 0)) := by rw [(HI8.out.kept HQ.out).cell]; simp [hlt2]
          have c2 : wr.cell? ⟨g4, j, none⟩ = some (.int .i64 (xs.getD j 0)) := by rw [(HJ8.out.kept HQ.out).cell]; simp [hlt2]
          generalize xs.getD j 0 = z at c1 c2
          have j0 : (0 : Int) ≤ (j : Int) := by omega
          have j1 : (j : Int) < (xs.length : Int) := by omega
          have j2 : decide ((xs.length : Int) ≤ (j : Int)) = false := by simp; omega
          have j3 : decide (xs.length ≤ j) = false := by simp; omega
          have HQ2 : ∀ nq, Hid (Kept w8 (wr.drewN nq)) := fun nq => Lib.hid (HQ.out.trans ⟨rfl, rfl, rfl, Nat.le_refl _, fun _ _ _ => rfl⟩)
          go_wp2_with fail
          go_quiet (fail)
          have HQ3 := HQ2 nq
          clear HQ2 HQ
          go_wp2_with fail
          go_roundw
          case rel => exact ⟨j + 1, by go_num, by omega, HQ3⟩
          case measure => simp [intOf]; omega
        · have HL9 := Lib.hid (HL8.out.kept HQ.out)
          have HB9 := Lib.hid (HB8.out.kept HQ.out)
          have HK9 := Lib.hid (HK8.out.trans HQ.out)
          have cl9 := HL9.out.cell
          clear HL8 HB8 HK8 HQ HI8 HJ8
          go_wp2_with fail
          refine (HHe bb g xs _ HB9.out).out.mono ?_
          rintro e w10 ⟨v, rfl, hO, hk⟩
          rw [heldOf_down HD.out] at hO
          obtain ⟨a2, c2, rfl, _⟩ := Rd.owns hO
          have HK10 := Lib.hid (HK9.out.trans hk)
          clear hO hk HK9 HB9 HL9 cl9
          go_wp2_with fail
          refine (awake_any _).mono ?_
          rintro e w11 ⟨rfl, hk⟩
          go_wp2
          go_ret
          exact ⟨rfl, HK10.out.trans hk⟩

theorem flagsElse_walk (a0 a1 : Int) (a : Option Addr) (cap : Nat) (hs : List Int) (w : World) (w0 : (Lit.int .u8 a0).wf = true) (w1 : (Lit.int .u8 a1).wf = true) (h : IntRow .i64 w a cap hs) (_h2 : ∀ n ∈ hs, (Lit.int .i64 n).wf = true) :
    Calls Try.prog 6 #[.int .u8 a0, .int .u8 a1, .slice a hs.length cap] w fun e w' => e = .returned (.bool true) ∧ Kept w w' :=
  flagsElse_core a0 a1 a cap hs w (bounds_u8 w0) (bounds_u8 w1) h.rd h.le h.most
end Go.Proofs.Ytnhedibdecileaa
