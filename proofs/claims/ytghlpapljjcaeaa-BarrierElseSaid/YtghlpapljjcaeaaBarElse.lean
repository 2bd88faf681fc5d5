/- The law BarrierElse. -/
import Derived.Test.YtghlpapljjcaeaaAwake14
import Derived.Test.YtghlpapljjcaeaaRowsRd
namespace Go.Proofs.Ytghlpapljjcaeaa
set_option linter.unusedVariables false
open Go.RowKit

theorem bput_at {xs : List Int} {i : Nat} (v : Int) : bput xs (i : Int) v = xs.set i v := by rw [bput_in v (by omega)]; simp
theorem bq_put (L : List Int) (c q v : Int) (i : Nat) (h9 : ¬ i = 9) (h10 : ¬ i = 10) : bput (bq L c q) (i : Int) v = bq (L.set i v) c q := by
  rw [bput_at]
  unfold bq
  simp only [bput9, bput10]
  rw [List.set_comm _ _ (Ne.symm h10), List.set_comm _ _ (Ne.symm h9)]
theorem bq_get (L : List Int) (c q q' : Int) (i : Nat) (h10 : ¬ i = 10) : (bq L c q).getD i 0 = (bq L c q').getD i 0 := by
  unfold bq
  simp only [bput9, bput10]
  simp [List.getD, List.getElem?_set, Ne.symm h10]
/-- What the law holds: the plan's box, the bank. -/
structure BE (w : World) (pb bb g : Nat) (L : List Int) (c q : Int) (W : World) : Prop where
  box : Blk W pb #[.int .i64 2, .int .i64 1, .int .i64 1, .int .i64 2, .int .i64 0, .int .i64 1, .int .i64 3, .int .i64 5, .int .i64 7, .int .i64 8, .int .i64 9, .int .i64 10, .int .i64 11, .int .i64 15] 28
  bank : Bnk W bb g (bq L c q)
  kp : Kept w W
  len : L.length = 15
  old : w.heap.size ≤ g
  ne : ¬ pb = g
theorem BE.kept {w W W' : World} {pb bb g : Nat} {L : List Int} {c q : Int} (h : BE w pb bb g L c q W) (hk : Kept W W') : BE w pb bb g L c q W' := ⟨h.box.kept hk, h.bank.kept hk, h.kp.trans hk, h.len, h.old, h.ne⟩
theorem BE.acc {w W W' : World} {pb bb g : Nat} {L L' : List Int} {c q c' q' : Int} (h : BE w pb bb g L c q W) (hB : Bnk W' bb g (bq L' c' q')) (hU : Upd (fun k => k = g) W W') (hl : L'.length = 15) : BE w pb bb g L' c' q' W' :=
  ⟨h.box.upd hU h.ne, hB, h.kp.then hU (fun i hi e => by have := h.old; omega), hl, h.old, h.ne⟩
theorem BE.step {w W W' : World} {pb bb g mb : Nat} {L : List Int} {m' : MS} {c q c' q' : Int} {z : Bool} {e : Ending} (h : BE w pb bb g L c q W) (hs : Stp mb bb g 1 15 [m'] (bq L c' q') z W e W') (h1 : ¬ pb = mb) (h2 : w.heap.size ≤ mb) : BE w pb bb g L c' q' W' :=
  ⟨h.box.upd hs.2.2.2 (fun e => by have := h.ne; omega), hs.2.2.1, h.kp.then hs.2.2.2 (fun i hi e => by have := h.old; omega), h.len, h.old, h.ne⟩
theorem newArr_one (w : World) : Calls Try.prog 13 #[.agg #[.int .i64 2, .int .i64 1, .int .i64 1, .int .i64 2, .int .i64 0, .int .i64 1, .int .i64 3, .int .i64 5, .int .i64 7, .int .i64 8, .int .i64 9, .int .i64 10, .int .i64 11, .int .i64 15]] w fun e w' => e = .returned (.agg #[.int .i64 2, .int .i64 1, .int .i64 1, .int .i64 2, .int .i64 0, .int .i64 1, .int .i64 3, .int .i64 5, .int .i64 7, .int .i64 8, .int .i64 9, .int .i64 10, .int .i64 11, .int .i64 15, .int .u8 0, .int .i64 0, .bool false]) ∧ Kept w w' := NewArrive_any 1 15 w
/-- One machine by itself, behind i steps. -/
def At1 (q : Int) (i : Nat) (m : MS) (c q' : Int) : Prop := (i = 0 ∧ m = ⟨0, 0, false⟩ ∧ c = 1 ∧ q' = q) ∨ (i = 1 ∧ m = ⟨1, 1 - q, false⟩ ∧ c = 1 ∧ q' = q) ∨ (i = 2 ∧ m = ⟨2, 1 - q, true⟩ ∧ c = 0 ∧ q' = q) ∨ (i = 3 ∧ m = ⟨3, 1 - q, true⟩ ∧ c = 1 ∧ q' = q) ∨ (i = 4 ∧ m = ⟨5, 1 - q, true⟩ ∧ c = 1 ∧ q' = 1 - q)
theorem At1.next {q : Int} {i : Nat} {m : MS} {c q0 : Int} (hq : q = 0 ∨ q = 1) (h : At1 q i m c q0) (hi : i < 4) : ∃ m' c' q' z, bgo 1 m c q0 = (m', c', q') ∧ (m'.nx == 5) = z ∧ ((i : Int) == 3) = z ∧ 0 ≤ m.nx ∧ m.nx ≤ 5 ∧ At1 q (i + 1) m' c' q' := by
  rcases h with ⟨rfl, rfl, rfl, rfl⟩ | ⟨rfl, rfl, rfl, rfl⟩ | ⟨rfl, rfl, rfl, rfl⟩ | ⟨rfl, rfl, rfl, rfl⟩ | ⟨rfl, rfl, rfl, rfl⟩
  · refine ⟨⟨1, 1 - q0, false⟩, 1, q0, false, ?_, rfl, rfl, by decide, by decide, .inr (.inl ⟨rfl, rfl, rfl, rfl⟩)⟩
    rcases hq with rfl | rfl <;> simp [bgo]
  · exact ⟨⟨2, 1 - q0, true⟩, 0, q0, false, by simp [bgo, wrap64], rfl, rfl, by simp, by simp, .inr (.inr (.inl ⟨rfl, rfl, rfl, rfl⟩))⟩
  · exact ⟨⟨3, 1 - q0, true⟩, 1, q0, false, by simp [bgo], rfl, rfl, by simp, by simp, .inr (.inr (.inr (.inl ⟨rfl, rfl, rfl, rfl⟩)))⟩
  · exact ⟨⟨5, 1 - q0, true⟩, 1, 1 - q0, true, by simp [bgo], rfl, rfl, by simp, by simp, .inr (.inr (.inr (.inr ⟨rfl, rfl, rfl, rfl⟩)))⟩
  · omega
theorem all_be {w : World} {bb g : Nat} {L : List Int} {c q : Int} (h : Bnk w bb g (bq L c q)) (hl : L.length = 15) :
    Calls Try.prog 18 #[.pointer (some ⟨bb, 0, none⟩)] w fun e w' => ∃ g3, e = .returned (.slice (some ⟨g3, 0, none⟩) 15 15) ∧ Blk w' g3 ((bq L c q).map (Value.int .i64)).toArray 2 ∧ w.heap.size ≤ g3 ∧ Kept w w' := by
  refine (All_bank h).mono ?_
  rintro e w' ⟨_, rfl, ⟨g3, rfl, hI, hg3⟩, hk⟩
  exact ⟨g3, by rw [bq_len, hl], hI, hg3, hk⟩

set_option maxRecDepth 100000 in
set_option maxHeartbeats 4000000 in
theorem barrierElse_walk (s0 : Option Addr) (cap0 : Nat) (z0 : List Int) (a1 : Int) (w : World) (w0 : IntRow .i64 w s0 cap0 z0) (_m0 : ∀ n ∈ z0, (Lit.int .i64 n).wf = true) (w1 : (Lit.int .u8 a1).wf = true) :
    Calls Try.prog 6 #[.slice s0 z0.length cap0, .int .u8 a1] w fun e w' => e = .returned (.bool true) ∧ Kept w w' := by
  have HP := fun w => Lib.hid (bank_any 1 15 (by omega) (by omega) rfl w)
  have b1 := bounds_u8 w1
  obtain ⟨M, hM⟩ := Int.eq_ofNat_of_zero_le (show 0 ≤ 1 + a1 % 20 by omega)
  have hM1 : M ≤ 20 := by omega
  have HR := Lib.hid w0.rd
  have hle := w0.le
  have hmost := w0.most
  unfold maxLen at hmost
  clear w0 _m0 w1
  go_enter Try.func6, Try.ntmps6
  go_wp2_with fail
  refine (HP _).out.mono ?_
  rintro e w1 ⟨bb, g, rfl, hB, hbb, hg, hk⟩
  obtain ⟨pb, hpb⟩ : ∃ pb, w1.heap.size = pb := ⟨_, rfl⟩
  have S0 : Hid (BE w pb bb g (List.replicate 15 0) 1 0 (w1.alloc (.cells #[.int .i64 2, .int .i64 1, .int .i64 1, .int .i64 2, .int .i64 0, .int .i64 1, .int .i64 3, .int .i64 5, .int .i64 7, .int .i64 8, .int .i64 9, .int .i64 10, .int .i64 11, .int .i64 15] 28))) := Lib.hid (by
    have h1 := hB.row.lt
    refine ⟨Blk.newAt _ _ _ _ hpb.symm, ?_, hk.alloc _, by simp, hg, by omega⟩
    exact Bnk.kept (show Bnk w1 bb g (bq (List.replicate 15 0) 1 0) from hB) ((Upd.refl _ _).alloc _))
  have HPB := Lib.hid hpb
  clear hB hk HP hbb hg hpb
  go_wp2_with fail
  rw [HPB.out]
  clear HPB
  go_loopw [25] (fun x wr => ∃ (i : Nat) (L : List Int), x = .int .i64 i ∧ i ≤ 15 ∧ Hid (BE w pb bb g L 1 0 wr)) (fun x _ => 15 - (intOf x).toNat)
  case atStart => exact ⟨0, _, rfl, by omega, S0⟩
  case round =>
    obtain ⟨i, L, rfl, hi, S1⟩ := hrel
    clear S0
    have cb := S1.out.box.cell
    by_cases hlt : i < 15
    · by_cases hz : i < z0.length
      · by_cases h9 : i = 9
        · have hz9 : ((i : Int) != 9) = false := by simp; omega
          clear h9
          go_wp2_with fail
          go_roundw
          case rel => exact ⟨i + 1, L, by go_num, by omega, S1⟩
          case measure => simp [intOf]; omega
        · by_cases h10 : i = 10
          · have hz9 : ((i : Int) != 9) = true := by simp; omega
            have hz10 : ((i : Int) != 10) = false := by simp; omega
            clear h9 h10
            go_wp2_with fail
            go_roundw
            case rel => exact ⟨i + 1, L, by go_num, by omega, S1⟩
            case measure => simp [intOf]; omega
          · have hz9 : ((i : Int) != 9) = true := by simp; omega
            have hz10 : ((i : Int) != 10) = true := by simp; omega
            obtain ⟨b', off', rfl, hc2⟩ := HR.out.at i (by simpa using hz)
            have c2 : w.cell? ⟨b', off' + i, none⟩ = some (.int .i64 (z0.getD i 0)) := by rw [hc2]; simp [hz]
            have c2' : wr.cell? ⟨b', off' + i, none⟩ = some (.int .i64 (z0.getD i 0)) := (keptCells S1.out.kp _ (by rw [c2]; rfl)).trans c2
            obtain ⟨v, hv⟩ : ∃ v, z0.getD i 0 = v := ⟨_, rfl⟩
            rw [hv] at c2'
            have HS := Lib.hid (Store_is S1.out.bank (i : Int) v _ (bq_put L 1 0 v i h9 h10))
            clear c2 hc2 h9 h10 hv
            go_wp2_with fail
            refine HS.out.mono ?_
            rintro e w3 ⟨rfl, hB, hU⟩
            have S2 := Lib.hid (S1.out.acc hB hU (by simpa using S1.out.len))
            clear hB hU HS S1 cb c2'
            go_wp2_with fail
            go_roundw
            case rel => exact ⟨i + 1, _, by go_num, by omega, S2⟩
            case measure => simp [intOf]; omega
      · go_wp2_with fail
        go_roundw
        case rel => exact ⟨i + 1, L, by go_num, by omega, S1⟩
        case measure => simp [intOf]; omega
    · as_aux_lemma =>
        go_wp2_with fail
        clear hlt cb
        refine (all_be S1.out.bank S1.out.len).mono ?_
        rintro e w3 ⟨g3, rfl, hI, hg3, hk⟩
        have S2 := Lib.hid (S1.out.kept hk)
        have HI := Lib.hid hI
        have hg3w : Hid (w.heap.size ≤ g3 ∧ ¬ g3 = g) := Lib.hid (by have := S1.out.kp.size; have := S1.out.bank.row.lt; omega)
        clear hI hk S1 hg3
        obtain ⟨wo, rfl⟩ : ∃ wo : World, wo = wr := ⟨_, rfl⟩
        go_wp2_with fail
        go_loopw [58] (fun x wr => ∃ (k : Nat) (q : Int), x = .int .i64 k ∧ k ≤ M ∧ Hid ((k : Int) % 2 = q) ∧ Hid (BE w pb bb g L 1 q wr) ∧ Hid (Blk wr g3 ((bq L 1 0).map (Value.int .i64)).toArray 2)) (fun x _ => M - (intOf x).toNat)
        case atStart => exact ⟨0, 0, rfl, by omega, Lib.hid rfl, S2, HI⟩
        case round =>
          obtain ⟨k, q, rfl, hk, HQ, S3, HI3⟩ := hrel
          clear S2 HI
          have cb := S3.out.box.cell
          by_cases hlt : k < M
          · have hkM : (k : Int) < 1 + a1 % 20 := by omega
            clear hM
            as_aux_lemma =>
              go_upto_region 16 with (fail)
              refine (newArr_one _).mono ?_
              rintro e w5 ⟨rfl, hk⟩
              have S5 := Lib.hid (S3.out.kept hk)
              have HI5 := Lib.hid (HI3.out.kept hk)
              have c5 := hk.size
              clear hk S3 HI3 cb
              as_aux_lemma =>
                go_upto_region 15 with (fail)
                obtain ⟨w6, hw6⟩ : ∃ w6, w5.alloc (.cells #[.int .i64 2, .int .i64 1, .int .i64 1, .int .i64 2, .int .i64 0, .int .i64 1, .int .i64 3, .int .i64 5, .int .i64 7, .int .i64 8, .int .i64 9, .int .i64 10, .int .i64 11, .int .i64 15, .int .u8 0, .int .i64 0, .bool false] 46) = w6 := ⟨_, rfl⟩
                obtain ⟨ab, hab⟩ : ∃ ab, w5.heap.size = ab := ⟨_, rfl⟩
                have S6 : Hid (BE w pb bb g L 1 q w6) := Lib.hid (by rw [← hw6]; exact S5.out.kept ((Upd.refl _ _).alloc _))
                have HI6 : Hid (Blk w6 g3 ((bq L 1 0).map (Value.int .i64)).toArray 2) := Lib.hid (by rw [← hw6]; exact HI5.out.alloc _)
                have HA6 : Hid (Blk w6 ab #[.int .i64 2, .int .i64 1, .int .i64 1, .int .i64 2, .int .i64 0, .int .i64 1, .int .i64 3, .int .i64 5, .int .i64 7, .int .i64 8, .int .i64 9, .int .i64 10, .int .i64 11, .int .i64 15, .int .u8 0, .int .i64 0, .bool false] 46) := Lib.hid (by rw [← hw6]; exact Blk.newAt _ _ _ _ hab.symm)
                have hgeo : Hid (w.heap.size ≤ ab ∧ ¬ ab = pb ∧ ¬ ab = g ∧ ¬ ab = bb ∧ ¬ ab = g3) := Lib.hid (by
                  have h1 := S5.out.kp.size
                  have h2 := S5.out.box.lt
                  have h3 := S5.out.bank.row.lt
                  have h4 := S5.out.bank.head.lt
                  have h5 := HI5.out.lt
                  omega)
                rw [hw6, hab]
                clear S5 HI5 c5 hw6 hab
                as_aux_lemma =>
                  have ca := HA6.out.cell
                  have la := HA6.out.lt
                  go_upto_region 16 with (fail)
                  obtain ⟨w7, hw7⟩ : ∃ w7, w6.alloc (.cells #[.int .i64 2, .int .i64 1, .int .i64 1, .int .i64 2, .int .i64 0, .int .i64 1, .int .i64 3, .int .i64 5, .int .i64 7, .int .i64 8, .int .i64 9, .int .i64 10, .int .i64 11, .int .i64 15, .int .u8 0, .int .i64 0, .bool false] 46) = w7 := ⟨_, rfl⟩
                  obtain ⟨cc, hcc⟩ : ∃ cc, w6.heap.size = cc := ⟨_, rfl⟩
                  have S7 : Hid (BE w pb bb g L 1 q w7) := Lib.hid (by rw [← hw7]; exact S6.out.kept ((Upd.refl _ _).alloc _))
                  have HI7 : Hid (Blk w7 g3 ((bq L 1 0).map (Value.int .i64)).toArray 2) := Lib.hid (by rw [← hw7]; exact HI6.out.alloc _)
                  have HA7 : Hid (Mach w7 ab 1 15 [⟨0, 0, false⟩]) := Lib.hid (by rw [← hw7]; exact Mach.one (HA6.out.alloc _))
                  have HC7 : Hid (Mach w7 cc 1 15 [⟨0, 0, false⟩]) := Lib.hid (by rw [← hw7]; exact Mach.one (Blk.newAt _ _ _ _ hcc.symm))
                  have hgeo2 : Hid (¬ cc = ab ∧ ¬ cc = g) := Lib.hid (by
                    have h3 := S6.out.bank.row.lt
                    omega)
                  rw [hw7, hcc]
                  clear S6 HI6 HA6 hw7 hcc ca la
                  as_aux_lemma =>
                    have hq : Hid (q = 0 ∨ q = 1) := Lib.hid (by have := HQ.out; omega)
                    have hkq : Hid ((k : Int) % 2 = q ∧ (k : Int).tmod 2 = q ∧ ((k : Int) + 1) % 2 = 1 - q) := Lib.hid (by have := HQ.out; rw [Int.tmod_eq_emod_of_nonneg (by omega)]; omega)
                    have hzz : ∀ z : Bool, (z != z) = false := fun z => by cases z <;> rfl
                    clear HQ
                    go_wp2_with fail
                    go_loopw [64] (fun x wr => ∃ (i : Nat) (m : MS) (c q' : Int), x = .int .i64 i ∧ i ≤ 4 ∧ Hid (At1 q i m c q') ∧ Hid (BE w pb bb g L c q' wr) ∧ Hid (Mach wr ab 1 15 [m]) ∧ Hid (Mach wr cc 1 15 [⟨0, 0, false⟩]) ∧ Hid (Blk wr g3 ((bq L 1 0).map (Value.int .i64)).toArray 2)) (fun x _ => 4 - (intOf x).toNat)
                    case atStart => exact ⟨0, _, _, _, rfl, by omega, Lib.hid (.inl ⟨rfl, rfl, rfl, rfl⟩), S7, HA7, HC7, HI7⟩
                    case round =>
                      obtain ⟨i, m, c, q', rfl, hi, HAt, S8, HA8, HC8, HI8⟩ := hrel
                      clear S7 HA7 HC7 HI7
                      by_cases hlt2 : i < 4
                      · as_aux_lemma =>
                        obtain ⟨m', c', q2, z, hg, hz, hz3, hm0, hm5, hnx⟩ := HAt.out.next hq.out hlt2
                        have HS := Lib.hid (one_bq hg hz hm0 hm5 HA8.out S8.out.bank (by have := S8.out.len; omega) ⟨hgeo.out.2.2.1, hgeo.out.2.2.2.1⟩)
                        have HAn := Lib.hid hnx
                        have hzz := hzz z
                        clear HAt hg hz hm0 hm5 hnx
                        go_wp2_with fail
                        refine HS.out.mono ?_
                        rintro e w9 hs
                        obtain rfl := hs.1
                        have S9 := Lib.hid (S8.out.step hs (fun e => hgeo.out.2.1 e.symm) hgeo.out.1)
                        have HA9 := Lib.hid hs.2.1
                        have HC9 := Lib.hid (HC8.out.upd hs.2.2.2 (fun e => by have := hgeo2.out; omega))
                        have HI9 := Lib.hid (HI8.out.upd hs.2.2.2 (fun e => by have := hgeo.out; have := hg3w.out; omega))
                        clear hs HS S8 HA8 HC8 HI8
                        go_wp2_with fail
                        clear hz3 hzz
                        go_roundw
                        case rel => exact ⟨i + 1, m', c', q2, by go_num, by omega, HAn, S9, HA9, HC9, HI9⟩
                        case measure => simp [intOf]; omega
                      · as_aux_lemma =>
                        obtain ⟨rfl, rfl, rfl⟩ : m = ⟨5, 1 - q, true⟩ ∧ c = 1 ∧ q' = 1 - q := by
                          rcases HAt.out with ⟨h, _⟩ | ⟨h, _⟩ | ⟨h, _⟩ | ⟨h, _⟩ | ⟨_, h1, h2, h3⟩
                          · omega
                          · omega
                          · omega
                          · omega
                          · exact ⟨h1, h2, h3⟩
                        clear HAt hzz
                        have cb := S8.out.box.cell
                        go_wp2_with fail
                        refine (one_last (z := true) HA8.out rfl).mono ?_
                        rintro e w' ⟨rfl, rfl⟩
                        go_wp2_with fail
                        refine (one_last (z := false) HC8.out rfl).mono ?_
                        rintro e w' ⟨rfl, rfl⟩
                        have HS := Lib.hid (one_bq (m := ⟨5, 1 - q, true⟩) (m' := ⟨5, 1 - q, true⟩) (c := 1) (q := 1 - q) (c' := 1) (q' := 1 - q) (z := true) (by simp [bgo]) rfl (by simp) (by simp) HA8.out S8.out.bank (by have := S8.out.len; omega) ⟨hgeo.out.2.2.1, hgeo.out.2.2.2.1⟩)
                        clear cb
                        go_wp2_with fail
                        refine HS.out.mono ?_
                        rintro e w9 hs
                        obtain rfl := hs.1
                        have S9 := Lib.hid (S8.out.step hs (fun e => hgeo.out.2.1 e.symm) hgeo.out.1)
                        have HI9 := Lib.hid (HI8.out.upd hs.2.2.2 (fun e => by have := hgeo.out; have := hg3w.out; omega))
                        clear hs HS S8 HA8 HC8 HI8
                        have cb := S9.out.box.cell
                        go_wp2_with fail
                        refine (load_9 S9.out.bank (by have := S9.out.len; omega)).mono ?_
                        rintro e w' ⟨rfl, rfl⟩
                        go_wp2_with fail
                        refine (load_10 S9.out.bank (by have := S9.out.len; omega)).mono ?_
                        rintro e w' ⟨rfl, rfl⟩
                        have hk1 := hkq.out.1
                        have hk2 := hkq.out.2.1
                        have hq0 : Hid (((k + 1 : Nat) : Int) % 2 = 1 - q) := Lib.hid (by have := hkq.out.2.2; omega)
                        have hqq : -1 ≤ q ∧ q ≤ 2 := by have := hq.out; omega
                        obtain ⟨q1, hq1⟩ : ∃ q1, 1 - q = q1 := ⟨_, rfl⟩
                        rw [hq1] at S9 hq0
                        clear cb
                        go_wp2_with fail
                        clear hq1
                        go_roundw
                        case rel => exact ⟨k + 1, q1, by go_num, by omega, hq0, S9, HI9⟩
                        case measure => simp [intOf]; omega
          · have hkM : ¬ (k : Int) < 1 + a1 % 20 := by omega
            clear hM
            as_aux_lemma =>
              clear cb
              go_wp2_with fail
              refine (all_be S3.out.bank S3.out.len).mono ?_
              rintro e w4 ⟨g4, rfl, hI, hg4, hk⟩
              have S4 := Lib.hid (S3.out.kept hk)
              have HI4 := Lib.hid (HI3.out.kept hk)
              have HJ4 := Lib.hid hI
              clear hI hk S3 HI3 hg4
              have cb := S4.out.box.cell
              obtain ⟨wo2, rfl⟩ : ∃ wo2 : World, wo2 = w4 := ⟨_, rfl⟩
              go_wp2_with fail
              go_loopw [105] (fun x wr => ∃ i : Nat, x = .int .i64 i ∧ i ≤ 15 ∧ Hid (BE w pb bb g L 1 q wr) ∧ Hid (Blk wr g3 ((bq L 1 0).map (Value.int .i64)).toArray 2) ∧ Hid (Blk wr g4 ((bq L 1 q).map (Value.int .i64)).toArray 2)) (fun x _ => 15 - (intOf x).toNat)
              case atStart => exact ⟨0, rfl, by omega, S4, HI4, HJ4⟩
              case round =>
                obtain ⟨i, rfl, hi, S5, HI5, HJ5⟩ := hrel
                clear S4 HI4 HJ4 cb
                have cb := S5.out.box.cell
                by_cases hlt : i < 15
                · have c1 : wr.cell? ⟨g3, i, none⟩ = some (.int .i64 ((bq L 1 0).getD i 0)) := by rw [HI5.out.cell]; have := S5.out.len; simp [bq_len, this, hlt]
                  have c2 : wr.cell? ⟨g4, i, none⟩ = some (.int .i64 ((bq L 1 q).getD i 0)) := by rw [HJ5.out.cell]; have := S5.out.len; simp [bq_len, this, hlt]
                  have hK : ∀ nq, Hid (BE w pb bb g L 1 q (wr.drewN nq) ∧ Blk (wr.drewN nq) g3 ((bq L 1 0).map (Value.int .i64)).toArray 2 ∧ Blk (wr.drewN nq) g4 ((bq L 1 q).map (Value.int .i64)).toArray 2) := fun nq => Lib.hid (by
                    have hk : Kept wr (wr.drewN nq) := ⟨rfl, rfl, rfl, Nat.le_refl _, fun _ _ _ => rfl⟩
                    exact ⟨S5.out.kept hk, HI5.out.kept hk, HJ5.out.kept hk⟩)
                  have hi0 : (0 : Int) ≤ (i : Int) := by omega
                  have hi15 : (i : Int) < 15 := by omega
                  have hge1 : decide ((15 : Int) ≤ (i : Int)) = false := by simp; omega
                  have hge2 : decide (15 ≤ i) = false := by simp; omega
                  by_cases h10 : i = 10
                  · have hz10 : ((i : Int) != 10) = false := by simp; omega
                    clear h10
                    go_wp2_with fail
                    go_quiet (fail)
                    have hK := hK nq
                    clear S5 HI5 HJ5
                    go_wp2_with fail
                    go_roundw
                    case rel => exact ⟨i + 1, by go_num, by omega, Lib.hid hK.out.1, Lib.hid hK.out.2.1, Lib.hid hK.out.2.2⟩
                    case measure => simp [intOf]; omega
                  · have hz10 : ((i : Int) != 10) = true := by simp; omega
                    rw [bq_get L 1 q 0 i h10] at c2
                    obtain ⟨x, hx⟩ : ∃ x, (bq L 1 0).getD i 0 = x := ⟨_, rfl⟩
                    rw [hx] at c1 c2
                    clear h10 hx
                    go_wp2_with fail
                    go_quiet (fail)
                    have hK := hK nq
                    clear S5 HI5 HJ5
                    go_wp2_with fail
                    go_roundw
                    case rel => exact ⟨i + 1, by go_num, by omega, Lib.hid hK.out.1, Lib.hid hK.out.2.1, Lib.hid hK.out.2.2⟩
                    case measure => simp [intOf]; omega
                · go_wp2_with fail
                  refine (awake_any _).mono ?_
                  rintro e w6 ⟨rfl, hk6⟩
                  go_wp2
                  go_ret
                  exact ⟨rfl, S5.out.kp.trans hk6⟩
end Go.Proofs.Ytghlpapljjcaeaa
