/- The law DequeDone (printed by gen_deq.py). -/
import Derived.Test.YtdgkemadhooogaaDeqLaw
import Derived.Test.YtdgkemadhooogaaDeqDuo
import Derived.Deep.RegionHeld3
import Derived.Deep.CutRange
import Derived.StillTailTactics
import Derived.Deep.MidRow
import Derived.Handy
import Derived.Deep.MidRow
namespace Go.Proofs.Ytdgkemadhooogaa
set_option linter.unusedVariables false
set_option linter.unusedSimpArgs false
open Go.RowKit
attribute [local go_sem] cell?_ext

theorem probe1 {P : Program} {ops : Array Oper} {a : Act} {w : World} {Q : Exit → Act → World → Prop} {op : Oper} {rest : List Oper} (t : TypeId) (x y : Operand) (ho : op.op = .store t x y) (h : False) : wpList P ops Q (op :: rest) a w := h.elim
set_option maxRecDepth 100000 in
set_option maxHeartbeats 16000000 in
theorem dequeDone_core (vts ahead knd atv v : Int) (w : World) (hv0 : 0 ≤ vts) (hv1 : vts ≤ 255) (ha0 : 0 ≤ ahead) (ha1 : ahead ≤ 255) (hk0 : 0 ≤ knd) (hk1 : knd ≤ 255) (hat0 : 0 ≤ atv) (hat1 : atv ≤ 255) :
    Calls Try.prog 6 #[.int .u8 vts, .int .u8 ahead, .int .u8 knd, .int .u8 atv, .int .i64 v] w fun e w' => e = .returned (.bool true) ∧ Kept w w' := by
  have HZ14 : Hid ((Try.prog.info? 24).map (·.size) = some 14) := Lib.hid (by kernel_rfl)
  have HZo : Hid ((Try.prog.info? 51).map (·.size) = some 21) := Lib.hid (by kernel_rfl)
  have HZt : Hid ((Try.prog.info? 45).map (·.size) = some 22) := Lib.hid (by kernel_rfl)
  have HZu : Hid ((Try.prog.info? 48).map (·.size) = some 22) := Lib.hid (by kernel_rfl)
  obtain ⟨r, S, hS, hS2, hrm, hr13, hvr, hr8, htp⟩ := plan_geo (1 + vts % 16) 1 (by omega) (by omega)
  obtain ⟨tp, hG0, htp0, hfp⟩ := htp 0 (by omega) (by omega)
  obtain ⟨l, hl⟩ : ∃ l, planOf (1 + vts % 16) 0 1 = l := ⟨_, rfl⟩
  have HB := fun w => Lib.hid (bank_any (1 + vts % 16) 1 w (by unfold May; omega) l hl S (by rw [← hl]; exact hS) hS2)
  rw [hl] at hrm hG0
  have HRW0 : Hid (Row tp r (List.replicate S 0) 0 []) := Lib.hid (row_zero hfp)
  have HG := Lib.hid hG0
  have HNU := fun v w => Lib.hid (NewPush_any l 0 v w)
  have HNP := fun w => Lib.hid (NewPop_any l 0 w)
  have HNS := fun w => Lib.hid (NewSteal_any l 0 w)
  clear hS hS2 hrm hr13 hvr hr8 htp hG0 htp0 hfp hl
  obtain ⟨verts, arcs, workers, room, res, lex, hh, flag, pending, ask, count, sense, deques, size⟩ := l
  simp only [Lay.val, Lay.vals, PL] at HB HNU HNP HNS
  have hq0 : 0 ≤ vts % 16 := Int.emod_nonneg _ (by omega)
  have hq1 : vts % 16 < 16 := Int.emod_lt_of_pos _ (by omega)
  have hwv : wrap64 (1 + vts % 16) = 1 + vts % 16 := by unfold wrap64; omega
  obtain ⟨N, hN⟩ : ∃ N : Nat, ahead % 10 = (N : Int) := ⟨(ahead % 10).toNat, by have := Int.emod_nonneg ahead (show (10 : Int) ≠ 0 by omega); omega⟩
  have hN9 : N ≤ 9 := by have := Int.emod_lt_of_pos ahead (show (0 : Int) < 10 by omega); omega
  have HNN := Lib.hid hN
  obtain ⟨M, hM⟩ : ∃ M : Nat, atv % 6 = (M : Int) := ⟨(atv % 6).toNat, by have := Int.emod_nonneg atv (show (6 : Int) ≠ 0 by omega); omega⟩
  have hM5 : M ≤ 5 := by have := Int.emod_lt_of_pos atv (show (0 : Int) < 6 by omega); omega
  have HMM := Lib.hid hM
  obtain ⟨j, hj⟩ : ∃ j : Nat, knd % 3 = (j : Int) := ⟨(knd % 3).toNat, by have := Int.emod_nonneg knd (show (3 : Int) ≠ 0 by omega); omega⟩
  have hj3 : j = 0 ∨ j = 1 ∨ j = 2 := by have := Int.emod_lt_of_pos knd (show (0 : Int) < 3 by omega); omega
  have HJ := Lib.hid hj
  clear hN hM hj
  go_enter Try.func6, Try.ntmps6
  go_wp2_with fail
  refine (HB _).out.mono ?_
  rintro e w1 ⟨bb, g, rfl, hb, h1, h2, hk⟩
  simp only [Lay.val, Lay.vals]
  go_upto_region 2 with (fail)
  have hl1 := Blk.new w1 #[.int .i64 verts, .int .i64 arcs, .int .i64 workers, .int .i64 room, .int .i64 res, .int .i64 lex, .int .i64 hh, .int .i64 flag, .int .i64 pending, .int .i64 ask, .int .i64 count, .int .i64 sense, .int .i64 deques, .int .i64 size] 24
  have hk1 := (Upd.refl (fun _ => False) w1).alloc (.cells #[.int .i64 verts, .int .i64 arcs, .int .i64 workers, .int .i64 room, .int .i64 res, .int .i64 lex, .int .i64 hh, .int .i64 flag, .int .i64 pending, .int .i64 ask, .int .i64 count, .int .i64 sense, .int .i64 deques, .int .i64 size] 24)
  have hlb := Nat.le_refl w1.heap.size
  generalize w1.alloc (.cells #[.int .i64 verts, .int .i64 arcs, .int .i64 workers, .int .i64 room, .int .i64 res, .int .i64 lex, .int .i64 hh, .int .i64 flag, .int .i64 pending, .int .i64 ask, .int .i64 count, .int .i64 sense, .int .i64 deques, .int .i64 size] 24) = wa at hl1 hk1 ⊢
  generalize hlbe : w1.heap.size = lb at hl1 hlb ⊢
  have HE1 := Lib.hid (And.intro hb (And.intro h1 (And.intro h2 (And.intro hk (And.intro hl1 (And.intro (Nat.le_of_eq hlbe) hk1))))))
  clear hb h1 h2 hk hl1 hlb hk1 hlbe
  go_wp2_with fail
  refine (HB _).out.mono ?_
  rintro e w2 ⟨cb, cg, rfl, hc, h3, h4, hk2⟩
  simp only [Lay.val, Lay.vals]
  have D0 : Hid (DD w (w2.alloc (.cells #[.int .i64 verts, .int .i64 arcs, .int .i64 workers, .int .i64 room, .int .i64 res, .int .i64 lex, .int .i64 hh, .int .i64 flag, .int .i64 pending, .int .i64 ask, .int .i64 count, .int .i64 sense, .int .i64 deques, .int .i64 size] 24)).heap.size lb bb g cb cg #[.int .i64 verts, .int .i64 arcs, .int .i64 workers, .int .i64 room, .int .i64 res, .int .i64 lex, .int .i64 hh, .int .i64 flag, .int .i64 pending, .int .i64 ask, .int .i64 count, .int .i64 sense, .int .i64 deques, .int .i64 size] (List.replicate S 0) (List.replicate S 0) (w2.alloc (.cells #[.int .i64 verts, .int .i64 arcs, .int .i64 workers, .int .i64 room, .int .i64 res, .int .i64 lex, .int .i64 hh, .int .i64 flag, .int .i64 pending, .int .i64 ask, .int .i64 count, .int .i64 sense, .int .i64 deques, .int .i64 size] 24))) := Lib.hid (by
    obtain ⟨hb, h1, h2, hk, hl1, hlb, hk1⟩ := HE1.out
    exact DD.start hb h1 h2 hk hl1 hlb hk1 hc h3 h4 hk2 ((Upd.refl _ _).alloc _))
  clear hc h3 h4 hk2 HE1 HB
  go_upto_region 3 with (fail)
  generalize (w2.alloc (.cells #[.int .i64 verts, .int .i64 arcs, .int .i64 workers, .int .i64 room, .int .i64 res, .int .i64 lex, .int .i64 hh, .int .i64 flag, .int .i64 pending, .int .i64 ask, .int .i64 count, .int .i64 sense, .int .i64 deques, .int .i64 size] 24)) = W1 at D0 ⊢
  generalize w2.heap.size = lb2
  generalize W1.heap.size = B at D0
  clear hq0 hq1 hwv
  go_wp2_with fail
  go_loopw [63] (fun cx wr => ∃ (c : Nat) (xs : List Int) (L : List Int), cx = .int .u8 c ∧ c ≤ N ∧ L.length ≤ c ∧ Hid (DD w B lb bb g cb cg #[.int .i64 verts, .int .i64 arcs, .int .i64 workers, .int .i64 room, .int .i64 res, .int .i64 lex, .int .i64 hh, .int .i64 flag, .int .i64 pending, .int .i64 ask, .int .i64 count, .int .i64 sense, .int .i64 deques, .int .i64 size] xs xs wr) ∧ Hid (Row tp r xs 0 L)) (fun cx _ => N - (intOf cx).toNat)
  case atStart => exact ⟨0, _, [], rfl, by omega, by simp, D0, HRW0⟩
  case round =>
    clear D0 HRW0
    obtain ⟨c, xs, L, rfl, hc, hLc, D0, HRW⟩ := hrel
    by_cases hcN : c < N
    · have i1 : (c : Int) < ahead % 10 := by rw [HNN.out]; omega
      have i2 : decide ((c : Int) < ahead % 10) = true := by simpa using i1
      as_aux_lemma =>
      go_upto_region 8 with (fail)
      clear i1 i2
      have hwq : IntKind.i64.wrap (c : Int) = (c : Int) := by rw [IntKind.wrap_i64]; omega
      have hwq2 : wrap64 (c : Int) = (c : Int) := by unfold wrap64; omega
      obtain ⟨JI, HJI⟩ : ∃ JI : Bool → Bool → Bool → Bool → Bool → Bool → Bool → Bool → Bool → Bool → Bool → Bool → Value → Value → Value → Value → Value → Value → Value → Value → Value → Value → Nat → Nat → World → Prop, Hid (∀ (b0 b1 b2 b3 b4 b5 b6 b7 b8 b9 b10 b11 : Bool) (v66 v67 v68 v69 v70 v71 v72 v73 v18 v19 : Value) (pb sb : Nat) (W : World), JI b0 b1 b2 b3 b4 b5 b6 b7 b8 b9 b10 b11 v66 v67 v68 v69 v70 v71 v72 v73 v18 v19 pb sb W ↔ (Hid (KK wr W) ∧
          Hid (b0 = true → v66 = .agg #[.int .i64 verts, .int .i64 arcs, .int .i64 workers, .int .i64 room, .int .i64 res, .int .i64 lex, .int .i64 hh, .int .i64 flag, .int .i64 pending, .int .i64 ask, .int .i64 count, .int .i64 sense, .int .i64 deques, .int .i64 size]) ∧
          Hid (b1 = true → v67 = .int .u8 c) ∧
          Hid (b2 = true → v68 = .int .i64 c) ∧
          Hid (b3 = true → v69 = .agg #[.int .i64 verts, .int .i64 arcs, .int .i64 workers, .int .i64 room, .int .i64 res, .int .i64 lex, .int .i64 hh, .int .i64 flag, .int .i64 pending, .int .i64 ask, .int .i64 count, .int .i64 sense, .int .i64 deques, .int .i64 size, .int .i64 0, .int .i64 0, .int .i64 0, .int .i64 0, .int .i64 0, .bool false, .bool false, .int .i64 c]) ∧
          Hid (b4 = true → v70 = .agg #[.int .i64 verts, .int .i64 arcs, .int .i64 workers, .int .i64 room, .int .i64 res, .int .i64 lex, .int .i64 hh, .int .i64 flag, .int .i64 pending, .int .i64 ask, .int .i64 count, .int .i64 sense, .int .i64 deques, .int .i64 size]) ∧
          Hid (b5 = true → v71 = .int .u8 c) ∧
          Hid (b6 = true → v72 = .int .i64 c) ∧
          Hid (b7 = true → v73 = .agg #[.int .i64 verts, .int .i64 arcs, .int .i64 workers, .int .i64 room, .int .i64 res, .int .i64 lex, .int .i64 hh, .int .i64 flag, .int .i64 pending, .int .i64 ask, .int .i64 count, .int .i64 sense, .int .i64 deques, .int .i64 size, .int .i64 0, .int .i64 0, .int .i64 0, .int .i64 0, .int .i64 0, .bool false, .bool false, .int .i64 c]) ∧
          Hid (b8 = true → v18 = .pointer (some ⟨pb, 0, none⟩) ∧ wr.heap.size ≤ pb ∧ Blk W pb (if b10 then #[.int .i64 verts, .int .i64 arcs, .int .i64 workers, .int .i64 room, .int .i64 res, .int .i64 lex, .int .i64 hh, .int .i64 flag, .int .i64 pending, .int .i64 ask, .int .i64 count, .int .i64 sense, .int .i64 deques, .int .i64 size, .int .i64 0, .int .i64 0, .int .i64 0, .int .i64 0, .int .i64 0, .bool false, .bool false, .int .i64 c] else #[.int .i64 0, .int .i64 0, .int .i64 0, .int .i64 0, .int .i64 0, .int .i64 0, .int .i64 0, .int .i64 0, .int .i64 0, .int .i64 0, .int .i64 0, .int .i64 0, .int .i64 0, .int .i64 0, .int .i64 0, .int .i64 0, .int .i64 0, .int .i64 0, .int .i64 0, .bool false, .bool false, .int .i64 0]) 48) ∧
          Hid (b9 = true → v19 = .pointer (some ⟨sb, 0, none⟩) ∧ wr.heap.size ≤ sb ∧ Blk W sb (if b11 then #[.int .i64 verts, .int .i64 arcs, .int .i64 workers, .int .i64 room, .int .i64 res, .int .i64 lex, .int .i64 hh, .int .i64 flag, .int .i64 pending, .int .i64 ask, .int .i64 count, .int .i64 sense, .int .i64 deques, .int .i64 size, .int .i64 0, .int .i64 0, .int .i64 0, .int .i64 0, .int .i64 0, .bool false, .bool false, .int .i64 c] else #[.int .i64 0, .int .i64 0, .int .i64 0, .int .i64 0, .int .i64 0, .int .i64 0, .int .i64 0, .int .i64 0, .int .i64 0, .int .i64 0, .int .i64 0, .int .i64 0, .int .i64 0, .int .i64 0, .int .i64 0, .int .i64 0, .int .i64 0, .int .i64 0, .int .i64 0, .bool false, .bool false, .int .i64 0]) 48) ∧
          Hid (b8 = true → b9 = true → ¬ pb = sb) ∧
          Hid (b10 = true → b8 = true) ∧
          Hid (b11 = true → b9 = true))) := ⟨fun b0 b1 b2 b3 b4 b5 b6 b7 b8 b9 b10 b11 v66 v67 v68 v69 v70 v71 v72 v73 v18 v19 pb sb W => (Hid (KK wr W) ∧
          Hid (b0 = true → v66 = .agg #[.int .i64 verts, .int .i64 arcs, .int .i64 workers, .int .i64 room, .int .i64 res, .int .i64 lex, .int .i64 hh, .int .i64 flag, .int .i64 pending, .int .i64 ask, .int .i64 count, .int .i64 sense, .int .i64 deques, .int .i64 size]) ∧
          Hid (b1 = true → v67 = .int .u8 c) ∧
          Hid (b2 = true → v68 = .int .i64 c) ∧
          Hid (b3 = true → v69 = .agg #[.int .i64 verts, .int .i64 arcs, .int .i64 workers, .int .i64 room, .int .i64 res, .int .i64 lex, .int .i64 hh, .int .i64 flag, .int .i64 pending, .int .i64 ask, .int .i64 count, .int .i64 sense, .int .i64 deques, .int .i64 size, .int .i64 0, .int .i64 0, .int .i64 0, .int .i64 0, .int .i64 0, .bool false, .bool false, .int .i64 c]) ∧
          Hid (b4 = true → v70 = .agg #[.int .i64 verts, .int .i64 arcs, .int .i64 workers, .int .i64 room, .int .i64 res, .int .i64 lex, .int .i64 hh, .int .i64 flag, .int .i64 pending, .int .i64 ask, .int .i64 count, .int .i64 sense, .int .i64 deques, .int .i64 size]) ∧
          Hid (b5 = true → v71 = .int .u8 c) ∧
          Hid (b6 = true → v72 = .int .i64 c) ∧
          Hid (b7 = true → v73 = .agg #[.int .i64 verts, .int .i64 arcs, .int .i64 workers, .int .i64 room, .int .i64 res, .int .i64 lex, .int .i64 hh, .int .i64 flag, .int .i64 pending, .int .i64 ask, .int .i64 count, .int .i64 sense, .int .i64 deques, .int .i64 size, .int .i64 0, .int .i64 0, .int .i64 0, .int .i64 0, .int .i64 0, .bool false, .bool false, .int .i64 c]) ∧
          Hid (b8 = true → v18 = .pointer (some ⟨pb, 0, none⟩) ∧ wr.heap.size ≤ pb ∧ Blk W pb (if b10 then #[.int .i64 verts, .int .i64 arcs, .int .i64 workers, .int .i64 room, .int .i64 res, .int .i64 lex, .int .i64 hh, .int .i64 flag, .int .i64 pending, .int .i64 ask, .int .i64 count, .int .i64 sense, .int .i64 deques, .int .i64 size, .int .i64 0, .int .i64 0, .int .i64 0, .int .i64 0, .int .i64 0, .bool false, .bool false, .int .i64 c] else #[.int .i64 0, .int .i64 0, .int .i64 0, .int .i64 0, .int .i64 0, .int .i64 0, .int .i64 0, .int .i64 0, .int .i64 0, .int .i64 0, .int .i64 0, .int .i64 0, .int .i64 0, .int .i64 0, .int .i64 0, .int .i64 0, .int .i64 0, .int .i64 0, .int .i64 0, .bool false, .bool false, .int .i64 0]) 48) ∧
          Hid (b9 = true → v19 = .pointer (some ⟨sb, 0, none⟩) ∧ wr.heap.size ≤ sb ∧ Blk W sb (if b11 then #[.int .i64 verts, .int .i64 arcs, .int .i64 workers, .int .i64 room, .int .i64 res, .int .i64 lex, .int .i64 hh, .int .i64 flag, .int .i64 pending, .int .i64 ask, .int .i64 count, .int .i64 sense, .int .i64 deques, .int .i64 size, .int .i64 0, .int .i64 0, .int .i64 0, .int .i64 0, .int .i64 0, .bool false, .bool false, .int .i64 c] else #[.int .i64 0, .int .i64 0, .int .i64 0, .int .i64 0, .int .i64 0, .int .i64 0, .int .i64 0, .int .i64 0, .int .i64 0, .int .i64 0, .int .i64 0, .int .i64 0, .int .i64 0, .int .i64 0, .int .i64 0, .int .i64 0, .int .i64 0, .int .i64 0, .int .i64 0, .bool false, .bool false, .int .i64 0]) 48) ∧
          Hid (b8 = true → b9 = true → ¬ pb = sb) ∧
          Hid (b10 = true → b8 = true) ∧
          Hid (b11 = true → b9 = true)), Lib.hid (fun _ _ _ _ _ _ _ _ _ _ _ _ _ _ _ _ _ _ _ _ _ _ _ _ _ => Iff.rfl)⟩
      refine wp_region_inv (fun l us W => ∃ (b0 b1 b2 b3 b4 b5 b6 b7 b8 b9 b10 b11 : Bool) (v66 v67 v68 v69 v70 v71 v72 v73 v18 v19 : Value) (pb sb : Nat), l = #[b0, b1, b2, b3, b4, b5, b6, b7, b8, b9, b10, b11] ∧ us = [v66, v67, v68, v69, v70, v71, v72, v73, v18, v19] ∧ JI b0 b1 b2 b3 b4 b5 b6 b7 b8 b9 b10 b11 v66 v67 v68 v69 v70 v71 v72 v73 v18 v19 pb sb W) [66, 67, 68, 69, 70, 71, 72, 73, 18, 19] [u66, u67, u68, u69, u70, u71, u72, u73, u18, u19] (by kernel_rfl) (by kernel_rfl) (by simp only [putAll, Act.put, List.setIfInBounds_toArray, List.set_cons_zero, List.set_cons_succ]) ?_ ?_ ?_
      · exact ⟨false, false, false, false, false, false, false, false, false, false, false, false, _, _, _, _, _, _, _, _, _, _, 0, 0, rfl, rfl, (HJI.out _ _ _ _ _ _ _ _ _ _ _ _ _ _ _ _ _ _ _ _ _ _ _ _ _ ).2 ⟨Lib.hid (⟨(Upd.refl _ _).drew⟩), Lib.hid (by simp), Lib.hid (by simp), Lib.hid (by simp), Lib.hid (by simp), Lib.hid (by simp), Lib.hid (by simp), Lib.hid (by simp), Lib.hid (by simp), Lib.hid (by simp), Lib.hid (by simp), Lib.hid (by simp), Lib.hid (by simp), Lib.hid (by simp)⟩⟩
      · rintro i l us W ⟨b0, b1, b2, b3, b4, b5, b6, b7, b8, b9, b10, b11, v66, v67, v68, v69, v70, v71, v72, v73, v18, v19, pb, sb, rfl, rfl, hJI⟩ hr
        have hi : i = 0 ∨ i = 1 ∨ i = 2 ∨ i = 3 ∨ i = 4 ∨ i = 5 ∨ i = 6 ∨ i = 7 ∨ i = 8 ∨ i = 9 ∨ i = 10 ∨ i = 11 := by
          have := ready_lt hr
          simp at this
          omega
        rcases hi with rfl | rfl | rfl | rfl | rfl | rfl | rfl | rfl | rfl | rfl | rfl | rfl
        · as_aux_lemma =>
          obtain ⟨hI, h0, h1, h2, h3, h4, h5, h6, h7, h8, h9, n8_9, g10, g11⟩ := (HJI.out _ _ _ _ _ _ _ _ _ _ _ _ _ _ _ _ _ _ _ _ _ _ _ _ _ ).1 hJI
          obtain ⟨hn, hd⟩ := ready_at hr rfl
          simp [Region.binds] at hn hd
          have hlb := (D0.out.kept hI.out.k).l
          refine wpOp_step (o := ⟨some 66, .load 24 (.tmp 11), 24, _, _, none⟩) rfl (fun K' hK => ?_)
          simp only [putAll, Act.put, List.setIfInBounds_toArray, List.set_cons_zero, List.set_cons_succ]
          refine wp_load_mid 24 (.tmp 11) rfl lb 0 rfl [.int .i64 verts, .int .i64 arcs, .int .i64 workers, .int .i64 room, .int .i64 res, .int .i64 lex, .int .i64 hh, .int .i64 flag, .int .i64 pending, .int .i64 ask, .int .i64 count, .int .i64 sense, .int .i64 deques, .int .i64 size] _ (Blk.range hlb) Try.underlying24 rfl HZ14.out ?_
          exact hK _ _ ⟨_, by simp only [putAll, Act.put, List.setIfInBounds_toArray, List.set_cons_zero, List.set_cons_succ], true, b1, b2, b3, b4, b5, b6, b7, b8, b9, b10, b11, _, _, _, _, _, _, _, _, _, _, pb, sb, rfl, rfl, (HJI.out _ _ _ _ _ _ _ _ _ _ _ _ _ _ _ _ _ _ _ _ _ _ _ _ _ ).2 ⟨hI, Lib.hid (fun _ => rfl), h1, h2, h3, h4, h5, h6, h7, h8, h9, n8_9, g10, g11⟩⟩
        · as_aux_lemma =>
          obtain ⟨hI, h0, h1, h2, h3, h4, h5, h6, h7, h8, h9, n8_9, g10, g11⟩ := (HJI.out _ _ _ _ _ _ _ _ _ _ _ _ _ _ _ _ _ _ _ _ _ _ _ _ _ ).1 hJI
          obtain ⟨hn, hd⟩ := ready_at hr rfl
          simp [Region.binds] at hn hd
          refine wpOp_step rfl (fun K' hK => ?_)
          simp only [putAll, Act.put, List.setIfInBounds_toArray, List.set_cons_zero, List.set_cons_succ]
          go_simp
          exact hK _ _ ⟨_, by simp only [putAll, Act.put, List.setIfInBounds_toArray, List.set_cons_zero, List.set_cons_succ], b0, true, b2, b3, b4, b5, b6, b7, b8, b9, b10, b11, _, _, _, _, _, _, _, _, _, _, pb, sb, rfl, rfl, (HJI.out _ _ _ _ _ _ _ _ _ _ _ _ _ _ _ _ _ _ _ _ _ _ _ _ _ ).2 ⟨hI, h0, Lib.hid (fun _ => rfl), h2, h3, h4, h5, h6, h7, h8, h9, n8_9, g10, g11⟩⟩
        · as_aux_lemma =>
          obtain ⟨hI, h0, h1, h2, h3, h4, h5, h6, h7, h8, h9, n8_9, g10, g11⟩ := (HJI.out _ _ _ _ _ _ _ _ _ _ _ _ _ _ _ _ _ _ _ _ _ _ _ _ _ ).1 hJI
          obtain ⟨hn, hd⟩ := ready_at hr rfl
          simp [Region.binds] at hn hd
          obtain rfl := h1.out (by simp [hd])
          refine wpOp_step rfl (fun K' hK => ?_)
          simp only [putAll, Act.put, List.setIfInBounds_toArray, List.set_cons_zero, List.set_cons_succ]
          go_simp
          try rw [hwq]
          exact hK _ _ ⟨_, by simp only [putAll, Act.put, List.setIfInBounds_toArray, List.set_cons_zero, List.set_cons_succ], b0, b1, true, b3, b4, b5, b6, b7, b8, b9, b10, b11, _, _, _, _, _, _, _, _, _, _, pb, sb, rfl, rfl, (HJI.out _ _ _ _ _ _ _ _ _ _ _ _ _ _ _ _ _ _ _ _ _ _ _ _ _ ).2 ⟨hI, h0, h1, Lib.hid (fun _ => rfl), h3, h4, h5, h6, h7, h8, h9, n8_9, g10, g11⟩⟩
        · as_aux_lemma =>
          obtain ⟨hI, h0, h1, h2, h3, h4, h5, h6, h7, h8, h9, n8_9, g10, g11⟩ := (HJI.out _ _ _ _ _ _ _ _ _ _ _ _ _ _ _ _ _ _ _ _ _ _ _ _ _ ).1 hJI
          obtain ⟨hn, hd⟩ := ready_at hr rfl
          simp [Region.binds] at hn hd
          obtain rfl := h0.out (by simp [hd])
          obtain rfl := h2.out (by simp [hd])
          refine wpOp_step rfl (fun K' hK => ?_)
          simp only [putAll, Act.put, List.setIfInBounds_toArray, List.set_cons_zero, List.set_cons_succ]
          go_simp
          refine (HNU c _).out.mono ?_
          rintro e w' ⟨rfl, hk⟩
          exact hK _ _ ⟨_, by simp only [putAll, Act.put, List.setIfInBounds_toArray, List.set_cons_zero, List.set_cons_succ], b0, b1, b2, true, b4, b5, b6, b7, b8, b9, b10, b11, _, _, _, _, _, _, _, _, _, _, pb, sb, rfl, rfl, (HJI.out _ _ _ _ _ _ _ _ _ _ _ _ _ _ _ _ _ _ _ _ _ _ _ _ _ ).2 ⟨(Lib.hid (hI.out.kept hk)), h0, h1, h2, Lib.hid (fun _ => rfl), h4, h5, h6, h7, Lib.hid (fun hb => ⟨(h8.out hb).1, (h8.out hb).2.1, (h8.out hb).2.2.kept hk⟩), Lib.hid (fun hb => ⟨(h9.out hb).1, (h9.out hb).2.1, (h9.out hb).2.2.kept hk⟩), n8_9, g10, g11⟩⟩
        · as_aux_lemma =>
          obtain ⟨hI, h0, h1, h2, h3, h4, h5, h6, h7, h8, h9, n8_9, g10, g11⟩ := (HJI.out _ _ _ _ _ _ _ _ _ _ _ _ _ _ _ _ _ _ _ _ _ _ _ _ _ ).1 hJI
          obtain ⟨hn, hd⟩ := ready_at hr rfl
          simp [Region.binds] at hn hd
          have hlb := (D0.out.kept hI.out.k).l
          refine wpOp_step (o := ⟨some 70, .load 24 (.tmp 11), 24, _, _, none⟩) rfl (fun K' hK => ?_)
          simp only [putAll, Act.put, List.setIfInBounds_toArray, List.set_cons_zero, List.set_cons_succ]
          refine wp_load_mid 24 (.tmp 11) rfl lb 0 rfl [.int .i64 verts, .int .i64 arcs, .int .i64 workers, .int .i64 room, .int .i64 res, .int .i64 lex, .int .i64 hh, .int .i64 flag, .int .i64 pending, .int .i64 ask, .int .i64 count, .int .i64 sense, .int .i64 deques, .int .i64 size] _ (Blk.range hlb) Try.underlying24 rfl HZ14.out ?_
          exact hK _ _ ⟨_, by simp only [putAll, Act.put, List.setIfInBounds_toArray, List.set_cons_zero, List.set_cons_succ], b0, b1, b2, b3, true, b5, b6, b7, b8, b9, b10, b11, _, _, _, _, _, _, _, _, _, _, pb, sb, rfl, rfl, (HJI.out _ _ _ _ _ _ _ _ _ _ _ _ _ _ _ _ _ _ _ _ _ _ _ _ _ ).2 ⟨hI, h0, h1, h2, h3, Lib.hid (fun _ => rfl), h5, h6, h7, h8, h9, n8_9, g10, g11⟩⟩
        · as_aux_lemma =>
          obtain ⟨hI, h0, h1, h2, h3, h4, h5, h6, h7, h8, h9, n8_9, g10, g11⟩ := (HJI.out _ _ _ _ _ _ _ _ _ _ _ _ _ _ _ _ _ _ _ _ _ _ _ _ _ ).1 hJI
          obtain ⟨hn, hd⟩ := ready_at hr rfl
          simp [Region.binds] at hn hd
          refine wpOp_step rfl (fun K' hK => ?_)
          simp only [putAll, Act.put, List.setIfInBounds_toArray, List.set_cons_zero, List.set_cons_succ]
          go_simp
          exact hK _ _ ⟨_, by simp only [putAll, Act.put, List.setIfInBounds_toArray, List.set_cons_zero, List.set_cons_succ], b0, b1, b2, b3, b4, true, b6, b7, b8, b9, b10, b11, _, _, _, _, _, _, _, _, _, _, pb, sb, rfl, rfl, (HJI.out _ _ _ _ _ _ _ _ _ _ _ _ _ _ _ _ _ _ _ _ _ _ _ _ _ ).2 ⟨hI, h0, h1, h2, h3, h4, Lib.hid (fun _ => rfl), h6, h7, h8, h9, n8_9, g10, g11⟩⟩
        · as_aux_lemma =>
          obtain ⟨hI, h0, h1, h2, h3, h4, h5, h6, h7, h8, h9, n8_9, g10, g11⟩ := (HJI.out _ _ _ _ _ _ _ _ _ _ _ _ _ _ _ _ _ _ _ _ _ _ _ _ _ ).1 hJI
          obtain ⟨hn, hd⟩ := ready_at hr rfl
          simp [Region.binds] at hn hd
          obtain rfl := h5.out (by simp [hd])
          refine wpOp_step rfl (fun K' hK => ?_)
          simp only [putAll, Act.put, List.setIfInBounds_toArray, List.set_cons_zero, List.set_cons_succ]
          go_simp
          try rw [hwq]
          exact hK _ _ ⟨_, by simp only [putAll, Act.put, List.setIfInBounds_toArray, List.set_cons_zero, List.set_cons_succ], b0, b1, b2, b3, b4, b5, true, b7, b8, b9, b10, b11, _, _, _, _, _, _, _, _, _, _, pb, sb, rfl, rfl, (HJI.out _ _ _ _ _ _ _ _ _ _ _ _ _ _ _ _ _ _ _ _ _ _ _ _ _ ).2 ⟨hI, h0, h1, h2, h3, h4, h5, Lib.hid (fun _ => rfl), h7, h8, h9, n8_9, g10, g11⟩⟩
        · as_aux_lemma =>
          obtain ⟨hI, h0, h1, h2, h3, h4, h5, h6, h7, h8, h9, n8_9, g10, g11⟩ := (HJI.out _ _ _ _ _ _ _ _ _ _ _ _ _ _ _ _ _ _ _ _ _ _ _ _ _ ).1 hJI
          obtain ⟨hn, hd⟩ := ready_at hr rfl
          simp [Region.binds] at hn hd
          obtain rfl := h4.out (by simp [hd])
          obtain rfl := h6.out (by simp [hd])
          refine wpOp_step rfl (fun K' hK => ?_)
          simp only [putAll, Act.put, List.setIfInBounds_toArray, List.set_cons_zero, List.set_cons_succ]
          go_simp
          refine (HNU c _).out.mono ?_
          rintro e w' ⟨rfl, hk⟩
          exact hK _ _ ⟨_, by simp only [putAll, Act.put, List.setIfInBounds_toArray, List.set_cons_zero, List.set_cons_succ], b0, b1, b2, b3, b4, b5, b6, true, b8, b9, b10, b11, _, _, _, _, _, _, _, _, _, _, pb, sb, rfl, rfl, (HJI.out _ _ _ _ _ _ _ _ _ _ _ _ _ _ _ _ _ _ _ _ _ _ _ _ _ ).2 ⟨(Lib.hid (hI.out.kept hk)), h0, h1, h2, h3, h4, h5, h6, Lib.hid (fun _ => rfl), Lib.hid (fun hb => ⟨(h8.out hb).1, (h8.out hb).2.1, (h8.out hb).2.2.kept hk⟩), Lib.hid (fun hb => ⟨(h9.out hb).1, (h9.out hb).2.1, (h9.out hb).2.2.kept hk⟩), n8_9, g10, g11⟩⟩
        · as_aux_lemma =>
          obtain ⟨hI, h0, h1, h2, h3, h4, h5, h6, h7, h8, h9, n8_9, g10, g11⟩ := (HJI.out _ _ _ _ _ _ _ _ _ _ _ _ _ _ _ _ _ _ _ _ _ _ _ _ _ ).1 hJI
          obtain ⟨hn, hd⟩ := ready_at hr rfl
          simp [Region.binds] at hn hd
          have hbq : b10 = false := by cases b10 with | false => rfl | true => (have := g10.out rfl; rw [hn] at this; cases this)
          subst hbq
          refine wpOp_step rfl (fun K' hK => ?_)
          simp only [putAll, Act.put, List.setIfInBounds_toArray, List.set_cons_zero, List.set_cons_succ]
          go_simp
          exact hK _ _ ⟨_, by simp only [putAll, Act.put, List.setIfInBounds_toArray, List.set_cons_zero, List.set_cons_succ], b0, b1, b2, b3, b4, b5, b6, b7, true, b9, false, b11, _, _, _, _, _, _, _, _, _, _, W.heap.size, sb, rfl, rfl, (HJI.out _ _ _ _ _ _ _ _ _ _ _ _ _ _ _ _ _ _ _ _ _ _ _ _ _ ).2 ⟨(Lib.hid (hI.out.kept ((Upd.refl _ _).alloc _))), h0, h1, h2, h3, h4, h5, h6, h7, Lib.hid (fun _ => ⟨rfl, hI.out.up, Blk.new _ _ _⟩), Lib.hid (fun hb => ⟨(h9.out hb).1, (h9.out hb).2.1, (h9.out hb).2.2.kept ((Upd.refl _ _).alloc _)⟩), Lib.hid (fun _ hb e => by have := (h9.out hb).2.2.lt; omega), Lib.hid (by simp), g11⟩⟩
        · as_aux_lemma =>
          obtain ⟨hI, h0, h1, h2, h3, h4, h5, h6, h7, h8, h9, n8_9, g10, g11⟩ := (HJI.out _ _ _ _ _ _ _ _ _ _ _ _ _ _ _ _ _ _ _ _ _ _ _ _ _ ).1 hJI
          obtain ⟨hn, hd⟩ := ready_at hr rfl
          simp [Region.binds] at hn hd
          have hbq : b11 = false := by cases b11 with | false => rfl | true => (have := g11.out rfl; rw [hn] at this; cases this)
          subst hbq
          refine wpOp_step rfl (fun K' hK => ?_)
          simp only [putAll, Act.put, List.setIfInBounds_toArray, List.set_cons_zero, List.set_cons_succ]
          go_simp
          exact hK _ _ ⟨_, by simp only [putAll, Act.put, List.setIfInBounds_toArray, List.set_cons_zero, List.set_cons_succ], b0, b1, b2, b3, b4, b5, b6, b7, b8, true, b10, false, _, _, _, _, _, _, _, _, _, _, pb, W.heap.size, rfl, rfl, (HJI.out _ _ _ _ _ _ _ _ _ _ _ _ _ _ _ _ _ _ _ _ _ _ _ _ _ ).2 ⟨(Lib.hid (hI.out.kept ((Upd.refl _ _).alloc _))), h0, h1, h2, h3, h4, h5, h6, h7, Lib.hid (fun hb => ⟨(h8.out hb).1, (h8.out hb).2.1, (h8.out hb).2.2.kept ((Upd.refl _ _).alloc _)⟩), Lib.hid (fun _ => ⟨rfl, hI.out.up, Blk.new _ _ _⟩), Lib.hid (fun hb _ e => by have := (h8.out hb).2.2.lt; omega), g10, Lib.hid (by simp)⟩⟩
        · as_aux_lemma =>
          obtain ⟨hI, h0, h1, h2, h3, h4, h5, h6, h7, h8, h9, n8_9, g10, g11⟩ := (HJI.out _ _ _ _ _ _ _ _ _ _ _ _ _ _ _ _ _ _ _ _ _ _ _ _ _ ).1 hJI
          obtain ⟨hn, hd⟩ := ready_at hr rfl
          simp [Region.binds] at hn hd
          obtain rfl := h3.out (by simp [hd])
          obtain ⟨hp, hx, hbk⟩ := h8.out (by simp [hd])
          subst hn hp
          have hbk : Blk W _ _ _ := hbk
          have hc := hbk.cell
          have hf := hbk.free
          refine wpOp_step (o := ⟨none, .store 48 (.tmp 18) (.tmp 69), 0, _, _, none⟩) rfl (fun K' hK => ?_)
          simp only [putAll, Act.put, List.setIfInBounds_toArray, List.set_cons_zero, List.set_cons_succ]
          simp only [if_false, Bool.false_eq_true] at hbk
          refine wp_store_mid 48 (.tmp 18) (.tmp 69) rfl pb 0 #[.int .i64 verts, .int .i64 arcs, .int .i64 workers, .int .i64 room, .int .i64 res, .int .i64 lex, .int .i64 hh, .int .i64 flag, .int .i64 pending, .int .i64 ask, .int .i64 count, .int .i64 sense, .int .i64 deques, .int .i64 size, .int .i64 0, .int .i64 0, .int .i64 0, .int .i64 0, .int .i64 0, .bool false, .bool false, .int .i64 c] rfl rfl (Blk.there hbk 22 rfl) HZu.out (all_oneCell_toArray (cs := [.int .i64 verts, .int .i64 arcs, .int .i64 workers, .int .i64 room, .int .i64 res, .int .i64 lex, .int .i64 hh, .int .i64 flag, .int .i64 pending, .int .i64 ask, .int .i64 count, .int .i64 sense, .int .i64 deques, .int .i64 size, .int .i64 0, .int .i64 0, .int .i64 0, .int .i64 0, .int .i64 0, .bool false, .bool false, .int .i64 c]) (by simp [Value.oneCell'])) ?_
          have hs := hbk.alls [.int .i64 verts, .int .i64 arcs, .int .i64 workers, .int .i64 room, .int .i64 res, .int .i64 lex, .int .i64 hh, .int .i64 flag, .int .i64 pending, .int .i64 ask, .int .i64 count, .int .i64 sense, .int .i64 deques, .int .i64 size, .int .i64 0, .int .i64 0, .int .i64 0, .int .i64 0, .int .i64 0, .bool false, .bool false, .int .i64 c] rfl
          exact hK _ _ ⟨_, by simp only [putAll, Act.put, List.setIfInBounds_toArray, List.set_cons_zero, List.set_cons_succ], b0, b1, b2, b3, b4, b5, b6, b7, b8, b9, true, b11, _, _, _, _, _, _, _, _, _, _, pb, sb, rfl, rfl, (HJI.out _ _ _ _ _ _ _ _ _ _ _ _ _ _ _ _ _ _ _ _ _ _ _ _ _ ).2 ⟨(Lib.hid (hI.out.upd hs.2 hx)), h0, h1, h2, h3, h4, h5, h6, h7, Lib.hid (fun _ => ⟨rfl, hx, hs.1⟩), Lib.hid (fun hb => ⟨(h9.out hb).1, (h9.out hb).2.1, (h9.out hb).2.2.upd hs.2 (fun e => n8_9.out (by simp [hd]) hb e.symm)⟩), n8_9, Lib.hid (fun _ => (by simp [hd])), g11⟩⟩
        · as_aux_lemma =>
          obtain ⟨hI, h0, h1, h2, h3, h4, h5, h6, h7, h8, h9, n8_9, g10, g11⟩ := (HJI.out _ _ _ _ _ _ _ _ _ _ _ _ _ _ _ _ _ _ _ _ _ _ _ _ _ ).1 hJI
          obtain ⟨hn, hd⟩ := ready_at hr rfl
          simp [Region.binds] at hn hd
          obtain rfl := h7.out (by simp [hd])
          obtain ⟨hp, hx, hbk⟩ := h9.out (by simp [hd])
          subst hn hp
          have hbk : Blk W _ _ _ := hbk
          have hc := hbk.cell
          have hf := hbk.free
          refine wpOp_step (o := ⟨none, .store 48 (.tmp 19) (.tmp 73), 0, _, _, none⟩) rfl (fun K' hK => ?_)
          simp only [putAll, Act.put, List.setIfInBounds_toArray, List.set_cons_zero, List.set_cons_succ]
          simp only [if_false, Bool.false_eq_true] at hbk
          refine wp_store_mid 48 (.tmp 19) (.tmp 73) rfl sb 0 #[.int .i64 verts, .int .i64 arcs, .int .i64 workers, .int .i64 room, .int .i64 res, .int .i64 lex, .int .i64 hh, .int .i64 flag, .int .i64 pending, .int .i64 ask, .int .i64 count, .int .i64 sense, .int .i64 deques, .int .i64 size, .int .i64 0, .int .i64 0, .int .i64 0, .int .i64 0, .int .i64 0, .bool false, .bool false, .int .i64 c] rfl rfl (Blk.there hbk 22 rfl) HZu.out (all_oneCell_toArray (cs := [.int .i64 verts, .int .i64 arcs, .int .i64 workers, .int .i64 room, .int .i64 res, .int .i64 lex, .int .i64 hh, .int .i64 flag, .int .i64 pending, .int .i64 ask, .int .i64 count, .int .i64 sense, .int .i64 deques, .int .i64 size, .int .i64 0, .int .i64 0, .int .i64 0, .int .i64 0, .int .i64 0, .bool false, .bool false, .int .i64 c]) (by simp [Value.oneCell'])) ?_
          have hs := hbk.alls [.int .i64 verts, .int .i64 arcs, .int .i64 workers, .int .i64 room, .int .i64 res, .int .i64 lex, .int .i64 hh, .int .i64 flag, .int .i64 pending, .int .i64 ask, .int .i64 count, .int .i64 sense, .int .i64 deques, .int .i64 size, .int .i64 0, .int .i64 0, .int .i64 0, .int .i64 0, .int .i64 0, .bool false, .bool false, .int .i64 c] rfl
          exact hK _ _ ⟨_, by simp only [putAll, Act.put, List.setIfInBounds_toArray, List.set_cons_zero, List.set_cons_succ], b0, b1, b2, b3, b4, b5, b6, b7, b8, b9, b10, true, _, _, _, _, _, _, _, _, _, _, pb, sb, rfl, rfl, (HJI.out _ _ _ _ _ _ _ _ _ _ _ _ _ _ _ _ _ _ _ _ _ _ _ _ _ ).2 ⟨(Lib.hid (hI.out.upd hs.2 hx)), h0, h1, h2, h3, h4, h5, h6, h7, Lib.hid (fun hb => ⟨(h8.out hb).1, (h8.out hb).2.1, (h8.out hb).2.2.upd hs.2 (fun e => n8_9.out hb (by simp [hd]) e)⟩), Lib.hid (fun _ => ⟨rfl, hx, hs.1⟩), n8_9, g10, Lib.hid (fun _ => (by simp [hd]))⟩⟩
      · rintro l us W ⟨b0, b1, b2, b3, b4, b5, b6, b7, b8, b9, b10, b11, v66, v67, v68, v69, v70, v71, v72, v73, v18, v19, pb, sb, rfl, rfl, hJI⟩ hall
        as_aux_lemma =>
        obtain ⟨hI, h0, h1, h2, h3, h4, h5, h6, h7, h8, h9, n8_9, g10, g11⟩ := (HJI.out _ _ _ _ _ _ _ _ _ _ _ _ _ _ _ _ _ _ _ _ _ _ _ _ _ ).1 hJI
        clear hJI
        obtain rfl : b0 = true := by simpa using hall 0
        obtain rfl : b1 = true := by simpa using hall 1
        obtain rfl : b2 = true := by simpa using hall 2
        obtain rfl : b3 = true := by simpa using hall 3
        obtain rfl : b4 = true := by simpa using hall 4
        obtain rfl : b5 = true := by simpa using hall 5
        obtain rfl : b6 = true := by simpa using hall 6
        obtain rfl : b7 = true := by simpa using hall 7
        obtain rfl : b8 = true := by simpa using hall 8
        obtain rfl : b9 = true := by simpa using hall 9
        obtain rfl : b10 = true := by simpa using hall 10
        obtain rfl : b11 = true := by simpa using hall 11
        obtain rfl := h0.out rfl
        obtain rfl := h1.out rfl
        obtain rfl := h2.out rfl
        obtain rfl := h3.out rfl
        obtain rfl := h4.out rfl
        obtain rfl := h5.out rfl
        obtain rfl := h6.out rfl
        obtain rfl := h7.out rfl
        obtain ⟨rfl, hx8, hB8⟩ := h8.out rfl
        obtain ⟨rfl, hx9, hB9⟩ := h9.out rfl
        simp only [putAll, Act.put, List.setIfInBounds_toArray, List.set_cons_zero, List.set_cons_succ]
        clear HJI JI
        have D1 := Lib.hid (D0.out.kept hI.out.k)
        have PB0 : Hid (PB W pb 48 (⟨verts, arcs, workers, room, res, lex, hh, flag, pending, ask, count, sense, deques, size⟩ : Lay) 0 ⟨0, 0, 0, 0, false, false⟩ [.int .i64 c]) := Lib.hid hB8
        have SB0 : Hid (PB W sb 48 (⟨verts, arcs, workers, room, res, lex, hh, flag, pending, ask, count, sense, deques, size⟩ : Lay) 0 ⟨0, 0, 0, 0, false, false⟩ [.int .i64 c]) := Lib.hid hB9
        have HMB : Hid (B ≤ pb ∧ B ≤ sb ∧ ¬ pb = sb) := Lib.hid (by
          have n := D0.out.n1
          have h7 := n8_9.out rfl rfl
          omega)
        obtain ⟨s1, M1, L1, AL1, hM1, R1, hL1⟩ := push_next HRW.out (by omega) c
        have HR1 := Lib.hid R1
        have HA1 := Lib.hid AL1
        clear hall hI hB8 hB9 hx8 hx9 D0 AL1 R1 HRW
        go_upto_region 9 with (fail)
        go_wp2_with fail
        refine (alone_push HG.out PB0.out D1.out.b (by have n := D1.out.n1; have := HMB.out; omega) HA1.out hM1).mono ?_
        rintro e W5 ⟨rfl, hK⟩
        have D2 := Lib.hid (D1.out.mach1 hK HMB.out.1)
        have SB1 := Lib.hid (SB0.out.upd hK.2.2 (by have n := D1.out.n1; have := HMB.out; omega))
        clear hK D1 PB0 SB0
        go_wp2_with fail
        refine (alone_push HG.out SB1.out D2.out.c (by have n := D2.out.n1; have := HMB.out; omega) HA1.out hM1).mono ?_
        rintro e W6 ⟨rfl, hK⟩
        have D3 := Lib.hid (D2.out.mach2 hK HMB.out.2.1)
        clear hK D2 SB1 HA1 HMB
        have hwc : IntKind.u8.wrap ((c : Int) + 1) = ((c + 1 : Nat) : Int) := by rw [IntKind.wrap_u8]; omega
        go_wp2_with fail
        go_roundw
        case rel => exact ⟨c + 1, _, L1, by go_num, by omega, by omega, D3, HR1⟩
        case measure => simp [intOf]; omega
    · obtain rfl : c = N := by omega
      have i1 : ¬ (c : Int) < ahead % 10 := by rw [HNN.out]; omega
      have i2 : decide ((c : Int) < ahead % 10) = false := by simpa using i1
      as_aux_lemma =>
      obtain ⟨s', hRE⟩ := run_end HRW.out (by omega) (kdOf j v) M
      have HRE := Lib.hid hRE
      clear hRE HRW
      go_upto_region 12 with (fail)
      clear i1 i2
      obtain ⟨JI, HJI⟩ : ∃ JI : Bool → Bool → Bool → Bool → Bool → Bool → Bool → Bool → Bool → Bool → Bool → Bool → Bool → Value → Value → Value → Value → Value → Value → Value → Value → Value → Value → Nat → Nat → Nat → World → Prop, Hid (∀ (b0 b1 b2 b3 b4 b5 b6 b7 b8 b9 b10 b11 b12 : Bool) (v85 v86 v87 v88 v89 v90 v91 v20 v21 v22 : Value) (p1 q1 t1 : Nat) (W : World), JI b0 b1 b2 b3 b4 b5 b6 b7 b8 b9 b10 b11 b12 v85 v86 v87 v88 v89 v90 v91 v20 v21 v22 p1 q1 t1 W ↔ (Hid (KK wr W) ∧
          Hid (b0 = true → v85 = .agg #[.int .i64 verts, .int .i64 arcs, .int .i64 workers, .int .i64 room, .int .i64 res, .int .i64 lex, .int .i64 hh, .int .i64 flag, .int .i64 pending, .int .i64 ask, .int .i64 count, .int .i64 sense, .int .i64 deques, .int .i64 size]) ∧
          Hid (b1 = true → v86 = .int .i64 v) ∧
          Hid (b2 = true → v87 = .agg #[.int .i64 verts, .int .i64 arcs, .int .i64 workers, .int .i64 room, .int .i64 res, .int .i64 lex, .int .i64 hh, .int .i64 flag, .int .i64 pending, .int .i64 ask, .int .i64 count, .int .i64 sense, .int .i64 deques, .int .i64 size, .int .i64 0, .int .i64 0, .int .i64 0, .int .i64 0, .int .i64 0, .bool false, .bool false, .int .i64 v]) ∧
          Hid (b3 = true → v88 = .agg #[.int .i64 verts, .int .i64 arcs, .int .i64 workers, .int .i64 room, .int .i64 res, .int .i64 lex, .int .i64 hh, .int .i64 flag, .int .i64 pending, .int .i64 ask, .int .i64 count, .int .i64 sense, .int .i64 deques, .int .i64 size]) ∧
          Hid (b4 = true → v89 = .agg #[.int .i64 verts, .int .i64 arcs, .int .i64 workers, .int .i64 room, .int .i64 res, .int .i64 lex, .int .i64 hh, .int .i64 flag, .int .i64 pending, .int .i64 ask, .int .i64 count, .int .i64 sense, .int .i64 deques, .int .i64 size, .int .i64 0, .int .i64 0, .int .i64 0, .int .i64 0, .int .i64 0, .bool false, .bool false]) ∧
          Hid (b5 = true → v90 = .agg #[.int .i64 verts, .int .i64 arcs, .int .i64 workers, .int .i64 room, .int .i64 res, .int .i64 lex, .int .i64 hh, .int .i64 flag, .int .i64 pending, .int .i64 ask, .int .i64 count, .int .i64 sense, .int .i64 deques, .int .i64 size]) ∧
          Hid (b6 = true → v91 = .agg #[.int .i64 verts, .int .i64 arcs, .int .i64 workers, .int .i64 room, .int .i64 res, .int .i64 lex, .int .i64 hh, .int .i64 flag, .int .i64 pending, .int .i64 ask, .int .i64 count, .int .i64 sense, .int .i64 deques, .int .i64 size, .int .i64 0, .int .i64 0, .int .i64 0, .int .i64 0, .int .i64 0, .bool false, .bool false, .bool false]) ∧
          Hid (b7 = true → v20 = .pointer (some ⟨p1, 0, none⟩) ∧ wr.heap.size ≤ p1 ∧ Blk W p1 (if b10 then #[.int .i64 verts, .int .i64 arcs, .int .i64 workers, .int .i64 room, .int .i64 res, .int .i64 lex, .int .i64 hh, .int .i64 flag, .int .i64 pending, .int .i64 ask, .int .i64 count, .int .i64 sense, .int .i64 deques, .int .i64 size, .int .i64 0, .int .i64 0, .int .i64 0, .int .i64 0, .int .i64 0, .bool false, .bool false, .int .i64 v] else #[.int .i64 0, .int .i64 0, .int .i64 0, .int .i64 0, .int .i64 0, .int .i64 0, .int .i64 0, .int .i64 0, .int .i64 0, .int .i64 0, .int .i64 0, .int .i64 0, .int .i64 0, .int .i64 0, .int .i64 0, .int .i64 0, .int .i64 0, .int .i64 0, .int .i64 0, .bool false, .bool false, .int .i64 0]) 48) ∧
          Hid (b8 = true → v21 = .pointer (some ⟨q1, 0, none⟩) ∧ wr.heap.size ≤ q1 ∧ Blk W q1 (if b11 then #[.int .i64 verts, .int .i64 arcs, .int .i64 workers, .int .i64 room, .int .i64 res, .int .i64 lex, .int .i64 hh, .int .i64 flag, .int .i64 pending, .int .i64 ask, .int .i64 count, .int .i64 sense, .int .i64 deques, .int .i64 size, .int .i64 0, .int .i64 0, .int .i64 0, .int .i64 0, .int .i64 0, .bool false, .bool false] else #[.int .i64 0, .int .i64 0, .int .i64 0, .int .i64 0, .int .i64 0, .int .i64 0, .int .i64 0, .int .i64 0, .int .i64 0, .int .i64 0, .int .i64 0, .int .i64 0, .int .i64 0, .int .i64 0, .int .i64 0, .int .i64 0, .int .i64 0, .int .i64 0, .int .i64 0, .bool false, .bool false]) 51) ∧
          Hid (b9 = true → v22 = .pointer (some ⟨t1, 0, none⟩) ∧ wr.heap.size ≤ t1 ∧ Blk W t1 (if b12 then #[.int .i64 verts, .int .i64 arcs, .int .i64 workers, .int .i64 room, .int .i64 res, .int .i64 lex, .int .i64 hh, .int .i64 flag, .int .i64 pending, .int .i64 ask, .int .i64 count, .int .i64 sense, .int .i64 deques, .int .i64 size, .int .i64 0, .int .i64 0, .int .i64 0, .int .i64 0, .int .i64 0, .bool false, .bool false, .bool false] else #[.int .i64 0, .int .i64 0, .int .i64 0, .int .i64 0, .int .i64 0, .int .i64 0, .int .i64 0, .int .i64 0, .int .i64 0, .int .i64 0, .int .i64 0, .int .i64 0, .int .i64 0, .int .i64 0, .int .i64 0, .int .i64 0, .int .i64 0, .int .i64 0, .int .i64 0, .bool false, .bool false, .bool false]) 45) ∧
          Hid (b7 = true → b8 = true → ¬ p1 = q1) ∧
          Hid (b7 = true → b9 = true → ¬ p1 = t1) ∧
          Hid (b8 = true → b9 = true → ¬ q1 = t1) ∧
          Hid (b10 = true → b7 = true) ∧
          Hid (b11 = true → b8 = true) ∧
          Hid (b12 = true → b9 = true))) := ⟨fun b0 b1 b2 b3 b4 b5 b6 b7 b8 b9 b10 b11 b12 v85 v86 v87 v88 v89 v90 v91 v20 v21 v22 p1 q1 t1 W => (Hid (KK wr W) ∧
          Hid (b0 = true → v85 = .agg #[.int .i64 verts, .int .i64 arcs, .int .i64 workers, .int .i64 room, .int .i64 res, .int .i64 lex, .int .i64 hh, .int .i64 flag, .int .i64 pending, .int .i64 ask, .int .i64 count, .int .i64 sense, .int .i64 deques, .int .i64 size]) ∧
          Hid (b1 = true → v86 = .int .i64 v) ∧
          Hid (b2 = true → v87 = .agg #[.int .i64 verts, .int .i64 arcs, .int .i64 workers, .int .i64 room, .int .i64 res, .int .i64 lex, .int .i64 hh, .int .i64 flag, .int .i64 pending, .int .i64 ask, .int .i64 count, .int .i64 sense, .int .i64 deques, .int .i64 size, .int .i64 0, .int .i64 0, .int .i64 0, .int .i64 0, .int .i64 0, .bool false, .bool false, .int .i64 v]) ∧
          Hid (b3 = true → v88 = .agg #[.int .i64 verts, .int .i64 arcs, .int .i64 workers, .int .i64 room, .int .i64 res, .int .i64 lex, .int .i64 hh, .int .i64 flag, .int .i64 pending, .int .i64 ask, .int .i64 count, .int .i64 sense, .int .i64 deques, .int .i64 size]) ∧
          Hid (b4 = true → v89 = .agg #[.int .i64 verts, .int .i64 arcs, .int .i64 workers, .int .i64 room, .int .i64 res, .int .i64 lex, .int .i64 hh, .int .i64 flag, .int .i64 pending, .int .i64 ask, .int .i64 count, .int .i64 sense, .int .i64 deques, .int .i64 size, .int .i64 0, .int .i64 0, .int .i64 0, .int .i64 0, .int .i64 0, .bool false, .bool false]) ∧
          Hid (b5 = true → v90 = .agg #[.int .i64 verts, .int .i64 arcs, .int .i64 workers, .int .i64 room, .int .i64 res, .int .i64 lex, .int .i64 hh, .int .i64 flag, .int .i64 pending, .int .i64 ask, .int .i64 count, .int .i64 sense, .int .i64 deques, .int .i64 size]) ∧
          Hid (b6 = true → v91 = .agg #[.int .i64 verts, .int .i64 arcs, .int .i64 workers, .int .i64 room, .int .i64 res, .int .i64 lex, .int .i64 hh, .int .i64 flag, .int .i64 pending, .int .i64 ask, .int .i64 count, .int .i64 sense, .int .i64 deques, .int .i64 size, .int .i64 0, .int .i64 0, .int .i64 0, .int .i64 0, .int .i64 0, .bool false, .bool false, .bool false]) ∧
          Hid (b7 = true → v20 = .pointer (some ⟨p1, 0, none⟩) ∧ wr.heap.size ≤ p1 ∧ Blk W p1 (if b10 then #[.int .i64 verts, .int .i64 arcs, .int .i64 workers, .int .i64 room, .int .i64 res, .int .i64 lex, .int .i64 hh, .int .i64 flag, .int .i64 pending, .int .i64 ask, .int .i64 count, .int .i64 sense, .int .i64 deques, .int .i64 size, .int .i64 0, .int .i64 0, .int .i64 0, .int .i64 0, .int .i64 0, .bool false, .bool false, .int .i64 v] else #[.int .i64 0, .int .i64 0, .int .i64 0, .int .i64 0, .int .i64 0, .int .i64 0, .int .i64 0, .int .i64 0, .int .i64 0, .int .i64 0, .int .i64 0, .int .i64 0, .int .i64 0, .int .i64 0, .int .i64 0, .int .i64 0, .int .i64 0, .int .i64 0, .int .i64 0, .bool false, .bool false, .int .i64 0]) 48) ∧
          Hid (b8 = true → v21 = .pointer (some ⟨q1, 0, none⟩) ∧ wr.heap.size ≤ q1 ∧ Blk W q1 (if b11 then #[.int .i64 verts, .int .i64 arcs, .int .i64 workers, .int .i64 room, .int .i64 res, .int .i64 lex, .int .i64 hh, .int .i64 flag, .int .i64 pending, .int .i64 ask, .int .i64 count, .int .i64 sense, .int .i64 deques, .int .i64 size, .int .i64 0, .int .i64 0, .int .i64 0, .int .i64 0, .int .i64 0, .bool false, .bool false] else #[.int .i64 0, .int .i64 0, .int .i64 0, .int .i64 0, .int .i64 0, .int .i64 0, .int .i64 0, .int .i64 0, .int .i64 0, .int .i64 0, .int .i64 0, .int .i64 0, .int .i64 0, .int .i64 0, .int .i64 0, .int .i64 0, .int .i64 0, .int .i64 0, .int .i64 0, .bool false, .bool false]) 51) ∧
          Hid (b9 = true → v22 = .pointer (some ⟨t1, 0, none⟩) ∧ wr.heap.size ≤ t1 ∧ Blk W t1 (if b12 then #[.int .i64 verts, .int .i64 arcs, .int .i64 workers, .int .i64 room, .int .i64 res, .int .i64 lex, .int .i64 hh, .int .i64 flag, .int .i64 pending, .int .i64 ask, .int .i64 count, .int .i64 sense, .int .i64 deques, .int .i64 size, .int .i64 0, .int .i64 0, .int .i64 0, .int .i64 0, .int .i64 0, .bool false, .bool false, .bool false] else #[.int .i64 0, .int .i64 0, .int .i64 0, .int .i64 0, .int .i64 0, .int .i64 0, .int .i64 0, .int .i64 0, .int .i64 0, .int .i64 0, .int .i64 0, .int .i64 0, .int .i64 0, .int .i64 0, .int .i64 0, .int .i64 0, .int .i64 0, .int .i64 0, .int .i64 0, .bool false, .bool false, .bool false]) 45) ∧
          Hid (b7 = true → b8 = true → ¬ p1 = q1) ∧
          Hid (b7 = true → b9 = true → ¬ p1 = t1) ∧
          Hid (b8 = true → b9 = true → ¬ q1 = t1) ∧
          Hid (b10 = true → b7 = true) ∧
          Hid (b11 = true → b8 = true) ∧
          Hid (b12 = true → b9 = true)), Lib.hid (fun _ _ _ _ _ _ _ _ _ _ _ _ _ _ _ _ _ _ _ _ _ _ _ _ _ _ _ => Iff.rfl)⟩
      refine wp_region_inv (fun l us W => ∃ (b0 b1 b2 b3 b4 b5 b6 b7 b8 b9 b10 b11 b12 : Bool) (v85 v86 v87 v88 v89 v90 v91 v20 v21 v22 : Value) (p1 q1 t1 : Nat), l = #[b0, b1, b2, b3, b4, b5, b6, b7, b8, b9, b10, b11, b12] ∧ us = [v85, v86, v87, v88, v89, v90, v91, v20, v21, v22] ∧ JI b0 b1 b2 b3 b4 b5 b6 b7 b8 b9 b10 b11 b12 v85 v86 v87 v88 v89 v90 v91 v20 v21 v22 p1 q1 t1 W) [85, 86, 87, 88, 89, 90, 91, 20, 21, 22] [undef, undef, undef, undef, undef, undef, undef, undef, undef, undef] (by kernel_rfl) (by kernel_rfl) (by simp only [putAll, Act.put, List.setIfInBounds_toArray, List.set_cons_zero, List.set_cons_succ]) ?_ ?_ ?_
      · exact ⟨false, false, false, false, false, false, false, false, false, false, false, false, false, _, _, _, _, _, _, _, _, _, _, 0, 0, 0, rfl, rfl, (HJI.out _ _ _ _ _ _ _ _ _ _ _ _ _ _ _ _ _ _ _ _ _ _ _ _ _ _ _ ).2 ⟨Lib.hid (⟨(Upd.refl _ _).drew⟩), Lib.hid (by simp), Lib.hid (by simp), Lib.hid (by simp), Lib.hid (by simp), Lib.hid (by simp), Lib.hid (by simp), Lib.hid (by simp), Lib.hid (by simp), Lib.hid (by simp), Lib.hid (by simp), Lib.hid (by simp), Lib.hid (by simp), Lib.hid (by simp), Lib.hid (by simp), Lib.hid (by simp), Lib.hid (by simp)⟩⟩
      · rintro i l us W ⟨b0, b1, b2, b3, b4, b5, b6, b7, b8, b9, b10, b11, b12, v85, v86, v87, v88, v89, v90, v91, v20, v21, v22, p1, q1, t1, rfl, rfl, hJI⟩ hr
        have hi : i = 0 ∨ i = 1 ∨ i = 2 ∨ i = 3 ∨ i = 4 ∨ i = 5 ∨ i = 6 ∨ i = 7 ∨ i = 8 ∨ i = 9 ∨ i = 10 ∨ i = 11 ∨ i = 12 := by
          have := ready_lt hr
          simp at this
          omega
        rcases hi with rfl | rfl | rfl | rfl | rfl | rfl | rfl | rfl | rfl | rfl | rfl | rfl | rfl
        · as_aux_lemma =>
          obtain ⟨hI, h0, h1, h2, h3, h4, h5, h6, h7, h8, h9, n7_8, n7_9, n8_9, g10, g11, g12⟩ := (HJI.out _ _ _ _ _ _ _ _ _ _ _ _ _ _ _ _ _ _ _ _ _ _ _ _ _ _ _ ).1 hJI
          obtain ⟨hn, hd⟩ := ready_at hr rfl
          simp [Region.binds] at hn hd
          have hlb := (D0.out.kept hI.out.k).l
          refine wpOp_step (o := ⟨some 85, .load 24 (.tmp 11), 24, _, _, none⟩) rfl (fun K' hK => ?_)
          simp only [putAll, Act.put, List.setIfInBounds_toArray, List.set_cons_zero, List.set_cons_succ]
          refine wp_load_mid 24 (.tmp 11) rfl lb 0 rfl [.int .i64 verts, .int .i64 arcs, .int .i64 workers, .int .i64 room, .int .i64 res, .int .i64 lex, .int .i64 hh, .int .i64 flag, .int .i64 pending, .int .i64 ask, .int .i64 count, .int .i64 sense, .int .i64 deques, .int .i64 size] _ (Blk.range hlb) Try.underlying24 rfl HZ14.out ?_
          exact hK _ _ ⟨_, by simp only [putAll, Act.put, List.setIfInBounds_toArray, List.set_cons_zero, List.set_cons_succ], true, b1, b2, b3, b4, b5, b6, b7, b8, b9, b10, b11, b12, _, _, _, _, _, _, _, _, _, _, p1, q1, t1, rfl, rfl, (HJI.out _ _ _ _ _ _ _ _ _ _ _ _ _ _ _ _ _ _ _ _ _ _ _ _ _ _ _ ).2 ⟨hI, Lib.hid (fun _ => rfl), h1, h2, h3, h4, h5, h6, h7, h8, h9, n7_8, n7_9, n8_9, g10, g11, g12⟩⟩
        · as_aux_lemma =>
          obtain ⟨hI, h0, h1, h2, h3, h4, h5, h6, h7, h8, h9, n7_8, n7_9, n8_9, g10, g11, g12⟩ := (HJI.out _ _ _ _ _ _ _ _ _ _ _ _ _ _ _ _ _ _ _ _ _ _ _ _ _ _ _ ).1 hJI
          obtain ⟨hn, hd⟩ := ready_at hr rfl
          simp [Region.binds] at hn hd
          refine wpOp_step rfl (fun K' hK => ?_)
          simp only [putAll, Act.put, List.setIfInBounds_toArray, List.set_cons_zero, List.set_cons_succ]
          go_simp
          exact hK _ _ ⟨_, by simp only [putAll, Act.put, List.setIfInBounds_toArray, List.set_cons_zero, List.set_cons_succ], b0, true, b2, b3, b4, b5, b6, b7, b8, b9, b10, b11, b12, _, _, _, _, _, _, _, _, _, _, p1, q1, t1, rfl, rfl, (HJI.out _ _ _ _ _ _ _ _ _ _ _ _ _ _ _ _ _ _ _ _ _ _ _ _ _ _ _ ).2 ⟨hI, h0, Lib.hid (fun _ => rfl), h2, h3, h4, h5, h6, h7, h8, h9, n7_8, n7_9, n8_9, g10, g11, g12⟩⟩
        · as_aux_lemma =>
          obtain ⟨hI, h0, h1, h2, h3, h4, h5, h6, h7, h8, h9, n7_8, n7_9, n8_9, g10, g11, g12⟩ := (HJI.out _ _ _ _ _ _ _ _ _ _ _ _ _ _ _ _ _ _ _ _ _ _ _ _ _ _ _ ).1 hJI
          obtain ⟨hn, hd⟩ := ready_at hr rfl
          simp [Region.binds] at hn hd
          obtain rfl := h0.out (by simp [hd])
          obtain rfl := h1.out (by simp [hd])
          refine wpOp_step rfl (fun K' hK => ?_)
          simp only [putAll, Act.put, List.setIfInBounds_toArray, List.set_cons_zero, List.set_cons_succ]
          go_simp
          refine (HNU v _).out.mono ?_
          rintro e w' ⟨rfl, hk⟩
          exact hK _ _ ⟨_, by simp only [putAll, Act.put, List.setIfInBounds_toArray, List.set_cons_zero, List.set_cons_succ], b0, b1, true, b3, b4, b5, b6, b7, b8, b9, b10, b11, b12, _, _, _, _, _, _, _, _, _, _, p1, q1, t1, rfl, rfl, (HJI.out _ _ _ _ _ _ _ _ _ _ _ _ _ _ _ _ _ _ _ _ _ _ _ _ _ _ _ ).2 ⟨(Lib.hid (hI.out.kept hk)), h0, h1, Lib.hid (fun _ => rfl), h3, h4, h5, h6, Lib.hid (fun hb => ⟨(h7.out hb).1, (h7.out hb).2.1, (h7.out hb).2.2.kept hk⟩), Lib.hid (fun hb => ⟨(h8.out hb).1, (h8.out hb).2.1, (h8.out hb).2.2.kept hk⟩), Lib.hid (fun hb => ⟨(h9.out hb).1, (h9.out hb).2.1, (h9.out hb).2.2.kept hk⟩), n7_8, n7_9, n8_9, g10, g11, g12⟩⟩
        · as_aux_lemma =>
          obtain ⟨hI, h0, h1, h2, h3, h4, h5, h6, h7, h8, h9, n7_8, n7_9, n8_9, g10, g11, g12⟩ := (HJI.out _ _ _ _ _ _ _ _ _ _ _ _ _ _ _ _ _ _ _ _ _ _ _ _ _ _ _ ).1 hJI
          obtain ⟨hn, hd⟩ := ready_at hr rfl
          simp [Region.binds] at hn hd
          have hlb := (D0.out.kept hI.out.k).l
          refine wpOp_step (o := ⟨some 88, .load 24 (.tmp 11), 24, _, _, none⟩) rfl (fun K' hK => ?_)
          simp only [putAll, Act.put, List.setIfInBounds_toArray, List.set_cons_zero, List.set_cons_succ]
          refine wp_load_mid 24 (.tmp 11) rfl lb 0 rfl [.int .i64 verts, .int .i64 arcs, .int .i64 workers, .int .i64 room, .int .i64 res, .int .i64 lex, .int .i64 hh, .int .i64 flag, .int .i64 pending, .int .i64 ask, .int .i64 count, .int .i64 sense, .int .i64 deques, .int .i64 size] _ (Blk.range hlb) Try.underlying24 rfl HZ14.out ?_
          exact hK _ _ ⟨_, by simp only [putAll, Act.put, List.setIfInBounds_toArray, List.set_cons_zero, List.set_cons_succ], b0, b1, b2, true, b4, b5, b6, b7, b8, b9, b10, b11, b12, _, _, _, _, _, _, _, _, _, _, p1, q1, t1, rfl, rfl, (HJI.out _ _ _ _ _ _ _ _ _ _ _ _ _ _ _ _ _ _ _ _ _ _ _ _ _ _ _ ).2 ⟨hI, h0, h1, h2, Lib.hid (fun _ => rfl), h4, h5, h6, h7, h8, h9, n7_8, n7_9, n8_9, g10, g11, g12⟩⟩
        · as_aux_lemma =>
          obtain ⟨hI, h0, h1, h2, h3, h4, h5, h6, h7, h8, h9, n7_8, n7_9, n8_9, g10, g11, g12⟩ := (HJI.out _ _ _ _ _ _ _ _ _ _ _ _ _ _ _ _ _ _ _ _ _ _ _ _ _ _ _ ).1 hJI
          obtain ⟨hn, hd⟩ := ready_at hr rfl
          simp [Region.binds] at hn hd
          obtain rfl := h3.out (by simp [hd])
          refine wpOp_step rfl (fun K' hK => ?_)
          simp only [putAll, Act.put, List.setIfInBounds_toArray, List.set_cons_zero, List.set_cons_succ]
          go_simp
          refine (HNP _).out.mono ?_
          rintro e w' ⟨rfl, hk⟩
          exact hK _ _ ⟨_, by simp only [putAll, Act.put, List.setIfInBounds_toArray, List.set_cons_zero, List.set_cons_succ], b0, b1, b2, b3, true, b5, b6, b7, b8, b9, b10, b11, b12, _, _, _, _, _, _, _, _, _, _, p1, q1, t1, rfl, rfl, (HJI.out _ _ _ _ _ _ _ _ _ _ _ _ _ _ _ _ _ _ _ _ _ _ _ _ _ _ _ ).2 ⟨(Lib.hid (hI.out.kept hk)), h0, h1, h2, h3, Lib.hid (fun _ => rfl), h5, h6, Lib.hid (fun hb => ⟨(h7.out hb).1, (h7.out hb).2.1, (h7.out hb).2.2.kept hk⟩), Lib.hid (fun hb => ⟨(h8.out hb).1, (h8.out hb).2.1, (h8.out hb).2.2.kept hk⟩), Lib.hid (fun hb => ⟨(h9.out hb).1, (h9.out hb).2.1, (h9.out hb).2.2.kept hk⟩), n7_8, n7_9, n8_9, g10, g11, g12⟩⟩
        · as_aux_lemma =>
          obtain ⟨hI, h0, h1, h2, h3, h4, h5, h6, h7, h8, h9, n7_8, n7_9, n8_9, g10, g11, g12⟩ := (HJI.out _ _ _ _ _ _ _ _ _ _ _ _ _ _ _ _ _ _ _ _ _ _ _ _ _ _ _ ).1 hJI
          obtain ⟨hn, hd⟩ := ready_at hr rfl
          simp [Region.binds] at hn hd
          have hlb := (D0.out.kept hI.out.k).l
          refine wpOp_step (o := ⟨some 90, .load 24 (.tmp 11), 24, _, _, none⟩) rfl (fun K' hK => ?_)
          simp only [putAll, Act.put, List.setIfInBounds_toArray, List.set_cons_zero, List.set_cons_succ]
          refine wp_load_mid 24 (.tmp 11) rfl lb 0 rfl [.int .i64 verts, .int .i64 arcs, .int .i64 workers, .int .i64 room, .int .i64 res, .int .i64 lex, .int .i64 hh, .int .i64 flag, .int .i64 pending, .int .i64 ask, .int .i64 count, .int .i64 sense, .int .i64 deques, .int .i64 size] _ (Blk.range hlb) Try.underlying24 rfl HZ14.out ?_
          exact hK _ _ ⟨_, by simp only [putAll, Act.put, List.setIfInBounds_toArray, List.set_cons_zero, List.set_cons_succ], b0, b1, b2, b3, b4, true, b6, b7, b8, b9, b10, b11, b12, _, _, _, _, _, _, _, _, _, _, p1, q1, t1, rfl, rfl, (HJI.out _ _ _ _ _ _ _ _ _ _ _ _ _ _ _ _ _ _ _ _ _ _ _ _ _ _ _ ).2 ⟨hI, h0, h1, h2, h3, h4, Lib.hid (fun _ => rfl), h6, h7, h8, h9, n7_8, n7_9, n8_9, g10, g11, g12⟩⟩
        · as_aux_lemma =>
          obtain ⟨hI, h0, h1, h2, h3, h4, h5, h6, h7, h8, h9, n7_8, n7_9, n8_9, g10, g11, g12⟩ := (HJI.out _ _ _ _ _ _ _ _ _ _ _ _ _ _ _ _ _ _ _ _ _ _ _ _ _ _ _ ).1 hJI
          obtain ⟨hn, hd⟩ := ready_at hr rfl
          simp [Region.binds] at hn hd
          obtain rfl := h5.out (by simp [hd])
          refine wpOp_step rfl (fun K' hK => ?_)
          simp only [putAll, Act.put, List.setIfInBounds_toArray, List.set_cons_zero, List.set_cons_succ]
          go_simp
          refine (HNS _).out.mono ?_
          rintro e w' ⟨rfl, hk⟩
          exact hK _ _ ⟨_, by simp only [putAll, Act.put, List.setIfInBounds_toArray, List.set_cons_zero, List.set_cons_succ], b0, b1, b2, b3, b4, b5, true, b7, b8, b9, b10, b11, b12, _, _, _, _, _, _, _, _, _, _, p1, q1, t1, rfl, rfl, (HJI.out _ _ _ _ _ _ _ _ _ _ _ _ _ _ _ _ _ _ _ _ _ _ _ _ _ _ _ ).2 ⟨(Lib.hid (hI.out.kept hk)), h0, h1, h2, h3, h4, h5, Lib.hid (fun _ => rfl), Lib.hid (fun hb => ⟨(h7.out hb).1, (h7.out hb).2.1, (h7.out hb).2.2.kept hk⟩), Lib.hid (fun hb => ⟨(h8.out hb).1, (h8.out hb).2.1, (h8.out hb).2.2.kept hk⟩), Lib.hid (fun hb => ⟨(h9.out hb).1, (h9.out hb).2.1, (h9.out hb).2.2.kept hk⟩), n7_8, n7_9, n8_9, g10, g11, g12⟩⟩
        · as_aux_lemma =>
          obtain ⟨hI, h0, h1, h2, h3, h4, h5, h6, h7, h8, h9, n7_8, n7_9, n8_9, g10, g11, g12⟩ := (HJI.out _ _ _ _ _ _ _ _ _ _ _ _ _ _ _ _ _ _ _ _ _ _ _ _ _ _ _ ).1 hJI
          obtain ⟨hn, hd⟩ := ready_at hr rfl
          simp [Region.binds] at hn hd
          have hbq : b10 = false := by cases b10 with | false => rfl | true => (have := g10.out rfl; rw [hn] at this; cases this)
          subst hbq
          refine wpOp_step rfl (fun K' hK => ?_)
          simp only [putAll, Act.put, List.setIfInBounds_toArray, List.set_cons_zero, List.set_cons_succ]
          go_simp
          exact hK _ _ ⟨_, by simp only [putAll, Act.put, List.setIfInBounds_toArray, List.set_cons_zero, List.set_cons_succ], b0, b1, b2, b3, b4, b5, b6, true, b8, b9, false, b11, b12, _, _, _, _, _, _, _, _, _, _, W.heap.size, q1, t1, rfl, rfl, (HJI.out _ _ _ _ _ _ _ _ _ _ _ _ _ _ _ _ _ _ _ _ _ _ _ _ _ _ _ ).2 ⟨(Lib.hid (hI.out.kept ((Upd.refl _ _).alloc _))), h0, h1, h2, h3, h4, h5, h6, Lib.hid (fun _ => ⟨rfl, hI.out.up, Blk.new _ _ _⟩), Lib.hid (fun hb => ⟨(h8.out hb).1, (h8.out hb).2.1, (h8.out hb).2.2.kept ((Upd.refl _ _).alloc _)⟩), Lib.hid (fun hb => ⟨(h9.out hb).1, (h9.out hb).2.1, (h9.out hb).2.2.kept ((Upd.refl _ _).alloc _)⟩), Lib.hid (fun _ hb e => by have := (h8.out hb).2.2.lt; omega), Lib.hid (fun _ hb e => by have := (h9.out hb).2.2.lt; omega), n8_9, Lib.hid (by simp), g11, g12⟩⟩
        · as_aux_lemma =>
          obtain ⟨hI, h0, h1, h2, h3, h4, h5, h6, h7, h8, h9, n7_8, n7_9, n8_9, g10, g11, g12⟩ := (HJI.out _ _ _ _ _ _ _ _ _ _ _ _ _ _ _ _ _ _ _ _ _ _ _ _ _ _ _ ).1 hJI
          obtain ⟨hn, hd⟩ := ready_at hr rfl
          simp [Region.binds] at hn hd
          have hbq : b11 = false := by cases b11 with | false => rfl | true => (have := g11.out rfl; rw [hn] at this; cases this)
          subst hbq
          refine wpOp_step rfl (fun K' hK => ?_)
          simp only [putAll, Act.put, List.setIfInBounds_toArray, List.set_cons_zero, List.set_cons_succ]
          go_simp
          exact hK _ _ ⟨_, by simp only [putAll, Act.put, List.setIfInBounds_toArray, List.set_cons_zero, List.set_cons_succ], b0, b1, b2, b3, b4, b5, b6, b7, true, b9, b10, false, b12, _, _, _, _, _, _, _, _, _, _, p1, W.heap.size, t1, rfl, rfl, (HJI.out _ _ _ _ _ _ _ _ _ _ _ _ _ _ _ _ _ _ _ _ _ _ _ _ _ _ _ ).2 ⟨(Lib.hid (hI.out.kept ((Upd.refl _ _).alloc _))), h0, h1, h2, h3, h4, h5, h6, Lib.hid (fun hb => ⟨(h7.out hb).1, (h7.out hb).2.1, (h7.out hb).2.2.kept ((Upd.refl _ _).alloc _)⟩), Lib.hid (fun _ => ⟨rfl, hI.out.up, Blk.new _ _ _⟩), Lib.hid (fun hb => ⟨(h9.out hb).1, (h9.out hb).2.1, (h9.out hb).2.2.kept ((Upd.refl _ _).alloc _)⟩), Lib.hid (fun hb _ e => by have := (h7.out hb).2.2.lt; omega), n7_9, Lib.hid (fun _ hb e => by have := (h9.out hb).2.2.lt; omega), g10, Lib.hid (by simp), g12⟩⟩
        · as_aux_lemma =>
          obtain ⟨hI, h0, h1, h2, h3, h4, h5, h6, h7, h8, h9, n7_8, n7_9, n8_9, g10, g11, g12⟩ := (HJI.out _ _ _ _ _ _ _ _ _ _ _ _ _ _ _ _ _ _ _ _ _ _ _ _ _ _ _ ).1 hJI
          obtain ⟨hn, hd⟩ := ready_at hr rfl
          simp [Region.binds] at hn hd
          have hbq : b12 = false := by cases b12 with | false => rfl | true => (have := g12.out rfl; rw [hn] at this; cases this)
          subst hbq
          refine wpOp_step rfl (fun K' hK => ?_)
          simp only [putAll, Act.put, List.setIfInBounds_toArray, List.set_cons_zero, List.set_cons_succ]
          go_simp
          exact hK _ _ ⟨_, by simp only [putAll, Act.put, List.setIfInBounds_toArray, List.set_cons_zero, List.set_cons_succ], b0, b1, b2, b3, b4, b5, b6, b7, b8, true, b10, b11, false, _, _, _, _, _, _, _, _, _, _, p1, q1, W.heap.size, rfl, rfl, (HJI.out _ _ _ _ _ _ _ _ _ _ _ _ _ _ _ _ _ _ _ _ _ _ _ _ _ _ _ ).2 ⟨(Lib.hid (hI.out.kept ((Upd.refl _ _).alloc _))), h0, h1, h2, h3, h4, h5, h6, Lib.hid (fun hb => ⟨(h7.out hb).1, (h7.out hb).2.1, (h7.out hb).2.2.kept ((Upd.refl _ _).alloc _)⟩), Lib.hid (fun hb => ⟨(h8.out hb).1, (h8.out hb).2.1, (h8.out hb).2.2.kept ((Upd.refl _ _).alloc _)⟩), Lib.hid (fun _ => ⟨rfl, hI.out.up, Blk.new _ _ _⟩), n7_8, Lib.hid (fun hb _ e => by have := (h7.out hb).2.2.lt; omega), Lib.hid (fun hb _ e => by have := (h8.out hb).2.2.lt; omega), g10, g11, Lib.hid (by simp)⟩⟩
        · as_aux_lemma =>
          obtain ⟨hI, h0, h1, h2, h3, h4, h5, h6, h7, h8, h9, n7_8, n7_9, n8_9, g10, g11, g12⟩ := (HJI.out _ _ _ _ _ _ _ _ _ _ _ _ _ _ _ _ _ _ _ _ _ _ _ _ _ _ _ ).1 hJI
          obtain ⟨hn, hd⟩ := ready_at hr rfl
          simp [Region.binds] at hn hd
          obtain rfl := h2.out (by simp [hd])
          obtain ⟨hp, hx, hbk⟩ := h7.out (by simp [hd])
          subst hn hp
          have hbk : Blk W _ _ _ := hbk
          have hc := hbk.cell
          have hf := hbk.free
          refine wpOp_step (o := ⟨none, .store 48 (.tmp 20) (.tmp 87), 0, _, _, none⟩) rfl (fun K' hK => ?_)
          simp only [putAll, Act.put, List.setIfInBounds_toArray, List.set_cons_zero, List.set_cons_succ]
          simp only [if_false, Bool.false_eq_true] at hbk
          refine wp_store_mid 48 (.tmp 20) (.tmp 87) rfl p1 0 #[.int .i64 verts, .int .i64 arcs, .int .i64 workers, .int .i64 room, .int .i64 res, .int .i64 lex, .int .i64 hh, .int .i64 flag, .int .i64 pending, .int .i64 ask, .int .i64 count, .int .i64 sense, .int .i64 deques, .int .i64 size, .int .i64 0, .int .i64 0, .int .i64 0, .int .i64 0, .int .i64 0, .bool false, .bool false, .int .i64 v] rfl rfl (Blk.there hbk 22 rfl) HZu.out (all_oneCell_toArray (cs := [.int .i64 verts, .int .i64 arcs, .int .i64 workers, .int .i64 room, .int .i64 res, .int .i64 lex, .int .i64 hh, .int .i64 flag, .int .i64 pending, .int .i64 ask, .int .i64 count, .int .i64 sense, .int .i64 deques, .int .i64 size, .int .i64 0, .int .i64 0, .int .i64 0, .int .i64 0, .int .i64 0, .bool false, .bool false, .int .i64 v]) (by simp [Value.oneCell'])) ?_
          have hs := hbk.alls [.int .i64 verts, .int .i64 arcs, .int .i64 workers, .int .i64 room, .int .i64 res, .int .i64 lex, .int .i64 hh, .int .i64 flag, .int .i64 pending, .int .i64 ask, .int .i64 count, .int .i64 sense, .int .i64 deques, .int .i64 size, .int .i64 0, .int .i64 0, .int .i64 0, .int .i64 0, .int .i64 0, .bool false, .bool false, .int .i64 v] rfl
          exact hK _ _ ⟨_, by simp only [putAll, Act.put, List.setIfInBounds_toArray, List.set_cons_zero, List.set_cons_succ], b0, b1, b2, b3, b4, b5, b6, b7, b8, b9, true, b11, b12, _, _, _, _, _, _, _, _, _, _, p1, q1, t1, rfl, rfl, (HJI.out _ _ _ _ _ _ _ _ _ _ _ _ _ _ _ _ _ _ _ _ _ _ _ _ _ _ _ ).2 ⟨(Lib.hid (hI.out.upd hs.2 hx)), h0, h1, h2, h3, h4, h5, h6, Lib.hid (fun _ => ⟨rfl, hx, hs.1⟩), Lib.hid (fun hb => ⟨(h8.out hb).1, (h8.out hb).2.1, (h8.out hb).2.2.upd hs.2 (fun e => n7_8.out (by simp [hd]) hb e.symm)⟩), Lib.hid (fun hb => ⟨(h9.out hb).1, (h9.out hb).2.1, (h9.out hb).2.2.upd hs.2 (fun e => n7_9.out (by simp [hd]) hb e.symm)⟩), n7_8, n7_9, n8_9, Lib.hid (fun _ => (by simp [hd])), g11, g12⟩⟩
        · as_aux_lemma =>
          obtain ⟨hI, h0, h1, h2, h3, h4, h5, h6, h7, h8, h9, n7_8, n7_9, n8_9, g10, g11, g12⟩ := (HJI.out _ _ _ _ _ _ _ _ _ _ _ _ _ _ _ _ _ _ _ _ _ _ _ _ _ _ _ ).1 hJI
          obtain ⟨hn, hd⟩ := ready_at hr rfl
          simp [Region.binds] at hn hd
          obtain rfl := h4.out (by simp [hd])
          obtain ⟨hp, hx, hbk⟩ := h8.out (by simp [hd])
          subst hn hp
          have hbk : Blk W _ _ _ := hbk
          have hc := hbk.cell
          have hf := hbk.free
          refine wpOp_step (o := ⟨none, .store 51 (.tmp 21) (.tmp 89), 0, _, _, none⟩) rfl (fun K' hK => ?_)
          simp only [putAll, Act.put, List.setIfInBounds_toArray, List.set_cons_zero, List.set_cons_succ]
          simp only [if_false, Bool.false_eq_true] at hbk
          refine wp_store_mid 51 (.tmp 21) (.tmp 89) rfl q1 0 #[.int .i64 verts, .int .i64 arcs, .int .i64 workers, .int .i64 room, .int .i64 res, .int .i64 lex, .int .i64 hh, .int .i64 flag, .int .i64 pending, .int .i64 ask, .int .i64 count, .int .i64 sense, .int .i64 deques, .int .i64 size, .int .i64 0, .int .i64 0, .int .i64 0, .int .i64 0, .int .i64 0, .bool false, .bool false] rfl rfl (Blk.there hbk 21 rfl) HZo.out (all_oneCell_toArray (cs := [.int .i64 verts, .int .i64 arcs, .int .i64 workers, .int .i64 room, .int .i64 res, .int .i64 lex, .int .i64 hh, .int .i64 flag, .int .i64 pending, .int .i64 ask, .int .i64 count, .int .i64 sense, .int .i64 deques, .int .i64 size, .int .i64 0, .int .i64 0, .int .i64 0, .int .i64 0, .int .i64 0, .bool false, .bool false]) (by simp [Value.oneCell'])) ?_
          have hs := hbk.alls [.int .i64 verts, .int .i64 arcs, .int .i64 workers, .int .i64 room, .int .i64 res, .int .i64 lex, .int .i64 hh, .int .i64 flag, .int .i64 pending, .int .i64 ask, .int .i64 count, .int .i64 sense, .int .i64 deques, .int .i64 size, .int .i64 0, .int .i64 0, .int .i64 0, .int .i64 0, .int .i64 0, .bool false, .bool false] rfl
          exact hK _ _ ⟨_, by simp only [putAll, Act.put, List.setIfInBounds_toArray, List.set_cons_zero, List.set_cons_succ], b0, b1, b2, b3, b4, b5, b6, b7, b8, b9, b10, true, b12, _, _, _, _, _, _, _, _, _, _, p1, q1, t1, rfl, rfl, (HJI.out _ _ _ _ _ _ _ _ _ _ _ _ _ _ _ _ _ _ _ _ _ _ _ _ _ _ _ ).2 ⟨(Lib.hid (hI.out.upd hs.2 hx)), h0, h1, h2, h3, h4, h5, h6, Lib.hid (fun hb => ⟨(h7.out hb).1, (h7.out hb).2.1, (h7.out hb).2.2.upd hs.2 (fun e => n7_8.out hb (by simp [hd]) e)⟩), Lib.hid (fun _ => ⟨rfl, hx, hs.1⟩), Lib.hid (fun hb => ⟨(h9.out hb).1, (h9.out hb).2.1, (h9.out hb).2.2.upd hs.2 (fun e => n8_9.out (by simp [hd]) hb e.symm)⟩), n7_8, n7_9, n8_9, g10, Lib.hid (fun _ => (by simp [hd])), g12⟩⟩
        · as_aux_lemma =>
          obtain ⟨hI, h0, h1, h2, h3, h4, h5, h6, h7, h8, h9, n7_8, n7_9, n8_9, g10, g11, g12⟩ := (HJI.out _ _ _ _ _ _ _ _ _ _ _ _ _ _ _ _ _ _ _ _ _ _ _ _ _ _ _ ).1 hJI
          obtain ⟨hn, hd⟩ := ready_at hr rfl
          simp [Region.binds] at hn hd
          obtain rfl := h6.out (by simp [hd])
          obtain ⟨hp, hx, hbk⟩ := h9.out (by simp [hd])
          subst hn hp
          have hbk : Blk W _ _ _ := hbk
          have hc := hbk.cell
          have hf := hbk.free
          refine wpOp_step (o := ⟨none, .store 45 (.tmp 22) (.tmp 91), 0, _, _, none⟩) rfl (fun K' hK => ?_)
          simp only [putAll, Act.put, List.setIfInBounds_toArray, List.set_cons_zero, List.set_cons_succ]
          simp only [if_false, Bool.false_eq_true] at hbk
          refine wp_store_mid 45 (.tmp 22) (.tmp 91) rfl t1 0 #[.int .i64 verts, .int .i64 arcs, .int .i64 workers, .int .i64 room, .int .i64 res, .int .i64 lex, .int .i64 hh, .int .i64 flag, .int .i64 pending, .int .i64 ask, .int .i64 count, .int .i64 sense, .int .i64 deques, .int .i64 size, .int .i64 0, .int .i64 0, .int .i64 0, .int .i64 0, .int .i64 0, .bool false, .bool false, .bool false] rfl rfl (Blk.there hbk 22 rfl) HZt.out (all_oneCell_toArray (cs := [.int .i64 verts, .int .i64 arcs, .int .i64 workers, .int .i64 room, .int .i64 res, .int .i64 lex, .int .i64 hh, .int .i64 flag, .int .i64 pending, .int .i64 ask, .int .i64 count, .int .i64 sense, .int .i64 deques, .int .i64 size, .int .i64 0, .int .i64 0, .int .i64 0, .int .i64 0, .int .i64 0, .bool false, .bool false, .bool false]) (by simp [Value.oneCell'])) ?_
          have hs := hbk.alls [.int .i64 verts, .int .i64 arcs, .int .i64 workers, .int .i64 room, .int .i64 res, .int .i64 lex, .int .i64 hh, .int .i64 flag, .int .i64 pending, .int .i64 ask, .int .i64 count, .int .i64 sense, .int .i64 deques, .int .i64 size, .int .i64 0, .int .i64 0, .int .i64 0, .int .i64 0, .int .i64 0, .bool false, .bool false, .bool false] rfl
          exact hK _ _ ⟨_, by simp only [putAll, Act.put, List.setIfInBounds_toArray, List.set_cons_zero, List.set_cons_succ], b0, b1, b2, b3, b4, b5, b6, b7, b8, b9, b10, b11, true, _, _, _, _, _, _, _, _, _, _, p1, q1, t1, rfl, rfl, (HJI.out _ _ _ _ _ _ _ _ _ _ _ _ _ _ _ _ _ _ _ _ _ _ _ _ _ _ _ ).2 ⟨(Lib.hid (hI.out.upd hs.2 hx)), h0, h1, h2, h3, h4, h5, h6, Lib.hid (fun hb => ⟨(h7.out hb).1, (h7.out hb).2.1, (h7.out hb).2.2.upd hs.2 (fun e => n7_9.out hb (by simp [hd]) e)⟩), Lib.hid (fun hb => ⟨(h8.out hb).1, (h8.out hb).2.1, (h8.out hb).2.2.upd hs.2 (fun e => n8_9.out hb (by simp [hd]) e)⟩), Lib.hid (fun _ => ⟨rfl, hx, hs.1⟩), n7_8, n7_9, n8_9, g10, g11, Lib.hid (fun _ => (by simp [hd]))⟩⟩
      · rintro l us W ⟨b0, b1, b2, b3, b4, b5, b6, b7, b8, b9, b10, b11, b12, v85, v86, v87, v88, v89, v90, v91, v20, v21, v22, p1, q1, t1, rfl, rfl, hJI⟩ hall
        as_aux_lemma =>
        obtain ⟨hI, h0, h1, h2, h3, h4, h5, h6, h7, h8, h9, n7_8, n7_9, n8_9, g10, g11, g12⟩ := (HJI.out _ _ _ _ _ _ _ _ _ _ _ _ _ _ _ _ _ _ _ _ _ _ _ _ _ _ _ ).1 hJI
        clear hJI
        obtain rfl : b0 = true := by simpa using hall 0
        obtain rfl : b1 = true := by simpa using hall 1
        obtain rfl : b2 = true := by simpa using hall 2
        obtain rfl : b3 = true := by simpa using hall 3
        obtain rfl : b4 = true := by simpa using hall 4
        obtain rfl : b5 = true := by simpa using hall 5
        obtain rfl : b6 = true := by simpa using hall 6
        obtain rfl : b7 = true := by simpa using hall 7
        obtain rfl : b8 = true := by simpa using hall 8
        obtain rfl : b9 = true := by simpa using hall 9
        obtain rfl : b10 = true := by simpa using hall 10
        obtain rfl : b11 = true := by simpa using hall 11
        obtain rfl : b12 = true := by simpa using hall 12
        obtain rfl := h0.out rfl
        obtain rfl := h1.out rfl
        obtain rfl := h2.out rfl
        obtain rfl := h3.out rfl
        obtain rfl := h4.out rfl
        obtain rfl := h5.out rfl
        obtain rfl := h6.out rfl
        obtain ⟨rfl, hx7, hB7⟩ := h7.out rfl
        obtain ⟨rfl, hx8, hB8⟩ := h8.out rfl
        obtain ⟨rfl, hx9, hB9⟩ := h9.out rfl
        simp only [putAll, Act.put, List.setIfInBounds_toArray, List.set_cons_zero, List.set_cons_succ]
        clear HJI JI
        have D1 := Lib.hid (D0.out.kept hI.out.k)
        have PB1 : PB W p1 48 (⟨verts, arcs, workers, room, res, lex, hh, flag, pending, ask, count, sense, deques, size⟩ : Lay) 0 ⟨0, 0, 0, 0, false, false⟩ [.int .i64 v] := hB7
        have PB2 : PB W q1 51 (⟨verts, arcs, workers, room, res, lex, hh, flag, pending, ask, count, sense, deques, size⟩ : Lay) 0 ⟨0, 0, 0, 0, false, false⟩ [] := hB8
        have PB3 : PB W t1 45 (⟨verts, arcs, workers, room, res, lex, hh, flag, pending, ask, count, sense, deques, size⟩ : Lay) 0 ⟨0, 0, 0, 0, false, false⟩ [.bool false] := hB9
        have T1 : Hid (Trio W (⟨verts, arcs, workers, room, res, lex, hh, flag, pending, ask, count, sense, deques, size⟩ : Lay) v j ⟨fresh, false, xs⟩ B W.heap.size p1 q1 t1) := Lib.hid (Trio.start PB1 PB2 PB3 (by have n := D0.out.n1; omega) hj3 xs)
        clear hall hI hB7 hB8 hB9 hx7 hx8 hx9 D0 PB1 PB2 PB3
        go_upto_region 13 with (fail)
        generalize hW : W.heap.size = B2 at T1
        have HB2 : Hid (B2 ≤ W.heap.size) := Lib.hid (by omega)
        clear hW
        obtain ⟨u1, hu1⟩ : ∃ y : Value, (kdOf j v).ifc (boxOf j p1 q1 t1) = y := ⟨_, rfl⟩
        have Hu1 := Lib.hid hu1
        clear hu1
        go_cut [23] from 92 to 99 (fun x wx => u1 = x ∧ Hid (DD w B lb bb g cb cg #[.int .i64 verts, .int .i64 arcs, .int .i64 workers, .int .i64 room, .int .i64 res, .int .i64 lex, .int .i64 hh, .int .i64 flag, .int .i64 pending, .int .i64 ask, .int .i64 count, .int .i64 sense, .int .i64 deques, .int .i64 size] xs xs wx) ∧ Hid (Trio wx (⟨verts, arcs, workers, room, res, lex, hh, flag, pending, ask, count, sense, deques, size⟩ : Lay) v j ⟨fresh, false, xs⟩ B B2 p1 q1 t1) ∧ Hid (B2 ≤ wx.heap.size))
        case first =>
          have hal := fun o => (Upd.refl (fun _ => False) W).alloc o
          rcases hj3 with rfl | rfl | rfl
          · have e0 : knd % 3 = 0 := HJ.out
            obtain rfl : u1 = .iface 36 (.pointer (some ⟨p1, 0, none⟩)) := Hu1.out.symm
            clear HJ
            go_wp2_with fail
            go_meet
            case rel => exact ⟨rfl, Lib.hid (D1.out.kept (hal _)), Lib.hid (T1.out.kept (hal _)), Lib.hid (Nat.le_trans HB2.out (hal _).size)⟩
          · have e0 : knd % 3 = 1 := HJ.out
            obtain rfl : u1 = .iface 37 (.pointer (some ⟨q1, 0, none⟩)) := Hu1.out.symm
            clear HJ
            go_wp2_with fail
            go_meet
            case rel => exact ⟨rfl, Lib.hid (D1.out.kept (hal _)), Lib.hid (T1.out.kept (hal _)), Lib.hid (Nat.le_trans HB2.out (hal _).size)⟩
          · have e0 : knd % 3 = 2 := HJ.out
            obtain rfl : u1 = .iface 38 (.pointer (some ⟨t1, 0, none⟩)) := Hu1.out.symm
            clear HJ
            go_wp2_with fail
            go_meet
            case rel => exact ⟨rfl, Lib.hid (D1.out.kept (hal _)), Lib.hid (T1.out.kept (hal _)), Lib.hid (Nat.le_trans HB2.out (hal _).size)⟩
        case rest =>
          obtain ⟨rfl, D2, T2, HB3⟩ := hcut
          clear D1 T1 HB2
          go_upto_region 14 with (fail)
          go_wp2_with fail
          go_loopw [102] (fun cx wr => ∃ i : Nat, cx = .int .u8 i ∧ i ≤ M ∧ Hid (DD w B lb bb g cb cg #[.int .i64 verts, .int .i64 arcs, .int .i64 workers, .int .i64 room, .int .i64 res, .int .i64 lex, .int .i64 hh, .int .i64 flag, .int .i64 pending, .int .i64 ask, .int .i64 count, .int .i64 sense, .int .i64 deques, .int .i64 size] (krun tp r (kdOf j v) ⟨fresh, false, xs⟩ i).xs xs wr) ∧ Hid (Trio wr (⟨verts, arcs, workers, room, res, lex, hh, flag, pending, ask, count, sense, deques, size⟩ : Lay) v j (krun tp r (kdOf j v) ⟨fresh, false, xs⟩ i) B B2 p1 q1 t1) ∧ Hid (B2 ≤ wr.heap.size)) (fun cx _ => M - (intOf cx).toNat)
          case atStart => exact ⟨0, rfl, by omega, D2, T2, HB3⟩
          case round =>
            clear D2 T2 HB3
            obtain ⟨i, rfl, hi, D0, T1, HB3⟩ := hrel
            by_cases hlt : i < M
            · have i1 : (i : Int) < atv % 6 := by rw [HMM.out]; omega
              have i2 : decide ((i : Int) < atv % 6) = true := by simpa using i1
              as_aux_lemma =>
              have HK := Lib.hid (kstep_any (kdOf j v) _ HG.out T1.out.at D0.out.b (by have n1 := D0.out.n1; have n2 := T1.out.box; omega) (HRE.out.inv i))
              rcases hj3 with rfl | rfl | rfl
              · obtain rfl : u1 = .iface 36 (.pointer (some ⟨p1, 0, none⟩)) := Hu1.out.symm
                go_wp2_with fail
                refine HK.out.mono ?_
                rintro e W5 ⟨rfl, hK⟩
                have E0 := Lib.hid (D0.out.mach1 hK (by have n2 := T1.out.box; omega))
                have E1 := Lib.hid (T1.out.step hK (by have n1 := D0.out.n1; omega))
                have E2 : Hid (B2 ≤ W5.heap.size) := Lib.hid (Nat.le_trans HB3.out hK.2.2.size)
                clear hK HK D0 T1 HB3
                have hwc : IntKind.u8.wrap ((i : Int) + 1) = ((i + 1 : Nat) : Int) := by rw [IntKind.wrap_u8]; omega
                go_wp2_with fail
                go_roundw
                case rel => exact ⟨i + 1, by go_num, by omega, E0, E1, E2⟩
                case measure => simp [intOf]; omega
              · obtain rfl : u1 = .iface 37 (.pointer (some ⟨q1, 0, none⟩)) := Hu1.out.symm
                go_wp2_with fail
                refine HK.out.mono ?_
                rintro e W5 ⟨rfl, hK⟩
                have E0 := Lib.hid (D0.out.mach1 hK (by have n2 := T1.out.box; omega))
                have E1 := Lib.hid (T1.out.step hK (by have n1 := D0.out.n1; omega))
                have E2 : Hid (B2 ≤ W5.heap.size) := Lib.hid (Nat.le_trans HB3.out hK.2.2.size)
                clear hK HK D0 T1 HB3
                have hwc : IntKind.u8.wrap ((i : Int) + 1) = ((i + 1 : Nat) : Int) := by rw [IntKind.wrap_u8]; omega
                go_wp2_with fail
                go_roundw
                case rel => exact ⟨i + 1, by go_num, by omega, E0, E1, E2⟩
                case measure => simp [intOf]; omega
              · obtain rfl : u1 = .iface 38 (.pointer (some ⟨t1, 0, none⟩)) := Hu1.out.symm
                go_wp2_with fail
                refine HK.out.mono ?_
                rintro e W5 ⟨rfl, hK⟩
                have E0 := Lib.hid (D0.out.mach1 hK (by have n2 := T1.out.box; omega))
                have E1 := Lib.hid (T1.out.step hK (by have n1 := D0.out.n1; omega))
                have E2 : Hid (B2 ≤ W5.heap.size) := Lib.hid (Nat.le_trans HB3.out hK.2.2.size)
                clear hK HK D0 T1 HB3
                have hwc : IntKind.u8.wrap ((i : Int) + 1) = ((i + 1 : Nat) : Int) := by rw [IntKind.wrap_u8]; omega
                go_wp2_with fail
                go_roundw
                case rel => exact ⟨i + 1, by go_num, by omega, E0, E1, E2⟩
                case measure => simp [intOf]; omega
            · obtain rfl : M = i := by omega
              have i1 : ¬ (M : Int) < atv % 6 := by rw [HMM.out]; omega
              have i2 : decide ((M : Int) < atv % 6) = false := by simpa using i1
              as_aux_lemma =>
              have HBB : Hid (B ≤ B2) := Lib.hid (by have n2 := T1.out.n; omega)
              go_upto_region 18 with (fail)
              clear i1 i2
              obtain ⟨JI, HJI⟩ : ∃ JI : Bool → Bool → Bool → Bool → Bool → Bool → Bool → Bool → Bool → Bool → Bool → Bool → Bool → Value → Value → Value → Value → Value → Value → Value → Value → Value → Value → Nat → Nat → Nat → World → Prop, Hid (∀ (b0 b1 b2 b3 b4 b5 b6 b7 b8 b9 b10 b11 b12 : Bool) (v108 v109 v110 v111 v112 v113 v114 v24 v25 v26 : Value) (p2 q2 t2 : Nat) (W : World), JI b0 b1 b2 b3 b4 b5 b6 b7 b8 b9 b10 b11 b12 v108 v109 v110 v111 v112 v113 v114 v24 v25 v26 p2 q2 t2 W ↔ (Hid (KK wr W) ∧
                  Hid (b0 = true → v108 = .agg #[.int .i64 verts, .int .i64 arcs, .int .i64 workers, .int .i64 room, .int .i64 res, .int .i64 lex, .int .i64 hh, .int .i64 flag, .int .i64 pending, .int .i64 ask, .int .i64 count, .int .i64 sense, .int .i64 deques, .int .i64 size]) ∧
                  Hid (b1 = true → v109 = .int .i64 v) ∧
                  Hid (b2 = true → v110 = .agg #[.int .i64 verts, .int .i64 arcs, .int .i64 workers, .int .i64 room, .int .i64 res, .int .i64 lex, .int .i64 hh, .int .i64 flag, .int .i64 pending, .int .i64 ask, .int .i64 count, .int .i64 sense, .int .i64 deques, .int .i64 size, .int .i64 0, .int .i64 0, .int .i64 0, .int .i64 0, .int .i64 0, .bool false, .bool false, .int .i64 v]) ∧
                  Hid (b3 = true → v111 = .agg #[.int .i64 verts, .int .i64 arcs, .int .i64 workers, .int .i64 room, .int .i64 res, .int .i64 lex, .int .i64 hh, .int .i64 flag, .int .i64 pending, .int .i64 ask, .int .i64 count, .int .i64 sense, .int .i64 deques, .int .i64 size]) ∧
                  Hid (b4 = true → v112 = .agg #[.int .i64 verts, .int .i64 arcs, .int .i64 workers, .int .i64 room, .int .i64 res, .int .i64 lex, .int .i64 hh, .int .i64 flag, .int .i64 pending, .int .i64 ask, .int .i64 count, .int .i64 sense, .int .i64 deques, .int .i64 size, .int .i64 0, .int .i64 0, .int .i64 0, .int .i64 0, .int .i64 0, .bool false, .bool false]) ∧
                  Hid (b5 = true → v113 = .agg #[.int .i64 verts, .int .i64 arcs, .int .i64 workers, .int .i64 room, .int .i64 res, .int .i64 lex, .int .i64 hh, .int .i64 flag, .int .i64 pending, .int .i64 ask, .int .i64 count, .int .i64 sense, .int .i64 deques, .int .i64 size]) ∧
                  Hid (b6 = true → v114 = .agg #[.int .i64 verts, .int .i64 arcs, .int .i64 workers, .int .i64 room, .int .i64 res, .int .i64 lex, .int .i64 hh, .int .i64 flag, .int .i64 pending, .int .i64 ask, .int .i64 count, .int .i64 sense, .int .i64 deques, .int .i64 size, .int .i64 0, .int .i64 0, .int .i64 0, .int .i64 0, .int .i64 0, .bool false, .bool false, .bool false]) ∧
                  Hid (b7 = true → v24 = .pointer (some ⟨p2, 0, none⟩) ∧ wr.heap.size ≤ p2 ∧ Blk W p2 (if b10 then #[.int .i64 verts, .int .i64 arcs, .int .i64 workers, .int .i64 room, .int .i64 res, .int .i64 lex, .int .i64 hh, .int .i64 flag, .int .i64 pending, .int .i64 ask, .int .i64 count, .int .i64 sense, .int .i64 deques, .int .i64 size, .int .i64 0, .int .i64 0, .int .i64 0, .int .i64 0, .int .i64 0, .bool false, .bool false, .int .i64 v] else #[.int .i64 0, .int .i64 0, .int .i64 0, .int .i64 0, .int .i64 0, .int .i64 0, .int .i64 0, .int .i64 0, .int .i64 0, .int .i64 0, .int .i64 0, .int .i64 0, .int .i64 0, .int .i64 0, .int .i64 0, .int .i64 0, .int .i64 0, .int .i64 0, .int .i64 0, .bool false, .bool false, .int .i64 0]) 48) ∧
                  Hid (b8 = true → v25 = .pointer (some ⟨q2, 0, none⟩) ∧ wr.heap.size ≤ q2 ∧ Blk W q2 (if b11 then #[.int .i64 verts, .int .i64 arcs, .int .i64 workers, .int .i64 room, .int .i64 res, .int .i64 lex, .int .i64 hh, .int .i64 flag, .int .i64 pending, .int .i64 ask, .int .i64 count, .int .i64 sense, .int .i64 deques, .int .i64 size, .int .i64 0, .int .i64 0, .int .i64 0, .int .i64 0, .int .i64 0, .bool false, .bool false] else #[.int .i64 0, .int .i64 0, .int .i64 0, .int .i64 0, .int .i64 0, .int .i64 0, .int .i64 0, .int .i64 0, .int .i64 0, .int .i64 0, .int .i64 0, .int .i64 0, .int .i64 0, .int .i64 0, .int .i64 0, .int .i64 0, .int .i64 0, .int .i64 0, .int .i64 0, .bool false, .bool false]) 51) ∧
                  Hid (b9 = true → v26 = .pointer (some ⟨t2, 0, none⟩) ∧ wr.heap.size ≤ t2 ∧ Blk W t2 (if b12 then #[.int .i64 verts, .int .i64 arcs, .int .i64 workers, .int .i64 room, .int .i64 res, .int .i64 lex, .int .i64 hh, .int .i64 flag, .int .i64 pending, .int .i64 ask, .int .i64 count, .int .i64 sense, .int .i64 deques, .int .i64 size, .int .i64 0, .int .i64 0, .int .i64 0, .int .i64 0, .int .i64 0, .bool false, .bool false, .bool false] else #[.int .i64 0, .int .i64 0, .int .i64 0, .int .i64 0, .int .i64 0, .int .i64 0, .int .i64 0, .int .i64 0, .int .i64 0, .int .i64 0, .int .i64 0, .int .i64 0, .int .i64 0, .int .i64 0, .int .i64 0, .int .i64 0, .int .i64 0, .int .i64 0, .int .i64 0, .bool false, .bool false, .bool false]) 45) ∧
                  Hid (b7 = true → b8 = true → ¬ p2 = q2) ∧
                  Hid (b7 = true → b9 = true → ¬ p2 = t2) ∧
                  Hid (b8 = true → b9 = true → ¬ q2 = t2) ∧
                  Hid (b10 = true → b7 = true) ∧
                  Hid (b11 = true → b8 = true) ∧
                  Hid (b12 = true → b9 = true))) := ⟨fun b0 b1 b2 b3 b4 b5 b6 b7 b8 b9 b10 b11 b12 v108 v109 v110 v111 v112 v113 v114 v24 v25 v26 p2 q2 t2 W => (Hid (KK wr W) ∧
                  Hid (b0 = true → v108 = .agg #[.int .i64 verts, .int .i64 arcs, .int .i64 workers, .int .i64 room, .int .i64 res, .int .i64 lex, .int .i64 hh, .int .i64 flag, .int .i64 pending, .int .i64 ask, .int .i64 count, .int .i64 sense, .int .i64 deques, .int .i64 size]) ∧
                  Hid (b1 = true → v109 = .int .i64 v) ∧
                  Hid (b2 = true → v110 = .agg #[.int .i64 verts, .int .i64 arcs, .int .i64 workers, .int .i64 room, .int .i64 res, .int .i64 lex, .int .i64 hh, .int .i64 flag, .int .i64 pending, .int .i64 ask, .int .i64 count, .int .i64 sense, .int .i64 deques, .int .i64 size, .int .i64 0, .int .i64 0, .int .i64 0, .int .i64 0, .int .i64 0, .bool false, .bool false, .int .i64 v]) ∧
                  Hid (b3 = true → v111 = .agg #[.int .i64 verts, .int .i64 arcs, .int .i64 workers, .int .i64 room, .int .i64 res, .int .i64 lex, .int .i64 hh, .int .i64 flag, .int .i64 pending, .int .i64 ask, .int .i64 count, .int .i64 sense, .int .i64 deques, .int .i64 size]) ∧
                  Hid (b4 = true → v112 = .agg #[.int .i64 verts, .int .i64 arcs, .int .i64 workers, .int .i64 room, .int .i64 res, .int .i64 lex, .int .i64 hh, .int .i64 flag, .int .i64 pending, .int .i64 ask, .int .i64 count, .int .i64 sense, .int .i64 deques, .int .i64 size, .int .i64 0, .int .i64 0, .int .i64 0, .int .i64 0, .int .i64 0, .bool false, .bool false]) ∧
                  Hid (b5 = true → v113 = .agg #[.int .i64 verts, .int .i64 arcs, .int .i64 workers, .int .i64 room, .int .i64 res, .int .i64 lex, .int .i64 hh, .int .i64 flag, .int .i64 pending, .int .i64 ask, .int .i64 count, .int .i64 sense, .int .i64 deques, .int .i64 size]) ∧
                  Hid (b6 = true → v114 = .agg #[.int .i64 verts, .int .i64 arcs, .int .i64 workers, .int .i64 room, .int .i64 res, .int .i64 lex, .int .i64 hh, .int .i64 flag, .int .i64 pending, .int .i64 ask, .int .i64 count, .int .i64 sense, .int .i64 deques, .int .i64 size, .int .i64 0, .int .i64 0, .int .i64 0, .int .i64 0, .int .i64 0, .bool false, .bool false, .bool false]) ∧
                  Hid (b7 = true → v24 = .pointer (some ⟨p2, 0, none⟩) ∧ wr.heap.size ≤ p2 ∧ Blk W p2 (if b10 then #[.int .i64 verts, .int .i64 arcs, .int .i64 workers, .int .i64 room, .int .i64 res, .int .i64 lex, .int .i64 hh, .int .i64 flag, .int .i64 pending, .int .i64 ask, .int .i64 count, .int .i64 sense, .int .i64 deques, .int .i64 size, .int .i64 0, .int .i64 0, .int .i64 0, .int .i64 0, .int .i64 0, .bool false, .bool false, .int .i64 v] else #[.int .i64 0, .int .i64 0, .int .i64 0, .int .i64 0, .int .i64 0, .int .i64 0, .int .i64 0, .int .i64 0, .int .i64 0, .int .i64 0, .int .i64 0, .int .i64 0, .int .i64 0, .int .i64 0, .int .i64 0, .int .i64 0, .int .i64 0, .int .i64 0, .int .i64 0, .bool false, .bool false, .int .i64 0]) 48) ∧
                  Hid (b8 = true → v25 = .pointer (some ⟨q2, 0, none⟩) ∧ wr.heap.size ≤ q2 ∧ Blk W q2 (if b11 then #[.int .i64 verts, .int .i64 arcs, .int .i64 workers, .int .i64 room, .int .i64 res, .int .i64 lex, .int .i64 hh, .int .i64 flag, .int .i64 pending, .int .i64 ask, .int .i64 count, .int .i64 sense, .int .i64 deques, .int .i64 size, .int .i64 0, .int .i64 0, .int .i64 0, .int .i64 0, .int .i64 0, .bool false, .bool false] else #[.int .i64 0, .int .i64 0, .int .i64 0, .int .i64 0, .int .i64 0, .int .i64 0, .int .i64 0, .int .i64 0, .int .i64 0, .int .i64 0, .int .i64 0, .int .i64 0, .int .i64 0, .int .i64 0, .int .i64 0, .int .i64 0, .int .i64 0, .int .i64 0, .int .i64 0, .bool false, .bool false]) 51) ∧
                  Hid (b9 = true → v26 = .pointer (some ⟨t2, 0, none⟩) ∧ wr.heap.size ≤ t2 ∧ Blk W t2 (if b12 then #[.int .i64 verts, .int .i64 arcs, .int .i64 workers, .int .i64 room, .int .i64 res, .int .i64 lex, .int .i64 hh, .int .i64 flag, .int .i64 pending, .int .i64 ask, .int .i64 count, .int .i64 sense, .int .i64 deques, .int .i64 size, .int .i64 0, .int .i64 0, .int .i64 0, .int .i64 0, .int .i64 0, .bool false, .bool false, .bool false] else #[.int .i64 0, .int .i64 0, .int .i64 0, .int .i64 0, .int .i64 0, .int .i64 0, .int .i64 0, .int .i64 0, .int .i64 0, .int .i64 0, .int .i64 0, .int .i64 0, .int .i64 0, .int .i64 0, .int .i64 0, .int .i64 0, .int .i64 0, .int .i64 0, .int .i64 0, .bool false, .bool false, .bool false]) 45) ∧
                  Hid (b7 = true → b8 = true → ¬ p2 = q2) ∧
                  Hid (b7 = true → b9 = true → ¬ p2 = t2) ∧
                  Hid (b8 = true → b9 = true → ¬ q2 = t2) ∧
                  Hid (b10 = true → b7 = true) ∧
                  Hid (b11 = true → b8 = true) ∧
                  Hid (b12 = true → b9 = true)), Lib.hid (fun _ _ _ _ _ _ _ _ _ _ _ _ _ _ _ _ _ _ _ _ _ _ _ _ _ _ _ => Iff.rfl)⟩
              refine wp_region_inv (fun l us W => ∃ (b0 b1 b2 b3 b4 b5 b6 b7 b8 b9 b10 b11 b12 : Bool) (v108 v109 v110 v111 v112 v113 v114 v24 v25 v26 : Value) (p2 q2 t2 : Nat), l = #[b0, b1, b2, b3, b4, b5, b6, b7, b8, b9, b10, b11, b12] ∧ us = [v108, v109, v110, v111, v112, v113, v114, v24, v25, v26] ∧ JI b0 b1 b2 b3 b4 b5 b6 b7 b8 b9 b10 b11 b12 v108 v109 v110 v111 v112 v113 v114 v24 v25 v26 p2 q2 t2 W) [108, 109, 110, 111, 112, 113, 114, 24, 25, 26] [undef, undef, undef, undef, undef, undef, undef, undef, undef, undef] (by kernel_rfl) (by kernel_rfl) (by simp only [putAll, Act.put, List.setIfInBounds_toArray, List.set_cons_zero, List.set_cons_succ]) ?_ ?_ ?_
              · exact ⟨false, false, false, false, false, false, false, false, false, false, false, false, false, _, _, _, _, _, _, _, _, _, _, 0, 0, 0, rfl, rfl, (HJI.out _ _ _ _ _ _ _ _ _ _ _ _ _ _ _ _ _ _ _ _ _ _ _ _ _ _ _ ).2 ⟨Lib.hid (⟨(Upd.refl _ _).drew⟩), Lib.hid (by simp), Lib.hid (by simp), Lib.hid (by simp), Lib.hid (by simp), Lib.hid (by simp), Lib.hid (by simp), Lib.hid (by simp), Lib.hid (by simp), Lib.hid (by simp), Lib.hid (by simp), Lib.hid (by simp), Lib.hid (by simp), Lib.hid (by simp), Lib.hid (by simp), Lib.hid (by simp), Lib.hid (by simp)⟩⟩
              · rintro i l us W ⟨b0, b1, b2, b3, b4, b5, b6, b7, b8, b9, b10, b11, b12, v108, v109, v110, v111, v112, v113, v114, v24, v25, v26, p2, q2, t2, rfl, rfl, hJI⟩ hr
                have hi : i = 0 ∨ i = 1 ∨ i = 2 ∨ i = 3 ∨ i = 4 ∨ i = 5 ∨ i = 6 ∨ i = 7 ∨ i = 8 ∨ i = 9 ∨ i = 10 ∨ i = 11 ∨ i = 12 := by
                  have := ready_lt hr
                  simp at this
                  omega
                rcases hi with rfl | rfl | rfl | rfl | rfl | rfl | rfl | rfl | rfl | rfl | rfl | rfl | rfl
                · as_aux_lemma =>
                  obtain ⟨hI, h0, h1, h2, h3, h4, h5, h6, h7, h8, h9, n7_8, n7_9, n8_9, g10, g11, g12⟩ := (HJI.out _ _ _ _ _ _ _ _ _ _ _ _ _ _ _ _ _ _ _ _ _ _ _ _ _ _ _ ).1 hJI
                  obtain ⟨hn, hd⟩ := ready_at hr rfl
                  simp [Region.binds] at hn hd
                  have hlb := (D0.out.kept hI.out.k).l
                  refine wpOp_step (o := ⟨some 108, .load 24 (.tmp 11), 24, _, _, none⟩) rfl (fun K' hK => ?_)
                  simp only [putAll, Act.put, List.setIfInBounds_toArray, List.set_cons_zero, List.set_cons_succ]
                  refine wp_load_mid 24 (.tmp 11) rfl lb 0 rfl [.int .i64 verts, .int .i64 arcs, .int .i64 workers, .int .i64 room, .int .i64 res, .int .i64 lex, .int .i64 hh, .int .i64 flag, .int .i64 pending, .int .i64 ask, .int .i64 count, .int .i64 sense, .int .i64 deques, .int .i64 size] _ (Blk.range hlb) Try.underlying24 rfl HZ14.out ?_
                  exact hK _ _ ⟨_, by simp only [putAll, Act.put, List.setIfInBounds_toArray, List.set_cons_zero, List.set_cons_succ], true, b1, b2, b3, b4, b5, b6, b7, b8, b9, b10, b11, b12, _, _, _, _, _, _, _, _, _, _, p2, q2, t2, rfl, rfl, (HJI.out _ _ _ _ _ _ _ _ _ _ _ _ _ _ _ _ _ _ _ _ _ _ _ _ _ _ _ ).2 ⟨hI, Lib.hid (fun _ => rfl), h1, h2, h3, h4, h5, h6, h7, h8, h9, n7_8, n7_9, n8_9, g10, g11, g12⟩⟩
                · as_aux_lemma =>
                  obtain ⟨hI, h0, h1, h2, h3, h4, h5, h6, h7, h8, h9, n7_8, n7_9, n8_9, g10, g11, g12⟩ := (HJI.out _ _ _ _ _ _ _ _ _ _ _ _ _ _ _ _ _ _ _ _ _ _ _ _ _ _ _ ).1 hJI
                  obtain ⟨hn, hd⟩ := ready_at hr rfl
                  simp [Region.binds] at hn hd
                  refine wpOp_step rfl (fun K' hK => ?_)
                  simp only [putAll, Act.put, List.setIfInBounds_toArray, List.set_cons_zero, List.set_cons_succ]
                  go_simp
                  exact hK _ _ ⟨_, by simp only [putAll, Act.put, List.setIfInBounds_toArray, List.set_cons_zero, List.set_cons_succ], b0, true, b2, b3, b4, b5, b6, b7, b8, b9, b10, b11, b12, _, _, _, _, _, _, _, _, _, _, p2, q2, t2, rfl, rfl, (HJI.out _ _ _ _ _ _ _ _ _ _ _ _ _ _ _ _ _ _ _ _ _ _ _ _ _ _ _ ).2 ⟨hI, h0, Lib.hid (fun _ => rfl), h2, h3, h4, h5, h6, h7, h8, h9, n7_8, n7_9, n8_9, g10, g11, g12⟩⟩
                · as_aux_lemma =>
                  obtain ⟨hI, h0, h1, h2, h3, h4, h5, h6, h7, h8, h9, n7_8, n7_9, n8_9, g10, g11, g12⟩ := (HJI.out _ _ _ _ _ _ _ _ _ _ _ _ _ _ _ _ _ _ _ _ _ _ _ _ _ _ _ ).1 hJI
                  obtain ⟨hn, hd⟩ := ready_at hr rfl
                  simp [Region.binds] at hn hd
                  obtain rfl := h0.out (by simp [hd])
                  obtain rfl := h1.out (by simp [hd])
                  refine wpOp_step rfl (fun K' hK => ?_)
                  simp only [putAll, Act.put, List.setIfInBounds_toArray, List.set_cons_zero, List.set_cons_succ]
                  go_simp
                  refine (HNU v _).out.mono ?_
                  rintro e w' ⟨rfl, hk⟩
                  exact hK _ _ ⟨_, by simp only [putAll, Act.put, List.setIfInBounds_toArray, List.set_cons_zero, List.set_cons_succ], b0, b1, true, b3, b4, b5, b6, b7, b8, b9, b10, b11, b12, _, _, _, _, _, _, _, _, _, _, p2, q2, t2, rfl, rfl, (HJI.out _ _ _ _ _ _ _ _ _ _ _ _ _ _ _ _ _ _ _ _ _ _ _ _ _ _ _ ).2 ⟨(Lib.hid (hI.out.kept hk)), h0, h1, Lib.hid (fun _ => rfl), h3, h4, h5, h6, Lib.hid (fun hb => ⟨(h7.out hb).1, (h7.out hb).2.1, (h7.out hb).2.2.kept hk⟩), Lib.hid (fun hb => ⟨(h8.out hb).1, (h8.out hb).2.1, (h8.out hb).2.2.kept hk⟩), Lib.hid (fun hb => ⟨(h9.out hb).1, (h9.out hb).2.1, (h9.out hb).2.2.kept hk⟩), n7_8, n7_9, n8_9, g10, g11, g12⟩⟩
                · as_aux_lemma =>
                  obtain ⟨hI, h0, h1, h2, h3, h4, h5, h6, h7, h8, h9, n7_8, n7_9, n8_9, g10, g11, g12⟩ := (HJI.out _ _ _ _ _ _ _ _ _ _ _ _ _ _ _ _ _ _ _ _ _ _ _ _ _ _ _ ).1 hJI
                  obtain ⟨hn, hd⟩ := ready_at hr rfl
                  simp [Region.binds] at hn hd
                  have hlb := (D0.out.kept hI.out.k).l
                  refine wpOp_step (o := ⟨some 111, .load 24 (.tmp 11), 24, _, _, none⟩) rfl (fun K' hK => ?_)
                  simp only [putAll, Act.put, List.setIfInBounds_toArray, List.set_cons_zero, List.set_cons_succ]
                  refine wp_load_mid 24 (.tmp 11) rfl lb 0 rfl [.int .i64 verts, .int .i64 arcs, .int .i64 workers, .int .i64 room, .int .i64 res, .int .i64 lex, .int .i64 hh, .int .i64 flag, .int .i64 pending, .int .i64 ask, .int .i64 count, .int .i64 sense, .int .i64 deques, .int .i64 size] _ (Blk.range hlb) Try.underlying24 rfl HZ14.out ?_
                  exact hK _ _ ⟨_, by simp only [putAll, Act.put, List.setIfInBounds_toArray, List.set_cons_zero, List.set_cons_succ], b0, b1, b2, true, b4, b5, b6, b7, b8, b9, b10, b11, b12, _, _, _, _, _, _, _, _, _, _, p2, q2, t2, rfl, rfl, (HJI.out _ _ _ _ _ _ _ _ _ _ _ _ _ _ _ _ _ _ _ _ _ _ _ _ _ _ _ ).2 ⟨hI, h0, h1, h2, Lib.hid (fun _ => rfl), h4, h5, h6, h7, h8, h9, n7_8, n7_9, n8_9, g10, g11, g12⟩⟩
                · as_aux_lemma =>
                  obtain ⟨hI, h0, h1, h2, h3, h4, h5, h6, h7, h8, h9, n7_8, n7_9, n8_9, g10, g11, g12⟩ := (HJI.out _ _ _ _ _ _ _ _ _ _ _ _ _ _ _ _ _ _ _ _ _ _ _ _ _ _ _ ).1 hJI
                  obtain ⟨hn, hd⟩ := ready_at hr rfl
                  simp [Region.binds] at hn hd
                  obtain rfl := h3.out (by simp [hd])
                  refine wpOp_step rfl (fun K' hK => ?_)
                  simp only [putAll, Act.put, List.setIfInBounds_toArray, List.set_cons_zero, List.set_cons_succ]
                  go_simp
                  refine (HNP _).out.mono ?_
                  rintro e w' ⟨rfl, hk⟩
                  exact hK _ _ ⟨_, by simp only [putAll, Act.put, List.setIfInBounds_toArray, List.set_cons_zero, List.set_cons_succ], b0, b1, b2, b3, true, b5, b6, b7, b8, b9, b10, b11, b12, _, _, _, _, _, _, _, _, _, _, p2, q2, t2, rfl, rfl, (HJI.out _ _ _ _ _ _ _ _ _ _ _ _ _ _ _ _ _ _ _ _ _ _ _ _ _ _ _ ).2 ⟨(Lib.hid (hI.out.kept hk)), h0, h1, h2, h3, Lib.hid (fun _ => rfl), h5, h6, Lib.hid (fun hb => ⟨(h7.out hb).1, (h7.out hb).2.1, (h7.out hb).2.2.kept hk⟩), Lib.hid (fun hb => ⟨(h8.out hb).1, (h8.out hb).2.1, (h8.out hb).2.2.kept hk⟩), Lib.hid (fun hb => ⟨(h9.out hb).1, (h9.out hb).2.1, (h9.out hb).2.2.kept hk⟩), n7_8, n7_9, n8_9, g10, g11, g12⟩⟩
                · as_aux_lemma =>
                  obtain ⟨hI, h0, h1, h2, h3, h4, h5, h6, h7, h8, h9, n7_8, n7_9, n8_9, g10, g11, g12⟩ := (HJI.out _ _ _ _ _ _ _ _ _ _ _ _ _ _ _ _ _ _ _ _ _ _ _ _ _ _ _ ).1 hJI
                  obtain ⟨hn, hd⟩ := ready_at hr rfl
                  simp [Region.binds] at hn hd
                  have hlb := (D0.out.kept hI.out.k).l
                  refine wpOp_step (o := ⟨some 113, .load 24 (.tmp 11), 24, _, _, none⟩) rfl (fun K' hK => ?_)
                  simp only [putAll, Act.put, List.setIfInBounds_toArray, List.set_cons_zero, List.set_cons_succ]
                  refine wp_load_mid 24 (.tmp 11) rfl lb 0 rfl [.int .i64 verts, .int .i64 arcs, .int .i64 workers, .int .i64 room, .int .i64 res, .int .i64 lex, .int .i64 hh, .int .i64 flag, .int .i64 pending, .int .i64 ask, .int .i64 count, .int .i64 sense, .int .i64 deques, .int .i64 size] _ (Blk.range hlb) Try.underlying24 rfl HZ14.out ?_
                  exact hK _ _ ⟨_, by simp only [putAll, Act.put, List.setIfInBounds_toArray, List.set_cons_zero, List.set_cons_succ], b0, b1, b2, b3, b4, true, b6, b7, b8, b9, b10, b11, b12, _, _, _, _, _, _, _, _, _, _, p2, q2, t2, rfl, rfl, (HJI.out _ _ _ _ _ _ _ _ _ _ _ _ _ _ _ _ _ _ _ _ _ _ _ _ _ _ _ ).2 ⟨hI, h0, h1, h2, h3, h4, Lib.hid (fun _ => rfl), h6, h7, h8, h9, n7_8, n7_9, n8_9, g10, g11, g12⟩⟩
                · as_aux_lemma =>
                  obtain ⟨hI, h0, h1, h2, h3, h4, h5, h6, h7, h8, h9, n7_8, n7_9, n8_9, g10, g11, g12⟩ := (HJI.out _ _ _ _ _ _ _ _ _ _ _ _ _ _ _ _ _ _ _ _ _ _ _ _ _ _ _ ).1 hJI
                  obtain ⟨hn, hd⟩ := ready_at hr rfl
                  simp [Region.binds] at hn hd
                  obtain rfl := h5.out (by simp [hd])
                  refine wpOp_step rfl (fun K' hK => ?_)
                  simp only [putAll, Act.put, List.setIfInBounds_toArray, List.set_cons_zero, List.set_cons_succ]
                  go_simp
                  refine (HNS _).out.mono ?_
                  rintro e w' ⟨rfl, hk⟩
                  exact hK _ _ ⟨_, by simp only [putAll, Act.put, List.setIfInBounds_toArray, List.set_cons_zero, List.set_cons_succ], b0, b1, b2, b3, b4, b5, true, b7, b8, b9, b10, b11, b12, _, _, _, _, _, _, _, _, _, _, p2, q2, t2, rfl, rfl, (HJI.out _ _ _ _ _ _ _ _ _ _ _ _ _ _ _ _ _ _ _ _ _ _ _ _ _ _ _ ).2 ⟨(Lib.hid (hI.out.kept hk)), h0, h1, h2, h3, h4, h5, Lib.hid (fun _ => rfl), Lib.hid (fun hb => ⟨(h7.out hb).1, (h7.out hb).2.1, (h7.out hb).2.2.kept hk⟩), Lib.hid (fun hb => ⟨(h8.out hb).1, (h8.out hb).2.1, (h8.out hb).2.2.kept hk⟩), Lib.hid (fun hb => ⟨(h9.out hb).1, (h9.out hb).2.1, (h9.out hb).2.2.kept hk⟩), n7_8, n7_9, n8_9, g10, g11, g12⟩⟩
                · as_aux_lemma =>
                  obtain ⟨hI, h0, h1, h2, h3, h4, h5, h6, h7, h8, h9, n7_8, n7_9, n8_9, g10, g11, g12⟩ := (HJI.out _ _ _ _ _ _ _ _ _ _ _ _ _ _ _ _ _ _ _ _ _ _ _ _ _ _ _ ).1 hJI
                  obtain ⟨hn, hd⟩ := ready_at hr rfl
                  simp [Region.binds] at hn hd
                  have hbq : b10 = false := by cases b10 with | false => rfl | true => (have := g10.out rfl; rw [hn] at this; cases this)
                  subst hbq
                  refine wpOp_step rfl (fun K' hK => ?_)
                  simp only [putAll, Act.put, List.setIfInBounds_toArray, List.set_cons_zero, List.set_cons_succ]
                  go_simp
                  exact hK _ _ ⟨_, by simp only [putAll, Act.put, List.setIfInBounds_toArray, List.set_cons_zero, List.set_cons_succ], b0, b1, b2, b3, b4, b5, b6, true, b8, b9, false, b11, b12, _, _, _, _, _, _, _, _, _, _, W.heap.size, q2, t2, rfl, rfl, (HJI.out _ _ _ _ _ _ _ _ _ _ _ _ _ _ _ _ _ _ _ _ _ _ _ _ _ _ _ ).2 ⟨(Lib.hid (hI.out.kept ((Upd.refl _ _).alloc _))), h0, h1, h2, h3, h4, h5, h6, Lib.hid (fun _ => ⟨rfl, hI.out.up, Blk.new _ _ _⟩), Lib.hid (fun hb => ⟨(h8.out hb).1, (h8.out hb).2.1, (h8.out hb).2.2.kept ((Upd.refl _ _).alloc _)⟩), Lib.hid (fun hb => ⟨(h9.out hb).1, (h9.out hb).2.1, (h9.out hb).2.2.kept ((Upd.refl _ _).alloc _)⟩), Lib.hid (fun _ hb e => by have := (h8.out hb).2.2.lt; omega), Lib.hid (fun _ hb e => by have := (h9.out hb).2.2.lt; omega), n8_9, Lib.hid (by simp), g11, g12⟩⟩
                · as_aux_lemma =>
                  obtain ⟨hI, h0, h1, h2, h3, h4, h5, h6, h7, h8, h9, n7_8, n7_9, n8_9, g10, g11, g12⟩ := (HJI.out _ _ _ _ _ _ _ _ _ _ _ _ _ _ _ _ _ _ _ _ _ _ _ _ _ _ _ ).1 hJI
                  obtain ⟨hn, hd⟩ := ready_at hr rfl
                  simp [Region.binds] at hn hd
                  have hbq : b11 = false := by cases b11 with | false => rfl | true => (have := g11.out rfl; rw [hn] at this; cases this)
                  subst hbq
                  refine wpOp_step rfl (fun K' hK => ?_)
                  simp only [putAll, Act.put, List.setIfInBounds_toArray, List.set_cons_zero, List.set_cons_succ]
                  go_simp
                  exact hK _ _ ⟨_, by simp only [putAll, Act.put, List.setIfInBounds_toArray, List.set_cons_zero, List.set_cons_succ], b0, b1, b2, b3, b4, b5, b6, b7, true, b9, b10, false, b12, _, _, _, _, _, _, _, _, _, _, p2, W.heap.size, t2, rfl, rfl, (HJI.out _ _ _ _ _ _ _ _ _ _ _ _ _ _ _ _ _ _ _ _ _ _ _ _ _ _ _ ).2 ⟨(Lib.hid (hI.out.kept ((Upd.refl _ _).alloc _))), h0, h1, h2, h3, h4, h5, h6, Lib.hid (fun hb => ⟨(h7.out hb).1, (h7.out hb).2.1, (h7.out hb).2.2.kept ((Upd.refl _ _).alloc _)⟩), Lib.hid (fun _ => ⟨rfl, hI.out.up, Blk.new _ _ _⟩), Lib.hid (fun hb => ⟨(h9.out hb).1, (h9.out hb).2.1, (h9.out hb).2.2.kept ((Upd.refl _ _).alloc _)⟩), Lib.hid (fun hb _ e => by have := (h7.out hb).2.2.lt; omega), n7_9, Lib.hid (fun _ hb e => by have := (h9.out hb).2.2.lt; omega), g10, Lib.hid (by simp), g12⟩⟩
                · as_aux_lemma =>
                  obtain ⟨hI, h0, h1, h2, h3, h4, h5, h6, h7, h8, h9, n7_8, n7_9, n8_9, g10, g11, g12⟩ := (HJI.out _ _ _ _ _ _ _ _ _ _ _ _ _ _ _ _ _ _ _ _ _ _ _ _ _ _ _ ).1 hJI
                  obtain ⟨hn, hd⟩ := ready_at hr rfl
                  simp [Region.binds] at hn hd
                  have hbq : b12 = false := by cases b12 with | false => rfl | true => (have := g12.out rfl; rw [hn] at this; cases this)
                  subst hbq
                  refine wpOp_step rfl (fun K' hK => ?_)
                  simp only [putAll, Act.put, List.setIfInBounds_toArray, List.set_cons_zero, List.set_cons_succ]
                  go_simp
                  exact hK _ _ ⟨_, by simp only [putAll, Act.put, List.setIfInBounds_toArray, List.set_cons_zero, List.set_cons_succ], b0, b1, b2, b3, b4, b5, b6, b7, b8, true, b10, b11, false, _, _, _, _, _, _, _, _, _, _, p2, q2, W.heap.size, rfl, rfl, (HJI.out _ _ _ _ _ _ _ _ _ _ _ _ _ _ _ _ _ _ _ _ _ _ _ _ _ _ _ ).2 ⟨(Lib.hid (hI.out.kept ((Upd.refl _ _).alloc _))), h0, h1, h2, h3, h4, h5, h6, Lib.hid (fun hb => ⟨(h7.out hb).1, (h7.out hb).2.1, (h7.out hb).2.2.kept ((Upd.refl _ _).alloc _)⟩), Lib.hid (fun hb => ⟨(h8.out hb).1, (h8.out hb).2.1, (h8.out hb).2.2.kept ((Upd.refl _ _).alloc _)⟩), Lib.hid (fun _ => ⟨rfl, hI.out.up, Blk.new _ _ _⟩), n7_8, Lib.hid (fun hb _ e => by have := (h7.out hb).2.2.lt; omega), Lib.hid (fun hb _ e => by have := (h8.out hb).2.2.lt; omega), g10, g11, Lib.hid (by simp)⟩⟩
                · as_aux_lemma =>
                  obtain ⟨hI, h0, h1, h2, h3, h4, h5, h6, h7, h8, h9, n7_8, n7_9, n8_9, g10, g11, g12⟩ := (HJI.out _ _ _ _ _ _ _ _ _ _ _ _ _ _ _ _ _ _ _ _ _ _ _ _ _ _ _ ).1 hJI
                  obtain ⟨hn, hd⟩ := ready_at hr rfl
                  simp [Region.binds] at hn hd
                  obtain rfl := h2.out (by simp [hd])
                  obtain ⟨hp, hx, hbk⟩ := h7.out (by simp [hd])
                  subst hn hp
                  have hbk : Blk W _ _ _ := hbk
                  have hc := hbk.cell
                  have hf := hbk.free
                  refine wpOp_step (o := ⟨none, .store 48 (.tmp 24) (.tmp 110), 0, _, _, none⟩) rfl (fun K' hK => ?_)
                  simp only [putAll, Act.put, List.setIfInBounds_toArray, List.set_cons_zero, List.set_cons_succ]
                  simp only [if_false, Bool.false_eq_true] at hbk
                  refine wp_store_mid 48 (.tmp 24) (.tmp 110) rfl p2 0 #[.int .i64 verts, .int .i64 arcs, .int .i64 workers, .int .i64 room, .int .i64 res, .int .i64 lex, .int .i64 hh, .int .i64 flag, .int .i64 pending, .int .i64 ask, .int .i64 count, .int .i64 sense, .int .i64 deques, .int .i64 size, .int .i64 0, .int .i64 0, .int .i64 0, .int .i64 0, .int .i64 0, .bool false, .bool false, .int .i64 v] rfl rfl (Blk.there hbk 22 rfl) HZu.out (all_oneCell_toArray (cs := [.int .i64 verts, .int .i64 arcs, .int .i64 workers, .int .i64 room, .int .i64 res, .int .i64 lex, .int .i64 hh, .int .i64 flag, .int .i64 pending, .int .i64 ask, .int .i64 count, .int .i64 sense, .int .i64 deques, .int .i64 size, .int .i64 0, .int .i64 0, .int .i64 0, .int .i64 0, .int .i64 0, .bool false, .bool false, .int .i64 v]) (by simp [Value.oneCell'])) ?_
                  have hs := hbk.alls [.int .i64 verts, .int .i64 arcs, .int .i64 workers, .int .i64 room, .int .i64 res, .int .i64 lex, .int .i64 hh, .int .i64 flag, .int .i64 pending, .int .i64 ask, .int .i64 count, .int .i64 sense, .int .i64 deques, .int .i64 size, .int .i64 0, .int .i64 0, .int .i64 0, .int .i64 0, .int .i64 0, .bool false, .bool false, .int .i64 v] rfl
                  exact hK _ _ ⟨_, by simp only [putAll, Act.put, List.setIfInBounds_toArray, List.set_cons_zero, List.set_cons_succ], b0, b1, b2, b3, b4, b5, b6, b7, b8, b9, true, b11, b12, _, _, _, _, _, _, _, _, _, _, p2, q2, t2, rfl, rfl, (HJI.out _ _ _ _ _ _ _ _ _ _ _ _ _ _ _ _ _ _ _ _ _ _ _ _ _ _ _ ).2 ⟨(Lib.hid (hI.out.upd hs.2 hx)), h0, h1, h2, h3, h4, h5, h6, Lib.hid (fun _ => ⟨rfl, hx, hs.1⟩), Lib.hid (fun hb => ⟨(h8.out hb).1, (h8.out hb).2.1, (h8.out hb).2.2.upd hs.2 (fun e => n7_8.out (by simp [hd]) hb e.symm)⟩), Lib.hid (fun hb => ⟨(h9.out hb).1, (h9.out hb).2.1, (h9.out hb).2.2.upd hs.2 (fun e => n7_9.out (by simp [hd]) hb e.symm)⟩), n7_8, n7_9, n8_9, Lib.hid (fun _ => (by simp [hd])), g11, g12⟩⟩
                · as_aux_lemma =>
                  obtain ⟨hI, h0, h1, h2, h3, h4, h5, h6, h7, h8, h9, n7_8, n7_9, n8_9, g10, g11, g12⟩ := (HJI.out _ _ _ _ _ _ _ _ _ _ _ _ _ _ _ _ _ _ _ _ _ _ _ _ _ _ _ ).1 hJI
                  obtain ⟨hn, hd⟩ := ready_at hr rfl
                  simp [Region.binds] at hn hd
                  obtain rfl := h4.out (by simp [hd])
                  obtain ⟨hp, hx, hbk⟩ := h8.out (by simp [hd])
                  subst hn hp
                  have hbk : Blk W _ _ _ := hbk
                  have hc := hbk.cell
                  have hf := hbk.free
                  refine wpOp_step (o := ⟨none, .store 51 (.tmp 25) (.tmp 112), 0, _, _, none⟩) rfl (fun K' hK => ?_)
                  simp only [putAll, Act.put, List.setIfInBounds_toArray, List.set_cons_zero, List.set_cons_succ]
                  simp only [if_false, Bool.false_eq_true] at hbk
                  refine wp_store_mid 51 (.tmp 25) (.tmp 112) rfl q2 0 #[.int .i64 verts, .int .i64 arcs, .int .i64 workers, .int .i64 room, .int .i64 res, .int .i64 lex, .int .i64 hh, .int .i64 flag, .int .i64 pending, .int .i64 ask, .int .i64 count, .int .i64 sense, .int .i64 deques, .int .i64 size, .int .i64 0, .int .i64 0, .int .i64 0, .int .i64 0, .int .i64 0, .bool false, .bool false] rfl rfl (Blk.there hbk 21 rfl) HZo.out (all_oneCell_toArray (cs := [.int .i64 verts, .int .i64 arcs, .int .i64 workers, .int .i64 room, .int .i64 res, .int .i64 lex, .int .i64 hh, .int .i64 flag, .int .i64 pending, .int .i64 ask, .int .i64 count, .int .i64 sense, .int .i64 deques, .int .i64 size, .int .i64 0, .int .i64 0, .int .i64 0, .int .i64 0, .int .i64 0, .bool false, .bool false]) (by simp [Value.oneCell'])) ?_
                  have hs := hbk.alls [.int .i64 verts, .int .i64 arcs, .int .i64 workers, .int .i64 room, .int .i64 res, .int .i64 lex, .int .i64 hh, .int .i64 flag, .int .i64 pending, .int .i64 ask, .int .i64 count, .int .i64 sense, .int .i64 deques, .int .i64 size, .int .i64 0, .int .i64 0, .int .i64 0, .int .i64 0, .int .i64 0, .bool false, .bool false] rfl
                  exact hK _ _ ⟨_, by simp only [putAll, Act.put, List.setIfInBounds_toArray, List.set_cons_zero, List.set_cons_succ], b0, b1, b2, b3, b4, b5, b6, b7, b8, b9, b10, true, b12, _, _, _, _, _, _, _, _, _, _, p2, q2, t2, rfl, rfl, (HJI.out _ _ _ _ _ _ _ _ _ _ _ _ _ _ _ _ _ _ _ _ _ _ _ _ _ _ _ ).2 ⟨(Lib.hid (hI.out.upd hs.2 hx)), h0, h1, h2, h3, h4, h5, h6, Lib.hid (fun hb => ⟨(h7.out hb).1, (h7.out hb).2.1, (h7.out hb).2.2.upd hs.2 (fun e => n7_8.out hb (by simp [hd]) e)⟩), Lib.hid (fun _ => ⟨rfl, hx, hs.1⟩), Lib.hid (fun hb => ⟨(h9.out hb).1, (h9.out hb).2.1, (h9.out hb).2.2.upd hs.2 (fun e => n8_9.out (by simp [hd]) hb e.symm)⟩), n7_8, n7_9, n8_9, g10, Lib.hid (fun _ => (by simp [hd])), g12⟩⟩
                · as_aux_lemma =>
                  obtain ⟨hI, h0, h1, h2, h3, h4, h5, h6, h7, h8, h9, n7_8, n7_9, n8_9, g10, g11, g12⟩ := (HJI.out _ _ _ _ _ _ _ _ _ _ _ _ _ _ _ _ _ _ _ _ _ _ _ _ _ _ _ ).1 hJI
                  obtain ⟨hn, hd⟩ := ready_at hr rfl
                  simp [Region.binds] at hn hd
                  obtain rfl := h6.out (by simp [hd])
                  obtain ⟨hp, hx, hbk⟩ := h9.out (by simp [hd])
                  subst hn hp
                  have hbk : Blk W _ _ _ := hbk
                  have hc := hbk.cell
                  have hf := hbk.free
                  refine wpOp_step (o := ⟨none, .store 45 (.tmp 26) (.tmp 114), 0, _, _, none⟩) rfl (fun K' hK => ?_)
                  simp only [putAll, Act.put, List.setIfInBounds_toArray, List.set_cons_zero, List.set_cons_succ]
                  simp only [if_false, Bool.false_eq_true] at hbk
                  refine wp_store_mid 45 (.tmp 26) (.tmp 114) rfl t2 0 #[.int .i64 verts, .int .i64 arcs, .int .i64 workers, .int .i64 room, .int .i64 res, .int .i64 lex, .int .i64 hh, .int .i64 flag, .int .i64 pending, .int .i64 ask, .int .i64 count, .int .i64 sense, .int .i64 deques, .int .i64 size, .int .i64 0, .int .i64 0, .int .i64 0, .int .i64 0, .int .i64 0, .bool false, .bool false, .bool false] rfl rfl (Blk.there hbk 22 rfl) HZt.out (all_oneCell_toArray (cs := [.int .i64 verts, .int .i64 arcs, .int .i64 workers, .int .i64 room, .int .i64 res, .int .i64 lex, .int .i64 hh, .int .i64 flag, .int .i64 pending, .int .i64 ask, .int .i64 count, .int .i64 sense, .int .i64 deques, .int .i64 size, .int .i64 0, .int .i64 0, .int .i64 0, .int .i64 0, .int .i64 0, .bool false, .bool false, .bool false]) (by simp [Value.oneCell'])) ?_
                  have hs := hbk.alls [.int .i64 verts, .int .i64 arcs, .int .i64 workers, .int .i64 room, .int .i64 res, .int .i64 lex, .int .i64 hh, .int .i64 flag, .int .i64 pending, .int .i64 ask, .int .i64 count, .int .i64 sense, .int .i64 deques, .int .i64 size, .int .i64 0, .int .i64 0, .int .i64 0, .int .i64 0, .int .i64 0, .bool false, .bool false, .bool false] rfl
                  exact hK _ _ ⟨_, by simp only [putAll, Act.put, List.setIfInBounds_toArray, List.set_cons_zero, List.set_cons_succ], b0, b1, b2, b3, b4, b5, b6, b7, b8, b9, b10, b11, true, _, _, _, _, _, _, _, _, _, _, p2, q2, t2, rfl, rfl, (HJI.out _ _ _ _ _ _ _ _ _ _ _ _ _ _ _ _ _ _ _ _ _ _ _ _ _ _ _ ).2 ⟨(Lib.hid (hI.out.upd hs.2 hx)), h0, h1, h2, h3, h4, h5, h6, Lib.hid (fun hb => ⟨(h7.out hb).1, (h7.out hb).2.1, (h7.out hb).2.2.upd hs.2 (fun e => n7_9.out hb (by simp [hd]) e)⟩), Lib.hid (fun hb => ⟨(h8.out hb).1, (h8.out hb).2.1, (h8.out hb).2.2.upd hs.2 (fun e => n8_9.out hb (by simp [hd]) e)⟩), Lib.hid (fun _ => ⟨rfl, hx, hs.1⟩), n7_8, n7_9, n8_9, g10, g11, Lib.hid (fun _ => (by simp [hd]))⟩⟩
              · rintro l us W ⟨b0, b1, b2, b3, b4, b5, b6, b7, b8, b9, b10, b11, b12, v108, v109, v110, v111, v112, v113, v114, v24, v25, v26, p2, q2, t2, rfl, rfl, hJI⟩ hall
                as_aux_lemma =>
                obtain ⟨hI, h0, h1, h2, h3, h4, h5, h6, h7, h8, h9, n7_8, n7_9, n8_9, g10, g11, g12⟩ := (HJI.out _ _ _ _ _ _ _ _ _ _ _ _ _ _ _ _ _ _ _ _ _ _ _ _ _ _ _ ).1 hJI
                clear hJI
                obtain rfl : b0 = true := by simpa using hall 0
                obtain rfl : b1 = true := by simpa using hall 1
                obtain rfl : b2 = true := by simpa using hall 2
                obtain rfl : b3 = true := by simpa using hall 3
                obtain rfl : b4 = true := by simpa using hall 4
                obtain rfl : b5 = true := by simpa using hall 5
                obtain rfl : b6 = true := by simpa using hall 6
                obtain rfl : b7 = true := by simpa using hall 7
                obtain rfl : b8 = true := by simpa using hall 8
                obtain rfl : b9 = true := by simpa using hall 9
                obtain rfl : b10 = true := by simpa using hall 10
                obtain rfl : b11 = true := by simpa using hall 11
                obtain rfl : b12 = true := by simpa using hall 12
                obtain rfl := h0.out rfl
                obtain rfl := h1.out rfl
                obtain rfl := h2.out rfl
                obtain rfl := h3.out rfl
                obtain rfl := h4.out rfl
                obtain rfl := h5.out rfl
                obtain rfl := h6.out rfl
                obtain ⟨rfl, hx7, hB7⟩ := h7.out rfl
                obtain ⟨rfl, hx8, hB8⟩ := h8.out rfl
                obtain ⟨rfl, hx9, hB9⟩ := h9.out rfl
                simp only [putAll, Act.put, List.setIfInBounds_toArray, List.set_cons_zero, List.set_cons_succ]
                have D1 := Lib.hid (D0.out.kept hI.out.k)
                have T3 := Lib.hid (T1.out.kept hI.out.k)
                clear HJI JI
                have PB1 : PB W p2 48 (⟨verts, arcs, workers, room, res, lex, hh, flag, pending, ask, count, sense, deques, size⟩ : Lay) 0 ⟨0, 0, 0, 0, false, false⟩ [.int .i64 v] := hB7
                have PB2 : PB W q2 51 (⟨verts, arcs, workers, room, res, lex, hh, flag, pending, ask, count, sense, deques, size⟩ : Lay) 0 ⟨0, 0, 0, 0, false, false⟩ [] := hB8
                have PB3 : PB W t2 45 (⟨verts, arcs, workers, room, res, lex, hh, flag, pending, ask, count, sense, deques, size⟩ : Lay) 0 ⟨0, 0, 0, 0, false, false⟩ [.bool false] := hB9
                have T4 : Hid (Trio W (⟨verts, arcs, workers, room, res, lex, hh, flag, pending, ask, count, sense, deques, size⟩ : Lay) v j ⟨fresh, false, xs⟩ B2 W.heap.size p2 q2 t2) := Lib.hid (Trio.start PB1 PB2 PB3 (by have n := HB3.out; omega) hj3 xs)
                clear hall hI hB7 hB8 hB9 hx7 hx8 hx9 D0 T1 HB3 PB1 PB2 PB3
                go_upto_region 19 with (fail)
                generalize hW : W.heap.size = B3 at T4
                have HB2 : Hid (B3 ≤ W.heap.size) := Lib.hid (by omega)
                clear hW
                obtain ⟨u2, hu2⟩ : ∃ y : Value, (kdOf j v).ifc (boxOf j p2 q2 t2) = y := ⟨_, rfl⟩
                have Hu2 := Lib.hid hu2
                clear hu2
                go_cut [27] from 115 to 122 (fun x wx => u2 = x ∧ Hid (DD w B lb bb g cb cg #[.int .i64 verts, .int .i64 arcs, .int .i64 workers, .int .i64 room, .int .i64 res, .int .i64 lex, .int .i64 hh, .int .i64 flag, .int .i64 pending, .int .i64 ask, .int .i64 count, .int .i64 sense, .int .i64 deques, .int .i64 size] (krun tp r (kdOf j v) ⟨fresh, false, xs⟩ M).xs xs wx) ∧ Hid (Trio wx (⟨verts, arcs, workers, room, res, lex, hh, flag, pending, ask, count, sense, deques, size⟩ : Lay) v j (krun tp r (kdOf j v) ⟨fresh, false, xs⟩ M) B B2 p1 q1 t1) ∧ Hid (Trio wx (⟨verts, arcs, workers, room, res, lex, hh, flag, pending, ask, count, sense, deques, size⟩ : Lay) v j ⟨fresh, false, xs⟩ B2 B3 p2 q2 t2) ∧ Hid (B3 ≤ wx.heap.size))
                case first =>
                  have hal := fun o => (Upd.refl (fun _ => False) W).alloc o
                  rcases hj3 with rfl | rfl | rfl
                  · have e0 : knd % 3 = 0 := HJ.out
                    obtain rfl : u2 = .iface 36 (.pointer (some ⟨p2, 0, none⟩)) := Hu2.out.symm
                    clear HJ
                    go_wp2_with fail
                    go_meet
                    case rel => exact ⟨rfl, Lib.hid (D1.out.kept (hal _)), Lib.hid (T3.out.kept (hal _)), Lib.hid (T4.out.kept (hal _)), Lib.hid (Nat.le_trans HB2.out (hal _).size)⟩
                  · have e0 : knd % 3 = 1 := HJ.out
                    obtain rfl : u2 = .iface 37 (.pointer (some ⟨q2, 0, none⟩)) := Hu2.out.symm
                    clear HJ
                    go_wp2_with fail
                    go_meet
                    case rel => exact ⟨rfl, Lib.hid (D1.out.kept (hal _)), Lib.hid (T3.out.kept (hal _)), Lib.hid (T4.out.kept (hal _)), Lib.hid (Nat.le_trans HB2.out (hal _).size)⟩
                  · have e0 : knd % 3 = 2 := HJ.out
                    obtain rfl : u2 = .iface 38 (.pointer (some ⟨t2, 0, none⟩)) := Hu2.out.symm
                    clear HJ
                    go_wp2_with fail
                    go_meet
                    case rel => exact ⟨rfl, Lib.hid (D1.out.kept (hal _)), Lib.hid (T3.out.kept (hal _)), Lib.hid (T4.out.kept (hal _)), Lib.hid (Nat.le_trans HB2.out (hal _).size)⟩
                case rest =>
                  obtain ⟨rfl, D2, T3, T4, HB3⟩ := hcut
                  clear D1 HB2
                  go_upto_region 20 with (fail)
                  go_wp2_with fail
                  go_loopw [125] (fun cx wr => ∃ i : Nat, cx = .int .u8 i ∧ i ≤ M ∧ Hid (DD w B lb bb g cb cg #[.int .i64 verts, .int .i64 arcs, .int .i64 workers, .int .i64 room, .int .i64 res, .int .i64 lex, .int .i64 hh, .int .i64 flag, .int .i64 pending, .int .i64 ask, .int .i64 count, .int .i64 sense, .int .i64 deques, .int .i64 size] (krun tp r (kdOf j v) ⟨fresh, false, xs⟩ M).xs (krun tp r (kdOf j v) ⟨fresh, false, xs⟩ i).xs wr) ∧ Hid (Trio wr (⟨verts, arcs, workers, room, res, lex, hh, flag, pending, ask, count, sense, deques, size⟩ : Lay) v j (krun tp r (kdOf j v) ⟨fresh, false, xs⟩ M) B B2 p1 q1 t1) ∧ Hid (Trio wr (⟨verts, arcs, workers, room, res, lex, hh, flag, pending, ask, count, sense, deques, size⟩ : Lay) v j (krun tp r (kdOf j v) ⟨fresh, false, xs⟩ i) B2 B3 p2 q2 t2) ∧ Hid (B3 ≤ wr.heap.size)) (fun cx _ => M - (intOf cx).toNat)
                  case atStart => exact ⟨0, rfl, by omega, D2, T3, T4, HB3⟩
                  case round =>
                    clear D2 T3 T4 HB3
                    obtain ⟨i, rfl, hi, D0, T1, T2, HB3⟩ := hrel
                    by_cases hlt : i < M
                    · have i1 : (i : Int) < atv % 6 := by rw [HMM.out]; omega
                      have i2 : decide ((i : Int) < atv % 6) = true := by simpa using i1
                      as_aux_lemma =>
                      have HK := Lib.hid (kstep_any (kdOf j v) _ HG.out T2.out.at D0.out.c (by have n1 := D0.out.n1; have n2 := T2.out.box; have n3 := HBB.out; omega) (HRE.out.inv i))
                      rcases hj3 with rfl | rfl | rfl
                      · obtain rfl : u2 = .iface 36 (.pointer (some ⟨p2, 0, none⟩)) := Hu2.out.symm
                        go_wp2_with fail
                        refine HK.out.mono ?_
                        rintro e W5 ⟨rfl, hK⟩
                        have E0 := Lib.hid (D0.out.mach2 hK (by have n2 := T2.out.box; have n3 := HBB.out; omega))
                        have E1 := Lib.hid (T1.out.far hK.2.2 (fun y h1 h2 => by have n1 := D0.out.n1; have n2 := T2.out.box; omega))
                        have E2 := Lib.hid (T2.out.step hK (by have n1 := D0.out.n1; have n3 := HBB.out; omega))
                        have E3 : Hid (B3 ≤ W5.heap.size) := Lib.hid (Nat.le_trans HB3.out hK.2.2.size)
                        clear hK HK D0 T1 T2 HB3
                        have hwc : IntKind.u8.wrap ((i : Int) + 1) = ((i + 1 : Nat) : Int) := by rw [IntKind.wrap_u8]; omega
                        go_wp2_with fail
                        go_roundw
                        case rel => exact ⟨i + 1, by go_num, by omega, E0, E1, E2, E3⟩
                        case measure => simp [intOf]; omega
                      · obtain rfl : u2 = .iface 37 (.pointer (some ⟨q2, 0, none⟩)) := Hu2.out.symm
                        go_wp2_with fail
                        refine HK.out.mono ?_
                        rintro e W5 ⟨rfl, hK⟩
                        have E0 := Lib.hid (D0.out.mach2 hK (by have n2 := T2.out.box; have n3 := HBB.out; omega))
                        have E1 := Lib.hid (T1.out.far hK.2.2 (fun y h1 h2 => by have n1 := D0.out.n1; have n2 := T2.out.box; omega))
                        have E2 := Lib.hid (T2.out.step hK (by have n1 := D0.out.n1; have n3 := HBB.out; omega))
                        have E3 : Hid (B3 ≤ W5.heap.size) := Lib.hid (Nat.le_trans HB3.out hK.2.2.size)
                        clear hK HK D0 T1 T2 HB3
                        have hwc : IntKind.u8.wrap ((i : Int) + 1) = ((i + 1 : Nat) : Int) := by rw [IntKind.wrap_u8]; omega
                        go_wp2_with fail
                        go_roundw
                        case rel => exact ⟨i + 1, by go_num, by omega, E0, E1, E2, E3⟩
                        case measure => simp [intOf]; omega
                      · obtain rfl : u2 = .iface 38 (.pointer (some ⟨t2, 0, none⟩)) := Hu2.out.symm
                        go_wp2_with fail
                        refine HK.out.mono ?_
                        rintro e W5 ⟨rfl, hK⟩
                        have E0 := Lib.hid (D0.out.mach2 hK (by have n2 := T2.out.box; have n3 := HBB.out; omega))
                        have E1 := Lib.hid (T1.out.far hK.2.2 (fun y h1 h2 => by have n1 := D0.out.n1; have n2 := T2.out.box; omega))
                        have E2 := Lib.hid (T2.out.step hK (by have n1 := D0.out.n1; have n3 := HBB.out; omega))
                        have E3 : Hid (B3 ≤ W5.heap.size) := Lib.hid (Nat.le_trans HB3.out hK.2.2.size)
                        clear hK HK D0 T1 T2 HB3
                        have hwc : IntKind.u8.wrap ((i : Int) + 1) = ((i + 1 : Nat) : Int) := by rw [IntKind.wrap_u8]; omega
                        go_wp2_with fail
                        go_roundw
                        case rel => exact ⟨i + 1, by go_num, by omega, E0, E1, E2, E3⟩
                        case measure => simp [intOf]; omega
                    · obtain rfl : M = i := by omega
                      have i1 : ¬ (M : Int) < atv % 6 := by rw [HMM.out]; omega
                      have i2 : decide ((M : Int) < atv % 6) = false := by simpa using i1
                      as_aux_lemma =>
                      obtain ⟨sM, hsM⟩ : ∃ s, krun tp r (kdOf j v) ⟨fresh, false, xs⟩ M = s := ⟨_, rfl⟩
                      obtain ⟨A1, hA9, hAl⟩ := HRE.out.fin
                      rw [hsM] at hAl D0 T1 T2
                      have HAL := Lib.hid hAl
                      clear hAl
                      go_upto_region 24 with (fail)
                      clear i1 i2
                      obtain ⟨mp, hmp⟩ : ∃ m, mOf j 0 sM = m := ⟨_, rfl⟩
                      obtain ⟨mq, hmq⟩ : ∃ m, mOf j 1 sM = m := ⟨_, rfl⟩
                      obtain ⟨mt, hmt⟩ : ∃ m, mOf j 2 sM = m := ⟨_, rfl⟩
                      obtain ⟨lt, hlt3⟩ : ∃ m, lOf j sM = m := ⟨_, rfl⟩
                      have q1' := T2.out.P
                      have q2' := T2.out.Q
                      have q3' := T2.out.T
                      rw [hmp] at q1'
                      rw [hmq] at q2'
                      rw [hmt, hlt3] at q3'
                      have hra1 : wr.rangeAt p2 0 [.int .i64 verts, .int .i64 arcs, .int .i64 workers, .int .i64 room, .int .i64 res, .int .i64 lex, .int .i64 hh, .int .i64 flag, .int .i64 pending, .int .i64 ask, .int .i64 count, .int .i64 sense, .int .i64 deques, .int .i64 size, .int .i64 0, .int .i64 mp.a, .int .i64 mp.t, .int .i64 mp.b, .int .i64 mp.x, .bool mp.done, .bool mp.got, .int .i64 v] := Blk.range q1'
                      have hra2 : wr.rangeAt q2 0 [.int .i64 verts, .int .i64 arcs, .int .i64 workers, .int .i64 room, .int .i64 res, .int .i64 lex, .int .i64 hh, .int .i64 flag, .int .i64 pending, .int .i64 ask, .int .i64 count, .int .i64 sense, .int .i64 deques, .int .i64 size, .int .i64 0, .int .i64 mq.a, .int .i64 mq.t, .int .i64 mq.b, .int .i64 mq.x, .bool mq.done, .bool mq.got] := Blk.range q2'
                      have hra3 : wr.rangeAt t2 0 [.int .i64 verts, .int .i64 arcs, .int .i64 workers, .int .i64 room, .int .i64 res, .int .i64 lex, .int .i64 hh, .int .i64 flag, .int .i64 pending, .int .i64 ask, .int .i64 count, .int .i64 sense, .int .i64 deques, .int .i64 size, .int .i64 0, .int .i64 mt.a, .int .i64 mt.t, .int .i64 mt.b, .int .i64 mt.x, .bool mt.done, .bool mt.got, .bool lt] := Blk.range q3'
                      clear q1' q2' q3'
                      have HM4 := Lib.hid (And.intro hmp (And.intro hmq (And.intro hmt hlt3)))
                      clear hmp hmq hmt hlt3
                      have hz1 : Blk (((wr.alloc (.cells #[.int .i64 0, .int .i64 0, .int .i64 0, .int .i64 0, .int .i64 0, .int .i64 0, .int .i64 0, .int .i64 0, .int .i64 0, .int .i64 0, .int .i64 0, .int .i64 0, .int .i64 0, .int .i64 0, .int .i64 0, .int .i64 0, .int .i64 0, .int .i64 0, .int .i64 0, .bool false, .bool false, .int .i64 0] 48)).alloc (.cells #[.int .i64 0, .int .i64 0, .int .i64 0, .int .i64 0, .int .i64 0, .int .i64 0, .int .i64 0, .int .i64 0, .int .i64 0, .int .i64 0, .int .i64 0, .int .i64 0, .int .i64 0, .int .i64 0, .int .i64 0, .int .i64 0, .int .i64 0, .int .i64 0, .int .i64 0, .bool false, .bool false] 51)).alloc (.cells #[.int .i64 0, .int .i64 0, .int .i64 0, .int .i64 0, .int .i64 0, .int .i64 0, .int .i64 0, .int .i64 0, .int .i64 0, .int .i64 0, .int .i64 0, .int .i64 0, .int .i64 0, .int .i64 0, .int .i64 0, .int .i64 0, .int .i64 0, .int .i64 0, .int .i64 0, .bool false, .bool false, .bool false] 45)) wr.heap.size #[.int .i64 0, .int .i64 0, .int .i64 0, .int .i64 0, .int .i64 0, .int .i64 0, .int .i64 0, .int .i64 0, .int .i64 0, .int .i64 0, .int .i64 0, .int .i64 0, .int .i64 0, .int .i64 0, .int .i64 0, .int .i64 0, .int .i64 0, .int .i64 0, .int .i64 0, .bool false, .bool false, .int .i64 0] 48 := ((Blk.new wr _ _).alloc _).alloc _
                      have hz2 : Blk (((wr.alloc (.cells #[.int .i64 0, .int .i64 0, .int .i64 0, .int .i64 0, .int .i64 0, .int .i64 0, .int .i64 0, .int .i64 0, .int .i64 0, .int .i64 0, .int .i64 0, .int .i64 0, .int .i64 0, .int .i64 0, .int .i64 0, .int .i64 0, .int .i64 0, .int .i64 0, .int .i64 0, .bool false, .bool false, .int .i64 0] 48)).alloc (.cells #[.int .i64 0, .int .i64 0, .int .i64 0, .int .i64 0, .int .i64 0, .int .i64 0, .int .i64 0, .int .i64 0, .int .i64 0, .int .i64 0, .int .i64 0, .int .i64 0, .int .i64 0, .int .i64 0, .int .i64 0, .int .i64 0, .int .i64 0, .int .i64 0, .int .i64 0, .bool false, .bool false] 51)).alloc (.cells #[.int .i64 0, .int .i64 0, .int .i64 0, .int .i64 0, .int .i64 0, .int .i64 0, .int .i64 0, .int .i64 0, .int .i64 0, .int .i64 0, .int .i64 0, .int .i64 0, .int .i64 0, .int .i64 0, .int .i64 0, .int .i64 0, .int .i64 0, .int .i64 0, .int .i64 0, .bool false, .bool false, .bool false] 45)) (wr.heap.size + 1) #[.int .i64 0, .int .i64 0, .int .i64 0, .int .i64 0, .int .i64 0, .int .i64 0, .int .i64 0, .int .i64 0, .int .i64 0, .int .i64 0, .int .i64 0, .int .i64 0, .int .i64 0, .int .i64 0, .int .i64 0, .int .i64 0, .int .i64 0, .int .i64 0, .int .i64 0, .bool false, .bool false] 51 := by
                        have h := Blk.new (wr.alloc (.cells #[.int .i64 0, .int .i64 0, .int .i64 0, .int .i64 0, .int .i64 0, .int .i64 0, .int .i64 0, .int .i64 0, .int .i64 0, .int .i64 0, .int .i64 0, .int .i64 0, .int .i64 0, .int .i64 0, .int .i64 0, .int .i64 0, .int .i64 0, .int .i64 0, .int .i64 0, .bool false, .bool false, .int .i64 0] 48)) #[.int .i64 0, .int .i64 0, .int .i64 0, .int .i64 0, .int .i64 0, .int .i64 0, .int .i64 0, .int .i64 0, .int .i64 0, .int .i64 0, .int .i64 0, .int .i64 0, .int .i64 0, .int .i64 0, .int .i64 0, .int .i64 0, .int .i64 0, .int .i64 0, .int .i64 0, .bool false, .bool false] 51
                        rw [World.size_alloc] at h
                        exact h.alloc _
                      have hz3 : Blk (((wr.alloc (.cells #[.int .i64 0, .int .i64 0, .int .i64 0, .int .i64 0, .int .i64 0, .int .i64 0, .int .i64 0, .int .i64 0, .int .i64 0, .int .i64 0, .int .i64 0, .int .i64 0, .int .i64 0, .int .i64 0, .int .i64 0, .int .i64 0, .int .i64 0, .int .i64 0, .int .i64 0, .bool false, .bool false, .int .i64 0] 48)).alloc (.cells #[.int .i64 0, .int .i64 0, .int .i64 0, .int .i64 0, .int .i64 0, .int .i64 0, .int .i64 0, .int .i64 0, .int .i64 0, .int .i64 0, .int .i64 0, .int .i64 0, .int .i64 0, .int .i64 0, .int .i64 0, .int .i64 0, .int .i64 0, .int .i64 0, .int .i64 0, .bool false, .bool false] 51)).alloc (.cells #[.int .i64 0, .int .i64 0, .int .i64 0, .int .i64 0, .int .i64 0, .int .i64 0, .int .i64 0, .int .i64 0, .int .i64 0, .int .i64 0, .int .i64 0, .int .i64 0, .int .i64 0, .int .i64 0, .int .i64 0, .int .i64 0, .int .i64 0, .int .i64 0, .int .i64 0, .bool false, .bool false, .bool false] 45)) (wr.heap.size + 1 + 1) #[.int .i64 0, .int .i64 0, .int .i64 0, .int .i64 0, .int .i64 0, .int .i64 0, .int .i64 0, .int .i64 0, .int .i64 0, .int .i64 0, .int .i64 0, .int .i64 0, .int .i64 0, .int .i64 0, .int .i64 0, .int .i64 0, .int .i64 0, .int .i64 0, .int .i64 0, .bool false, .bool false, .bool false] 45 := by
                        have h := Blk.new ((wr.alloc (.cells #[.int .i64 0, .int .i64 0, .int .i64 0, .int .i64 0, .int .i64 0, .int .i64 0, .int .i64 0, .int .i64 0, .int .i64 0, .int .i64 0, .int .i64 0, .int .i64 0, .int .i64 0, .int .i64 0, .int .i64 0, .int .i64 0, .int .i64 0, .int .i64 0, .int .i64 0, .bool false, .bool false, .int .i64 0] 48)).alloc (.cells #[.int .i64 0, .int .i64 0, .int .i64 0, .int .i64 0, .int .i64 0, .int .i64 0, .int .i64 0, .int .i64 0, .int .i64 0, .int .i64 0, .int .i64 0, .int .i64 0, .int .i64 0, .int .i64 0, .int .i64 0, .int .i64 0, .int .i64 0, .int .i64 0, .int .i64 0, .bool false, .bool false] 51)) #[.int .i64 0, .int .i64 0, .int .i64 0, .int .i64 0, .int .i64 0, .int .i64 0, .int .i64 0, .int .i64 0, .int .i64 0, .int .i64 0, .int .i64 0, .int .i64 0, .int .i64 0, .int .i64 0, .int .i64 0, .int .i64 0, .int .i64 0, .int .i64 0, .int .i64 0, .bool false, .bool false, .bool false] 45
                        rw [World.size_alloc, World.size_alloc] at h
                        exact h
                      have hka : Kept wr (((wr.alloc (.cells #[.int .i64 0, .int .i64 0, .int .i64 0, .int .i64 0, .int .i64 0, .int .i64 0, .int .i64 0, .int .i64 0, .int .i64 0, .int .i64 0, .int .i64 0, .int .i64 0, .int .i64 0, .int .i64 0, .int .i64 0, .int .i64 0, .int .i64 0, .int .i64 0, .int .i64 0, .bool false, .bool false, .int .i64 0] 48)).alloc (.cells #[.int .i64 0, .int .i64 0, .int .i64 0, .int .i64 0, .int .i64 0, .int .i64 0, .int .i64 0, .int .i64 0, .int .i64 0, .int .i64 0, .int .i64 0, .int .i64 0, .int .i64 0, .int .i64 0, .int .i64 0, .int .i64 0, .int .i64 0, .int .i64 0, .int .i64 0, .bool false, .bool false] 51)).alloc (.cells #[.int .i64 0, .int .i64 0, .int .i64 0, .int .i64 0, .int .i64 0, .int .i64 0, .int .i64 0, .int .i64 0, .int .i64 0, .int .i64 0, .int .i64 0, .int .i64 0, .int .i64 0, .int .i64 0, .int .i64 0, .int .i64 0, .int .i64 0, .int .i64 0, .int .i64 0, .bool false, .bool false, .bool false] 45)) := (((Upd.refl _ _).alloc _).alloc _).alloc _
                      obtain ⟨W1, hW1⟩ : ∃ W', (((wr.alloc (.cells #[.int .i64 0, .int .i64 0, .int .i64 0, .int .i64 0, .int .i64 0, .int .i64 0, .int .i64 0, .int .i64 0, .int .i64 0, .int .i64 0, .int .i64 0, .int .i64 0, .int .i64 0, .int .i64 0, .int .i64 0, .int .i64 0, .int .i64 0, .int .i64 0, .int .i64 0, .bool false, .bool false, .int .i64 0] 48)).alloc (.cells #[.int .i64 0, .int .i64 0, .int .i64 0, .int .i64 0, .int .i64 0, .int .i64 0, .int .i64 0, .int .i64 0, .int .i64 0, .int .i64 0, .int .i64 0, .int .i64 0, .int .i64 0, .int .i64 0, .int .i64 0, .int .i64 0, .int .i64 0, .int .i64 0, .int .i64 0, .bool false, .bool false] 51)).alloc (.cells #[.int .i64 0, .int .i64 0, .int .i64 0, .int .i64 0, .int .i64 0, .int .i64 0, .int .i64 0, .int .i64 0, .int .i64 0, .int .i64 0, .int .i64 0, .int .i64 0, .int .i64 0, .int .i64 0, .int .i64 0, .int .i64 0, .int .i64 0, .int .i64 0, .int .i64 0, .bool false, .bool false, .bool false] 45)).setCells wr.heap.size 0 [.int .i64 verts, .int .i64 arcs, .int .i64 workers, .int .i64 room, .int .i64 res, .int .i64 lex, .int .i64 hh, .int .i64 flag, .int .i64 pending, .int .i64 ask, .int .i64 count, .int .i64 sense, .int .i64 deques, .int .i64 size, .int .i64 0, .int .i64 mp.a, .int .i64 mp.t, .int .i64 mp.b, .int .i64 mp.x, .bool mp.done, .bool mp.got, .int .i64 v] = W' := ⟨_, rfl⟩
                      have hB1 : Blk W1 wr.heap.size #[.int .i64 verts, .int .i64 arcs, .int .i64 workers, .int .i64 room, .int .i64 res, .int .i64 lex, .int .i64 hh, .int .i64 flag, .int .i64 pending, .int .i64 ask, .int .i64 count, .int .i64 sense, .int .i64 deques, .int .i64 size, .int .i64 0, .int .i64 mp.a, .int .i64 mp.t, .int .i64 mp.b, .int .i64 mp.x, .bool mp.done, .bool mp.got, .int .i64 v] 48 ∧ Upd (fun k => k = wr.heap.size) (((wr.alloc (.cells #[.int .i64 0, .int .i64 0, .int .i64 0, .int .i64 0, .int .i64 0, .int .i64 0, .int .i64 0, .int .i64 0, .int .i64 0, .int .i64 0, .int .i64 0, .int .i64 0, .int .i64 0, .int .i64 0, .int .i64 0, .int .i64 0, .int .i64 0, .int .i64 0, .int .i64 0, .bool false, .bool false, .int .i64 0] 48)).alloc (.cells #[.int .i64 0, .int .i64 0, .int .i64 0, .int .i64 0, .int .i64 0, .int .i64 0, .int .i64 0, .int .i64 0, .int .i64 0, .int .i64 0, .int .i64 0, .int .i64 0, .int .i64 0, .int .i64 0, .int .i64 0, .int .i64 0, .int .i64 0, .int .i64 0, .int .i64 0, .bool false, .bool false] 51)).alloc (.cells #[.int .i64 0, .int .i64 0, .int .i64 0, .int .i64 0, .int .i64 0, .int .i64 0, .int .i64 0, .int .i64 0, .int .i64 0, .int .i64 0, .int .i64 0, .int .i64 0, .int .i64 0, .int .i64 0, .int .i64 0, .int .i64 0, .int .i64 0, .int .i64 0, .int .i64 0, .bool false, .bool false, .bool false] 45)) W1 := by rw [← hW1]; exact Blk.alls hz1 [.int .i64 verts, .int .i64 arcs, .int .i64 workers, .int .i64 room, .int .i64 res, .int .i64 lex, .int .i64 hh, .int .i64 flag, .int .i64 pending, .int .i64 ask, .int .i64 count, .int .i64 sense, .int .i64 deques, .int .i64 size, .int .i64 0, .int .i64 mp.a, .int .i64 mp.t, .int .i64 mp.b, .int .i64 mp.x, .bool mp.done, .bool mp.got, .int .i64 v] rfl
                      have hz2' := hz2.upd hB1.2 (by omega)
                      have hz3' := hz3.upd hB1.2 (by omega)
                      obtain ⟨W2, hW2⟩ : ∃ W', W1.setCells (wr.heap.size + 1) 0 [.int .i64 verts, .int .i64 arcs, .int .i64 workers, .int .i64 room, .int .i64 res, .int .i64 lex, .int .i64 hh, .int .i64 flag, .int .i64 pending, .int .i64 ask, .int .i64 count, .int .i64 sense, .int .i64 deques, .int .i64 size, .int .i64 0, .int .i64 mq.a, .int .i64 mq.t, .int .i64 mq.b, .int .i64 mq.x, .bool mq.done, .bool mq.got] = W' := ⟨_, rfl⟩
                      have hB2 : Blk W2 (wr.heap.size + 1) #[.int .i64 verts, .int .i64 arcs, .int .i64 workers, .int .i64 room, .int .i64 res, .int .i64 lex, .int .i64 hh, .int .i64 flag, .int .i64 pending, .int .i64 ask, .int .i64 count, .int .i64 sense, .int .i64 deques, .int .i64 size, .int .i64 0, .int .i64 mq.a, .int .i64 mq.t, .int .i64 mq.b, .int .i64 mq.x, .bool mq.done, .bool mq.got] 51 ∧ Upd (fun k => k = wr.heap.size + 1) W1 W2 := by rw [← hW2]; exact Blk.alls hz2' [.int .i64 verts, .int .i64 arcs, .int .i64 workers, .int .i64 room, .int .i64 res, .int .i64 lex, .int .i64 hh, .int .i64 flag, .int .i64 pending, .int .i64 ask, .int .i64 count, .int .i64 sense, .int .i64 deques, .int .i64 size, .int .i64 0, .int .i64 mq.a, .int .i64 mq.t, .int .i64 mq.b, .int .i64 mq.x, .bool mq.done, .bool mq.got] rfl
                      have hz3'' := hz3'.upd hB2.2 (by omega)
                      obtain ⟨W3, hW3⟩ : ∃ W', W2.setCells (wr.heap.size + 1 + 1) 0 [.int .i64 verts, .int .i64 arcs, .int .i64 workers, .int .i64 room, .int .i64 res, .int .i64 lex, .int .i64 hh, .int .i64 flag, .int .i64 pending, .int .i64 ask, .int .i64 count, .int .i64 sense, .int .i64 deques, .int .i64 size, .int .i64 0, .int .i64 mt.a, .int .i64 mt.t, .int .i64 mt.b, .int .i64 mt.x, .bool mt.done, .bool mt.got, .bool lt] = W' := ⟨_, rfl⟩
                      have hB3 : Blk W3 (wr.heap.size + 1 + 1) #[.int .i64 verts, .int .i64 arcs, .int .i64 workers, .int .i64 room, .int .i64 res, .int .i64 lex, .int .i64 hh, .int .i64 flag, .int .i64 pending, .int .i64 ask, .int .i64 count, .int .i64 sense, .int .i64 deques, .int .i64 size, .int .i64 0, .int .i64 mt.a, .int .i64 mt.t, .int .i64 mt.b, .int .i64 mt.x, .bool mt.done, .bool mt.got, .bool lt] 45 ∧ Upd (fun k => k = wr.heap.size + 1 + 1) W2 W3 := by rw [← hW3]; exact Blk.alls hz3'' [.int .i64 verts, .int .i64 arcs, .int .i64 workers, .int .i64 room, .int .i64 res, .int .i64 lex, .int .i64 hh, .int .i64 flag, .int .i64 pending, .int .i64 ask, .int .i64 count, .int .i64 sense, .int .i64 deques, .int .i64 size, .int .i64 0, .int .i64 mt.a, .int .i64 mt.t, .int .i64 mt.b, .int .i64 mt.x, .bool mt.done, .bool mt.got, .bool lt] rfl
                      have th1 := Blk.there hz1 22 rfl
                      have th2 := Blk.there hz2' 21 rfl
                      have th3 := Blk.there hz3'' 22 rfl
                      have hKW : Kept wr W3 := ((hka.then hB1.2 (fun i hi e => by omega)).then hB2.2 (fun i hi e => by omega)).then hB3.2 (fun i hi e => by omega)
                      have pp3 : PB W3 wr.heap.size 48 (⟨verts, arcs, workers, room, res, lex, hh, flag, pending, ask, count, sense, deques, size⟩ : Lay) 0 mp [.int .i64 v] := Blk.upd (Blk.upd hB1.1 hB2.2 (by omega)) hB3.2 (by omega)
                      have pq3 : PB W3 (wr.heap.size + 1) 51 (⟨verts, arcs, workers, room, res, lex, hh, flag, pending, ask, count, sense, deques, size⟩ : Lay) 0 mq [] := Blk.upd hB2.1 hB3.2 (by omega)
                      have pt3 : PB W3 (wr.heap.size + 1 + 1) 45 (⟨verts, arcs, workers, room, res, lex, hh, flag, pending, ask, count, sense, deques, size⟩ : Lay) 0 mt [.bool lt] := hB3.1
                      have D1 := Lib.hid (D0.out.kept hKW)
                      have T5 := Lib.hid (T1.out.kept hKW)
                      have T6 : Hid (Trio W3 (⟨verts, arcs, workers, room, res, lex, hh, flag, pending, ask, count, sense, deques, size⟩ : Lay) v j sM B3 W3.heap.size wr.heap.size (wr.heap.size + 1) (wr.heap.size + 1 + 1)) := Lib.hid (by
                        obtain ⟨rfl, rfl, rfl, rfl⟩ := HM4.out
                        have n1 := HB3.out
                        have n2 := pp3.lt
                        have n3 := pq3.lt
                        have n4 := pt3.lt
                        exact ⟨pp3, pq3, pt3, by omega, hj3⟩)
                      have HBC : Hid (B2 ≤ B3) := Lib.hid (by have n2 := T2.out.n; omega)
                      have sz1 := (show (Try.prog.info? 48).map (·.size) = some 22 from HZu.out)
                      have sz2 := (show (Try.prog.info? 51).map (·.size) = some 21 from HZo.out)
                      have sz3 := (show (Try.prog.info? 45).map (·.size) = some 22 from HZt.out)
                      clear hz1 hz2 hz3 hz2' hz3' hz3'' hka hB1 hB2 hB3 hKW pp3 pq3 pt3 D0 T1 T2 HB3 HM4
                      go_upto_region 25 with (first | (refine wpList_load_mid rfl _ _ rfl p2 0 rfl [.int .i64 verts, .int .i64 arcs, .int .i64 workers, .int .i64 room, .int .i64 res, .int .i64 lex, .int .i64 hh, .int .i64 flag, .int .i64 pending, .int .i64 ask, .int .i64 count, .int .i64 sense, .int .i64 deques, .int .i64 size, .int .i64 0, .int .i64 mp.a, .int .i64 mp.t, .int .i64 mp.b, .int .i64 mp.x, .bool mp.done, .bool mp.got, .int .i64 v] _ hra1 Try.underlying48 rfl HZu.out ?_) | (refine wpList_load_mid rfl _ _ rfl q2 0 rfl [.int .i64 verts, .int .i64 arcs, .int .i64 workers, .int .i64 room, .int .i64 res, .int .i64 lex, .int .i64 hh, .int .i64 flag, .int .i64 pending, .int .i64 ask, .int .i64 count, .int .i64 sense, .int .i64 deques, .int .i64 size, .int .i64 0, .int .i64 mq.a, .int .i64 mq.t, .int .i64 mq.b, .int .i64 mq.x, .bool mq.done, .bool mq.got] _ hra2 Try.underlying51 rfl HZo.out ?_) | (refine wpList_load_mid rfl _ _ rfl t2 0 rfl [.int .i64 verts, .int .i64 arcs, .int .i64 workers, .int .i64 room, .int .i64 res, .int .i64 lex, .int .i64 hh, .int .i64 flag, .int .i64 pending, .int .i64 ask, .int .i64 count, .int .i64 sense, .int .i64 deques, .int .i64 size, .int .i64 0, .int .i64 mt.a, .int .i64 mt.t, .int .i64 mt.b, .int .i64 mt.x, .bool mt.done, .bool mt.got, .bool lt] _ hra3 Try.underlying45 rfl HZt.out ?_) | (refine wpList_store_mid rfl _ _ _ rfl wr.heap.size 0 #[.int .i64 verts, .int .i64 arcs, .int .i64 workers, .int .i64 room, .int .i64 res, .int .i64 lex, .int .i64 hh, .int .i64 flag, .int .i64 pending, .int .i64 ask, .int .i64 count, .int .i64 sense, .int .i64 deques, .int .i64 size, .int .i64 0, .int .i64 mp.a, .int .i64 mp.t, .int .i64 mp.b, .int .i64 mp.x, .bool mp.done, .bool mp.got, .int .i64 v] rfl rfl th1 sz1 (all_oneCell_toArray (cs := [.int .i64 verts, .int .i64 arcs, .int .i64 workers, .int .i64 room, .int .i64 res, .int .i64 lex, .int .i64 hh, .int .i64 flag, .int .i64 pending, .int .i64 ask, .int .i64 count, .int .i64 sense, .int .i64 deques, .int .i64 size, .int .i64 0, .int .i64 mp.a, .int .i64 mp.t, .int .i64 mp.b, .int .i64 mp.x, .bool mp.done, .bool mp.got, .int .i64 v]) (by simp [Value.oneCell'])) ?_; simp only [hW1]) | (refine wpList_store_mid rfl _ _ _ rfl (wr.heap.size + 1) 0 #[.int .i64 verts, .int .i64 arcs, .int .i64 workers, .int .i64 room, .int .i64 res, .int .i64 lex, .int .i64 hh, .int .i64 flag, .int .i64 pending, .int .i64 ask, .int .i64 count, .int .i64 sense, .int .i64 deques, .int .i64 size, .int .i64 0, .int .i64 mq.a, .int .i64 mq.t, .int .i64 mq.b, .int .i64 mq.x, .bool mq.done, .bool mq.got] rfl rfl th2 sz2 (all_oneCell_toArray (cs := [.int .i64 verts, .int .i64 arcs, .int .i64 workers, .int .i64 room, .int .i64 res, .int .i64 lex, .int .i64 hh, .int .i64 flag, .int .i64 pending, .int .i64 ask, .int .i64 count, .int .i64 sense, .int .i64 deques, .int .i64 size, .int .i64 0, .int .i64 mq.a, .int .i64 mq.t, .int .i64 mq.b, .int .i64 mq.x, .bool mq.done, .bool mq.got]) (by simp [Value.oneCell'])) ?_; simp only [hW2]) | (refine wpList_store_mid rfl _ _ _ rfl (wr.heap.size + 1 + 1) 0 #[.int .i64 verts, .int .i64 arcs, .int .i64 workers, .int .i64 room, .int .i64 res, .int .i64 lex, .int .i64 hh, .int .i64 flag, .int .i64 pending, .int .i64 ask, .int .i64 count, .int .i64 sense, .int .i64 deques, .int .i64 size, .int .i64 0, .int .i64 mt.a, .int .i64 mt.t, .int .i64 mt.b, .int .i64 mt.x, .bool mt.done, .bool mt.got, .bool lt] rfl rfl th3 sz3 (all_oneCell_toArray (cs := [.int .i64 verts, .int .i64 arcs, .int .i64 workers, .int .i64 room, .int .i64 res, .int .i64 lex, .int .i64 hh, .int .i64 flag, .int .i64 pending, .int .i64 ask, .int .i64 count, .int .i64 sense, .int .i64 deques, .int .i64 size, .int .i64 0, .int .i64 mt.a, .int .i64 mt.t, .int .i64 mt.b, .int .i64 mt.x, .bool mt.done, .bool mt.got, .bool lt]) (by simp [Value.oneCell'])) ?_; simp only [hW3]) | fail)
                      clear hra1 hra2 hra3 th1 th2 th3 sz1 sz2 sz3 hW1 hW2 hW3
                      simp only [Act.put]
                      generalize wr.heap.size + 1 + 1 = t3 at T6 ⊢
                      generalize wr.heap.size + 1 = q3 at T6 ⊢
                      generalize wr.heap.size = p3 at T6 ⊢
                      generalize W3.heap.size = B4 at T6
                      obtain ⟨u3, hu3⟩ : ∃ y : Value, (kdOf j v).ifc (boxOf j p3 q3 t3) = y := ⟨_, rfl⟩
                      have Hu3 := Lib.hid hu3
                      clear hu3
                      go_cut [31] from 134 to 141 (fun x wx => u3 = x ∧ Hid (DD w B lb bb g cb cg #[.int .i64 verts, .int .i64 arcs, .int .i64 workers, .int .i64 room, .int .i64 res, .int .i64 lex, .int .i64 hh, .int .i64 flag, .int .i64 pending, .int .i64 ask, .int .i64 count, .int .i64 sense, .int .i64 deques, .int .i64 size] sM.xs sM.xs wx) ∧ Hid (Trio wx (⟨verts, arcs, workers, room, res, lex, hh, flag, pending, ask, count, sense, deques, size⟩ : Lay) v j sM B B2 p1 q1 t1) ∧ Hid (Trio wx (⟨verts, arcs, workers, room, res, lex, hh, flag, pending, ask, count, sense, deques, size⟩ : Lay) v j sM B3 B4 p3 q3 t3))
                      case first =>
                        have hal := fun o => (Upd.refl (fun _ => False) W3).alloc o
                        rcases hj3 with rfl | rfl | rfl
                        · have e0 : knd % 3 = 0 := HJ.out
                          obtain rfl : u3 = .iface 36 (.pointer (some ⟨p3, 0, none⟩)) := Hu3.out.symm
                          clear HJ
                          go_wp2_with fail
                          go_meet
                          case rel => exact ⟨rfl, Lib.hid (D1.out.kept (hal _)), Lib.hid (T5.out.kept (hal _)), Lib.hid (T6.out.kept (hal _))⟩
                        · have e0 : knd % 3 = 1 := HJ.out
                          obtain rfl : u3 = .iface 37 (.pointer (some ⟨q3, 0, none⟩)) := Hu3.out.symm
                          clear HJ
                          go_wp2_with fail
                          go_meet
                          case rel => exact ⟨rfl, Lib.hid (D1.out.kept (hal _)), Lib.hid (T5.out.kept (hal _)), Lib.hid (T6.out.kept (hal _))⟩
                        · have e0 : knd % 3 = 2 := HJ.out
                          obtain rfl : u3 = .iface 38 (.pointer (some ⟨t3, 0, none⟩)) := Hu3.out.symm
                          clear HJ
                          go_wp2_with fail
                          go_meet
                          case rel => exact ⟨rfl, Lib.hid (D1.out.kept (hal _)), Lib.hid (T5.out.kept (hal _)), Lib.hid (T6.out.kept (hal _))⟩
                      case rest =>
                        obtain ⟨rfl, D0, T1, T3⟩ := hcut
                        clear D1 T5 T6
                        go_upto_region 26 with (fail)
                        have hal := alone_kd (kdOf j v) HG.out T1.out.at D0.out.b (by have n1 := D0.out.n1; have n2 := T1.out.box; omega) HAL.out hA9
                        rw [Hu1.out] at hal
                        have HA1 := Lib.hid hal
                        clear hal
                        go_wp2_with fail
                        refine HA1.out.mono ?_
                        rintro e W5 ⟨rfl, hK⟩
                        have D2 := Lib.hid (D0.out.mach1 hK (by have n2 := T1.out.box; omega))
                        have T4 := Lib.hid (T1.out.step hK (by have n1 := D0.out.n1; omega))
                        have T5 := Lib.hid (T3.out.far hK.2.2 (fun y h1 h2 => by have n1 := D0.out.n1; have n2 := T1.out.box; have n3 := HBB.out; have n4 := HBC.out; omega))
                        clear hK HA1 D0 T1 T3
                        have hal := alone_kd (kdOf j v) HG.out T5.out.at D2.out.c (by have n1 := D2.out.n1; have n2 := T5.out.box; have n3 := HBB.out; have n4 := HBC.out; omega) HAL.out hA9
                        rw [Hu3.out] at hal
                        have HA1 := Lib.hid hal
                        clear hal
                        go_wp2_with fail
                        refine HA1.out.mono ?_
                        rintro e W6 ⟨rfl, hK⟩
                        have D3 := Lib.hid (D2.out.mach2 hK (by have n2 := T5.out.box; have n3 := HBB.out; have n4 := HBC.out; omega))
                        have T6 := Lib.hid (T5.out.step hK (by have n1 := D2.out.n1; have n3 := HBB.out; have n4 := HBC.out; omega))
                        have T7 := Lib.hid (T4.out.far hK.2.2 (fun y h1 h2 => by have n1 := D2.out.n1; have n2 := T5.out.box; have n3 := HBB.out; have n4 := HBC.out; omega))
                        have HF0 : Hid (DFin w B lb bb g cb cg #[.int .i64 verts, .int .i64 arcs, .int .i64 workers, .int .i64 room, .int .i64 res, .int .i64 lex, .int .i64 hh, .int .i64 flag, .int .i64 pending, .int .i64 ask, .int .i64 count, .int .i64 sense, .int .i64 deques, .int .i64 size] (⟨verts, arcs, workers, room, res, lex, hh, flag, pending, ask, count, sense, deques, size⟩ : Lay) v j s' B2 p1 q1 t1 B3 B4 p3 q3 t3 W6) := Lib.hid ⟨D3.out, T7.out, T6.out⟩
                        obtain ⟨Q, hQ⟩ : ∃ n, s'.xs.length = n := ⟨_, rfl⟩
                        have HQ := Lib.hid hQ
                        have hQm : Q ≤ 524288 := by have := D3.out.b.small; omega
                        clear hK HA1 D2 T4 T5 D3 T6 T7 hQ
                        go_upto_region 28 with (fail)
                        go_wp2_with fail
                        refine (all_at HF0.out.d.b HQ.out).mono ?_
                        rintro e w4 ⟨ga, rfl, hR1, hk⟩
                        have HF := Lib.hid (HF0.out.kept hk)
                        have HR1 := Lib.hid hR1
                        clear hk hR1 HF0
                        go_upto_region 29 with (fail)
                        rcases hj3 with rfl | rfl | rfl
                        · obtain rfl : u1 = .iface 36 (.pointer (some ⟨p1, 0, none⟩)) := Hu1.out.symm
                          obtain rfl : u3 = .iface 36 (.pointer (some ⟨p3, 0, none⟩)) := Hu3.out.symm
                          as_aux_lemma =>
                          clear HJ Hu1 Hu3
                          go_wp2_with fail
                          refine (all_at HF.out.d.c HQ.out).mono ?_
                          rintro e w5 ⟨gc, rfl, hR2, hk⟩
                          have HF2 := Lib.hid (HF.out.kept hk)
                          have HR2 := Lib.hid (HR1.out.kept hk)
                          have HRC := Lib.hid hR2
                          clear hk hR2 HF HR1
                          go_wp2_with fail
                          refine (same_at _ _ _ _ s'.xs Q _ HR2.out HRC.out HQ.out (by omega)).mono ?_
                          rintro e w6 ⟨rfl, hk⟩
                          have HF3 := Lib.hid (HF2.out.kept hk)
                          have HR3 := Lib.hid (HR2.out.kept hk)
                          clear hk HF2 HR2 HRC
                          have hst := done_step (kdOf 0 v) HG.out HF3.out.a.at HF3.out.d.b (by have n1 := HF3.out.d.n1; have n2 := HF3.out.a.box; omega) HRE.out.inv2 HRE.out.don
                          have HST := Lib.hid hst
                          clear hst
                          go_wp2_with fail
                          refine HST.out.mono ?_
                          rintro e w7 ⟨rfl, hk⟩
                          have HF4 := Lib.hid (HF3.out.kept hk)
                          have HR4 := Lib.hid (HR3.out.kept hk)
                          clear hk HF3 HR3 HST
                          have hst := done_step (kdOf 0 v) HG.out HF4.out.b.at HF4.out.d.c (by have n1 := HF4.out.d.n1; have n2 := HF4.out.b.box; have n3 := HBB.out; have n4 := HBC.out; omega) HRE.out.inv2 HRE.out.don
                          have HST := Lib.hid hst
                          clear hst
                          go_wp2_with fail
                          refine HST.out.mono ?_
                          rintro e w8 ⟨rfl, hk⟩
                          have HF5 := Lib.hid (HF4.out.kept hk)
                          have HR5 := Lib.hid (HR4.out.kept hk)
                          clear hk HF4 HR4 HST
                          go_wp2_with fail
                          refine (all_at HF5.out.d.b HQ.out).mono ?_
                          rintro e w9 ⟨gd, rfl, hR2, hk⟩
                          have HF6 := Lib.hid (HF5.out.kept hk)
                          have HR6 := Lib.hid (HR5.out.kept hk)
                          have HRC := Lib.hid hR2
                          clear hk hR2 HF5 HR5
                          go_wp2_with fail
                          refine (same_at _ _ _ _ s'.xs Q _ HR6.out HRC.out HQ.out (by omega)).mono ?_
                          rintro e w10 ⟨rfl, hk⟩
                          have HF7 := Lib.hid (HF6.out.kept hk)
                          have HR7 := Lib.hid (HR6.out.kept hk)
                          clear hk HF6 HR6 HRC
                          go_wp2_with fail
                          refine (all_at HF7.out.d.c HQ.out).mono ?_
                          rintro e w11 ⟨ge, rfl, hR2, hk⟩
                          have HF8 := Lib.hid (HF7.out.kept hk)
                          have HR8 := Lib.hid (HR7.out.kept hk)
                          have HRC := Lib.hid hR2
                          clear hk hR2 HF7 HR7
                          go_wp2_with fail
                          refine (same_at _ _ _ _ s'.xs Q _ HR8.out HRC.out HQ.out (by omega)).mono ?_
                          rintro e w12 ⟨rfl, hk⟩
                          have HF9 := Lib.hid (HF8.out.kept hk)
                          clear hk HF8 HR8 HRC
                          have hg1 := pop_got HF9.out.a.Q
                          have hg2 := pop_got HF9.out.b.Q
                          obtain ⟨tx, htx⟩ : ∃ x, (took (mOf 0 1 s')).1 = x := ⟨_, rfl⟩
                          obtain ⟨tg, htg⟩ : ∃ x, (took (mOf 0 1 s')).2 = x := ⟨_, rfl⟩
                          rw [htx, htg] at hg1 hg2
                          have hp1 := push_ok2 HF9.out.a.P
                          have hp2 := push_ok2 HF9.out.b.P
                          obtain ⟨pk, hpk⟩ : ∃ x, ((mOf 0 0 s').done && (mOf 0 0 s').got) = x := ⟨_, rfl⟩
                          rw [hpk] at hp1 hp2
                          have HG1 := Lib.hid hg1
                          have HG2 := Lib.hid hg2
                          have HP1 := Lib.hid hp1
                          have HP2 := Lib.hid hp2
                          have z1 : (pk == pk) = true := by simp
                          have z2 : (tx == tx) = true := by simp
                          have z3 : (tg == tg) = true := by simp
                          clear hg1 hg2 hp1 hp2 htx htg hpk
                          go_wp2_with fail
                          refine HG1.out.mono ?_
                          rintro e w13 ⟨rfl, rfl⟩
                          go_wp2_with fail
                          refine HG2.out.mono ?_
                          rintro e w13 ⟨rfl, rfl⟩
                          go_wp2_with fail
                          refine HP1.out.mono ?_
                          rintro e w13 ⟨rfl, rfl⟩
                          go_wp2_with fail
                          refine HP2.out.mono ?_
                          rintro e w13 ⟨rfl, rfl⟩
                          clear HG1 HG2 HP1 HP2
                          go_wp2_with fail
                          refine (awake11_any _).mono ?_
                          rintro e w14 ⟨rfl, hk⟩
                          have HK9 := Lib.hid (HF9.out.d.kp.trans hk)
                          clear hk HF9
                          go_wp2_with fail
                          go_ret
                          exact ⟨rfl, HK9.out⟩
                        · obtain rfl : u1 = .iface 37 (.pointer (some ⟨q1, 0, none⟩)) := Hu1.out.symm
                          obtain rfl : u3 = .iface 37 (.pointer (some ⟨q3, 0, none⟩)) := Hu3.out.symm
                          as_aux_lemma =>
                          clear HJ Hu1 Hu3
                          go_wp2_with fail
                          refine (all_at HF.out.d.c HQ.out).mono ?_
                          rintro e w5 ⟨gc, rfl, hR2, hk⟩
                          have HF2 := Lib.hid (HF.out.kept hk)
                          have HR2 := Lib.hid (HR1.out.kept hk)
                          have HRC := Lib.hid hR2
                          clear hk hR2 HF HR1
                          go_wp2_with fail
                          refine (same_at _ _ _ _ s'.xs Q _ HR2.out HRC.out HQ.out (by omega)).mono ?_
                          rintro e w6 ⟨rfl, hk⟩
                          have HF3 := Lib.hid (HF2.out.kept hk)
                          have HR3 := Lib.hid (HR2.out.kept hk)
                          clear hk HF2 HR2 HRC
                          have hst := done_step (kdOf 1 v) HG.out HF3.out.a.at HF3.out.d.b (by have n1 := HF3.out.d.n1; have n2 := HF3.out.a.box; omega) HRE.out.inv2 HRE.out.don
                          have HST := Lib.hid hst
                          clear hst
                          go_wp2_with fail
                          refine HST.out.mono ?_
                          rintro e w7 ⟨rfl, hk⟩
                          have HF4 := Lib.hid (HF3.out.kept hk)
                          have HR4 := Lib.hid (HR3.out.kept hk)
                          clear hk HF3 HR3 HST
                          have hst := done_step (kdOf 1 v) HG.out HF4.out.b.at HF4.out.d.c (by have n1 := HF4.out.d.n1; have n2 := HF4.out.b.box; have n3 := HBB.out; have n4 := HBC.out; omega) HRE.out.inv2 HRE.out.don
                          have HST := Lib.hid hst
                          clear hst
                          go_wp2_with fail
                          refine HST.out.mono ?_
                          rintro e w8 ⟨rfl, hk⟩
                          have HF5 := Lib.hid (HF4.out.kept hk)
                          have HR5 := Lib.hid (HR4.out.kept hk)
                          clear hk HF4 HR4 HST
                          go_wp2_with fail
                          refine (all_at HF5.out.d.b HQ.out).mono ?_
                          rintro e w9 ⟨gd, rfl, hR2, hk⟩
                          have HF6 := Lib.hid (HF5.out.kept hk)
                          have HR6 := Lib.hid (HR5.out.kept hk)
                          have HRC := Lib.hid hR2
                          clear hk hR2 HF5 HR5
                          go_wp2_with fail
                          refine (same_at _ _ _ _ s'.xs Q _ HR6.out HRC.out HQ.out (by omega)).mono ?_
                          rintro e w10 ⟨rfl, hk⟩
                          have HF7 := Lib.hid (HF6.out.kept hk)
                          have HR7 := Lib.hid (HR6.out.kept hk)
                          clear hk HF6 HR6 HRC
                          go_wp2_with fail
                          refine (all_at HF7.out.d.c HQ.out).mono ?_
                          rintro e w11 ⟨ge, rfl, hR2, hk⟩
                          have HF8 := Lib.hid (HF7.out.kept hk)
                          have HR8 := Lib.hid (HR7.out.kept hk)
                          have HRC := Lib.hid hR2
                          clear hk hR2 HF7 HR7
                          go_wp2_with fail
                          refine (same_at _ _ _ _ s'.xs Q _ HR8.out HRC.out HQ.out (by omega)).mono ?_
                          rintro e w12 ⟨rfl, hk⟩
                          have HF9 := Lib.hid (HF8.out.kept hk)
                          clear hk HF8 HR8 HRC
                          have hg1 := pop_got HF9.out.a.Q
                          have hg2 := pop_got HF9.out.b.Q
                          obtain ⟨tx, htx⟩ : ∃ x, (took (mOf 1 1 s')).1 = x := ⟨_, rfl⟩
                          obtain ⟨tg, htg⟩ : ∃ x, (took (mOf 1 1 s')).2 = x := ⟨_, rfl⟩
                          rw [htx, htg] at hg1 hg2
                          have hp1 := push_ok2 HF9.out.a.P
                          have hp2 := push_ok2 HF9.out.b.P
                          obtain ⟨pk, hpk⟩ : ∃ x, ((mOf 1 0 s').done && (mOf 1 0 s').got) = x := ⟨_, rfl⟩
                          rw [hpk] at hp1 hp2
                          have HG1 := Lib.hid hg1
                          have HG2 := Lib.hid hg2
                          have HP1 := Lib.hid hp1
                          have HP2 := Lib.hid hp2
                          have z1 : (pk == pk) = true := by simp
                          have z2 : (tx == tx) = true := by simp
                          have z3 : (tg == tg) = true := by simp
                          clear hg1 hg2 hp1 hp2 htx htg hpk
                          go_wp2_with fail
                          refine HG1.out.mono ?_
                          rintro e w13 ⟨rfl, rfl⟩
                          go_wp2_with fail
                          refine HG2.out.mono ?_
                          rintro e w13 ⟨rfl, rfl⟩
                          go_wp2_with fail
                          refine HP1.out.mono ?_
                          rintro e w13 ⟨rfl, rfl⟩
                          go_wp2_with fail
                          refine HP2.out.mono ?_
                          rintro e w13 ⟨rfl, rfl⟩
                          clear HG1 HG2 HP1 HP2
                          go_wp2_with fail
                          refine (awake11_any _).mono ?_
                          rintro e w14 ⟨rfl, hk⟩
                          have HK9 := Lib.hid (HF9.out.d.kp.trans hk)
                          clear hk HF9
                          go_wp2_with fail
                          go_ret
                          exact ⟨rfl, HK9.out⟩
                        · obtain rfl : u1 = .iface 38 (.pointer (some ⟨t1, 0, none⟩)) := Hu1.out.symm
                          obtain rfl : u3 = .iface 38 (.pointer (some ⟨t3, 0, none⟩)) := Hu3.out.symm
                          as_aux_lemma =>
                          clear HJ Hu1 Hu3
                          go_wp2_with fail
                          refine (all_at HF.out.d.c HQ.out).mono ?_
                          rintro e w5 ⟨gc, rfl, hR2, hk⟩
                          have HF2 := Lib.hid (HF.out.kept hk)
                          have HR2 := Lib.hid (HR1.out.kept hk)
                          have HRC := Lib.hid hR2
                          clear hk hR2 HF HR1
                          go_wp2_with fail
                          refine (same_at _ _ _ _ s'.xs Q _ HR2.out HRC.out HQ.out (by omega)).mono ?_
                          rintro e w6 ⟨rfl, hk⟩
                          have HF3 := Lib.hid (HF2.out.kept hk)
                          have HR3 := Lib.hid (HR2.out.kept hk)
                          clear hk HF2 HR2 HRC
                          have hst := done_step (kdOf 2 v) HG.out HF3.out.a.at HF3.out.d.b (by have n1 := HF3.out.d.n1; have n2 := HF3.out.a.box; omega) HRE.out.inv2 HRE.out.don
                          have HST := Lib.hid hst
                          clear hst
                          go_wp2_with fail
                          refine HST.out.mono ?_
                          rintro e w7 ⟨rfl, hk⟩
                          have HF4 := Lib.hid (HF3.out.kept hk)
                          have HR4 := Lib.hid (HR3.out.kept hk)
                          clear hk HF3 HR3 HST
                          have hst := done_step (kdOf 2 v) HG.out HF4.out.b.at HF4.out.d.c (by have n1 := HF4.out.d.n1; have n2 := HF4.out.b.box; have n3 := HBB.out; have n4 := HBC.out; omega) HRE.out.inv2 HRE.out.don
                          have HST := Lib.hid hst
                          clear hst
                          go_wp2_with fail
                          refine HST.out.mono ?_
                          rintro e w8 ⟨rfl, hk⟩
                          have HF5 := Lib.hid (HF4.out.kept hk)
                          have HR5 := Lib.hid (HR4.out.kept hk)
                          clear hk HF4 HR4 HST
                          go_wp2_with fail
                          refine (all_at HF5.out.d.b HQ.out).mono ?_
                          rintro e w9 ⟨gd, rfl, hR2, hk⟩
                          have HF6 := Lib.hid (HF5.out.kept hk)
                          have HR6 := Lib.hid (HR5.out.kept hk)
                          have HRC := Lib.hid hR2
                          clear hk hR2 HF5 HR5
                          go_wp2_with fail
                          refine (same_at _ _ _ _ s'.xs Q _ HR6.out HRC.out HQ.out (by omega)).mono ?_
                          rintro e w10 ⟨rfl, hk⟩
                          have HF7 := Lib.hid (HF6.out.kept hk)
                          have HR7 := Lib.hid (HR6.out.kept hk)
                          clear hk HF6 HR6 HRC
                          go_wp2_with fail
                          refine (all_at HF7.out.d.c HQ.out).mono ?_
                          rintro e w11 ⟨ge, rfl, hR2, hk⟩
                          have HF8 := Lib.hid (HF7.out.kept hk)
                          have HR8 := Lib.hid (HR7.out.kept hk)
                          have HRC := Lib.hid hR2
                          clear hk hR2 HF7 HR7
                          go_wp2_with fail
                          refine (same_at _ _ _ _ s'.xs Q _ HR8.out HRC.out HQ.out (by omega)).mono ?_
                          rintro e w12 ⟨rfl, hk⟩
                          have HF9 := Lib.hid (HF8.out.kept hk)
                          clear hk HF8 HR8 HRC
                          have hg1 := pop_got HF9.out.a.Q
                          have hg2 := pop_got HF9.out.b.Q
                          obtain ⟨tx, htx⟩ : ∃ x, (took (mOf 2 1 s')).1 = x := ⟨_, rfl⟩
                          obtain ⟨tg, htg⟩ : ∃ x, (took (mOf 2 1 s')).2 = x := ⟨_, rfl⟩
                          rw [htx, htg] at hg1 hg2
                          have hp1 := push_ok2 HF9.out.a.P
                          have hp2 := push_ok2 HF9.out.b.P
                          obtain ⟨pk, hpk⟩ : ∃ x, ((mOf 2 0 s').done && (mOf 2 0 s').got) = x := ⟨_, rfl⟩
                          rw [hpk] at hp1 hp2
                          have HG1 := Lib.hid hg1
                          have HG2 := Lib.hid hg2
                          have HP1 := Lib.hid hp1
                          have HP2 := Lib.hid hp2
                          have z1 : (pk == pk) = true := by simp
                          have z2 : (tx == tx) = true := by simp
                          have z3 : (tg == tg) = true := by simp
                          clear hg1 hg2 hp1 hp2 htx htg hpk
                          go_wp2_with fail
                          refine HG1.out.mono ?_
                          rintro e w13 ⟨rfl, rfl⟩
                          go_wp2_with fail
                          refine HG2.out.mono ?_
                          rintro e w13 ⟨rfl, rfl⟩
                          go_wp2_with fail
                          refine HP1.out.mono ?_
                          rintro e w13 ⟨rfl, rfl⟩
                          go_wp2_with fail
                          refine HP2.out.mono ?_
                          rintro e w13 ⟨rfl, rfl⟩
                          clear HG1 HG2 HP1 HP2
                          go_wp2_with fail
                          refine (awake11_any _).mono ?_
                          rintro e w14 ⟨rfl, hk⟩
                          have HK9 := Lib.hid (HF9.out.d.kp.trans hk)
                          clear hk HF9
                          go_wp2_with fail
                          go_ret
                          exact ⟨rfl, HK9.out⟩
end Go.Proofs.Ytdgkemadhooogaa
