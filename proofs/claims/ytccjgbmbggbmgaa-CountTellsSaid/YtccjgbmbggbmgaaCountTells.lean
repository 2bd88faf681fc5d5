/- The law CountTells. -/
import Derived.Test.YtccjgbmbggbmgaaRefStep13
import Derived.Test.YtccjgbmbggbmgaaBankAll
import Derived.Test.YtccjgbmbggbmgaaSame11
namespace Go.Proofs.Ytccjgbmbggbmgaa
set_option linter.unusedVariables false
open Go.RowKit

theorem rb_ne {w : World} {gm cap bb g : Nat} {xs ys : List Int} (h : RB w gm cap xs) (hb : Bnk w bb g ys) : ¬ gm = g := by
  intro e
  subst e
  rcases h.2 with ⟨h1, _⟩ | ⟨g', cap', cur, hv, _, hh, _⟩
  · cases h1
  · cases hv
    have := hh.symm.trans hb.row
    simp at this
theorem rb_rd {w : World} {g cap : Nat} {xs : List Int} (h : RB w g cap xs) : Rd w (some ⟨g, 0, none⟩) (xs.map (Value.int .i64)) := by
  refine .inr ⟨g, 0, rfl, fun i u hu => ?_⟩
  rw [List.getElem?_map] at hu
  obtain ⟨x, hx, rfl⟩ := Option.map_eq_some_iff.1 hu
  obtain ⟨hi, rfl⟩ := List.getElem?_eq_some_iff.1 hx
  rw [Nat.zero_add, h.cell hi]
  simp [hi]
theorem cop_of {e : List Value} (hf : fits [some .u8, some .i64, none] e) : ∃ x n again, e = [.int .u8 x, .int .i64 n, .bool again] ∧ 0 ≤ x ∧ x ≤ 255 := by
  obtain ⟨x1, u1, e1, h1, f1⟩ := fits_int hf
  obtain ⟨x2, u2, e2, h2, f2⟩ := fits_int f1
  obtain ⟨x3, u3, e3, f3⟩ := fits_bool f2
  exact ⟨x1, x2, x3, by rw [e1, e2, e3, fits_nil f3], (bounds_u8 h1).1, (bounds_u8 h1).2⟩
theorem flat40 : flatB Try.prog 40 [some .u8, some .i64, none] = true := by kernel_rfl
theorem rb_new (W : World) : RB (W.alloc (.cells (zeros 15 (.int .i64 0)) 2)) W.heap.size 15 (cnt 0 0) := by
  have := World.ownsRow_lit (base := 0) (e := 2) (size := 1) W (zeros 15 (.int .i64 0)) 15 (Nat.zero_le _) (by unfold maxLen; omega) (by simp [zeros])
  exact this
theorem rb_newAt (W : World) (k : Nat) (h : k = W.heap.size) : RB (W.alloc (.cells (zeros 15 (.int .i64 0)) 2)) k 15 (cnt 0 0) := by subst h; exact rb_new W
def RefZ (z : Bool) (p a : Int) (w : World) (e : Ending) (w' : World) : Prop := ∃ g cap, e = .returned (.tuple #[.slice (some ⟨g, 0, none⟩) 15 cap, .bool z]) ∧ RB w' g cap (cnt p a) ∧ Kept w w'
theorem refStep_z {k n p a p' a' : Int} {z : Bool} (hk0 : 0 ≤ k) (hk1 : k < 5) (hz : telK k n p a = z) (hp : penK k n p = p') (ha : askK k a = a') {w : World} {g cap : Nat} (hr : RB w g cap (cnt p a)) :
    Calls Try.prog 22 #[.int .i64 k, .int .i64 n, .agg #[.int .i64 2, .int .i64 1, .int .i64 1, .int .i64 2, .int .i64 0, .int .i64 1, .int .i64 3, .int .i64 5, .int .i64 7, .int .i64 8, .int .i64 9, .int .i64 10, .int .i64 11, .int .i64 15], .slice (some ⟨g, 0, none⟩) 15 cap] w (RefZ z p' a' w) := by
  subst hz hp ha; exact refStep_any k hk0 hk1 n p a hr
def OneZ (bb g : Nat) (z : Bool) (p a : Int) (w : World) (e : Ending) (w' : World) : Prop := e = .returned (.tuple #[.bool false, .bool true, .bool z]) ∧ Bnk w' bb g (cnt p a) ∧ Upd (fun k => k = g) w w'
theorem one_z {k n p a p' a' : Int} {z : Bool} (hk0 : 0 ≤ k) (hk1 : k < 5) (hz : telK k n p a = z) (hp : penK k n p = p') (ha : askK k a = a') (again : Bool) {w : World} {bb g : Nat} (hb : Bnk w bb g (cnt p a)) :
    Calls Try.prog 15 #[.int .i64 k, .int .i64 n, .agg #[.int .i64 2, .int .i64 1, .int .i64 1, .int .i64 2, .int .i64 0, .int .i64 1, .int .i64 3, .int .i64 5, .int .i64 7, .int .i64 8, .int .i64 9, .int .i64 10, .int .i64 11, .int .i64 15], .pointer (some ⟨bb, 0, none⟩), .bool again] w (OneZ bb g z p' a' w) := by
  subst hz hp ha; exact one_any k hk0 hk1 n p a again hb
def AllCnt (p a : Int) (w : World) (e : Ending) (w' : World) : Prop := ∃ g3, e = .returned (.slice (some ⟨g3, 0, none⟩) 15 15) ∧ Rd w' (some ⟨g3, 0, none⟩) ((cnt p a).map (Value.int .i64)) ∧ Kept w w'
theorem all_cnt {w : World} {bb g : Nat} {p a : Int} (h : Bnk w bb g (cnt p a)) :
    Calls Try.prog 24 #[.pointer (some ⟨bb, 0, none⟩)] w (AllCnt p a w) := by
  refine (All_bank h).mono ?_
  rintro e w' ⟨_, rfl, ⟨g3, rfl, hI, hg3⟩, hk⟩
  exact ⟨g3, rfl, Rd.blk hI, hk⟩
theorem same_cnt {w : World} {a a' : Option Addr} {c c' : Nat} {p q : Int} (hx : Rd w a ((cnt p q).map (Value.int .i64))) (hy : Rd w a' ((cnt p q).map (Value.int .i64))) :
    Calls Try.prog 23 #[.slice a 15 c, .slice a' 15 c'] w fun e w' => e = .returned (.bool true) ∧ Kept w w' := by
  refine (longs_same a a' c c' (cnt p q) (cnt p q) w hx hy (by simp [cnt]) (by simp [cnt])).mono ?_
  rintro e w' ⟨rfl, hk⟩
  exact ⟨by simp, hk⟩

set_option maxRecDepth 100000 in
set_option maxHeartbeats 4000000 in
theorem countTells_core (a : Option Addr) (cap0 : Nat) (els : List (List Value)) (w : World) (hlen : els.length ≤ cap0) (hmost : cap0 ≤ maxLen)
    (hcells : els.length = 0 ∨ ∃ b off, a = some ⟨b, off, none⟩ ∧ ∀ i (h : i < els.length) j v, els[i][j]? = some v → w.cell? ⟨b, off + i * 3 + j, none⟩ = some v) (hfit : ∀ e ∈ els, fits [some .u8, some .i64, none] e) :
    Calls Try.prog 6 #[.slice a els.length cap0] w fun e w' => e = .returned (.bool true) ∧ Kept w w' := by
  have HP := fun w => Lib.hid (bank_any w)
  obtain ⟨M, hM⟩ : ∃ M, M = min els.length 150 := ⟨_, rfl⟩
  have hM1 : M ≤ els.length := by omega
  have hM2 : M ≤ 150 := by omega
  have hmk : ∀ w : World, (Instr.makeSlice 52 (.int .i64 15) (.int .i64 15)).run Try.prog w = .ok (.slice (some ⟨w.heap.size, 0, none⟩) 15 15) (w.alloc (.cells (zeros 15 (.int .i64 0)) 2)) := fun w => make_one (P := Try.prog) (t := 52) (e := 2) (z := .int .i64 0) (v := .int .i64 0) (bytes := 8) Try.underlying52 (by kernel_rfl) rfl .i64 15 (by omega) (by omega) w
  have hsl := fun w => run_take (P := Try.prog) Try.underlying38 (size := 3) (by kernel_rfl) a els.length cap0 M (by omega) w
  have hif1 : (if (150 : Int) < (els.length : Int) then (150 : Int) else (els.length : Int)) = (M : Int) := by split <;> omega
  have hif2 : (if 150 < els.length then (150 : Int) else (els.length : Int)) = (M : Int) := by split <;> omega
  unfold maxLen at hmost
  have HC := Lib.hid hcells
  have HF := Lib.hid hfit
  clear hcells hfit hM
  go_enter Try.func6, Try.ntmps6
  go_wp2_with fail
  refine (HP _).out.mono ?_
  rintro e w1 ⟨bb, g, rfl, hB, hbb, hg, hk⟩
  have S0 := Lib.hid (CS.of hB hg hk)
  clear hB hbb hg hk HP
  generalize hpb : w1.heap.size = pb at S0
  simp only [lv] at S0 ⊢
  go_wp2_with fail
  go_loopw [6, 29] (fun y x wr => ∃ (k gm cap : Nat) (p q : Int), x = .int .i64 k ∧ k ≤ M ∧ y = .slice (some ⟨gm, 0, none⟩) 15 cap ∧ Hid (CS w bb g pb (cnt p q) wr) ∧ Hid (RB wr gm cap (cnt p q))) (fun _ x _ => M - (intOf x).toNat)
  case atStart => exact ⟨0, _, 15, 0, 0, rfl, by omega, rfl, Lib.hid (S0.out.alloc _), Lib.hid (rb_newAt _ _ (by simp [hpb]))⟩
  case round =>
    obtain ⟨k, gm, cap, p, q, rfl, hk0, rfl, S1, R1⟩ := hrel
    clear S0 hpb
    by_cases hlt : k < M
    · as_aux_lemma =>
        obtain ⟨b, off, rfl, hcs⟩ := HC.out.resolve_left (by omega)
        obtain ⟨x, n, again, hel, hx0, hx1⟩ := cop_of (HF.out (els[k]'(by omega)) (List.getElem_mem _))
        have hc := fun j v (h : (els[k]'(by omega))[j]? = some v) => (S1.out.kp.cells _ (by rw [hcs k (by omega) j v h]; rfl) (fun f => f)).trans (hcs k (by omega) j v h)
        rw [hel] at hc
        have c0 : wr.cell? ⟨b, off + k * 3, none⟩ = some (.int .u8 x) := hc 0 _ rfl
        have c1 : wr.cell? ⟨b, off + k * 3 + 1, none⟩ = some (.int .i64 n) := hc 1 _ rfl
        have c2 : wr.cell? ⟨b, off + k * 3 + 2, none⟩ = some (.bool again) := hc 2 _ rfl
        clear hc hel hcs
        have q0 : 0 ≤ x % 5 := Int.emod_nonneg _ (by omega)
        have q1 : x % 5 < 5 := Int.emod_lt_of_pos _ (by omega)
        obtain ⟨z, hz⟩ : ∃ z, telK (x % 5) n p q = z := ⟨_, rfl⟩
        obtain ⟨p', hp⟩ : ∃ p', penK (x % 5) n p = p' := ⟨_, rfl⟩
        obtain ⟨q', hq⟩ : ∃ q', askK (x % 5) q = q' := ⟨_, rfl⟩
        have HRS := fun gm cap w (hr : RB w gm cap (cnt p q)) => Lib.hid (refStep_z q0 q1 hz hp hq hr)
        have HON := fun w (hb : Bnk w bb g (cnt p q)) => Lib.hid (one_z q0 q1 hz hp hq again hb)
        have hzz : (z != z) = false := by cases z <;> rfl
        have S1c := S1.out.box.cell
        have S1l := Blk.lt S1.out.box
        clear hz hp hq
        go_wp2_with fail
        refine (HRS _ _ _ (R1.out.kept ((Upd.refl _ _).alloc _))).out.mono ?_
        rintro e w2 ⟨gn, capn, rfl, hR, hk⟩
        have hO := (Blk.new wr #[.int .u8 x, .int .i64 n, .bool again] 40).kept hk
        have o0 : w2.cell? ⟨wr.heap.size, 0, none⟩ = some (.int .u8 x) := by rw [hO.cell]; rfl
        have o1 : w2.cell? ⟨wr.heap.size, 1, none⟩ = some (.int .i64 n) := by rw [hO.cell]; rfl
        have o2 : w2.cell? ⟨wr.heap.size, 2, none⟩ = some (.bool again) := by rw [hO.cell]; rfl
        have S2 := Lib.hid ((S1.out.alloc (.cells #[.int .u8 x, .int .i64 n, .bool again] 40)).kept hk)
        have R2 := Lib.hid hR
        have S2c := S2.out.box.cell
        clear hO hR hk S1 R1 S1c S1l HRS c0 c1 c2
        go_wp2_with fail
        refine (HON _ S2.out.bank).out.mono ?_
        rintro e w3 ⟨rfl, hB, hU⟩
        have R3 := Lib.hid (R2.out.upd hU (rb_ne R2.out S2.out.bank))
        have S3 := Lib.hid (S2.out.acc hB hU)
        clear hB hU S2 R2 S2c HON o0 o1 o2
        go_wp2_with fail
        refine (all_cnt S3.out.bank).mono ?_
        rintro e w4 ⟨g3, rfl, hr, hk⟩
        have A4 := Lib.hid hr
        have S4 := Lib.hid (S3.out.kept hk)
        have R4 := Lib.hid (R3.out.kept hk)
        clear hr hk S3 R3
        go_wp2_with fail
        refine (same_cnt A4.out (rb_rd R4.out)).mono ?_
        rintro e w5 ⟨rfl, hk⟩
        have S5 := Lib.hid (S4.out.kept hk)
        have R5 := Lib.hid (R4.out.kept hk)
        clear hk S4 R4 A4
        go_wp2_with fail
        go_roundw
        case rel => exact ⟨k + 1, gn, capn, p', q', by go_num, by omega, rfl, S5, R5⟩
        case measure => simp [intOf]; omega
    · go_wp2_with fail
      refine (awake_any _).mono ?_
      rintro e w5 ⟨rfl, hk5⟩
      go_wp2
      go_ret
      exact ⟨rfl, S1.out.kp.trans hk5⟩
theorem countTells_walk (a : Option Addr) (cap : Nat) (els : List (List Value)) (w : World) (h : FlatRow [some .u8, some .i64, none] w a cap els) (_hf : ∀ x ∈ els, fits [some .u8, some .i64, none] x) :
    Calls Try.prog 6 #[.slice a els.length cap] w fun e w' => e = .returned (.bool true) ∧ Kept w w' :=
  countTells_core a cap els w h.le h.most h.cells h.fit
end Go.Proofs.Ytccjgbmbggbmgaa
