/- The law BarrierTells. -/
import Derived.Test.YtghlpapljjcaeaaRows14
import Derived.Test.YtghlpapljjcaeaaRowsRd
import Derived.Deep.CutRange
import Derived.Deep.RegionHeld3
namespace Go.Proofs.Ytghlpapljjcaeaa
set_option linter.unusedVariables false
open Go.RowKit

theorem newArr (n s : Nat) (w : World) : Calls Try.prog 13 #[.agg #[.int .i64 2, .int .i64 1, .int .i64 (n : Int), .int .i64 2, .int .i64 0, .int .i64 1, .int .i64 3, .int .i64 5, .int .i64 7, .int .i64 8, .int .i64 9, .int .i64 10, .int .i64 11, .int .i64 (s : Int)]] w fun e w' => e = .returned (.agg #[.int .i64 2, .int .i64 1, .int .i64 (n : Int), .int .i64 2, .int .i64 0, .int .i64 1, .int .i64 3, .int .i64 5, .int .i64 7, .int .i64 8, .int .i64 9, .int .i64 10, .int .i64 11, .int .i64 (s : Int), .int .u8 0, .int .i64 0, .bool false]) ∧ Kept w w' := NewArrive_any n s w
def zmach : Array Value := ((List.replicate 9 [.int .i64 0, .int .i64 0, .int .i64 0, .int .i64 0, .int .i64 0, .int .i64 0, .int .i64 0, .int .i64 0, .int .i64 0, .int .i64 0, .int .i64 0, .int .i64 0, .int .i64 0, .int .i64 0, .int .u8 0, .int .i64 0, .bool false]).flatten).toArray
def zrefs : Array Value := ((List.replicate 9 [.int .i64 0, .int .i64 0, .bool false, .bool false]).flatten).toArray
theorem mk_mach (w : World) : (Instr.makeSlice 30 (.int .i64 9) (.int .i64 9)).run Try.prog w = .ok (.slice (some ⟨w.heap.size, 0, none⟩) 9 9) (w.alloc (.cells zmach 46)) := by kernel_rfl
theorem mk_refs (w : World) : (Instr.makeSlice 43 (.int .i64 9) (.int .i64 9)).run Try.prog w = .ok (.slice (some ⟨w.heap.size, 0, none⟩) 9 9) (w.alloc (.cells zrefs 49)) := by kernel_rfl
theorem zmach_rows {W : World} {b : Nat} (h : Blk W b zmach 46) : Rows W b 17 46 (List.replicate 9 [.int .i64 0, .int .i64 0, .int .i64 0, .int .i64 0, .int .i64 0, .int .i64 0, .int .i64 0, .int .i64 0, .int .i64 0, .int .i64 0, .int .i64 0, .int .i64 0, .int .i64 0, .int .i64 0, .int .u8 0, .int .i64 0, .bool false]) := ⟨h, fun l hl => by rw [(List.mem_replicate.1 hl).2]; rfl⟩
theorem zrefs_rows {W : World} {b : Nat} (h : Blk W b zrefs 49) : Rows W b 4 49 (rrows (List.replicate 9 ⟨0, 0, false, false⟩)) := ⟨h, fun l hl => by
  obtain ⟨r, _, rfl⟩ := List.mem_map.1 hl
  rfl⟩
theorem rep_at {α : Type} (F Z : α) (i : Nat) (hi : i < 9) : (List.replicate i F ++ List.replicate (9 - i) Z)[i]? = some Z := by
  rw [List.getElem?_append_right (by simp), List.length_replicate, List.getElem?_replicate, if_pos (by omega)]
theorem rep_set {α : Type} (F Z : α) (i : Nat) (hi : i < 9) : (List.replicate i F ++ List.replicate (9 - i) Z).set i F = List.replicate (i + 1) F ++ List.replicate (9 - (i + 1)) Z := by
  rw [List.set_append_right _ _ (by simp)]
  have e : 9 - i = (9 - (i + 1)) + 1 := by omega
  rw [e, List.replicate_succ]
  simp [List.replicate_succ']
theorem last_of {w : World} {mb : Nat} {n s : Int} {ms : List MS} {m : MS} {z : Bool} (i : Nat) (hi : ms[i]? = some m) (hl : m.last = z) (hm : Mach w mb n s ms) :
    Calls Try.prog 16 #[.pointer (some ⟨mb, i * 17, none⟩)] w fun e w' => e = .returned (.bool z) ∧ w = w' := by
  subst hl
  obtain ⟨nx, own, last⟩ := m
  exact last_any i (i * 17) rfl hi hm
theorem all_len {w : World} {bb g s : Nat} {L : List Int} {c q : Int} (h : Bnk w bb g (bq L c q)) (hl : L.length = s) :
    Calls Try.prog 18 #[.pointer (some ⟨bb, 0, none⟩)] w fun e w' => ∃ g3, e = .returned (.slice (some ⟨g3, 0, none⟩) s s) ∧ Blk w' g3 ((bq L c q).map (Value.int .i64)).toArray 2 ∧ Kept w w' := by
  refine (All_bank h).mono ?_
  rintro e w' ⟨_, rfl, ⟨g3, rfl, hI, hg3⟩, hk⟩
  exact ⟨g3, by rw [bq_len, hl], hI, hk⟩
theorem same_len (a a' : Option Addr) (c c' : Nat) (xs : List Int) (n : Nat) (w : World) (hn : xs.length = n) (hm : n ≤ 1000000000) (hx : Rd w a (xs.map (Value.int .i64))) (hy : Rd w a' (xs.map (Value.int .i64))) :
    Calls Try.prog 17 #[.slice a n c, .slice a' n c'] w fun e w' => e = .returned (.bool true) ∧ Kept w w' := by
  subst hn
  refine (longs_same a a' c c' xs xs w hx hy hm hm).mono ?_
  rintro e w' ⟨rfl, hk⟩
  exact ⟨by simp, hk⟩
theorem rb_rd {w : World} {g cap : Nat} {xs : List Int} (h : RB w g cap xs) : Rd w (some ⟨g, 0, none⟩) (xs.map (Value.int .i64)) := by
  obtain ⟨a, c, e, hr⟩ := Rd.owns h
  cases e
  exact hr
/-- What the first drawn region keeps. -/
structure RZ (w2 : World) (pb : Nat) (lv : Array Value) (W : World) : Prop where
  box : Blk W pb lv 28
  kp : Kept w2 W
theorem RZ.kept {w2 W W' : World} {pb : Nat} {lv : Array Value} (h : RZ w2 pb lv W) (hk : Kept W W') : RZ w2 pb lv W' := ⟨h.box.kept hk, h.kp.trans hk⟩
theorem rb_made (W : World) (s : Nat) (hs : s ≤ 1000) : RB (W.alloc (.cells (zeros s (.int .i64 0)) 2)) W.heap.size s (List.replicate s 0) := by
  have := World.ownsRow_lit (base := 0) (e := 2) (size := 1) W (zeros s (.int .i64 0)) s (Nat.zero_le _) (by unfold maxLen; omega) (by simp [zeros])
  unfold RB
  simpa [zeros] using this
/-- What the law holds but for the machines. -/
structure T0 (w : World) (pb bb g gm cap n s : Nat) (L : List Int) (c q cm qm : Int) (W : World) : Prop where
  box : Blk W pb #[.int .i64 2, .int .i64 1, .int .i64 (n : Int), .int .i64 2, .int .i64 0, .int .i64 1, .int .i64 3, .int .i64 5, .int .i64 7, .int .i64 8, .int .i64 9, .int .i64 10, .int .i64 11, .int .i64 (s : Int)] 28
  bank : Bnk W bb g (bq L c q)
  mem : RB W gm cap (bq L cm qm)
  kp : Kept w W
  len : L.length = s
  n1 : w.heap.size ≤ g
  n2 : ¬ pb = g
  n4 : ¬ gm = g
theorem T0.kept {w W W' : World} {pb bb g gm cap n s : Nat} {L : List Int} {c q cm qm : Int} (h : T0 w pb bb g gm cap n s L c q cm qm W) (hk : Kept W W') : T0 w pb bb g gm cap n s L c q cm qm W' := ⟨h.box.kept hk, h.bank.kept hk, h.mem.kept hk, h.kp.trans hk, h.len, h.n1, h.n2, h.n4⟩

set_option maxRecDepth 100000 in
set_option maxHeartbeats 8000000 in
theorem barrierTells_walk (a0 : Int) (s1 : Option Addr) (cap1 : Nat) (z1 : List Int) (w : World) (w0 : (Lit.int .u8 a0).wf = true) (h1 : IntRow .u8 w s1 cap1 z1) (m1 : ∀ n ∈ z1, (Lit.int .u8 n).wf = true) :
    Calls Try.prog 5 #[.int .u8 a0, .slice s1 z1.length cap1] w fun e w' => e = .returned (.bool true) ∧ Kept w w' := by
  have w0 := bounds_u8 w0
  obtain ⟨n, hn⟩ := Int.eq_ofNat_of_zero_le (show 0 ≤ 1 + a0 % 8 by omega)
  have hn1 : 1 ≤ n := by omega
  have hn2 : n ≤ 8 := by omega
  obtain ⟨s, hs⟩ : ∃ s, s = 11 + n * 4 := ⟨_, rfl⟩
  have HP := fun w => Lib.hid (bank_any n s hn1 (by omega) hs w)
  have hs9 : s ≤ 43 := by omega
  have hs10 : 15 ≤ s := by omega
  obtain ⟨M, hM⟩ : ∃ M, M = min z1.length 200 := ⟨_, rfl⟩
  have hM1 : M ≤ z1.length := by omega
  have hM2 : M ≤ 200 := by omega
  have hle := h1.le
  have hmost := h1.most
  have hsl := fun w => run_take (P := Try.prog) Try.underlying22 (size := 1) (by kernel_rfl) s1 z1.length cap1 M (by omega) w
  have hmk := fun w => make_one (P := Try.prog) (t := 41) (e := 2) (z := .int .i64 0) (v := .int .i64 0) (bytes := 8) Try.underlying41 (by kernel_rfl) rfl .i64 s (by omega) (by omega) w
  have hif1 : (if (200 : Int) < (z1.length : Int) then (200 : Int) else (z1.length : Int)) = (M : Int) := by split <;> omega
  have hif2 : (if 200 < z1.length then (200 : Int) else (z1.length : Int)) = (M : Int) := by split <;> omega
  unfold maxLen at hmost
  have HR1 := Lib.hid h1.rd
  have HW1 := Lib.hid m1
  have HSL := Lib.hid hsl
  have HMK := Lib.hid hmk
  clear hM h1 m1 hsl hmk hs
  go_enter Try.func5, Try.ntmps5
  go_wp2_with fail
  refine (HP _).out.mono ?_
  rintro e w1 ⟨bb, g, rfl, hB, hbb, hg, hk⟩
  obtain ⟨pb, hpb⟩ : ∃ pb, w1.heap.size = pb := ⟨_, rfl⟩
  obtain ⟨w2, hw2⟩ : ∃ w2, w1.alloc (.cells #[.int .i64 2, .int .i64 1, .int .i64 (n : Int), .int .i64 2, .int .i64 0, .int .i64 1, .int .i64 3, .int .i64 5, .int .i64 7, .int .i64 8, .int .i64 9, .int .i64 10, .int .i64 11, .int .i64 (s : Int)] 28) = w2 := ⟨_, rfl⟩
  have HB2 : Hid (Bnk w2 bb g (bq (List.replicate s 0) n 0)) := Lib.hid (by rw [← hw2]; exact Bnk.kept (show Bnk w1 bb g (bq (List.replicate s 0) n 0) from hB) ((Upd.refl _ _).alloc _))
  have HK2 : Hid (Kept w w2) := Lib.hid (by rw [← hw2]; exact hk.alloc _)
  have HN2 : Hid (w.heap.size ≤ g ∧ ¬ pb = g ∧ g < w2.heap.size) := Lib.hid (by
    have h1 := hB.row.lt
    refine ⟨hg, by omega, ?_⟩
    rw [← hw2]; simp; omega)
  have HRZ : Hid (RZ w2 pb #[.int .i64 2, .int .i64 1, .int .i64 (n : Int), .int .i64 2, .int .i64 0, .int .i64 1, .int .i64 3, .int .i64 5, .int .i64 7, .int .i64 8, .int .i64 9, .int .i64 10, .int .i64 11, .int .i64 (s : Int)] w2) := Lib.hid ⟨by rw [← hw2]; exact Blk.newAt _ _ _ _ hpb.symm, Upd.refl _ _⟩
  have HPB := Lib.hid (And.intro hpb hw2)
  clear hB hk HP hbb hg hpb hw2
  go_upto_region 5 with (fail)
  rw [HPB.out.1, HPB.out.2]
  clear HPB hn w0
  refine wp_region_inv (fun l us W => ∃ (b0 b1 b2 b3 b4 b5 : Bool) (v28 v29 v30 v31 v32 v9 : Value) (g3 c3 g4 c4 : Nat), l = #[b0, b1, b2, b3, b4, b5] ∧ us = [v28, v29, v30, v31, v32, v9] ∧ Hid (RZ w2 pb #[.int .i64 2, .int .i64 1, .int .i64 (n : Int), .int .i64 2, .int .i64 0, .int .i64 1, .int .i64 3, .int .i64 5, .int .i64 7, .int .i64 8, .int .i64 9, .int .i64 10, .int .i64 11, .int .i64 (s : Int)] W) ∧
    Hid (b0 = true → v28 = .agg #[.int .i64 2, .int .i64 1, .int .i64 (n : Int), .int .i64 2, .int .i64 0, .int .i64 1, .int .i64 3, .int .i64 5, .int .i64 7, .int .i64 8, .int .i64 9, .int .i64 10, .int .i64 11, .int .i64 (s : Int)]) ∧
    Hid (b1 = true → v29 = .pointer (some ⟨pb, 13, none⟩)) ∧
    Hid (b2 = true → v30 = .int .i64 (s : Int)) ∧
    Hid (b3 = true → v31 = .slice (some ⟨g3, 0, none⟩) s c3 ∧ RF w2 W g3 c3 (List.replicate s 0)) ∧
    Hid (b4 = true → v32 = .slice (some ⟨g4, 0, none⟩) s c4 ∧ RF w2 W g4 c4 (bq (List.replicate s 0) n 0)) ∧
    Hid (b5 = true → v9 = .slice (some ⟨g4, 0, none⟩) s c4 ∧ b4 = true)) [28, 29, 30, 31, 32, 9] [undef, undef, undef, undef, undef, undef] (by kernel_rfl) (by kernel_rfl) (by simp only [putAll, Act.put, List.setIfInBounds_toArray, List.set_cons_zero, List.set_cons_succ]) ?_ ?_ ?_
  · exact ⟨false, false, false, false, false, false, _, _, _, _, _, _, 0, 0, 0, 0, rfl, rfl, Lib.hid (HRZ.out.kept (Upd.refl _ _).drew), Lib.hid (by simp), Lib.hid (by simp), Lib.hid (by simp), Lib.hid (by simp), Lib.hid (by simp), Lib.hid (by simp)⟩
  · rintro i l us W ⟨b0, b1, b2, b3, b4, b5, v28, v29, v30, v31, v32, v9, g3, c3, g4, c4, rfl, rfl, hI, h0, h1, h2, h3, h4, h5⟩ hr
    have hi : i = 0 ∨ i = 1 ∨ i = 2 ∨ i = 3 ∨ i = 4 ∨ i = 5 := by
      have := ready_lt hr
      simp at this
      omega
    rcases hi with rfl | rfl | rfl | rfl | rfl | rfl
    · skip
      obtain ⟨hn, hd⟩ := ready_at hr rfl
      simp [Region.binds] at hn hd
      refine wpOp_step rfl (fun K' hK => ?_)
      simp only [putAll, Act.put, List.setIfInBounds_toArray, List.set_cons_zero, List.set_cons_succ]
      have cb := hI.out.box.cell
      go_simp
      exact hK _ _ ⟨_, by simp only [putAll, Act.put, List.setIfInBounds_toArray, List.set_cons_zero, List.set_cons_succ], true, b1, b2, b3, b4, b5, _, _, _, _, _, _, g3, c3, g4, c4, rfl, rfl, hI, Lib.hid (fun _ => rfl), h1, h2, h3, h4, h5⟩
    · skip
      obtain ⟨hn, hd⟩ := ready_at hr rfl
      simp [Region.binds] at hn hd
      refine wpOp_step rfl (fun K' hK => ?_)
      simp only [putAll, Act.put, List.setIfInBounds_toArray, List.set_cons_zero, List.set_cons_succ]
      go_simp
      exact hK _ _ ⟨_, by simp only [putAll, Act.put, List.setIfInBounds_toArray, List.set_cons_zero, List.set_cons_succ], b0, true, b2, b3, b4, b5, _, _, _, _, _, _, g3, c3, g4, c4, rfl, rfl, hI, h0, Lib.hid (fun _ => rfl), h2, h3, h4, h5⟩
    · skip
      obtain ⟨hn, hd⟩ := ready_at hr rfl
      simp [Region.binds] at hn hd
      obtain rfl := h1.out (by simp [hd])
      refine wpOp_step rfl (fun K' hK => ?_)
      simp only [putAll, Act.put, List.setIfInBounds_toArray, List.set_cons_zero, List.set_cons_succ]
      have cb := hI.out.box.cell
      go_simp
      exact hK _ _ ⟨_, by simp only [putAll, Act.put, List.setIfInBounds_toArray, List.set_cons_zero, List.set_cons_succ], b0, b1, true, b3, b4, b5, _, _, _, _, _, _, g3, c3, g4, c4, rfl, rfl, hI, h0, h1, Lib.hid (fun _ => rfl), h3, h4, h5⟩
    · skip
      obtain ⟨hn, hd⟩ := ready_at hr rfl
      simp [Region.binds] at hn hd
      obtain rfl := h2.out (by simp [hd])
      refine wpOp_step rfl (fun K' hK => ?_)
      simp only [putAll, Act.put, List.setIfInBounds_toArray, List.set_cons_zero, List.set_cons_succ]
      have hmk := HMK.out
      go_simp
      have hk : Kept W (W.alloc (.cells (zeros s (.int .i64 0)) 2)) := (Upd.refl _ _).alloc _
      exact hK _ _ ⟨_, by simp only [putAll, Act.put, List.setIfInBounds_toArray, List.set_cons_zero, List.set_cons_succ], b0, b1, b2, true, b4, b5, _, _, _, _, _, _, W.heap.size, s, g4, c4, rfl, rfl, (Lib.hid (hI.out.kept hk)), h0, h1, h2, Lib.hid (fun _ => ⟨rfl, ⟨rb_made W s (by omega), hI.out.kp.size⟩⟩), Lib.hid (fun hb => ⟨(h4.out hb).1, (h4.out hb).2.kept hk⟩), h5⟩
    · skip
      obtain ⟨hn, hd⟩ := ready_at hr rfl
      simp [Region.binds] at hn hd
      obtain rfl := h0.out (by simp [hd])
      obtain ⟨rfl, hR3⟩ := h3.out (by simp [hd])
      refine wpOp_step rfl (fun K' hK => ?_)
      simp only [putAll, Act.put, List.setIfInBounds_toArray, List.set_cons_zero, List.set_cons_succ]
      go_simp
      refine (refReady n s hR3.rb (by simp) (by omega)).mono ?_
      rintro e w' ⟨gn, cn, rfl, hRn, hgn, hk⟩
      exact hK _ _ ⟨_, by simp only [putAll, Act.put, List.setIfInBounds_toArray, List.set_cons_zero, List.set_cons_succ], b0, b1, b2, b3, true, b5, _, _, _, _, _, v9, g3, c3, gn, cn, rfl, rfl, (Lib.hid (hI.out.kept hk)), h0, h1, h2, Lib.hid (fun hb => ⟨(h3.out hb).1, (h3.out hb).2.kept hk⟩), Lib.hid (fun _ => ⟨rfl, ⟨hRn, Nat.le_trans hI.out.kp.size hgn⟩⟩), Lib.hid (fun hb => (by have := (h5.out hb).2; rw [hn] at this; cases this))⟩
    · skip
      obtain ⟨hn, hd⟩ := ready_at hr rfl
      simp [Region.binds] at hn hd
      obtain ⟨rfl, hR4⟩ := h4.out (by simp [hd])
      refine wpOp_step rfl (fun K' hK => ?_)
      simp only [putAll, Act.put, List.setIfInBounds_toArray, List.set_cons_zero, List.set_cons_succ]
      go_simp
      exact hK _ _ ⟨_, by simp only [putAll, Act.put, List.setIfInBounds_toArray, List.set_cons_zero, List.set_cons_succ], b0, b1, b2, b3, b4, true, _, _, _, _, _, _, g3, c3, g4, c4, rfl, rfl, hI, h0, h1, h2, h3, h4, Lib.hid (fun _ => ⟨rfl, (by first  | simp [hd])⟩)⟩
  · rintro l us W ⟨b0, b1, b2, b3, b4, b5, v28, v29, v30, v31, v32, v9, g3, c3, g4, c4, rfl, rfl, hI, h0, h1, h2, h3, h4, h5⟩ hall
    as_aux_lemma =>
    obtain rfl : b0 = true := by simpa using hall 0
    obtain rfl : b1 = true := by simpa using hall 1
    obtain rfl : b2 = true := by simpa using hall 2
    obtain rfl : b3 = true := by simpa using hall 3
    obtain rfl : b4 = true := by simpa using hall 4
    obtain rfl : b5 = true := by simpa using hall 5
    obtain rfl := h0.out rfl
    obtain rfl := h1.out rfl
    obtain rfl := h2.out rfl
    obtain ⟨rfl, hG3⟩ := h3.out rfl
    obtain ⟨rfl, hG4⟩ := h4.out rfl
    obtain ⟨rfl, _⟩ := h5.out rfl
    have hR4 := hG4.rb
    have hF4 := hG4.fr
    have hK4 := hI.out.kp
    have hX4 := hI.out.box
    obtain ⟨bb', hbb'⟩ : ∃ x : Nat, x = bb := ⟨_, rfl⟩
    have S1 : Hid (T0 w pb bb g g4 c4 n s (List.replicate s 0) n 0 n 0 W) := Lib.hid ⟨hX4, HB2.out.kept hK4, hR4, HK2.out.trans hK4, by simp, HN2.out.1, HN2.out.2.1, by have := HN2.out.2.2; omega⟩
    clear hG4 hG3 hI HRZ hR4 hF4 hK4 hX4 HB2 HK2 HN2 hall
    clear bb' hbb'
    simp only [putAll, Act.put, List.setIfInBounds_toArray, List.set_cons_zero, List.set_cons_succ]
    have hm1 := mk_mach
    have hm2 := mk_refs
    go_upto_region 8 with (fail)
    obtain ⟨mb, hmb⟩ : ∃ mb, W.heap.size = mb := ⟨_, rfl⟩
    obtain ⟨sb, hsb⟩ : ∃ sb, mb + 1 = sb := ⟨_, rfl⟩
    obtain ⟨W3, hW3⟩ : ∃ W3, (W.alloc (.cells zmach 46)).alloc (.cells zrefs 49) = W3 := ⟨_, rfl⟩
    have e1 : (W.alloc (.cells zmach 46)).heap.size = mb + 1 := by rw [← hmb]; simp
    have S2 : Hid (T0 w pb bb g g4 c4 n s (List.replicate s 0) n 0 n 0 W3) := Lib.hid (by rw [← hW3]; exact S1.out.kept (((Upd.refl _ _).alloc _).alloc _))
    have HM : Hid (Rows W3 mb 17 46 (List.replicate 0 [.int .i64 2, .int .i64 1, .int .i64 (n : Int), .int .i64 2, .int .i64 0, .int .i64 1, .int .i64 3, .int .i64 5, .int .i64 7, .int .i64 8, .int .i64 9, .int .i64 10, .int .i64 11, .int .i64 (s : Int), .int .u8 0, .int .i64 0, .bool false] ++ List.replicate (9 - 0) [.int .i64 0, .int .i64 0, .int .i64 0, .int .i64 0, .int .i64 0, .int .i64 0, .int .i64 0, .int .i64 0, .int .i64 0, .int .i64 0, .int .i64 0, .int .i64 0, .int .i64 0, .int .i64 0, .int .u8 0, .int .i64 0, .bool false])) := Lib.hid (zmach_rows (by rw [← hW3]; exact (Blk.newAt _ _ _ _ hmb.symm).alloc _))
    have HS : Hid (Rows W3 sb 4 49 (rrows (List.replicate 9 ⟨0, 0, false, false⟩))) := Lib.hid (zrefs_rows (by rw [← hW3]; exact Blk.newAt _ _ _ _ (by rw [e1]; exact hsb.symm)))
    have HG : Hid (pb < mb ∧ bb < mb ∧ g < mb ∧ g4 < mb ∧ w.heap.size ≤ mb ∧ mb + 1 = sb) := Lib.hid (by rw [← hsb, ← hmb]; exact ⟨S1.out.box.lt, S1.out.bank.head.lt, S1.out.bank.row.lt, S1.out.mem.lt, S1.out.kp.size, rfl⟩)
    rw [hmb, hW3]
    try rw [hsb]
    clear S1 hmb hW3 e1 hm1 hm2 hsb
    go_wp2_with fail
    go_loopw [37] (fun x wr => ∃ i : Nat, x = .int .i64 i ∧ i ≤ 9 ∧ Hid (Rows wr mb 17 46 (List.replicate i [.int .i64 2, .int .i64 1, .int .i64 (n : Int), .int .i64 2, .int .i64 0, .int .i64 1, .int .i64 3, .int .i64 5, .int .i64 7, .int .i64 8, .int .i64 9, .int .i64 10, .int .i64 11, .int .i64 (s : Int), .int .u8 0, .int .i64 0, .bool false] ++ List.replicate (9 - i) [.int .i64 0, .int .i64 0, .int .i64 0, .int .i64 0, .int .i64 0, .int .i64 0, .int .i64 0, .int .i64 0, .int .i64 0, .int .i64 0, .int .i64 0, .int .i64 0, .int .i64 0, .int .i64 0, .int .u8 0, .int .i64 0, .bool false])) ∧ Hid (Rows wr sb 4 49 (rrows (List.replicate 9 ⟨0, 0, false, false⟩))) ∧ Hid (T0 w pb bb g g4 c4 n s (List.replicate s 0) n 0 n 0 wr)) (fun x _ => 9 - (intOf x).toNat)
    case atStart => exact ⟨0, rfl, by omega, HM, HS, S2⟩
    case round =>
      obtain ⟨i, rfl, hi, HM1, HS1, S3⟩ := hrel
      clear HM HS S2
      have cb := S3.out.box.cell
      by_cases hlt : i < 9
      · skip
        go_wp2_with fail
        refine (newArr n s _).mono ?_
        rintro e w4 ⟨rfl, hk4⟩
        have S4 := Lib.hid (S3.out.kept hk4)
        have HM4 := Lib.hid (HM1.out.kept hk4)
        have HS4 := Lib.hid (HS1.out.kept hk4)
        clear hk4 S3 HM1 HS1 cb
        have hz17 : (Try.prog.info? 46).map (·.size) = some 17 := by kernel_rfl
        go_wp2_with (first | (refine wpList_row rfl 46 _ _ rfl [.int .i64 2, .int .i64 1, .int .i64 (n : Int), .int .i64 2, .int .i64 0, .int .i64 1, .int .i64 3, .int .i64 5, .int .i64 7, .int .i64 8, .int .i64 9, .int .i64 10, .int .i64 11, .int .i64 (s : Int), .int .u8 0, .int .i64 0, .bool false] rfl rfl HM4.out (by simp; omega) rfl rfl hz17 (by simp [Value.oneCell']) ?_; intro w5 hP1 hP2) | fail)
        have HM5 := Lib.hid hP1
        rw [rep_set _ _ i hlt] at HM5
        have hP : True ∧ Upd (fun x => x = mb) w4 w5 := ⟨trivial, hP2⟩
        have HS5 := Lib.hid (HS4.out.upd hP.2 (fun e => by have := HG.out; omega))
        have S5 : Hid (T0 w pb bb g g4 c4 n s (List.replicate s 0) n 0 n 0 w5) := Lib.hid (by
          have h1 := HG.out
          have h2 := S4.out
          exact ⟨h2.box.upd hP.2 (fun e => by omega), h2.bank.upd hP.2 (fun e => by omega) (fun e => by omega), h2.mem.upd hP.2 (fun e => by omega), h2.kp.then hP.2 (fun i hi e => by omega), h2.len, h2.n1, h2.n2, h2.n4⟩)
        clear hP hP1 hP2 S4 HM4 HS4 hz17
        go_wp2_with fail
        go_roundw
        case rel => exact ⟨i + 1, by go_num, by omega, HM5, HS5, S5⟩
        case measure => simp [intOf]; omega
      · skip
        have hi9 : i = 9 := by omega
        have HM2 : Hid (Mach wr mb n s (List.replicate 9 ⟨0, 0, false⟩)) := Lib.hid (Rows.mach (by have := HM1.out; rw [hi9] at this; exact this))
        have S4 : Hid (TS w pb bb g mb sb g4 c4 n s (List.replicate s 0) (List.replicate 9 ⟨0, 0, false⟩) (List.replicate 9 ⟨0, 0, false, false⟩) n 0 n 0 wr) := Lib.hid (by
          have h1 := S3.out
          have h2 := HG.out
          have h3 := h1.n1
          have h4 := h1.n2
          have h5 := h1.n4
          exact ⟨h1.box, h1.bank, HM2.out, HS1.out, h1.mem, h1.kp, h1.len, by omega, by omega, by omega, by omega⟩)
        have hsl := HSL.out
        clear S3 HM1 HS1 HM2 cb hi hi9
        go_wp2_with fail
        clear hsl hif1 hif2 hlt
        obtain ⟨wo, rfl⟩ : ∃ wo : World, wo = wr := ⟨_, rfl⟩
        go_loopw [9, 52] (fun y x wr => ∃ (k gm cap : Nat) (ms : List MS) (rs : List RM) (c q : Int), y = .slice (some ⟨gm, 0, none⟩) s cap ∧ x = .int .i64 k ∧ k ≤ M ∧ Hid (ms.length = 9 ∧ rs.length = 9) ∧ Hid (Rel ms rs k) ∧ Hid (TS w pb bb g mb sb gm cap n s (List.replicate s 0) ms rs c q c q wr)) (fun _ x _ => M - (intOf x).toNat)
        case atStart => exact ⟨0, g4, c4, _, _, _, _, rfl, rfl, by omega, Lib.hid (by simp), Lib.hid (fun i m r h1 h2 => by
            obtain rfl := List.eq_of_mem_replicate (List.mem_of_getElem? h1)
            obtain rfl := List.eq_of_mem_replicate (List.mem_of_getElem? h2)
            exact ⟨⟨rfl, .inl ⟨rfl, rfl, rfl⟩⟩, rfl, by simp⟩), S4⟩
        case round =>
          obtain ⟨k, gm, cap, ms, rs, c, q, rfl, rfl, hk, HLN, HREL, S5⟩ := hrel
          clear S4
          by_cases hlt : k < M
          · skip
            obtain ⟨b', off', rfl, hc2⟩ := HR1.out.at k (by rw [List.length_map]; omega)
            have c2 : w.cell? ⟨b', off' + k, none⟩ = some (.int .u8 (z1.getD k 0)) := by rw [hc2]; simp [show k < z1.length by omega]
            have c2' : wr.cell? ⟨b', off' + k, none⟩ = some (.int .u8 (z1.getD k 0)) := (keptCells S5.out.kp _ (by rw [c2]; rfl)).trans c2
            have hyb := bounds_u8 (HW1.out (z1.getD k 0) (by simp [List.getD, show k < z1.length by omega]))
            obtain ⟨y, hy⟩ : ∃ y, z1.getD k 0 = y := ⟨_, rfl⟩
            rw [hy] at c2' hyb
            clear c2 hc2 hy
            obtain ⟨ix, hix⟩ := Int.eq_ofNat_of_zero_le (show 0 ≤ y % 9 by omega)
            have hix9 : ix < 9 := by omega
            have HIX := Lib.hid hix
            obtain ⟨m, hm⟩ : ∃ m, ms[ix]? = some m := ⟨_, List.getElem?_eq_getElem (by have := HLN.out.1; omega)⟩
            obtain ⟨r, hr⟩ : ∃ r, rs[ix]? = some r := ⟨_, List.getElem?_eq_getElem (by have := HLN.out.2; omega)⟩
            obtain ⟨hRl, hdn, hat⟩ := HREL.out ix m r hm hr
            obtain ⟨m', c', q', at', own', last', z, hg, hz, h0, h5, hl', hat', hnx, hdo⟩ := rl_step (n := n) (s := s) (N := s) (L := List.replicate s 0) (by simp) (by omega) (by omega) hRl (by omega) c q
            obtain ⟨rat, rown, rlast, rdone⟩ := r
            simp only at hdn hat hat' hdo hRl
            subst hdn
            have HDO := Lib.hid hdo
            have HMI := Lib.hid hm
            have HRI := Lib.hid (rrows_at hr)
            obtain ⟨r0, hr0⟩ : ∃ r0, rs[ix]? = some r0 := ⟨_, hr⟩
            have HR0 := Lib.hid hr0
            clear hr0
            have HGO := Lib.hid (And.intro hg (And.intro hz (And.intro h0 (And.intro h5 hl'))))
            have HNX : Hid (z = false → Rl m' at' own' last') := Lib.hid hnx
            have HAT : Hid (at' ≤ (k : Int) + 1) := Lib.hid (by omega)
            clear hm hr hRl hat hg hz h0 h5 hl' hat' hnx hdo hix
            go_upto_region 17 with (fail)
            rw [HIX.out]
            clear c2' hyb HIX
            have HBS : Hid (¬ gm = sb) := Lib.hid S5.out.n4.2.2
            have hixI : (ix : Int) < 9 := by omega
            go_cut [9] from 59 to 71 (fun y wx => ∃ gn cn : Nat, y = .slice (some ⟨gn, 0, none⟩) s cn ∧ Hid (TS w pb bb g mb sb gn cn n s (List.replicate s 0) ms (rs.set ix ⟨at', own', last', z⟩) c q c' q' wx))
            case first =>
              have HTS : Hid (TS w pb bb g mb sb gm cap n s (List.replicate s 0) ms rs c q c q wr) := Lib.hid S5.out
              clear S5
              refine wp_region_inv (fun l us W => ∃ (b0 b1 b2 b3 b4 b5 b6 b7 b8 b9 b10 b11 b12 b13 b14 : Bool) (v60 v61 v62 v63 v64 v65 v66 v67 v68 v59 v69 v70 v71 v9 : Value) (g68 c68 : Nat), l = #[b0, b1, b2, b3, b4, b5, b6, b7, b8, b9, b10, b11, b12, b13, b14] ∧ us = [v60, v61, v62, v63, v64, v65, v66, v67, v68, v59, v69, v70, v71, v9] ∧ Hid (TS w pb bb g mb sb gm cap n s (List.replicate s 0) ms (if b13 then (rs.set ix ⟨at', own', last', z⟩) else rs) c q c q W) ∧
        Hid (b0 = true → v60 = .slice (some ⟨sb, 0, none⟩) 9 9) ∧
        Hid (b1 = true → v61 = .int .i64 (ix : Int)) ∧
        Hid (b2 = true → v62 = .slice (some ⟨sb, 0, none⟩) 9 9) ∧
        Hid (b3 = true → v63 = .int .i64 (ix : Int)) ∧
        Hid (b4 = true → v64 = .pointer (some ⟨sb, ix * 4, none⟩)) ∧
        Hid (b5 = true → v65 = .agg #[.int .i64 rat, .int .i64 rown, .bool rlast, .bool false]) ∧
        Hid (b6 = true → v66 = .agg #[.int .i64 2, .int .i64 1, .int .i64 (n : Int), .int .i64 2, .int .i64 0, .int .i64 1, .int .i64 3, .int .i64 5, .int .i64 7, .int .i64 8, .int .i64 9, .int .i64 10, .int .i64 11, .int .i64 (s : Int)]) ∧
        Hid (b7 = true → v67 = .slice (some ⟨gm, 0, none⟩) s cap) ∧
        Hid (b8 = true → v68 = .tuple #[.agg #[.int .i64 at', .int .i64 own', .bool last', .bool z], .slice (some ⟨g68, 0, none⟩) s c68] ∧ RG gm g mb sb W g68 c68 (bq (List.replicate s 0) c' q')) ∧
        Hid (b9 = true → v59 = .tuple #[.agg #[.int .i64 at', .int .i64 own', .bool last', .bool z], .slice (some ⟨g68, 0, none⟩) s c68] ∧ b8 = true) ∧
        Hid (b10 = true → v69 = .agg #[.int .i64 at', .int .i64 own', .bool last', .bool z]) ∧
        Hid (b11 = true → v70 = .slice (some ⟨g68, 0, none⟩) s c68 ∧ b8 = true) ∧
        Hid (b12 = true → v71 = .pointer (some ⟨sb, ix * 4, none⟩)) ∧
        Hid (b14 = true → v9 = .slice (some ⟨g68, 0, none⟩) s c68 ∧ b8 = true) ∧
        Hid (b13 = true → b5 = true) ∧
        Hid (b14 = true → b7 = true) ∧
        Hid (b14 = false → v9 = .slice (some ⟨gm, 0, none⟩) s cap)) [60, 61, 62, 63, 64, 65, 66, 67, 68, 59, 69, 70, 71, 9] [u60, u61, u62, u63, u64, u65, u66, u67, u68, u59, u69, u70, u71, .slice (some ⟨gm, 0, none⟩) s cap] (by kernel_rfl) (by kernel_rfl) (by simp only [putAll, Act.put, List.setIfInBounds_toArray, List.set_cons_zero, List.set_cons_succ]) ?_ ?_ ?_
              · exact ⟨false, false, false, false, false, false, false, false, false, false, false, false, false, false, false, _, _, _, _, _, _, _, _, _, _, _, _, _, _, 0, 0, rfl, rfl, Lib.hid (HTS.out.kept (Upd.refl _ _).drew), Lib.hid (by simp), Lib.hid (by simp), Lib.hid (by simp), Lib.hid (by simp), Lib.hid (by simp), Lib.hid (by simp), Lib.hid (by simp), Lib.hid (by simp), Lib.hid (by simp), Lib.hid (by simp), Lib.hid (by simp), Lib.hid (by simp), Lib.hid (by simp), Lib.hid (by simp), Lib.hid (by simp), Lib.hid (by simp), Lib.hid (by simp)⟩
              · rintro i l us W ⟨b0, b1, b2, b3, b4, b5, b6, b7, b8, b9, b10, b11, b12, b13, b14, v60, v61, v62, v63, v64, v65, v66, v67, v68, v59, v69, v70, v71, v9, g68, c68, rfl, rfl, hI, h0, h1, h2, h3, h4, h5, h6, h7, h8, h9, h10, h11, h12, h14, x13, x14, y14⟩ hr
                have hi : i = 0 ∨ i = 1 ∨ i = 2 ∨ i = 3 ∨ i = 4 ∨ i = 5 ∨ i = 6 ∨ i = 7 ∨ i = 8 ∨ i = 9 ∨ i = 10 ∨ i = 11 ∨ i = 12 ∨ i = 13 ∨ i = 14 := by
                  have := ready_lt hr
                  simp at this
                  omega
                rcases hi with rfl | rfl | rfl | rfl | rfl | rfl | rfl | rfl | rfl | rfl | rfl | rfl | rfl | rfl | rfl
                · skip
                  obtain ⟨hn, hd⟩ := ready_at hr rfl
                  simp [Region.binds] at hn hd
                  refine wpOp_step rfl (fun K' hK => ?_)
                  simp only [putAll, Act.put, List.setIfInBounds_toArray, List.set_cons_zero, List.set_cons_succ]
                  go_simp
                  exact hK _ _ ⟨_, by simp only [putAll, Act.put, List.setIfInBounds_toArray, List.set_cons_zero, List.set_cons_succ], true, b1, b2, b3, b4, b5, b6, b7, b8, b9, b10, b11, b12, b13, b14, _, _, _, _, _, _, _, _, _, _, _, _, _, _, g68, c68, rfl, rfl, hI, Lib.hid (fun _ => rfl), h1, h2, h3, h4, h5, h6, h7, h8, h9, h10, h11, h12, h14, x13, x14, y14⟩
                · skip
                  obtain ⟨hn, hd⟩ := ready_at hr rfl
                  simp [Region.binds] at hn hd
                  refine wpOp_step rfl (fun K' hK => ?_)
                  simp only [putAll, Act.put, List.setIfInBounds_toArray, List.set_cons_zero, List.set_cons_succ]
                  go_simp
                  exact hK _ _ ⟨_, by simp only [putAll, Act.put, List.setIfInBounds_toArray, List.set_cons_zero, List.set_cons_succ], b0, true, b2, b3, b4, b5, b6, b7, b8, b9, b10, b11, b12, b13, b14, _, _, _, _, _, _, _, _, _, _, _, _, _, _, g68, c68, rfl, rfl, hI, h0, Lib.hid (fun _ => rfl), h2, h3, h4, h5, h6, h7, h8, h9, h10, h11, h12, h14, x13, x14, y14⟩
                · skip
                  obtain ⟨hn, hd⟩ := ready_at hr rfl
                  simp [Region.binds] at hn hd
                  refine wpOp_step rfl (fun K' hK => ?_)
                  simp only [putAll, Act.put, List.setIfInBounds_toArray, List.set_cons_zero, List.set_cons_succ]
                  go_simp
                  exact hK _ _ ⟨_, by simp only [putAll, Act.put, List.setIfInBounds_toArray, List.set_cons_zero, List.set_cons_succ], b0, b1, true, b3, b4, b5, b6, b7, b8, b9, b10, b11, b12, b13, b14, _, _, _, _, _, _, _, _, _, _, _, _, _, _, g68, c68, rfl, rfl, hI, h0, h1, Lib.hid (fun _ => rfl), h3, h4, h5, h6, h7, h8, h9, h10, h11, h12, h14, x13, x14, y14⟩
                · skip
                  obtain ⟨hn, hd⟩ := ready_at hr rfl
                  simp [Region.binds] at hn hd
                  refine wpOp_step rfl (fun K' hK => ?_)
                  simp only [putAll, Act.put, List.setIfInBounds_toArray, List.set_cons_zero, List.set_cons_succ]
                  go_simp
                  exact hK _ _ ⟨_, by simp only [putAll, Act.put, List.setIfInBounds_toArray, List.set_cons_zero, List.set_cons_succ], b0, b1, b2, true, b4, b5, b6, b7, b8, b9, b10, b11, b12, b13, b14, _, _, _, _, _, _, _, _, _, _, _, _, _, _, g68, c68, rfl, rfl, hI, h0, h1, h2, Lib.hid (fun _ => rfl), h4, h5, h6, h7, h8, h9, h10, h11, h12, h14, x13, x14, y14⟩
                · skip
                  obtain ⟨hn, hd⟩ := ready_at hr rfl
                  simp [Region.binds] at hn hd
                  obtain rfl := h2.out (by simp [hd])
                  obtain rfl := h3.out (by simp [hd])
                  refine wpOp_step rfl (fun K' hK => ?_)
                  simp only [putAll, Act.put, List.setIfInBounds_toArray, List.set_cons_zero, List.set_cons_succ]
                  go_simp
                  exact hK _ _ ⟨_, by simp only [putAll, Act.put, List.setIfInBounds_toArray, List.set_cons_zero, List.set_cons_succ], b0, b1, b2, b3, true, b5, b6, b7, b8, b9, b10, b11, b12, b13, b14, _, _, _, _, _, _, _, _, _, _, _, _, _, _, g68, c68, rfl, rfl, hI, h0, h1, h2, h3, Lib.hid (fun _ => rfl), h5, h6, h7, h8, h9, h10, h11, h12, h14, x13, x14, y14⟩
                · skip
                  obtain ⟨hn, hd⟩ := ready_at hr rfl
                  simp [Region.binds] at hn hd
                  obtain rfl := h4.out (by simp [hd])
                  have hb13 : b13 = false := by cases b13 with | false => rfl | true => (have := x13.out rfl; rw [hn] at this; cases this)
                  subst hb13
                  have hI0 : TS w pb bb g mb sb gm cap n s (List.replicate s 0) ms rs c q c q W := hI.out
                  refine wpOp_step rfl (fun K' hK => ?_)
                  simp only [putAll, Act.put, List.setIfInBounds_toArray, List.set_cons_zero, List.set_cons_succ]
                  have d0 : W.cell? ⟨sb, ix * 4, none⟩ = some (.int .i64 rat) := hI0.refs.cell HRI.out rfl 0 (by omega)
                  have d1 : W.cell? ⟨sb, ix * 4 + 1, none⟩ = some (.int .i64 rown) := hI0.refs.cell HRI.out rfl 1 (by omega)
                  have d2 : W.cell? ⟨sb, ix * 4 + 2, none⟩ = some (.bool rlast) := hI0.refs.cell HRI.out rfl 2 (by omega)
                  have d3 : W.cell? ⟨sb, ix * 4 + 3, none⟩ = some (.bool false) := hI0.refs.cell HRI.out rfl 3 (by omega)
                  go_simp
                  exact hK _ _ ⟨_, by simp only [putAll, Act.put, List.setIfInBounds_toArray, List.set_cons_zero, List.set_cons_succ], b0, b1, b2, b3, b4, true, b6, b7, b8, b9, b10, b11, b12, false, b14, _, _, _, _, _, _, _, _, _, _, _, _, _, _, g68, c68, rfl, rfl, hI, h0, h1, h2, h3, h4, Lib.hid (fun _ => rfl), h6, h7, h8, h9, h10, h11, h12, h14, Lib.hid (fun h => (by cases h)), x14, y14⟩
                · skip
                  obtain ⟨hn, hd⟩ := ready_at hr rfl
                  simp [Region.binds] at hn hd
                  refine wpOp_step rfl (fun K' hK => ?_)
                  simp only [putAll, Act.put, List.setIfInBounds_toArray, List.set_cons_zero, List.set_cons_succ]
                  have cb := hI.out.box.cell
                  go_simp
                  exact hK _ _ ⟨_, by simp only [putAll, Act.put, List.setIfInBounds_toArray, List.set_cons_zero, List.set_cons_succ], b0, b1, b2, b3, b4, b5, true, b7, b8, b9, b10, b11, b12, b13, b14, _, _, _, _, _, _, _, _, _, _, _, _, _, _, g68, c68, rfl, rfl, hI, h0, h1, h2, h3, h4, h5, Lib.hid (fun _ => rfl), h7, h8, h9, h10, h11, h12, h14, x13, x14, y14⟩
                · skip
                  obtain ⟨hn, hd⟩ := ready_at hr rfl
                  simp [Region.binds] at hn hd
                  have hb14 : b14 = false := by cases b14 with | false => rfl | true => (have := x14.out rfl; rw [hn] at this; cases this)
                  subst hb14
                  obtain rfl := y14.out rfl
                  refine wpOp_step rfl (fun K' hK => ?_)
                  simp only [putAll, Act.put, List.setIfInBounds_toArray, List.set_cons_zero, List.set_cons_succ]
                  go_simp
                  exact hK _ _ ⟨_, by simp only [putAll, Act.put, List.setIfInBounds_toArray, List.set_cons_zero, List.set_cons_succ], b0, b1, b2, b3, b4, b5, b6, true, b8, b9, b10, b11, b12, b13, false, _, _, _, _, _, _, _, _, _, _, _, _, _, _, g68, c68, rfl, rfl, hI, h0, h1, h2, h3, h4, h5, h6, Lib.hid (fun _ => rfl), h8, h9, h10, h11, h12, h14, x13, Lib.hid (fun h => (by cases h)), Lib.hid (fun _ => rfl)⟩
                · skip
                  obtain ⟨hn, hd⟩ := ready_at hr rfl
                  simp [Region.binds] at hn hd
                  obtain rfl := h5.out (by simp [hd])
                  obtain rfl := h6.out (by simp [hd])
                  obtain rfl := h7.out (by simp [hd])
                  refine wpOp_step rfl (fun K' hK => ?_)
                  simp only [putAll, Act.put, List.setIfInBounds_toArray, List.set_cons_zero, List.set_cons_succ]
                  go_simp
                  refine (HDO.out _ _ _ hI.out.mem).mono ?_
                  rintro e w' ⟨gn, cn, rfl, hRn, hk, hgn⟩
                  exact hK _ _ ⟨_, by simp only [putAll, Act.put, List.setIfInBounds_toArray, List.set_cons_zero, List.set_cons_succ], b0, b1, b2, b3, b4, b5, b6, b7, true, b9, b10, b11, b12, b13, b14, _, _, _, _, _, _, _, _, _, v59, _, v70, _, v9, gn, cn, rfl, rfl, (Lib.hid (hI.out.kept hk)), h0, h1, h2, h3, h4, h5, h6, h7, Lib.hid (fun _ => ⟨rfl, hI.out.made hRn hgn⟩), Lib.hid (fun hb => (by have := (h9.out hb).2; rw [hn] at this; cases this)), h10, Lib.hid (fun hb => (by have := (h11.out hb).2; rw [hn] at this; cases this)), h12, Lib.hid (fun hb => (by have := (h14.out hb).2; rw [hn] at this; cases this)), x13, x14, y14⟩
                · skip
                  obtain ⟨hn, hd⟩ := ready_at hr rfl
                  simp [Region.binds] at hn hd
                  obtain ⟨rfl, hR8⟩ := h8.out (by simp [hd])
                  refine wpOp_step rfl (fun K' hK => ?_)
                  simp only [putAll, Act.put, List.setIfInBounds_toArray, List.set_cons_zero, List.set_cons_succ]
                  go_simp
                  exact hK _ _ ⟨_, by simp only [putAll, Act.put, List.setIfInBounds_toArray, List.set_cons_zero, List.set_cons_succ], b0, b1, b2, b3, b4, b5, b6, b7, b8, true, b10, b11, b12, b13, b14, _, _, _, _, _, _, _, _, _, _, _, _, _, _, g68, c68, rfl, rfl, hI, h0, h1, h2, h3, h4, h5, h6, h7, h8, Lib.hid (fun _ => ⟨rfl, (by first  | simp [hd])⟩), h10, h11, h12, h14, x13, x14, y14⟩
                · skip
                  obtain ⟨hn, hd⟩ := ready_at hr rfl
                  simp [Region.binds] at hn hd
                  obtain ⟨rfl, hD9⟩ := h9.out (by simp [hd])
                  refine wpOp_step rfl (fun K' hK => ?_)
                  simp only [putAll, Act.put, List.setIfInBounds_toArray, List.set_cons_zero, List.set_cons_succ]
                  go_simp
                  exact hK _ _ ⟨_, by simp only [putAll, Act.put, List.setIfInBounds_toArray, List.set_cons_zero, List.set_cons_succ], b0, b1, b2, b3, b4, b5, b6, b7, b8, b9, true, b11, b12, b13, b14, _, _, _, _, _, _, _, _, _, _, _, _, _, _, g68, c68, rfl, rfl, hI, h0, h1, h2, h3, h4, h5, h6, h7, h8, h9, Lib.hid (fun _ => rfl), h11, h12, h14, x13, x14, y14⟩
                · skip
                  obtain ⟨hn, hd⟩ := ready_at hr rfl
                  simp [Region.binds] at hn hd
                  obtain ⟨rfl, hD9⟩ := h9.out (by simp [hd])
                  refine wpOp_step rfl (fun K' hK => ?_)
                  simp only [putAll, Act.put, List.setIfInBounds_toArray, List.set_cons_zero, List.set_cons_succ]
                  go_simp
                  exact hK _ _ ⟨_, by simp only [putAll, Act.put, List.setIfInBounds_toArray, List.set_cons_zero, List.set_cons_succ], b0, b1, b2, b3, b4, b5, b6, b7, b8, b9, b10, true, b12, b13, b14, _, _, _, _, _, _, _, _, _, _, _, _, _, _, g68, c68, rfl, rfl, hI, h0, h1, h2, h3, h4, h5, h6, h7, h8, h9, h10, Lib.hid (fun _ => ⟨rfl, (by first | exact hD9 | simp [hd])⟩), h12, h14, x13, x14, y14⟩
                · skip
                  obtain ⟨hn, hd⟩ := ready_at hr rfl
                  simp [Region.binds] at hn hd
                  obtain rfl := h0.out (by simp [hd])
                  obtain rfl := h1.out (by simp [hd])
                  refine wpOp_step rfl (fun K' hK => ?_)
                  simp only [putAll, Act.put, List.setIfInBounds_toArray, List.set_cons_zero, List.set_cons_succ]
                  go_simp
                  exact hK _ _ ⟨_, by simp only [putAll, Act.put, List.setIfInBounds_toArray, List.set_cons_zero, List.set_cons_succ], b0, b1, b2, b3, b4, b5, b6, b7, b8, b9, b10, b11, true, b13, b14, _, _, _, _, _, _, _, _, _, _, _, _, _, _, g68, c68, rfl, rfl, hI, h0, h1, h2, h3, h4, h5, h6, h7, h8, h9, h10, h11, Lib.hid (fun _ => rfl), h14, x13, x14, y14⟩
                · skip
                  obtain ⟨hn, hd⟩ := ready_at hr rfl
                  simp [Region.binds] at hn hd
                  obtain rfl := h12.out (by simp [hd])
                  obtain rfl := h10.out (by simp [hd])
                  obtain rfl : b13 = false := hn
                  have hI0 : TS w pb bb g mb sb gm cap n s (List.replicate s 0) ms rs c q c q W := hI.out
                  have q0 : W.cell? ⟨sb, ix * 4, none⟩ = some (.int .i64 rat) := hI0.refs.cell HRI.out rfl 0 (by omega)
                  have q1 : W.cell? ⟨sb, ix * 4 + 1, none⟩ = some (.int .i64 rown) := hI0.refs.cell HRI.out rfl 1 (by omega)
                  have q2 : W.cell? ⟨sb, ix * 4 + 2, none⟩ = some (.bool rlast) := hI0.refs.cell HRI.out rfl 2 (by omega)
                  have q3 : W.cell? ⟨sb, ix * 4 + 3, none⟩ = some (.bool false) := hI0.refs.cell HRI.out rfl 3 (by omega)
                  have fz := fun j => hI0.refs.blk.free j
                  refine wpOp_step (o := ⟨none, .store 49 (.tmp 71) (.tmp 69), 0, "law.go:57", _, none⟩) rfl (fun K' hK => ?_)
                  simp only [putAll, Act.put, List.setIfInBounds_toArray, List.set_cons_zero, List.set_cons_succ]
                  go_simp
                  have hP := hI0.refs.put4 (o := ix * 4) (i := ix) (List.getElem?_eq_some_iff.1 HRI.out).1 rfl (.int .i64 at') (.int .i64 own') (.bool last') (.bool z)
                  have S2 : TS w pb bb g mb sb gm cap n s (List.replicate s 0) ms (rs.set ix ⟨at', own', last', z⟩) c q c q _ := hI0.setref (r := ⟨at', own', last', z⟩) hP.1 hP.2
                  exact hK _ _ ⟨_, by simp only [putAll, Act.put, List.setIfInBounds_toArray, List.set_cons_zero, List.set_cons_succ], b0, b1, b2, b3, b4, b5, b6, b7, b8, b9, b10, b11, b12, true, b14, _, _, _, _, _, _, _, _, _, _, _, _, _, _, g68, c68, rfl, rfl, (Lib.hid S2), h0, h1, h2, h3, h4, h5, h6, h7, Lib.hid (fun hb => ⟨(h8.out hb).1, (h8.out hb).2.upd hP.2 HBS.out⟩), h9, h10, h11, h12, h14, Lib.hid (fun _ => (by simp [hd])), x14, y14⟩
                · skip
                  obtain ⟨hn, hd⟩ := ready_at hr rfl
                  simp [Region.binds] at hn hd
                  obtain ⟨rfl, hD11⟩ := h11.out (by simp [hd])
                  refine wpOp_step rfl (fun K' hK => ?_)
                  simp only [putAll, Act.put, List.setIfInBounds_toArray, List.set_cons_zero, List.set_cons_succ]
                  go_simp
                  exact hK _ _ ⟨_, by simp only [putAll, Act.put, List.setIfInBounds_toArray, List.set_cons_zero, List.set_cons_succ], b0, b1, b2, b3, b4, b5, b6, b7, b8, b9, b10, b11, b12, b13, true, _, _, _, _, _, _, _, _, _, _, _, _, _, _, g68, c68, rfl, rfl, hI, h0, h1, h2, h3, h4, h5, h6, h7, h8, h9, h10, h11, h12, Lib.hid (fun _ => ⟨rfl, (by first | exact hD11 | simp [hd])⟩), x13, Lib.hid (fun _ => (by simp [hd])), Lib.hid (fun h => (by cases h))⟩
              · rintro l us W ⟨b0, b1, b2, b3, b4, b5, b6, b7, b8, b9, b10, b11, b12, b13, b14, v60, v61, v62, v63, v64, v65, v66, v67, v68, v59, v69, v70, v71, v9, g68, c68, rfl, rfl, hI, h0, h1, h2, h3, h4, h5, h6, h7, h8, h9, h10, h11, h12, h14, x13, x14, y14⟩ hall
                as_aux_lemma =>
                obtain rfl : b0 = true := by simpa using hall 0
                obtain rfl : b1 = true := by simpa using hall 1
                obtain rfl : b2 = true := by simpa using hall 2
                obtain rfl : b3 = true := by simpa using hall 3
                obtain rfl : b4 = true := by simpa using hall 4
                obtain rfl : b5 = true := by simpa using hall 5
                obtain rfl : b6 = true := by simpa using hall 6
                obtain rfl : b7 = true := by simpa using hall 7
                obtain rfl : b8 = true := by simpa using hall 8
                obtain rfl : b9 = true := by simpa using hall 9
                obtain rfl : b10 = true := by simpa using hall 10
                obtain rfl : b11 = true := by simpa using hall 11
                obtain rfl : b12 = true := by simpa using hall 12
                obtain rfl : b13 = true := by simpa using hall 13
                obtain rfl : b14 = true := by simpa using hall 14
                obtain rfl := h0.out rfl
                obtain rfl := h1.out rfl
                obtain rfl := h2.out rfl
                obtain rfl := h3.out rfl
                obtain rfl := h4.out rfl
                obtain rfl := h5.out rfl
                obtain rfl := h6.out rfl
                obtain rfl := h7.out rfl
                obtain ⟨rfl, hG8⟩ := h8.out rfl
                obtain ⟨rfl, _⟩ := h9.out rfl
                obtain rfl := h10.out rfl
                obtain ⟨rfl, _⟩ := h11.out rfl
                obtain rfl := h12.out rfl
                obtain ⟨rfl, _⟩ := h14.out rfl
                have S7 : Hid (TS w pb bb g mb sb g68 c68 n s (List.replicate s 0) ms (rs.set ix ⟨at', own', last', z⟩) c q c' q' W) := Lib.hid ((show TS w pb bb g mb sb gm cap n s (List.replicate s 0) ms (rs.set ix ⟨at', own', last', z⟩) c q c q W from hI.out).setmem hG8)
                clear hG8 hI HTS x13 x14 y14 hall HDO HBS
                simp only [putAll, Act.put, List.setIfInBounds_toArray, List.set_cons_zero, List.set_cons_succ]
                go_wp2_with fail
                go_meet
                exact ⟨_, _, rfl, S7⟩
            case rest =>
              obtain ⟨gn, cn, rfl, S7⟩ := hcut
              have HRX : Hid ((rrows (rs.set ix ⟨at', own', last', z⟩))[ix]? = some (rcell ⟨at', own', last', z⟩)) := Lib.hid (rrows_at (set_at (m := r0) (by exact HR0.out) _))
              have HMX : Hid ((ms.set ix m')[ix]? = some m') := Lib.hid (set_at HMI.out _)
              obtain ⟨hg, hz, h0, h5, hl'⟩ := HGO.out
              have HST := Lib.hid (step_bq hg hz h0 h5 ix (ix * 17) rfl HMI.out (S7.out.mach.kept (Upd.refl _ _).drew) (S7.out.bank.kept (Upd.refl _ _).drew) (by have := S7.out.len; omega) ⟨fun e => S7.out.n3.2.2.1 e.symm, fun e => S7.out.n3.1 e.symm⟩)
              have HL9 := Lib.hid hl'
              clear hg hz h0 h5 hl' HGO HDO HR0 HMI HRI
              have D0 : wc.drew.cell? ⟨sb, ix * 4 + 2, none⟩ = some (.bool last') ∧ wc.drew.cell? ⟨sb, ix * 4 + 3, none⟩ = some (.bool z) := ⟨(by rw [(S7.out.kept (Upd.refl _ _).drew).refs.cell (i := ix) (o := ix * 4) HRX.out rfl 2 (by omega)]; rfl), (by rw [(S7.out.kept (Upd.refl _ _).drew).refs.cell (i := ix) (o := ix * 4) HRX.out rfl 3 (by omega)]; rfl)⟩
              go_upto_region 18 with (fail)
              go_region_held3 (fun w' => w'.cell? ⟨sb, ix * 4 + 2, none⟩ = some (.bool last') ∧ w'.cell? ⟨sb, ix * 4 + 3, none⟩ = some (.bool z))
                (first | exact D0 | exact D1 | exact D2 | exact D3)
                (first
                  | (go_at_call 15; refine HST.out.mono ?_; rintro e w5 hs; obtain rfl := hs.1; have S8 : Hid (TS w pb bb g mb sb gn cn n s (List.replicate s 0) (ms.set ix m') (rs.set ix ⟨at', own', last', z⟩) c' q' c' q' w5) := Lib.hid ((S7.out.kept (Upd.refl _ _).drew).stepped hs); have D1 : w5.cell? ⟨sb, ix * 4 + 2, none⟩ = some (.bool last') ∧ w5.cell? ⟨sb, ix * 4 + 3, none⟩ = some (.bool z) := ⟨(by rw [S8.out.refs.cell (i := ix) (o := ix * 4) HRX.out rfl 2 (by omega)]; rfl), (by rw [S8.out.refs.cell (i := ix) (o := ix * 4) HRX.out rfl 3 (by omega)]; rfl)⟩; clear hs)
                  | (go_at_call 16; refine (last_of (z := last') ix HMX.out HL9.out S8.out.mach).mono ?_; rintro e w6 ⟨rfl, rfl⟩)
                  | (go_at_call 18; refine (all_len (s := s) S8.out.bank S8.out.len).mono ?_; rintro e w7 ⟨g3, rfl, hI3, hk3⟩; have S9 := Lib.hid (S8.out.kept hk3); have HI3 := Lib.hid hI3; have D2 : w7.cell? ⟨sb, ix * 4 + 2, none⟩ = some (.bool last') ∧ w7.cell? ⟨sb, ix * 4 + 3, none⟩ = some (.bool z) := ⟨(by rw [S9.out.refs.cell (i := ix) (o := ix * 4) HRX.out rfl 2 (by omega)]; rfl), (by rw [S9.out.refs.cell (i := ix) (o := ix * 4) HRX.out rfl 3 (by omega)]; rfl)⟩; clear hk3 hI3)
                  | (go_at_call 17; refine (same_len (some ⟨g3, 0, none⟩) (some ⟨gn, 0, none⟩) s cn (bq (List.replicate s 0) c' q') s w7 (by rw [bq_len]; simp) (by omega) (Rd.blk HI3.out) (rb_rd S9.out.mem)).mono ?_; rintro e w8 ⟨rfl, hk3⟩; have S10 := Lib.hid (S9.out.kept hk3); have D3 : w8.cell? ⟨sb, ix * 4 + 2, none⟩ = some (.bool last') ∧ w8.cell? ⟨sb, ix * 4 + 3, none⟩ = some (.bool z) := ⟨(by rw [S10.out.refs.cell (i := ix) (o := ix * 4) HRX.out rfl 2 (by omega)]; rfl), (by rw [S10.out.refs.cell (i := ix) (o := ix * 4) HRX.out rfl 3 (by omega)]; rfl)⟩; clear hk3))
              clear D0 D1 D2 D3 S7 S8 S9 HST HI3
              have HLN2 : Hid ((ms.set ix m').length = 9 ∧ ((rs.set ix ⟨at', own', last', z⟩)).length = 9) := Lib.hid (by simpa using HLN.out)
              have d3 := (show w8.cell? ⟨sb, ix * 4 + 3, none⟩ = some (.bool z) from by rw [S10.out.refs.cell (i := ix) (o := ix * 4) HRX.out rfl 3 (by omega)]; rfl)
              cases hzz : z
              · as_aux_lemma =>
                have HREL2 : Hid (Rel (ms.set ix m') (rs.set ix ⟨at', own', last', z⟩) (k + 1)) := Lib.hid (HREL.out.set ⟨HNX.out hzz, hzz, by have := HAT.out; exact this⟩)
                subst hzz
                go_wp2_with fail
                clear d3
                go_roundw
                case rel => exact ⟨k + 1, gn, cn, _, _, c', q', rfl, by go_num, by omega, HLN2, HREL2, S10⟩
                case measure => simp [intOf]; omega
              · as_aux_lemma =>
                have HREL2 : Hid (Rel ((ms.set ix m').set ix ⟨0, 0, false⟩) (((rs.set ix ⟨at', own', last', z⟩)).set ix ⟨0, 0, false, false⟩) (k + 1)) := Lib.hid (by rw [List.set_set, List.set_set]; exact HREL.out.set ⟨⟨rfl, .inl ⟨rfl, rfl, rfl⟩⟩, rfl, by show (0 : Int) ≤ _; omega⟩)
                subst hzz
                have cb := S10.out.box.cell
                have ixm : ix < (ms.set ix m').length := by rw [HLN2.out.1]; exact hix9
                go_upto_region 21 with (fail)
                clear d3
                have hz17 : (Try.prog.info? 46).map (·.size) = some 17 := by kernel_rfl
                have hz4 : (Try.prog.info? 49).map (·.size) = some 4 := by kernel_rfl
                go_wp2_with fail
                refine (newArr n s _).mono ?_
                rintro e w9 ⟨rfl, hk9⟩
                have S11 := Lib.hid (S10.out.kept hk9)
                clear hk9 S10 cb
                obtain ⟨lsm, hlsm⟩ := S11.out.mach
                have HM11 := Lib.hid hlsm
                clear hlsm
                go_wp2_with (first
                  | (refine wpList_row rfl 46 (.tmp 114) (.tmp 112) rfl (k := 17) (i := ix) (f := ix * 17) [.int .i64 2, .int .i64 1, .int .i64 (n : Int), .int .i64 2, .int .i64 0, .int .i64 1, .int .i64 3, .int .i64 5, .int .i64 7, .int .i64 8, .int .i64 9, .int .i64 10, .int .i64 11, .int .i64 (s : Int), .int .u8 0, .int .i64 0, .bool false] rfl rfl HM11.out (by rw [List.length_append, List.length_map]; omega) rfl rfl hz17 (by simp [Value.oneCell']) ?_; intro w10 hP1 hP2; have S12 : Hid (TS w pb bb g mb sb gn cn n s (List.replicate s 0) ((ms.set ix m').set ix ⟨0, 0, false⟩) (rs.set ix ⟨at', own', last', true⟩) c' q' c' q' w10) := Lib.hid (S11.out.setmach ⟨lsm, by rw [List.map_set]; rw [← List.set_append_left _ _ (by rw [List.length_map]; exact ixm)]; exact hP1⟩ hP2); clear hP1 hP2 S11 HM11)
                  | (refine wpList_row rfl 49 (.tmp 115) (.tmp 113) rfl (k := 4) (i := ix) (f := ix * 4) [.int .i64 0, .int .i64 0, .bool false, .bool false] rfl rfl S12.out.refs (by rw [rrows, List.length_map, HLN2.out.2]; exact hix9) rfl rfl hz4 (by simp [Value.oneCell']) ?_; intro w11 hP1 hP2; have S13 : Hid (TS w pb bb g mb sb gn cn n s (List.replicate s 0) ((ms.set ix m').set ix ⟨0, 0, false⟩) ((rs.set ix ⟨at', own', last', true⟩).set ix ⟨0, 0, false, false⟩) c' q' c' q' w11) := Lib.hid (S12.out.setref hP1 hP2); clear hP1 hP2 S12)
                  | fail)
                clear hz17 hz4
                go_roundw
                case rel => exact ⟨k + 1, gn, cn, _, _, c', q', rfl, by go_num, by omega, Lib.hid (by simpa using HLN2.out), HREL2, S13⟩
                case measure => simp [intOf]; omega
          · as_aux_lemma =>
            go_wp2_with fail
            refine (awake_any _).mono ?_
            rintro e w5 ⟨rfl, hk5⟩
            go_wp2
            go_ret
            exact ⟨rfl, S5.out.kp.trans hk5⟩
end Go.Proofs.Ytghlpapljjcaeaa
