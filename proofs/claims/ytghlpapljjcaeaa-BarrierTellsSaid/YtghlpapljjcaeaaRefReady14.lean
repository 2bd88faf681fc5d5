/- The reference's Ready; its machine beside the program's (layer 14). -/
import Derived.Test.YtghlpapljjcaeaaRefStep14
import Derived.Test.YtghlpapljjcaeaaRegion
namespace Go.Proofs.Ytghlpapljjcaeaa
set_option linter.unusedVariables false
open Go.RowKit

/-- What the drawn region keeps. -/
structure RY (w : World) (lb : Nat) (lv : Array Value) (g cap : Nat) (xs : List Int) (W : World) : Prop where
  l : Blk W lb lv 28
  rb : RB W g cap xs
  kp : Kept w W
theorem RY.kept {w W W' : World} {lb g cap : Nat} {lv : Array Value} {xs : List Int} (h : RY w lb lv g cap xs W) (hk : Kept W W') : RY w lb lv g cap xs W' := ⟨h.l.kept hk, h.rb.kept hk, h.kp.trans hk⟩
/-- The reference's bank, newly laid. -/
structure RF (w W : World) (g cap : Nat) (xs : List Int) : Prop where
  rb : RB W g cap xs
  fr : w.heap.size ≤ g
theorem RF.kept {w W W' : World} {g cap : Nat} {xs : List Int} (h : RF w W g cap xs) (hk : Kept W W') : RF w W' g cap xs := ⟨h.rb.kept hk, h.fr⟩
set_option maxRecDepth 100000 in
set_option maxHeartbeats 4000000 in
theorem refReady {w : World} {g cap N : Nat} {xs : List Int} (n s : Int) (hr : RB w g cap xs) (hN : xs.length = N) (hm : N ≤ 1000000) :
    Calls Try.prog 12 #[.agg #[.int .i64 2, .int .i64 1, .int .i64 n, .int .i64 2, .int .i64 0, .int .i64 1, .int .i64 3, .int .i64 5, .int .i64 7, .int .i64 8, .int .i64 9, .int .i64 10, .int .i64 11, .int .i64 s], .slice (some ⟨g, 0, none⟩) N cap] w (PutN N (bq xs n 0) w) := by
  have HR := Lib.hid (hr.kept ((Upd.refl _ w).alloc (.cells #[.int .i64 2, .int .i64 1, .int .i64 n, .int .i64 2, .int .i64 0, .int .i64 1, .int .i64 3, .int .i64 5, .int .i64 7, .int .i64 8, .int .i64 9, .int .i64 10, .int .i64 11, .int .i64 s] 28)))
  have HL := Lib.hid (Blk.new w #[.int .i64 2, .int .i64 1, .int .i64 n, .int .i64 2, .int .i64 0, .int .i64 1, .int .i64 3, .int .i64 5, .int .i64 7, .int .i64 8, .int .i64 9, .int .i64 10, .int .i64 11, .int .i64 s] 28)
  have HK := Lib.hid ((Upd.refl (fun _ => False) w).alloc (.cells #[.int .i64 2, .int .i64 1, .int .i64 n, .int .i64 2, .int .i64 0, .int .i64 1, .int .i64 3, .int .i64 5, .int .i64 7, .int .i64 8, .int .i64 9, .int .i64 10, .int .i64 11, .int .i64 s] 28))
  clear hr
  go_enter Try.func12, Try.ntmps12
  go_upto_region 1 with (fail)
  obtain ⟨lb, hb4⟩ : ∃ lb, w.heap.size = lb := ⟨_, rfl⟩
  obtain ⟨W0, hW0⟩ : ∃ W0, w.alloc (.cells #[.int .i64 2, .int .i64 1, .int .i64 n, .int .i64 2, .int .i64 0, .int .i64 1, .int .i64 3, .int .i64 5, .int .i64 7, .int .i64 8, .int .i64 9, .int .i64 10, .int .i64 11, .int .i64 s] 28) = W0 := ⟨_, rfl⟩
  rw [hW0] at HR HL HK ⊢
  rw [hb4] at HL ⊢
  have HR0 := Lib.hid HR.out
  have HL0 := Lib.hid HL.out
  have HK0 := Lib.hid HK.out
  have hbw := Lib.hid hb4
  clear HR HL HK hW0 hb4
  have HRY : Hid (RY w lb #[.int .i64 2, .int .i64 1, .int .i64 n, .int .i64 2, .int .i64 0, .int .i64 1, .int .i64 3, .int .i64 5, .int .i64 7, .int .i64 8, .int .i64 9, .int .i64 10, .int .i64 11, .int .i64 s] g cap xs W0) := Lib.hid ⟨HL0.out, HR0.out, HK0.out⟩
  have hlen : (bput xs 9 n).length = N := by rw [length_bput]; exact hN
  have HLEN := Lib.hid hlen
  have HNN := Lib.hid hN
  clear HL0 HR0 HK0 hlen hN
  refine wp_region_inv (fun l us W => ∃ (b0 b1 b2 b3 b4 b5 b6 b7 b8 b9 : Bool) (v5 v6 v7 v8 v9 v10 v11 v12 v13 v4 : Value) (g5 c5 g8 c8 : Nat), l = #[b0, b1, b2, b3, b4, b5, b6, b7, b8, b9] ∧ us = [v5, v6, v7, v8, v9, v10, v11, v12, v13, v4] ∧ Hid (RY w lb #[.int .i64 2, .int .i64 1, .int .i64 n, .int .i64 2, .int .i64 0, .int .i64 1, .int .i64 3, .int .i64 5, .int .i64 7, .int .i64 8, .int .i64 9, .int .i64 10, .int .i64 11, .int .i64 s] g cap xs W) ∧
    Hid (b0 = true → v5 = .slice (some ⟨g, 0, none⟩) N cap) ∧
    Hid (b1 = true → v6 = .pointer (some ⟨lb, 10, none⟩)) ∧
    Hid (b2 = true → v7 = .int .i64 9) ∧
    Hid (b3 = true → v8 = .pointer (some ⟨lb, 2, none⟩)) ∧
    Hid (b4 = true → v9 = .int .i64 n) ∧
    Hid (b5 = true → v10 = .slice (some ⟨g5, 0, none⟩) N c5 ∧ RF w W g5 c5 (bput xs 9 n)) ∧
    Hid (b6 = true → v11 = .pointer (some ⟨lb, 11, none⟩)) ∧
    Hid (b7 = true → v12 = .int .i64 10) ∧
    Hid (b8 = true → v13 = .slice (some ⟨g8, 0, none⟩) N c8 ∧ RF w W g8 c8 (bq xs n 0)) ∧
    Hid (b9 = true → v4 = .slice (some ⟨g8, 0, none⟩) N c8 ∧ b8 = true)) [5, 6, 7, 8, 9, 10, 11, 12, 13, 4] [undef, undef, undef, undef, undef, undef, undef, undef, undef, .slice none 0 0] (by kernel_rfl) (by kernel_rfl) (by simp only [putAll, Act.put, List.setIfInBounds_toArray, List.set_cons_zero, List.set_cons_succ]) ?_ ?_ ?_
  · exact ⟨false, false, false, false, false, false, false, false, false, false, _, _, _, _, _, _, _, _, _, _, 0, 0, 0, 0, rfl, rfl, Lib.hid (HRY.out.kept (Upd.refl _ _).drew), Lib.hid (by simp), Lib.hid (by simp), Lib.hid (by simp), Lib.hid (by simp), Lib.hid (by simp), Lib.hid (by simp), Lib.hid (by simp), Lib.hid (by simp), Lib.hid (by simp), Lib.hid (by simp)⟩
  · rintro i l us W ⟨b0, b1, b2, b3, b4, b5, b6, b7, b8, b9, v5, v6, v7, v8, v9, v10, v11, v12, v13, v4, g5, c5, g8, c8, rfl, rfl, hI, h0, h1, h2, h3, h4, h5, h6, h7, h8, h9⟩ hr
    have hi : i = 0 ∨ i = 1 ∨ i = 2 ∨ i = 3 ∨ i = 4 ∨ i = 5 ∨ i = 6 ∨ i = 7 ∨ i = 8 ∨ i = 9 := by
      have := ready_lt hr
      simp at this
      omega
    rcases hi with rfl | rfl | rfl | rfl | rfl | rfl | rfl | rfl | rfl | rfl
    · skip
      obtain ⟨hn, hd⟩ := ready_at hr rfl
      simp [Region.binds] at hn hd
      refine wpOp_step rfl (fun K' hK => ?_)
      simp only [putAll, Act.put, List.setIfInBounds_toArray, List.set_cons_zero, List.set_cons_succ]
      go_simp
      exact hK _ _ ⟨_, by simp only [putAll, Act.put, List.setIfInBounds_toArray, List.set_cons_zero, List.set_cons_succ], true, b1, b2, b3, b4, b5, b6, b7, b8, b9, _, _, _, _, _, _, _, _, _, _, g5, c5, g8, c8, rfl, rfl, hI, Lib.hid (fun _ => rfl), h1, h2, h3, h4, h5, h6, h7, h8, h9⟩
    · skip
      obtain ⟨hn, hd⟩ := ready_at hr rfl
      simp [Region.binds] at hn hd
      refine wpOp_step rfl (fun K' hK => ?_)
      simp only [putAll, Act.put, List.setIfInBounds_toArray, List.set_cons_zero, List.set_cons_succ]
      go_simp
      exact hK _ _ ⟨_, by simp only [putAll, Act.put, List.setIfInBounds_toArray, List.set_cons_zero, List.set_cons_succ], b0, true, b2, b3, b4, b5, b6, b7, b8, b9, _, _, _, _, _, _, _, _, _, _, g5, c5, g8, c8, rfl, rfl, hI, h0, Lib.hid (fun _ => rfl), h2, h3, h4, h5, h6, h7, h8, h9⟩
    · skip
      obtain ⟨hn, hd⟩ := ready_at hr rfl
      simp [Region.binds] at hn hd
      obtain rfl := h1.out (by simp [hd])
      refine wpOp_step rfl (fun K' hK => ?_)
      simp only [putAll, Act.put, List.setIfInBounds_toArray, List.set_cons_zero, List.set_cons_succ]
      have cl := hI.out.l.cell
      go_simp
      exact hK _ _ ⟨_, by simp only [putAll, Act.put, List.setIfInBounds_toArray, List.set_cons_zero, List.set_cons_succ], b0, b1, true, b3, b4, b5, b6, b7, b8, b9, _, _, _, _, _, _, _, _, _, _, g5, c5, g8, c8, rfl, rfl, hI, h0, h1, Lib.hid (fun _ => rfl), h3, h4, h5, h6, h7, h8, h9⟩
    · skip
      obtain ⟨hn, hd⟩ := ready_at hr rfl
      simp [Region.binds] at hn hd
      refine wpOp_step rfl (fun K' hK => ?_)
      simp only [putAll, Act.put, List.setIfInBounds_toArray, List.set_cons_zero, List.set_cons_succ]
      go_simp
      exact hK _ _ ⟨_, by simp only [putAll, Act.put, List.setIfInBounds_toArray, List.set_cons_zero, List.set_cons_succ], b0, b1, b2, true, b4, b5, b6, b7, b8, b9, _, _, _, _, _, _, _, _, _, _, g5, c5, g8, c8, rfl, rfl, hI, h0, h1, h2, Lib.hid (fun _ => rfl), h4, h5, h6, h7, h8, h9⟩
    · skip
      obtain ⟨hn, hd⟩ := ready_at hr rfl
      simp [Region.binds] at hn hd
      obtain rfl := h3.out (by simp [hd])
      refine wpOp_step rfl (fun K' hK => ?_)
      simp only [putAll, Act.put, List.setIfInBounds_toArray, List.set_cons_zero, List.set_cons_succ]
      have cl := hI.out.l.cell
      go_simp
      exact hK _ _ ⟨_, by simp only [putAll, Act.put, List.setIfInBounds_toArray, List.set_cons_zero, List.set_cons_succ], b0, b1, b2, b3, true, b5, b6, b7, b8, b9, _, _, _, _, _, _, _, _, _, _, g5, c5, g8, c8, rfl, rfl, hI, h0, h1, h2, h3, Lib.hid (fun _ => rfl), h5, h6, h7, h8, h9⟩
    · skip
      obtain ⟨hn, hd⟩ := ready_at hr rfl
      simp [Region.binds] at hn hd
      obtain rfl := h0.out (by simp [hd])
      obtain rfl := h2.out (by simp [hd])
      obtain rfl := h4.out (by simp [hd])
      refine wpOp_step rfl (fun K' hK => ?_)
      simp only [putAll, Act.put, List.setIfInBounds_toArray, List.set_cons_zero, List.set_cons_succ]
      go_simp
      refine (refPutN hI.out.rb HNN.out 9 n rfl hm).mono ?_
      rintro e w' ⟨gn, cn, rfl, hRn, hgn, hk⟩
      exact hK _ _ ⟨_, by simp only [putAll, Act.put, List.setIfInBounds_toArray, List.set_cons_zero, List.set_cons_succ], b0, b1, b2, b3, b4, true, b6, b7, b8, b9, _, _, _, _, _, _, _, _, _, _, gn, cn, g8, c8, rfl, rfl, (Lib.hid (hI.out.kept hk)), h0, h1, h2, h3, h4, Lib.hid (fun _ => ⟨rfl, ⟨hRn, Nat.le_trans hI.out.kp.size hgn⟩⟩), h6, h7, Lib.hid (fun hb => ⟨(h8.out hb).1, (h8.out hb).2.kept hk⟩), h9⟩
    · skip
      obtain ⟨hn, hd⟩ := ready_at hr rfl
      simp [Region.binds] at hn hd
      refine wpOp_step rfl (fun K' hK => ?_)
      simp only [putAll, Act.put, List.setIfInBounds_toArray, List.set_cons_zero, List.set_cons_succ]
      go_simp
      exact hK _ _ ⟨_, by simp only [putAll, Act.put, List.setIfInBounds_toArray, List.set_cons_zero, List.set_cons_succ], b0, b1, b2, b3, b4, b5, true, b7, b8, b9, _, _, _, _, _, _, _, _, _, _, g5, c5, g8, c8, rfl, rfl, hI, h0, h1, h2, h3, h4, h5, Lib.hid (fun _ => rfl), h7, h8, h9⟩
    · skip
      obtain ⟨hn, hd⟩ := ready_at hr rfl
      simp [Region.binds] at hn hd
      obtain rfl := h6.out (by simp [hd])
      refine wpOp_step rfl (fun K' hK => ?_)
      simp only [putAll, Act.put, List.setIfInBounds_toArray, List.set_cons_zero, List.set_cons_succ]
      have cl := hI.out.l.cell
      go_simp
      exact hK _ _ ⟨_, by simp only [putAll, Act.put, List.setIfInBounds_toArray, List.set_cons_zero, List.set_cons_succ], b0, b1, b2, b3, b4, b5, b6, true, b8, b9, _, _, _, _, _, _, _, _, _, _, g5, c5, g8, c8, rfl, rfl, hI, h0, h1, h2, h3, h4, h5, h6, Lib.hid (fun _ => rfl), h8, h9⟩
    · skip
      obtain ⟨hn, hd⟩ := ready_at hr rfl
      simp [Region.binds] at hn hd
      obtain ⟨rfl, hR5⟩ := h5.out (by simp [hd])
      obtain rfl := h7.out (by simp [hd])
      refine wpOp_step rfl (fun K' hK => ?_)
      simp only [putAll, Act.put, List.setIfInBounds_toArray, List.set_cons_zero, List.set_cons_succ]
      go_simp
      refine (refPutN (ys := bq xs n 0) hR5.rb HLEN.out 10 0 rfl hm).mono ?_
      rintro e w' ⟨gn, cn, rfl, hRn, hgn, hk⟩
      exact hK _ _ ⟨_, by simp only [putAll, Act.put, List.setIfInBounds_toArray, List.set_cons_zero, List.set_cons_succ], b0, b1, b2, b3, b4, b5, b6, b7, true, b9, _, _, _, _, _, _, _, _, _, v4, g5, c5, gn, cn, rfl, rfl, (Lib.hid (hI.out.kept hk)), h0, h1, h2, h3, h4, Lib.hid (fun hb => ⟨(h5.out hb).1, (h5.out hb).2.kept hk⟩), h6, h7, Lib.hid (fun _ => ⟨rfl, ⟨hRn, Nat.le_trans hI.out.kp.size hgn⟩⟩), Lib.hid (fun hb => (by have := (h9.out hb).2; rw [hn] at this; cases this))⟩
    · skip
      obtain ⟨hn, hd⟩ := ready_at hr rfl
      simp [Region.binds] at hn hd
      obtain ⟨rfl, hR8⟩ := h8.out (by simp [hd])
      refine wpOp_step rfl (fun K' hK => ?_)
      simp only [putAll, Act.put, List.setIfInBounds_toArray, List.set_cons_zero, List.set_cons_succ]
      go_simp
      exact hK _ _ ⟨_, by simp only [putAll, Act.put, List.setIfInBounds_toArray, List.set_cons_zero, List.set_cons_succ], b0, b1, b2, b3, b4, b5, b6, b7, b8, true, _, _, _, _, _, _, _, _, _, _, g5, c5, g8, c8, rfl, rfl, hI, h0, h1, h2, h3, h4, h5, h6, h7, h8, Lib.hid (fun _ => ⟨rfl, (by simp [hd])⟩)⟩
  · rintro l us W ⟨b0, b1, b2, b3, b4, b5, b6, b7, b8, b9, v5, v6, v7, v8, v9, v10, v11, v12, v13, v4, g5, c5, g8, c8, rfl, rfl, hI, h0, h1, h2, h3, h4, h5, h6, h7, h8, h9⟩ hall
    as_aux_lemma =>
    obtain rfl : b0 = true := by simpa using hall 0
    obtain rfl : b1 = true := by simpa using hall 1
    obtain rfl : b2 = true := by simpa using hall 2
    obtain rfl : b3 = true := by simpa using hall 3
    obtain rfl : b4 = true := by simpa using hall 4
    obtain rfl : b5 = true := by simpa using hall 5
    obtain rfl : b6 = true := by simpa using hall 6
    obtain rfl : b7 = true := by simpa using hall 7
    obtain rfl : b8 = true := by simpa using hall 8
    obtain rfl : b9 = true := by simpa using hall 9
    obtain rfl := h0.out rfl
    obtain rfl := h1.out rfl
    obtain rfl := h2.out rfl
    obtain rfl := h3.out rfl
    obtain rfl := h4.out rfl
    obtain ⟨rfl, hG5⟩ := h5.out rfl
    obtain rfl := h6.out rfl
    obtain rfl := h7.out rfl
    obtain ⟨rfl, hG8⟩ := h8.out rfl
    obtain ⟨rfl, _⟩ := h9.out rfl
    simp only [putAll, Act.put, List.setIfInBounds_toArray, List.set_cons_zero, List.set_cons_succ]
    have HF : Hid (PutN N (bq xs n 0) w (.returned (.slice (some ⟨g8, 0, none⟩) N c8)) W) := Lib.hid ⟨_, _, rfl, hG8.rb, hG8.fr, hI.out.kp⟩
    clear hG8 hG5 hI HRY
    go_wp2
    go_ret
    exact HF.out
/-- A machine of the program beside one of the reference. -/
def Rl (m : MS) (at_ own : Int) (last : Bool) : Prop :=
  m.last = last ∧ ((m.nx = 0 ∧ at_ = 0 ∧ last = false) ∨ (m.nx = 1 ∧ at_ = 1 ∧ last = false ∧ m.own = own) ∨ (m.nx = 2 ∧ at_ = 2 ∧ last = true ∧ m.own = own) ∨ (m.nx = 3 ∧ at_ = 3 ∧ last = true ∧ m.own = own) ∨ (m.nx = 4 ∧ 2 ≤ at_ ∧ last = false ∧ m.own = own))
/-- What a step of the reference does. -/
def RefDoes (n s : Int) (N : Nat) (L : List Int) (c q at_ own : Int) (last : Bool) (c' q' at' own' : Int) (last' done' : Bool) : Prop :=
  ∀ (w : World) (g cap : Nat), RB w g cap (bq L c q) → Calls Try.prog 14 #[.agg #[.int .i64 at_, .int .i64 own, .bool last, .bool false], .agg #[.int .i64 2, .int .i64 1, .int .i64 n, .int .i64 2, .int .i64 0, .int .i64 1, .int .i64 3, .int .i64 5, .int .i64 7, .int .i64 8, .int .i64 9, .int .i64 10, .int .i64 11, .int .i64 s], .slice (some ⟨g, 0, none⟩) N cap] w (RefGo N (bq L c' q') at' own' last' done' g w)
theorem rl_step {n s : Int} {N : Nat} {L : List Int} (hN : L.length = N) (hl : 10 < N) (hmx : N ≤ 1000000) {m : MS} {at_ own : Int} {last : Bool} (h : Rl m at_ own last) (hb : at_ ≤ 1000) (c q : Int) :
    ∃ m' c' q' at' own' last' z, bgo n m c q = (m', c', q') ∧ (m'.nx == 5) = z ∧ 0 ≤ m.nx ∧ m.nx ≤ 5 ∧ m'.last = last' ∧ at' ≤ at_ + 1 ∧ (z = false → Rl m' at' own' last') ∧ RefDoes n s N L c q at_ own last c' q' at' own' last' z := by
  obtain ⟨nx, mo, ml⟩ := m
  obtain ⟨h0, h⟩ := h
  simp only at h0 h
  subst h0
  rcases h with ⟨rfl, rfl, rfl⟩ | ⟨rfl, rfl, rfl, rfl⟩ | ⟨rfl, rfl, rfl, rfl⟩ | ⟨rfl, rfl, rfl, rfl⟩ | ⟨rfl, h2, rfl, rfl⟩
  · exact ⟨⟨1, if q = 0 then 1 else 0, false⟩, c, q, 1, if q = 0 then 1 else 0, false, false, by simp [bgo], rfl, by simp, by simp, rfl, by decide, fun _ => ⟨rfl, .inr (.inl ⟨rfl, rfl, rfl, rfl⟩)⟩, fun w g cap hr => refS_0 n s own c q hr hN hl hmx _ rfl⟩
  · by_cases hr0 : wrap64 (c + -1) = 0
    · exact ⟨⟨2, mo, true⟩, 0, q, 2, mo, true, false, by simp [bgo, hr0], rfl, by simp, by simp, rfl, by decide, fun _ => ⟨rfl, .inr (.inr (.inl ⟨rfl, rfl, rfl, rfl⟩))⟩, fun w g cap hr => refS_1 n s mo c q hr hN hl hmx 0 hr0⟩
    · have hb0 : (wrap64 (c + -1) == 0) = false := by simpa using hr0
      refine ⟨⟨4, mo, false⟩, wrap64 (c + -1), q, 2, mo, false, false, by simp [bgo, hr0, hb0], rfl, by simp, by simp, rfl, by decide, fun _ => ⟨rfl, .inr (.inr (.inr (.inr ⟨rfl, by decide, rfl, rfl⟩)))⟩, fun w g cap hr => ?_⟩
      have := refS_1 n s mo c q hr hN hl hmx _ rfl
      rw [hb0] at this
      exact this
  · exact ⟨⟨3, mo, true⟩, n, q, 3, mo, true, false, by simp [bgo], rfl, by simp, by simp, rfl, by decide, fun _ => ⟨rfl, .inr (.inr (.inr (.inl ⟨rfl, rfl, rfl, rfl⟩)))⟩, fun w g cap hr => refS_2 n s mo c q hr hN hl hmx⟩
  · exact ⟨⟨5, mo, true⟩, c, mo, 4, mo, true, true, by simp [bgo], rfl, by simp, by simp, rfl, by decide, fun h => (by cases h), fun w g cap hr => refS_3 n s mo c q hr hN hl hmx⟩
  · by_cases hq : q = mo
    · refine ⟨⟨5, mo, false⟩, c, q, at_ + 1, mo, false, true, by simp [bgo, hq], rfl, by simp, by simp, rfl, by omega, fun h => (by cases h), fun w g cap hr => refS_4 n s mo c q hr hN hl hmx h2 hb true (by simp [hq])⟩
    · refine ⟨⟨4, mo, false⟩, c, q, at_ + 1, mo, false, false, by simp [bgo, hq], rfl, by simp, by simp, rfl, by omega, fun h => ⟨rfl, .inr (.inr (.inr (.inr ⟨rfl, by omega, rfl, rfl⟩)))⟩, fun w g cap hr => refS_4 n s mo c q hr hN hl hmx h2 hb false (by simpa using hq)⟩
end Go.Proofs.Ytghlpapljjcaeaa
