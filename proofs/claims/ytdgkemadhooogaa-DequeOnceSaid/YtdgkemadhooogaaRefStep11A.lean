/- acequiaref11.Step on any machine (printed by gen_refstep11.py). -/
import Derived.Test.YtdgkemadhooogaaRefStep11
import Derived.Test.YtdgkemadhooogaaRefPop11
import Derived.Test.YtdgkemadhooogaaDeqMid
import Derived.Deep.RegionHeld3
import Derived.Deep.CutRange
import Derived.StillTailTactics
import Derived.Deep.MidRow
namespace Go.Proofs.Ytdgkemadhooogaa
set_option linter.unusedVariables false
set_option linter.unusedSimpArgs false
open Go.RowKit
attribute [local go_sem] cell?_ext

set_option maxRecDepth 100000 in
set_option maxHeartbeats 8000000 in
theorem refS_pop {w : World} {g cap N : Nat} {xs : List Int} {l : Lay} {k : Int} {tp r : Nat} (v : Int) (hG : Geo l k tp r) (hr : RB w g cap xs) (hN : xs.length = N) (hm : N ≤ 1000000) {a t b x : Int} {gt of : Bool} (ha : 0 ≤ a ∧ a ≤ 5) (t2 b3 x2 : Int) (dn2 gt2 : Bool) (ys : List Int) (hpop : ∀ (W : World) (g' cap' : Nat), RB W g' cap' xs → Calls Try.prog 88 #[.agg (RMA l k v 1 (a + 1) t b x false gt of).toArray, .slice (some ⟨g', 0, none⟩) N cap', .int .i64 (tp : Int), .int .i64 ((tp : Int) + 1)] W (RefEnd N l k v 1 (a + 1) t2 b3 x2 dn2 gt2 of ys g' W)) :
    Calls Try.prog 51 #[.agg (RMA l k v 1 a t b x false gt of).toArray, .slice (some ⟨g, 0, none⟩) N cap] w (RefEnd N l k v 1 (a + 1) t2 b3 x2 dn2 gt2 of ys g w) := by
  have HTo := fun w => Lib.hid (refTop_g hG w)
  have HBo := fun w => Lib.hid (refBottom_g hG w)
  have HSl := fun j h0 h9 w => Lib.hid (refSlot_g hG j h0 h9 w)
  have hW0 := RS.start (l := l) (k := k) (v := v) (kn := 1) (a := a) (t := t) (b := b) (x := x) (dn := false) (gt := gt) (of := of) hr
  have HRO := Lib.hid hG.room
  have htp := hG.tp_le
  have HN := Lib.hid hN
  clear hG hr hN
  obtain ⟨verts, arcs, workers, room, res, lex, hh, flag, pending, ask, count, sense, deques, size⟩ := l
  simp only [Lay.val, Lay.vals] at HTo HBo HSl
  simp only [RMA] at hW0 ⊢
  simp only [RMA] at hpop
  have HPP := Lib.hid hpop
  clear hpop
  have hz24 : (Try.prog.info? 73).map (·.size) = some 24 := by kernel_rfl
  have HZ := Lib.hid hz24
  clear hz24
  go_enter Try.func51, Try.ntmps51
  go_upto_region 1 with (fail)
  generalize ((w.alloc (.cells #[.int .i64 1, .int .i64 a, .int .i64 k, .int .i64 verts, .int .i64 arcs, .int .i64 workers, .int .i64 room, .int .i64 res, .int .i64 lex, .int .i64 hh, .int .i64 flag, .int .i64 pending, .int .i64 ask, .int .i64 count, .int .i64 sense, .int .i64 deques, .int .i64 size, .int .i64 v, .int .i64 t, .int .i64 b, .int .i64 x, .bool false, .bool gt, .bool of] 73)).alloc (.cells #[.int .i64 0, .int .i64 0, .int .i64 0, .int .i64 0, .int .i64 0, .int .i64 0, .int .i64 0, .int .i64 0, .int .i64 0, .int .i64 0, .int .i64 0, .int .i64 0, .int .i64 0, .int .i64 0, .int .i64 0, .int .i64 0, .int .i64 0, .int .i64 0, .int .i64 0, .int .i64 0, .int .i64 0, .bool false, .bool false, .bool false] 73)) = W0 at hW0 ⊢
  have hW0 : RS w g w.heap.size (w.heap.size + 1) (⟨verts, arcs, workers, room, res, lex, hh, flag, pending, ask, count, sense, deques, size⟩ : Lay) k v 1 a t b x false gt of g cap xs W0 := hW0
  generalize w.heap.size + 1 = b4 at hW0 ⊢
  generalize hb2 : w.heap.size = b2 at hW0 ⊢
  clear hb2
  have S := Lib.hid hW0
  clear hW0
  have hwa : wrap64 (a + 1) = a + 1 := by unfold wrap64; omega
  have m2 : ∀ i : Nat, W0.cell? ⟨b2, i, none⟩ = (#[.int .i64 1, .int .i64 a, .int .i64 k, .int .i64 verts, .int .i64 arcs, .int .i64 workers, .int .i64 room, .int .i64 res, .int .i64 lex, .int .i64 hh, .int .i64 flag, .int .i64 pending, .int .i64 ask, .int .i64 count, .int .i64 sense, .int .i64 deques, .int .i64 size, .int .i64 v, .int .i64 t, .int .i64 b, .int .i64 x, .bool false, .bool gt, .bool of] : Array Value)[i]? := S.out.m.cell
  have f2 : ∀ i : Nat, W0.frozen? ⟨b2, i, none⟩ = false := S.out.m.free
  go_upto_region 3 with (fail)
  refine wp_region_kept (by kernel_rfl) (by kernel_rfl) ?_
  repeat (go_big_quiet_step ((first | (go_at_call 54; exact kept_call (HTo _).out) | (go_at_call 55; exact kept_call (HBo _).out))))
  refine wpQuiet_nil ?_
  intro W1 hk
  have S1 := Lib.hid (S.out.kept hk)
  clear m2 f2 hk S
  have m2 : ∀ i : Nat, W1.cell? ⟨b2, i, none⟩ = (#[.int .i64 1, .int .i64 a, .int .i64 k, .int .i64 verts, .int .i64 arcs, .int .i64 workers, .int .i64 room, .int .i64 res, .int .i64 lex, .int .i64 hh, .int .i64 flag, .int .i64 pending, .int .i64 ask, .int .i64 count, .int .i64 sense, .int .i64 deques, .int .i64 size, .int .i64 v, .int .i64 t, .int .i64 b, .int .i64 x, .bool false, .bool gt, .bool of] : Array Value)[i]? := S1.out.m.cell
  have f2 : ∀ i : Nat, W1.frozen? ⟨b2, i, none⟩ = false := S1.out.m.free
  go_upto_region 5 with (fail)
  have S2 := Lib.hid (S1.out.upd (i := 1) (u := .int .i64 (a + 1)) rfl)
  clear m2 f2 S1 hwa
  generalize World.setCell _ ⟨b2, 1, none⟩ _ = WS2 at S2 ⊢
  have m2 : ∀ i : Nat, WS2.cell? ⟨b2, i, none⟩ = (#[.int .i64 1, .int .i64 (a + 1), .int .i64 k, .int .i64 verts, .int .i64 arcs, .int .i64 workers, .int .i64 room, .int .i64 res, .int .i64 lex, .int .i64 hh, .int .i64 flag, .int .i64 pending, .int .i64 ask, .int .i64 count, .int .i64 sense, .int .i64 deques, .int .i64 size, .int .i64 v, .int .i64 t, .int .i64 b, .int .i64 x, .bool false, .bool gt, .bool of] : Array Value)[i]? := S2.out.m.cell
  have f2 : ∀ i : Nat, WS2.frozen? ⟨b2, i, none⟩ = false := S2.out.m.free
  go_upto_region 19 with (fail)
  clear m2 f2
  have hra : WS2.rangeAt b2 0 [.int .i64 1, .int .i64 (a + 1), .int .i64 k, .int .i64 verts, .int .i64 arcs, .int .i64 workers, .int .i64 room, .int .i64 res, .int .i64 lex, .int .i64 hh, .int .i64 flag, .int .i64 pending, .int .i64 ask, .int .i64 count, .int .i64 sense, .int .i64 deques, .int .i64 size, .int .i64 v, .int .i64 t, .int .i64 b, .int .i64 x, .bool false, .bool gt, .bool of] := Blk.range S2.out.m
  have hz24 := HZ.out
  go_wp2_with (first | (refine wpList_load_mid rfl _ _ rfl b2 0 rfl [.int .i64 1, .int .i64 (a + 1), .int .i64 k, .int .i64 verts, .int .i64 arcs, .int .i64 workers, .int .i64 room, .int .i64 res, .int .i64 lex, .int .i64 hh, .int .i64 flag, .int .i64 pending, .int .i64 ask, .int .i64 count, .int .i64 sense, .int .i64 deques, .int .i64 size, .int .i64 v, .int .i64 t, .int .i64 b, .int .i64 x, .bool false, .bool gt, .bool of] _ hra Try.underlying73 rfl hz24 ?_) | fail)
  refine (HPP.out _ _ _ S2.out.rb).mono ?_
  rintro e w3 ⟨g3, cap3, rfl, hR3, hk3, hg3⟩
  have hr3 := S2.out.r.kept hk3
  have hth := Blk.there hr3 24 rfl
  obtain ⟨W9, hW9⟩ : ∃ W9, w3.setCells b4 0 [.int .i64 1, .int .i64 (a + 1), .int .i64 k, .int .i64 verts, .int .i64 arcs, .int .i64 workers, .int .i64 room, .int .i64 res, .int .i64 lex, .int .i64 hh, .int .i64 flag, .int .i64 pending, .int .i64 ask, .int .i64 count, .int .i64 sense, .int .i64 deques, .int .i64 size, .int .i64 v, .int .i64 t2, .int .i64 b3, .int .i64 x2, .bool dn2, .bool gt2, .bool of] = W9 := ⟨_, rfl⟩
  have hB9 : Blk W9 b4 #[.int .i64 1, .int .i64 (a + 1), .int .i64 k, .int .i64 verts, .int .i64 arcs, .int .i64 workers, .int .i64 room, .int .i64 res, .int .i64 lex, .int .i64 hh, .int .i64 flag, .int .i64 pending, .int .i64 ask, .int .i64 count, .int .i64 sense, .int .i64 deques, .int .i64 size, .int .i64 v, .int .i64 t2, .int .i64 b3, .int .i64 x2, .bool dn2, .bool gt2, .bool of] 73 ∧ Upd (fun k => k = b4) w3 W9 := by rw [← hW9]; exact Blk.alls hr3 [.int .i64 1, .int .i64 (a + 1), .int .i64 k, .int .i64 verts, .int .i64 arcs, .int .i64 workers, .int .i64 room, .int .i64 res, .int .i64 lex, .int .i64 hh, .int .i64 flag, .int .i64 pending, .int .i64 ask, .int .i64 count, .int .i64 sense, .int .i64 deques, .int .i64 size, .int .i64 v, .int .i64 t2, .int .i64 b3, .int .i64 x2, .bool dn2, .bool gt2, .bool of] rfl
  have hr9 : W9.rangeAt b4 0 [.int .i64 1, .int .i64 (a + 1), .int .i64 k, .int .i64 verts, .int .i64 arcs, .int .i64 workers, .int .i64 room, .int .i64 res, .int .i64 lex, .int .i64 hh, .int .i64 flag, .int .i64 pending, .int .i64 ask, .int .i64 count, .int .i64 sense, .int .i64 deques, .int .i64 size, .int .i64 v, .int .i64 t2, .int .i64 b3, .int .i64 x2, .bool dn2, .bool gt2, .bool of] := Blk.range hB9.1
  have hlv := run_loadVar_mid (P := Try.prog) W9 b4 0 73 [.int .i64 1, .int .i64 (a + 1), .int .i64 k, .int .i64 verts, .int .i64 arcs, .int .i64 workers, .int .i64 room, .int .i64 res, .int .i64 lex, .int .i64 hh, .int .i64 flag, .int .i64 pending, .int .i64 ask, .int .i64 count, .int .i64 sense, .int .i64 deques, .int .i64 size, .int .i64 v, .int .i64 t2, .int .i64 b3, .int .i64 x2, .bool dn2, .bool gt2, .bool of] _ hr9 Try.underlying73 rfl hz24
  have HF : Hid (RefEnd N (⟨verts, arcs, workers, room, res, lex, hh, flag, pending, ask, count, sense, deques, size⟩ : Lay) k v 1 (a + 1) t2 b3 x2 dn2 gt2 of ys g w (.returned (.tuple #[.agg #[.int .i64 1, .int .i64 (a + 1), .int .i64 k, .int .i64 verts, .int .i64 arcs, .int .i64 workers, .int .i64 room, .int .i64 res, .int .i64 lex, .int .i64 hh, .int .i64 flag, .int .i64 pending, .int .i64 ask, .int .i64 count, .int .i64 sense, .int .i64 deques, .int .i64 size, .int .i64 v, .int .i64 t2, .int .i64 b3, .int .i64 x2, .bool dn2, .bool gt2, .bool of], .slice (some ⟨g3, 0, none⟩) N cap3])) W9) := Lib.hid (by
    have q1 := S2.out.ne
    have q2 := S2.out.r.lt
    have q3 := S2.out.kp.size
    have q4 := S2.out.gn
    exact ⟨g3, cap3, rfl, hR3.upd hB9.2 (by omega), (S2.out.kp.trans hk3).then hB9.2 (fun i hi e => by omega), by omega⟩)
  clear hB9 hr9 hr3 S2 hR3 hk3 hg3 hra HPP
  simp only [RMA]
  go_wp2_with (first | (refine wpList_store_mid rfl _ _ _ rfl b4 0 #[.int .i64 1, .int .i64 (a + 1), .int .i64 k, .int .i64 verts, .int .i64 arcs, .int .i64 workers, .int .i64 room, .int .i64 res, .int .i64 lex, .int .i64 hh, .int .i64 flag, .int .i64 pending, .int .i64 ask, .int .i64 count, .int .i64 sense, .int .i64 deques, .int .i64 size, .int .i64 v, .int .i64 t2, .int .i64 b3, .int .i64 x2, .bool dn2, .bool gt2, .bool of] rfl rfl hth hz24 (all_oneCell_toArray (cs := [.int .i64 1, .int .i64 (a + 1), .int .i64 k, .int .i64 verts, .int .i64 arcs, .int .i64 workers, .int .i64 room, .int .i64 res, .int .i64 lex, .int .i64 hh, .int .i64 flag, .int .i64 pending, .int .i64 ask, .int .i64 count, .int .i64 sense, .int .i64 deques, .int .i64 size, .int .i64 v, .int .i64 t2, .int .i64 b3, .int .i64 x2, .bool dn2, .bool gt2, .bool of]) (by simp [Value.oneCell'])) ?_; simp only [hW9]) | fail)
  clear hth hW9
  exact bodyPost_ret (v := .tuple #[.agg #[.int .i64 1, .int .i64 (a + 1), .int .i64 k, .int .i64 verts, .int .i64 arcs, .int .i64 workers, .int .i64 room, .int .i64 res, .int .i64 lex, .int .i64 hh, .int .i64 flag, .int .i64 pending, .int .i64 ask, .int .i64 count, .int .i64 sense, .int .i64 deques, .int .i64 size, .int .i64 v, .int .i64 t2, .int .i64 b3, .int .i64 x2, .bool dn2, .bool gt2, .bool of], .slice (some ⟨g3, 0, none⟩) N cap3]) (by simp [results, Try.results51, hlv, asAddr, Act.put]) rfl HF.out

def knOf : Kd → Int
  | .push _ => 0
  | .pop => 1
  | .steal => 2
def vOf : Kd → Int
  | .push v => v
  | _ => 0
def offOf (kd : Kd) (s : KS) : Bool := match kd with
  | .push _ => s.m.done && !s.m.got
  | .pop => false
  | .steal => s.lo
/-- What a step of the reference asks. -/
def RInv (tp : Nat) (kd : Kd) (s : KS) : Prop := KInv tp kd s ∧ (s.m.done = false → match kd with
  | .push _ => s.m.got = false ∧ (s.m.a = 3 → 0 ≤ s.m.b)
  | .pop => s.m.a ≤ 4 → s.m.got = false
  | .steal => s.m.got = false ∧ s.lo = false)
def RKEnd (N : Nat) (l : Lay) (k : Int) (kd : Kd) (s : KS) (g : Nat) (w : World) : Ending → World → Prop :=
  RefEnd N l k (vOf kd) (knOf kd) s.m.a s.m.t s.m.b s.m.x s.m.done s.m.got (offOf kd s) s.xs g w
theorem kstep_len (tp r : Nat) (kd : Kd) (s : KS) : (kstep tp r kd s).xs.length = s.xs.length := by
  cases kd
  · simp only [kstep, pushS]; (repeat' split) <;> simp [bput_len]
  · simp only [kstep, popS]; (repeat' split) <;> simp [bput_len]
  · simp only [kstep, stealS]; (repeat' split) <;> simp [bput_len]
theorem refStep_any {w : World} {g cap N : Nat} {l : Lay} {k : Int} {tp r : Nat} (kd : Kd) (s : KS) (hG : Geo l k tp r) (hr : RB w g cap s.xs) (hN : s.xs.length = N) (hm : N ≤ 1000000) (hi : RInv tp kd s) :
    Calls Try.prog 51 #[.agg (RMA l k (vOf kd) (knOf kd) s.m.a s.m.t s.m.b s.m.x s.m.done s.m.got (offOf kd s)).toArray, .slice (some ⟨g, 0, none⟩) N cap] w (RKEnd N l k kd (kstep tp r kd s) g w) := by
  obtain ⟨⟨a, t, b, x, dn, gt⟩, lo, xs⟩ := s
  obtain ⟨hk, hq⟩ := hi
  cases dn with
  | true =>
    rw [kstep_done tp r kd _ rfl]
    exact refS_done _ hG hr hN hm
  | false =>
    have hq := hq rfl
    cases kd with
    | push v =>
      obtain ⟨h1, h2, h3, h4⟩ := hk
      have h1 := h1 rfl
      simp only at h1 h2 h3 h4 hq hr hN
      obtain ⟨rfl, hb3⟩ := hq
      have ha : a = 0 ∨ a = 1 ∨ a = 2 ∨ a = 3 := by omega
      rcases ha with rfl | rfl | rfl | rfl
      · have e : kstep tp r (.push v) ⟨⟨0, t, b, x, false, false⟩, lo, xs⟩ = ⟨⟨1, t, bget xs ((tp : Int) + 1), x, false, false⟩, lo, xs⟩ := by simp [kstep, pushS]
        rw [e]
        exact refS_p0 v hG hr hN hm _ rfl
      · obtain ⟨z, hz⟩ : ∃ z, decide (l.room ≤ b - bget xs (tp : Int)) = z := ⟨_, rfl⟩
        have e : kstep tp r (.push v) ⟨⟨1, t, b, x, false, false⟩, lo, xs⟩ = ⟨⟨2, bget xs (tp : Int), b, x, z, false⟩, lo, xs⟩ := by
          rw [hG.room] at hz
          subst hz
          by_cases q : ((2 ^ r : Nat) : Int) ≤ b - bget xs (tp : Int)
          · rw [decide_eq_true q]
            simp only [kstep, pushS]
            rw [if_pos q]
            rfl
          · rw [decide_eq_false q]
            simp only [kstep, pushS]
            rw [if_neg q]
            rfl
        rw [e]
        have e2 : offOf (.push v) ⟨⟨2, bget xs (tp : Int), b, x, z, false⟩, lo, xs⟩ = z := by simp [offOf]
        show Calls _ _ _ _ (RefEnd _ _ _ _ _ _ _ _ _ _ _ _ _ _ _)
        rw [e2]
        exact refS_p1 v hG hr hN hm _ rfl z hz (show -1 ≤ b ∧ b ≤ 1000000 from ⟨by omega, by omega⟩) (show 0 ≤ bget xs (tp : Int) ∧ bget xs (tp : Int) ≤ 1000000 from ⟨by omega, by omega⟩)
      · have e : kstep tp r (.push v) ⟨⟨2, t, b, x, false, false⟩, lo, xs⟩ = ⟨⟨3, t, b, x, false, false⟩, lo, bput xs (slot tp r b) v⟩ := by simp [kstep, pushS]
        rw [e]
        exact refS_p2 v hG hr hN hm _ rfl (show 0 ≤ b ∧ b ≤ 1000000 from ⟨h3 rfl, by omega⟩)
      · have e : kstep tp r (.push v) ⟨⟨3, t, b, x, false, false⟩, lo, xs⟩ = ⟨⟨4, t, b, x, true, true⟩, lo, bput xs ((tp : Int) + 1) (b + 1)⟩ := by simp [kstep, pushS]
        rw [e]
        exact refS_p3 v hG hr hN hm _ rfl (show 0 ≤ b ∧ b ≤ 1000000 from ⟨hb3 rfl, by omega⟩)
    | steal =>
      obtain ⟨h1, h2, h3⟩ := hk
      have h1 := h1 rfl
      simp only at h1 h2 h3 hq hr hN
      obtain ⟨rfl, rfl⟩ := hq
      have ha : a = 0 ∨ a = 1 ∨ a = 2 ∨ a = 3 := by omega
      rcases ha with rfl | rfl | rfl | rfl
      · have e : kstep tp r .steal ⟨⟨0, t, b, x, false, false⟩, false, xs⟩ = ⟨⟨1, bget xs (tp : Int), b, x, false, false⟩, false, xs⟩ := by simp [kstep, stealS, lostS]
        rw [e]
        exact refS_s0 _ hG hr hN hm _ rfl
      · obtain ⟨z, hz⟩ : ∃ z, decide (bget xs ((tp : Int) + 1) ≤ t) = z := ⟨_, rfl⟩
        have e : kstep tp r .steal ⟨⟨1, t, b, x, false, false⟩, false, xs⟩ = ⟨⟨2, t, bget xs ((tp : Int) + 1), x, z, false⟩, false, xs⟩ := by
          subst hz
          simp only [kstep, stealS, lostS]
          by_cases q : bget xs ((tp : Int) + 1) ≤ t
          · simp [q]
          · simp [q]
        rw [e]
        exact refS_s1 _ hG hr hN hm _ rfl z hz
      · have e : kstep tp r .steal ⟨⟨2, t, b, x, false, false⟩, false, xs⟩ = ⟨⟨3, t, b, bget xs (slot tp r t), false, false⟩, false, xs⟩ := by simp [kstep, stealS, lostS]
        rw [e]
        exact refS_s2 _ hG hr hN hm _ rfl (show 0 ≤ t ∧ t ≤ 1000000 from ⟨by omega, by omega⟩)
      · obtain ⟨z, hz⟩ : ∃ z, decide (bget xs (tp : Int) = t) = z := ⟨_, rfl⟩
        have e : kstep tp r .steal ⟨⟨3, t, b, x, false, false⟩, false, xs⟩ = ⟨⟨4, t, b, x, true, z⟩, !z, (if z = true then bput xs (tp : Int) (t + 1) else xs)⟩ := by
          subst hz
          simp only [kstep, stealS, lostS]
          by_cases q : bget xs (tp : Int) = t
          · simp [q]
          · simp [q]
        rw [e]
        exact refS_s3 _ hG hr hN hm _ rfl z (by rw [← hz]; rfl) _ rfl (show 0 ≤ t ∧ t ≤ 1000000 from ⟨by omega, by omega⟩)
    | pop =>
      obtain ⟨h1, h2, h3, h4, h5⟩ := hk
      have h1 := h1 rfl
      simp only at h1 h2 h3 h4 h5 hq hr hN
      have ha : a = 0 ∨ a = 1 ∨ a = 2 ∨ a = 3 ∨ a = 4 ∨ a = 5 := by omega
      rcases ha with rfl | rfl | rfl | rfl | rfl | rfl
      · have e : kstep tp r .pop ⟨⟨0, t, b, x, false, gt⟩, lo, xs⟩ = ⟨⟨0 + 1, t, bget xs ((tp : Int) + 1) - 1, x, false, gt⟩, lo, xs⟩ := by simp [kstep, popS]
        rw [e]
        exact refS_pop _ hG hr hN hm (show (0 : Int) ≤ 0 ∧ (0 : Int) ≤ 5 from by decide) _ _ _ _ _ _ (fun W g' cap' h => refQ_1 _ hG h hN hm _ rfl (h4 rfl))
      · have e : kstep tp r .pop ⟨⟨1, t, b, x, false, gt⟩, lo, xs⟩ = ⟨⟨1 + 1, t, b, x, false, gt⟩, lo, bput xs ((tp : Int) + 1) b⟩ := by simp [kstep, popS]
        rw [e]
        exact refS_pop _ hG hr hN hm (show (0 : Int) ≤ 1 ∧ (1 : Int) ≤ 5 from by decide) _ _ _ _ _ _ (fun W g' cap' h => refQ_2 _ hG h hN hm _ rfl)
      · have e : kstep tp r .pop ⟨⟨2, t, b, x, false, gt⟩, lo, xs⟩ = ⟨⟨2 + 1, bget xs (tp : Int), b, x, false, gt⟩, lo, xs⟩ := by simp [kstep, popS]
        rw [e]
        exact refS_pop _ hG hr hN hm (show (0 : Int) ≤ 2 ∧ (2 : Int) ≤ 5 from by decide) _ _ _ _ _ _ (fun W g' cap' h => refQ_3 _ hG h hN hm _ rfl)
      · obtain rfl := hq (by omega)
        by_cases q : b < t
        · have e : kstep tp r .pop ⟨⟨3, t, b, x, false, false⟩, lo, xs⟩ = ⟨⟨3 + 1, t, b, x, true, false⟩, lo, bput xs ((tp : Int) + 1) (b + 1)⟩ := by simp [kstep, popS, q]
          rw [e]
          exact refS_pop _ hG hr hN hm (show (0 : Int) ≤ 3 ∧ (3 : Int) ≤ 5 from by decide) _ _ _ _ _ _ (fun W g' cap' h => refQ_4n _ hG h hN hm _ rfl q (show -1 ≤ b ∧ b ≤ 1000000 from ⟨by omega, by omega⟩))
        · obtain ⟨z, hz⟩ : ∃ z, decide (t < b) = z := ⟨_, rfl⟩
          have e : kstep tp r .pop ⟨⟨3, t, b, x, false, false⟩, lo, xs⟩ = ⟨⟨3 + 1, t, b, bget xs (slot tp r b), z, z⟩, lo, xs⟩ := by
            subst hz
            simp only [kstep, popS]
            by_cases q2 : t < b
            · simp [q, q2]
            · simp [q, q2]
          rw [e]
          exact refS_pop _ hG hr hN hm (show (0 : Int) ≤ 3 ∧ (3 : Int) ≤ 5 from by decide) _ _ _ _ _ _ (fun W g' cap' h => refQ_4s _ hG h hN hm _ rfl q (show 0 ≤ b ∧ b ≤ 1000000 from ⟨by omega, by omega⟩) z hz)
      · obtain rfl := hq (by omega)
        by_cases q : bget xs (tp : Int) = t
        · have e : kstep tp r .pop ⟨⟨4, t, b, x, false, false⟩, lo, xs⟩ = ⟨⟨4 + 1, t, b, x, false, true⟩, lo, bput xs (tp : Int) (t + 1)⟩ := by simp [kstep, popS, q]
          rw [e]
          exact refS_pop _ hG hr hN hm (show (0 : Int) ≤ 4 ∧ (4 : Int) ≤ 5 from by decide) _ _ _ _ _ _ (fun W g' cap' h => refQ_5t _ hG h hN hm _ rfl (by simpa using q) _ rfl (show 0 ≤ t ∧ t ≤ 1000000 from ⟨by omega, by omega⟩))
        · have e : kstep tp r .pop ⟨⟨4, t, b, x, false, false⟩, lo, xs⟩ = ⟨⟨4 + 1, t, b, x, false, false⟩, lo, xs⟩ := by simp [kstep, popS, q]
          rw [e]
          exact refS_pop _ hG hr hN hm (show (0 : Int) ≤ 4 ∧ (4 : Int) ≤ 5 from by decide) _ _ _ _ _ _ (fun W g' cap' h => refQ_5f _ hG h hN hm _ rfl (by simpa using q))
      · have e : kstep tp r .pop ⟨⟨5, t, b, x, false, gt⟩, lo, xs⟩ = ⟨⟨5 + 1, t, b, x, true, gt⟩, lo, bput xs ((tp : Int) + 1) (b + 1)⟩ := by simp [kstep, popS]
        rw [e]
        exact refS_pop _ hG hr hN hm (show (0 : Int) ≤ 5 ∧ (5 : Int) ≤ 5 from by decide) _ _ _ _ _ _ (fun W g' cap' h => refQ_6 _ hG h hN hm _ rfl (show -1 ≤ b ∧ b ≤ 1000000 from ⟨by omega, by omega⟩))
end Go.Proofs.Ytdgkemadhooogaa
