/- The reference's table (layer 14). -/
import Derived.Test.YtghlpapljjcaeaaBarGo
import Derived.Test.YtghlpapljjcaeaaRefBank
import Derived.Deep.RegionHeld3
import Derived.Deep.CutRange
import Derived.StillTailTactics
namespace Go.Proofs.Ytghlpapljjcaeaa
set_option linter.unusedVariables false
open Go.RowKit

theorem refLoadN {g cap N : Nat} {xs : List Int} {w : World} (hr : RB w g cap xs) (hN : xs.length = N) (i r : Int) (hb : bget xs i = r) (hm : N ≤ 1000000) :
    Calls Try.prog 26 #[.slice (some ⟨g, 0, none⟩) N cap, .int .i64 i] w fun e w' => e = .returned (.int .i64 r) ∧ w = w' := by
  subst hN hb; exact refLoad_any hr i hm
def PutN (N : Nat) (xs : List Int) (w : World) (e : Ending) (w' : World) : Prop := ∃ g cap, e = .returned (.slice (some ⟨g, 0, none⟩) N cap) ∧ RB w' g cap xs ∧ w.heap.size ≤ g ∧ Kept w w'
theorem refPutN {g cap N : Nat} {xs ys : List Int} {w : World} (hr : RB w g cap xs) (hN : xs.length = N) (i v : Int) (hy : bput xs i v = ys) (hm : N ≤ 1000000) :
    Calls Try.prog 25 #[.slice (some ⟨g, 0, none⟩) N cap, .int .i64 i, .int .i64 v] w (PutN N ys w) := by
  subst hN hy
  refine (refPut_any hr i v hm).mono fun e w' ⟨g', c', h1, h2⟩ => ⟨g', c', ?_, h2⟩
  rw [h1, length_bput]
/-- What a step of the reference holds. -/
structure RS (w : World) (g0 b3 b4 b6 : Nat) (n s at_ own : Int) (last done : Bool) (g cap : Nat) (xs : List Int) (W : World) : Prop where
  m : Blk W b3 #[.int .i64 at_, .int .i64 own, .bool last, .bool done] 49
  l : Blk W b4 #[.int .i64 2, .int .i64 1, .int .i64 n, .int .i64 2, .int .i64 0, .int .i64 1, .int .i64 3, .int .i64 5, .int .i64 7, .int .i64 8, .int .i64 9, .int .i64 10, .int .i64 11, .int .i64 s] 28
  r : Blk W b6 #[.int .i64 0, .int .i64 0, .bool false, .bool false] 49
  rb : RB W g cap xs
  kp : Kept w W
  ne : w.heap.size ≤ b3 ∧ w.heap.size ≤ b6 ∧ ¬ b3 = b4 ∧ ¬ b3 = b6 ∧ ¬ b4 = b6 ∧ ¬ b3 = g ∧ ¬ b6 = g
  gn : g = g0 ∨ w.heap.size ≤ g
section
variable {w W W' : World} {g0 b3 b4 b6 g cap : Nat} {n s at_ own : Int} {last done : Bool} {xs : List Int}
theorem RS.kept (h : RS w g0 b3 b4 b6 n s at_ own last done g cap xs W) (hk : Kept W W') : RS w g0 b3 b4 b6 n s at_ own last done g cap xs W' := ⟨h.m.kept hk, h.l.kept hk, h.r.kept hk, h.rb.kept hk, h.kp.trans hk, h.ne, h.gn⟩
theorem RS.mem (h : RS w g0 b3 b4 b6 n s at_ own last done g cap xs W) (hk : Kept W W') {g' cap' : Nat} {ys : List Int} (hr : RB W' g' cap' ys) (hg : W.heap.size ≤ g') : RS w g0 b3 b4 b6 n s at_ own last done g' cap' ys W' := by
  have h1 := h.m.lt
  have h2 := h.r.lt
  have h3 := h.ne
  exact ⟨h.m.kept hk, h.l.kept hk, h.r.kept hk, hr, h.kp.trans hk, by omega, .inr (Nat.le_trans h.kp.size hg)⟩
theorem RS.upd (h : RS w g0 b3 b4 b6 n s at_ own last done g cap xs W) {v : Value} {i : Nat} {at' own' : Int} {last' done' : Bool} (hv : #[.int .i64 at_, .int .i64 own, .bool last, .bool done].setIfInBounds i v = #[.int .i64 at', .int .i64 own', .bool last', .bool done']) :
    RS w g0 b3 b4 b6 n s at' own' last' done' g cap xs (W.setCell ⟨b3, i, none⟩ v) := by
  have h3 := h.ne
  have hu : Upd (fun k => k = b3) W (W.setCell ⟨b3, i, none⟩ v) := updCell W b3 i v
  refine ⟨?_, h.l.upd hu (fun e => by omega), h.r.upd hu (fun e => by omega), h.rb.upd hu (fun e => by omega), h.kp.then hu (fun i hi e => by omega), h3, h.gn⟩
  have := h.m.set i v
  rw [hv] at this
  exact this
end
/-- What the reference's step answers. -/
def RefGo (N : Nat) (xs : List Int) (at_ own : Int) (last done : Bool) (g0 : Nat) (w : World) (e : Ending) (w' : World) : Prop := ∃ g cap, e = .returned (.tuple #[.agg #[.int .i64 at_, .int .i64 own, .bool last, .bool done], .slice (some ⟨g, 0, none⟩) N cap]) ∧ RB w' g cap xs ∧ Kept w w' ∧ (g = g0 ∨ w.heap.size ≤ g)
theorem RS.end_ {w W : World} {g0 b3 b4 b6 g cap : Nat} {n s at_ own : Int} {last done : Bool} {xs : List Int} (h : RS w g0 b3 b4 b6 n s at_ own last done g cap xs W) {N : Nat} (v0 v1 v2 v3 : Value) : RefGo N xs at_ own last done g0 w (.returned (.tuple #[.agg #[.int .i64 at_, .int .i64 own, .bool last, .bool done], .slice (some ⟨g, 0, none⟩) N cap])) ((((W.setCell ⟨b6, 0, none⟩ v0).setCell ⟨b6, 1, none⟩ v1).setCell ⟨b6, 2, none⟩ v2).setCell ⟨b6, 3, none⟩ v3) := by
  have hu : Upd (fun k => k = b6) W ((((W.setCell ⟨b6, 0, none⟩ v0).setCell ⟨b6, 1, none⟩ v1).setCell ⟨b6, 2, none⟩ v2).setCell ⟨b6, 3, none⟩ v3) :=
    ((((Upd.refl (fun k => k = b6) W).setCell (p := ⟨b6, 0, none⟩) (.inl rfl) v0).setCell (p := ⟨b6, 1, none⟩) (.inl rfl) v1).setCell (p := ⟨b6, 2, none⟩) (.inl rfl) v2).setCell (p := ⟨b6, 3, none⟩) (.inl rfl) v3
  have h3 := h.ne
  exact ⟨g, cap, rfl, h.rb.upd hu (fun e => by omega), h.kp.then hu (fun i hi e => by omega), h.gn⟩

set_option maxRecDepth 100000 in
set_option maxHeartbeats 4000000 in
theorem refS_0 {w : World} {g cap N : Nat} {L : List Int} (n s own c q : Int) {last : Bool} (hr : RB w g cap (bq L c q)) (hN : L.length = N) (hl : 10 < N) (hm : N ≤ 1000000) (o2 : Int) (ho : (if q = 0 then 1 else 0) = o2) :
    Calls Try.prog 14 #[.agg #[.int .i64 0, .int .i64 own, .bool last, .bool false], .agg #[.int .i64 2, .int .i64 1, .int .i64 n, .int .i64 2, .int .i64 0, .int .i64 1, .int .i64 3, .int .i64 5, .int .i64 7, .int .i64 8, .int .i64 9, .int .i64 10, .int .i64 11, .int .i64 s], .slice (some ⟨g, 0, none⟩) N cap] w (RefGo N (bq L c q) 1 o2 last false g w) := by
  have HN := Lib.hid (show (bq L c q).length = N by rw [bq_len, hN])
  have h9 := Lib.hid (bq_at9 L c q (by omega))
  have h10 := Lib.hid (bq_at10 L c q (by omega))
  have hW : Hid (RS w g w.heap.size (w.heap.size + 1) (w.heap.size + 1 + 1) n s 0 own last false g cap (bq L c q) (((w.alloc (.cells #[.int .i64 0, .int .i64 own, .bool last, .bool false] 49)).alloc (.cells #[.int .i64 2, .int .i64 1, .int .i64 n, .int .i64 2, .int .i64 0, .int .i64 1, .int .i64 3, .int .i64 5, .int .i64 7, .int .i64 8, .int .i64 9, .int .i64 10, .int .i64 11, .int .i64 s] 28)).alloc (.cells #[.int .i64 0, .int .i64 0, .bool false, .bool false] 49))) := Lib.hid (by
    have h1 := hr.lt
    have hk : Kept w (((w.alloc (.cells #[.int .i64 0, .int .i64 own, .bool last, .bool false] 49)).alloc (.cells #[.int .i64 2, .int .i64 1, .int .i64 n, .int .i64 2, .int .i64 0, .int .i64 1, .int .i64 3, .int .i64 5, .int .i64 7, .int .i64 8, .int .i64 9, .int .i64 10, .int .i64 11, .int .i64 s] 28)).alloc (.cells #[.int .i64 0, .int .i64 0, .bool false, .bool false] 49)) := (((Upd.refl _ _).alloc _).alloc _).alloc _
    exact ⟨((Blk.new _ _ _).alloc _).alloc _, (Blk.newAt _ _ _ _ (by simp)).alloc _, Blk.newAt _ _ _ _ (by simp), hr.kept hk, hk, by omega, .inl rfl⟩)
  obtain ⟨b3, hb3⟩ : ∃ b3, w.heap.size = b3 := ⟨_, rfl⟩
  obtain ⟨b4, hb4⟩ : ∃ b4, b3 + 1 = b4 := ⟨_, rfl⟩
  obtain ⟨b6, hb6⟩ : ∃ b6, b4 + 1 = b6 := ⟨_, rfl⟩
  have HB := Lib.hid (And.intro hb3 (And.intro hb4 hb6))
  rw [hb3, hb4, hb6] at hW
  clear hr hb3 hb4 hb6
  go_enter Try.func14, Try.ntmps14
  go_upto_region 1 with (fail)
  try rw [HB.out.1]
  try rw [HB.out.2.1]
  try rw [HB.out.2.2]
  obtain ⟨W0, hW0⟩ : ∃ W0, ((w.alloc (.cells #[.int .i64 0, .int .i64 own, .bool last, .bool false] 49)).alloc (.cells #[.int .i64 2, .int .i64 1, .int .i64 n, .int .i64 2, .int .i64 0, .int .i64 1, .int .i64 3, .int .i64 5, .int .i64 7, .int .i64 8, .int .i64 9, .int .i64 10, .int .i64 11, .int .i64 s] 28)).alloc (.cells #[.int .i64 0, .int .i64 0, .bool false, .bool false] 49) = W0 := ⟨_, rfl⟩
  rw [hW0] at hW ⊢
  have S := Lib.hid hW.out
  clear hW hW0 HB hN
  have HO := Lib.hid ho
  clear ho
  have m3 := S.out.m.cell
  have f3 := S.out.m.free
  go_upto_region 5 with (fail)
  have S1 := Lib.hid (S.out.upd (i := 0) (v := .int .i64 1) rfl)
  clear m3 f3 S
  generalize World.setCell _ ⟨b3, 0, none⟩ _ = WS1 at S1 ⊢
  have m3 := S1.out.m.cell
  have f3 := S1.out.m.free
  go_upto_region 7 with (fail)
  have S2 := Lib.hid (S1.out.upd (i := 1) (v := .int .i64 0) rfl)
  clear m3 f3 S1
  generalize World.setCell _ ⟨b3, 1, none⟩ _ = WS2 at S2 ⊢
  have m3 := S2.out.m.cell
  have l4 := S2.out.l.cell
  go_wp2_with fail
  refine (refLoadN S2.out.rb HN.out 10 q h10.out hm).mono ?_
  rintro e w' ⟨rfl, rfl⟩
  by_cases hq : q = 0
  · have hqb : (q == 0) = true := by simpa using hq
    obtain rfl : 1 = o2 := by rw [← HO.out, if_pos hq]
    clear m3 l4 hq HO
    have m3 := S2.out.m.cell
    have f3 := S2.out.m.free
    go_upto_region 17 with (fail)
    have S3 := Lib.hid (S2.out.upd (i := 1) (v := .int .i64 1) rfl)
    clear m3 f3 S2
    generalize World.setCell _ ⟨b3, 1, none⟩ _ = WS3 at S3 ⊢
    have m3 := S3.out.m.cell
    have m6 := S3.out.r.cell
    have f6 := S3.out.r.free
    have HF := fun v0 v1 v2 v3 => Lib.hid (S3.out.end_ (N := N) v0 v1 v2 v3)
    clear S3
    go_wp2
    refine bodyPost_ret ?_ rfl (HF _ _ _ _).out
    simp [results, Try.results14, go_sem, m6]
  · have hqb : (q == 0) = false := by simpa using hq
    obtain rfl : 0 = o2 := by rw [← HO.out, if_neg hq]
    clear m3 l4 hq HO
    have m3 := S2.out.m.cell
    have m6 := S2.out.r.cell
    have f6 := S2.out.r.free
    have HF := fun v0 v1 v2 v3 => Lib.hid (S2.out.end_ (N := N) v0 v1 v2 v3)
    clear S2
    go_wp2
    refine bodyPost_ret ?_ rfl (HF _ _ _ _).out
    simp [results, Try.results14, go_sem, m6]

set_option maxRecDepth 100000 in
set_option maxHeartbeats 4000000 in
theorem refS_1 {w : World} {g cap N : Nat} {L : List Int} (n s own c q : Int) (hr : RB w g cap (bq L c q)) (hN : L.length = N) (hl : 10 < N) (hm : N ≤ 1000000) (r : Int) (hr1 : wrap64 (c + -1) = r) :
    Calls Try.prog 14 #[.agg #[.int .i64 1, .int .i64 own, .bool false, .bool false], .agg #[.int .i64 2, .int .i64 1, .int .i64 n, .int .i64 2, .int .i64 0, .int .i64 1, .int .i64 3, .int .i64 5, .int .i64 7, .int .i64 8, .int .i64 9, .int .i64 10, .int .i64 11, .int .i64 s], .slice (some ⟨g, 0, none⟩) N cap] w (RefGo N (bq L r q) 2 own (r == 0) false g w) := by
  have HN := Lib.hid (show (bq L c q).length = N by rw [bq_len, hN])
  have h9 := Lib.hid (bq_at9 L c q (by omega))
  have h10 := Lib.hid (bq_at10 L c q (by omega))
  have hW : Hid (RS w g w.heap.size (w.heap.size + 1) (w.heap.size + 1 + 1) n s 1 own false false g cap (bq L c q) (((w.alloc (.cells #[.int .i64 1, .int .i64 own, .bool false, .bool false] 49)).alloc (.cells #[.int .i64 2, .int .i64 1, .int .i64 n, .int .i64 2, .int .i64 0, .int .i64 1, .int .i64 3, .int .i64 5, .int .i64 7, .int .i64 8, .int .i64 9, .int .i64 10, .int .i64 11, .int .i64 s] 28)).alloc (.cells #[.int .i64 0, .int .i64 0, .bool false, .bool false] 49))) := Lib.hid (by
    have h1 := hr.lt
    have hk : Kept w (((w.alloc (.cells #[.int .i64 1, .int .i64 own, .bool false, .bool false] 49)).alloc (.cells #[.int .i64 2, .int .i64 1, .int .i64 n, .int .i64 2, .int .i64 0, .int .i64 1, .int .i64 3, .int .i64 5, .int .i64 7, .int .i64 8, .int .i64 9, .int .i64 10, .int .i64 11, .int .i64 s] 28)).alloc (.cells #[.int .i64 0, .int .i64 0, .bool false, .bool false] 49)) := (((Upd.refl _ _).alloc _).alloc _).alloc _
    exact ⟨((Blk.new _ _ _).alloc _).alloc _, (Blk.newAt _ _ _ _ (by simp)).alloc _, Blk.newAt _ _ _ _ (by simp), hr.kept hk, hk, by omega, .inl rfl⟩)
  obtain ⟨b3, hb3⟩ : ∃ b3, w.heap.size = b3 := ⟨_, rfl⟩
  obtain ⟨b4, hb4⟩ : ∃ b4, b3 + 1 = b4 := ⟨_, rfl⟩
  obtain ⟨b6, hb6⟩ : ∃ b6, b4 + 1 = b6 := ⟨_, rfl⟩
  have HB := Lib.hid (And.intro hb3 (And.intro hb4 hb6))
  rw [hb3, hb4, hb6] at hW
  clear hr hb3 hb4 hb6
  go_enter Try.func14, Try.ntmps14
  go_upto_region 1 with (fail)
  try rw [HB.out.1]
  try rw [HB.out.2.1]
  try rw [HB.out.2.2]
  obtain ⟨W0, hW0⟩ : ∃ W0, ((w.alloc (.cells #[.int .i64 1, .int .i64 own, .bool false, .bool false] 49)).alloc (.cells #[.int .i64 2, .int .i64 1, .int .i64 n, .int .i64 2, .int .i64 0, .int .i64 1, .int .i64 3, .int .i64 5, .int .i64 7, .int .i64 8, .int .i64 9, .int .i64 10, .int .i64 11, .int .i64 s] 28)).alloc (.cells #[.int .i64 0, .int .i64 0, .bool false, .bool false] 49) = W0 := ⟨_, rfl⟩
  rw [hW0] at hW ⊢
  have S := Lib.hid hW.out
  clear hW hW0 HB hN
  have m3 := S.out.m.cell
  have f3 := S.out.m.free
  go_upto_region 10 with (fail)
  have S1 := Lib.hid (S.out.upd (i := 0) (v := .int .i64 2) rfl)
  clear m3 f3 S
  generalize World.setCell _ ⟨b3, 0, none⟩ _ = WS1 at S1 ⊢
  have l4 := S1.out.l.cell
  have e1 : IntKind.i64.wrap (c - 1) = r := by rw [IntKind.wrap_i64, ← hr1]; unfold wrap64; omega
  have e2 : wrap64 (c - 1) = r := by rw [← hr1]; unfold wrap64; omega
  clear hr1
  have l10 : WS1.cell? ⟨b4, 10, none⟩ = some (.int .i64 9) := by rw [l4]; rfl
  clear l4
  have HL := Lib.hid S1.out.l
  go_region_held3 (fun w' => w'.cell? ⟨b4, 10, none⟩ = some (.int .i64 9))
    (first | exact l10 | exact l10')
    ((first
      | (go_at_call 26; refine (refLoadN (S1.out.rb.kept (Upd.refl _ _).drew) HN.out 9 c h9.out hm).mono ?_; rintro e w2 ⟨rfl, rfl⟩)
      | (go_at_call 25; refine (refPutN (S1.out.rb.kept (Upd.refl _ _).drew) HN.out 9 r (bq_9 L c q r) hm).mono ?_; rintro e w3 ⟨g3, cap3, rfl, hR3, hg3, hk3⟩; have S2 := Lib.hid ((S1.out.kept (Upd.refl _ _).drew).mem hk3 hR3 hg3); have l10' : w3.cell? ⟨b4, 10, none⟩ = some (.int .i64 9) := S2.out.l.cell 10; clear hR3 hg3 hk3)))
  all_goals
    have HN2 := Lib.hid (show (bq L r q).length = N by rw [bq_len, ← bq_len L c q]; exact HN.out)
    have h92 := Lib.hid (bq_at9 L r q (by have h := HN.out; rw [bq_len] at h; omega))
    clear l10 l10' e1 e2
    have l4 := S2.out.l.cell
    have m3 := S2.out.m.cell
    have f3 := S2.out.m.free
    go_wp2_with fail
    refine (refLoadN S2.out.rb HN2.out 9 r h92.out hm).mono ?_
    rintro e w' ⟨rfl, rfl⟩
    go_upto_region 17 with (fail)
    have S3 := Lib.hid (S2.out.upd (i := 2) (v := .bool (r == 0)) rfl)
    clear m3 f3 l4 S2
    generalize World.setCell _ ⟨b3, 2, none⟩ _ = WS3 at S3 ⊢
    have m3 := S3.out.m.cell
    have m6 := S3.out.r.cell
    have f6 := S3.out.r.free
    have HF := fun v0 v1 v2 v3 => Lib.hid (S3.out.end_ (N := N) v0 v1 v2 v3)
    clear S3
    go_wp2
    refine bodyPost_ret ?_ rfl (HF _ _ _ _).out
    simp [results, Try.results14, go_sem, m6]

set_option maxRecDepth 100000 in
set_option maxHeartbeats 4000000 in
theorem refS_2 {w : World} {g cap N : Nat} {L : List Int} (n s own c q : Int) (hr : RB w g cap (bq L c q)) (hN : L.length = N) (hl : 10 < N) (hm : N ≤ 1000000) :
    Calls Try.prog 14 #[.agg #[.int .i64 2, .int .i64 own, .bool true, .bool false], .agg #[.int .i64 2, .int .i64 1, .int .i64 n, .int .i64 2, .int .i64 0, .int .i64 1, .int .i64 3, .int .i64 5, .int .i64 7, .int .i64 8, .int .i64 9, .int .i64 10, .int .i64 11, .int .i64 s], .slice (some ⟨g, 0, none⟩) N cap] w (RefGo N (bq L n q) 3 own true false g w) := by
  have HN := Lib.hid (show (bq L c q).length = N by rw [bq_len, hN])
  have h9 := Lib.hid (bq_at9 L c q (by omega))
  have h10 := Lib.hid (bq_at10 L c q (by omega))
  have hW : Hid (RS w g w.heap.size (w.heap.size + 1) (w.heap.size + 1 + 1) n s 2 own true false g cap (bq L c q) (((w.alloc (.cells #[.int .i64 2, .int .i64 own, .bool true, .bool false] 49)).alloc (.cells #[.int .i64 2, .int .i64 1, .int .i64 n, .int .i64 2, .int .i64 0, .int .i64 1, .int .i64 3, .int .i64 5, .int .i64 7, .int .i64 8, .int .i64 9, .int .i64 10, .int .i64 11, .int .i64 s] 28)).alloc (.cells #[.int .i64 0, .int .i64 0, .bool false, .bool false] 49))) := Lib.hid (by
    have h1 := hr.lt
    have hk : Kept w (((w.alloc (.cells #[.int .i64 2, .int .i64 own, .bool true, .bool false] 49)).alloc (.cells #[.int .i64 2, .int .i64 1, .int .i64 n, .int .i64 2, .int .i64 0, .int .i64 1, .int .i64 3, .int .i64 5, .int .i64 7, .int .i64 8, .int .i64 9, .int .i64 10, .int .i64 11, .int .i64 s] 28)).alloc (.cells #[.int .i64 0, .int .i64 0, .bool false, .bool false] 49)) := (((Upd.refl _ _).alloc _).alloc _).alloc _
    exact ⟨((Blk.new _ _ _).alloc _).alloc _, (Blk.newAt _ _ _ _ (by simp)).alloc _, Blk.newAt _ _ _ _ (by simp), hr.kept hk, hk, by omega, .inl rfl⟩)
  obtain ⟨b3, hb3⟩ : ∃ b3, w.heap.size = b3 := ⟨_, rfl⟩
  obtain ⟨b4, hb4⟩ : ∃ b4, b3 + 1 = b4 := ⟨_, rfl⟩
  obtain ⟨b6, hb6⟩ : ∃ b6, b4 + 1 = b6 := ⟨_, rfl⟩
  have HB := Lib.hid (And.intro hb3 (And.intro hb4 hb6))
  rw [hb3, hb4, hb6] at hW
  clear hr hb3 hb4 hb6
  go_enter Try.func14, Try.ntmps14
  go_upto_region 1 with (fail)
  try rw [HB.out.1]
  try rw [HB.out.2.1]
  try rw [HB.out.2.2]
  obtain ⟨W0, hW0⟩ : ∃ W0, ((w.alloc (.cells #[.int .i64 2, .int .i64 own, .bool true, .bool false] 49)).alloc (.cells #[.int .i64 2, .int .i64 1, .int .i64 n, .int .i64 2, .int .i64 0, .int .i64 1, .int .i64 3, .int .i64 5, .int .i64 7, .int .i64 8, .int .i64 9, .int .i64 10, .int .i64 11, .int .i64 s] 28)).alloc (.cells #[.int .i64 0, .int .i64 0, .bool false, .bool false] 49) = W0 := ⟨_, rfl⟩
  rw [hW0] at hW ⊢
  have S := Lib.hid hW.out
  clear hW hW0 HB hN
  have m3 := S.out.m.cell
  have f3 := S.out.m.free
  go_upto_region 13 with (fail)
  have S1 := Lib.hid (S.out.upd (i := 0) (v := .int .i64 3) rfl)
  clear m3 f3 S
  generalize World.setCell _ ⟨b3, 0, none⟩ _ = WS1 at S1 ⊢
  have l4 := S1.out.l.cell
  have m3 := S1.out.m.cell
  go_wp2_with fail
  refine (refPutN S1.out.rb HN.out 9 n (bq_9 L c q n) hm).mono ?_
  rintro e w3 ⟨g3, cap3, rfl, hR3, hg3, hk3⟩
  have S2 := Lib.hid (S1.out.mem hk3 hR3 hg3)
  clear hR3 hg3 hk3 S1 l4 m3
  have m3 := S2.out.m.cell
  have m6 := S2.out.r.cell
  have f6 := S2.out.r.free
  have HF := fun v0 v1 v2 v3 => Lib.hid (S2.out.end_ (N := N) v0 v1 v2 v3)
  clear S2
  go_wp2
  refine bodyPost_ret ?_ rfl (HF _ _ _ _).out
  simp [results, Try.results14, go_sem, m6]

set_option maxRecDepth 100000 in
set_option maxHeartbeats 4000000 in
theorem refS_3 {w : World} {g cap N : Nat} {L : List Int} (n s own c q : Int) (hr : RB w g cap (bq L c q)) (hN : L.length = N) (hl : 10 < N) (hm : N ≤ 1000000) :
    Calls Try.prog 14 #[.agg #[.int .i64 3, .int .i64 own, .bool true, .bool false], .agg #[.int .i64 2, .int .i64 1, .int .i64 n, .int .i64 2, .int .i64 0, .int .i64 1, .int .i64 3, .int .i64 5, .int .i64 7, .int .i64 8, .int .i64 9, .int .i64 10, .int .i64 11, .int .i64 s], .slice (some ⟨g, 0, none⟩) N cap] w (RefGo N (bq L c own) 4 own true true g w) := by
  have HN := Lib.hid (show (bq L c q).length = N by rw [bq_len, hN])
  have h9 := Lib.hid (bq_at9 L c q (by omega))
  have h10 := Lib.hid (bq_at10 L c q (by omega))
  have hW : Hid (RS w g w.heap.size (w.heap.size + 1) (w.heap.size + 1 + 1) n s 3 own true false g cap (bq L c q) (((w.alloc (.cells #[.int .i64 3, .int .i64 own, .bool true, .bool false] 49)).alloc (.cells #[.int .i64 2, .int .i64 1, .int .i64 n, .int .i64 2, .int .i64 0, .int .i64 1, .int .i64 3, .int .i64 5, .int .i64 7, .int .i64 8, .int .i64 9, .int .i64 10, .int .i64 11, .int .i64 s] 28)).alloc (.cells #[.int .i64 0, .int .i64 0, .bool false, .bool false] 49))) := Lib.hid (by
    have h1 := hr.lt
    have hk : Kept w (((w.alloc (.cells #[.int .i64 3, .int .i64 own, .bool true, .bool false] 49)).alloc (.cells #[.int .i64 2, .int .i64 1, .int .i64 n, .int .i64 2, .int .i64 0, .int .i64 1, .int .i64 3, .int .i64 5, .int .i64 7, .int .i64 8, .int .i64 9, .int .i64 10, .int .i64 11, .int .i64 s] 28)).alloc (.cells #[.int .i64 0, .int .i64 0, .bool false, .bool false] 49)) := (((Upd.refl _ _).alloc _).alloc _).alloc _
    exact ⟨((Blk.new _ _ _).alloc _).alloc _, (Blk.newAt _ _ _ _ (by simp)).alloc _, Blk.newAt _ _ _ _ (by simp), hr.kept hk, hk, by omega, .inl rfl⟩)
  obtain ⟨b3, hb3⟩ : ∃ b3, w.heap.size = b3 := ⟨_, rfl⟩
  obtain ⟨b4, hb4⟩ : ∃ b4, b3 + 1 = b4 := ⟨_, rfl⟩
  obtain ⟨b6, hb6⟩ : ∃ b6, b4 + 1 = b6 := ⟨_, rfl⟩
  have HB := Lib.hid (And.intro hb3 (And.intro hb4 hb6))
  rw [hb3, hb4, hb6] at hW
  clear hr hb3 hb4 hb6
  go_enter Try.func14, Try.ntmps14
  go_upto_region 1 with (fail)
  try rw [HB.out.1]
  try rw [HB.out.2.1]
  try rw [HB.out.2.2]
  obtain ⟨W0, hW0⟩ : ∃ W0, ((w.alloc (.cells #[.int .i64 3, .int .i64 own, .bool true, .bool false] 49)).alloc (.cells #[.int .i64 2, .int .i64 1, .int .i64 n, .int .i64 2, .int .i64 0, .int .i64 1, .int .i64 3, .int .i64 5, .int .i64 7, .int .i64 8, .int .i64 9, .int .i64 10, .int .i64 11, .int .i64 s] 28)).alloc (.cells #[.int .i64 0, .int .i64 0, .bool false, .bool false] 49) = W0 := ⟨_, rfl⟩
  rw [hW0] at hW ⊢
  have S := Lib.hid hW.out
  clear hW hW0 HB hN
  have m3 := S.out.m.cell
  have f3 := S.out.m.free
  go_upto_region 15 with (fail)
  have S1 := Lib.hid (S.out.upd (i := 0) (v := .int .i64 4) rfl)
  clear m3 f3 S
  generalize World.setCell _ ⟨b3, 0, none⟩ _ = WS1 at S1 ⊢
  have l4 := S1.out.l.cell
  have m3 := S1.out.m.cell
  go_wp2_with fail
  refine (refPutN S1.out.rb HN.out 10 own (bq_10 L c q own) hm).mono ?_
  rintro e w3 ⟨g3, cap3, rfl, hR3, hg3, hk3⟩
  have S2 := Lib.hid (S1.out.mem hk3 hR3 hg3)
  clear hR3 hg3 hk3 S1 l4 m3
  have m3 := S2.out.m.cell
  have f3 := S2.out.m.free
  go_upto_region 17 with (fail)
  have S3 := Lib.hid (S2.out.upd (i := 3) (v := .bool true) rfl)
  clear m3 f3 S2
  generalize World.setCell _ ⟨b3, 3, none⟩ _ = WS3 at S3 ⊢
  have m3 := S3.out.m.cell
  have m6 := S3.out.r.cell
  have f6 := S3.out.r.free
  have HF := fun v0 v1 v2 v3 => Lib.hid (S3.out.end_ (N := N) v0 v1 v2 v3)
  clear S3
  go_wp2
  refine bodyPost_ret ?_ rfl (HF _ _ _ _).out
  simp [results, Try.results14, go_sem, m6]

set_option maxRecDepth 100000 in
set_option maxHeartbeats 4000000 in
theorem refS_4 {w : World} {g cap N : Nat} {L : List Int} (n s own c q : Int) {at_ : Int} (hr : RB w g cap (bq L c q)) (hN : L.length = N) (hl : 10 < N) (hm : N ≤ 1000000) (ha : 2 ≤ at_) (hb : at_ ≤ 1000) (z : Bool) (hz : (q == own) = z) :
    Calls Try.prog 14 #[.agg #[.int .i64 at_, .int .i64 own, .bool false, .bool false], .agg #[.int .i64 2, .int .i64 1, .int .i64 n, .int .i64 2, .int .i64 0, .int .i64 1, .int .i64 3, .int .i64 5, .int .i64 7, .int .i64 8, .int .i64 9, .int .i64 10, .int .i64 11, .int .i64 s], .slice (some ⟨g, 0, none⟩) N cap] w (RefGo N (bq L c q) (at_ + 1) own false z g w) := by
  have HN := Lib.hid (show (bq L c q).length = N by rw [bq_len, hN])
  have h9 := Lib.hid (bq_at9 L c q (by omega))
  have h10 := Lib.hid (bq_at10 L c q (by omega))
  have hW : Hid (RS w g w.heap.size (w.heap.size + 1) (w.heap.size + 1 + 1) n s at_ own false false g cap (bq L c q) (((w.alloc (.cells #[.int .i64 at_, .int .i64 own, .bool false, .bool false] 49)).alloc (.cells #[.int .i64 2, .int .i64 1, .int .i64 n, .int .i64 2, .int .i64 0, .int .i64 1, .int .i64 3, .int .i64 5, .int .i64 7, .int .i64 8, .int .i64 9, .int .i64 10, .int .i64 11, .int .i64 s] 28)).alloc (.cells #[.int .i64 0, .int .i64 0, .bool false, .bool false] 49))) := Lib.hid (by
    have h1 := hr.lt
    have hk : Kept w (((w.alloc (.cells #[.int .i64 at_, .int .i64 own, .bool false, .bool false] 49)).alloc (.cells #[.int .i64 2, .int .i64 1, .int .i64 n, .int .i64 2, .int .i64 0, .int .i64 1, .int .i64 3, .int .i64 5, .int .i64 7, .int .i64 8, .int .i64 9, .int .i64 10, .int .i64 11, .int .i64 s] 28)).alloc (.cells #[.int .i64 0, .int .i64 0, .bool false, .bool false] 49)) := (((Upd.refl _ _).alloc _).alloc _).alloc _
    exact ⟨((Blk.new _ _ _).alloc _).alloc _, (Blk.newAt _ _ _ _ (by simp)).alloc _, Blk.newAt _ _ _ _ (by simp), hr.kept hk, hk, by omega, .inl rfl⟩)
  obtain ⟨b3, hb3⟩ : ∃ b3, w.heap.size = b3 := ⟨_, rfl⟩
  obtain ⟨b4, hb4⟩ : ∃ b4, b3 + 1 = b4 := ⟨_, rfl⟩
  obtain ⟨b6, hb6⟩ : ∃ b6, b4 + 1 = b6 := ⟨_, rfl⟩
  have HB := Lib.hid (And.intro hb3 (And.intro hb4 hb6))
  rw [hb3, hb4, hb6] at hW
  clear hr hb3 hb4 hb6
  go_enter Try.func14, Try.ntmps14
  go_upto_region 1 with (fail)
  try rw [HB.out.1]
  try rw [HB.out.2.1]
  try rw [HB.out.2.2]
  obtain ⟨W0, hW0⟩ : ∃ W0, ((w.alloc (.cells #[.int .i64 at_, .int .i64 own, .bool false, .bool false] 49)).alloc (.cells #[.int .i64 2, .int .i64 1, .int .i64 n, .int .i64 2, .int .i64 0, .int .i64 1, .int .i64 3, .int .i64 5, .int .i64 7, .int .i64 8, .int .i64 9, .int .i64 10, .int .i64 11, .int .i64 s] 28)).alloc (.cells #[.int .i64 0, .int .i64 0, .bool false, .bool false] 49) = W0 := ⟨_, rfl⟩
  rw [hW0] at hW ⊢
  have S := Lib.hid hW.out
  clear hW hW0 HB hN
  have a1 : (at_ + 1 == 1) = false := by simp; omega
  have a2 : (at_ + 1 == 2) = false := by simp; omega
  have a4 : (at_ == 1) = false := by simp; omega
  have a5 : ¬ at_ = 1 := by omega
  have a6 : ¬ at_ = 0 := by omega
  have m3 := S.out.m.cell
  have f3 := S.out.m.free
  go_upto_region 4 with (fail)
  have S1 := Lib.hid (S.out.upd (i := 0) (v := .int .i64 (at_ + 1)) rfl)
  clear m3 f3 S
  generalize World.setCell _ ⟨b3, 0, none⟩ _ = WS1 at S1 ⊢
  have m1 : WS1.cell? ⟨b3, 1, none⟩ = some (.int .i64 own) := S1.out.m.cell 1
  have l11 : WS1.cell? ⟨b4, 11, none⟩ = some (.int .i64 10) := S1.out.l.cell 11
  have m2 : WS1.cell? ⟨b3, 3, none⟩ = some (.bool false) := S1.out.m.cell 3
  have f2 : WS1.frozen? ⟨b3, 3, none⟩ = false := S1.out.m.free 3
  have S2 := Lib.hid (S1.out.kept (Upd.refl _ _).drew)
  have S3 := Lib.hid ((S1.out.upd (i := 3) (v := .bool z) rfl).kept (Upd.refl _ _).drew)
  have m1' : (WS1.setCell ⟨b3, 3, none⟩ (.bool z)).drew.cell? ⟨b3, 1, none⟩ = some (.int .i64 own) := S3.out.m.cell 1
  have l11' : (WS1.setCell ⟨b3, 3, none⟩ (.bool z)).drew.cell? ⟨b4, 11, none⟩ = some (.int .i64 10) := S3.out.l.cell 11
  go_region_held3 (fun w' => w'.cell? ⟨b3, 1, none⟩ = some (.int .i64 own) ∧ w'.cell? ⟨b4, 11, none⟩ = some (.int .i64 10))
    (first | exact ⟨m1, l11⟩ | exact ⟨m1', l11'⟩)
    ((first
      | (go_at_call 26; refine (refLoadN S2.out.rb HN.out 10 q h10.out hm).mono ?_; rintro e w2 ⟨rfl, rfl⟩)))
  all_goals
    clear m1 l11 m2 f2 S2 S1 m1' l11'
    generalize (World.setCell _ ⟨b3, 3, none⟩ _).drew = WS4 at S3 ⊢
    have m3 := S3.out.m.cell
    have m6 := S3.out.r.cell
    have f6 := S3.out.r.free
    have HF := fun v0 v1 v2 v3 => Lib.hid (S3.out.end_ (N := N) v0 v1 v2 v3)
    clear S3
    go_wp2
    refine bodyPost_ret ?_ rfl (HF _ _ _ _).out
    simp [results, Try.results14, go_sem, m6]
end Go.Proofs.Ytghlpapljjcaeaa
