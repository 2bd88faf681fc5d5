/- The law 11: the chapter's examples (printed by gen_deq.py). -/
import Derived.Test.YtdgkemadhooogaaDeqEnds
import Derived.Test.YtdgkemadhooogaaDeqTo
import Derived.Test.YtdgkemadhooogaaRegion
import Derived.Deep.RegionHeld3
import Derived.Deep.CutRange
import Derived.Handy
import Derived.Deep.MidRow
import Derived.StillTailTactics
import Derived.Deep.MidRow
namespace Go.Proofs.Ytdgkemadhooogaa
set_option linter.unusedVariables false
set_option linter.unusedSimpArgs false
open Go.RowKit
attribute [local go_sem] cell?_ext

set_option linter.unusedSimpArgs false
def putL : Array Value → Nat → List Value → Array Value
  | arr, _, [] => arr
  | arr, o, v :: r => putL (arr.setIfInBounds o v) (o + 1) r
theorem Blk.over {b : Nat} {T : TypeId} : ∀ (vs : List Value) (w : World) (arr : Array Value) (o : Nat), Blk w b arr T → Blk (w.setCells b o vs) b (putL arr o vs) T
  | [], w, arr, o, h => h
  | v :: r, w, arr, o, h => by
    rw [World.setCells]
    exact Blk.over r _ _ (o + 1) (h.set o v)
theorem putL_all : ∀ (vs pre olds : List Value), olds.length = vs.length → putL (pre ++ olds).toArray pre.length vs = (pre ++ vs).toArray
  | [], pre, olds, h => by
    have : olds = [] := List.eq_nil_of_length_eq_zero (by simpa using h)
    subst this
    simp [putL]
  | v :: r, pre, [], h => by simp at h
  | v :: r, pre, o :: olds, h => by
    unfold putL
    rw [List.setIfInBounds_toArray, List.set_append_right _ _ (Nat.le_refl _), Nat.sub_self, List.set_cons_zero]
    have := putL_all r (pre ++ [v]) olds (by simpa using h)
    simpa using this
theorem Blk.all {w : World} {b : Nat} {T : TypeId} {olds : List Value} (h : Blk w b olds.toArray T) (vs : List Value) (hl : olds.length = vs.length) : Blk (w.setCells b 0 vs) b vs.toArray T := by
  have h1 := Blk.over vs w _ 0 h
  have h2 := putL_all vs [] olds hl
  simp only [List.nil_append, List.length_nil] at h2
  rwa [h2] at h1
theorem Blk.alls {w : World} {b : Nat} {T : TypeId} {olds : List Value} (h : Blk w b olds.toArray T) (vs : List Value) (hl : olds.length = vs.length) : Blk (w.setCells b 0 vs) b vs.toArray T ∧ Upd (fun k => k = b) w (w.setCells b 0 vs) := ⟨h.all vs hl, upd_setCells b vs 0 w⟩
theorem Blk.there {w : World} {b : Nat} {T : TypeId} {arr : Array Value} (h : Blk w b arr T) (n : Nat) (hn : n = arr.size) : w.there b 0 n := by
  subst hn
  intro j hj
  rw [Nat.zero_add, h.cell]
  exact ⟨by rw [Array.getElem?_eq_getElem hj]; rfl, h.free j⟩
theorem Blk.range {w : World} {b : Nat} {T : TypeId} {vs : List Value} (h : Blk w b vs.toArray T) : w.rangeAt b 0 vs := by
  intro j v hv
  rw [Nat.zero_add, h.cell, List.getElem?_toArray, hv]
def lay4 : Lay := ⟨4, 0, 1, 4, 0, 0, 4, 8, 12, 13, 14, 15, 16, 22⟩
theorem plan4 : planOf 4 0 1 = lay4 := by decide +kernel
theorem geo4 : Geo lay4 0 16 2 := ⟨by decide, by decide, by decide, by decide, by decide, by decide, by decide⟩
theorem row4 : Row 16 2 (List.replicate 22 0) 0 [] := by
  refine ⟨by decide, by decide, by decide, by decide, by decide, by decide, fun j hj => ?_⟩
  simp at hj
/-- What was there ahead of a region, after it. -/
structure KK (w W : World) : Prop where
  k : Kept w W
theorem KK.kept {w W W' : World} (h : KK w W) (hk : Kept W W') : KK w W' := ⟨h.k.trans hk⟩
theorem KK.up {w W : World} (h : KK w W) : w.heap.size ≤ W.heap.size := h.k.size
theorem KK.upd {w W W' : World} {xb : Nat} (h : KK w W) (hU : Upd (fun k => k = xb) W W') (hx : w.heap.size ≤ xb) : KK w W' := ⟨h.k.then hU (fun i hi e => by omega)⟩
/-- What the examples look at. -/
structure AW (w : World) (lb bb g pb sb : Nat) (xs : List Int) (mp ms : DM) (lo : Bool) (W : World) : Prop where
  kp : Kept w W
  l : Blk W lb #[.int .i64 4, .int .i64 0, .int .i64 1, .int .i64 4, .int .i64 0, .int .i64 0, .int .i64 4, .int .i64 8, .int .i64 12, .int .i64 13, .int .i64 14, .int .i64 15, .int .i64 16, .int .i64 22] 24
  b : Bnk W bb g xs
  p : PB W pb 51 lay4 0 mp []
  s : PB W sb 45 lay4 0 ms [.bool lo]
  nz : w.heap.size ≤ lb ∧ w.heap.size ≤ bb ∧ w.heap.size ≤ g ∧ w.heap.size ≤ pb ∧ w.heap.size ≤ sb ∧ ¬ lb = bb ∧ ¬ lb = g ∧ ¬ pb = lb ∧ ¬ pb = bb ∧ ¬ pb = g ∧ ¬ sb = lb ∧ ¬ sb = bb ∧ ¬ sb = g ∧ ¬ pb = sb
section
variable {w W W' : World} {lb bb g pb sb : Nat} {xs : List Int} {mp ms : DM} {lo : Bool}
theorem AW.kept (h : AW w lb bb g pb sb xs mp ms lo W) (k : Kept W W') : AW w lb bb g pb sb xs mp ms lo W' := ⟨h.kp.trans k, h.l.kept k, h.b.kept k, h.p.kept k, h.s.kept k, h.nz⟩
theorem AW.pop (h : AW w lb bb g pb sb xs mp ms lo W) {s' : KS} (hK : KSt .pop lay4 0 pb bb g s' W W') : AW w lb bb g pb sb s'.xs s'.m ms lo W' := by
  have n := h.nz
  exact ⟨h.kp.then hK.2.2 (fun i hi e => by omega), h.l.upd hK.2.2 (by omega), hK.2.1, hK.1, h.s.upd hK.2.2 (by omega), n⟩
theorem AW.steal (h : AW w lb bb g pb sb xs mp ms lo W) {s' : KS} (hK : KSt .steal lay4 0 sb bb g s' W W') : AW w lb bb g pb sb s'.xs mp s'.m s'.lo W' := by
  have n := h.nz
  exact ⟨h.kp.then hK.2.2 (fun i hi e => by omega), h.l.upd hK.2.2 (by omega), hK.2.1, h.p.upd hK.2.2 (by omega), hK.1, n⟩
theorem AW.push (h : AW w lb bb g pb sb xs mp ms lo W) {v : Int} {xb : Nat} {s' : KS} (hK : KSt (.push v) lay4 0 xb bb g s' W W') (hx : w.heap.size ≤ xb ∧ ¬ xb = lb ∧ ¬ xb = pb ∧ ¬ xb = sb) : AW w lb bb g pb sb s'.xs mp ms lo W' := by
  have n := h.nz
  exact ⟨h.kp.then hK.2.2 (fun i hi e => by omega), h.l.upd hK.2.2 (by omega), hK.2.1, h.p.upd hK.2.2 (by omega), h.s.upd hK.2.2 (by omega), n⟩
theorem AW.ne (h : AW w lb bb g pb sb xs mp ms lo W) : (¬ pb = g ∧ ¬ pb = bb) ∧ (¬ sb = g ∧ ¬ sb = bb) := by
  have n := h.nz
  omega
end
/-- What the region that makes both anew keeps. -/
structure RST (w : World) (lb bb g pb sb : Nat) (xs : List Int) (mp ms : DM) (lo bp bs : Bool) (W : World) : Prop where
  a : AW w lb bb g pb sb xs (if bp then ⟨0, 0, 0, 0, false, false⟩ else mp) (if bs then ⟨0, 0, 0, 0, false, false⟩ else ms) (if bs then false else lo) W
theorem RST.kept {w W W' : World} {lb bb g pb sb : Nat} {xs : List Int} {mp ms : DM} {lo bp bs : Bool} (h : RST w lb bb g pb sb xs mp ms lo bp bs W) (k : Kept W W') : RST w lb bb g pb sb xs mp ms lo bp bs W' := ⟨h.a.kept k⟩
theorem RST.sets {w W W' : World} {lb bb g pb sb : Nat} {xs : List Int} {mp ms : DM} {lo bp : Bool} (h : RST w lb bb g pb sb xs mp ms lo bp false W) (hs : Blk W' sb #[.int .i64 4, .int .i64 0, .int .i64 1, .int .i64 4, .int .i64 0, .int .i64 0, .int .i64 4, .int .i64 8, .int .i64 12, .int .i64 13, .int .i64 14, .int .i64 15, .int .i64 16, .int .i64 22, .int .i64 0, .int .i64 0, .int .i64 0, .int .i64 0, .int .i64 0, .bool false, .bool false, .bool false] 45 ∧ Upd (fun k => k = sb) W W') : RST w lb bb g pb sb xs mp ms lo bp true W' := by
  have n := h.a.nz
  exact ⟨⟨h.a.kp.then hs.2 (fun i hi e => by omega), h.a.l.upd hs.2 (by omega), h.a.b.upd hs.2 (by omega) (by omega), h.a.p.upd hs.2 (by omega), hs.1, n⟩⟩
theorem RST.setp {w W W' : World} {lb bb g pb sb : Nat} {xs : List Int} {mp ms : DM} {lo bs : Bool} (h : RST w lb bb g pb sb xs mp ms lo false bs W) (hs : Blk W' pb #[.int .i64 4, .int .i64 0, .int .i64 1, .int .i64 4, .int .i64 0, .int .i64 0, .int .i64 4, .int .i64 8, .int .i64 12, .int .i64 13, .int .i64 14, .int .i64 15, .int .i64 16, .int .i64 22, .int .i64 0, .int .i64 0, .int .i64 0, .int .i64 0, .int .i64 0, .bool false, .bool false] 51 ∧ Upd (fun k => k = pb) W W') : RST w lb bb g pb sb xs mp ms lo true bs W' := by
  have n := h.a.nz
  exact ⟨⟨h.a.kp.then hs.2 (fun i hi e => by omega), h.a.l.upd hs.2 (by omega), h.a.b.upd hs.2 (by omega) (by omega), hs.1, h.a.s.upd hs.2 (by omega), n⟩⟩
set_option maxRecDepth 100000 in
set_option maxHeartbeats 16000000 in
theorem awake11_any (w : World) : Calls Try.prog 19 #[] w fun e w' => e = .returned (.bool true) ∧ Kept w w' := by
  have HZ14 : Hid ((Try.prog.info? 24).map (·.size) = some 14) := Lib.hid (by kernel_rfl)
  have HZP : Hid ((Try.prog.info? 51).map (·.size) = some 21) := Lib.hid (by kernel_rfl)
  have HZS : Hid ((Try.prog.info? 45).map (·.size) = some 22) := Lib.hid (by kernel_rfl)
  have HZU : Hid ((Try.prog.info? 48).map (·.size) = some 22) := Lib.hid (by kernel_rfl)
  have HB := fun w => Lib.hid (bank_any 4 1 w (by unfold May; omega) lay4 plan4 22 rfl (by omega))
  have HNP := fun w => Lib.hid (show Calls Try.prog 15 #[.agg #[.int .i64 4, .int .i64 0, .int .i64 1, .int .i64 4, .int .i64 0, .int .i64 0, .int .i64 4, .int .i64 8, .int .i64 12, .int .i64 13, .int .i64 14, .int .i64 15, .int .i64 16, .int .i64 22], .int .i64 0] w fun e w' => e = .returned (.agg #[.int .i64 4, .int .i64 0, .int .i64 1, .int .i64 4, .int .i64 0, .int .i64 0, .int .i64 4, .int .i64 8, .int .i64 12, .int .i64 13, .int .i64 14, .int .i64 15, .int .i64 16, .int .i64 22, .int .i64 0, .int .i64 0, .int .i64 0, .int .i64 0, .int .i64 0, .bool false, .bool false]) ∧ Kept w w' from NewPop_any lay4 0 w)
  have HNS := fun w => Lib.hid (show Calls Try.prog 13 #[.agg #[.int .i64 4, .int .i64 0, .int .i64 1, .int .i64 4, .int .i64 0, .int .i64 0, .int .i64 4, .int .i64 8, .int .i64 12, .int .i64 13, .int .i64 14, .int .i64 15, .int .i64 16, .int .i64 22], .int .i64 0] w fun e w' => e = .returned (.agg #[.int .i64 4, .int .i64 0, .int .i64 1, .int .i64 4, .int .i64 0, .int .i64 0, .int .i64 4, .int .i64 8, .int .i64 12, .int .i64 13, .int .i64 14, .int .i64 15, .int .i64 16, .int .i64 22, .int .i64 0, .int .i64 0, .int .i64 0, .int .i64 0, .int .i64 0, .bool false, .bool false, .bool false]) ∧ Kept w w' from NewSteal_any lay4 0 w)
  have HNU7 := fun w => Lib.hid (show Calls Try.prog 14 #[.agg #[.int .i64 4, .int .i64 0, .int .i64 1, .int .i64 4, .int .i64 0, .int .i64 0, .int .i64 4, .int .i64 8, .int .i64 12, .int .i64 13, .int .i64 14, .int .i64 15, .int .i64 16, .int .i64 22], .int .i64 0, .int .i64 7] w fun e w' => e = .returned (.agg #[.int .i64 4, .int .i64 0, .int .i64 1, .int .i64 4, .int .i64 0, .int .i64 0, .int .i64 4, .int .i64 8, .int .i64 12, .int .i64 13, .int .i64 14, .int .i64 15, .int .i64 16, .int .i64 22, .int .i64 0, .int .i64 0, .int .i64 0, .int .i64 0, .int .i64 0, .bool false, .bool false, .int .i64 7]) ∧ Kept w w' from NewPush_any lay4 0 7 w)
  have HNU8 := fun w => Lib.hid (show Calls Try.prog 14 #[.agg #[.int .i64 4, .int .i64 0, .int .i64 1, .int .i64 4, .int .i64 0, .int .i64 0, .int .i64 4, .int .i64 8, .int .i64 12, .int .i64 13, .int .i64 14, .int .i64 15, .int .i64 16, .int .i64 22], .int .i64 0, .int .i64 8] w fun e w' => e = .returned (.agg #[.int .i64 4, .int .i64 0, .int .i64 1, .int .i64 4, .int .i64 0, .int .i64 0, .int .i64 4, .int .i64 8, .int .i64 12, .int .i64 13, .int .i64 14, .int .i64 15, .int .i64 16, .int .i64 22, .int .i64 0, .int .i64 0, .int .i64 0, .int .i64 0, .int .i64 0, .bool false, .bool false, .int .i64 8]) ∧ Kept w w' from NewPush_any lay4 0 8 w)
  obtain ⟨x1, ROW1, -, AL1⟩ := push_to row4 (by decide) (by decide) 7 false
  obtain ⟨x2, ROW2, -, AL2⟩ := push_to ROW1 (by decide) (by decide) 8 false
  obtain ⟨x3, ROW3, -, AL3⟩ := steal_to ROW2 (by decide)
  obtain ⟨x4, ROW4, -, AL4⟩ := pop1_to (x := 8) ROW3 false
  go_enter Try.func19, Try.ntmps19
  go_wp2_with fail
  refine (HB _).out.mono ?_
  rintro e w0 ⟨bb, g, rfl, hb, h1, h2, hk⟩
  have hA := (Upd.refl (fun _ => False) w0).alloc (.cells #[.int .i64 4, .int .i64 0, .int .i64 1, .int .i64 4, .int .i64 0, .int .i64 0, .int .i64 4, .int .i64 8, .int .i64 12, .int .i64 13, .int .i64 14, .int .i64 15, .int .i64 16, .int .i64 22] 24)
  have HLB := Lib.hid (Blk.new w0 #[.int .i64 4, .int .i64 0, .int .i64 1, .int .i64 4, .int .i64 0, .int .i64 0, .int .i64 4, .int .i64 8, .int .i64 12, .int .i64 13, .int .i64 14, .int .i64 15, .int .i64 16, .int .i64 22] 24)
  have HBK := Lib.hid (hb.kept hA)
  have HK0 : Hid (Kept w (w0.alloc (.cells #[.int .i64 4, .int .i64 0, .int .i64 1, .int .i64 4, .int .i64 0, .int .i64 0, .int .i64 4, .int .i64 8, .int .i64 12, .int .i64 13, .int .i64 14, .int .i64 15, .int .i64 16, .int .i64 22] 24))) := Lib.hid (hk.trans hA)
  have HNZ : Hid (w.heap.size ≤ w0.heap.size ∧ w.heap.size ≤ bb ∧ w.heap.size ≤ g ∧ ¬ w0.heap.size = bb ∧ ¬ w0.heap.size = g) := Lib.hid (by
    have h3 := hb.head.lt
    have h4 := hb.row.lt
    have h5 := hk.size
    omega)
  clear hb h1 h2 hk hA HB
  simp only [Lay.val, Lay.vals, lay4]
  go_upto_region 4 with (fail)
  generalize (w0.alloc (.cells #[.int .i64 4, .int .i64 0, .int .i64 1, .int .i64 4, .int .i64 0, .int .i64 0, .int .i64 4, .int .i64 8, .int .i64 12, .int .i64 13, .int .i64 14, .int .i64 15, .int .i64 16, .int .i64 22] 24)) = W1 at HLB HBK HK0 ⊢
  generalize w0.heap.size = lb at HLB HNZ ⊢
  refine wp_region_inv (fun l us W => ∃ (b0 b1 b2 b3 b4 b5 b6 b7 : Bool) (v23 v24 v25 v26 v4 v5 : Value) (pb sb : Nat), l = #[b0, b1, b2, b3, b4, b5, b6, b7] ∧ us = [v23, v24, v25, v26, v4, v5] ∧ Hid (KK W1 W) ∧
      Hid (b0 = true → v23 = .agg #[.int .i64 4, .int .i64 0, .int .i64 1, .int .i64 4, .int .i64 0, .int .i64 0, .int .i64 4, .int .i64 8, .int .i64 12, .int .i64 13, .int .i64 14, .int .i64 15, .int .i64 16, .int .i64 22]) ∧
      Hid (b1 = true → v24 = .agg #[.int .i64 4, .int .i64 0, .int .i64 1, .int .i64 4, .int .i64 0, .int .i64 0, .int .i64 4, .int .i64 8, .int .i64 12, .int .i64 13, .int .i64 14, .int .i64 15, .int .i64 16, .int .i64 22, .int .i64 0, .int .i64 0, .int .i64 0, .int .i64 0, .int .i64 0, .bool false, .bool false]) ∧
      Hid (b2 = true → v25 = .agg #[.int .i64 4, .int .i64 0, .int .i64 1, .int .i64 4, .int .i64 0, .int .i64 0, .int .i64 4, .int .i64 8, .int .i64 12, .int .i64 13, .int .i64 14, .int .i64 15, .int .i64 16, .int .i64 22]) ∧
      Hid (b3 = true → v26 = .agg #[.int .i64 4, .int .i64 0, .int .i64 1, .int .i64 4, .int .i64 0, .int .i64 0, .int .i64 4, .int .i64 8, .int .i64 12, .int .i64 13, .int .i64 14, .int .i64 15, .int .i64 16, .int .i64 22, .int .i64 0, .int .i64 0, .int .i64 0, .int .i64 0, .int .i64 0, .bool false, .bool false, .bool false]) ∧
      Hid (b4 = true → v4 = .pointer (some ⟨pb, 0, none⟩) ∧ W1.heap.size ≤ pb ∧ Blk W pb (if b6 then #[.int .i64 4, .int .i64 0, .int .i64 1, .int .i64 4, .int .i64 0, .int .i64 0, .int .i64 4, .int .i64 8, .int .i64 12, .int .i64 13, .int .i64 14, .int .i64 15, .int .i64 16, .int .i64 22, .int .i64 0, .int .i64 0, .int .i64 0, .int .i64 0, .int .i64 0, .bool false, .bool false] else #[.int .i64 0, .int .i64 0, .int .i64 0, .int .i64 0, .int .i64 0, .int .i64 0, .int .i64 0, .int .i64 0, .int .i64 0, .int .i64 0, .int .i64 0, .int .i64 0, .int .i64 0, .int .i64 0, .int .i64 0, .int .i64 0, .int .i64 0, .int .i64 0, .int .i64 0, .bool false, .bool false]) 51) ∧
      Hid (b5 = true → v5 = .pointer (some ⟨sb, 0, none⟩) ∧ W1.heap.size ≤ sb ∧ Blk W sb (if b7 then #[.int .i64 4, .int .i64 0, .int .i64 1, .int .i64 4, .int .i64 0, .int .i64 0, .int .i64 4, .int .i64 8, .int .i64 12, .int .i64 13, .int .i64 14, .int .i64 15, .int .i64 16, .int .i64 22, .int .i64 0, .int .i64 0, .int .i64 0, .int .i64 0, .int .i64 0, .bool false, .bool false, .bool false] else #[.int .i64 0, .int .i64 0, .int .i64 0, .int .i64 0, .int .i64 0, .int .i64 0, .int .i64 0, .int .i64 0, .int .i64 0, .int .i64 0, .int .i64 0, .int .i64 0, .int .i64 0, .int .i64 0, .int .i64 0, .int .i64 0, .int .i64 0, .int .i64 0, .int .i64 0, .bool false, .bool false, .bool false]) 45) ∧
      Hid (b4 = true → b5 = true → ¬ pb = sb) ∧
      Hid (b6 = true → b4 = true) ∧
      Hid (b7 = true → b5 = true)) [23, 24, 25, 26, 4, 5] [undef, undef, undef, undef, undef, undef] (by kernel_rfl) (by kernel_rfl) (by simp only [putAll, Act.put, List.setIfInBounds_toArray, List.set_cons_zero, List.set_cons_succ]) ?_ ?_ ?_
  · exact ⟨false, false, false, false, false, false, false, false, _, _, _, _, _, _, 0, 0, rfl, rfl, Lib.hid (⟨(Upd.refl _ _).drew⟩), Lib.hid (by simp), Lib.hid (by simp), Lib.hid (by simp), Lib.hid (by simp), Lib.hid (by simp), Lib.hid (by simp), Lib.hid (by simp), Lib.hid (by simp), Lib.hid (by simp)⟩
  · rintro i l us W ⟨b0, b1, b2, b3, b4, b5, b6, b7, v23, v24, v25, v26, v4, v5, pb, sb, rfl, rfl, hI, h0, h1, h2, h3, h4, h5, n4_5, g6, g7⟩ hr
    have hi : i = 0 ∨ i = 1 ∨ i = 2 ∨ i = 3 ∨ i = 4 ∨ i = 5 ∨ i = 6 ∨ i = 7 := by
      have := ready_lt hr
      simp at this
      omega
    rcases hi with rfl | rfl | rfl | rfl | rfl | rfl | rfl | rfl
    · as_aux_lemma =>
      obtain ⟨hn, hd⟩ := ready_at hr rfl
      simp [Region.binds] at hn hd
      have hlb := HLB.out.kept hI.out.k
      refine wpOp_step (o := ⟨some 23, .load 24 (.tmp 1), 24, _, _, none⟩) rfl (fun K' hK => ?_)
      simp only [putAll, Act.put, List.setIfInBounds_toArray, List.set_cons_zero, List.set_cons_succ]
      refine wp_load_mid 24 (.tmp 1) rfl lb 0 rfl [.int .i64 4, .int .i64 0, .int .i64 1, .int .i64 4, .int .i64 0, .int .i64 0, .int .i64 4, .int .i64 8, .int .i64 12, .int .i64 13, .int .i64 14, .int .i64 15, .int .i64 16, .int .i64 22] _ (Blk.range hlb) Try.underlying24 rfl HZ14.out ?_
      exact hK _ _ ⟨_, by simp only [putAll, Act.put, List.setIfInBounds_toArray, List.set_cons_zero, List.set_cons_succ], true, b1, b2, b3, b4, b5, b6, b7, _, _, _, _, _, _, pb, sb, rfl, rfl, hI, Lib.hid (fun _ => rfl), h1, h2, h3, h4, h5, n4_5, g6, g7⟩
    · as_aux_lemma =>
      obtain ⟨hn, hd⟩ := ready_at hr rfl
      simp [Region.binds] at hn hd
      obtain rfl := h0.out (by simp [hd])
      refine wpOp_step rfl (fun K' hK => ?_)
      simp only [putAll, Act.put, List.setIfInBounds_toArray, List.set_cons_zero, List.set_cons_succ]
      go_simp
      refine (HNP _).out.mono ?_
      rintro e w' ⟨rfl, hk⟩
      exact hK _ _ ⟨_, by simp only [putAll, Act.put, List.setIfInBounds_toArray, List.set_cons_zero, List.set_cons_succ], b0, true, b2, b3, b4, b5, b6, b7, _, _, _, _, _, _, pb, sb, rfl, rfl, (Lib.hid (hI.out.kept hk)), h0, Lib.hid (fun _ => rfl), h2, h3, Lib.hid (fun hb => ⟨(h4.out hb).1, (h4.out hb).2.1, (h4.out hb).2.2.kept hk⟩), Lib.hid (fun hb => ⟨(h5.out hb).1, (h5.out hb).2.1, (h5.out hb).2.2.kept hk⟩), n4_5, g6, g7⟩
    · as_aux_lemma =>
      obtain ⟨hn, hd⟩ := ready_at hr rfl
      simp [Region.binds] at hn hd
      have hlb := HLB.out.kept hI.out.k
      refine wpOp_step (o := ⟨some 25, .load 24 (.tmp 1), 24, _, _, none⟩) rfl (fun K' hK => ?_)
      simp only [putAll, Act.put, List.setIfInBounds_toArray, List.set_cons_zero, List.set_cons_succ]
      refine wp_load_mid 24 (.tmp 1) rfl lb 0 rfl [.int .i64 4, .int .i64 0, .int .i64 1, .int .i64 4, .int .i64 0, .int .i64 0, .int .i64 4, .int .i64 8, .int .i64 12, .int .i64 13, .int .i64 14, .int .i64 15, .int .i64 16, .int .i64 22] _ (Blk.range hlb) Try.underlying24 rfl HZ14.out ?_
      exact hK _ _ ⟨_, by simp only [putAll, Act.put, List.setIfInBounds_toArray, List.set_cons_zero, List.set_cons_succ], b0, b1, true, b3, b4, b5, b6, b7, _, _, _, _, _, _, pb, sb, rfl, rfl, hI, h0, h1, Lib.hid (fun _ => rfl), h3, h4, h5, n4_5, g6, g7⟩
    · as_aux_lemma =>
      obtain ⟨hn, hd⟩ := ready_at hr rfl
      simp [Region.binds] at hn hd
      obtain rfl := h2.out (by simp [hd])
      refine wpOp_step rfl (fun K' hK => ?_)
      simp only [putAll, Act.put, List.setIfInBounds_toArray, List.set_cons_zero, List.set_cons_succ]
      go_simp
      refine (HNS _).out.mono ?_
      rintro e w' ⟨rfl, hk⟩
      exact hK _ _ ⟨_, by simp only [putAll, Act.put, List.setIfInBounds_toArray, List.set_cons_zero, List.set_cons_succ], b0, b1, b2, true, b4, b5, b6, b7, _, _, _, _, _, _, pb, sb, rfl, rfl, (Lib.hid (hI.out.kept hk)), h0, h1, h2, Lib.hid (fun _ => rfl), Lib.hid (fun hb => ⟨(h4.out hb).1, (h4.out hb).2.1, (h4.out hb).2.2.kept hk⟩), Lib.hid (fun hb => ⟨(h5.out hb).1, (h5.out hb).2.1, (h5.out hb).2.2.kept hk⟩), n4_5, g6, g7⟩
    · as_aux_lemma =>
      obtain ⟨hn, hd⟩ := ready_at hr rfl
      simp [Region.binds] at hn hd
      have hbq : b6 = false := by cases b6 with | false => rfl | true => (have := g6.out rfl; rw [hn] at this; cases this)
      subst hbq
      refine wpOp_step rfl (fun K' hK => ?_)
      simp only [putAll, Act.put, List.setIfInBounds_toArray, List.set_cons_zero, List.set_cons_succ]
      go_simp
      exact hK _ _ ⟨_, by simp only [putAll, Act.put, List.setIfInBounds_toArray, List.set_cons_zero, List.set_cons_succ], b0, b1, b2, b3, true, b5, false, b7, _, _, _, _, _, _, W.heap.size, sb, rfl, rfl, (Lib.hid (hI.out.kept ((Upd.refl _ _).alloc _))), h0, h1, h2, h3, Lib.hid (fun _ => ⟨rfl, hI.out.up, Blk.new _ _ _⟩), Lib.hid (fun hb => ⟨(h5.out hb).1, (h5.out hb).2.1, (h5.out hb).2.2.kept ((Upd.refl _ _).alloc _)⟩), Lib.hid (fun _ hb e => by have := (h5.out hb).2.2.lt; omega), Lib.hid (by simp), g7⟩
    · as_aux_lemma =>
      obtain ⟨hn, hd⟩ := ready_at hr rfl
      simp [Region.binds] at hn hd
      have hbq : b7 = false := by cases b7 with | false => rfl | true => (have := g7.out rfl; rw [hn] at this; cases this)
      subst hbq
      refine wpOp_step rfl (fun K' hK => ?_)
      simp only [putAll, Act.put, List.setIfInBounds_toArray, List.set_cons_zero, List.set_cons_succ]
      go_simp
      exact hK _ _ ⟨_, by simp only [putAll, Act.put, List.setIfInBounds_toArray, List.set_cons_zero, List.set_cons_succ], b0, b1, b2, b3, b4, true, b6, false, _, _, _, _, _, _, pb, W.heap.size, rfl, rfl, (Lib.hid (hI.out.kept ((Upd.refl _ _).alloc _))), h0, h1, h2, h3, Lib.hid (fun hb => ⟨(h4.out hb).1, (h4.out hb).2.1, (h4.out hb).2.2.kept ((Upd.refl _ _).alloc _)⟩), Lib.hid (fun _ => ⟨rfl, hI.out.up, Blk.new _ _ _⟩), Lib.hid (fun hb _ e => by have := (h4.out hb).2.2.lt; omega), g6, Lib.hid (by simp)⟩
    · as_aux_lemma =>
      obtain ⟨hn, hd⟩ := ready_at hr rfl
      simp [Region.binds] at hn hd
      obtain rfl := h1.out (by simp [hd])
      obtain ⟨hp, hx, hbk⟩ := h4.out (by simp [hd])
      subst hn hp
      have hbk : Blk W _ _ _ := hbk
      have hc := hbk.cell
      have hf := hbk.free
      refine wpOp_step (o := ⟨none, .store 51 (.tmp 4) (.tmp 24), 0, _, _, none⟩) rfl (fun K' hK => ?_)
      simp only [putAll, Act.put, List.setIfInBounds_toArray, List.set_cons_zero, List.set_cons_succ]
      simp only [if_false, Bool.false_eq_true] at hbk
      refine wp_store_mid 51 (.tmp 4) (.tmp 24) rfl pb 0 #[.int .i64 4, .int .i64 0, .int .i64 1, .int .i64 4, .int .i64 0, .int .i64 0, .int .i64 4, .int .i64 8, .int .i64 12, .int .i64 13, .int .i64 14, .int .i64 15, .int .i64 16, .int .i64 22, .int .i64 0, .int .i64 0, .int .i64 0, .int .i64 0, .int .i64 0, .bool false, .bool false] rfl rfl (Blk.there hbk 21 rfl) HZP.out (all_oneCell_toArray (cs := [.int .i64 4, .int .i64 0, .int .i64 1, .int .i64 4, .int .i64 0, .int .i64 0, .int .i64 4, .int .i64 8, .int .i64 12, .int .i64 13, .int .i64 14, .int .i64 15, .int .i64 16, .int .i64 22, .int .i64 0, .int .i64 0, .int .i64 0, .int .i64 0, .int .i64 0, .bool false, .bool false]) (by simp [Value.oneCell'])) ?_
      have hs := hbk.alls [.int .i64 4, .int .i64 0, .int .i64 1, .int .i64 4, .int .i64 0, .int .i64 0, .int .i64 4, .int .i64 8, .int .i64 12, .int .i64 13, .int .i64 14, .int .i64 15, .int .i64 16, .int .i64 22, .int .i64 0, .int .i64 0, .int .i64 0, .int .i64 0, .int .i64 0, .bool false, .bool false] rfl
      exact hK _ _ ⟨_, by simp only [putAll, Act.put, List.setIfInBounds_toArray, List.set_cons_zero, List.set_cons_succ], b0, b1, b2, b3, b4, b5, true, b7, _, _, _, _, _, _, pb, sb, rfl, rfl, (Lib.hid (hI.out.upd hs.2 hx)), h0, h1, h2, h3, Lib.hid (fun _ => ⟨rfl, hx, hs.1⟩), Lib.hid (fun hb => ⟨(h5.out hb).1, (h5.out hb).2.1, (h5.out hb).2.2.upd hs.2 (fun e => n4_5.out (by simp [hd]) hb e.symm)⟩), n4_5, Lib.hid (fun _ => (by simp [hd])), g7⟩
    · as_aux_lemma =>
      obtain ⟨hn, hd⟩ := ready_at hr rfl
      simp [Region.binds] at hn hd
      obtain rfl := h3.out (by simp [hd])
      obtain ⟨hp, hx, hbk⟩ := h5.out (by simp [hd])
      subst hn hp
      have hbk : Blk W _ _ _ := hbk
      have hc := hbk.cell
      have hf := hbk.free
      refine wpOp_step (o := ⟨none, .store 45 (.tmp 5) (.tmp 26), 0, _, _, none⟩) rfl (fun K' hK => ?_)
      simp only [putAll, Act.put, List.setIfInBounds_toArray, List.set_cons_zero, List.set_cons_succ]
      simp only [if_false, Bool.false_eq_true] at hbk
      refine wp_store_mid 45 (.tmp 5) (.tmp 26) rfl sb 0 #[.int .i64 4, .int .i64 0, .int .i64 1, .int .i64 4, .int .i64 0, .int .i64 0, .int .i64 4, .int .i64 8, .int .i64 12, .int .i64 13, .int .i64 14, .int .i64 15, .int .i64 16, .int .i64 22, .int .i64 0, .int .i64 0, .int .i64 0, .int .i64 0, .int .i64 0, .bool false, .bool false, .bool false] rfl rfl (Blk.there hbk 22 rfl) HZS.out (all_oneCell_toArray (cs := [.int .i64 4, .int .i64 0, .int .i64 1, .int .i64 4, .int .i64 0, .int .i64 0, .int .i64 4, .int .i64 8, .int .i64 12, .int .i64 13, .int .i64 14, .int .i64 15, .int .i64 16, .int .i64 22, .int .i64 0, .int .i64 0, .int .i64 0, .int .i64 0, .int .i64 0, .bool false, .bool false, .bool false]) (by simp [Value.oneCell'])) ?_
      have hs := hbk.alls [.int .i64 4, .int .i64 0, .int .i64 1, .int .i64 4, .int .i64 0, .int .i64 0, .int .i64 4, .int .i64 8, .int .i64 12, .int .i64 13, .int .i64 14, .int .i64 15, .int .i64 16, .int .i64 22, .int .i64 0, .int .i64 0, .int .i64 0, .int .i64 0, .int .i64 0, .bool false, .bool false, .bool false] rfl
      exact hK _ _ ⟨_, by simp only [putAll, Act.put, List.setIfInBounds_toArray, List.set_cons_zero, List.set_cons_succ], b0, b1, b2, b3, b4, b5, b6, true, _, _, _, _, _, _, pb, sb, rfl, rfl, (Lib.hid (hI.out.upd hs.2 hx)), h0, h1, h2, h3, Lib.hid (fun hb => ⟨(h4.out hb).1, (h4.out hb).2.1, (h4.out hb).2.2.upd hs.2 (fun e => n4_5.out hb (by simp [hd]) e)⟩), Lib.hid (fun _ => ⟨rfl, hx, hs.1⟩), n4_5, g6, Lib.hid (fun _ => (by simp [hd]))⟩
  · rintro l us W ⟨b0, b1, b2, b3, b4, b5, b6, b7, v23, v24, v25, v26, v4, v5, pb, sb, rfl, rfl, hI, h0, h1, h2, h3, h4, h5, n4_5, g6, g7⟩ hall
    as_aux_lemma =>
    obtain rfl : b0 = true := by simpa using hall 0
    obtain rfl : b1 = true := by simpa using hall 1
    obtain rfl : b2 = true := by simpa using hall 2
    obtain rfl : b3 = true := by simpa using hall 3
    obtain rfl : b4 = true := by simpa using hall 4
    obtain rfl : b5 = true := by simpa using hall 5
    obtain rfl : b6 = true := by simpa using hall 6
    obtain rfl : b7 = true := by simpa using hall 7
    obtain rfl := h0.out rfl
    obtain rfl := h1.out rfl
    obtain rfl := h2.out rfl
    obtain rfl := h3.out rfl
    obtain ⟨rfl, hx4, hB4⟩ := h4.out rfl
    obtain ⟨rfl, hx5, hB5⟩ := h5.out rfl
    simp only [putAll, Act.put, List.setIfInBounds_toArray, List.set_cons_zero, List.set_cons_succ]
    have A0 : Hid (AW w lb bb g pb sb (List.replicate 22 0) ⟨0, 0, 0, 0, false, false⟩ ⟨0, 0, 0, 0, false, false⟩ false W) := Lib.hid (by
      have k := hI.out.k
      have h1 := HLB.out.lt
      have h4 := HBK.out.head.lt
      have h5 := HBK.out.row.lt
      have h6 := HK0.out.size
      have h7 := n4_5.out rfl rfl
      have h8 := HNZ.out
      exact ⟨HK0.out.trans k, HLB.out.kept k, HBK.out.kept k, hB4, hB5, by omega⟩)
    clear hall hI hB4 hB5 hx4 hx5 HLB HBK HK0 HNZ
    go_upto_region 5 with (fail)
    go_wp2_with fail
    refine (ends_pop geo4 A0.out.p A0.out.b A0.out.ne.1 (pop_none row4 false) (by omega)).mono ?_
    rintro e WA1 ⟨rfl, hK⟩
    have A1 := Lib.hid (A0.out.pop hK)
    clear hK A0
    go_wp2_with fail
    refine (ends_steal geo4 A1.out.s A1.out.b A1.out.ne.2 (steal_none row4) (by omega)).mono ?_
    rintro e W2 ⟨rfl, hK⟩
    have A2 := Lib.hid (A1.out.steal hK)
    clear hK A1
    go_wp2_with fail
    refine (pop_got A2.out.p).mono ?_
    rintro e w9 ⟨rfl, rfl⟩
    simp only [took, Bool.and_false, if_false, Bool.false_eq_true]
    go_wp2_with fail
    refine (steal_got A2.out.s).mono ?_
    rintro e w9 ⟨rfl, rfl⟩
    simp only [took, Bool.and_false, if_false, Bool.false_eq_true]
    go_upto_region 9 with (fail)
  
    refine wp_region_inv (fun l us W => ∃ (b0 b1 b2 b3 b4 b5 b6 b7 : Bool) (v45 v46 v47 v48 v10 v11 : Value) (xb yb : Nat), l = #[b0, b1, b2, b3, b4, b5, b6, b7] ∧ us = [v45, v46, v47, v48, v10, v11] ∧ Hid (KK W2 W) ∧
      Hid (b0 = true → v45 = .agg #[.int .i64 4, .int .i64 0, .int .i64 1, .int .i64 4, .int .i64 0, .int .i64 0, .int .i64 4, .int .i64 8, .int .i64 12, .int .i64 13, .int .i64 14, .int .i64 15, .int .i64 16, .int .i64 22]) ∧
      Hid (b1 = true → v46 = .agg #[.int .i64 4, .int .i64 0, .int .i64 1, .int .i64 4, .int .i64 0, .int .i64 0, .int .i64 4, .int .i64 8, .int .i64 12, .int .i64 13, .int .i64 14, .int .i64 15, .int .i64 16, .int .i64 22, .int .i64 0, .int .i64 0, .int .i64 0, .int .i64 0, .int .i64 0, .bool false, .bool false, .int .i64 7]) ∧
      Hid (b2 = true → v47 = .agg #[.int .i64 4, .int .i64 0, .int .i64 1, .int .i64 4, .int .i64 0, .int .i64 0, .int .i64 4, .int .i64 8, .int .i64 12, .int .i64 13, .int .i64 14, .int .i64 15, .int .i64 16, .int .i64 22]) ∧
      Hid (b3 = true → v48 = .agg #[.int .i64 4, .int .i64 0, .int .i64 1, .int .i64 4, .int .i64 0, .int .i64 0, .int .i64 4, .int .i64 8, .int .i64 12, .int .i64 13, .int .i64 14, .int .i64 15, .int .i64 16, .int .i64 22, .int .i64 0, .int .i64 0, .int .i64 0, .int .i64 0, .int .i64 0, .bool false, .bool false, .int .i64 8]) ∧
      Hid (b4 = true → v10 = .pointer (some ⟨xb, 0, none⟩) ∧ W2.heap.size ≤ xb ∧ Blk W xb (if b6 then #[.int .i64 4, .int .i64 0, .int .i64 1, .int .i64 4, .int .i64 0, .int .i64 0, .int .i64 4, .int .i64 8, .int .i64 12, .int .i64 13, .int .i64 14, .int .i64 15, .int .i64 16, .int .i64 22, .int .i64 0, .int .i64 0, .int .i64 0, .int .i64 0, .int .i64 0, .bool false, .bool false, .int .i64 7] else #[.int .i64 0, .int .i64 0, .int .i64 0, .int .i64 0, .int .i64 0, .int .i64 0, .int .i64 0, .int .i64 0, .int .i64 0, .int .i64 0, .int .i64 0, .int .i64 0, .int .i64 0, .int .i64 0, .int .i64 0, .int .i64 0, .int .i64 0, .int .i64 0, .int .i64 0, .bool false, .bool false, .int .i64 0]) 48) ∧
      Hid (b5 = true → v11 = .pointer (some ⟨yb, 0, none⟩) ∧ W2.heap.size ≤ yb ∧ Blk W yb (if b7 then #[.int .i64 4, .int .i64 0, .int .i64 1, .int .i64 4, .int .i64 0, .int .i64 0, .int .i64 4, .int .i64 8, .int .i64 12, .int .i64 13, .int .i64 14, .int .i64 15, .int .i64 16, .int .i64 22, .int .i64 0, .int .i64 0, .int .i64 0, .int .i64 0, .int .i64 0, .bool false, .bool false, .int .i64 8] else #[.int .i64 0, .int .i64 0, .int .i64 0, .int .i64 0, .int .i64 0, .int .i64 0, .int .i64 0, .int .i64 0, .int .i64 0, .int .i64 0, .int .i64 0, .int .i64 0, .int .i64 0, .int .i64 0, .int .i64 0, .int .i64 0, .int .i64 0, .int .i64 0, .int .i64 0, .bool false, .bool false, .int .i64 0]) 48) ∧
      Hid (b4 = true → b5 = true → ¬ xb = yb) ∧
      Hid (b6 = true → b4 = true) ∧
      Hid (b7 = true → b5 = true)) [45, 46, 47, 48, 10, 11] [undef, undef, undef, undef, undef, undef] (by kernel_rfl) (by kernel_rfl) (by simp only [putAll, Act.put, List.setIfInBounds_toArray, List.set_cons_zero, List.set_cons_succ]) ?_ ?_ ?_
    · exact ⟨false, false, false, false, false, false, false, false, _, _, _, _, _, _, 0, 0, rfl, rfl, Lib.hid (⟨(Upd.refl _ _).drew⟩), Lib.hid (by simp), Lib.hid (by simp), Lib.hid (by simp), Lib.hid (by simp), Lib.hid (by simp), Lib.hid (by simp), Lib.hid (by simp), Lib.hid (by simp), Lib.hid (by simp)⟩
    · rintro i l us W ⟨b0, b1, b2, b3, b4, b5, b6, b7, v45, v46, v47, v48, v10, v11, xb, yb, rfl, rfl, hI, h0, h1, h2, h3, h4, h5, n4_5, g6, g7⟩ hr
      have hi : i = 0 ∨ i = 1 ∨ i = 2 ∨ i = 3 ∨ i = 4 ∨ i = 5 ∨ i = 6 ∨ i = 7 := by
        have := ready_lt hr
        simp at this
        omega
      rcases hi with rfl | rfl | rfl | rfl | rfl | rfl | rfl | rfl
      · as_aux_lemma =>
        obtain ⟨hn, hd⟩ := ready_at hr rfl
        simp [Region.binds] at hn hd
        have hlb := (A2.out.kept hI.out.k).l
        refine wpOp_step (o := ⟨some 45, .load 24 (.tmp 1), 24, _, _, none⟩) rfl (fun K' hK => ?_)
        simp only [putAll, Act.put, List.setIfInBounds_toArray, List.set_cons_zero, List.set_cons_succ]
        refine wp_load_mid 24 (.tmp 1) rfl lb 0 rfl [.int .i64 4, .int .i64 0, .int .i64 1, .int .i64 4, .int .i64 0, .int .i64 0, .int .i64 4, .int .i64 8, .int .i64 12, .int .i64 13, .int .i64 14, .int .i64 15, .int .i64 16, .int .i64 22] _ (Blk.range hlb) Try.underlying24 rfl HZ14.out ?_
        exact hK _ _ ⟨_, by simp only [putAll, Act.put, List.setIfInBounds_toArray, List.set_cons_zero, List.set_cons_succ], true, b1, b2, b3, b4, b5, b6, b7, _, _, _, _, _, _, xb, yb, rfl, rfl, hI, Lib.hid (fun _ => rfl), h1, h2, h3, h4, h5, n4_5, g6, g7⟩
      · as_aux_lemma =>
        obtain ⟨hn, hd⟩ := ready_at hr rfl
        simp [Region.binds] at hn hd
        obtain rfl := h0.out (by simp [hd])
        refine wpOp_step rfl (fun K' hK => ?_)
        simp only [putAll, Act.put, List.setIfInBounds_toArray, List.set_cons_zero, List.set_cons_succ]
        go_simp
        refine (HNU7 _).out.mono ?_
        rintro e w' ⟨rfl, hk⟩
        exact hK _ _ ⟨_, by simp only [putAll, Act.put, List.setIfInBounds_toArray, List.set_cons_zero, List.set_cons_succ], b0, true, b2, b3, b4, b5, b6, b7, _, _, _, _, _, _, xb, yb, rfl, rfl, (Lib.hid (hI.out.kept hk)), h0, Lib.hid (fun _ => rfl), h2, h3, Lib.hid (fun hb => ⟨(h4.out hb).1, (h4.out hb).2.1, (h4.out hb).2.2.kept hk⟩), Lib.hid (fun hb => ⟨(h5.out hb).1, (h5.out hb).2.1, (h5.out hb).2.2.kept hk⟩), n4_5, g6, g7⟩
      · as_aux_lemma =>
        obtain ⟨hn, hd⟩ := ready_at hr rfl
        simp [Region.binds] at hn hd
        have hlb := (A2.out.kept hI.out.k).l
        refine wpOp_step (o := ⟨some 47, .load 24 (.tmp 1), 24, _, _, none⟩) rfl (fun K' hK => ?_)
        simp only [putAll, Act.put, List.setIfInBounds_toArray, List.set_cons_zero, List.set_cons_succ]
        refine wp_load_mid 24 (.tmp 1) rfl lb 0 rfl [.int .i64 4, .int .i64 0, .int .i64 1, .int .i64 4, .int .i64 0, .int .i64 0, .int .i64 4, .int .i64 8, .int .i64 12, .int .i64 13, .int .i64 14, .int .i64 15, .int .i64 16, .int .i64 22] _ (Blk.range hlb) Try.underlying24 rfl HZ14.out ?_
        exact hK _ _ ⟨_, by simp only [putAll, Act.put, List.setIfInBounds_toArray, List.set_cons_zero, List.set_cons_succ], b0, b1, true, b3, b4, b5, b6, b7, _, _, _, _, _, _, xb, yb, rfl, rfl, hI, h0, h1, Lib.hid (fun _ => rfl), h3, h4, h5, n4_5, g6, g7⟩
      · as_aux_lemma =>
        obtain ⟨hn, hd⟩ := ready_at hr rfl
        simp [Region.binds] at hn hd
        obtain rfl := h2.out (by simp [hd])
        refine wpOp_step rfl (fun K' hK => ?_)
        simp only [putAll, Act.put, List.setIfInBounds_toArray, List.set_cons_zero, List.set_cons_succ]
        go_simp
        refine (HNU8 _).out.mono ?_
        rintro e w' ⟨rfl, hk⟩
        exact hK _ _ ⟨_, by simp only [putAll, Act.put, List.setIfInBounds_toArray, List.set_cons_zero, List.set_cons_succ], b0, b1, b2, true, b4, b5, b6, b7, _, _, _, _, _, _, xb, yb, rfl, rfl, (Lib.hid (hI.out.kept hk)), h0, h1, h2, Lib.hid (fun _ => rfl), Lib.hid (fun hb => ⟨(h4.out hb).1, (h4.out hb).2.1, (h4.out hb).2.2.kept hk⟩), Lib.hid (fun hb => ⟨(h5.out hb).1, (h5.out hb).2.1, (h5.out hb).2.2.kept hk⟩), n4_5, g6, g7⟩
      · as_aux_lemma =>
        obtain ⟨hn, hd⟩ := ready_at hr rfl
        simp [Region.binds] at hn hd
        have hbq : b6 = false := by cases b6 with | false => rfl | true => (have := g6.out rfl; rw [hn] at this; cases this)
        subst hbq
        refine wpOp_step rfl (fun K' hK => ?_)
        simp only [putAll, Act.put, List.setIfInBounds_toArray, List.set_cons_zero, List.set_cons_succ]
        go_simp
        exact hK _ _ ⟨_, by simp only [putAll, Act.put, List.setIfInBounds_toArray, List.set_cons_zero, List.set_cons_succ], b0, b1, b2, b3, true, b5, false, b7, _, _, _, _, _, _, W.heap.size, yb, rfl, rfl, (Lib.hid (hI.out.kept ((Upd.refl _ _).alloc _))), h0, h1, h2, h3, Lib.hid (fun _ => ⟨rfl, hI.out.up, Blk.new _ _ _⟩), Lib.hid (fun hb => ⟨(h5.out hb).1, (h5.out hb).2.1, (h5.out hb).2.2.kept ((Upd.refl _ _).alloc _)⟩), Lib.hid (fun _ hb e => by have := (h5.out hb).2.2.lt; omega), Lib.hid (by simp), g7⟩
      · as_aux_lemma =>
        obtain ⟨hn, hd⟩ := ready_at hr rfl
        simp [Region.binds] at hn hd
        have hbq : b7 = false := by cases b7 with | false => rfl | true => (have := g7.out rfl; rw [hn] at this; cases this)
        subst hbq
        refine wpOp_step rfl (fun K' hK => ?_)
        simp only [putAll, Act.put, List.setIfInBounds_toArray, List.set_cons_zero, List.set_cons_succ]
        go_simp
        exact hK _ _ ⟨_, by simp only [putAll, Act.put, List.setIfInBounds_toArray, List.set_cons_zero, List.set_cons_succ], b0, b1, b2, b3, b4, true, b6, false, _, _, _, _, _, _, xb, W.heap.size, rfl, rfl, (Lib.hid (hI.out.kept ((Upd.refl _ _).alloc _))), h0, h1, h2, h3, Lib.hid (fun hb => ⟨(h4.out hb).1, (h4.out hb).2.1, (h4.out hb).2.2.kept ((Upd.refl _ _).alloc _)⟩), Lib.hid (fun _ => ⟨rfl, hI.out.up, Blk.new _ _ _⟩), Lib.hid (fun hb _ e => by have := (h4.out hb).2.2.lt; omega), g6, Lib.hid (by simp)⟩
      · as_aux_lemma =>
        obtain ⟨hn, hd⟩ := ready_at hr rfl
        simp [Region.binds] at hn hd
        obtain rfl := h1.out (by simp [hd])
        obtain ⟨hp, hx, hbk⟩ := h4.out (by simp [hd])
        subst hn hp
        have hbk : Blk W _ _ _ := hbk
        have hc := hbk.cell
        have hf := hbk.free
        refine wpOp_step (o := ⟨none, .store 48 (.tmp 10) (.tmp 46), 0, _, _, none⟩) rfl (fun K' hK => ?_)
        simp only [putAll, Act.put, List.setIfInBounds_toArray, List.set_cons_zero, List.set_cons_succ]
        simp only [if_false, Bool.false_eq_true] at hbk
        refine wp_store_mid 48 (.tmp 10) (.tmp 46) rfl xb 0 #[.int .i64 4, .int .i64 0, .int .i64 1, .int .i64 4, .int .i64 0, .int .i64 0, .int .i64 4, .int .i64 8, .int .i64 12, .int .i64 13, .int .i64 14, .int .i64 15, .int .i64 16, .int .i64 22, .int .i64 0, .int .i64 0, .int .i64 0, .int .i64 0, .int .i64 0, .bool false, .bool false, .int .i64 7] rfl rfl (Blk.there hbk 22 rfl) HZU.out (all_oneCell_toArray (cs := [.int .i64 4, .int .i64 0, .int .i64 1, .int .i64 4, .int .i64 0, .int .i64 0, .int .i64 4, .int .i64 8, .int .i64 12, .int .i64 13, .int .i64 14, .int .i64 15, .int .i64 16, .int .i64 22, .int .i64 0, .int .i64 0, .int .i64 0, .int .i64 0, .int .i64 0, .bool false, .bool false, .int .i64 7]) (by simp [Value.oneCell'])) ?_
        have hs := hbk.alls [.int .i64 4, .int .i64 0, .int .i64 1, .int .i64 4, .int .i64 0, .int .i64 0, .int .i64 4, .int .i64 8, .int .i64 12, .int .i64 13, .int .i64 14, .int .i64 15, .int .i64 16, .int .i64 22, .int .i64 0, .int .i64 0, .int .i64 0, .int .i64 0, .int .i64 0, .bool false, .bool false, .int .i64 7] rfl
        exact hK _ _ ⟨_, by simp only [putAll, Act.put, List.setIfInBounds_toArray, List.set_cons_zero, List.set_cons_succ], b0, b1, b2, b3, b4, b5, true, b7, _, _, _, _, _, _, xb, yb, rfl, rfl, (Lib.hid (hI.out.upd hs.2 hx)), h0, h1, h2, h3, Lib.hid (fun _ => ⟨rfl, hx, hs.1⟩), Lib.hid (fun hb => ⟨(h5.out hb).1, (h5.out hb).2.1, (h5.out hb).2.2.upd hs.2 (fun e => n4_5.out (by simp [hd]) hb e.symm)⟩), n4_5, Lib.hid (fun _ => (by simp [hd])), g7⟩
      · as_aux_lemma =>
        obtain ⟨hn, hd⟩ := ready_at hr rfl
        simp [Region.binds] at hn hd
        obtain rfl := h3.out (by simp [hd])
        obtain ⟨hp, hx, hbk⟩ := h5.out (by simp [hd])
        subst hn hp
        have hbk : Blk W _ _ _ := hbk
        have hc := hbk.cell
        have hf := hbk.free
        refine wpOp_step (o := ⟨none, .store 48 (.tmp 11) (.tmp 48), 0, _, _, none⟩) rfl (fun K' hK => ?_)
        simp only [putAll, Act.put, List.setIfInBounds_toArray, List.set_cons_zero, List.set_cons_succ]
        simp only [if_false, Bool.false_eq_true] at hbk
        refine wp_store_mid 48 (.tmp 11) (.tmp 48) rfl yb 0 #[.int .i64 4, .int .i64 0, .int .i64 1, .int .i64 4, .int .i64 0, .int .i64 0, .int .i64 4, .int .i64 8, .int .i64 12, .int .i64 13, .int .i64 14, .int .i64 15, .int .i64 16, .int .i64 22, .int .i64 0, .int .i64 0, .int .i64 0, .int .i64 0, .int .i64 0, .bool false, .bool false, .int .i64 8] rfl rfl (Blk.there hbk 22 rfl) HZU.out (all_oneCell_toArray (cs := [.int .i64 4, .int .i64 0, .int .i64 1, .int .i64 4, .int .i64 0, .int .i64 0, .int .i64 4, .int .i64 8, .int .i64 12, .int .i64 13, .int .i64 14, .int .i64 15, .int .i64 16, .int .i64 22, .int .i64 0, .int .i64 0, .int .i64 0, .int .i64 0, .int .i64 0, .bool false, .bool false, .int .i64 8]) (by simp [Value.oneCell'])) ?_
        have hs := hbk.alls [.int .i64 4, .int .i64 0, .int .i64 1, .int .i64 4, .int .i64 0, .int .i64 0, .int .i64 4, .int .i64 8, .int .i64 12, .int .i64 13, .int .i64 14, .int .i64 15, .int .i64 16, .int .i64 22, .int .i64 0, .int .i64 0, .int .i64 0, .int .i64 0, .int .i64 0, .bool false, .bool false, .int .i64 8] rfl
        exact hK _ _ ⟨_, by simp only [putAll, Act.put, List.setIfInBounds_toArray, List.set_cons_zero, List.set_cons_succ], b0, b1, b2, b3, b4, b5, b6, true, _, _, _, _, _, _, xb, yb, rfl, rfl, (Lib.hid (hI.out.upd hs.2 hx)), h0, h1, h2, h3, Lib.hid (fun hb => ⟨(h4.out hb).1, (h4.out hb).2.1, (h4.out hb).2.2.upd hs.2 (fun e => n4_5.out hb (by simp [hd]) e)⟩), Lib.hid (fun _ => ⟨rfl, hx, hs.1⟩), n4_5, g6, Lib.hid (fun _ => (by simp [hd]))⟩
    · rintro l us W ⟨b0, b1, b2, b3, b4, b5, b6, b7, v45, v46, v47, v48, v10, v11, xb, yb, rfl, rfl, hI, h0, h1, h2, h3, h4, h5, n4_5, g6, g7⟩ hall
      as_aux_lemma =>
      obtain rfl : b0 = true := by simpa using hall 0
      obtain rfl : b1 = true := by simpa using hall 1
      obtain rfl : b2 = true := by simpa using hall 2
      obtain rfl : b3 = true := by simpa using hall 3
      obtain rfl : b4 = true := by simpa using hall 4
      obtain rfl : b5 = true := by simpa using hall 5
      obtain rfl : b6 = true := by simpa using hall 6
      obtain rfl : b7 = true := by simpa using hall 7
      obtain rfl := h0.out rfl
      obtain rfl := h1.out rfl
      obtain rfl := h2.out rfl
      obtain rfl := h3.out rfl
      obtain ⟨rfl, hx4, hB4⟩ := h4.out rfl
      obtain ⟨rfl, hx5, hB5⟩ := h5.out rfl
      simp only [putAll, Act.put, List.setIfInBounds_toArray, List.set_cons_zero, List.set_cons_succ]
      have A3 := Lib.hid (A2.out.kept hI.out.k)
      have XB0 : Hid (PB W xb 48 lay4 0 ⟨0, 0, 0, 0, false, false⟩ [.int .i64 7]) := Lib.hid hB4
      have YB0 : Hid (PB W yb 48 lay4 0 ⟨0, 0, 0, 0, false, false⟩ [.int .i64 8]) := Lib.hid hB5
      have HXY : Hid (w.heap.size ≤ xb ∧ w.heap.size ≤ yb ∧ ¬ xb = lb ∧ ¬ xb = pb ∧ ¬ xb = sb ∧ ¬ xb = g ∧ ¬ xb = bb ∧ ¬ yb = lb ∧ ¬ yb = pb ∧ ¬ yb = sb ∧ ¬ yb = g ∧ ¬ yb = bb ∧ ¬ xb = yb) := Lib.hid (by
        have h1 := A2.out.l.lt
        have h2 := A2.out.p.lt
        have h3 := A2.out.s.lt
        have h4 := A2.out.b.head.lt
        have h5 := A2.out.b.row.lt
        have h6 := A2.out.kp.size
        have h7 := n4_5.out rfl rfl
        omega)
      clear hall hI hB4 hB5 hx4 hx5 A2
      go_upto_region 10 with (fail)
      go_wp2_with fail
      refine (ends_push geo4 XB0.out A3.out.b (by have := HXY.out; omega) AL1 (by omega)).mono ?_
      rintro e WA ⟨rfl, hK⟩
      have A4 := Lib.hid (A3.out.push hK (by have := HXY.out; omega))
      have XB1 := Lib.hid hK.1
      have YB1 := Lib.hid (YB0.out.upd hK.2.2 (by have := HXY.out; omega))
      clear hK A3 XB0 YB0
      go_wp2_with fail
      refine (ends_push geo4 YB1.out A4.out.b (by have := HXY.out; omega) AL2 (by omega)).mono ?_
      rintro e WB ⟨rfl, hK⟩
      have A5 := Lib.hid (A4.out.push hK (by have := HXY.out; omega))
      have YB2 := Lib.hid hK.1
      have XB2 := Lib.hid (XB1.out.upd hK.2.2 (by have := HXY.out; omega))
      clear hK A4 XB1 YB1
      go_wp2_with fail
      refine (push_ok XB2.out).mono ?_
      rintro e w9 ⟨rfl, rfl⟩
      simp only [Bool.and_self]
      go_wp2_with fail
      refine (push_ok YB2.out).mono ?_
      rintro e w9 ⟨rfl, rfl⟩
      simp only [Bool.and_self]
      clear XB2 YB2
      have cl := A5.out.l.cell
      go_wp2_with fail
      refine (Held_row geo4 A5.out.b ROW2 2 rfl).mono ?_
      rintro e WC ⟨ha, hc, rfl, hR, hk⟩
      have A6a := Lib.hid (A5.out.kept hk)
      have HR := Lib.hid hR
      clear hk hR A5 cl
      have hAL := (Upd.refl (fun _ => False) WC).alloc (.cells #[.int .i64 7, .int .i64 8] 2)
      have HS2 := Lib.hid (same_at ha (some ⟨WC.heap.size, 0, none⟩) hc 2 [7, 8] 2 _ (HR.out.kept hAL) (Rd.blk (Blk.new WC #[.int .i64 7, .int .i64 8] 2)) rfl (by omega))
      have A6b := Lib.hid (A6a.out.kept hAL)
      clear hAL HR A6a
      go_wp2_with fail
      refine HS2.out.mono ?_
      rintro e W6 ⟨rfl, hk⟩
      have A6 := Lib.hid (A6b.out.kept hk)
      clear hk HS2 A6b
      obtain ⟨mp, ms, lo, RST0⟩ : ∃ mp ms lo, Hid (RST w lb bb g pb sb x2 mp ms lo false false W6) := ⟨_, _, _, Lib.hid ⟨A6.out⟩⟩
      clear A6 HXY HNU7 HNU8
      go_upto_region 12 with (fail)
    
      refine wp_region_inv (fun l us W => ∃ (b0 b1 b2 b3 b4 b5 : Bool) (v81 v82 v83 v84 : Value), l = #[b0, b1, b2, b3, b4, b5] ∧ us = [v81, v82, v83, v84] ∧ Hid (RST w lb bb g pb sb x2 mp ms lo b5 b4 W) ∧
      Hid (b0 = true → v81 = .agg #[.int .i64 4, .int .i64 0, .int .i64 1, .int .i64 4, .int .i64 0, .int .i64 0, .int .i64 4, .int .i64 8, .int .i64 12, .int .i64 13, .int .i64 14, .int .i64 15, .int .i64 16, .int .i64 22]) ∧
      Hid (b1 = true → v82 = .agg #[.int .i64 4, .int .i64 0, .int .i64 1, .int .i64 4, .int .i64 0, .int .i64 0, .int .i64 4, .int .i64 8, .int .i64 12, .int .i64 13, .int .i64 14, .int .i64 15, .int .i64 16, .int .i64 22, .int .i64 0, .int .i64 0, .int .i64 0, .int .i64 0, .int .i64 0, .bool false, .bool false, .bool false]) ∧
      Hid (b2 = true → v83 = .agg #[.int .i64 4, .int .i64 0, .int .i64 1, .int .i64 4, .int .i64 0, .int .i64 0, .int .i64 4, .int .i64 8, .int .i64 12, .int .i64 13, .int .i64 14, .int .i64 15, .int .i64 16, .int .i64 22]) ∧
      Hid (b3 = true → v84 = .agg #[.int .i64 4, .int .i64 0, .int .i64 1, .int .i64 4, .int .i64 0, .int .i64 0, .int .i64 4, .int .i64 8, .int .i64 12, .int .i64 13, .int .i64 14, .int .i64 15, .int .i64 16, .int .i64 22, .int .i64 0, .int .i64 0, .int .i64 0, .int .i64 0, .int .i64 0, .bool false, .bool false])) [81, 82, 83, 84] [undef, undef, undef, undef] (by kernel_rfl) (by kernel_rfl) (by simp only [putAll, Act.put, List.setIfInBounds_toArray, List.set_cons_zero, List.set_cons_succ]) ?_ ?_ ?_
      · exact ⟨false, false, false, false, false, false, _, _, _, _, rfl, rfl, Lib.hid (RST0.out.kept (Upd.refl _ _).drew), Lib.hid (by simp), Lib.hid (by simp), Lib.hid (by simp), Lib.hid (by simp)⟩
      · rintro i l us W ⟨b0, b1, b2, b3, b4, b5, v81, v82, v83, v84, rfl, rfl, hI, h0, h1, h2, h3⟩ hr
        have hi : i = 0 ∨ i = 1 ∨ i = 2 ∨ i = 3 ∨ i = 4 ∨ i = 5 := by
          have := ready_lt hr
          simp at this
          omega
        rcases hi with rfl | rfl | rfl | rfl | rfl | rfl
        · as_aux_lemma =>
          obtain ⟨hn, hd⟩ := ready_at hr rfl
          simp [Region.binds] at hn hd
          have hlb := hI.out.a.l
          refine wpOp_step (o := ⟨some 81, .load 24 (.tmp 1), 24, _, _, none⟩) rfl (fun K' hK => ?_)
          simp only [putAll, Act.put, List.setIfInBounds_toArray, List.set_cons_zero, List.set_cons_succ]
          refine wp_load_mid 24 (.tmp 1) rfl lb 0 rfl [.int .i64 4, .int .i64 0, .int .i64 1, .int .i64 4, .int .i64 0, .int .i64 0, .int .i64 4, .int .i64 8, .int .i64 12, .int .i64 13, .int .i64 14, .int .i64 15, .int .i64 16, .int .i64 22] _ (Blk.range hlb) Try.underlying24 rfl HZ14.out ?_
          exact hK _ _ ⟨_, by simp only [putAll, Act.put, List.setIfInBounds_toArray, List.set_cons_zero, List.set_cons_succ], true, b1, b2, b3, b4, b5, _, _, _, _, rfl, rfl, hI, Lib.hid (fun _ => rfl), h1, h2, h3⟩
        · as_aux_lemma =>
          obtain ⟨hn, hd⟩ := ready_at hr rfl
          simp [Region.binds] at hn hd
          obtain rfl := h0.out (by simp [hd])
          refine wpOp_step rfl (fun K' hK => ?_)
          simp only [putAll, Act.put, List.setIfInBounds_toArray, List.set_cons_zero, List.set_cons_succ]
          go_simp
          refine (HNS _).out.mono ?_
          rintro e w' ⟨rfl, hk⟩
          exact hK _ _ ⟨_, by simp only [putAll, Act.put, List.setIfInBounds_toArray, List.set_cons_zero, List.set_cons_succ], b0, true, b2, b3, b4, b5, _, _, _, _, rfl, rfl, (Lib.hid (hI.out.kept hk)), h0, Lib.hid (fun _ => rfl), h2, h3⟩
        · as_aux_lemma =>
          obtain ⟨hn, hd⟩ := ready_at hr rfl
          simp [Region.binds] at hn hd
          have hlb := hI.out.a.l
          refine wpOp_step (o := ⟨some 83, .load 24 (.tmp 1), 24, _, _, none⟩) rfl (fun K' hK => ?_)
          simp only [putAll, Act.put, List.setIfInBounds_toArray, List.set_cons_zero, List.set_cons_succ]
          refine wp_load_mid 24 (.tmp 1) rfl lb 0 rfl [.int .i64 4, .int .i64 0, .int .i64 1, .int .i64 4, .int .i64 0, .int .i64 0, .int .i64 4, .int .i64 8, .int .i64 12, .int .i64 13, .int .i64 14, .int .i64 15, .int .i64 16, .int .i64 22] _ (Blk.range hlb) Try.underlying24 rfl HZ14.out ?_
          exact hK _ _ ⟨_, by simp only [putAll, Act.put, List.setIfInBounds_toArray, List.set_cons_zero, List.set_cons_succ], b0, b1, true, b3, b4, b5, _, _, _, _, rfl, rfl, hI, h0, h1, Lib.hid (fun _ => rfl), h3⟩
        · as_aux_lemma =>
          obtain ⟨hn, hd⟩ := ready_at hr rfl
          simp [Region.binds] at hn hd
          obtain rfl := h2.out (by simp [hd])
          refine wpOp_step rfl (fun K' hK => ?_)
          simp only [putAll, Act.put, List.setIfInBounds_toArray, List.set_cons_zero, List.set_cons_succ]
          go_simp
          refine (HNP _).out.mono ?_
          rintro e w' ⟨rfl, hk⟩
          exact hK _ _ ⟨_, by simp only [putAll, Act.put, List.setIfInBounds_toArray, List.set_cons_zero, List.set_cons_succ], b0, b1, b2, true, b4, b5, _, _, _, _, rfl, rfl, (Lib.hid (hI.out.kept hk)), h0, h1, h2, Lib.hid (fun _ => rfl)⟩
        · as_aux_lemma =>
          obtain ⟨hn, hd⟩ := ready_at hr rfl
          simp [Region.binds] at hn hd
          obtain rfl := h1.out (by simp [hd])
          subst hn
          have hbk := hI.out.a.s
          unfold PB PL at hbk
          refine wpOp_step (o := ⟨none, .store 45 (.tmp 5) (.tmp 82), 0, _, _, none⟩) rfl (fun K' hK => ?_)
          simp only [putAll, Act.put, List.setIfInBounds_toArray, List.set_cons_zero, List.set_cons_succ]
          refine wp_store_mid 45 (.tmp 5) (.tmp 82) rfl sb 0 #[.int .i64 4, .int .i64 0, .int .i64 1, .int .i64 4, .int .i64 0, .int .i64 0, .int .i64 4, .int .i64 8, .int .i64 12, .int .i64 13, .int .i64 14, .int .i64 15, .int .i64 16, .int .i64 22, .int .i64 0, .int .i64 0, .int .i64 0, .int .i64 0, .int .i64 0, .bool false, .bool false, .bool false] rfl rfl (Blk.there hbk 22 rfl) HZS.out (all_oneCell_toArray (cs := [.int .i64 4, .int .i64 0, .int .i64 1, .int .i64 4, .int .i64 0, .int .i64 0, .int .i64 4, .int .i64 8, .int .i64 12, .int .i64 13, .int .i64 14, .int .i64 15, .int .i64 16, .int .i64 22, .int .i64 0, .int .i64 0, .int .i64 0, .int .i64 0, .int .i64 0, .bool false, .bool false, .bool false]) (by simp [Value.oneCell'])) ?_
          have hs := Blk.alls hbk [.int .i64 4, .int .i64 0, .int .i64 1, .int .i64 4, .int .i64 0, .int .i64 0, .int .i64 4, .int .i64 8, .int .i64 12, .int .i64 13, .int .i64 14, .int .i64 15, .int .i64 16, .int .i64 22, .int .i64 0, .int .i64 0, .int .i64 0, .int .i64 0, .int .i64 0, .bool false, .bool false, .bool false] rfl
          exact hK _ _ ⟨_, by simp only [putAll, Act.put, List.setIfInBounds_toArray, List.set_cons_zero, List.set_cons_succ], b0, b1, b2, b3, true, b5, _, _, _, _, rfl, rfl, (Lib.hid (hI.out.sets hs)), h0, h1, h2, h3⟩
        · as_aux_lemma =>
          obtain ⟨hn, hd⟩ := ready_at hr rfl
          simp [Region.binds] at hn hd
          obtain rfl := h3.out (by simp [hd])
          subst hn
          have hbk := hI.out.a.p
          unfold PB PL at hbk
          refine wpOp_step (o := ⟨none, .store 51 (.tmp 4) (.tmp 84), 0, _, _, none⟩) rfl (fun K' hK => ?_)
          simp only [putAll, Act.put, List.setIfInBounds_toArray, List.set_cons_zero, List.set_cons_succ]
          refine wp_store_mid 51 (.tmp 4) (.tmp 84) rfl pb 0 #[.int .i64 4, .int .i64 0, .int .i64 1, .int .i64 4, .int .i64 0, .int .i64 0, .int .i64 4, .int .i64 8, .int .i64 12, .int .i64 13, .int .i64 14, .int .i64 15, .int .i64 16, .int .i64 22, .int .i64 0, .int .i64 0, .int .i64 0, .int .i64 0, .int .i64 0, .bool false, .bool false] rfl rfl (Blk.there hbk 21 rfl) HZP.out (all_oneCell_toArray (cs := [.int .i64 4, .int .i64 0, .int .i64 1, .int .i64 4, .int .i64 0, .int .i64 0, .int .i64 4, .int .i64 8, .int .i64 12, .int .i64 13, .int .i64 14, .int .i64 15, .int .i64 16, .int .i64 22, .int .i64 0, .int .i64 0, .int .i64 0, .int .i64 0, .int .i64 0, .bool false, .bool false]) (by simp [Value.oneCell'])) ?_
          have hs := Blk.alls hbk [.int .i64 4, .int .i64 0, .int .i64 1, .int .i64 4, .int .i64 0, .int .i64 0, .int .i64 4, .int .i64 8, .int .i64 12, .int .i64 13, .int .i64 14, .int .i64 15, .int .i64 16, .int .i64 22, .int .i64 0, .int .i64 0, .int .i64 0, .int .i64 0, .int .i64 0, .bool false, .bool false] rfl
          exact hK _ _ ⟨_, by simp only [putAll, Act.put, List.setIfInBounds_toArray, List.set_cons_zero, List.set_cons_succ], b0, b1, b2, b3, b4, true, _, _, _, _, rfl, rfl, (Lib.hid (hI.out.setp hs)), h0, h1, h2, h3⟩
      · rintro l us W ⟨b0, b1, b2, b3, b4, b5, v81, v82, v83, v84, rfl, rfl, hI, h0, h1, h2, h3⟩ hall
        as_aux_lemma =>
        obtain rfl : b0 = true := by simpa using hall 0
        obtain rfl : b1 = true := by simpa using hall 1
        obtain rfl : b2 = true := by simpa using hall 2
        obtain rfl : b3 = true := by simpa using hall 3
        obtain rfl : b4 = true := by simpa using hall 4
        obtain rfl : b5 = true := by simpa using hall 5
        obtain rfl := h0.out rfl
        obtain rfl := h1.out rfl
        obtain rfl := h2.out rfl
        obtain rfl := h3.out rfl
        simp only [putAll, Act.put, List.setIfInBounds_toArray, List.set_cons_zero, List.set_cons_succ]
        have A7 := Lib.hid hI.out.a
        simp only [if_true] at A7
        clear hall hI
        go_upto_region 13 with (fail)
        go_wp2_with fail
        refine (ends_steal geo4 A7.out.s A7.out.b A7.out.ne.2 (AL3) (by omega)).mono ?_
        rintro e WA8 ⟨rfl, hK⟩
        have A8 := Lib.hid (A7.out.steal hK)
        clear hK A7
        go_wp2_with fail
        refine (ends_pop geo4 A8.out.p A8.out.b A8.out.ne.1 (AL4) (by omega)).mono ?_
        rintro e WA9 ⟨rfl, hK⟩
        have A9 := Lib.hid (A8.out.pop hK)
        clear hK A8
        go_wp2_with fail
        refine (steal_got A9.out.s).mono ?_
        rintro e w9 ⟨rfl, rfl⟩
        simp only [took, Bool.and_self, if_true]
        go_wp2_with fail
        refine (pop_got A9.out.p).mono ?_
        rintro e w9 ⟨rfl, rfl⟩
        simp only [took, Bool.and_self, if_true]
        have cl := A9.out.l.cell
        go_wp2_with fail
        refine (Held_row geo4 A9.out.b ROW4 0 rfl).mono ?_
        rintro e w9 ⟨ha, hc, rfl, hR, hk⟩
        have A10 := Lib.hid (A9.out.kept hk)
        clear hR hk A9 cl
        go_wp2_with fail
        go_ret
        exact ⟨rfl, A10.out.kp⟩
      
end Go.Proofs.Ytdgkemadhooogaa
