/- Two copies of a net, made in whatever order. No walk. (printed by gen_copies01.py) -/
import Derived.Test.YtafabeehbifgaaaNetState
namespace Go.Proofs.Ytafabeehbifgaaa
set_option linter.unusedVariables false
open Go.RowKit

/-- What has come up so far: two copies (b1, b3), two boxes (b4, b5), what was stored (b6, b7). -/
structure CQ (w : World) (nb B : Nat) (N S T : Int) (a : Option Addr) (n c : Nat) (ys : List Ar) (b1 b3 b4 b5 b6 b7 : Bool) (v22 v24 v7 v8 : Value) (xb yb g1 q1 g3 q3 : Nat) (W : World) : Prop where
  kp : Kept w W
  nn : Blk W nb #[.int .i64 N, .int .i64 S, .int .i64 T, .slice a n c] 24
  c1 : b1 = true → v22 = .agg #[.int .i64 N, .int .i64 S, .int .i64 T, .slice (some ⟨g1, 0, none⟩) n q1] ∧ Own W w.heap.size (.slice (some ⟨g1, 0, none⟩) n q1) ys
  c3 : b3 = true → b1 = true ∧ v24 = .agg #[.int .i64 N, .int .i64 S, .int .i64 T, .slice (some ⟨g3, 0, none⟩) n q3] ∧ Own W w.heap.size (.slice (some ⟨g3, 0, none⟩) n q3) ys ∧ ¬ g1 = g3
  a4 : b4 = true → v7 = .pointer (some ⟨xb, 0, none⟩) ∧ B ≤ xb ∧ (b6 = false → Blk W xb #[.int .i64 0, .int .i64 0, .int .i64 0, .slice none 0 0] 24) ∧ (b6 = true → Blk W xb #[.int .i64 N, .int .i64 S, .int .i64 T, .slice (some ⟨g1, 0, none⟩) n q1] 24)
  a5 : b5 = true → v8 = .pointer (some ⟨yb, 0, none⟩) ∧ B ≤ yb ∧ (b7 = false → Blk W yb #[.int .i64 0, .int .i64 0, .int .i64 0, .slice none 0 0] 24) ∧ (b7 = true → Blk W yb #[.int .i64 N, .int .i64 S, .int .i64 T, .slice (some ⟨g3, 0, none⟩) n q3] 24)
  ne : b4 = true → b5 = true → ¬ xb = yb
  l6 : b6 = true → b4 = true ∧ b1 = true ∧ b3 = true
  l7 : b7 = true → b5 = true ∧ b3 = true ∧ b6 = true
  nl : nb < B ∧ w.heap.size ≤ B
  le : B ≤ W.heap.size
section
variable {w : World} {nb B : Nat} {N S T : Int} {a : Option Addr} {n c : Nat} {ys : List Ar} {b1 b3 b4 b5 b6 b7 : Bool} {v22 v24 v7 v8 : Value} {xb yb g1 q1 g3 q3 : Nat} {W w' : World}
theorem CQ.lt4 (h : CQ w nb B N S T a n c ys b1 b3 b4 b5 b6 b7 (v22) (v24) (v7) (v8) xb yb g1 q1 g3 q3 (W)) (hb : b4 = true) : xb < W.heap.size := by
  obtain ⟨_, _, h1, h2⟩ := h.a4 hb
  cases hb6 : b6
  · exact (h1 hb6).lt
  · exact (h2 hb6).lt
theorem CQ.lt5 (h : CQ w nb B N S T a n c ys b1 b3 b4 b5 b6 b7 (v22) (v24) (v7) (v8) xb yb g1 q1 g3 q3 (W)) (hb : b5 = true) : yb < W.heap.size := by
  obtain ⟨_, _, h1, h2⟩ := h.a5 hb
  cases hb7 : b7
  · exact (h1 hb7).lt
  · exact (h2 hb7).lt
theorem CQ.kept (h : CQ w nb B N S T a n c ys b1 b3 b4 b5 b6 b7 (v22) (v24) (v7) (v8) xb yb g1 q1 g3 q3 (W)) (hk : Kept W w') : CQ w nb B N S T a n c ys b1 b3 b4 b5 b6 b7 (v22) (v24) (v7) (v8) xb yb g1 q1 g3 q3 (w') :=
  ⟨h.kp.trans hk, h.nn.kept hk, fun e => ⟨(h.c1 e).1, (h.c1 e).2.kept hk⟩, fun e => ⟨(h.c3 e).1, (h.c3 e).2.1, (h.c3 e).2.2.1.kept hk, (h.c3 e).2.2.2⟩,
   fun e => ⟨(h.a4 e).1, (h.a4 e).2.1, fun e' => ((h.a4 e).2.2.1 e').kept hk, fun e' => ((h.a4 e).2.2.2 e').kept hk⟩,
   fun e => ⟨(h.a5 e).1, (h.a5 e).2.1, fun e' => ((h.a5 e).2.2.1 e').kept hk, fun e' => ((h.a5 e).2.2.2 e').kept hk⟩, h.ne, h.l6, h.l7, h.nl, Nat.le_trans h.le hk.size⟩
theorem CQ.call1 (h : CQ w nb B N S T a n c ys b1 b3 b4 b5 b6 b7 (v22) (v24) (v7) (v8) xb yb g1 q1 g3 q3 (W)) (hb : b1 = false) (hk : Kept W w') {gg qq : Nat} (ho : Own w' W.heap.size (.slice (some ⟨gg, 0, none⟩) n qq) ys) : CQ w nb B N S T a n c ys true b3 b4 b5 b6 b7 (.agg #[.int .i64 N, .int .i64 S, .int .i64 T, .slice (some ⟨gg, 0, none⟩) n qq]) (v24) (v7) (v8) xb yb gg qq g3 q3 (w') := by
  have h3 : b3 = false := by cases e : b3 with | false => rfl | true => have := (h.c3 e).1; rw [hb] at this; cases this
  have h6 : b6 = false := by cases e : b6 with | false => rfl | true => have := (h.l6 e).2.1; rw [hb] at this; cases this
  have h' := h.kept hk
  subst h3 h6
  exact ⟨h'.kp, h'.nn, fun _ => ⟨rfl, ho.base h.kp.size⟩, fun e => (by cases e), fun e => ⟨(h'.a4 e).1, (h'.a4 e).2.1, (h'.a4 e).2.2.1, fun e' => (by cases e')⟩, h'.a5, h'.ne, fun e => (by cases e), h'.l7, h'.nl, h'.le⟩
theorem CQ.call3 (h : CQ w nb B N S T a n c ys b1 b3 b4 b5 b6 b7 (v22) (v24) (v7) (v8) xb yb g1 q1 g3 q3 (W)) (hb : b3 = false) (hb1 : b1 = true) (hn : 0 < ys.length) (hk : Kept W w') {gg qq : Nat} (ho : Own w' W.heap.size (.slice (some ⟨gg, 0, none⟩) n qq) ys) : CQ w nb B N S T a n c ys b1 true b4 b5 b6 b7 (v22) (.agg #[.int .i64 N, .int .i64 S, .int .i64 T, .slice (some ⟨gg, 0, none⟩) n qq]) (v7) (v8) xb yb g1 q1 gg qq (w') := by
  have h6 : b6 = false := by cases e : b6 with | false => rfl | true => have := (h.l6 e).2.2; rw [hb] at this; cases this
  have h7 : b7 = false := by cases e : b7 with | false => rfl | true => have := (h.l7 e).2.1; rw [hb] at this; cases this
  have h' := h.kept hk
  have hlt : g1 < W.heap.size := by
    obtain ⟨g, hg, _, hl, _⟩ := (h.c1 hb1).2.blk hn
    cases hg; exact hl
  have hge : W.heap.size ≤ gg := by
    obtain ⟨g, hg, hl, _, _⟩ := ho.blk hn
    cases hg; exact hl
  subst h6 h7
  exact ⟨h'.kp, h'.nn, h'.c1, fun _ => ⟨hb1, rfl, ho.base h.kp.size, by omega⟩, h'.a4, fun e => ⟨(h'.a5 e).1, (h'.a5 e).2.1, (h'.a5 e).2.2.1, fun e' => (by cases e')⟩, h'.ne, fun e => (by cases e), fun e => (by cases e), h'.nl, h'.le⟩
theorem CQ.al4 (h : CQ w nb B N S T a n c ys b1 b3 b4 b5 b6 b7 (v22) (v24) (v7) (v8) xb yb g1 q1 g3 q3 (W)) (hb : b4 = false) : CQ w nb B N S T a n c ys b1 b3 true b5 b6 b7 (v22) (v24) (.pointer (some ⟨W.heap.size, 0, none⟩)) (v8) W.heap.size yb g1 q1 g3 q3 (W.alloc (.cells #[.int .i64 0, .int .i64 0, .int .i64 0, .slice none 0 0] 24)) := by
  have h6 : b6 = false := by cases e : b6 with | false => rfl | true => have := (h.l6 e).1; rw [hb] at this; cases this
  have hk : Kept W (W.alloc (.cells #[.int .i64 0, .int .i64 0, .int .i64 0, .slice none 0 0] 24)) := (Upd.refl _ _).alloc _
  have h' := h.kept hk
  subst h6
  exact ⟨h'.kp, h'.nn, h'.c1, h'.c3, fun _ => ⟨rfl, h.le, fun _ => Blk.new _ _ _, fun e => (by cases e)⟩, h'.a5, fun _ e => by have := h.lt5 e; omega, fun e => (by cases e), h'.l7, h'.nl, h'.le⟩
theorem CQ.al5 (h : CQ w nb B N S T a n c ys b1 b3 b4 b5 b6 b7 (v22) (v24) (v7) (v8) xb yb g1 q1 g3 q3 (W)) (hb : b5 = false) : CQ w nb B N S T a n c ys b1 b3 b4 true b6 b7 (v22) (v24) (v7) (.pointer (some ⟨W.heap.size, 0, none⟩)) xb W.heap.size g1 q1 g3 q3 (W.alloc (.cells #[.int .i64 0, .int .i64 0, .int .i64 0, .slice none 0 0] 24)) := by
  have h7 : b7 = false := by cases e : b7 with | false => rfl | true => have := (h.l7 e).1; rw [hb] at this; cases this
  have hk : Kept W (W.alloc (.cells #[.int .i64 0, .int .i64 0, .int .i64 0, .slice none 0 0] 24)) := (Upd.refl _ _).alloc _
  have h' := h.kept hk
  subst h7
  exact ⟨h'.kp, h'.nn, h'.c1, h'.c3, h'.a4, fun _ => ⟨rfl, h.le, fun _ => Blk.new _ _ _, fun e => (by cases e)⟩, fun e _ => by have := h.lt4 e; omega, h'.l6, fun e => (by cases e), h'.nl, h'.le⟩
theorem CQ.st6 (h : CQ w nb B N S T a n c ys b1 b3 b4 b5 b6 b7 (v22) (v24) (v7) (v8) xb yb g1 q1 g3 q3 (W)) (hb : b6 = false) (h1 : b1 = true) (h3 : b3 = true) (h4 : b4 = true) (hB : Blk w' xb #[.int .i64 N, .int .i64 S, .int .i64 T, .slice (some ⟨g1, 0, none⟩) n q1] 24) (hU : Upd (fun k => k = xb) W w') : CQ w nb B N S T a n c ys b1 b3 b4 b5 true b7 (v22) (v24) (v7) (v8) xb yb g1 q1 g3 q3 (w') := by
  obtain ⟨hv, hx, hz, _⟩ := h.a4 h4
  have hz' := hz hb
  have h7 : b7 = false := by cases e : b7 with | false => rfl | true => have := (h.l7 e).2.2; rw [hb] at this; cases this
  subst h7
  refine ⟨h.kp.then hU (fun i hi he => by have := h.nl; omega), h.nn.upd hU (by have := h.nl; omega), fun e => ⟨(h.c1 e).1, (h.c1 e).2.far hU (fun g hg he => by cases hg; exact (h.c1 e).2.ne hz' (by decide) he)⟩,
    fun e => ⟨(h.c3 e).1, (h.c3 e).2.1, (h.c3 e).2.2.1.far hU (fun g hg he => by cases hg; exact (h.c3 e).2.2.1.ne hz' (by decide) he), (h.c3 e).2.2.2⟩,
    fun _ => ⟨hv, hx, fun e => (by cases e), fun _ => hB⟩, fun e => ⟨(h.a5 e).1, (h.a5 e).2.1, fun e' => ((h.a5 e).2.2.1 e').upd hU (fun e2 => h.ne h4 e e2.symm), fun e' => (by cases e')⟩, h.ne, fun _ => ⟨h4, h1, h3⟩, fun e => (by cases e), h.nl, by have := hU.size; have := h.le; omega⟩
theorem CQ.st7 (h : CQ w nb B N S T a n c ys b1 b3 b4 b5 b6 b7 (v22) (v24) (v7) (v8) xb yb g1 q1 g3 q3 (W)) (hb : b7 = false) (h3 : b3 = true) (h5 : b5 = true) (h6 : b6 = true) (hB : Blk w' yb #[.int .i64 N, .int .i64 S, .int .i64 T, .slice (some ⟨g3, 0, none⟩) n q3] 24) (hU : Upd (fun k => k = yb) W w') : CQ w nb B N S T a n c ys b1 b3 b4 b5 b6 true (v22) (v24) (v7) (v8) xb yb g1 q1 g3 q3 (w') := by
  obtain ⟨hv, hx, hz, _⟩ := h.a5 h5
  have hz' := hz hb
  refine ⟨h.kp.then hU (fun i hi he => by have := h.nl; omega), h.nn.upd hU (by have := h.nl; omega), fun e => ⟨(h.c1 e).1, (h.c1 e).2.far hU (fun g hg he => by cases hg; exact (h.c1 e).2.ne hz' (by decide) he)⟩,
    fun e => ⟨(h.c3 e).1, (h.c3 e).2.1, (h.c3 e).2.2.1.far hU (fun g hg he => by cases hg; exact (h.c3 e).2.2.1.ne hz' (by decide) he), (h.c3 e).2.2.2⟩,
    fun e => ⟨(h.a4 e).1, (h.a4 e).2.1, fun e' => ((h.a4 e).2.2.1 e').upd hU (fun e2 => h.ne e h5 e2), fun e' => ((h.a4 e).2.2.2 e').upd hU (fun e2 => h.ne e h5 e2)⟩,
    fun _ => ⟨hv, hx, fun e => (by cases e), fun _ => hB⟩, h.ne, h.l6, fun _ => ⟨h5, h3, h6⟩, h.nl, by have := hU.size; have := h.le; omega⟩
end
end Go.Proofs.Ytafabeehbifgaaa
