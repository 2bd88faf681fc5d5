/- The log of DequeOnce in memory: three rows of numbers, each of one's own, and the box that holds them. -/
import Derived.Test.YtdgkemadhooogaaBusy
namespace Go.Proofs.Ytdgkemadhooogaa
set_option linter.unusedVariables false
set_option linter.unusedSimpArgs false
open Go.RowKit

def iv (xs : List Int) : List Value := xs.map (Value.int .i64)
theorem iv_add (xs : List Int) (x : Int) : iv (xs ++ [x]) = iv xs ++ [.int .i64 x] := by simp [iv]
structure LogB (B hb : Nat) (vp vg vs : Value) (P G S : List Int) (W : World) : Prop where
  blk : Blk W hb #[vp, vg, vs] 31
  p : W.ownsRow B 2 1 vp P.length (iv P)
  g : W.ownsRow B 2 1 vg G.length (iv G)
  s : W.ownsRow B 2 1 vs S.length (iv S)
  pg : FarV vp vg
  ps : FarV vp vs
  gs : FarV vg vs
  hB : hb < B
section
variable {B hb : Nat} {vp vg vs : Value} {P G S : List Int} {W W' W1 : World}
theorem LogB.far {Q : Nat → Prop} (h : LogB B hb vp vg vs P G S W) (hu : Upd Q W W') (h1 : ¬ Q hb) (h2 : ∀ (v : Value) (n : Nat) (ys : List Value), W.ownsRow B 2 1 v n ys → ∀ k, v.ownBlock = some k → ¬ Q k) : LogB B hb vp vg vs P G S W' :=
  ⟨h.blk.upd hu h1, ownsRow_far h.p hu (h2 _ _ _ h.p), ownsRow_far h.g hu (h2 _ _ _ h.g), ownsRow_far h.s hu (h2 _ _ _ h.s), h.pg, h.ps, h.gs, h.hB⟩
theorem LogB.kept (h : LogB B hb vp vg vs P G S W) (hk : Kept W W') : LogB B hb vp vg vs P G S W' := h.far hk (fun f => f) (fun _ _ _ _ _ _ f => f)
/-- A machine's step, or a cell of the runners' row, leaves it. -/
theorem LogB.mach {Q : Nat → Prop} (h : LogB B hb vp vg vs P G S W) (hu : Upd Q W W') (h1 : ¬ Q hb) (h2 : ∀ k, Q k → B ≤ k → ∃ arr T, Blk W k arr T ∧ T ≠ 2) : LogB B hb vp vg vs P G S W' :=
  h.far hu h1 fun v n ys ho k hk hq => by
    obtain ⟨arr, T, hb2, hT⟩ := h2 k hq (World.ownsRow.lt ho k hk).1
    exact blk_row_ne hb2 ho (fun e => hT e.symm) hk
/-- A store into the log's box leaves the rows. -/
theorem row_box {v : Value} {n : Nat} {ys : List Value} (h : W.ownsRow B 2 1 v n ys) (hB : hb < B) (i : Nat) (u : Value) : (W.setCell ⟨hb, i, none⟩ u).ownsRow B 2 1 v n ys :=
  ownsRow_far h (updCell W hb i u) fun k hk e => by have := (World.ownsRow.lt h k hk).1; omega
/-- One more number put. -/
theorem LogB.put {x : Int} {vp' : Value} (h : LogB B hb vp vg vs P G S W) (ho : W1.ownsRow B 2 1 vp' (P.length + 1) (iv P ++ [.int .i64 x])) (hg : Grew W W1 vp vp') : LogB B hb vp' vg vs (P ++ [x]) G S (W1.setCell ⟨hb, 0, none⟩ vp') := by
  have hb1 := hg.blk h.blk h.p (by decide)
  refine ⟨?_, ?_, row_box (hg.row h.g h.pg) h.hB 0 vp', row_box (hg.row h.s h.ps) h.hB 0 vp', hg.far h.g h.pg, hg.far h.s h.ps, h.gs, h.hB⟩
  · have := hb1.set 0 vp'
    exact this
  · rw [iv_add, List.length_append]
    exact row_box ho h.hB 0 vp'
/-- One more number got. -/
theorem LogB.got {x : Int} {vg' : Value} (h : LogB B hb vp vg vs P G S W) (ho : W1.ownsRow B 2 1 vg' (G.length + 1) (iv G ++ [.int .i64 x])) (hg : Grew W W1 vg vg') : LogB B hb vp vg' vs P (G ++ [x]) S (W1.setCell ⟨hb, 1, none⟩ vg') := by
  have hb1 := hg.blk h.blk h.g (by decide)
  refine ⟨?_, row_box (hg.row h.p h.pg.symm) h.hB 1 vg', ?_, row_box (hg.row h.s h.gs) h.hB 1 vg', (hg.far h.p h.pg.symm).symm, h.ps, hg.far h.s h.gs, h.hB⟩
  · have := hb1.set 1 vg'
    exact this
  · rw [iv_add, List.length_append]
    exact row_box ho h.hB 1 vg'
/-- One more number stolen. -/
theorem LogB.stole {x : Int} {vs' : Value} (h : LogB B hb vp vg vs P G S W) (ho : W1.ownsRow B 2 1 vs' (S.length + 1) (iv S ++ [.int .i64 x])) (hg : Grew W W1 vs vs') : LogB B hb vp vg vs' P G (S ++ [x]) (W1.setCell ⟨hb, 2, none⟩ vs') := by
  have hb1 := hg.blk h.blk h.s (by decide)
  refine ⟨?_, row_box (hg.row h.p h.ps.symm) h.hB 2 vs', row_box (hg.row h.g h.gs.symm) h.hB 2 vs', ?_, h.pg, (hg.far h.p h.ps.symm).symm, (hg.far h.g h.gs.symm).symm, h.hB⟩
  · have := hb1.set 2 vs'
    exact this
  · rw [iv_add, List.length_append]
    exact row_box ho h.hB 2 vs'
theorem LogB.start (h : Blk W hb #[.slice none 0 0, .slice none 0 0, .slice none 0 0] 31) (hB : hb < B) : LogB B hb (.slice none 0 0) (.slice none 0 0) (.slice none 0 0) [] [] [] W :=
  ⟨h, World.ownsRow_nil _ _ _ _, World.ownsRow_nil _ _ _ _, World.ownsRow_nil _ _ _ _, FarV.nil _, FarV.nil _, FarV.nil _, hB⟩
end
end Go.Proofs.Ytdgkemadhooogaa
