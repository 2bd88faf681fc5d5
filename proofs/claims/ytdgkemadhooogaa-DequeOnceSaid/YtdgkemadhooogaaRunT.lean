/- acequialaw11.runner.step, where the machine got (printed by gen_refstep11.py). -/
import Derived.Test.YtdgkemadhooogaaRunS
import Derived.Test.YtdgkemadhooogaaStepPush
import Derived.Test.YtdgkemadhooogaaRegion
import Derived.Deep.RegionHeld3
import Derived.Deep.CutRange
import Derived.StillTailTactics
import Derived.Deep.MidRow
namespace Go.Proofs.Ytdgkemadhooogaa
set_option linter.unusedVariables false
set_option linter.unusedSimpArgs false
open Go.RowKit
attribute [local go_sem] cell?_ext

/-- The log, with what stands in the box told apart from the rows. -/
structure LogR (B hb : Nat) (cp cg cs vp vg vs : Value) (P G S : List Int) (W : World) : Prop where
  blk : Blk W hb #[cp, cg, cs] 31
  p : W.ownsRow B 2 1 vp P.length (iv P)
  g : W.ownsRow B 2 1 vg G.length (iv G)
  s : W.ownsRow B 2 1 vs S.length (iv S)
  pg : FarV vp vg
  ps : FarV vp vs
  gs : FarV vg vs
  hB : hb < B
section
variable {B hb : Nat} {cp cg cs vp vg vs : Value} {P G S : List Int} {W W' W1 : World}
theorem LogB.r (h : LogB B hb vp vg vs P G S W) : LogR B hb vp vg vs vp vg vs P G S W := ⟨h.blk, h.p, h.g, h.s, h.pg, h.ps, h.gs, h.hB⟩
theorem LogR.b (h : LogR B hb vp vg vs vp vg vs P G S W) : LogB B hb vp vg vs P G S W := ⟨h.blk, h.p, h.g, h.s, h.pg, h.ps, h.gs, h.hB⟩
theorem LogR.kept (h : LogR B hb cp cg cs vp vg vs P G S W) (hk : Kept W W') : LogR B hb cp cg cs vp vg vs P G S W' :=
  ⟨h.blk.kept hk, ownsRow_far h.p hk (fun _ _ f => f), ownsRow_far h.g hk (fun _ _ f => f), ownsRow_far h.s hk (fun _ _ f => f), h.pg, h.ps, h.gs, h.hB⟩
theorem LogR.put {x : Int} {vp' : Value} (h : LogR B hb cp cg cs vp vg vs P G S W) (ho : W1.ownsRow B 2 1 vp' (P.length + 1) (iv P ++ [.int .i64 x])) (hg : Grew W W1 vp vp') : LogR B hb cp cg cs vp' vg vs (P ++ [x]) G S W1 :=
  ⟨hg.blk h.blk h.p (by decide), by rw [iv_add, List.length_append]; exact ho, hg.row h.g h.pg, hg.row h.s h.ps, hg.far h.g h.pg, hg.far h.s h.ps, h.gs, h.hB⟩
theorem LogR.set0 (h : LogR B hb cp cg cs vp vg vs P G S W) (u : Value) : LogR B hb u cg cs vp vg vs P G S (W.setCell ⟨hb, 0, none⟩ u) :=
  ⟨by have := h.blk.set 0 u; exact this, row_box h.p h.hB 0 u, row_box h.g h.hB 0 u, row_box h.s h.hB 0 u, h.pg, h.ps, h.gs, h.hB⟩
theorem LogR.got {x : Int} {vg' : Value} (h : LogR B hb cp cg cs vp vg vs P G S W) (ho : W1.ownsRow B 2 1 vg' (G.length + 1) (iv G ++ [.int .i64 x])) (hg : Grew W W1 vg vg') : LogR B hb cp cg cs vp vg' vs P (G ++ [x]) S W1 :=
  ⟨hg.blk h.blk h.g (by decide), hg.row h.p h.pg.symm, by rw [iv_add, List.length_append]; exact ho, hg.row h.s h.gs, (hg.far h.p h.pg.symm).symm, h.ps, hg.far h.s h.gs, h.hB⟩
theorem LogR.stole {x : Int} {vs' : Value} (h : LogR B hb cp cg cs vp vg vs P G S W) (ho : W1.ownsRow B 2 1 vs' (S.length + 1) (iv S ++ [.int .i64 x])) (hg : Grew W W1 vs vs') : LogR B hb cp cg cs vp vg vs' P G (S ++ [x]) W1 :=
  ⟨hg.blk h.blk h.s (by decide), hg.row h.p h.ps.symm, hg.row h.g h.gs.symm, by rw [iv_add, List.length_append]; exact ho, h.pg, (hg.far h.p h.ps.symm).symm, (hg.far h.g h.gs.symm).symm, h.hB⟩
theorem LogR.set1 (h : LogR B hb cp cg cs vp vg vs P G S W) (u : Value) : LogR B hb cp u cs vp vg vs P G S (W.setCell ⟨hb, 1, none⟩ u) :=
  ⟨by have := h.blk.set 1 u; exact this, row_box h.p h.hB 1 u, row_box h.g h.hB 1 u, row_box h.s h.hB 1 u, h.pg, h.ps, h.gs, h.hB⟩
theorem LogR.set2 (h : LogR B hb cp cg cs vp vg vs P G S W) (u : Value) : LogR B hb cp cg u vp vg vs P G S (W.setCell ⟨hb, 2, none⟩ u) :=
  ⟨by have := h.blk.set 2 u; exact this, row_box h.p h.hB 2 u, row_box h.g h.hB 2 u, row_box h.s h.hB 2 u, h.pg, h.ps, h.gs, h.hB⟩
/-- The rows' blocks are not those that are made behind. -/
theorem LogR.olds (h : LogR B hb cp cg cs vp vg vs P G S W) : (∀ k, vg.ownBlock = some k → k < W.heap.size) ∧ ∀ k, vs.ownBlock = some k → k < W.heap.size := ⟨fun k e => (World.ownsRow.lt h.g k e).2, fun k e => (World.ownsRow.lt h.s k e).2⟩
end
/-- The region of a steal that got, on its way: which of the appends and stores were done. -/
def SW (B hb : Nat) (vp vg vs : Value) (P G S : List Int) (x : Int) (W0 : World) (b8 b15 b18 b21 : Bool) (u v : Value) (W : World) : Prop :=
  LogR B hb vp (if b18 then u else vg) (if b21 then v else vs) vp (if b8 then u else vg) (if b15 then v else vs) P (if b8 then G ++ [x] else G) (if b15 then S ++ [x] else S) W ∧
    Upd (fun j => vg.ownBlock = some j ∨ vs.ownBlock = some j ∨ j = hb) W0 W ∧ B ≤ W.heap.size
section
variable {B hb : Nat} {vp vg vs : Value} {P G S : List Int} {x : Int} {W0 W W' : World} {b8 b15 b18 b21 : Bool} {u v : Value}
theorem SW.kept (h : SW B hb vp vg vs P G S x W0 b8 b15 b18 b21 u v W) (hk : Kept W W') : SW B hb vp vg vs P G S x W0 b8 b15 b18 b21 u v W' := ⟨h.1.kept hk, h.2.1.then hk (fun _ _ f => f.elim), Nat.le_trans h.2.2 hk.size⟩
end
section
variable {B hb : Nat} {vp vg vs : Value} {P G S : List Int} {x : Int} {W0 W W' : World} {b8 b15 b18 b21 : Bool} {u v : Value}
theorem SW.app8 {u' : Value} (h : SW B hb vp vg vs P G S x W0 false false false false u v W) (ho : W'.ownsRow B 2 1 u' (G.length + 1) (iv G ++ [.int .i64 x])) (hg : Grew W W' vg u') : SW B hb vp vg vs P G S x W0 true false false false u' v W' :=
  ⟨LogR.got (show LogR B hb vp vg vs vp vg vs P G S W from h.1) ho hg, h.2.1.then hg.upd (fun q _ hq => .inl hq), Nat.le_trans h.2.2 hg.upd.size⟩
theorem SW.app15 {v' : Value} (h : SW B hb vp vg vs P G S x W0 true false false false u v W) (ho : W'.ownsRow B 2 1 v' (S.length + 1) (iv S ++ [.int .i64 x])) (hg : Grew W W' vs v') : SW B hb vp vg vs P G S x W0 true true false false u v' W' :=
  ⟨LogR.stole (show LogR B hb vp vg vs vp u vs P (G ++ [x]) S W from h.1) ho hg, h.2.1.then hg.upd (fun q _ hq => .inr (.inl hq)), Nat.le_trans h.2.2 hg.upd.size⟩
theorem SW.st18 (h : SW B hb vp vg vs P G S x W0 true true false false u v W) : SW B hb vp vg vs P G S x W0 true true true false u v (W.setCell ⟨hb, 1, none⟩ u) :=
  ⟨LogR.set1 (show LogR B hb vp vg vs vp u v P (G ++ [x]) (S ++ [x]) W from h.1) u, h.2.1.then (updCell2 W hb 1 u) (fun q _ hq => .inr (.inr hq)), Nat.le_trans h.2.2 (updCell2 W hb 1 u).size⟩
theorem SW.st21 (h : SW B hb vp vg vs P G S x W0 true true true false u v W) : SW B hb vp vg vs P G S x W0 true true true true u v (W.setCell ⟨hb, 2, none⟩ v) :=
  ⟨LogR.set2 (show LogR B hb vp u vs vp u v P (G ++ [x]) (S ++ [x]) W from h.1) v, h.2.1.then (updCell2 W hb 2 v) (fun q _ hq => .inr (.inr hq)), Nat.le_trans h.2.2 (updCell2 W hb 2 v).size⟩
end
/-- The region of a push that got, on its way. -/
def PW (B hb : Nat) (vp vg vs : Value) (P G S : List Int) (x : Int) (W0 : World) (b10 b13 : Bool) (u : Value) (W : World) : Prop :=
  LogR B hb (if b13 then u else vp) vg vs (if b10 then u else vp) vg vs (if b10 then P ++ [x] else P) G S W ∧
    Upd (fun j => vp.ownBlock = some j ∨ j = hb) W0 W ∧ B ≤ W.heap.size
section
variable {B hb : Nat} {vp vg vs : Value} {P G S : List Int} {x : Int} {W0 W W' : World} {b10 b13 : Bool} {u : Value}
theorem PW.kept (h : PW B hb vp vg vs P G S x W0 b10 b13 u W) (hk : Kept W W') : PW B hb vp vg vs P G S x W0 b10 b13 u W' := ⟨h.1.kept hk, h.2.1.then hk (fun _ _ f => f.elim), Nat.le_trans h.2.2 hk.size⟩
theorem PW.app {u' : Value} (h : PW B hb vp vg vs P G S x W0 false false u W) (ho : W'.ownsRow B 2 1 u' (P.length + 1) (iv P ++ [.int .i64 x])) (hg : Grew W W' vp u') : PW B hb vp vg vs P G S x W0 true false u' W' :=
  ⟨LogR.put (show LogR B hb vp vg vs vp vg vs P G S W from h.1) ho hg, h.2.1.then hg.upd (fun q _ hq => .inl hq), Nat.le_trans h.2.2 hg.upd.size⟩
theorem PW.st (h : PW B hb vp vg vs P G S x W0 true false u W) : PW B hb vp vg vs P G S x W0 true true u (W.setCell ⟨hb, 0, none⟩ u) :=
  ⟨LogR.set0 (show LogR B hb vp vg vs u vg vs (P ++ [x]) G S W from h.1) u, h.2.1.then (updCell2 W hb 0 u) (fun q _ hq => .inr hq), Nat.le_trans h.2.2 (updCell2 W hb 0 u).size⟩
end
/-- A number by itself, made just now. -/
def Nw (W0 : World) (x : Int) (v : Value) (W : World) : Prop := ∃ y, W0.heap.size ≤ y ∧ v = .slice (some ⟨y, 0, none⟩) 1 1 ∧ W.cell? ⟨y, 0, none⟩ = some (.int .i64 x)
section
variable {W0 W W' : World} {x : Int} {v u u' : Value}
theorem Nw.kept (h : Nw W0 x v W) (hk : Kept W W') : Nw W0 x v W' := by
  obtain ⟨y, h1, h2, h3⟩ := h
  exact ⟨y, h1, h2, (keptCells hk _ (by rw [h3]; rfl)).trans h3⟩
theorem Nw.grew (h : Nw W0 x v W) (hg : Grew W W' u u') (hu : ∀ k, u.ownBlock = some k → k < W0.heap.size) : Nw W0 x v W' := by
  obtain ⟨y, h1, h2, h3⟩ := h
  exact ⟨y, h1, h2, (hg.upd.cells _ (by rw [h3]; rfl) (fun e => by have := hu y e; omega)).trans h3⟩
theorem Nw.new (h : W0.heap.size ≤ W.heap.size) : Nw W0 x (.slice (some ⟨W.heap.size, 0, none⟩) 1 1) (W.alloc (.cells #[.int .i64 x] 2)) := ⟨_, h, rfl, by rw [(Blk.new W _ _).cell]; rfl⟩
end
set_option maxRecDepth 100000 in
set_option maxHeartbeats 8000000 in
theorem rstep_push_tt {w : World} {B mb bb g sg hb i o : Nat} {vp vg vs : Value} {P G S : List Int} {l : Lay} {k v : Int} {tp r : Nat} {ls : List (List Value)} {lo0 : Bool} (s : KS) (hG : Geo l k tp r) (hR : Rows w sg 4 40 ls) (hi : ls[i]? = some (rcell (some ⟨(.push v), mb, s.m, s.lo⟩) v)) (ho : o = i * 4) (hP : PB w mb ((.push v) : Kd).T l k s.m (((.push v) : Kd).ex s.lo)) (hb1 : Bnk w bb g s.xs) (hL : LogB B hb vp vg vs P G S w) (hI : KInv tp (.push v) s)
    (ne : ¬ mb = g ∧ ¬ mb = bb ∧ ¬ sg = g ∧ ¬ sg = bb ∧ ¬ sg = mb ∧ ¬ hb = g ∧ ¬ hb = mb ∧ ¬ hb = sg ∧ ¬ hb = bb ∧ sg < B ∧ g < B) (hd : (kstep tp r (.push v) s).m.done = true) (hg : (kstep tp r (.push v) s).m.got = true) (hlen : P.length ≤ 2000 ∧ G.length ≤ 2000 ∧ S.length ≤ 2000) (hBs : B ≤ w.heap.size) :
    Calls Try.prog 16 #[.pointer (some ⟨sg, o, none⟩), .pointer (some ⟨bb, 0, none⟩), .pointer (some ⟨hb, 0, none⟩)] w (RunEnd B sg bb g hb i ls v (.push v) mb l k (kstep tp r (.push v) s) P G S w) := by
  obtain ⟨ap, cp, rfl⟩ := row_form hL.p
  have HS := Lib.hid (kstep_any (.push v) s hG hP hb1 ⟨ne.1, ne.2.1⟩ hI)
  have hTm : ((.push v) : Kd).T ≠ 2 := by show (48 : TypeId) ≠ 2; decide
  obtain ⟨s1, hs1⟩ : ∃ s', kstep tp r (.push v) s = s' := ⟨_, rfl⟩
  rw [hs1] at HS hd hg ⊢
  rw [hd] at HS
  have c0 : w.cell? ⟨sg, o, none⟩ = some (.pointer (some ⟨mb, 0, none⟩)) := by have h := hR.cell hi ho 0 (by omega); exact h
  have c1 : w.cell? ⟨sg, o + 1, none⟩ = some (.pointer none) := by have h := hR.cell hi ho 1 (by omega); exact h
  have c2 : w.cell? ⟨sg, o + 2, none⟩ = some (.pointer none) := by have h := hR.cell hi ho 2 (by omega); exact h
  have HPM := Lib.hid hP
  have HR := Lib.hid hR
  have HI := Lib.hid hi
  have HO := Lib.hid ho
  have HL := Lib.hid hL
  have HL0 := Lib.hid hL
  have HNE := Lib.hid ne
  have HD := Lib.hid hd
  have HGT := Lib.hid hg
  have HLE := Lib.hid hlen
  have HBS := Lib.hid hBs
  clear hR hi ho hP hb1 hI hG hs1 hd ne hL hg hlen hBs
  go_enter Try.func16, Try.ntmps16
  go_wp2_with fail
  refine HS.out.mono ?_
  rintro e w1 ⟨rfl, hK⟩
  have HR1 := Lib.hid (HR.out.upd hK.2.2 (by have := HNE.out; omega))
  have HL1 := Lib.hid (HL.out.mach hK.2.2 (by have := HNE.out; omega) (fun q hq hB => by
    rcases hq with rfl | rfl
    · have := HNE.out; omega
    · exact ⟨_, _, HPM.out, hTm⟩))
  have HK1 := Lib.hid hK
  have c0 : w1.cell? ⟨sg, o, none⟩ = some (.pointer (some ⟨mb, 0, none⟩)) := by have h := HR1.out.cell HI.out HO.out 0 (by omega); exact h
  have c1 : w1.cell? ⟨sg, o + 1, none⟩ = some (.pointer none) := by have h := HR1.out.cell HI.out HO.out 1 (by omega); exact h
  have c2 : w1.cell? ⟨sg, o + 2, none⟩ = some (.pointer none) := by have h := HR1.out.cell HI.out HO.out 2 (by omega); exact h
  clear hK HS HR HL HPM
  go_wp2_with fail
  refine (push_ok2 HK1.out.1).mono ?_
  rintro e w2 ⟨rfl, rfl⟩
  rw [HD.out, HGT.out]
  obtain ⟨i0, hi0, hz0, hz1, hz2⟩ := info_parts info2
  have HQ0 : Hid (∀ u, PW B hb (.slice ap P.length cp) vg vs P G S v w1 false false u w1.drew) := Lib.hid (fun u => ⟨(HL1.out.kept (Upd.refl _ _).drew).r, (Upd.refl _ _).drew, Nat.le_trans HBS.out HK1.out.2.2.size⟩)
  have HSV : Hid (∀ (W : World) (Q : Nat → Prop), Upd (fun j => (Value.slice ap P.length cp).ownBlock = some j ∨ j = hb) w1 W → W.cell? ⟨sg, o + 3, none⟩ = some (.int .i64 v)) := Lib.hid (fun W _ hu => by
    have n1 : ¬ (Value.slice ap P.length cp).ownBlock = some sg := blk_row_ne HR1.out.blk HL1.out.p (by decide)
    have h := (HR1.out.upd hu (by rintro (e | e); exact n1 e; have := HNE.out; omega)).cell HI.out HO.out 3 (by omega)
    exact h)
  clear c0 c1 c2
  go_upto_region 2 with (fail)
  obtain ⟨JI, HJI⟩ : ∃ JI : Bool → Bool → Bool → Bool → Bool → Bool → Bool → Bool → Bool → Bool → Bool → Bool → Bool → Bool → Value → Value → Value → Value → Value → Value → Value → Value → Value → Value → Value → Value → Value → World → Prop, Hid (∀ (b0 b1 b2 b3 b4 b5 b6 b7 b8 b9 b10 b11 b12 b13 : Bool) (v29 v30 v31 v32 v33 v34 v35 v36 v37 v38 v39 v40 v41 : Value) (W : World), JI b0 b1 b2 b3 b4 b5 b6 b7 b8 b9 b10 b11 b12 b13 v29 v30 v31 v32 v33 v34 v35 v36 v37 v38 v39 v40 v41 W ↔ (Hid (PW B hb (.slice ap P.length cp) vg vs P G S v w1 b10 b13 v39 W) ∧
    Hid (b0 = true → v29 = .pointer (some ⟨hb, 0, none⟩)) ∧
    Hid (b1 = true → v30 = .pointer (some ⟨hb, 0, none⟩)) ∧
    Hid (b2 = true → v31 = .pointer (some ⟨hb, 0, none⟩)) ∧
    Hid (b3 = true → v32 = .pointer (some ⟨hb, 0, none⟩)) ∧
    Hid (b4 = true → v33 = .slice ap P.length cp) ∧
    Hid (b5 = true → v34 = .pointer (some ⟨sg, o, none⟩)) ∧
    Hid (b6 = true → v35 = .pointer (some ⟨sg, o, none⟩)) ∧
    Hid (b7 = true → v36 = .pointer (some ⟨sg, o + 3, none⟩)) ∧
    Hid (b8 = true → v37 = .int .i64 v) ∧
    Hid (b11 = true → v40 = .pointer (some ⟨hb, 0, none⟩)) ∧
    Hid (b12 = true → v41 = .pointer (some ⟨hb, 0, none⟩)) ∧
    Hid (b9 = true → b10 = false → Nw w1 v v38 W) ∧
    Hid ((b10 = true → b4 = true) ∧ (b13 = true → b10 = true)))) := ⟨fun b0 b1 b2 b3 b4 b5 b6 b7 b8 b9 b10 b11 b12 b13 v29 v30 v31 v32 v33 v34 v35 v36 v37 v38 v39 v40 v41 W => (Hid (PW B hb (.slice ap P.length cp) vg vs P G S v w1 b10 b13 v39 W) ∧
    Hid (b0 = true → v29 = .pointer (some ⟨hb, 0, none⟩)) ∧
    Hid (b1 = true → v30 = .pointer (some ⟨hb, 0, none⟩)) ∧
    Hid (b2 = true → v31 = .pointer (some ⟨hb, 0, none⟩)) ∧
    Hid (b3 = true → v32 = .pointer (some ⟨hb, 0, none⟩)) ∧
    Hid (b4 = true → v33 = .slice ap P.length cp) ∧
    Hid (b5 = true → v34 = .pointer (some ⟨sg, o, none⟩)) ∧
    Hid (b6 = true → v35 = .pointer (some ⟨sg, o, none⟩)) ∧
    Hid (b7 = true → v36 = .pointer (some ⟨sg, o + 3, none⟩)) ∧
    Hid (b8 = true → v37 = .int .i64 v) ∧
    Hid (b11 = true → v40 = .pointer (some ⟨hb, 0, none⟩)) ∧
    Hid (b12 = true → v41 = .pointer (some ⟨hb, 0, none⟩)) ∧
    Hid (b9 = true → b10 = false → Nw w1 v v38 W) ∧
    Hid ((b10 = true → b4 = true) ∧ (b13 = true → b10 = true))), Lib.hid (fun _ _ _ _ _ _ _ _ _ _ _ _ _ _ _ _ _ _ _ _ _ _ _ _ _ _ _ _ => Iff.rfl)⟩
  refine wp_region_inv (fun l us W => ∃ (b0 b1 b2 b3 b4 b5 b6 b7 b8 b9 b10 b11 b12 b13 : Bool) (v29 v30 v31 v32 v33 v34 v35 v36 v37 v38 v39 v40 v41 : Value), l = #[b0, b1, b2, b3, b4, b5, b6, b7, b8, b9, b10, b11, b12, b13] ∧ us = [v29, v30, v31, v32, v33, v34, v35, v36, v37, v38, v39, v40, v41] ∧ JI b0 b1 b2 b3 b4 b5 b6 b7 b8 b9 b10 b11 b12 b13 v29 v30 v31 v32 v33 v34 v35 v36 v37 v38 v39 v40 v41 W) [29, 30, 31, 32, 33, 34, 35, 36, 37, 38, 39, 40, 41] [undef, undef, undef, undef, undef, undef, undef, undef, undef, undef, undef, undef, undef] (by kernel_rfl) (by kernel_rfl) (by simp only [putAll, Act.put, List.setIfInBounds_toArray, List.set_cons_zero, List.set_cons_succ]) ?_ ?_ ?_
  · exact ⟨false, false, false, false, false, false, false, false, false, false, false, false, false, false, _, _, _, _, _, _, _, _, _, _, _, _, _, rfl, rfl, (HJI.out _ _ _ _ _ _ _ _ _ _ _ _ _ _ _ _ _ _ _ _ _ _ _ _ _ _ _ _ ).2 ⟨Lib.hid (HQ0.out _), Lib.hid (by simp), Lib.hid (by simp), Lib.hid (by simp), Lib.hid (by simp), Lib.hid (by simp), Lib.hid (by simp), Lib.hid (by simp), Lib.hid (by simp), Lib.hid (by simp), Lib.hid (by simp), Lib.hid (by simp), Lib.hid (by simp), Lib.hid (by simp)⟩⟩
  · rintro i l us W ⟨b0, b1, b2, b3, b4, b5, b6, b7, b8, b9, b10, b11, b12, b13, v29, v30, v31, v32, v33, v34, v35, v36, v37, v38, v39, v40, v41, rfl, rfl, hJI⟩ hr
    have hi : i = 0 ∨ i = 1 ∨ i = 2 ∨ i = 3 ∨ i = 4 ∨ i = 5 ∨ i = 6 ∨ i = 7 ∨ i = 8 ∨ i = 9 ∨ i = 10 ∨ i = 11 ∨ i = 12 ∨ i = 13 := by
      have := ready_lt hr
      simp at this
      omega
    rcases hi with rfl | rfl | rfl | rfl | rfl | rfl | rfl | rfl | rfl | rfl | rfl | rfl | rfl | rfl
    · skip
      obtain ⟨hI, h0, h1, h2, h3, h4, h5, h6, h7, h8, h11, h12, h9, LL⟩ := (HJI.out _ _ _ _ _ _ _ _ _ _ _ _ _ _ _ _ _ _ _ _ _ _ _ _ _ _ _ _ ).1 hJI
      obtain ⟨hn, hd⟩ := ready_at hr rfl
      simp [Region.binds] at hn hd
      refine wpOp_step rfl (fun K' hK => ?_)
      simp only [putAll, Act.put, List.setIfInBounds_toArray, List.set_cons_zero, List.set_cons_succ]
      go_simp
      exact hK _ _ ⟨_, by simp only [putAll, Act.put, List.setIfInBounds_toArray, List.set_cons_zero, List.set_cons_succ], true, b1, b2, b3, b4, b5, b6, b7, b8, b9, b10, b11, b12, b13, _, _, _, _, _, _, _, _, _, _, _, _, _, rfl, rfl, (HJI.out _ _ _ _ _ _ _ _ _ _ _ _ _ _ _ _ _ _ _ _ _ _ _ _ _ _ _ _ ).2 ⟨hI, Lib.hid (fun _ => rfl), h1, h2, h3, h4, h5, h6, h7, h8, h11, h12, h9, LL⟩⟩
    · skip
      obtain ⟨hI, h0, h1, h2, h3, h4, h5, h6, h7, h8, h11, h12, h9, LL⟩ := (HJI.out _ _ _ _ _ _ _ _ _ _ _ _ _ _ _ _ _ _ _ _ _ _ _ _ _ _ _ _ ).1 hJI
      obtain ⟨hn, hd⟩ := ready_at hr rfl
      simp [Region.binds] at hn hd
      refine wpOp_step rfl (fun K' hK => ?_)
      simp only [putAll, Act.put, List.setIfInBounds_toArray, List.set_cons_zero, List.set_cons_succ]
      go_simp
      exact hK _ _ ⟨_, by simp only [putAll, Act.put, List.setIfInBounds_toArray, List.set_cons_zero, List.set_cons_succ], b0, true, b2, b3, b4, b5, b6, b7, b8, b9, b10, b11, b12, b13, _, _, _, _, _, _, _, _, _, _, _, _, _, rfl, rfl, (HJI.out _ _ _ _ _ _ _ _ _ _ _ _ _ _ _ _ _ _ _ _ _ _ _ _ _ _ _ _ ).2 ⟨hI, h0, Lib.hid (fun _ => rfl), h2, h3, h4, h5, h6, h7, h8, h11, h12, h9, LL⟩⟩
    · skip
      obtain ⟨hI, h0, h1, h2, h3, h4, h5, h6, h7, h8, h11, h12, h9, LL⟩ := (HJI.out _ _ _ _ _ _ _ _ _ _ _ _ _ _ _ _ _ _ _ _ _ _ _ _ _ _ _ _ ).1 hJI
      obtain ⟨hn, hd⟩ := ready_at hr rfl
      simp [Region.binds] at hn hd
      obtain rfl := h1.out (by simp [hd])
      refine wpOp_step rfl (fun K' hK => ?_)
      simp only [putAll, Act.put, List.setIfInBounds_toArray, List.set_cons_zero, List.set_cons_succ]
      go_simp
      exact hK _ _ ⟨_, by simp only [putAll, Act.put, List.setIfInBounds_toArray, List.set_cons_zero, List.set_cons_succ], b0, b1, true, b3, b4, b5, b6, b7, b8, b9, b10, b11, b12, b13, _, _, _, _, _, _, _, _, _, _, _, _, _, rfl, rfl, (HJI.out _ _ _ _ _ _ _ _ _ _ _ _ _ _ _ _ _ _ _ _ _ _ _ _ _ _ _ _ ).2 ⟨hI, h0, h1, Lib.hid (fun _ => rfl), h3, h4, h5, h6, h7, h8, h11, h12, h9, LL⟩⟩
    · skip
      obtain ⟨hI, h0, h1, h2, h3, h4, h5, h6, h7, h8, h11, h12, h9, LL⟩ := (HJI.out _ _ _ _ _ _ _ _ _ _ _ _ _ _ _ _ _ _ _ _ _ _ _ _ _ _ _ _ ).1 hJI
      obtain ⟨hn, hd⟩ := ready_at hr rfl
      simp [Region.binds] at hn hd
      obtain rfl := h2.out (by simp [hd])
      refine wpOp_step rfl (fun K' hK => ?_)
      simp only [putAll, Act.put, List.setIfInBounds_toArray, List.set_cons_zero, List.set_cons_succ]
      go_simp
      exact hK _ _ ⟨_, by simp only [putAll, Act.put, List.setIfInBounds_toArray, List.set_cons_zero, List.set_cons_succ], b0, b1, b2, true, b4, b5, b6, b7, b8, b9, b10, b11, b12, b13, _, _, _, _, _, _, _, _, _, _, _, _, _, rfl, rfl, (HJI.out _ _ _ _ _ _ _ _ _ _ _ _ _ _ _ _ _ _ _ _ _ _ _ _ _ _ _ _ ).2 ⟨hI, h0, h1, h2, Lib.hid (fun _ => rfl), h4, h5, h6, h7, h8, h11, h12, h9, LL⟩⟩
    · skip
      obtain ⟨hI, h0, h1, h2, h3, h4, h5, h6, h7, h8, h11, h12, h9, LL⟩ := (HJI.out _ _ _ _ _ _ _ _ _ _ _ _ _ _ _ _ _ _ _ _ _ _ _ _ _ _ _ _ ).1 hJI
      obtain ⟨hn, hd⟩ := ready_at hr rfl
      simp [Region.binds] at hn hd
      obtain rfl := h3.out (by simp [hd])
      have hb10 : b10 = false := by cases b10 with | false => rfl | true => exact absurd ((LL.out.1 rfl).symm.trans hn) (by decide)
      subst hb10
      have hb13 : b13 = false := by cases b13 with | false => rfl | true => exact absurd (LL.out.2 rfl) (by decide)
      subst hb13
      have hc : W.cell? ⟨hb, 0, none⟩ = some (.slice ap P.length cp) := by have h := hI.out.1.blk.cell 0; exact h
      refine wpOp_step rfl (fun K' hK => ?_)
      simp only [putAll, Act.put, List.setIfInBounds_toArray, List.set_cons_zero, List.set_cons_succ]
      go_simp
      exact hK _ _ ⟨_, by simp only [putAll, Act.put, List.setIfInBounds_toArray, List.set_cons_zero, List.set_cons_succ], b0, b1, b2, b3, true, b5, b6, b7, b8, b9, false, b11, b12, false, _, _, _, _, _, _, _, _, _, _, _, _, _, rfl, rfl, (HJI.out _ _ _ _ _ _ _ _ _ _ _ _ _ _ _ _ _ _ _ _ _ _ _ _ _ _ _ _ ).2 ⟨hI, h0, h1, h2, h3, Lib.hid (fun _ => rfl), h5, h6, h7, h8, h11, h12, h9, Lib.hid (⟨fun h => (by cases h), fun h => (by cases h)⟩)⟩⟩
    · skip
      obtain ⟨hI, h0, h1, h2, h3, h4, h5, h6, h7, h8, h11, h12, h9, LL⟩ := (HJI.out _ _ _ _ _ _ _ _ _ _ _ _ _ _ _ _ _ _ _ _ _ _ _ _ _ _ _ _ ).1 hJI
      obtain ⟨hn, hd⟩ := ready_at hr rfl
      simp [Region.binds] at hn hd
      refine wpOp_step rfl (fun K' hK => ?_)
      simp only [putAll, Act.put, List.setIfInBounds_toArray, List.set_cons_zero, List.set_cons_succ]
      go_simp
      exact hK _ _ ⟨_, by simp only [putAll, Act.put, List.setIfInBounds_toArray, List.set_cons_zero, List.set_cons_succ], b0, b1, b2, b3, b4, true, b6, b7, b8, b9, b10, b11, b12, b13, _, _, _, _, _, _, _, _, _, _, _, _, _, rfl, rfl, (HJI.out _ _ _ _ _ _ _ _ _ _ _ _ _ _ _ _ _ _ _ _ _ _ _ _ _ _ _ _ ).2 ⟨hI, h0, h1, h2, h3, h4, Lib.hid (fun _ => rfl), h6, h7, h8, h11, h12, h9, LL⟩⟩
    · skip
      obtain ⟨hI, h0, h1, h2, h3, h4, h5, h6, h7, h8, h11, h12, h9, LL⟩ := (HJI.out _ _ _ _ _ _ _ _ _ _ _ _ _ _ _ _ _ _ _ _ _ _ _ _ _ _ _ _ ).1 hJI
      obtain ⟨hn, hd⟩ := ready_at hr rfl
      simp [Region.binds] at hn hd
      obtain rfl := h5.out (by simp [hd])
      refine wpOp_step rfl (fun K' hK => ?_)
      simp only [putAll, Act.put, List.setIfInBounds_toArray, List.set_cons_zero, List.set_cons_succ]
      go_simp
      exact hK _ _ ⟨_, by simp only [putAll, Act.put, List.setIfInBounds_toArray, List.set_cons_zero, List.set_cons_succ], b0, b1, b2, b3, b4, b5, true, b7, b8, b9, b10, b11, b12, b13, _, _, _, _, _, _, _, _, _, _, _, _, _, rfl, rfl, (HJI.out _ _ _ _ _ _ _ _ _ _ _ _ _ _ _ _ _ _ _ _ _ _ _ _ _ _ _ _ ).2 ⟨hI, h0, h1, h2, h3, h4, h5, Lib.hid (fun _ => rfl), h7, h8, h11, h12, h9, LL⟩⟩
    · skip
      obtain ⟨hI, h0, h1, h2, h3, h4, h5, h6, h7, h8, h11, h12, h9, LL⟩ := (HJI.out _ _ _ _ _ _ _ _ _ _ _ _ _ _ _ _ _ _ _ _ _ _ _ _ _ _ _ _ ).1 hJI
      obtain ⟨hn, hd⟩ := ready_at hr rfl
      simp [Region.binds] at hn hd
      obtain rfl := h6.out (by simp [hd])
      refine wpOp_step rfl (fun K' hK => ?_)
      simp only [putAll, Act.put, List.setIfInBounds_toArray, List.set_cons_zero, List.set_cons_succ]
      go_simp
      exact hK _ _ ⟨_, by simp only [putAll, Act.put, List.setIfInBounds_toArray, List.set_cons_zero, List.set_cons_succ], b0, b1, b2, b3, b4, b5, b6, true, b8, b9, b10, b11, b12, b13, _, _, _, _, _, _, _, _, _, _, _, _, _, rfl, rfl, (HJI.out _ _ _ _ _ _ _ _ _ _ _ _ _ _ _ _ _ _ _ _ _ _ _ _ _ _ _ _ ).2 ⟨hI, h0, h1, h2, h3, h4, h5, h6, Lib.hid (fun _ => rfl), h8, h11, h12, h9, LL⟩⟩
    · skip
      obtain ⟨hI, h0, h1, h2, h3, h4, h5, h6, h7, h8, h11, h12, h9, LL⟩ := (HJI.out _ _ _ _ _ _ _ _ _ _ _ _ _ _ _ _ _ _ _ _ _ _ _ _ _ _ _ _ ).1 hJI
      obtain ⟨hn, hd⟩ := ready_at hr rfl
      simp [Region.binds] at hn hd
      obtain rfl := h7.out (by simp [hd])
      refine wpOp_step rfl (fun K' hK => ?_)
      simp only [putAll, Act.put, List.setIfInBounds_toArray, List.set_cons_zero, List.set_cons_succ]
      have hc : W.cell? ⟨sg, o + 3, none⟩ = some (.int .i64 v) := HSV.out W (fun _ => True) hI.out.2.1
      go_simp
      exact hK _ _ ⟨_, by simp only [putAll, Act.put, List.setIfInBounds_toArray, List.set_cons_zero, List.set_cons_succ], b0, b1, b2, b3, b4, b5, b6, b7, true, b9, b10, b11, b12, b13, _, _, _, _, _, _, _, _, _, _, _, _, _, rfl, rfl, (HJI.out _ _ _ _ _ _ _ _ _ _ _ _ _ _ _ _ _ _ _ _ _ _ _ _ _ _ _ _ ).2 ⟨hI, h0, h1, h2, h3, h4, h5, h6, h7, Lib.hid (fun _ => rfl), h11, h12, h9, LL⟩⟩
    · skip
      obtain ⟨hI, h0, h1, h2, h3, h4, h5, h6, h7, h8, h11, h12, h9, LL⟩ := (HJI.out _ _ _ _ _ _ _ _ _ _ _ _ _ _ _ _ _ _ _ _ _ _ _ _ _ _ _ _ ).1 hJI
      obtain ⟨hn, hd⟩ := ready_at hr rfl
      simp [Region.binds] at hn hd
      obtain rfl := h8.out (by simp [hd])
      refine wpOp_step rfl (fun K' hK => ?_)
      simp only [putAll, Act.put, List.setIfInBounds_toArray, List.set_cons_zero, List.set_cons_succ]
      go_simp
      exact hK _ _ ⟨_, by simp only [putAll, Act.put, List.setIfInBounds_toArray, List.set_cons_zero, List.set_cons_succ], b0, b1, b2, b3, b4, b5, b6, b7, b8, true, b10, b11, b12, b13, _, _, _, _, _, _, _, _, _, _, _, _, _, rfl, rfl, (HJI.out _ _ _ _ _ _ _ _ _ _ _ _ _ _ _ _ _ _ _ _ _ _ _ _ _ _ _ _ ).2 ⟨(Lib.hid (hI.out.kept ((Upd.refl _ _).alloc _))), h0, h1, h2, h3, h4, h5, h6, h7, h8, h11, h12, Lib.hid (fun _ _ => Nw.new hI.out.2.1.size), LL⟩⟩
    · skip
      obtain ⟨hI, h0, h1, h2, h3, h4, h5, h6, h7, h8, h11, h12, h9, LL⟩ := (HJI.out _ _ _ _ _ _ _ _ _ _ _ _ _ _ _ _ _ _ _ _ _ _ _ _ _ _ _ _ ).1 hJI
      obtain ⟨hn, hd⟩ := ready_at hr rfl
      simp [Region.binds] at hn hd
      obtain rfl := h4.out (by simp [hd])
      obtain rfl : b10 = false := hn
      have hb13 : b13 = false := by cases b13 with | false => rfl | true => exact absurd (LL.out.2 rfl) (by decide)
      subst hb13
      obtain ⟨y, hy, rfl, hyc⟩ := h9.out (by simp [hd]) rfl
      refine wpOp_step rfl (fun K' hK => ?_)
      simp only [putAll, Act.put, List.setIfInBounds_toArray, List.set_cons_zero, List.set_cons_succ]
      refine wp_push1 (.tmp 33) (.tmp 38) 29 rfl B 2 i0 (.int .i64 0) 8 Try.underlying29 hi0 hz0 hz1 hz2 rfl (by decide) (.slice ap P.length cp) P.length (iv P) (by simp [Act.eval]) hI.out.1.p (.int .i64 v) rfl y 0 1 (by simp [Act.eval]) hyc (by have := HLE.out; omega) hI.out.2.2 ?_
      intro g4 cap4 w4 hown hgrow
      have hbN := hI.out.app hown hgrow
      change K' (Act.put _ (some 39) _) w4
      exact hK _ _ ⟨_, by simp only [putAll, Act.put, List.setIfInBounds_toArray, List.set_cons_zero, List.set_cons_succ], b0, b1, b2, b3, b4, b5, b6, b7, b8, b9, true, b11, b12, false, _, _, _, _, _, _, _, _, _, (.slice (some ⟨y, 0, none⟩) 1 1), _, _, _, rfl, rfl, (HJI.out _ _ _ _ _ _ _ _ _ _ _ _ _ _ _ _ _ _ _ _ _ _ _ _ _ _ _ _ ).2 ⟨(Lib.hid hbN), h0, h1, h2, h3, h4, h5, h6, h7, h8, h11, h12, Lib.hid (fun _ h => (by cases h)), Lib.hid (⟨fun _ => (by simp [hd]), fun h => (by cases h)⟩)⟩⟩
    · skip
      obtain ⟨hI, h0, h1, h2, h3, h4, h5, h6, h7, h8, h11, h12, h9, LL⟩ := (HJI.out _ _ _ _ _ _ _ _ _ _ _ _ _ _ _ _ _ _ _ _ _ _ _ _ _ _ _ _ ).1 hJI
      obtain ⟨hn, hd⟩ := ready_at hr rfl
      simp [Region.binds] at hn hd
      obtain rfl := h0.out (by simp [hd])
      refine wpOp_step rfl (fun K' hK => ?_)
      simp only [putAll, Act.put, List.setIfInBounds_toArray, List.set_cons_zero, List.set_cons_succ]
      go_simp
      exact hK _ _ ⟨_, by simp only [putAll, Act.put, List.setIfInBounds_toArray, List.set_cons_zero, List.set_cons_succ], b0, b1, b2, b3, b4, b5, b6, b7, b8, b9, b10, true, b12, b13, _, _, _, _, _, _, _, _, _, _, _, _, _, rfl, rfl, (HJI.out _ _ _ _ _ _ _ _ _ _ _ _ _ _ _ _ _ _ _ _ _ _ _ _ _ _ _ _ ).2 ⟨hI, h0, h1, h2, h3, h4, h5, h6, h7, h8, Lib.hid (fun _ => rfl), h12, h9, LL⟩⟩
    · skip
      obtain ⟨hI, h0, h1, h2, h3, h4, h5, h6, h7, h8, h11, h12, h9, LL⟩ := (HJI.out _ _ _ _ _ _ _ _ _ _ _ _ _ _ _ _ _ _ _ _ _ _ _ _ _ _ _ _ ).1 hJI
      obtain ⟨hn, hd⟩ := ready_at hr rfl
      simp [Region.binds] at hn hd
      obtain rfl := h11.out (by simp [hd])
      refine wpOp_step rfl (fun K' hK => ?_)
      simp only [putAll, Act.put, List.setIfInBounds_toArray, List.set_cons_zero, List.set_cons_succ]
      go_simp
      exact hK _ _ ⟨_, by simp only [putAll, Act.put, List.setIfInBounds_toArray, List.set_cons_zero, List.set_cons_succ], b0, b1, b2, b3, b4, b5, b6, b7, b8, b9, b10, b11, true, b13, _, _, _, _, _, _, _, _, _, _, _, _, _, rfl, rfl, (HJI.out _ _ _ _ _ _ _ _ _ _ _ _ _ _ _ _ _ _ _ _ _ _ _ _ _ _ _ _ ).2 ⟨hI, h0, h1, h2, h3, h4, h5, h6, h7, h8, h11, Lib.hid (fun _ => rfl), h9, LL⟩⟩
    · skip
      obtain ⟨hI, h0, h1, h2, h3, h4, h5, h6, h7, h8, h11, h12, h9, LL⟩ := (HJI.out _ _ _ _ _ _ _ _ _ _ _ _ _ _ _ _ _ _ _ _ _ _ _ _ _ _ _ _ ).1 hJI
      obtain ⟨hn, hd⟩ := ready_at hr rfl
      simp [Region.binds] at hn hd
      obtain rfl := h12.out (by simp [hd])
      obtain rfl : b13 = false := hn
      obtain rfl : b10 = true := (by simp [hd])
      obtain ⟨a9, n9, c9, rfl⟩ : ∃ a n c, v39 = .slice a n c := by obtain ⟨a, c, e⟩ := row_form (show W.ownsRow B 2 1 v39 _ _ from hI.out.1.p); exact ⟨_, _, _, e⟩
      have hc : W.cell? ⟨hb, 0, none⟩ = some (.slice ap P.length cp) := by have h := hI.out.1.blk.cell 0; exact h
      have hf := hI.out.1.blk.free 0
      refine wpOp_step (o := ⟨none, .store 29 (.tmp 41) (.tmp 39), 0, "outright.go:29", _, none⟩) rfl (fun K' hK => ?_)
      simp only [putAll, Act.put, List.setIfInBounds_toArray, List.set_cons_zero, List.set_cons_succ]
      go_simp
      exact hK _ _ ⟨_, by simp only [putAll, Act.put, List.setIfInBounds_toArray, List.set_cons_zero, List.set_cons_succ], b0, b1, b2, b3, b4, b5, b6, b7, b8, b9, true, b11, b12, true, _, _, _, _, _, _, _, _, _, v38, _, _, _, rfl, rfl, (HJI.out _ _ _ _ _ _ _ _ _ _ _ _ _ _ _ _ _ _ _ _ _ _ _ _ _ _ _ _ ).2 ⟨(Lib.hid hI.out.st), h0, h1, h2, h3, h4, h5, h6, h7, h8, h11, h12, Lib.hid (fun _ h => (by cases h)), Lib.hid (⟨LL.out.1, fun _ => rfl⟩)⟩⟩
  · rintro l us W ⟨b0, b1, b2, b3, b4, b5, b6, b7, b8, b9, b10, b11, b12, b13, v29, v30, v31, v32, v33, v34, v35, v36, v37, v38, v39, v40, v41, rfl, rfl, hJI⟩ hall
    as_aux_lemma =>
    obtain ⟨hI, h0, h1, h2, h3, h4, h5, h6, h7, h8, h11, h12, h9, LL⟩ := (HJI.out _ _ _ _ _ _ _ _ _ _ _ _ _ _ _ _ _ _ _ _ _ _ _ _ _ _ _ _ ).1 hJI
    clear hJI
    obtain rfl : b0 = true := by simpa using hall 0
    obtain rfl : b1 = true := by simpa using hall 1
    obtain rfl : b2 = true := by simpa using hall 2
    obtain rfl : b3 = true := by simpa using hall 3
    obtain rfl : b4 = true := by simpa using hall 4
    obtain rfl : b5 = true := by simpa using hall 5
    obtain rfl : b6 = true := by simpa using hall 6
    obtain rfl : b7 = true := by simpa using hall 7
    obtain rfl : b8 = true := by simpa using hall 8
    obtain rfl : b9 = true := by simpa using hall 9
    obtain rfl : b10 = true := by simpa using hall 10
    obtain rfl : b11 = true := by simpa using hall 11
    obtain rfl : b12 = true := by simpa using hall 12
    obtain rfl : b13 = true := by simpa using hall 13
    obtain rfl := h0.out rfl
    obtain rfl := h1.out rfl
    obtain rfl := h2.out rfl
    obtain rfl := h3.out rfl
    obtain rfl := h4.out rfl
    obtain rfl := h5.out rfl
    obtain rfl := h6.out rfl
    obtain rfl := h7.out rfl
    obtain rfl := h8.out rfl
    obtain rfl := h11.out rfl
    obtain rfl := h12.out rfl
    have HLG : Hid (LogB B hb v39 vg vs (P ++ [v]) G S W) := Lib.hid (LogR.b hI.out.1)
    have hU7 := hI.out.2.1
    have n1 : ¬ (Value.slice ap P.length cp).ownBlock = some sg := blk_row_ne HR1.out.blk HL1.out.p (by decide)
    have n2 : ¬ (Value.slice ap P.length cp).ownBlock = some bb := blk_row_ne HK1.out.2.1.head HL1.out.p (by decide)
    have n3 : ¬ (Value.slice ap P.length cp).ownBlock = some g := blk_row_ne HK1.out.2.1.row HL1.out.p (by decide)
    have HR2 := Lib.hid (HR1.out.upd hU7 (by rintro (e | e); exact n1 e; have := HNE.out; omega))
    have HB2 := Lib.hid (HK1.out.2.1.upd hU7 (by rintro (e | e); exact n2 e; have := HNE.out; omega) (by rintro (e | e); exact n3 e; have := HNE.out; omega))
    have HU2 : Hid (Upd (fun j => j = g ∨ j = mb ∨ j = sg ∨ j = hb ∨ (B ≤ j ∧ ∃ arr, Blk w j arr 2)) w W) := Lib.hid ((HK1.out.2.2.wide (fun q _ hq => by omega)).then hU7 (fun q _ hq => by
      rcases hq with e | e
      · exact .inr (.inr (.inr (.inr (own_i64 HL0.out.p e))))
      · exact .inr (.inr (.inr (.inl e)))))
    clear hI h9 LL hall hU7 n1 n2 n3 HL1 HK1 HR1 HSV HQ0
    simp only [putAll, Act.put, List.setIfInBounds_toArray, List.set_cons_zero, List.set_cons_succ]
    have c0 : W.cell? ⟨sg, o, none⟩ = some (.pointer (some ⟨mb, 0, none⟩)) := by have h := HR2.out.cell HI.out HO.out 0 (by omega); exact h
    have fz : W.frozen? ⟨sg, o, none⟩ = false := HR2.out.blk.free _
    have HE : Hid (RunEnd B sg bb g hb i ls v (.push v) mb l k s1 P G S w (.returned (.tuple #[])) (W.setCell ⟨sg, o, none⟩ (.pointer none))) := Lib.hid (by
      have hU := updCell2 W sg (o) (.pointer none)
      have n := HNE.out
      refine ⟨v39, vg, vs, rfl, ?_, ?_, HB2.out.upd hU (by omega) (by omega), fun e => (by rw [HD.out] at e; cases e), HU2.out.then hU (fun q _ hq => by omega)⟩
      · have e1 : evP (.push v) s1 P = P ++ [v] := by simp [evP, HD.out, HGT.out]
        have e2 : evG (.push v) s1 G = G := by simp [evG]
        have e3 : evS (.push v) s1 S = S := by simp [evS]
        rw [e1, e2, e3]
        exact HLG.out.mach hU (by omega) (fun q hq hB => by omega)
      · obtain ⟨h1, h2⟩ := List.getElem?_eq_some_iff.1 HI.out
        have h3 := HR2.out.put (i := i) (j := 0) h1 (by omega) (.pointer none)
        rw [h2] at h3
        have e5 : (rcell (some ⟨(.push v), mb, s.m, s.lo⟩) v).set 0 (.pointer none) = rcell (OwnNew (.push v) mb s1) v := by simp [OwnNew, HD.out, rcell, ptr3]
        rw [e5] at h3
        rw [HO.out]
        exact h3)
    clear HLG HR2 HB2 HU2 HL0
    go_wp2_with fail
    go_end0
    exact HE.out
set_option maxRecDepth 100000 in
set_option maxHeartbeats 8000000 in
theorem rstep_steal_tt {w : World} {B mb bb g sg hb i o : Nat} {vp vg vs : Value} {P G S : List Int} {l : Lay} {k v : Int} {tp r : Nat} {ls : List (List Value)} {lo0 : Bool} (s : KS) (hG : Geo l k tp r) (hR : Rows w sg 4 40 ls) (hi : ls[i]? = some (rcell (some ⟨.steal, mb, s.m, s.lo⟩) v)) (ho : o = i * 4) (hP : PB w mb (.steal : Kd).T l k s.m ((.steal : Kd).ex s.lo)) (hb1 : Bnk w bb g s.xs) (hL : LogB B hb vp vg vs P G S w) (hI : KInv tp .steal s)
    (ne : ¬ mb = g ∧ ¬ mb = bb ∧ ¬ sg = g ∧ ¬ sg = bb ∧ ¬ sg = mb ∧ ¬ hb = g ∧ ¬ hb = mb ∧ ¬ hb = sg ∧ ¬ hb = bb ∧ sg < B ∧ g < B) (hd : (kstep tp r .steal s).m.done = true) (hg : (kstep tp r .steal s).m.got = true) (hlen : P.length ≤ 2000 ∧ G.length ≤ 2000 ∧ S.length ≤ 2000) (hBs : B ≤ w.heap.size) :
    Calls Try.prog 16 #[.pointer (some ⟨sg, o, none⟩), .pointer (some ⟨bb, 0, none⟩), .pointer (some ⟨hb, 0, none⟩)] w (RunEnd B sg bb g hb i ls v .steal mb l k (kstep tp r .steal s) P G S w) := by
  obtain ⟨ag, cg, rfl⟩ := row_form hL.g
  obtain ⟨as0, cs, rfl⟩ := row_form hL.s
  have HS := Lib.hid (kstep_any .steal s hG hP hb1 ⟨ne.1, ne.2.1⟩ hI)
  have hTm : (.steal : Kd).T ≠ 2 := by show (45 : TypeId) ≠ 2; decide
  obtain ⟨s1, hs1⟩ : ∃ s', kstep tp r .steal s = s' := ⟨_, rfl⟩
  rw [hs1] at HS hd hg ⊢
  rw [hd] at HS
  have c0 : w.cell? ⟨sg, o, none⟩ = some (.pointer none) := by have h := hR.cell hi ho 0 (by omega); exact h
  have c1 : w.cell? ⟨sg, o + 1, none⟩ = some (.pointer none) := by have h := hR.cell hi ho 1 (by omega); exact h
  have c2 : w.cell? ⟨sg, o + 2, none⟩ = some (.pointer (some ⟨mb, 0, none⟩)) := by have h := hR.cell hi ho 2 (by omega); exact h
  have HPM := Lib.hid hP
  have HR := Lib.hid hR
  have HI := Lib.hid hi
  have HO := Lib.hid ho
  have HL := Lib.hid hL
  have HL0 := Lib.hid hL
  have HNE := Lib.hid ne
  have HD := Lib.hid hd
  have HGT := Lib.hid hg
  have HLE := Lib.hid hlen
  have HBS := Lib.hid hBs
  clear hR hi ho hP hb1 hI hG hs1 hd ne hL hg hlen hBs
  go_enter Try.func16, Try.ntmps16
  go_wp2_with fail
  refine HS.out.mono ?_
  rintro e w1 ⟨rfl, hK⟩
  have HR1 := Lib.hid (HR.out.upd hK.2.2 (by have := HNE.out; omega))
  have HL1 := Lib.hid (HL.out.mach hK.2.2 (by have := HNE.out; omega) (fun q hq hB => by
    rcases hq with rfl | rfl
    · have := HNE.out; omega
    · exact ⟨_, _, HPM.out, hTm⟩))
  have HK1 := Lib.hid hK
  have c0 : w1.cell? ⟨sg, o, none⟩ = some (.pointer none) := by have h := HR1.out.cell HI.out HO.out 0 (by omega); exact h
  have c1 : w1.cell? ⟨sg, o + 1, none⟩ = some (.pointer none) := by have h := HR1.out.cell HI.out HO.out 1 (by omega); exact h
  have c2 : w1.cell? ⟨sg, o + 2, none⟩ = some (.pointer (some ⟨mb, 0, none⟩)) := by have h := HR1.out.cell HI.out HO.out 2 (by omega); exact h
  clear hK HS HR HL HPM
  go_wp2_with fail
  refine (steal_got HK1.out.1).mono ?_
  rintro e w2 ⟨rfl, rfl⟩
  rw [took_some HD.out HGT.out]
  obtain ⟨i0, hi0, hz0, hz1, hz2⟩ := info_parts info2
  have HQ0 : Hid (∀ u v, SW B hb vp (.slice ag G.length cg) (.slice as0 S.length cs) P G S s1.m.x w1 false false false false u v w1.drew) := Lib.hid (fun u v => ⟨(HL1.out.kept (Upd.refl _ _).drew).r, (Upd.refl _ _).drew, Nat.le_trans HBS.out HK1.out.2.2.size⟩)
  have HOLD : Hid (∀ k, (Value.slice ag G.length cg).ownBlock = some k → k < w1.heap.size) := Lib.hid (HL1.out.r.olds.1)
  clear c0 c1 c2
  go_upto_region 12 with (fail)
  obtain ⟨JI, HJI⟩ : ∃ JI : Bool → Bool → Bool → Bool → Bool → Bool → Bool → Bool → Bool → Bool → Bool → Bool → Bool → Bool → Bool → Bool → Bool → Bool → Bool → Bool → Bool → Bool → Value → Value → Value → Value → Value → Value → Value → Value → Value → Value → Value → Value → Value → Value → Value → Value → Value → Value → Value → Value → World → Prop, Hid (∀ (b0 b1 b2 b3 b4 b5 b6 b7 b8 b9 b10 b11 b12 b13 b14 b15 b16 b17 b18 b19 b20 b21 : Bool) (v104 v105 v106 v107 v108 v109 v110 v111 v112 v113 v114 v115 v116 v117 v118 v119 v120 v121 v122 v123 : Value) (W : World), JI b0 b1 b2 b3 b4 b5 b6 b7 b8 b9 b10 b11 b12 b13 b14 b15 b16 b17 b18 b19 b20 b21 v104 v105 v106 v107 v108 v109 v110 v111 v112 v113 v114 v115 v116 v117 v118 v119 v120 v121 v122 v123 W ↔ (Hid (SW B hb vp (.slice ag G.length cg) (.slice as0 S.length cs) P G S s1.m.x w1 b8 b15 b18 b21 v112 v119 W) ∧
    Hid (b0 = true → v104 = .pointer (some ⟨hb, 0, none⟩)) ∧
    Hid (b1 = true → v105 = .pointer (some ⟨hb, 0, none⟩)) ∧
    Hid (b2 = true → v106 = .pointer (some ⟨hb, 0, none⟩)) ∧
    Hid (b3 = true → v107 = .pointer (some ⟨hb, 0, none⟩)) ∧
    Hid (b4 = true → v108 = .pointer (some ⟨hb, 1, none⟩)) ∧
    Hid (b5 = true → v109 = .slice ag G.length cg) ∧
    Hid (b6 = true → v110 = .int .i64 s1.m.x) ∧
    Hid (b9 = true → v113 = .pointer (some ⟨hb, 0, none⟩)) ∧
    Hid (b10 = true → v114 = .pointer (some ⟨hb, 0, none⟩)) ∧
    Hid (b11 = true → v115 = .pointer (some ⟨hb, 2, none⟩)) ∧
    Hid (b12 = true → v116 = .slice as0 S.length cs) ∧
    Hid (b13 = true → v117 = .int .i64 s1.m.x) ∧
    Hid (b16 = true → v120 = .pointer (some ⟨hb, 0, none⟩)) ∧
    Hid (b17 = true → v121 = .pointer (some ⟨hb, 1, none⟩)) ∧
    Hid (b19 = true → v122 = .pointer (some ⟨hb, 0, none⟩)) ∧
    Hid (b20 = true → v123 = .pointer (some ⟨hb, 2, none⟩)) ∧
    Hid (b7 = true → b8 = false → Nw w1 s1.m.x v111 W) ∧
    Hid ((b8 = true → b5 = true) ∧ (b15 = true → b8 = true ∧ b12 = true) ∧ (b18 = true → b15 = true) ∧ (b21 = true → b18 = true)) ∧
    Hid (b14 = true → b15 = false → Nw w1 s1.m.x v118 W))) := ⟨fun b0 b1 b2 b3 b4 b5 b6 b7 b8 b9 b10 b11 b12 b13 b14 b15 b16 b17 b18 b19 b20 b21 v104 v105 v106 v107 v108 v109 v110 v111 v112 v113 v114 v115 v116 v117 v118 v119 v120 v121 v122 v123 W => (Hid (SW B hb vp (.slice ag G.length cg) (.slice as0 S.length cs) P G S s1.m.x w1 b8 b15 b18 b21 v112 v119 W) ∧
    Hid (b0 = true → v104 = .pointer (some ⟨hb, 0, none⟩)) ∧
    Hid (b1 = true → v105 = .pointer (some ⟨hb, 0, none⟩)) ∧
    Hid (b2 = true → v106 = .pointer (some ⟨hb, 0, none⟩)) ∧
    Hid (b3 = true → v107 = .pointer (some ⟨hb, 0, none⟩)) ∧
    Hid (b4 = true → v108 = .pointer (some ⟨hb, 1, none⟩)) ∧
    Hid (b5 = true → v109 = .slice ag G.length cg) ∧
    Hid (b6 = true → v110 = .int .i64 s1.m.x) ∧
    Hid (b9 = true → v113 = .pointer (some ⟨hb, 0, none⟩)) ∧
    Hid (b10 = true → v114 = .pointer (some ⟨hb, 0, none⟩)) ∧
    Hid (b11 = true → v115 = .pointer (some ⟨hb, 2, none⟩)) ∧
    Hid (b12 = true → v116 = .slice as0 S.length cs) ∧
    Hid (b13 = true → v117 = .int .i64 s1.m.x) ∧
    Hid (b16 = true → v120 = .pointer (some ⟨hb, 0, none⟩)) ∧
    Hid (b17 = true → v121 = .pointer (some ⟨hb, 1, none⟩)) ∧
    Hid (b19 = true → v122 = .pointer (some ⟨hb, 0, none⟩)) ∧
    Hid (b20 = true → v123 = .pointer (some ⟨hb, 2, none⟩)) ∧
    Hid (b7 = true → b8 = false → Nw w1 s1.m.x v111 W) ∧
    Hid ((b8 = true → b5 = true) ∧ (b15 = true → b8 = true ∧ b12 = true) ∧ (b18 = true → b15 = true) ∧ (b21 = true → b18 = true)) ∧
    Hid (b14 = true → b15 = false → Nw w1 s1.m.x v118 W)), Lib.hid (fun _ _ _ _ _ _ _ _ _ _ _ _ _ _ _ _ _ _ _ _ _ _ _ _ _ _ _ _ _ _ _ _ _ _ _ _ _ _ _ _ _ _ _ => Iff.rfl)⟩
  refine wp_region_inv (fun l us W => ∃ (b0 b1 b2 b3 b4 b5 b6 b7 b8 b9 b10 b11 b12 b13 b14 b15 b16 b17 b18 b19 b20 b21 : Bool) (v104 v105 v106 v107 v108 v109 v110 v111 v112 v113 v114 v115 v116 v117 v118 v119 v120 v121 v122 v123 : Value), l = #[b0, b1, b2, b3, b4, b5, b6, b7, b8, b9, b10, b11, b12, b13, b14, b15, b16, b17, b18, b19, b20, b21] ∧ us = [v104, v105, v106, v107, v108, v109, v110, v111, v112, v113, v114, v115, v116, v117, v118, v119, v120, v121, v122, v123] ∧ JI b0 b1 b2 b3 b4 b5 b6 b7 b8 b9 b10 b11 b12 b13 b14 b15 b16 b17 b18 b19 b20 b21 v104 v105 v106 v107 v108 v109 v110 v111 v112 v113 v114 v115 v116 v117 v118 v119 v120 v121 v122 v123 W) [104, 105, 106, 107, 108, 109, 110, 111, 112, 113, 114, 115, 116, 117, 118, 119, 120, 121, 122, 123] [undef, undef, undef, undef, undef, undef, undef, undef, undef, undef, undef, undef, undef, undef, undef, undef, undef, undef, undef, undef] (by kernel_rfl) (by kernel_rfl) (by simp only [putAll, Act.put, List.setIfInBounds_toArray, List.set_cons_zero, List.set_cons_succ]) ?_ ?_ ?_
  · exact ⟨false, false, false, false, false, false, false, false, false, false, false, false, false, false, false, false, false, false, false, false, false, false, _, _, _, _, _, _, _, _, _, _, _, _, _, _, _, _, _, _, _, _, rfl, rfl, (HJI.out _ _ _ _ _ _ _ _ _ _ _ _ _ _ _ _ _ _ _ _ _ _ _ _ _ _ _ _ _ _ _ _ _ _ _ _ _ _ _ _ _ _ _ ).2 ⟨Lib.hid (HQ0.out _ _), Lib.hid (by simp), Lib.hid (by simp), Lib.hid (by simp), Lib.hid (by simp), Lib.hid (by simp), Lib.hid (by simp), Lib.hid (by simp), Lib.hid (by simp), Lib.hid (by simp), Lib.hid (by simp), Lib.hid (by simp), Lib.hid (by simp), Lib.hid (by simp), Lib.hid (by simp), Lib.hid (by simp), Lib.hid (by simp), Lib.hid (by simp), Lib.hid (by simp), Lib.hid (by simp)⟩⟩
  · rintro i l us W ⟨b0, b1, b2, b3, b4, b5, b6, b7, b8, b9, b10, b11, b12, b13, b14, b15, b16, b17, b18, b19, b20, b21, v104, v105, v106, v107, v108, v109, v110, v111, v112, v113, v114, v115, v116, v117, v118, v119, v120, v121, v122, v123, rfl, rfl, hJI⟩ hr
    have hi : i = 0 ∨ i = 1 ∨ i = 2 ∨ i = 3 ∨ i = 4 ∨ i = 5 ∨ i = 6 ∨ i = 7 ∨ i = 8 ∨ i = 9 ∨ i = 10 ∨ i = 11 ∨ i = 12 ∨ i = 13 ∨ i = 14 ∨ i = 15 ∨ i = 16 ∨ i = 17 ∨ i = 18 ∨ i = 19 ∨ i = 20 ∨ i = 21 := by
      have := ready_lt hr
      simp at this
      omega
    rcases hi with rfl | rfl | rfl | rfl | rfl | rfl | rfl | rfl | rfl | rfl | rfl | rfl | rfl | rfl | rfl | rfl | rfl | rfl | rfl | rfl | rfl | rfl
    · skip
      obtain ⟨hI, h0, h1, h2, h3, h4, h5, h6, h9, h10, h11, h12, h13, h16, h17, h19, h20, h7, LL, h14⟩ := (HJI.out _ _ _ _ _ _ _ _ _ _ _ _ _ _ _ _ _ _ _ _ _ _ _ _ _ _ _ _ _ _ _ _ _ _ _ _ _ _ _ _ _ _ _ ).1 hJI
      obtain ⟨hn, hd⟩ := ready_at hr rfl
      simp [Region.binds] at hn hd
      refine wpOp_step rfl (fun K' hK => ?_)
      simp only [putAll, Act.put, List.setIfInBounds_toArray, List.set_cons_zero, List.set_cons_succ]
      go_simp
      exact hK _ _ ⟨_, by simp only [putAll, Act.put, List.setIfInBounds_toArray, List.set_cons_zero, List.set_cons_succ], true, b1, b2, b3, b4, b5, b6, b7, b8, b9, b10, b11, b12, b13, b14, b15, b16, b17, b18, b19, b20, b21, _, _, _, _, _, _, _, _, _, _, _, _, _, _, _, _, _, _, _, _, rfl, rfl, (HJI.out _ _ _ _ _ _ _ _ _ _ _ _ _ _ _ _ _ _ _ _ _ _ _ _ _ _ _ _ _ _ _ _ _ _ _ _ _ _ _ _ _ _ _ ).2 ⟨hI, Lib.hid (fun _ => rfl), h1, h2, h3, h4, h5, h6, h9, h10, h11, h12, h13, h16, h17, h19, h20, h7, LL, h14⟩⟩
    · skip
      obtain ⟨hI, h0, h1, h2, h3, h4, h5, h6, h9, h10, h11, h12, h13, h16, h17, h19, h20, h7, LL, h14⟩ := (HJI.out _ _ _ _ _ _ _ _ _ _ _ _ _ _ _ _ _ _ _ _ _ _ _ _ _ _ _ _ _ _ _ _ _ _ _ _ _ _ _ _ _ _ _ ).1 hJI
      obtain ⟨hn, hd⟩ := ready_at hr rfl
      simp [Region.binds] at hn hd
      refine wpOp_step rfl (fun K' hK => ?_)
      simp only [putAll, Act.put, List.setIfInBounds_toArray, List.set_cons_zero, List.set_cons_succ]
      go_simp
      exact hK _ _ ⟨_, by simp only [putAll, Act.put, List.setIfInBounds_toArray, List.set_cons_zero, List.set_cons_succ], b0, true, b2, b3, b4, b5, b6, b7, b8, b9, b10, b11, b12, b13, b14, b15, b16, b17, b18, b19, b20, b21, _, _, _, _, _, _, _, _, _, _, _, _, _, _, _, _, _, _, _, _, rfl, rfl, (HJI.out _ _ _ _ _ _ _ _ _ _ _ _ _ _ _ _ _ _ _ _ _ _ _ _ _ _ _ _ _ _ _ _ _ _ _ _ _ _ _ _ _ _ _ ).2 ⟨hI, h0, Lib.hid (fun _ => rfl), h2, h3, h4, h5, h6, h9, h10, h11, h12, h13, h16, h17, h19, h20, h7, LL, h14⟩⟩
    · skip
      obtain ⟨hI, h0, h1, h2, h3, h4, h5, h6, h9, h10, h11, h12, h13, h16, h17, h19, h20, h7, LL, h14⟩ := (HJI.out _ _ _ _ _ _ _ _ _ _ _ _ _ _ _ _ _ _ _ _ _ _ _ _ _ _ _ _ _ _ _ _ _ _ _ _ _ _ _ _ _ _ _ ).1 hJI
      obtain ⟨hn, hd⟩ := ready_at hr rfl
      simp [Region.binds] at hn hd
      refine wpOp_step rfl (fun K' hK => ?_)
      simp only [putAll, Act.put, List.setIfInBounds_toArray, List.set_cons_zero, List.set_cons_succ]
      go_simp
      exact hK _ _ ⟨_, by simp only [putAll, Act.put, List.setIfInBounds_toArray, List.set_cons_zero, List.set_cons_succ], b0, b1, true, b3, b4, b5, b6, b7, b8, b9, b10, b11, b12, b13, b14, b15, b16, b17, b18, b19, b20, b21, _, _, _, _, _, _, _, _, _, _, _, _, _, _, _, _, _, _, _, _, rfl, rfl, (HJI.out _ _ _ _ _ _ _ _ _ _ _ _ _ _ _ _ _ _ _ _ _ _ _ _ _ _ _ _ _ _ _ _ _ _ _ _ _ _ _ _ _ _ _ ).2 ⟨hI, h0, h1, Lib.hid (fun _ => rfl), h3, h4, h5, h6, h9, h10, h11, h12, h13, h16, h17, h19, h20, h7, LL, h14⟩⟩
    · skip
      obtain ⟨hI, h0, h1, h2, h3, h4, h5, h6, h9, h10, h11, h12, h13, h16, h17, h19, h20, h7, LL, h14⟩ := (HJI.out _ _ _ _ _ _ _ _ _ _ _ _ _ _ _ _ _ _ _ _ _ _ _ _ _ _ _ _ _ _ _ _ _ _ _ _ _ _ _ _ _ _ _ ).1 hJI
      obtain ⟨hn, hd⟩ := ready_at hr rfl
      simp [Region.binds] at hn hd
      obtain rfl := h2.out (by simp [hd])
      refine wpOp_step rfl (fun K' hK => ?_)
      simp only [putAll, Act.put, List.setIfInBounds_toArray, List.set_cons_zero, List.set_cons_succ]
      go_simp
      exact hK _ _ ⟨_, by simp only [putAll, Act.put, List.setIfInBounds_toArray, List.set_cons_zero, List.set_cons_succ], b0, b1, b2, true, b4, b5, b6, b7, b8, b9, b10, b11, b12, b13, b14, b15, b16, b17, b18, b19, b20, b21, _, _, _, _, _, _, _, _, _, _, _, _, _, _, _, _, _, _, _, _, rfl, rfl, (HJI.out _ _ _ _ _ _ _ _ _ _ _ _ _ _ _ _ _ _ _ _ _ _ _ _ _ _ _ _ _ _ _ _ _ _ _ _ _ _ _ _ _ _ _ ).2 ⟨hI, h0, h1, h2, Lib.hid (fun _ => rfl), h4, h5, h6, h9, h10, h11, h12, h13, h16, h17, h19, h20, h7, LL, h14⟩⟩
    · skip
      obtain ⟨hI, h0, h1, h2, h3, h4, h5, h6, h9, h10, h11, h12, h13, h16, h17, h19, h20, h7, LL, h14⟩ := (HJI.out _ _ _ _ _ _ _ _ _ _ _ _ _ _ _ _ _ _ _ _ _ _ _ _ _ _ _ _ _ _ _ _ _ _ _ _ _ _ _ _ _ _ _ ).1 hJI
      obtain ⟨hn, hd⟩ := ready_at hr rfl
      simp [Region.binds] at hn hd
      obtain rfl := h3.out (by simp [hd])
      refine wpOp_step rfl (fun K' hK => ?_)
      simp only [putAll, Act.put, List.setIfInBounds_toArray, List.set_cons_zero, List.set_cons_succ]
      go_simp
      exact hK _ _ ⟨_, by simp only [putAll, Act.put, List.setIfInBounds_toArray, List.set_cons_zero, List.set_cons_succ], b0, b1, b2, b3, true, b5, b6, b7, b8, b9, b10, b11, b12, b13, b14, b15, b16, b17, b18, b19, b20, b21, _, _, _, _, _, _, _, _, _, _, _, _, _, _, _, _, _, _, _, _, rfl, rfl, (HJI.out _ _ _ _ _ _ _ _ _ _ _ _ _ _ _ _ _ _ _ _ _ _ _ _ _ _ _ _ _ _ _ _ _ _ _ _ _ _ _ _ _ _ _ ).2 ⟨hI, h0, h1, h2, h3, Lib.hid (fun _ => rfl), h5, h6, h9, h10, h11, h12, h13, h16, h17, h19, h20, h7, LL, h14⟩⟩
    · skip
      obtain ⟨hI, h0, h1, h2, h3, h4, h5, h6, h9, h10, h11, h12, h13, h16, h17, h19, h20, h7, LL, h14⟩ := (HJI.out _ _ _ _ _ _ _ _ _ _ _ _ _ _ _ _ _ _ _ _ _ _ _ _ _ _ _ _ _ _ _ _ _ _ _ _ _ _ _ _ _ _ _ ).1 hJI
      obtain ⟨hn, hd⟩ := ready_at hr rfl
      simp [Region.binds] at hn hd
      obtain rfl := h4.out (by simp [hd])
      have hb8 : b8 = false := by cases b8 with | false => rfl | true => exact absurd ((LL.out.1 rfl).symm.trans hn) (by decide)
      subst hb8
      have hb15 : b15 = false := by cases b15 with | false => rfl | true => exact absurd ((LL.out.2.1 rfl).1) (by decide)
      subst hb15
      have hb18 : b18 = false := by cases b18 with | false => rfl | true => exact absurd (LL.out.2.2.1 rfl) (by decide)
      subst hb18
      have hb21 : b21 = false := by cases b21 with | false => rfl | true => exact absurd (LL.out.2.2.2 rfl) (by decide)
      subst hb21
      have hc : W.cell? ⟨hb, 1, none⟩ = some (.slice ag G.length cg) := by have h := hI.out.1.blk.cell 1; exact h
      refine wpOp_step rfl (fun K' hK => ?_)
      simp only [putAll, Act.put, List.setIfInBounds_toArray, List.set_cons_zero, List.set_cons_succ]
      go_simp
      exact hK _ _ ⟨_, by simp only [putAll, Act.put, List.setIfInBounds_toArray, List.set_cons_zero, List.set_cons_succ], b0, b1, b2, b3, b4, true, b6, b7, false, b9, b10, b11, b12, b13, b14, false, b16, b17, false, b19, b20, false, _, _, _, _, _, _, _, _, _, _, _, _, _, _, _, _, _, _, _, _, rfl, rfl, (HJI.out _ _ _ _ _ _ _ _ _ _ _ _ _ _ _ _ _ _ _ _ _ _ _ _ _ _ _ _ _ _ _ _ _ _ _ _ _ _ _ _ _ _ _ ).2 ⟨hI, h0, h1, h2, h3, h4, Lib.hid (fun _ => rfl), h6, h9, h10, h11, h12, h13, h16, h17, h19, h20, h7, Lib.hid (⟨fun h => (by cases h), fun h => (by cases h), fun h => (by cases h), fun h => (by cases h)⟩), h14⟩⟩
    · skip
      obtain ⟨hI, h0, h1, h2, h3, h4, h5, h6, h9, h10, h11, h12, h13, h16, h17, h19, h20, h7, LL, h14⟩ := (HJI.out _ _ _ _ _ _ _ _ _ _ _ _ _ _ _ _ _ _ _ _ _ _ _ _ _ _ _ _ _ _ _ _ _ _ _ _ _ _ _ _ _ _ _ ).1 hJI
      obtain ⟨hn, hd⟩ := ready_at hr rfl
      simp [Region.binds] at hn hd
      refine wpOp_step rfl (fun K' hK => ?_)
      simp only [putAll, Act.put, List.setIfInBounds_toArray, List.set_cons_zero, List.set_cons_succ]
      go_simp
      exact hK _ _ ⟨_, by simp only [putAll, Act.put, List.setIfInBounds_toArray, List.set_cons_zero, List.set_cons_succ], b0, b1, b2, b3, b4, b5, true, b7, b8, b9, b10, b11, b12, b13, b14, b15, b16, b17, b18, b19, b20, b21, _, _, _, _, _, _, _, _, _, _, _, _, _, _, _, _, _, _, _, _, rfl, rfl, (HJI.out _ _ _ _ _ _ _ _ _ _ _ _ _ _ _ _ _ _ _ _ _ _ _ _ _ _ _ _ _ _ _ _ _ _ _ _ _ _ _ _ _ _ _ ).2 ⟨hI, h0, h1, h2, h3, h4, h5, Lib.hid (fun _ => rfl), h9, h10, h11, h12, h13, h16, h17, h19, h20, h7, LL, h14⟩⟩
    · skip
      obtain ⟨hI, h0, h1, h2, h3, h4, h5, h6, h9, h10, h11, h12, h13, h16, h17, h19, h20, h7, LL, h14⟩ := (HJI.out _ _ _ _ _ _ _ _ _ _ _ _ _ _ _ _ _ _ _ _ _ _ _ _ _ _ _ _ _ _ _ _ _ _ _ _ _ _ _ _ _ _ _ ).1 hJI
      obtain ⟨hn, hd⟩ := ready_at hr rfl
      simp [Region.binds] at hn hd
      obtain rfl := h6.out (by simp [hd])
      refine wpOp_step rfl (fun K' hK => ?_)
      simp only [putAll, Act.put, List.setIfInBounds_toArray, List.set_cons_zero, List.set_cons_succ]
      go_simp
      exact hK _ _ ⟨_, by simp only [putAll, Act.put, List.setIfInBounds_toArray, List.set_cons_zero, List.set_cons_succ], b0, b1, b2, b3, b4, b5, b6, true, b8, b9, b10, b11, b12, b13, b14, b15, b16, b17, b18, b19, b20, b21, _, _, _, _, _, _, _, _, _, _, _, _, _, _, _, _, _, _, _, _, rfl, rfl, (HJI.out _ _ _ _ _ _ _ _ _ _ _ _ _ _ _ _ _ _ _ _ _ _ _ _ _ _ _ _ _ _ _ _ _ _ _ _ _ _ _ _ _ _ _ ).2 ⟨(Lib.hid (hI.out.kept ((Upd.refl _ _).alloc _))), h0, h1, h2, h3, h4, h5, h6, h9, h10, h11, h12, h13, h16, h17, h19, h20, Lib.hid (fun _ _ => Nw.new hI.out.2.1.size), LL, Lib.hid (fun hb hc => (h14.out hb hc).kept ((Upd.refl _ _).alloc _))⟩⟩
    · skip
      obtain ⟨hI, h0, h1, h2, h3, h4, h5, h6, h9, h10, h11, h12, h13, h16, h17, h19, h20, h7, LL, h14⟩ := (HJI.out _ _ _ _ _ _ _ _ _ _ _ _ _ _ _ _ _ _ _ _ _ _ _ _ _ _ _ _ _ _ _ _ _ _ _ _ _ _ _ _ _ _ _ ).1 hJI
      obtain ⟨hn, hd⟩ := ready_at hr rfl
      simp [Region.binds] at hn hd
      obtain rfl := h5.out (by simp [hd])
      obtain rfl : b8 = false := hn
      have hb15 : b15 = false := by cases b15 with | false => rfl | true => exact absurd ((LL.out.2.1 rfl).1) (by decide)
      subst hb15
      have hb18 : b18 = false := by cases b18 with | false => rfl | true => exact absurd (LL.out.2.2.1 rfl) (by decide)
      subst hb18
      have hb21 : b21 = false := by cases b21 with | false => rfl | true => exact absurd (LL.out.2.2.2 rfl) (by decide)
      subst hb21
      obtain ⟨y, hy, rfl, hyc⟩ := h7.out (by simp [hd]) rfl
      refine wpOp_step rfl (fun K' hK => ?_)
      simp only [putAll, Act.put, List.setIfInBounds_toArray, List.set_cons_zero, List.set_cons_succ]
      refine wp_push1 (.tmp 109) (.tmp 111) 29 rfl B 2 i0 (.int .i64 0) 8 Try.underlying29 hi0 hz0 hz1 hz2 rfl (by decide) (.slice ag G.length cg) G.length (iv G) (by simp [Act.eval]) hI.out.1.g (.int .i64 s1.m.x) rfl y 0 1 (by simp [Act.eval]) hyc (by have := HLE.out; omega) hI.out.2.2 ?_
      intro g4 cap4 w4 hown hgrow
      have hbN := hI.out.app8 hown hgrow
      change K' (Act.put _ (some 112) _) w4
      exact hK _ _ ⟨_, by simp only [putAll, Act.put, List.setIfInBounds_toArray, List.set_cons_zero, List.set_cons_succ], b0, b1, b2, b3, b4, b5, b6, b7, true, b9, b10, b11, b12, b13, b14, false, b16, b17, false, b19, b20, false, _, _, _, _, _, _, _, (.slice (some ⟨y, 0, none⟩) 1 1), _, _, _, _, _, _, _, _, _, _, _, _, rfl, rfl, (HJI.out _ _ _ _ _ _ _ _ _ _ _ _ _ _ _ _ _ _ _ _ _ _ _ _ _ _ _ _ _ _ _ _ _ _ _ _ _ _ _ _ _ _ _ ).2 ⟨(Lib.hid hbN), h0, h1, h2, h3, h4, h5, h6, h9, h10, h11, h12, h13, h16, h17, h19, h20, Lib.hid (fun _ h => (by cases h)), Lib.hid (⟨fun _ => (by simp [hd]), fun h => (by cases h), fun h => (by cases h), fun h => (by cases h)⟩), Lib.hid (fun hb hc => (h14.out hb hc).grew hgrow HOLD.out)⟩⟩
    · skip
      obtain ⟨hI, h0, h1, h2, h3, h4, h5, h6, h9, h10, h11, h12, h13, h16, h17, h19, h20, h7, LL, h14⟩ := (HJI.out _ _ _ _ _ _ _ _ _ _ _ _ _ _ _ _ _ _ _ _ _ _ _ _ _ _ _ _ _ _ _ _ _ _ _ _ _ _ _ _ _ _ _ ).1 hJI
      obtain ⟨hn, hd⟩ := ready_at hr rfl
      simp [Region.binds] at hn hd
      refine wpOp_step rfl (fun K' hK => ?_)
      simp only [putAll, Act.put, List.setIfInBounds_toArray, List.set_cons_zero, List.set_cons_succ]
      go_simp
      exact hK _ _ ⟨_, by simp only [putAll, Act.put, List.setIfInBounds_toArray, List.set_cons_zero, List.set_cons_succ], b0, b1, b2, b3, b4, b5, b6, b7, b8, true, b10, b11, b12, b13, b14, b15, b16, b17, b18, b19, b20, b21, _, _, _, _, _, _, _, _, _, _, _, _, _, _, _, _, _, _, _, _, rfl, rfl, (HJI.out _ _ _ _ _ _ _ _ _ _ _ _ _ _ _ _ _ _ _ _ _ _ _ _ _ _ _ _ _ _ _ _ _ _ _ _ _ _ _ _ _ _ _ ).2 ⟨hI, h0, h1, h2, h3, h4, h5, h6, Lib.hid (fun _ => rfl), h10, h11, h12, h13, h16, h17, h19, h20, h7, LL, h14⟩⟩
    · skip
      obtain ⟨hI, h0, h1, h2, h3, h4, h5, h6, h9, h10, h11, h12, h13, h16, h17, h19, h20, h7, LL, h14⟩ := (HJI.out _ _ _ _ _ _ _ _ _ _ _ _ _ _ _ _ _ _ _ _ _ _ _ _ _ _ _ _ _ _ _ _ _ _ _ _ _ _ _ _ _ _ _ ).1 hJI
      obtain ⟨hn, hd⟩ := ready_at hr rfl
      simp [Region.binds] at hn hd
      obtain rfl := h9.out (by simp [hd])
      refine wpOp_step rfl (fun K' hK => ?_)
      simp only [putAll, Act.put, List.setIfInBounds_toArray, List.set_cons_zero, List.set_cons_succ]
      go_simp
      exact hK _ _ ⟨_, by simp only [putAll, Act.put, List.setIfInBounds_toArray, List.set_cons_zero, List.set_cons_succ], b0, b1, b2, b3, b4, b5, b6, b7, b8, b9, true, b11, b12, b13, b14, b15, b16, b17, b18, b19, b20, b21, _, _, _, _, _, _, _, _, _, _, _, _, _, _, _, _, _, _, _, _, rfl, rfl, (HJI.out _ _ _ _ _ _ _ _ _ _ _ _ _ _ _ _ _ _ _ _ _ _ _ _ _ _ _ _ _ _ _ _ _ _ _ _ _ _ _ _ _ _ _ ).2 ⟨hI, h0, h1, h2, h3, h4, h5, h6, h9, Lib.hid (fun _ => rfl), h11, h12, h13, h16, h17, h19, h20, h7, LL, h14⟩⟩
    · skip
      obtain ⟨hI, h0, h1, h2, h3, h4, h5, h6, h9, h10, h11, h12, h13, h16, h17, h19, h20, h7, LL, h14⟩ := (HJI.out _ _ _ _ _ _ _ _ _ _ _ _ _ _ _ _ _ _ _ _ _ _ _ _ _ _ _ _ _ _ _ _ _ _ _ _ _ _ _ _ _ _ _ ).1 hJI
      obtain ⟨hn, hd⟩ := ready_at hr rfl
      simp [Region.binds] at hn hd
      obtain rfl := h10.out (by simp [hd])
      refine wpOp_step rfl (fun K' hK => ?_)
      simp only [putAll, Act.put, List.setIfInBounds_toArray, List.set_cons_zero, List.set_cons_succ]
      go_simp
      exact hK _ _ ⟨_, by simp only [putAll, Act.put, List.setIfInBounds_toArray, List.set_cons_zero, List.set_cons_succ], b0, b1, b2, b3, b4, b5, b6, b7, b8, b9, b10, true, b12, b13, b14, b15, b16, b17, b18, b19, b20, b21, _, _, _, _, _, _, _, _, _, _, _, _, _, _, _, _, _, _, _, _, rfl, rfl, (HJI.out _ _ _ _ _ _ _ _ _ _ _ _ _ _ _ _ _ _ _ _ _ _ _ _ _ _ _ _ _ _ _ _ _ _ _ _ _ _ _ _ _ _ _ ).2 ⟨hI, h0, h1, h2, h3, h4, h5, h6, h9, h10, Lib.hid (fun _ => rfl), h12, h13, h16, h17, h19, h20, h7, LL, h14⟩⟩
    · skip
      obtain ⟨hI, h0, h1, h2, h3, h4, h5, h6, h9, h10, h11, h12, h13, h16, h17, h19, h20, h7, LL, h14⟩ := (HJI.out _ _ _ _ _ _ _ _ _ _ _ _ _ _ _ _ _ _ _ _ _ _ _ _ _ _ _ _ _ _ _ _ _ _ _ _ _ _ _ _ _ _ _ ).1 hJI
      obtain ⟨hn, hd⟩ := ready_at hr rfl
      simp [Region.binds] at hn hd
      obtain rfl := h11.out (by simp [hd])
      have hb15 : b15 = false := by cases b15 with | false => rfl | true => exact absurd ((LL.out.2.1 rfl).2.symm.trans hn) (by decide)
      subst hb15
      have hb18 : b18 = false := by cases b18 with | false => rfl | true => exact absurd (LL.out.2.2.1 rfl) (by decide)
      subst hb18
      have hb21 : b21 = false := by cases b21 with | false => rfl | true => exact absurd (LL.out.2.2.2 rfl) (by decide)
      subst hb21
      have hc : W.cell? ⟨hb, 2, none⟩ = some (.slice as0 S.length cs) := by have h := hI.out.1.blk.cell 2; exact h
      refine wpOp_step rfl (fun K' hK => ?_)
      simp only [putAll, Act.put, List.setIfInBounds_toArray, List.set_cons_zero, List.set_cons_succ]
      go_simp
      exact hK _ _ ⟨_, by simp only [putAll, Act.put, List.setIfInBounds_toArray, List.set_cons_zero, List.set_cons_succ], b0, b1, b2, b3, b4, b5, b6, b7, b8, b9, b10, b11, true, b13, b14, false, b16, b17, false, b19, b20, false, _, _, _, _, _, _, _, _, _, _, _, _, _, _, _, _, _, _, _, _, rfl, rfl, (HJI.out _ _ _ _ _ _ _ _ _ _ _ _ _ _ _ _ _ _ _ _ _ _ _ _ _ _ _ _ _ _ _ _ _ _ _ _ _ _ _ _ _ _ _ ).2 ⟨hI, h0, h1, h2, h3, h4, h5, h6, h9, h10, h11, Lib.hid (fun _ => rfl), h13, h16, h17, h19, h20, h7, Lib.hid (⟨LL.out.1, fun h => (by cases h), fun h => (by cases h), fun h => (by cases h)⟩), h14⟩⟩
    · skip
      obtain ⟨hI, h0, h1, h2, h3, h4, h5, h6, h9, h10, h11, h12, h13, h16, h17, h19, h20, h7, LL, h14⟩ := (HJI.out _ _ _ _ _ _ _ _ _ _ _ _ _ _ _ _ _ _ _ _ _ _ _ _ _ _ _ _ _ _ _ _ _ _ _ _ _ _ _ _ _ _ _ ).1 hJI
      obtain ⟨hn, hd⟩ := ready_at hr rfl
      simp [Region.binds] at hn hd
      refine wpOp_step rfl (fun K' hK => ?_)
      simp only [putAll, Act.put, List.setIfInBounds_toArray, List.set_cons_zero, List.set_cons_succ]
      go_simp
      exact hK _ _ ⟨_, by simp only [putAll, Act.put, List.setIfInBounds_toArray, List.set_cons_zero, List.set_cons_succ], b0, b1, b2, b3, b4, b5, b6, b7, b8, b9, b10, b11, b12, true, b14, b15, b16, b17, b18, b19, b20, b21, _, _, _, _, _, _, _, _, _, _, _, _, _, _, _, _, _, _, _, _, rfl, rfl, (HJI.out _ _ _ _ _ _ _ _ _ _ _ _ _ _ _ _ _ _ _ _ _ _ _ _ _ _ _ _ _ _ _ _ _ _ _ _ _ _ _ _ _ _ _ ).2 ⟨hI, h0, h1, h2, h3, h4, h5, h6, h9, h10, h11, h12, Lib.hid (fun _ => rfl), h16, h17, h19, h20, h7, LL, h14⟩⟩
    · skip
      obtain ⟨hI, h0, h1, h2, h3, h4, h5, h6, h9, h10, h11, h12, h13, h16, h17, h19, h20, h7, LL, h14⟩ := (HJI.out _ _ _ _ _ _ _ _ _ _ _ _ _ _ _ _ _ _ _ _ _ _ _ _ _ _ _ _ _ _ _ _ _ _ _ _ _ _ _ _ _ _ _ ).1 hJI
      obtain ⟨hn, hd⟩ := ready_at hr rfl
      simp [Region.binds] at hn hd
      obtain rfl := h13.out (by simp [hd])
      refine wpOp_step rfl (fun K' hK => ?_)
      simp only [putAll, Act.put, List.setIfInBounds_toArray, List.set_cons_zero, List.set_cons_succ]
      go_simp
      exact hK _ _ ⟨_, by simp only [putAll, Act.put, List.setIfInBounds_toArray, List.set_cons_zero, List.set_cons_succ], b0, b1, b2, b3, b4, b5, b6, b7, b8, b9, b10, b11, b12, b13, true, b15, b16, b17, b18, b19, b20, b21, _, _, _, _, _, _, _, _, _, _, _, _, _, _, _, _, _, _, _, _, rfl, rfl, (HJI.out _ _ _ _ _ _ _ _ _ _ _ _ _ _ _ _ _ _ _ _ _ _ _ _ _ _ _ _ _ _ _ _ _ _ _ _ _ _ _ _ _ _ _ ).2 ⟨(Lib.hid (hI.out.kept ((Upd.refl _ _).alloc _))), h0, h1, h2, h3, h4, h5, h6, h9, h10, h11, h12, h13, h16, h17, h19, h20, Lib.hid (fun hb hc => (h7.out hb hc).kept ((Upd.refl _ _).alloc _)), LL, Lib.hid (fun _ _ => Nw.new hI.out.2.1.size)⟩⟩
    · skip
      obtain ⟨hI, h0, h1, h2, h3, h4, h5, h6, h9, h10, h11, h12, h13, h16, h17, h19, h20, h7, LL, h14⟩ := (HJI.out _ _ _ _ _ _ _ _ _ _ _ _ _ _ _ _ _ _ _ _ _ _ _ _ _ _ _ _ _ _ _ _ _ _ _ _ _ _ _ _ _ _ _ ).1 hJI
      obtain ⟨hn, hd⟩ := ready_at hr rfl
      simp [Region.binds] at hn hd
      obtain rfl := h12.out (by simp [hd])
      obtain rfl : b15 = false := hn
      obtain rfl : b8 = true := (by simp [hd])
      have hb18 : b18 = false := by cases b18 with | false => rfl | true => exact absurd (LL.out.2.2.1 rfl) (by decide)
      subst hb18
      have hb21 : b21 = false := by cases b21 with | false => rfl | true => exact absurd (LL.out.2.2.2 rfl) (by decide)
      subst hb21
      obtain ⟨y, hy, rfl, hyc⟩ := h14.out (by simp [hd]) rfl
      refine wpOp_step rfl (fun K' hK => ?_)
      simp only [putAll, Act.put, List.setIfInBounds_toArray, List.set_cons_zero, List.set_cons_succ]
      refine wp_push1 (.tmp 116) (.tmp 118) 29 rfl B 2 i0 (.int .i64 0) 8 Try.underlying29 hi0 hz0 hz1 hz2 rfl (by decide) (.slice as0 S.length cs) S.length (iv S) (by simp [Act.eval]) hI.out.1.s (.int .i64 s1.m.x) rfl y 0 1 (by simp [Act.eval]) hyc (by have := HLE.out; omega) hI.out.2.2 ?_
      intro g4 cap4 w4 hown hgrow
      have hbN := hI.out.app15 hown hgrow
      change K' (Act.put _ (some 119) _) w4
      exact hK _ _ ⟨_, by simp only [putAll, Act.put, List.setIfInBounds_toArray, List.set_cons_zero, List.set_cons_succ], b0, b1, b2, b3, b4, b5, b6, b7, true, b9, b10, b11, b12, b13, b14, true, b16, b17, false, b19, b20, false, _, _, _, _, _, _, _, v111, _, _, _, _, _, _, (.slice (some ⟨y, 0, none⟩) 1 1), _, _, _, _, _, rfl, rfl, (HJI.out _ _ _ _ _ _ _ _ _ _ _ _ _ _ _ _ _ _ _ _ _ _ _ _ _ _ _ _ _ _ _ _ _ _ _ _ _ _ _ _ _ _ _ ).2 ⟨(Lib.hid hbN), h0, h1, h2, h3, h4, h5, h6, h9, h10, h11, h12, h13, h16, h17, h19, h20, Lib.hid (fun _ h => (by cases h)), Lib.hid (⟨LL.out.1, fun _ => ⟨rfl, (by simp [hd])⟩, fun h => (by cases h), fun h => (by cases h)⟩), Lib.hid (fun _ h => (by cases h))⟩⟩
    · skip
      obtain ⟨hI, h0, h1, h2, h3, h4, h5, h6, h9, h10, h11, h12, h13, h16, h17, h19, h20, h7, LL, h14⟩ := (HJI.out _ _ _ _ _ _ _ _ _ _ _ _ _ _ _ _ _ _ _ _ _ _ _ _ _ _ _ _ _ _ _ _ _ _ _ _ _ _ _ _ _ _ _ ).1 hJI
      obtain ⟨hn, hd⟩ := ready_at hr rfl
      simp [Region.binds] at hn hd
      obtain rfl := h0.out (by simp [hd])
      refine wpOp_step rfl (fun K' hK => ?_)
      simp only [putAll, Act.put, List.setIfInBounds_toArray, List.set_cons_zero, List.set_cons_succ]
      go_simp
      exact hK _ _ ⟨_, by simp only [putAll, Act.put, List.setIfInBounds_toArray, List.set_cons_zero, List.set_cons_succ], b0, b1, b2, b3, b4, b5, b6, b7, b8, b9, b10, b11, b12, b13, b14, b15, true, b17, b18, b19, b20, b21, _, _, _, _, _, _, _, _, _, _, _, _, _, _, _, _, _, _, _, _, rfl, rfl, (HJI.out _ _ _ _ _ _ _ _ _ _ _ _ _ _ _ _ _ _ _ _ _ _ _ _ _ _ _ _ _ _ _ _ _ _ _ _ _ _ _ _ _ _ _ ).2 ⟨hI, h0, h1, h2, h3, h4, h5, h6, h9, h10, h11, h12, h13, Lib.hid (fun _ => rfl), h17, h19, h20, h7, LL, h14⟩⟩
    · skip
      obtain ⟨hI, h0, h1, h2, h3, h4, h5, h6, h9, h10, h11, h12, h13, h16, h17, h19, h20, h7, LL, h14⟩ := (HJI.out _ _ _ _ _ _ _ _ _ _ _ _ _ _ _ _ _ _ _ _ _ _ _ _ _ _ _ _ _ _ _ _ _ _ _ _ _ _ _ _ _ _ _ ).1 hJI
      obtain ⟨hn, hd⟩ := ready_at hr rfl
      simp [Region.binds] at hn hd
      obtain rfl := h16.out (by simp [hd])
      refine wpOp_step rfl (fun K' hK => ?_)
      simp only [putAll, Act.put, List.setIfInBounds_toArray, List.set_cons_zero, List.set_cons_succ]
      go_simp
      exact hK _ _ ⟨_, by simp only [putAll, Act.put, List.setIfInBounds_toArray, List.set_cons_zero, List.set_cons_succ], b0, b1, b2, b3, b4, b5, b6, b7, b8, b9, b10, b11, b12, b13, b14, b15, b16, true, b18, b19, b20, b21, _, _, _, _, _, _, _, _, _, _, _, _, _, _, _, _, _, _, _, _, rfl, rfl, (HJI.out _ _ _ _ _ _ _ _ _ _ _ _ _ _ _ _ _ _ _ _ _ _ _ _ _ _ _ _ _ _ _ _ _ _ _ _ _ _ _ _ _ _ _ ).2 ⟨hI, h0, h1, h2, h3, h4, h5, h6, h9, h10, h11, h12, h13, h16, Lib.hid (fun _ => rfl), h19, h20, h7, LL, h14⟩⟩
    · skip
      obtain ⟨hI, h0, h1, h2, h3, h4, h5, h6, h9, h10, h11, h12, h13, h16, h17, h19, h20, h7, LL, h14⟩ := (HJI.out _ _ _ _ _ _ _ _ _ _ _ _ _ _ _ _ _ _ _ _ _ _ _ _ _ _ _ _ _ _ _ _ _ _ _ _ _ _ _ _ _ _ _ ).1 hJI
      obtain ⟨hn, hd⟩ := ready_at hr rfl
      simp [Region.binds] at hn hd
      obtain rfl := h17.out (by simp [hd])
      obtain rfl : b18 = false := hn
      obtain rfl : b8 = true := (by simp [hd])
      obtain rfl : b15 = true := (by simp [hd])
      have hb21 : b21 = false := by cases b21 with | false => rfl | true => exact absurd (LL.out.2.2.2 rfl) (by decide)
      subst hb21
      obtain ⟨a9, n9, c9, rfl⟩ : ∃ a n c, v112 = .slice a n c := by obtain ⟨a, c, e⟩ := row_form (show W.ownsRow B 2 1 v112 _ _ from hI.out.1.g); exact ⟨_, _, _, e⟩
      have hc : W.cell? ⟨hb, 1, none⟩ = some (.slice ag G.length cg) := by have h := hI.out.1.blk.cell 1; exact h
      have hf := hI.out.1.blk.free 1
      refine wpOp_step (o := ⟨none, .store 29 (.tmp 121) (.tmp 112), 0, "outright.go:39", _, none⟩) rfl (fun K' hK => ?_)
      simp only [putAll, Act.put, List.setIfInBounds_toArray, List.set_cons_zero, List.set_cons_succ]
      go_simp
      exact hK _ _ ⟨_, by simp only [putAll, Act.put, List.setIfInBounds_toArray, List.set_cons_zero, List.set_cons_succ], b0, b1, b2, b3, b4, b5, b6, b7, true, b9, b10, b11, b12, b13, b14, true, b16, b17, true, b19, b20, false, _, _, _, _, _, _, _, v111, _, _, _, _, _, _, v118, _, _, _, _, _, rfl, rfl, (HJI.out _ _ _ _ _ _ _ _ _ _ _ _ _ _ _ _ _ _ _ _ _ _ _ _ _ _ _ _ _ _ _ _ _ _ _ _ _ _ _ _ _ _ _ ).2 ⟨(Lib.hid hI.out.st18), h0, h1, h2, h3, h4, h5, h6, h9, h10, h11, h12, h13, h16, h17, h19, h20, Lib.hid (fun _ h => (by cases h)), Lib.hid (⟨LL.out.1, LL.out.2.1, fun _ => rfl, fun h => (by cases h)⟩), Lib.hid (fun _ h => (by cases h))⟩⟩
    · skip
      obtain ⟨hI, h0, h1, h2, h3, h4, h5, h6, h9, h10, h11, h12, h13, h16, h17, h19, h20, h7, LL, h14⟩ := (HJI.out _ _ _ _ _ _ _ _ _ _ _ _ _ _ _ _ _ _ _ _ _ _ _ _ _ _ _ _ _ _ _ _ _ _ _ _ _ _ _ _ _ _ _ ).1 hJI
      obtain ⟨hn, hd⟩ := ready_at hr rfl
      simp [Region.binds] at hn hd
      obtain rfl := h1.out (by simp [hd])
      refine wpOp_step rfl (fun K' hK => ?_)
      simp only [putAll, Act.put, List.setIfInBounds_toArray, List.set_cons_zero, List.set_cons_succ]
      go_simp
      exact hK _ _ ⟨_, by simp only [putAll, Act.put, List.setIfInBounds_toArray, List.set_cons_zero, List.set_cons_succ], b0, b1, b2, b3, b4, b5, b6, b7, b8, b9, b10, b11, b12, b13, b14, b15, b16, b17, b18, true, b20, b21, _, _, _, _, _, _, _, _, _, _, _, _, _, _, _, _, _, _, _, _, rfl, rfl, (HJI.out _ _ _ _ _ _ _ _ _ _ _ _ _ _ _ _ _ _ _ _ _ _ _ _ _ _ _ _ _ _ _ _ _ _ _ _ _ _ _ _ _ _ _ ).2 ⟨hI, h0, h1, h2, h3, h4, h5, h6, h9, h10, h11, h12, h13, h16, h17, Lib.hid (fun _ => rfl), h20, h7, LL, h14⟩⟩
    · skip
      obtain ⟨hI, h0, h1, h2, h3, h4, h5, h6, h9, h10, h11, h12, h13, h16, h17, h19, h20, h7, LL, h14⟩ := (HJI.out _ _ _ _ _ _ _ _ _ _ _ _ _ _ _ _ _ _ _ _ _ _ _ _ _ _ _ _ _ _ _ _ _ _ _ _ _ _ _ _ _ _ _ ).1 hJI
      obtain ⟨hn, hd⟩ := ready_at hr rfl
      simp [Region.binds] at hn hd
      obtain rfl := h19.out (by simp [hd])
      refine wpOp_step rfl (fun K' hK => ?_)
      simp only [putAll, Act.put, List.setIfInBounds_toArray, List.set_cons_zero, List.set_cons_succ]
      go_simp
      exact hK _ _ ⟨_, by simp only [putAll, Act.put, List.setIfInBounds_toArray, List.set_cons_zero, List.set_cons_succ], b0, b1, b2, b3, b4, b5, b6, b7, b8, b9, b10, b11, b12, b13, b14, b15, b16, b17, b18, b19, true, b21, _, _, _, _, _, _, _, _, _, _, _, _, _, _, _, _, _, _, _, _, rfl, rfl, (HJI.out _ _ _ _ _ _ _ _ _ _ _ _ _ _ _ _ _ _ _ _ _ _ _ _ _ _ _ _ _ _ _ _ _ _ _ _ _ _ _ _ _ _ _ ).2 ⟨hI, h0, h1, h2, h3, h4, h5, h6, h9, h10, h11, h12, h13, h16, h17, h19, Lib.hid (fun _ => rfl), h7, LL, h14⟩⟩
    · skip
      obtain ⟨hI, h0, h1, h2, h3, h4, h5, h6, h9, h10, h11, h12, h13, h16, h17, h19, h20, h7, LL, h14⟩ := (HJI.out _ _ _ _ _ _ _ _ _ _ _ _ _ _ _ _ _ _ _ _ _ _ _ _ _ _ _ _ _ _ _ _ _ _ _ _ _ _ _ _ _ _ _ ).1 hJI
      obtain ⟨hn, hd⟩ := ready_at hr rfl
      simp [Region.binds] at hn hd
      obtain rfl := h20.out (by simp [hd])
      obtain rfl : b21 = false := hn
      obtain rfl : b8 = true := (by simp [hd])
      obtain rfl : b15 = true := (by simp [hd])
      obtain rfl : b18 = true := (by simp [hd])
      obtain ⟨a9, n9, c9, rfl⟩ : ∃ a n c, v119 = .slice a n c := by obtain ⟨a, c, e⟩ := row_form (show W.ownsRow B 2 1 v119 _ _ from hI.out.1.s); exact ⟨_, _, _, e⟩
      have hc : W.cell? ⟨hb, 2, none⟩ = some (.slice as0 S.length cs) := by have h := hI.out.1.blk.cell 2; exact h
      have hf := hI.out.1.blk.free 2
      refine wpOp_step (o := ⟨none, .store 29 (.tmp 123) (.tmp 119), 0, "outright.go:39", _, none⟩) rfl (fun K' hK => ?_)
      simp only [putAll, Act.put, List.setIfInBounds_toArray, List.set_cons_zero, List.set_cons_succ]
      go_simp
      exact hK _ _ ⟨_, by simp only [putAll, Act.put, List.setIfInBounds_toArray, List.set_cons_zero, List.set_cons_succ], b0, b1, b2, b3, b4, b5, b6, b7, true, b9, b10, b11, b12, b13, b14, true, b16, b17, true, b19, b20, true, _, _, _, _, _, _, _, v111, _, _, _, _, _, _, v118, _, _, _, _, _, rfl, rfl, (HJI.out _ _ _ _ _ _ _ _ _ _ _ _ _ _ _ _ _ _ _ _ _ _ _ _ _ _ _ _ _ _ _ _ _ _ _ _ _ _ _ _ _ _ _ ).2 ⟨(Lib.hid hI.out.st21), h0, h1, h2, h3, h4, h5, h6, h9, h10, h11, h12, h13, h16, h17, h19, h20, Lib.hid (fun _ h => (by cases h)), Lib.hid (⟨LL.out.1, LL.out.2.1, LL.out.2.2.1, fun _ => rfl⟩), Lib.hid (fun _ h => (by cases h))⟩⟩
  · rintro l us W ⟨b0, b1, b2, b3, b4, b5, b6, b7, b8, b9, b10, b11, b12, b13, b14, b15, b16, b17, b18, b19, b20, b21, v104, v105, v106, v107, v108, v109, v110, v111, v112, v113, v114, v115, v116, v117, v118, v119, v120, v121, v122, v123, rfl, rfl, hJI⟩ hall
    as_aux_lemma =>
    obtain ⟨hI, h0, h1, h2, h3, h4, h5, h6, h9, h10, h11, h12, h13, h16, h17, h19, h20, h7, LL, h14⟩ := (HJI.out _ _ _ _ _ _ _ _ _ _ _ _ _ _ _ _ _ _ _ _ _ _ _ _ _ _ _ _ _ _ _ _ _ _ _ _ _ _ _ _ _ _ _ ).1 hJI
    clear hJI
    obtain rfl : b0 = true := by simpa using hall 0
    obtain rfl : b1 = true := by simpa using hall 1
    obtain rfl : b2 = true := by simpa using hall 2
    obtain rfl : b3 = true := by simpa using hall 3
    obtain rfl : b4 = true := by simpa using hall 4
    obtain rfl : b5 = true := by simpa using hall 5
    obtain rfl : b6 = true := by simpa using hall 6
    obtain rfl : b7 = true := by simpa using hall 7
    obtain rfl : b8 = true := by simpa using hall 8
    obtain rfl : b9 = true := by simpa using hall 9
    obtain rfl : b10 = true := by simpa using hall 10
    obtain rfl : b11 = true := by simpa using hall 11
    obtain rfl : b12 = true := by simpa using hall 12
    obtain rfl : b13 = true := by simpa using hall 13
    obtain rfl : b14 = true := by simpa using hall 14
    obtain rfl : b15 = true := by simpa using hall 15
    obtain rfl : b16 = true := by simpa using hall 16
    obtain rfl : b17 = true := by simpa using hall 17
    obtain rfl : b18 = true := by simpa using hall 18
    obtain rfl : b19 = true := by simpa using hall 19
    obtain rfl : b20 = true := by simpa using hall 20
    obtain rfl : b21 = true := by simpa using hall 21
    obtain rfl := h0.out rfl
    obtain rfl := h1.out rfl
    obtain rfl := h2.out rfl
    obtain rfl := h3.out rfl
    obtain rfl := h4.out rfl
    obtain rfl := h5.out rfl
    obtain rfl := h6.out rfl
    obtain rfl := h9.out rfl
    obtain rfl := h10.out rfl
    obtain rfl := h11.out rfl
    obtain rfl := h12.out rfl
    obtain rfl := h13.out rfl
    obtain rfl := h16.out rfl
    obtain rfl := h17.out rfl
    obtain rfl := h19.out rfl
    obtain rfl := h20.out rfl
    have HLG : Hid (LogB B hb vp v112 v119 P (G ++ [s1.m.x]) (S ++ [s1.m.x]) W) := Lib.hid (LogR.b hI.out.1)
    have hU7 := hI.out.2.1
    have n0g : ¬ (Value.slice ag G.length cg).ownBlock = some sg := blk_row_ne HR1.out.blk HL1.out.g (by decide)
    have n1g : ¬ (Value.slice ag G.length cg).ownBlock = some bb := blk_row_ne HK1.out.2.1.head HL1.out.g (by decide)
    have n2g : ¬ (Value.slice ag G.length cg).ownBlock = some g := blk_row_ne HK1.out.2.1.row HL1.out.g (by decide)
    have n0s : ¬ (Value.slice as0 S.length cs).ownBlock = some sg := blk_row_ne HR1.out.blk HL1.out.s (by decide)
    have n1s : ¬ (Value.slice as0 S.length cs).ownBlock = some bb := blk_row_ne HK1.out.2.1.head HL1.out.s (by decide)
    have n2s : ¬ (Value.slice as0 S.length cs).ownBlock = some g := blk_row_ne HK1.out.2.1.row HL1.out.s (by decide)
    have HR2 := Lib.hid (HR1.out.upd hU7 (by rintro (e | e | e); exact n0g e; exact n0s e; have := HNE.out; omega))
    have HB2 := Lib.hid (HK1.out.2.1.upd hU7 (by rintro (e | e | e); exact n1g e; exact n1s e; have := HNE.out; omega) (by rintro (e | e | e); exact n2g e; exact n2s e; have := HNE.out; omega))
    have HU2 : Hid (Upd (fun j => j = g ∨ j = mb ∨ j = sg ∨ j = hb ∨ (B ≤ j ∧ ∃ arr, Blk w j arr 2)) w W) := Lib.hid ((HK1.out.2.2.wide (fun q _ hq => by omega)).then hU7 (fun q _ hq => by
      rcases hq with e | e | e
      · exact .inr (.inr (.inr (.inr (own_i64 HL0.out.g e))))
      · exact .inr (.inr (.inr (.inr (own_i64 HL0.out.s e))))
      · exact .inr (.inr (.inr (.inl e)))))
    clear hI h7 h14 LL hall hU7 n0g n1g n2g n0s n1s n2s HL1 HK1 HR1 HOLD HQ0
    simp only [putAll, Act.put, List.setIfInBounds_toArray, List.set_cons_zero, List.set_cons_succ]
    have c2 : W.cell? ⟨sg, o + 2, none⟩ = some (.pointer (some ⟨mb, 0, none⟩)) := by have h := HR2.out.cell HI.out HO.out 2 (by omega); exact h
    have fz : W.frozen? ⟨sg, o + 2, none⟩ = false := HR2.out.blk.free _
    have HE : Hid (RunEnd B sg bb g hb i ls v .steal mb l k s1 P G S w (.returned (.tuple #[])) (W.setCell ⟨sg, o + 2, none⟩ (.pointer none))) := Lib.hid (by
      have hU := updCell2 W sg (o + 2) (.pointer none)
      have n := HNE.out
      refine ⟨vp, v112, v119, rfl, ?_, ?_, HB2.out.upd hU (by omega) (by omega), fun e => (by rw [HD.out] at e; cases e), HU2.out.then hU (fun q _ hq => by omega)⟩
      · have e1 : evP .steal s1 P = P := by simp [evP]
        have e2 : evG .steal s1 G = G ++ [s1.m.x] := by simp [evG, HD.out, HGT.out]
        have e3 : evS .steal s1 S = S ++ [s1.m.x] := by simp [evS, HD.out, HGT.out]
        rw [e1, e2, e3]
        exact HLG.out.mach hU (by omega) (fun q hq hB => by omega)
      · obtain ⟨h1, h2⟩ := List.getElem?_eq_some_iff.1 HI.out
        have h3 := HR2.out.put (i := i) (j := 2) h1 (by omega) (.pointer none)
        rw [h2] at h3
        have e5 : (rcell (some ⟨.steal, mb, s.m, s.lo⟩) v).set 2 (.pointer none) = rcell (OwnNew .steal mb s1) v := by simp [OwnNew, HD.out, rcell, ptr3]
        rw [e5] at h3
        rw [HO.out]
        exact h3)
    clear HLG HR2 HB2 HU2 HL0
    go_wp2_with fail
    go_end0
    exact HE.out
end Go.Proofs.Ytdgkemadhooogaa
