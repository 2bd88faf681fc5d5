/- acequialaw11.runner.step (printed by gen_refstep11.py). -/
import Derived.Test.YtdgkemadhooogaaLog11
import Derived.Test.YtdgkemadhooogaaDeqDuo
import Derived.Deep.RegionHeld3
import Derived.Deep.CutRange
import Derived.StillTailTactics
import Derived.Deep.MidRow
namespace Go.Proofs.Ytdgkemadhooogaa
set_option linter.unusedVariables false
set_option linter.unusedSimpArgs false
open Go.RowKit
attribute [local go_sem] cell?_ext

/-- What a runner's step leaves: kd, mb: the machine; s: where it is now. -/
def RunEnd (B sg bb g hb i : Nat) (ls : List (List Value)) (v : Int) (kd : Kd) (mb : Nat) (l : Lay) (k : Int) (s : KS) (P G S : List Int) (w : World) (e : Ending) (w' : World) : Prop :=
  ∃ vp vg vs, e = .returned (.tuple #[]) ∧ LogB B hb vp vg vs (evP kd s P) (evG kd s G) (evS kd s S) w' ∧ Rows w' sg 4 40 (ls.set i (rcell (OwnNew kd mb s) v)) ∧ Bnk w' bb g s.xs ∧ (s.m.done = false → PB w' mb kd.T l k s.m (kd.ex s.lo)) ∧
    Upd (fun j => j = g ∨ j = mb ∨ j = sg ∨ j = hb ∨ (B ≤ j ∧ ∃ arr, Blk w j arr 2)) w w'
theorem own_i64 {W : World} {B n j : Nat} {v : Value} {ys : List Value} (h : W.ownsRow B 2 1 v n ys) (hj : v.ownBlock = some j) : B ≤ j ∧ ∃ arr, Blk W j arr 2 := by
  rcases h.2 with ⟨rfl, _⟩ | ⟨g, cap, cur, rfl, h1, h2, _⟩
  · cases hj
  · cases hj
    exact ⟨h1, cur, h2⟩
theorem took_some {m : DM} (hd : m.done = true) (hg : m.got = true) : took m = (m.x, true) := by unfold took; simp [hd, hg]
theorem took_none {m : DM} (hd : m.done = true) (hg : m.got = false) : took m = (0, false) := by unfold took; simp [hd, hg]
theorem updCell2 (w : World) (b o : Nat) (u : Value) : Upd (fun k => k = b) w (w.setCell ⟨b, o, none⟩ u) := Upd.setCell (S := fun k => k = b) (p := ⟨b, o, none⟩) (Upd.refl _ _) (.inl rfl) u
set_option maxRecDepth 100000 in
set_option maxHeartbeats 8000000 in
theorem rstep_push_f {w : World} {B mb bb g sg hb i o : Nat} {vp vg vs : Value} {P G S : List Int} {l : Lay} {k v : Int} {tp r : Nat} {ls : List (List Value)} {lo0 : Bool} (s : KS) (hG : Geo l k tp r) (hR : Rows w sg 4 40 ls) (hi : ls[i]? = some (rcell (some ⟨(.push v), mb, s.m, s.lo⟩) v)) (ho : o = i * 4) (hP : PB w mb ((.push v) : Kd).T l k s.m (((.push v) : Kd).ex s.lo)) (hb1 : Bnk w bb g s.xs) (hL : LogB B hb vp vg vs P G S w) (hI : KInv tp (.push v) s)
    (ne : ¬ mb = g ∧ ¬ mb = bb ∧ ¬ sg = g ∧ ¬ sg = bb ∧ ¬ sg = mb ∧ ¬ hb = g ∧ ¬ hb = mb ∧ ¬ hb = sg ∧ ¬ hb = bb ∧ sg < B ∧ g < B) (hd : (kstep tp r (.push v) s).m.done = false) :
    Calls Try.prog 16 #[.pointer (some ⟨sg, o, none⟩), .pointer (some ⟨bb, 0, none⟩), .pointer (some ⟨hb, 0, none⟩)] w (RunEnd B sg bb g hb i ls v (.push v) mb l k (kstep tp r (.push v) s) P G S w) := by
  have HS := Lib.hid (kstep_any (.push v) s hG hP hb1 ⟨ne.1, ne.2.1⟩ hI)
  have hTm : ((.push v) : Kd).T ≠ 2 := by show (48 : TypeId) ≠ 2; decide
  obtain ⟨s1, hs1⟩ : ∃ s', kstep tp r (.push v) s = s' := ⟨_, rfl⟩
  rw [hs1] at HS hd ⊢
  rw [hd] at HS
  have c0 : w.cell? ⟨sg, o, none⟩ = some (.pointer (some ⟨mb, 0, none⟩)) := by have h := hR.cell hi ho 0 (by omega); exact h
  have c1 : w.cell? ⟨sg, o + 1, none⟩ = some (.pointer none) := by have h := hR.cell hi ho 1 (by omega); exact h
  have c2 : w.cell? ⟨sg, o + 2, none⟩ = some (.pointer none) := by have h := hR.cell hi ho 2 (by omega); exact h
  have HPM := Lib.hid hP
  have HR := Lib.hid hR
  have HI := Lib.hid hi
  have HO := Lib.hid ho
  have HL := Lib.hid hL
  have HL0 := Lib.hid hL
  have HNE := Lib.hid ne
  have HD := Lib.hid hd
  skip
  skip
  skip
  clear hR hi ho hP hb1 hI hG hs1 hd ne hL
  go_enter Try.func16, Try.ntmps16
  go_wp2_with fail
  refine HS.out.mono ?_
  rintro e w1 ⟨rfl, hK⟩
  have HR1 := Lib.hid (HR.out.upd hK.2.2 (by have := HNE.out; omega))
  have HL1 := Lib.hid (HL.out.mach hK.2.2 (by have := HNE.out; omega) (fun q hq hB => by
    rcases hq with rfl | rfl
    · have := HNE.out; omega
    · exact ⟨_, _, HPM.out, hTm⟩))
  have HK1 := Lib.hid hK
  have c0 : w1.cell? ⟨sg, o, none⟩ = some (.pointer (some ⟨mb, 0, none⟩)) := by have h := HR1.out.cell HI.out HO.out 0 (by omega); exact h
  have c1 : w1.cell? ⟨sg, o + 1, none⟩ = some (.pointer none) := by have h := HR1.out.cell HI.out HO.out 1 (by omega); exact h
  have c2 : w1.cell? ⟨sg, o + 2, none⟩ = some (.pointer none) := by have h := HR1.out.cell HI.out HO.out 2 (by omega); exact h
  clear hK HS HR HL HPM
  have HE : Hid (RunEnd B sg bb g hb i ls v (.push v) mb l k s1 P G S w (.returned (.tuple #[])) w1) := Lib.hid (by
    have e1 : evP (.push v) s1 P = P := by simp [evP, HD.out]
    have e2 : evG (.push v) s1 G = G := by simp [evG, HD.out]
    have e3 : evS (.push v) s1 S = S := by simp [evS, HD.out]
    refine ⟨vp, vg, vs, rfl, by rw [e1, e2, e3]; exact HL1.out, ?_, HK1.out.2.1, fun _ => HK1.out.1, HK1.out.2.2.wide fun q _ hq => by omega⟩
    have e4 : ls.set i (rcell (OwnNew (.push v) mb s1) v) = ls := by
      have e5 : rcell (OwnNew (.push v) mb s1) v = rcell (some ⟨(.push v), mb, s.m, s.lo⟩) v := by simp [OwnNew, HD.out, rcell, ptr3]
      rw [e5]
      obtain ⟨h1, h2⟩ := List.getElem?_eq_some_iff.1 HI.out
      rw [← h2, List.set_getElem_self]
    rw [e4]
    exact HR1.out)
  clear HR1 HL1 HK1 HI
  go_wp2_with fail
  go_end0
  exact HE.out

set_option maxRecDepth 100000 in
set_option maxHeartbeats 8000000 in
theorem rstep_push_tf {w : World} {B mb bb g sg hb i o : Nat} {vp vg vs : Value} {P G S : List Int} {l : Lay} {k v : Int} {tp r : Nat} {ls : List (List Value)} {lo0 : Bool} (s : KS) (hG : Geo l k tp r) (hR : Rows w sg 4 40 ls) (hi : ls[i]? = some (rcell (some ⟨(.push v), mb, s.m, s.lo⟩) v)) (ho : o = i * 4) (hP : PB w mb ((.push v) : Kd).T l k s.m (((.push v) : Kd).ex s.lo)) (hb1 : Bnk w bb g s.xs) (hL : LogB B hb vp vg vs P G S w) (hI : KInv tp (.push v) s)
    (ne : ¬ mb = g ∧ ¬ mb = bb ∧ ¬ sg = g ∧ ¬ sg = bb ∧ ¬ sg = mb ∧ ¬ hb = g ∧ ¬ hb = mb ∧ ¬ hb = sg ∧ ¬ hb = bb ∧ sg < B ∧ g < B) (hd : (kstep tp r (.push v) s).m.done = true) (hg : (kstep tp r (.push v) s).m.got = false) :
    Calls Try.prog 16 #[.pointer (some ⟨sg, o, none⟩), .pointer (some ⟨bb, 0, none⟩), .pointer (some ⟨hb, 0, none⟩)] w (RunEnd B sg bb g hb i ls v (.push v) mb l k (kstep tp r (.push v) s) P G S w) := by
  have HS := Lib.hid (kstep_any (.push v) s hG hP hb1 ⟨ne.1, ne.2.1⟩ hI)
  have hTm : ((.push v) : Kd).T ≠ 2 := by show (48 : TypeId) ≠ 2; decide
  obtain ⟨s1, hs1⟩ : ∃ s', kstep tp r (.push v) s = s' := ⟨_, rfl⟩
  rw [hs1] at HS hd hg ⊢
  rw [hd] at HS
  have c0 : w.cell? ⟨sg, o, none⟩ = some (.pointer (some ⟨mb, 0, none⟩)) := by have h := hR.cell hi ho 0 (by omega); exact h
  have c1 : w.cell? ⟨sg, o + 1, none⟩ = some (.pointer none) := by have h := hR.cell hi ho 1 (by omega); exact h
  have c2 : w.cell? ⟨sg, o + 2, none⟩ = some (.pointer none) := by have h := hR.cell hi ho 2 (by omega); exact h
  have HPM := Lib.hid hP
  have HR := Lib.hid hR
  have HI := Lib.hid hi
  have HO := Lib.hid ho
  have HL := Lib.hid hL
  have HL0 := Lib.hid hL
  have HNE := Lib.hid ne
  have HD := Lib.hid hd
  have HGT := Lib.hid hg
  skip
  skip
  clear hR hi ho hP hb1 hI hG hs1 hd ne hL hg
  go_enter Try.func16, Try.ntmps16
  go_wp2_with fail
  refine HS.out.mono ?_
  rintro e w1 ⟨rfl, hK⟩
  have HR1 := Lib.hid (HR.out.upd hK.2.2 (by have := HNE.out; omega))
  have HL1 := Lib.hid (HL.out.mach hK.2.2 (by have := HNE.out; omega) (fun q hq hB => by
    rcases hq with rfl | rfl
    · have := HNE.out; omega
    · exact ⟨_, _, HPM.out, hTm⟩))
  have HK1 := Lib.hid hK
  have c0 : w1.cell? ⟨sg, o, none⟩ = some (.pointer (some ⟨mb, 0, none⟩)) := by have h := HR1.out.cell HI.out HO.out 0 (by omega); exact h
  have c1 : w1.cell? ⟨sg, o + 1, none⟩ = some (.pointer none) := by have h := HR1.out.cell HI.out HO.out 1 (by omega); exact h
  have c2 : w1.cell? ⟨sg, o + 2, none⟩ = some (.pointer none) := by have h := HR1.out.cell HI.out HO.out 2 (by omega); exact h
  clear hK HS HR HL HPM
  have fz : w1.frozen? ⟨sg, o, none⟩ = false := HR1.out.blk.free _
  have HE : Hid (RunEnd B sg bb g hb i ls v (.push v) mb l k s1 P G S w (.returned (.tuple #[])) (w1.setCell ⟨sg, o, none⟩ (.pointer none))) := Lib.hid (by
    have hU := updCell2 w1 sg (o) (.pointer none)
    have n := HNE.out
    refine ⟨vp, vg, vs, rfl, ?_, ?_, HK1.out.2.1.upd hU (by omega) (by omega), fun e => (by rw [HD.out] at e; cases e), (HK1.out.2.2.wide (fun q _ hq => by omega)).then hU (fun q _ hq => by omega)⟩
    · have e1 : evP (.push v) s1 P = P := by simp [evP, HD.out, HGT.out]
      have e2 : evG (.push v) s1 G = G := by simp [evG, HD.out, HGT.out]
      have e3 : evS (.push v) s1 S = S := by simp [evS, HD.out, HGT.out]
      rw [e1, e2, e3]
      exact HL1.out.mach hU (by omega) (fun q hq hB => by omega)
    · obtain ⟨h1, h2⟩ := List.getElem?_eq_some_iff.1 HI.out
      have h3 := HR1.out.put (i := i) (j := 0) h1 (by omega) (.pointer none)
      rw [h2] at h3
      have e5 : (rcell (some ⟨(.push v), mb, s.m, s.lo⟩) v).set 0 (.pointer none) = rcell (OwnNew (.push v) mb s1) v := by simp [OwnNew, HD.out, rcell, ptr3]
      rw [e5] at h3
      rw [HO.out]
      exact h3)
  go_wp2_with fail
  refine (push_ok2 HK1.out.1).mono ?_
  rintro e w2 ⟨rfl, rfl⟩
  rw [HD.out, HGT.out]
  clear HL1 HK1 HR1 HI HD HGT
  go_wp2_with fail
  go_end0
  exact HE.out

set_option maxRecDepth 100000 in
set_option maxHeartbeats 8000000 in
theorem rstep_pop_f {w : World} {B mb bb g sg hb i o : Nat} {vp vg vs : Value} {P G S : List Int} {l : Lay} {k v : Int} {tp r : Nat} {ls : List (List Value)} {lo0 : Bool} (s : KS) (hG : Geo l k tp r) (hR : Rows w sg 4 40 ls) (hi : ls[i]? = some (rcell (some ⟨.pop, mb, s.m, s.lo⟩) v)) (ho : o = i * 4) (hP : PB w mb (.pop : Kd).T l k s.m ((.pop : Kd).ex s.lo)) (hb1 : Bnk w bb g s.xs) (hL : LogB B hb vp vg vs P G S w) (hI : KInv tp .pop s)
    (ne : ¬ mb = g ∧ ¬ mb = bb ∧ ¬ sg = g ∧ ¬ sg = bb ∧ ¬ sg = mb ∧ ¬ hb = g ∧ ¬ hb = mb ∧ ¬ hb = sg ∧ ¬ hb = bb ∧ sg < B ∧ g < B) (hd : (kstep tp r .pop s).m.done = false) :
    Calls Try.prog 16 #[.pointer (some ⟨sg, o, none⟩), .pointer (some ⟨bb, 0, none⟩), .pointer (some ⟨hb, 0, none⟩)] w (RunEnd B sg bb g hb i ls v .pop mb l k (kstep tp r .pop s) P G S w) := by
  have HS := Lib.hid (kstep_any .pop s hG hP hb1 ⟨ne.1, ne.2.1⟩ hI)
  have hTm : (.pop : Kd).T ≠ 2 := by show (51 : TypeId) ≠ 2; decide
  obtain ⟨s1, hs1⟩ : ∃ s', kstep tp r .pop s = s' := ⟨_, rfl⟩
  rw [hs1] at HS hd ⊢
  rw [hd] at HS
  have c0 : w.cell? ⟨sg, o, none⟩ = some (.pointer none) := by have h := hR.cell hi ho 0 (by omega); exact h
  have c1 : w.cell? ⟨sg, o + 1, none⟩ = some (.pointer (some ⟨mb, 0, none⟩)) := by have h := hR.cell hi ho 1 (by omega); exact h
  have c2 : w.cell? ⟨sg, o + 2, none⟩ = some (.pointer none) := by have h := hR.cell hi ho 2 (by omega); exact h
  have HPM := Lib.hid hP
  have HR := Lib.hid hR
  have HI := Lib.hid hi
  have HO := Lib.hid ho
  have HL := Lib.hid hL
  have HL0 := Lib.hid hL
  have HNE := Lib.hid ne
  have HD := Lib.hid hd
  skip
  skip
  skip
  clear hR hi ho hP hb1 hI hG hs1 hd ne hL
  go_enter Try.func16, Try.ntmps16
  go_wp2_with fail
  refine HS.out.mono ?_
  rintro e w1 ⟨rfl, hK⟩
  have HR1 := Lib.hid (HR.out.upd hK.2.2 (by have := HNE.out; omega))
  have HL1 := Lib.hid (HL.out.mach hK.2.2 (by have := HNE.out; omega) (fun q hq hB => by
    rcases hq with rfl | rfl
    · have := HNE.out; omega
    · exact ⟨_, _, HPM.out, hTm⟩))
  have HK1 := Lib.hid hK
  have c0 : w1.cell? ⟨sg, o, none⟩ = some (.pointer none) := by have h := HR1.out.cell HI.out HO.out 0 (by omega); exact h
  have c1 : w1.cell? ⟨sg, o + 1, none⟩ = some (.pointer (some ⟨mb, 0, none⟩)) := by have h := HR1.out.cell HI.out HO.out 1 (by omega); exact h
  have c2 : w1.cell? ⟨sg, o + 2, none⟩ = some (.pointer none) := by have h := HR1.out.cell HI.out HO.out 2 (by omega); exact h
  clear hK HS HR HL HPM
  have HE : Hid (RunEnd B sg bb g hb i ls v .pop mb l k s1 P G S w (.returned (.tuple #[])) w1) := Lib.hid (by
    have e1 : evP .pop s1 P = P := by simp [evP, HD.out]
    have e2 : evG .pop s1 G = G := by simp [evG, HD.out]
    have e3 : evS .pop s1 S = S := by simp [evS, HD.out]
    refine ⟨vp, vg, vs, rfl, by rw [e1, e2, e3]; exact HL1.out, ?_, HK1.out.2.1, fun _ => HK1.out.1, HK1.out.2.2.wide fun q _ hq => by omega⟩
    have e4 : ls.set i (rcell (OwnNew .pop mb s1) v) = ls := by
      have e5 : rcell (OwnNew .pop mb s1) v = rcell (some ⟨.pop, mb, s.m, s.lo⟩) v := by simp [OwnNew, HD.out, rcell, ptr3]
      rw [e5]
      obtain ⟨h1, h2⟩ := List.getElem?_eq_some_iff.1 HI.out
      rw [← h2, List.set_getElem_self]
    rw [e4]
    exact HR1.out)
  clear HR1 HL1 HK1 HI
  go_wp2_with fail
  go_end0
  exact HE.out

set_option maxRecDepth 100000 in
set_option maxHeartbeats 8000000 in
theorem rstep_pop_tf {w : World} {B mb bb g sg hb i o : Nat} {vp vg vs : Value} {P G S : List Int} {l : Lay} {k v : Int} {tp r : Nat} {ls : List (List Value)} {lo0 : Bool} (s : KS) (hG : Geo l k tp r) (hR : Rows w sg 4 40 ls) (hi : ls[i]? = some (rcell (some ⟨.pop, mb, s.m, s.lo⟩) v)) (ho : o = i * 4) (hP : PB w mb (.pop : Kd).T l k s.m ((.pop : Kd).ex s.lo)) (hb1 : Bnk w bb g s.xs) (hL : LogB B hb vp vg vs P G S w) (hI : KInv tp .pop s)
    (ne : ¬ mb = g ∧ ¬ mb = bb ∧ ¬ sg = g ∧ ¬ sg = bb ∧ ¬ sg = mb ∧ ¬ hb = g ∧ ¬ hb = mb ∧ ¬ hb = sg ∧ ¬ hb = bb ∧ sg < B ∧ g < B) (hd : (kstep tp r .pop s).m.done = true) (hg : (kstep tp r .pop s).m.got = false) :
    Calls Try.prog 16 #[.pointer (some ⟨sg, o, none⟩), .pointer (some ⟨bb, 0, none⟩), .pointer (some ⟨hb, 0, none⟩)] w (RunEnd B sg bb g hb i ls v .pop mb l k (kstep tp r .pop s) P G S w) := by
  have HS := Lib.hid (kstep_any .pop s hG hP hb1 ⟨ne.1, ne.2.1⟩ hI)
  have hTm : (.pop : Kd).T ≠ 2 := by show (51 : TypeId) ≠ 2; decide
  obtain ⟨s1, hs1⟩ : ∃ s', kstep tp r .pop s = s' := ⟨_, rfl⟩
  rw [hs1] at HS hd hg ⊢
  rw [hd] at HS
  have c0 : w.cell? ⟨sg, o, none⟩ = some (.pointer none) := by have h := hR.cell hi ho 0 (by omega); exact h
  have c1 : w.cell? ⟨sg, o + 1, none⟩ = some (.pointer (some ⟨mb, 0, none⟩)) := by have h := hR.cell hi ho 1 (by omega); exact h
  have c2 : w.cell? ⟨sg, o + 2, none⟩ = some (.pointer none) := by have h := hR.cell hi ho 2 (by omega); exact h
  have HPM := Lib.hid hP
  have HR := Lib.hid hR
  have HI := Lib.hid hi
  have HO := Lib.hid ho
  have HL := Lib.hid hL
  have HL0 := Lib.hid hL
  have HNE := Lib.hid ne
  have HD := Lib.hid hd
  have HGT := Lib.hid hg
  skip
  skip
  clear hR hi ho hP hb1 hI hG hs1 hd ne hL hg
  go_enter Try.func16, Try.ntmps16
  go_wp2_with fail
  refine HS.out.mono ?_
  rintro e w1 ⟨rfl, hK⟩
  have HR1 := Lib.hid (HR.out.upd hK.2.2 (by have := HNE.out; omega))
  have HL1 := Lib.hid (HL.out.mach hK.2.2 (by have := HNE.out; omega) (fun q hq hB => by
    rcases hq with rfl | rfl
    · have := HNE.out; omega
    · exact ⟨_, _, HPM.out, hTm⟩))
  have HK1 := Lib.hid hK
  have c0 : w1.cell? ⟨sg, o, none⟩ = some (.pointer none) := by have h := HR1.out.cell HI.out HO.out 0 (by omega); exact h
  have c1 : w1.cell? ⟨sg, o + 1, none⟩ = some (.pointer (some ⟨mb, 0, none⟩)) := by have h := HR1.out.cell HI.out HO.out 1 (by omega); exact h
  have c2 : w1.cell? ⟨sg, o + 2, none⟩ = some (.pointer none) := by have h := HR1.out.cell HI.out HO.out 2 (by omega); exact h
  clear hK HS HR HL HPM
  have fz : w1.frozen? ⟨sg, o + 1, none⟩ = false := HR1.out.blk.free _
  have HE : Hid (RunEnd B sg bb g hb i ls v .pop mb l k s1 P G S w (.returned (.tuple #[])) (w1.setCell ⟨sg, o + 1, none⟩ (.pointer none))) := Lib.hid (by
    have hU := updCell2 w1 sg (o + 1) (.pointer none)
    have n := HNE.out
    refine ⟨vp, vg, vs, rfl, ?_, ?_, HK1.out.2.1.upd hU (by omega) (by omega), fun e => (by rw [HD.out] at e; cases e), (HK1.out.2.2.wide (fun q _ hq => by omega)).then hU (fun q _ hq => by omega)⟩
    · have e1 : evP .pop s1 P = P := by simp [evP, HD.out, HGT.out]
      have e2 : evG .pop s1 G = G := by simp [evG, HD.out, HGT.out]
      have e3 : evS .pop s1 S = S := by simp [evS, HD.out, HGT.out]
      rw [e1, e2, e3]
      exact HL1.out.mach hU (by omega) (fun q hq hB => by omega)
    · obtain ⟨h1, h2⟩ := List.getElem?_eq_some_iff.1 HI.out
      have h3 := HR1.out.put (i := i) (j := 1) h1 (by omega) (.pointer none)
      rw [h2] at h3
      have e5 : (rcell (some ⟨.pop, mb, s.m, s.lo⟩) v).set 1 (.pointer none) = rcell (OwnNew .pop mb s1) v := by simp [OwnNew, HD.out, rcell, ptr3]
      rw [e5] at h3
      rw [HO.out]
      exact h3)
  go_wp2_with fail
  refine (pop_got HK1.out.1).mono ?_
  rintro e w2 ⟨rfl, rfl⟩
  rw [took_none HD.out HGT.out]
  clear HL1 HK1 HR1 HI HD HGT
  go_wp2_with fail
  go_end0
  exact HE.out

set_option maxRecDepth 100000 in
set_option maxHeartbeats 8000000 in
theorem rstep_steal_f {w : World} {B mb bb g sg hb i o : Nat} {vp vg vs : Value} {P G S : List Int} {l : Lay} {k v : Int} {tp r : Nat} {ls : List (List Value)} {lo0 : Bool} (s : KS) (hG : Geo l k tp r) (hR : Rows w sg 4 40 ls) (hi : ls[i]? = some (rcell (some ⟨.steal, mb, s.m, s.lo⟩) v)) (ho : o = i * 4) (hP : PB w mb (.steal : Kd).T l k s.m ((.steal : Kd).ex s.lo)) (hb1 : Bnk w bb g s.xs) (hL : LogB B hb vp vg vs P G S w) (hI : KInv tp .steal s)
    (ne : ¬ mb = g ∧ ¬ mb = bb ∧ ¬ sg = g ∧ ¬ sg = bb ∧ ¬ sg = mb ∧ ¬ hb = g ∧ ¬ hb = mb ∧ ¬ hb = sg ∧ ¬ hb = bb ∧ sg < B ∧ g < B) (hd : (kstep tp r .steal s).m.done = false) :
    Calls Try.prog 16 #[.pointer (some ⟨sg, o, none⟩), .pointer (some ⟨bb, 0, none⟩), .pointer (some ⟨hb, 0, none⟩)] w (RunEnd B sg bb g hb i ls v .steal mb l k (kstep tp r .steal s) P G S w) := by
  have HS := Lib.hid (kstep_any .steal s hG hP hb1 ⟨ne.1, ne.2.1⟩ hI)
  have hTm : (.steal : Kd).T ≠ 2 := by show (45 : TypeId) ≠ 2; decide
  obtain ⟨s1, hs1⟩ : ∃ s', kstep tp r .steal s = s' := ⟨_, rfl⟩
  rw [hs1] at HS hd ⊢
  rw [hd] at HS
  have c0 : w.cell? ⟨sg, o, none⟩ = some (.pointer none) := by have h := hR.cell hi ho 0 (by omega); exact h
  have c1 : w.cell? ⟨sg, o + 1, none⟩ = some (.pointer none) := by have h := hR.cell hi ho 1 (by omega); exact h
  have c2 : w.cell? ⟨sg, o + 2, none⟩ = some (.pointer (some ⟨mb, 0, none⟩)) := by have h := hR.cell hi ho 2 (by omega); exact h
  have HPM := Lib.hid hP
  have HR := Lib.hid hR
  have HI := Lib.hid hi
  have HO := Lib.hid ho
  have HL := Lib.hid hL
  have HL0 := Lib.hid hL
  have HNE := Lib.hid ne
  have HD := Lib.hid hd
  skip
  skip
  skip
  clear hR hi ho hP hb1 hI hG hs1 hd ne hL
  go_enter Try.func16, Try.ntmps16
  go_wp2_with fail
  refine HS.out.mono ?_
  rintro e w1 ⟨rfl, hK⟩
  have HR1 := Lib.hid (HR.out.upd hK.2.2 (by have := HNE.out; omega))
  have HL1 := Lib.hid (HL.out.mach hK.2.2 (by have := HNE.out; omega) (fun q hq hB => by
    rcases hq with rfl | rfl
    · have := HNE.out; omega
    · exact ⟨_, _, HPM.out, hTm⟩))
  have HK1 := Lib.hid hK
  have c0 : w1.cell? ⟨sg, o, none⟩ = some (.pointer none) := by have h := HR1.out.cell HI.out HO.out 0 (by omega); exact h
  have c1 : w1.cell? ⟨sg, o + 1, none⟩ = some (.pointer none) := by have h := HR1.out.cell HI.out HO.out 1 (by omega); exact h
  have c2 : w1.cell? ⟨sg, o + 2, none⟩ = some (.pointer (some ⟨mb, 0, none⟩)) := by have h := HR1.out.cell HI.out HO.out 2 (by omega); exact h
  clear hK HS HR HL HPM
  have HE : Hid (RunEnd B sg bb g hb i ls v .steal mb l k s1 P G S w (.returned (.tuple #[])) w1) := Lib.hid (by
    have e1 : evP .steal s1 P = P := by simp [evP, HD.out]
    have e2 : evG .steal s1 G = G := by simp [evG, HD.out]
    have e3 : evS .steal s1 S = S := by simp [evS, HD.out]
    refine ⟨vp, vg, vs, rfl, by rw [e1, e2, e3]; exact HL1.out, ?_, HK1.out.2.1, fun _ => HK1.out.1, HK1.out.2.2.wide fun q _ hq => by omega⟩
    have e4 : ls.set i (rcell (OwnNew .steal mb s1) v) = ls := by
      have e5 : rcell (OwnNew .steal mb s1) v = rcell (some ⟨.steal, mb, s.m, s.lo⟩) v := by simp [OwnNew, HD.out, rcell, ptr3]
      rw [e5]
      obtain ⟨h1, h2⟩ := List.getElem?_eq_some_iff.1 HI.out
      rw [← h2, List.set_getElem_self]
    rw [e4]
    exact HR1.out)
  clear HR1 HL1 HK1 HI
  go_wp2_with fail
  go_end0
  exact HE.out

set_option maxRecDepth 100000 in
set_option maxHeartbeats 8000000 in
theorem rstep_steal_tf {w : World} {B mb bb g sg hb i o : Nat} {vp vg vs : Value} {P G S : List Int} {l : Lay} {k v : Int} {tp r : Nat} {ls : List (List Value)} {lo0 : Bool} (s : KS) (hG : Geo l k tp r) (hR : Rows w sg 4 40 ls) (hi : ls[i]? = some (rcell (some ⟨.steal, mb, s.m, s.lo⟩) v)) (ho : o = i * 4) (hP : PB w mb (.steal : Kd).T l k s.m ((.steal : Kd).ex s.lo)) (hb1 : Bnk w bb g s.xs) (hL : LogB B hb vp vg vs P G S w) (hI : KInv tp .steal s)
    (ne : ¬ mb = g ∧ ¬ mb = bb ∧ ¬ sg = g ∧ ¬ sg = bb ∧ ¬ sg = mb ∧ ¬ hb = g ∧ ¬ hb = mb ∧ ¬ hb = sg ∧ ¬ hb = bb ∧ sg < B ∧ g < B) (hd : (kstep tp r .steal s).m.done = true) (hg : (kstep tp r .steal s).m.got = false) :
    Calls Try.prog 16 #[.pointer (some ⟨sg, o, none⟩), .pointer (some ⟨bb, 0, none⟩), .pointer (some ⟨hb, 0, none⟩)] w (RunEnd B sg bb g hb i ls v .steal mb l k (kstep tp r .steal s) P G S w) := by
  have HS := Lib.hid (kstep_any .steal s hG hP hb1 ⟨ne.1, ne.2.1⟩ hI)
  have hTm : (.steal : Kd).T ≠ 2 := by show (45 : TypeId) ≠ 2; decide
  obtain ⟨s1, hs1⟩ : ∃ s', kstep tp r .steal s = s' := ⟨_, rfl⟩
  rw [hs1] at HS hd hg ⊢
  rw [hd] at HS
  have c0 : w.cell? ⟨sg, o, none⟩ = some (.pointer none) := by have h := hR.cell hi ho 0 (by omega); exact h
  have c1 : w.cell? ⟨sg, o + 1, none⟩ = some (.pointer none) := by have h := hR.cell hi ho 1 (by omega); exact h
  have c2 : w.cell? ⟨sg, o + 2, none⟩ = some (.pointer (some ⟨mb, 0, none⟩)) := by have h := hR.cell hi ho 2 (by omega); exact h
  have HPM := Lib.hid hP
  have HR := Lib.hid hR
  have HI := Lib.hid hi
  have HO := Lib.hid ho
  have HL := Lib.hid hL
  have HL0 := Lib.hid hL
  have HNE := Lib.hid ne
  have HD := Lib.hid hd
  have HGT := Lib.hid hg
  skip
  skip
  clear hR hi ho hP hb1 hI hG hs1 hd ne hL hg
  go_enter Try.func16, Try.ntmps16
  go_wp2_with fail
  refine HS.out.mono ?_
  rintro e w1 ⟨rfl, hK⟩
  have HR1 := Lib.hid (HR.out.upd hK.2.2 (by have := HNE.out; omega))
  have HL1 := Lib.hid (HL.out.mach hK.2.2 (by have := HNE.out; omega) (fun q hq hB => by
    rcases hq with rfl | rfl
    · have := HNE.out; omega
    · exact ⟨_, _, HPM.out, hTm⟩))
  have HK1 := Lib.hid hK
  have c0 : w1.cell? ⟨sg, o, none⟩ = some (.pointer none) := by have h := HR1.out.cell HI.out HO.out 0 (by omega); exact h
  have c1 : w1.cell? ⟨sg, o + 1, none⟩ = some (.pointer none) := by have h := HR1.out.cell HI.out HO.out 1 (by omega); exact h
  have c2 : w1.cell? ⟨sg, o + 2, none⟩ = some (.pointer (some ⟨mb, 0, none⟩)) := by have h := HR1.out.cell HI.out HO.out 2 (by omega); exact h
  clear hK HS HR HL HPM
  have fz : w1.frozen? ⟨sg, o + 2, none⟩ = false := HR1.out.blk.free _
  have HE : Hid (RunEnd B sg bb g hb i ls v .steal mb l k s1 P G S w (.returned (.tuple #[])) (w1.setCell ⟨sg, o + 2, none⟩ (.pointer none))) := Lib.hid (by
    have hU := updCell2 w1 sg (o + 2) (.pointer none)
    have n := HNE.out
    refine ⟨vp, vg, vs, rfl, ?_, ?_, HK1.out.2.1.upd hU (by omega) (by omega), fun e => (by rw [HD.out] at e; cases e), (HK1.out.2.2.wide (fun q _ hq => by omega)).then hU (fun q _ hq => by omega)⟩
    · have e1 : evP .steal s1 P = P := by simp [evP, HD.out, HGT.out]
      have e2 : evG .steal s1 G = G := by simp [evG, HD.out, HGT.out]
      have e3 : evS .steal s1 S = S := by simp [evS, HD.out, HGT.out]
      rw [e1, e2, e3]
      exact HL1.out.mach hU (by omega) (fun q hq hB => by omega)
    · obtain ⟨h1, h2⟩ := List.getElem?_eq_some_iff.1 HI.out
      have h3 := HR1.out.put (i := i) (j := 2) h1 (by omega) (.pointer none)
      rw [h2] at h3
      have e5 : (rcell (some ⟨.steal, mb, s.m, s.lo⟩) v).set 2 (.pointer none) = rcell (OwnNew .steal mb s1) v := by simp [OwnNew, HD.out, rcell, ptr3]
      rw [e5] at h3
      rw [HO.out]
      exact h3)
  go_wp2_with fail
  refine (steal_got HK1.out.1).mono ?_
  rintro e w2 ⟨rfl, rfl⟩
  rw [took_none HD.out HGT.out]
  clear HL1 HK1 HR1 HI HD HGT
  go_wp2_with fail
  go_end0
  exact HE.out

set_option maxRecDepth 100000 in
set_option maxHeartbeats 8000000 in
theorem rstep_pop_tt {w : World} {B mb bb g sg hb i o : Nat} {vp vg vs : Value} {P G S : List Int} {l : Lay} {k v : Int} {tp r : Nat} {ls : List (List Value)} {lo0 : Bool} (s : KS) (hG : Geo l k tp r) (hR : Rows w sg 4 40 ls) (hi : ls[i]? = some (rcell (some ⟨.pop, mb, s.m, s.lo⟩) v)) (ho : o = i * 4) (hP : PB w mb (.pop : Kd).T l k s.m ((.pop : Kd).ex s.lo)) (hb1 : Bnk w bb g s.xs) (hL : LogB B hb vp vg vs P G S w) (hI : KInv tp .pop s)
    (ne : ¬ mb = g ∧ ¬ mb = bb ∧ ¬ sg = g ∧ ¬ sg = bb ∧ ¬ sg = mb ∧ ¬ hb = g ∧ ¬ hb = mb ∧ ¬ hb = sg ∧ ¬ hb = bb ∧ sg < B ∧ g < B) (hd : (kstep tp r .pop s).m.done = true) (hg : (kstep tp r .pop s).m.got = true) (hlen : P.length ≤ 2000 ∧ G.length ≤ 2000 ∧ S.length ≤ 2000) (hBs : B ≤ w.heap.size) :
    Calls Try.prog 16 #[.pointer (some ⟨sg, o, none⟩), .pointer (some ⟨bb, 0, none⟩), .pointer (some ⟨hb, 0, none⟩)] w (RunEnd B sg bb g hb i ls v .pop mb l k (kstep tp r .pop s) P G S w) := by
  have HS := Lib.hid (kstep_any .pop s hG hP hb1 ⟨ne.1, ne.2.1⟩ hI)
  have hTm : (.pop : Kd).T ≠ 2 := by show (51 : TypeId) ≠ 2; decide
  obtain ⟨s1, hs1⟩ : ∃ s', kstep tp r .pop s = s' := ⟨_, rfl⟩
  rw [hs1] at HS hd hg ⊢
  rw [hd] at HS
  have c0 : w.cell? ⟨sg, o, none⟩ = some (.pointer none) := by have h := hR.cell hi ho 0 (by omega); exact h
  have c1 : w.cell? ⟨sg, o + 1, none⟩ = some (.pointer (some ⟨mb, 0, none⟩)) := by have h := hR.cell hi ho 1 (by omega); exact h
  have c2 : w.cell? ⟨sg, o + 2, none⟩ = some (.pointer none) := by have h := hR.cell hi ho 2 (by omega); exact h
  have HPM := Lib.hid hP
  have HR := Lib.hid hR
  have HI := Lib.hid hi
  have HO := Lib.hid ho
  have HL := Lib.hid hL
  have HL0 := Lib.hid hL
  have HNE := Lib.hid ne
  have HD := Lib.hid hd
  have HGT := Lib.hid hg
  have HLE := Lib.hid hlen
  have HBS := Lib.hid hBs
  clear hR hi ho hP hb1 hI hG hs1 hd ne hL hg hlen hBs
  go_enter Try.func16, Try.ntmps16
  go_wp2_with fail
  refine HS.out.mono ?_
  rintro e w1 ⟨rfl, hK⟩
  have HR1 := Lib.hid (HR.out.upd hK.2.2 (by have := HNE.out; omega))
  have HL1 := Lib.hid (HL.out.mach hK.2.2 (by have := HNE.out; omega) (fun q hq hB => by
    rcases hq with rfl | rfl
    · have := HNE.out; omega
    · exact ⟨_, _, HPM.out, hTm⟩))
  have HK1 := Lib.hid hK
  have c0 : w1.cell? ⟨sg, o, none⟩ = some (.pointer none) := by have h := HR1.out.cell HI.out HO.out 0 (by omega); exact h
  have c1 : w1.cell? ⟨sg, o + 1, none⟩ = some (.pointer (some ⟨mb, 0, none⟩)) := by have h := HR1.out.cell HI.out HO.out 1 (by omega); exact h
  have c2 : w1.cell? ⟨sg, o + 2, none⟩ = some (.pointer none) := by have h := HR1.out.cell HI.out HO.out 2 (by omega); exact h
  clear hK HS HR HL HPM
  have h1 : w1.cell? ⟨hb, 1, none⟩ = some vg := HL1.out.blk.cell 1
  go_wp2_with fail
  refine (pop_got HK1.out.1).mono ?_
  rintro e w2 ⟨rfl, rfl⟩
  rw [took_some HD.out HGT.out]
  obtain ⟨i0, hi0, hz0, hz1, hz2⟩ := info_parts info2
  have ho := HL1.out.g
  have hbs : B ≤ w1.heap.size := Nat.le_trans HBS.out HK1.out.2.2.size
  have hl2 : G.length ≤ 2000000 := by have := HLE.out; omega
  go_upto_region 8 with (first | (at_builtin; refine wpList_push rfl _ _ 29 rfl B 2 i0 (.int .i64 0) 8 Try.underlying29 hi0 hz0 hz1 hz2 rfl (by decide) _ _ _ rfl ho (.int .i64 s1.m.x) rfl rfl hl2 hbs ?_; intro gg cap' w7 hown hg2; clear hi0 hz0 hz1 hz2; have k1 : w7.cell? ⟨hb, 1, none⟩ = some vg := (hg2.blk HL1.out.blk HL1.out.g (by decide)).cell 1; have f1 : w7.frozen? ⟨hb, 1, none⟩ = false := (hg2.blk HL1.out.blk HL1.out.g (by decide)).free 1) | fail)
  have HLG := Lib.hid (HL1.out.got hown hg2)
  have hU7 : Upd (fun j => vg.ownBlock = some j ∨ j = hb) w1 (w7.setCell ⟨hb, 1, none⟩ (.slice (some ⟨gg, 0, none⟩) (G.length + 1) cap')) := (hg2.upd.wide fun q _ hq => .inl hq).then (updCell2 w7 hb 1 _) fun q _ hq => .inr hq
  have n1 : ¬ vg.ownBlock = some sg := blk_row_ne HR1.out.blk HL1.out.g (by decide)
  have n2 : ¬ vg.ownBlock = some bb := blk_row_ne HK1.out.2.1.head HL1.out.g (by decide)
  have n3 : ¬ vg.ownBlock = some g := blk_row_ne HK1.out.2.1.row HL1.out.g (by decide)
  have HR2 := Lib.hid (HR1.out.upd hU7 (by rintro (e | e); exact n1 e; have := HNE.out; omega))
  have HB2 := Lib.hid (HK1.out.2.1.upd hU7 (by rintro (e | e); exact n2 e; have := HNE.out; omega) (by rintro (e | e); exact n3 e; have := HNE.out; omega))
  have HU2 : Hid (Upd (fun j => j = g ∨ j = mb ∨ j = sg ∨ j = hb ∨ (B ≤ j ∧ ∃ arr, Blk w j arr 2)) w (w7.setCell ⟨hb, 1, none⟩ (.slice (some ⟨gg, 0, none⟩) (G.length + 1) cap'))) := Lib.hid ((HK1.out.2.2.wide (fun q _ hq => by omega)).then hU7 (fun q _ hq => by
    rcases hq with e | e
    · exact .inr (.inr (.inr (.inr (own_i64 HL0.out.g e))))
    · exact .inr (.inr (.inr (.inl e)))))
  clear hown hg2 hU7 n1 n2 n3 ho hl2 hbs k1 f1 h1 c0 c1 c2 HL1 HK1 HR1
  generalize w7.setCell _ _ = w8 at HLG HR2 HB2 HU2 ⊢
  have c1 : w8.cell? ⟨sg, o + 1, none⟩ = some (.pointer (some ⟨mb, 0, none⟩)) := by have h := HR2.out.cell HI.out HO.out 1 (by omega); exact h
  have fz : w8.frozen? ⟨sg, o + 1, none⟩ = false := HR2.out.blk.free _
  have HE : Hid (RunEnd B sg bb g hb i ls v .pop mb l k s1 P G S w (.returned (.tuple #[])) (w8.setCell ⟨sg, o + 1, none⟩ (.pointer none))) := Lib.hid (by
    have hU := updCell2 w8 sg (o + 1) (.pointer none)
    have n := HNE.out
    refine ⟨vp, .slice (some ⟨gg, 0, none⟩) (G.length + 1) cap', vs, rfl, ?_, ?_, HB2.out.upd hU (by omega) (by omega), fun e => (by rw [HD.out] at e; cases e), HU2.out.then hU (fun q _ hq => by omega)⟩
    · have e1 : evP .pop s1 P = P := by simp [evP]
      have e2 : evG .pop s1 G = G ++ [s1.m.x] := by simp [evG, HD.out, HGT.out]
      have e3 : evS .pop s1 S = S := by simp [evS]
      rw [e1, e2, e3]
      exact HLG.out.mach hU (by omega) (fun q hq hB => by omega)
    · obtain ⟨h1, h2⟩ := List.getElem?_eq_some_iff.1 HI.out
      have h3 := HR2.out.put (i := i) (j := 1) h1 (by omega) (.pointer none)
      rw [h2] at h3
      have e5 : (rcell (some ⟨.pop, mb, s.m, s.lo⟩) v).set 1 (.pointer none) = rcell (OwnNew .pop mb s1) v := by simp [OwnNew, HD.out, rcell, ptr3]
      rw [e5] at h3
      rw [HO.out]
      exact h3)
  clear HLG HR2 HB2 HU2 HL0
  go_wp2_with fail
  go_end0
  exact HE.out

end Go.Proofs.Ytdgkemadhooogaa
