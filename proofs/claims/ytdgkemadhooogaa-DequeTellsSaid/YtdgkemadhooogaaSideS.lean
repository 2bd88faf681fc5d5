/- acequialaw11.side.step (printed by gen_refstep11.py). -/
import Derived.Test.YtdgkemadhooogaaSideF
import Derived.Deep.RegionHeld3
import Derived.Deep.CutRange
import Derived.StillTailTactics
import Derived.Deep.MidRow
namespace Go.Proofs.Ytdgkemadhooogaa
set_option linter.unusedVariables false
set_option linter.unusedSimpArgs false
open Go.RowKit
attribute [local go_sem] cell?_ext

theorem SC_len (kd : Kd) (mb : Nat) (l : Lay) (k : Int) (s : KS) : (SC kd mb l k s).length = 27 := by cases kd <;> rfl
theorem RMA_one (l : Lay) (k v kn a t b x : Int) (dn gt of : Bool) : ∀ u ∈ RMA l k v kn a t b x dn gt of, u.oneCell' = true := by simp [RMA, Value.oneCell']
/-- What a side's step leaves. -/
def SideEnd (N : Nat) (ls : List (List Value)) (i : Nat) (kd : Kd) (mb bb g sg gm : Nat) (l : Lay) (k : Int) (s : KS) (w : World) (e : Ending) (w' : World) : Prop :=
  ∃ g' cap', e = .returned (.tuple #[.slice (some ⟨g', 0, none⟩) N cap', .bool true]) ∧ Rows w' sg 27 75 (ls.set i (SC kd mb l k s)) ∧ PB w' mb kd.T l k s.m (kd.ex s.lo) ∧ Bnk w' bb g s.xs ∧ RB w' g' cap' s.xs ∧ Upd (fun j => j = g ∨ j = mb ∨ j = sg) w w' ∧ (g' = gm ∨ w.heap.size ≤ g')
set_option maxRecDepth 100000 in
set_option maxHeartbeats 8000000 in
theorem sstep_push {w : World} {mb bb g sg gm cap N i o : Nat} {l : Lay} {k : Int} {tp r : Nat} {ls : List (List Value)} (v : Int) (s : KS) (hG : Geo l k tp r) (hR : Rows w sg 27 75 ls) (hi : ls[i]? = some (SC (.push v) mb l k s)) (ho : o = i * 27) (hP : PB w mb ((.push v) : Kd).T l k s.m (((.push v) : Kd).ex s.lo)) (hb : Bnk w bb g s.xs) (hm : RB w gm cap s.xs) (hN : s.xs.length = N) (hNm : N ≤ 1000000) (hI : RInv tp (.push v) s)
    (ne : ¬ mb = g ∧ ¬ mb = bb ∧ ¬ sg = g ∧ ¬ sg = bb ∧ ¬ sg = mb ∧ ¬ gm = g ∧ ¬ gm = mb ∧ ¬ gm = sg) :
    Calls Try.prog 27 #[.pointer (some ⟨sg, o, none⟩), .pointer (some ⟨bb, 0, none⟩), .slice (some ⟨gm, 0, none⟩) N cap] w (SideEnd N ls i (.push v) mb bb g sg gm l k (kstep tp r (.push v) s) w) := by
  have HZ24 : Hid ((Try.prog.info? 73).map (·.size) = some 24) := Lib.hid (by kernel_rfl)
  have HZ27 : Hid ((Try.prog.info? 75).map (·.size) = some 27) := Lib.hid (by kernel_rfl)
  have HS := Lib.hid (kstep_any (.push v) s hG hP hb ⟨ne.1, ne.2.1⟩ hI.1)
  have HT := fun (W : World) (k1 : RB W gm cap s.xs) => Lib.hid (refStep_any (.push v) s hG k1 hN hNm hI)
  obtain ⟨s1, hs1⟩ : ∃ s', kstep tp r (.push v) s = s' := ⟨_, rfl⟩
  rw [hs1] at HS HT ⊢
  obtain ⟨d1, hd1⟩ : ∃ d, s1.m.done = d := ⟨_, rfl⟩
  rw [hd1] at HS
  have HD := Lib.hid hd1
  have c0 : w.cell? ⟨sg, o, none⟩ = some (.pointer (some ⟨mb, 0, none⟩)) := by have h := hR.cell hi ho 0 (by omega); exact h
  have c1 : w.cell? ⟨sg, o + 1, none⟩ = some (.pointer none) := by have h := hR.cell hi ho 1 (by omega); exact h
  have c2 : w.cell? ⟨sg, o + 2, none⟩ = some (.pointer none) := by have h := hR.cell hi ho 2 (by omega); exact h
  have HR := Lib.hid hR
  have HI := Lib.hid hi
  have HO := Lib.hid ho
  have HM := Lib.hid hm
  have HNE := Lib.hid ne
  clear hR hi ho hP hb hm hN hI hG hs1 hd1 ne
  go_enter Try.func27, Try.ntmps27
  go_wp2_with fail
  refine HS.out.mono ?_
  rintro e w1 ⟨rfl, hK⟩
  have HR1 := Lib.hid (HR.out.upd hK.2.2 (by have := HNE.out; omega))
  have HM1 := Lib.hid (HM.out.upd hK.2.2 (by have := HNE.out; omega))
  have HK1 := Lib.hid hK
  have HSG : Hid (sg < w1.heap.size) := Lib.hid HR1.out.blk.lt
  clear hK HS HR HM c0 c1 c2
  have hra : w1.rangeAt sg (o + 3) (RMA l k (vOf (.push v)) (knOf (.push v)) s.m.a s.m.t s.m.b s.m.x s.m.done s.m.got (offOf (.push v) s)) := HR1.out.range HI.out 3 (by rw [HO.out]) rfl
  have HT1 := HT w1 HM1.out
  clear HT
  go_wp2_with (first | (refine wpList_load_mid rfl _ _ rfl sg (o + 3) rfl (RMA l k (vOf (.push v)) (knOf (.push v)) s.m.a s.m.t s.m.b s.m.x s.m.done s.m.got (offOf (.push v) s)) _ hra Try.underlying73 rfl HZ24.out ?_) | fail)
  refine HT1.out.mono ?_
  rintro e w2 ⟨g2, cap2, rfl, hB2, hk2, hg2⟩
  have HR2 := Lib.hid (HR1.out.kept hk2)
  have HF2 := Lib.hid (And.intro hB2 (And.intro hk2 hg2))
  clear hra HT1 HR1 hB2 hk2 hg2
  have hth : w2.there sg (o + 3) 24 := HR2.out.there (i := i) (List.getElem?_eq_some_iff.1 HI.out).1 3 (by rw [HO.out]) (by omega)
  obtain ⟨W9, hW9⟩ : ∃ W9, w2.setCells sg (o + 3) (RMA l k (vOf (.push v)) (knOf (.push v)) s1.m.a s1.m.t s1.m.b s1.m.x s1.m.done s1.m.got (offOf (.push v) s1)) = W9 := ⟨_, rfl⟩
  have hT9 : Rows W9 sg 27 75 (ls.set i (SC (.push v) mb l k s1)) ∧ Upd (fun x => x = sg) w2 W9 := by
    rw [← hW9]
    exact HR2.out.tail (vs := RMA l k (vOf (.push v)) (knOf (.push v)) s1.m.a s1.m.t s1.m.b s1.m.x s1.m.done s1.m.got (offOf (.push v) s1)) HI.out 3 (by rw [HO.out]) rfl
  have HR9 := Lib.hid hT9.1
  have HU9 := Lib.hid hT9.2
  have hr9 : W9.rangeAt sg o (SC (.push v) mb l k s1) := HR9.out.range (i := i) (List.getElem?_set_self (List.getElem?_eq_some_iff.1 HI.out).1) 0 (by rw [HO.out]; rfl) rfl
  have hz24 := HZ24.out
  clear hT9
  go_upto_region 8 with (first | (refine wpList_store_mid rfl _ _ _ rfl sg (o + 3) (RMA l k (vOf (.push v)) (knOf (.push v)) s1.m.a s1.m.t s1.m.b s1.m.x s1.m.done s1.m.got (offOf (.push v) s1)).toArray rfl rfl hth hz24 (all_oneCell_toArray (RMA_one _ _ _ _ _ _ _ _ _ _ _)) ?_; simp only [hW9]) | fail)
  clear hth hW9 hz24
  have hP9 : PB W9 mb ((.push v) : Kd).T l k s1.m (((.push v) : Kd).ex s1.lo) := PB.upd (PB.kept HK1.out.1 HF2.out.2.1) HU9.out (by have := HNE.out; omega)
  have hfit := fits_any (.push v) s1 hP9
  rw [HD.out] at hfit
  have HFI := Lib.hid hfit
  have HP9 := Lib.hid hP9
  clear hP9 hfit
  go_wp2_with (first | (refine wpList_load_mid rfl _ _ rfl sg o rfl (SC (.push v) mb l k s1) _ hr9 Try.underlying75 rfl HZ27.out ?_) | fail)
  refine HFI.out.mono ?_
  rintro e w3 ⟨rfl, hk3⟩
  have HE : Hid (SideEnd N ls i (.push v) mb bb g sg gm l k s1 w (.returned (.tuple #[.slice (some ⟨g2, 0, none⟩) N cap2, .bool true])) w3) := Lib.hid (by
    have n := HNE.out
    have q1 := HK1.out.2.1.head.lt
    have q2 := HK1.out.2.1.row.lt
    have q3 := HK1.out.1.lt
    have q4 := HR2.out.blk.lt
    have q5 := HK1.out.2.2.size
    have q6 := HR9.out.blk.lt
    obtain ⟨z1, z2, z3⟩ := HF2.out
    have z4 := HK1.out.2.1.kept z2
    have q7 : sg < w1.heap.size := by have := HM1.out.lt; exact HSG.out
    exact ⟨g2, cap2, rfl, HR9.out.kept hk3, PB.kept HP9.out hk3, (z4.upd HU9.out (by omega) (by omega)).kept hk3, (z1.upd HU9.out (by omega)).kept hk3, ((HK1.out.2.2.then z2 (fun _ _ f => f.elim)).wide (fun j _ h => by omega) |>.then HU9.out (fun j _ h => .inr (.inr h))).then hk3 (fun _ _ f => f.elim), by omega⟩)
  clear hk3 hr9 HFI HP9 HR9 HU9 HF2 HR2 HK1 HM1
  go_wp2_with fail
  exact bodyPost_ret (v := .tuple #[.slice (some ⟨g2, 0, none⟩) N cap2, .bool true]) (by simp [results, Try.results27, go_sem]) rfl HE.out

set_option maxRecDepth 100000 in
set_option maxHeartbeats 8000000 in
theorem sstep_pop {w : World} {mb bb g sg gm cap N i o : Nat} {l : Lay} {k : Int} {tp r : Nat} {ls : List (List Value)} (s : KS) (hG : Geo l k tp r) (hR : Rows w sg 27 75 ls) (hi : ls[i]? = some (SC .pop mb l k s)) (ho : o = i * 27) (hP : PB w mb (.pop : Kd).T l k s.m ((.pop : Kd).ex s.lo)) (hb : Bnk w bb g s.xs) (hm : RB w gm cap s.xs) (hN : s.xs.length = N) (hNm : N ≤ 1000000) (hI : RInv tp .pop s)
    (ne : ¬ mb = g ∧ ¬ mb = bb ∧ ¬ sg = g ∧ ¬ sg = bb ∧ ¬ sg = mb ∧ ¬ gm = g ∧ ¬ gm = mb ∧ ¬ gm = sg) :
    Calls Try.prog 27 #[.pointer (some ⟨sg, o, none⟩), .pointer (some ⟨bb, 0, none⟩), .slice (some ⟨gm, 0, none⟩) N cap] w (SideEnd N ls i .pop mb bb g sg gm l k (kstep tp r .pop s) w) := by
  have HZ24 : Hid ((Try.prog.info? 73).map (·.size) = some 24) := Lib.hid (by kernel_rfl)
  have HZ27 : Hid ((Try.prog.info? 75).map (·.size) = some 27) := Lib.hid (by kernel_rfl)
  have HS := Lib.hid (kstep_any .pop s hG hP hb ⟨ne.1, ne.2.1⟩ hI.1)
  have HT := fun (W : World) (k1 : RB W gm cap s.xs) => Lib.hid (refStep_any .pop s hG k1 hN hNm hI)
  obtain ⟨s1, hs1⟩ : ∃ s', kstep tp r .pop s = s' := ⟨_, rfl⟩
  rw [hs1] at HS HT ⊢
  obtain ⟨d1, hd1⟩ : ∃ d, s1.m.done = d := ⟨_, rfl⟩
  rw [hd1] at HS
  have HD := Lib.hid hd1
  have c0 : w.cell? ⟨sg, o, none⟩ = some (.pointer none) := by have h := hR.cell hi ho 0 (by omega); exact h
  have c1 : w.cell? ⟨sg, o + 1, none⟩ = some (.pointer (some ⟨mb, 0, none⟩)) := by have h := hR.cell hi ho 1 (by omega); exact h
  have c2 : w.cell? ⟨sg, o + 2, none⟩ = some (.pointer none) := by have h := hR.cell hi ho 2 (by omega); exact h
  have HR := Lib.hid hR
  have HI := Lib.hid hi
  have HO := Lib.hid ho
  have HM := Lib.hid hm
  have HNE := Lib.hid ne
  clear hR hi ho hP hb hm hN hI hG hs1 hd1 ne
  go_enter Try.func27, Try.ntmps27
  go_wp2_with fail
  refine HS.out.mono ?_
  rintro e w1 ⟨rfl, hK⟩
  have HR1 := Lib.hid (HR.out.upd hK.2.2 (by have := HNE.out; omega))
  have HM1 := Lib.hid (HM.out.upd hK.2.2 (by have := HNE.out; omega))
  have HK1 := Lib.hid hK
  have HSG : Hid (sg < w1.heap.size) := Lib.hid HR1.out.blk.lt
  clear hK HS HR HM c0 c1 c2
  have hra : w1.rangeAt sg (o + 3) (RMA l k (vOf .pop) (knOf .pop) s.m.a s.m.t s.m.b s.m.x s.m.done s.m.got (offOf .pop s)) := HR1.out.range HI.out 3 (by rw [HO.out]) rfl
  have HT1 := HT w1 HM1.out
  clear HT
  go_wp2_with (first | (refine wpList_load_mid rfl _ _ rfl sg (o + 3) rfl (RMA l k (vOf .pop) (knOf .pop) s.m.a s.m.t s.m.b s.m.x s.m.done s.m.got (offOf .pop s)) _ hra Try.underlying73 rfl HZ24.out ?_) | fail)
  refine HT1.out.mono ?_
  rintro e w2 ⟨g2, cap2, rfl, hB2, hk2, hg2⟩
  have HR2 := Lib.hid (HR1.out.kept hk2)
  have HF2 := Lib.hid (And.intro hB2 (And.intro hk2 hg2))
  clear hra HT1 HR1 hB2 hk2 hg2
  have hth : w2.there sg (o + 3) 24 := HR2.out.there (i := i) (List.getElem?_eq_some_iff.1 HI.out).1 3 (by rw [HO.out]) (by omega)
  obtain ⟨W9, hW9⟩ : ∃ W9, w2.setCells sg (o + 3) (RMA l k (vOf .pop) (knOf .pop) s1.m.a s1.m.t s1.m.b s1.m.x s1.m.done s1.m.got (offOf .pop s1)) = W9 := ⟨_, rfl⟩
  have hT9 : Rows W9 sg 27 75 (ls.set i (SC .pop mb l k s1)) ∧ Upd (fun x => x = sg) w2 W9 := by
    rw [← hW9]
    exact HR2.out.tail (vs := RMA l k (vOf .pop) (knOf .pop) s1.m.a s1.m.t s1.m.b s1.m.x s1.m.done s1.m.got (offOf .pop s1)) HI.out 3 (by rw [HO.out]) rfl
  have HR9 := Lib.hid hT9.1
  have HU9 := Lib.hid hT9.2
  have hr9 : W9.rangeAt sg o (SC .pop mb l k s1) := HR9.out.range (i := i) (List.getElem?_set_self (List.getElem?_eq_some_iff.1 HI.out).1) 0 (by rw [HO.out]; rfl) rfl
  have hz24 := HZ24.out
  clear hT9
  go_upto_region 8 with (first | (refine wpList_store_mid rfl _ _ _ rfl sg (o + 3) (RMA l k (vOf .pop) (knOf .pop) s1.m.a s1.m.t s1.m.b s1.m.x s1.m.done s1.m.got (offOf .pop s1)).toArray rfl rfl hth hz24 (all_oneCell_toArray (RMA_one _ _ _ _ _ _ _ _ _ _ _)) ?_; simp only [hW9]) | fail)
  clear hth hW9 hz24
  have hP9 : PB W9 mb (.pop : Kd).T l k s1.m ((.pop : Kd).ex s1.lo) := PB.upd (PB.kept HK1.out.1 HF2.out.2.1) HU9.out (by have := HNE.out; omega)
  have hfit := fits_any .pop s1 hP9
  rw [HD.out] at hfit
  have HFI := Lib.hid hfit
  have HP9 := Lib.hid hP9
  clear hP9 hfit
  go_wp2_with (first | (refine wpList_load_mid rfl _ _ rfl sg o rfl (SC .pop mb l k s1) _ hr9 Try.underlying75 rfl HZ27.out ?_) | fail)
  refine HFI.out.mono ?_
  rintro e w3 ⟨rfl, hk3⟩
  have HE : Hid (SideEnd N ls i .pop mb bb g sg gm l k s1 w (.returned (.tuple #[.slice (some ⟨g2, 0, none⟩) N cap2, .bool true])) w3) := Lib.hid (by
    have n := HNE.out
    have q1 := HK1.out.2.1.head.lt
    have q2 := HK1.out.2.1.row.lt
    have q3 := HK1.out.1.lt
    have q4 := HR2.out.blk.lt
    have q5 := HK1.out.2.2.size
    have q6 := HR9.out.blk.lt
    obtain ⟨z1, z2, z3⟩ := HF2.out
    have z4 := HK1.out.2.1.kept z2
    have q7 : sg < w1.heap.size := by have := HM1.out.lt; exact HSG.out
    exact ⟨g2, cap2, rfl, HR9.out.kept hk3, PB.kept HP9.out hk3, (z4.upd HU9.out (by omega) (by omega)).kept hk3, (z1.upd HU9.out (by omega)).kept hk3, ((HK1.out.2.2.then z2 (fun _ _ f => f.elim)).wide (fun j _ h => by omega) |>.then HU9.out (fun j _ h => .inr (.inr h))).then hk3 (fun _ _ f => f.elim), by omega⟩)
  clear hk3 hr9 HFI HP9 HR9 HU9 HF2 HR2 HK1 HM1
  go_wp2_with fail
  exact bodyPost_ret (v := .tuple #[.slice (some ⟨g2, 0, none⟩) N cap2, .bool true]) (by simp [results, Try.results27, go_sem]) rfl HE.out

set_option maxRecDepth 100000 in
set_option maxHeartbeats 8000000 in
theorem sstep_steal {w : World} {mb bb g sg gm cap N i o : Nat} {l : Lay} {k : Int} {tp r : Nat} {ls : List (List Value)} (s : KS) (hG : Geo l k tp r) (hR : Rows w sg 27 75 ls) (hi : ls[i]? = some (SC .steal mb l k s)) (ho : o = i * 27) (hP : PB w mb (.steal : Kd).T l k s.m ((.steal : Kd).ex s.lo)) (hb : Bnk w bb g s.xs) (hm : RB w gm cap s.xs) (hN : s.xs.length = N) (hNm : N ≤ 1000000) (hI : RInv tp .steal s)
    (ne : ¬ mb = g ∧ ¬ mb = bb ∧ ¬ sg = g ∧ ¬ sg = bb ∧ ¬ sg = mb ∧ ¬ gm = g ∧ ¬ gm = mb ∧ ¬ gm = sg) :
    Calls Try.prog 27 #[.pointer (some ⟨sg, o, none⟩), .pointer (some ⟨bb, 0, none⟩), .slice (some ⟨gm, 0, none⟩) N cap] w (SideEnd N ls i .steal mb bb g sg gm l k (kstep tp r .steal s) w) := by
  have HZ24 : Hid ((Try.prog.info? 73).map (·.size) = some 24) := Lib.hid (by kernel_rfl)
  have HZ27 : Hid ((Try.prog.info? 75).map (·.size) = some 27) := Lib.hid (by kernel_rfl)
  have HS := Lib.hid (kstep_any .steal s hG hP hb ⟨ne.1, ne.2.1⟩ hI.1)
  have HT := fun (W : World) (k1 : RB W gm cap s.xs) => Lib.hid (refStep_any .steal s hG k1 hN hNm hI)
  obtain ⟨s1, hs1⟩ : ∃ s', kstep tp r .steal s = s' := ⟨_, rfl⟩
  rw [hs1] at HS HT ⊢
  obtain ⟨d1, hd1⟩ : ∃ d, s1.m.done = d := ⟨_, rfl⟩
  rw [hd1] at HS
  have HD := Lib.hid hd1
  have c0 : w.cell? ⟨sg, o, none⟩ = some (.pointer none) := by have h := hR.cell hi ho 0 (by omega); exact h
  have c1 : w.cell? ⟨sg, o + 1, none⟩ = some (.pointer none) := by have h := hR.cell hi ho 1 (by omega); exact h
  have c2 : w.cell? ⟨sg, o + 2, none⟩ = some (.pointer (some ⟨mb, 0, none⟩)) := by have h := hR.cell hi ho 2 (by omega); exact h
  have HR := Lib.hid hR
  have HI := Lib.hid hi
  have HO := Lib.hid ho
  have HM := Lib.hid hm
  have HNE := Lib.hid ne
  clear hR hi ho hP hb hm hN hI hG hs1 hd1 ne
  go_enter Try.func27, Try.ntmps27
  go_wp2_with fail
  refine HS.out.mono ?_
  rintro e w1 ⟨rfl, hK⟩
  have HR1 := Lib.hid (HR.out.upd hK.2.2 (by have := HNE.out; omega))
  have HM1 := Lib.hid (HM.out.upd hK.2.2 (by have := HNE.out; omega))
  have HK1 := Lib.hid hK
  have HSG : Hid (sg < w1.heap.size) := Lib.hid HR1.out.blk.lt
  clear hK HS HR HM c0 c1 c2
  have hra : w1.rangeAt sg (o + 3) (RMA l k (vOf .steal) (knOf .steal) s.m.a s.m.t s.m.b s.m.x s.m.done s.m.got (offOf .steal s)) := HR1.out.range HI.out 3 (by rw [HO.out]) rfl
  have HT1 := HT w1 HM1.out
  clear HT
  go_wp2_with (first | (refine wpList_load_mid rfl _ _ rfl sg (o + 3) rfl (RMA l k (vOf .steal) (knOf .steal) s.m.a s.m.t s.m.b s.m.x s.m.done s.m.got (offOf .steal s)) _ hra Try.underlying73 rfl HZ24.out ?_) | fail)
  refine HT1.out.mono ?_
  rintro e w2 ⟨g2, cap2, rfl, hB2, hk2, hg2⟩
  have HR2 := Lib.hid (HR1.out.kept hk2)
  have HF2 := Lib.hid (And.intro hB2 (And.intro hk2 hg2))
  clear hra HT1 HR1 hB2 hk2 hg2
  have hth : w2.there sg (o + 3) 24 := HR2.out.there (i := i) (List.getElem?_eq_some_iff.1 HI.out).1 3 (by rw [HO.out]) (by omega)
  obtain ⟨W9, hW9⟩ : ∃ W9, w2.setCells sg (o + 3) (RMA l k (vOf .steal) (knOf .steal) s1.m.a s1.m.t s1.m.b s1.m.x s1.m.done s1.m.got (offOf .steal s1)) = W9 := ⟨_, rfl⟩
  have hT9 : Rows W9 sg 27 75 (ls.set i (SC .steal mb l k s1)) ∧ Upd (fun x => x = sg) w2 W9 := by
    rw [← hW9]
    exact HR2.out.tail (vs := RMA l k (vOf .steal) (knOf .steal) s1.m.a s1.m.t s1.m.b s1.m.x s1.m.done s1.m.got (offOf .steal s1)) HI.out 3 (by rw [HO.out]) rfl
  have HR9 := Lib.hid hT9.1
  have HU9 := Lib.hid hT9.2
  have hr9 : W9.rangeAt sg o (SC .steal mb l k s1) := HR9.out.range (i := i) (List.getElem?_set_self (List.getElem?_eq_some_iff.1 HI.out).1) 0 (by rw [HO.out]; rfl) rfl
  have hz24 := HZ24.out
  clear hT9
  go_upto_region 8 with (first | (refine wpList_store_mid rfl _ _ _ rfl sg (o + 3) (RMA l k (vOf .steal) (knOf .steal) s1.m.a s1.m.t s1.m.b s1.m.x s1.m.done s1.m.got (offOf .steal s1)).toArray rfl rfl hth hz24 (all_oneCell_toArray (RMA_one _ _ _ _ _ _ _ _ _ _ _)) ?_; simp only [hW9]) | fail)
  clear hth hW9 hz24
  have hP9 : PB W9 mb (.steal : Kd).T l k s1.m ((.steal : Kd).ex s1.lo) := PB.upd (PB.kept HK1.out.1 HF2.out.2.1) HU9.out (by have := HNE.out; omega)
  have hfit := fits_any .steal s1 hP9
  rw [HD.out] at hfit
  have HFI := Lib.hid hfit
  have HP9 := Lib.hid hP9
  clear hP9 hfit
  go_wp2_with (first | (refine wpList_load_mid rfl _ _ rfl sg o rfl (SC .steal mb l k s1) _ hr9 Try.underlying75 rfl HZ27.out ?_) | fail)
  refine HFI.out.mono ?_
  rintro e w3 ⟨rfl, hk3⟩
  have HE : Hid (SideEnd N ls i .steal mb bb g sg gm l k s1 w (.returned (.tuple #[.slice (some ⟨g2, 0, none⟩) N cap2, .bool true])) w3) := Lib.hid (by
    have n := HNE.out
    have q1 := HK1.out.2.1.head.lt
    have q2 := HK1.out.2.1.row.lt
    have q3 := HK1.out.1.lt
    have q4 := HR2.out.blk.lt
    have q5 := HK1.out.2.2.size
    have q6 := HR9.out.blk.lt
    obtain ⟨z1, z2, z3⟩ := HF2.out
    have z4 := HK1.out.2.1.kept z2
    have q7 : sg < w1.heap.size := by have := HM1.out.lt; exact HSG.out
    exact ⟨g2, cap2, rfl, HR9.out.kept hk3, PB.kept HP9.out hk3, (z4.upd HU9.out (by omega) (by omega)).kept hk3, (z1.upd HU9.out (by omega)).kept hk3, ((HK1.out.2.2.then z2 (fun _ _ f => f.elim)).wide (fun j _ h => by omega) |>.then HU9.out (fun j _ h => .inr (.inr h))).then hk3 (fun _ _ f => f.elim), by omega⟩)
  clear hk3 hr9 HFI HP9 HR9 HU9 HF2 HR2 HK1 HM1
  go_wp2_with fail
  exact bodyPost_ret (v := .tuple #[.slice (some ⟨g2, 0, none⟩) N cap2, .bool true]) (by simp [results, Try.results27, go_sem]) rfl HE.out

theorem sstep_any {w : World} {mb bb g sg gm cap N i o : Nat} {l : Lay} {k : Int} {tp r : Nat} {ls : List (List Value)} (kd : Kd) (s : KS) (hG : Geo l k tp r) (hR : Rows w sg 27 75 ls) (hi : ls[i]? = some (SC kd mb l k s)) (ho : o = i * 27) (hP : PB w mb kd.T l k s.m (kd.ex s.lo)) (hb : Bnk w bb g s.xs) (hm : RB w gm cap s.xs) (hN : s.xs.length = N) (hNm : N ≤ 1000000) (hI : RInv tp kd s)
    (ne : ¬ mb = g ∧ ¬ mb = bb ∧ ¬ sg = g ∧ ¬ sg = bb ∧ ¬ sg = mb ∧ ¬ gm = g ∧ ¬ gm = mb ∧ ¬ gm = sg) :
    Calls Try.prog 27 #[.pointer (some ⟨sg, o, none⟩), .pointer (some ⟨bb, 0, none⟩), .slice (some ⟨gm, 0, none⟩) N cap] w (SideEnd N ls i kd mb bb g sg gm l k (kstep tp r kd s) w) := by
  cases kd with
  | push v => exact sstep_push v s hG hR hi ho hP hb hm hN hNm hI ne
  | pop => exact sstep_pop s hG hR hi ho hP hb hm hN hNm hI ne
  | steal => exact sstep_steal s hG hR hi ho hP hb hm hN hNm hI ne
end Go.Proofs.Ytdgkemadhooogaa
