/- relaxed.Run, relaxed.Move (printed by gen_relrun.py) -/
import Derived.Test.YtdhimfkmgcfohaaRelDoes
import Derived.Test.YtdhimfkmgcfohaaRegion
import Derived.Deep.CutRange
import Derived.Deep.RegionHeld3
import Derived.Deep.MidRow
import Derived.Deep.Onto
import Derived.Deep.Onto
namespace Go.Proofs.Ytdhimfkmgcfohaa
set_option linter.unusedVariables false
set_option linter.unusedSimpArgs false
open Go.RowKit
attribute [local go_sem] cell?_ext

/-- A row of moves. -/
def EvR (w : World) (la : Option Addr) (evs : List Ev) : Prop := evs.length = 0 ∨ ∃ b off, la = some ⟨b, off, none⟩ ∧ ∀ (i : Nat) (h : i < evs.length) (j : Nat) (v : Value), (evs[i]).cells[j]? = some v → w.cell? ⟨b, off + i * 7 + j, none⟩ = some v
theorem EvR.kept {w w' : World} {la : Option Addr} {evs : List Ev} (h : EvR w la evs) (k : Kept w w') : EvR w' la evs := by
  rcases h with h | ⟨b, off, h1, h2⟩
  · exact .inl h
  · exact .inr ⟨b, off, h1, fun i hi j v hv => (keptCells k _ (by rw [h2 i hi j v hv]; rfl)).trans (h2 i hi j v hv)⟩
theorem run_first {N S T : Int} {n : Nat} {ys : List Ar} {evs : List Ev} {k : Nat} (hk : k < evs.length) (p : PS) :
    runP N S T n ys (evs.drop k) p = if legalP N S T ys p evs[k] = 0 then ((runP N S T n ys (evs.drop (k + 1)) (doesP n ys p evs[k])).1, (runP N S T n ys (evs.drop (k + 1)) (doesP n ys p evs[k])).2.1 + 1, (runP N S T n ys (evs.drop (k + 1)) (doesP n ys p evs[k])).2.2) else (p, 0, legalP N S T ys p evs[k]) := by
  rw [List.drop_eq_getElem_cons hk]
  rfl
theorem OwnP.mono {w : World} {base base' : Nat} {p : PS} {n m : Nat} {ra : Option Addr} {rc : Nat} {ea : Option Addr} {ec : Nat} {za : Option Addr} {zc : Nat} (h : OwnP w base p n m ra rc ea ec za zc) (hb : base' ≤ base) : OwnP w base' p n m ra rc ea ec za zc :=
  ⟨h.r.mono hb, h.e.mono hb, h.z.mono hb, h.ok, h.far⟩
theorem OwnP.rd {w : World} {base : Nat} {p : PS} {n m : Nat} {ra : Option Addr} {rc : Nat} {ea : Option Addr} {ec : Nat} {za : Option Addr} {zc : Nat} (h : OwnP w base p n m ra rc ea ec za zc) : Rd w ra (lv p.rs) ∧ Rd w ea (lv p.es) ∧ Rd w za (lv p.hs) ∧ SomeOr ra m rc ∧ SomeOr ea n ec ∧ SomeOr za n zc := by
  obtain ⟨a1, c1, e1, r1⟩ := Rd.owns h.r
  obtain ⟨a2, c2, e2, r2⟩ := Rd.owns h.e
  obtain ⟨a3, c3, e3, r3⟩ := Rd.owns h.z
  cases e1; cases e2; cases e3
  exact ⟨r1, r2, r3, someOr_own h.r, someOr_own h.e, someOr_own h.z⟩
/-- What is legal may be done: where it lies. -/
theorem legal_in {N S T : Int} {ys : List Ar} {n m : Nat} {p : PS} {e : Ev} (hg : Gr N S T n m ys) (h : legalP N S T ys p e = 0) : 0 ≤ e.u ∧ e.u < N ∧ e.u ≠ S ∧ e.u ≠ T ∧ (e.wt = 1 ∨ e.wt = 2) ∧ (e.wt ≠ 2 → 0 ≤ e.a ∧ e.a < m) := by
  unfold legalP at h
  split at h
  · omega
  · rename_i h1
    refine ⟨by omega, by omega, by omega, by omega, by omega, fun hw => ?_⟩
    rw [if_neg hw] at h
    unfold pushP at h
    split at h
    · omega
    · have hl := hg.len
      have h2 : fst ys (e.u.toNat + 1) ≤ m := by rw [← hg.hm]; exact fst_mono ys (by omega)
      have h3 : (0 : Int) ≤ fst ys e.u.toNat := by omega
      omega
theorem OwnP.upd {w w' : World} {base : Nat} {p : PS} {n m : Nat} {ra : Option Addr} {rc : Nat} {ea : Option Addr} {ec : Nat} {za : Option Addr} {zc : Nat} {Q : Nat → Prop} (h : OwnP w base p n m ra rc ea ec za zc) (k : Upd Q w w') (hq : ∀ j, OB n m ra rc ea ec za zc j → ¬ Q j) : OwnP w' base p n m ra rc ea ec za zc :=
  ⟨ownsRow_far h.r k (fun j e => hq j (.inl e)), ownsRow_far h.e k (fun j e => hq j (.inr (.inl e))), ownsRow_far h.z k (fun j e => hq j (.inr (.inr e))), h.ok, h.far⟩
/-- What lies ahead of Run's first region, in it. -/
structure RunQ (w W3 : World) (cb pb qb : Nat) (c9 p3 : Array Value) (W : World) : Prop where
  w : Kept w W
  k : Kept W3 W
  c : Blk W cb c9 32
  p : Blk W pb p3 29
  q : Blk W qb #[.slice none 0 0, .slice none 0 0, .slice none 0 0] 29
theorem RunQ.kept {w W3 W W' : World} {cb pb qb : Nat} {c9 p3 : Array Value} (h : RunQ w W3 cb pb qb c9 p3 W) (k : Kept W W') : RunQ w W3 cb pb qb c9 p3 W' := ⟨h.w.trans k, h.k.trans k, h.c.kept k, h.p.kept k, h.q.kept k⟩
theorem RunQ.upd {w W3 W W' : World} {cb pb qb sb : Nat} {c9 p3 : Array Value} (h : RunQ w W3 cb pb qb c9 p3 W) (k : Upd (fun j => j = sb) W W') (h1 : W3.heap.size ≤ sb) (h2 : Kept w W3) (h3 : cb < W3.heap.size ∧ pb < W3.heap.size ∧ qb < W3.heap.size) : RunQ w W3 cb pb qb c9 p3 W' :=
  ⟨h.w.then k (fun i hi e => by have := h2.size; omega), h.k.then k (fun i hi e => by omega), h.c.upd k (by omega), h.p.upd k (by omega), h.q.upd k (by omega)⟩
def aggOf : Value → Array Value
  | .agg cs => cs
  | _ => #[]
def OwnV (v : Value) (p : PS) (n m base : Nat) (W : World) : Prop := ∃ oa oc qa qc ha hc, v = .agg #[.slice oa m oc, .slice qa n qc, .slice ha n hc] ∧ OwnP W base p n m oa oc qa qc ha hc
theorem OwnV.kept {v : Value} {p : PS} {n m base : Nat} {W W' : World} (h : OwnV v p n m base W) (k : Kept W W') : OwnV v p n m base W' := by
  obtain ⟨oa, oc, qa, qc, ha, hc, e, h⟩ := h
  exact ⟨oa, oc, qa, qc, ha, hc, e, h.kept k⟩
/-- What Run hands back. -/
def RunOut (n m : Nat) (r : PS × Nat × Int) (w : World) (e : Ending) (w' : World) : Prop := ∃ ra rc ea ec za zc, e = .returned (.tuple #[.agg #[.slice ra m rc, .slice ea n ec, .slice za n zc], .int .i64 (r.2.1 : Int), .int .i64 r.2.2]) ∧ OwnP w' w.heap.size r.1 n m ra rc ea ec za zc ∧ Kept w w'
set_option maxRecDepth 100000 in
set_option maxHeartbeats 4000000 in
theorem run_any (N S T : Int) (n m : Nat) (a3 a4 a5 a6 a7 a8 : Option Addr) (c3 c4 c5 c6 c7 c8 : Nat) (ys : List Ar) (p : PS) (ra : Option Addr) (rc : Nat) (ea : Option Addr) (ec : Nat) (za : Option Addr) (zc : Nat) (la : Option Addr) (lc : Nat) (evs : List Ev) (w : World) (hg : Gr N S T n m ys) (hcr : CsrR w n ys a3 a4 a5 a6 a7 a8) (hok : p.ok n m) (hr : Rd w ra (lv p.rs)) (he : Rd w ea (lv p.es)) (hz : Rd w za (lv p.hs)) (s1 : SomeOr ra m rc) (s2 : SomeOr ea n ec) (s3 : SomeOr za n zc) (hl : EvR w la evs) (hwt : ∀ e ∈ evs, (Lit.int .u8 e.wt).wf = true) (hlm : evs.length ≤ 1000000) :
    Calls Try.prog 19 #[.agg #[.int .i64 N, .int .i64 S, .int .i64 T, .slice a3 (n + 1) c3, .slice a4 m c4, .slice a5 m c5, .slice a6 m c6, .slice a7 m c7, .slice a8 m c8], .agg #[.slice ra m rc, .slice ea n ec, .slice za n zc], .slice la evs.length lc] w (RunOut n m (runP N S T n ys evs p) w) := by
  have hs1 : (w.alloc (.cells #[.int .i64 N, .int .i64 S, .int .i64 T, .slice a3 (n + 1) c3, .slice a4 m c4, .slice a5 m c5, .slice a6 m c6, .slice a7 m c7, .slice a8 m c8] 32)).heap.size = w.heap.size + 1 := World.size_alloc _ _
  have hs2 : ((w.alloc (.cells #[.int .i64 N, .int .i64 S, .int .i64 T, .slice a3 (n + 1) c3, .slice a4 m c4, .slice a5 m c5, .slice a6 m c6, .slice a7 m c7, .slice a8 m c8] 32)).alloc (.cells #[.slice ra m rc, .slice ea n ec, .slice za n zc] 29)).heap.size = w.heap.size + 1 + 1 := by rw [← hs1]; exact World.size_alloc _ _
  have HK := Lib.hid ((((Upd.refl (fun _ => False) w).alloc (.cells #[.int .i64 N, .int .i64 S, .int .i64 T, .slice a3 (n + 1) c3, .slice a4 m c4, .slice a5 m c5, .slice a6 m c6, .slice a7 m c7, .slice a8 m c8] 32)).alloc (.cells #[.slice ra m rc, .slice ea n ec, .slice za n zc] 29)).alloc (.cells #[.slice none 0 0, .slice none 0 0, .slice none 0 0] 29))
  have HB := Lib.hid (((Blk.new w #[.int .i64 N, .int .i64 S, .int .i64 T, .slice a3 (n + 1) c3, .slice a4 m c4, .slice a5 m c5, .slice a6 m c6, .slice a7 m c7, .slice a8 m c8] 32).alloc (.cells #[.slice ra m rc, .slice ea n ec, .slice za n zc] 29)).alloc (.cells #[.slice none 0 0, .slice none 0 0, .slice none 0 0] 29))
  have HP := Lib.hid ((Blk.new (w.alloc (.cells #[.int .i64 N, .int .i64 S, .int .i64 T, .slice a3 (n + 1) c3, .slice a4 m c4, .slice a5 m c5, .slice a6 m c6, .slice a7 m c7, .slice a8 m c8] 32)) #[.slice ra m rc, .slice ea n ec, .slice za n zc] 29).alloc (.cells #[.slice none 0 0, .slice none 0 0, .slice none 0 0] 29))
  have HQ := Lib.hid (Blk.new ((w.alloc (.cells #[.int .i64 N, .int .i64 S, .int .i64 T, .slice a3 (n + 1) c3, .slice a4 m c4, .slice a5 m c5, .slice a6 m c6, .slice a7 m c7, .slice a8 m c8] 32)).alloc (.cells #[.slice ra m rc, .slice ea n ec, .slice za n zc] 29)) #[.slice none 0 0, .slice none 0 0, .slice none 0 0] 29)
  rw [hs1] at HP
  rw [hs2] at HQ
  have HG := Lib.hid hg
  have hl16 := hg.len
  have HOW := fun (W : World) (k : Kept w W) => Lib.hid (own_any p n m ra rc ea ec za zc W (hr.kept k) (he.kept k) (hz.kept k) hok s1 s2 s3 (by omega) (by omega))
  have HCR := Lib.hid hcr
  have HL := Lib.hid hl
  have HWT := Lib.hid hwt
  obtain ⟨RR, hRR⟩ : ∃ r, runP N S T n ys evs p = r := ⟨_, rfl⟩
  rw [hRR]
  have HRR := Lib.hid hRR
  have HLM : Hid (n ≤ 16 ∧ m ≤ 640 ∧ evs.length ≤ 1000000) := Lib.hid (by omega)
  clear hg hcr hok hr he hz s1 s2 s3 hl hwt hl16 hRR
  go_enter Try.func19, Try.ntmps19
  go_upto_region 1 with (fail)
  try rw [hs2]
  try rw [hs1]
  clear hs1 hs2
  generalize (((w.alloc (.cells #[.int .i64 N, .int .i64 S, .int .i64 T, .slice a3 (n + 1) c3, .slice a4 m c4, .slice a5 m c5, .slice a6 m c6, .slice a7 m c7, .slice a8 m c8] 32)).alloc (.cells #[.slice ra m rc, .slice ea n ec, .slice za n zc] 29)).alloc (.cells #[.slice none 0 0, .slice none 0 0, .slice none 0 0] 29)) = W3 at HK HB HP HQ ⊢
  have HSZ : Hid (w.heap.size + 1 + 1 < W3.heap.size) := Lib.hid HQ.out.lt
  have HQB : Hid (w.heap.size ≤ w.heap.size + 1 + 1) := Lib.hid (by omega)
  generalize w.heap.size + 1 + 1 = qb at HQ HSZ HQB ⊢
  generalize w.heap.size + 1 = pb at HP ⊢
  generalize w.heap.size = cb at HB ⊢
  have hz9 : Hid ((Try.prog.info? 32).map (·.size) = some 9) := Lib.hid (by kernel_rfl)
  have hz12 : Hid ((Try.prog.info? 73).map (·.size) = some 12) := Lib.hid (by kernel_rfl)
  have HLT : Hid (cb < W3.heap.size ∧ pb < W3.heap.size ∧ qb < W3.heap.size) := Lib.hid ⟨HB.out.lt, HP.out.lt, HQ.out.lt⟩
  have Q0 : Hid (RunQ w W3 cb pb qb #[.int .i64 N, .int .i64 S, .int .i64 T, .slice a3 (n + 1) c3, .slice a4 m c4, .slice a5 m c5, .slice a6 m c6, .slice a7 m c7, .slice a8 m c8] #[.slice ra m rc, .slice ea n ec, .slice za n zc] W3.drew) := Lib.hid ⟨HK.out.drew, (Upd.refl _ _).drew, HB.out.kept (Upd.refl _ _).drew, HP.out.kept (Upd.refl _ _).drew, HQ.out.kept (Upd.refl _ _).drew⟩
  clear HB HP HQ
  obtain ⟨JI, HJI⟩ : ∃ JI : Bool → Bool → Bool → Bool → Bool → Bool → Value → Value → Value → Value → Value → Nat → World → Prop, Hid (∀ (b0 b1 b2 b3 b4 b5 : Bool) (v13 v14 v15 v16 v9 : Value) (sb : Nat) (W : World), JI b0 b1 b2 b3 b4 b5 v13 v14 v15 v16 v9 sb W ↔ (Hid (RunQ w W3 cb pb qb #[.int .i64 N, .int .i64 S, .int .i64 T, .slice a3 (n + 1) c3, .slice a4 m c4, .slice a5 m c5, .slice a6 m c6, .slice a7 m c7, .slice a8 m c8] #[.slice ra m rc, .slice ea n ec, .slice za n zc] W) ∧
    Hid (b0 = true → v13 = .agg #[.int .i64 N, .int .i64 S, .int .i64 T, .slice a3 (n + 1) c3, .slice a4 m c4, .slice a5 m c5, .slice a6 m c6, .slice a7 m c7, .slice a8 m c8]) ∧
    Hid (b1 = true → v14 = .agg #[.slice ra m rc, .slice ea n ec, .slice za n zc]) ∧
    Hid (b2 = true → OwnV v15 p n m W3.heap.size W) ∧
    Hid (b3 = true → b2 = true ∧ ∃ oa oc qa qc ha hc, v15 = .agg #[.slice oa m oc, .slice qa n qc, .slice ha n hc] ∧ v16 = .agg #[.int .i64 N, .int .i64 S, .int .i64 T, .slice a3 (n + 1) c3, .slice a4 m c4, .slice a5 m c5, .slice a6 m c6, .slice a7 m c7, .slice a8 m c8, .slice oa m oc, .slice qa n qc, .slice ha n hc]) ∧
    Hid (b5 = true → b3 = true) ∧
    Hid (b5 = true → b4 = true) ∧
    Hid (b4 = true → v9 = .pointer (some ⟨sb, 0, none⟩) ∧ W3.heap.size ≤ sb ∧ Blk W sb (if b5 then aggOf v16 else #[.int .i64 0, .int .i64 0, .int .i64 0, .slice none 0 0, .slice none 0 0, .slice none 0 0, .slice none 0 0, .slice none 0 0, .slice none 0 0, .slice none 0 0, .slice none 0 0, .slice none 0 0]) 73))) := ⟨fun b0 b1 b2 b3 b4 b5 v13 v14 v15 v16 v9 sb W => (Hid (RunQ w W3 cb pb qb #[.int .i64 N, .int .i64 S, .int .i64 T, .slice a3 (n + 1) c3, .slice a4 m c4, .slice a5 m c5, .slice a6 m c6, .slice a7 m c7, .slice a8 m c8] #[.slice ra m rc, .slice ea n ec, .slice za n zc] W) ∧
    Hid (b0 = true → v13 = .agg #[.int .i64 N, .int .i64 S, .int .i64 T, .slice a3 (n + 1) c3, .slice a4 m c4, .slice a5 m c5, .slice a6 m c6, .slice a7 m c7, .slice a8 m c8]) ∧
    Hid (b1 = true → v14 = .agg #[.slice ra m rc, .slice ea n ec, .slice za n zc]) ∧
    Hid (b2 = true → OwnV v15 p n m W3.heap.size W) ∧
    Hid (b3 = true → b2 = true ∧ ∃ oa oc qa qc ha hc, v15 = .agg #[.slice oa m oc, .slice qa n qc, .slice ha n hc] ∧ v16 = .agg #[.int .i64 N, .int .i64 S, .int .i64 T, .slice a3 (n + 1) c3, .slice a4 m c4, .slice a5 m c5, .slice a6 m c6, .slice a7 m c7, .slice a8 m c8, .slice oa m oc, .slice qa n qc, .slice ha n hc]) ∧
    Hid (b5 = true → b3 = true) ∧
    Hid (b5 = true → b4 = true) ∧
    Hid (b4 = true → v9 = .pointer (some ⟨sb, 0, none⟩) ∧ W3.heap.size ≤ sb ∧ Blk W sb (if b5 then aggOf v16 else #[.int .i64 0, .int .i64 0, .int .i64 0, .slice none 0 0, .slice none 0 0, .slice none 0 0, .slice none 0 0, .slice none 0 0, .slice none 0 0, .slice none 0 0, .slice none 0 0, .slice none 0 0]) 73)), Lib.hid (fun _ _ _ _ _ _ _ _ _ _ _ _ _ => Iff.rfl)⟩
  refine wp_region_inv (fun l us W => ∃ (b0 b1 b2 b3 b4 b5 : Bool) (v13 v14 v15 v16 v9 : Value) (sb : Nat), l = #[b0, b1, b2, b3, b4, b5] ∧ us = [v13, v14, v15, v16, v9] ∧ JI b0 b1 b2 b3 b4 b5 v13 v14 v15 v16 v9 sb W) [13, 14, 15, 16, 9] [undef, undef, undef, undef, undef] (by kernel_rfl) (by kernel_rfl) (by simp only [putAll, Act.put, List.setIfInBounds_toArray, List.set_cons_zero, List.set_cons_succ]) ?_ ?_ ?_
  · exact ⟨false, false, false, false, false, false, _, _, _, _, _, 0, rfl, rfl, (HJI.out _ _ _ _ _ _ _ _ _ _ _ _ _ ).2 ⟨Lib.hid (Q0.out), Lib.hid (by simp), Lib.hid (by simp), Lib.hid (by simp), Lib.hid (by simp), Lib.hid (by simp), Lib.hid (by simp), Lib.hid (by simp)⟩⟩
  · rintro i l us W ⟨b0, b1, b2, b3, b4, b5, v13, v14, v15, v16, v9, sb, rfl, rfl, hJI⟩ hr
    have hi : i = 0 ∨ i = 1 ∨ i = 2 ∨ i = 3 ∨ i = 4 ∨ i = 5 := by
      have := ready_lt hr
      simp at this
      omega
    rcases hi with rfl | rfl | rfl | rfl | rfl | rfl
    · skip
      obtain ⟨hI, h0, h1, h2, h3, L5, g5, h4⟩ := (HJI.out _ _ _ _ _ _ _ _ _ _ _ _ _ ).1 hJI
      obtain ⟨hn, hd⟩ := ready_at hr rfl
      simp [Region.binds] at hn hd
      refine wpOp_step (o := ⟨some 13, .load 32 (.tmp 3), 32, _, _, none⟩) rfl (fun K' hK => ?_)
      simp only [putAll, Act.put, List.setIfInBounds_toArray, List.set_cons_zero, List.set_cons_succ]
      refine wp_load_mid 32 (.tmp 3) rfl cb 0 rfl [.int .i64 N, .int .i64 S, .int .i64 T, .slice a3 (n + 1) c3, .slice a4 m c4, .slice a5 m c5, .slice a6 m c6, .slice a7 m c7, .slice a8 m c8] _ (Blk.range hI.out.c) Try.underlying32 rfl hz9.out ?_
      exact hK _ _ ⟨_, by simp only [putAll, Act.put, List.setIfInBounds_toArray, List.set_cons_zero, List.set_cons_succ], true, b1, b2, b3, b4, b5, _, _, _, _, _, sb, rfl, rfl, (HJI.out _ _ _ _ _ _ _ _ _ _ _ _ _ ).2 ⟨hI, Lib.hid (fun _ => rfl), h1, h2, h3, L5, g5, h4⟩⟩
    · skip
      obtain ⟨hI, h0, h1, h2, h3, L5, g5, h4⟩ := (HJI.out _ _ _ _ _ _ _ _ _ _ _ _ _ ).1 hJI
      obtain ⟨hn, hd⟩ := ready_at hr rfl
      simp [Region.binds] at hn hd
      have px := hI.out.p.cell
      refine wpOp_step rfl (fun K' hK => ?_)
      simp only [putAll, Act.put, List.setIfInBounds_toArray, List.set_cons_zero, List.set_cons_succ]
      go_simp
      exact hK _ _ ⟨_, by simp only [putAll, Act.put, List.setIfInBounds_toArray, List.set_cons_zero, List.set_cons_succ], b0, true, b2, b3, b4, b5, _, _, _, _, _, sb, rfl, rfl, (HJI.out _ _ _ _ _ _ _ _ _ _ _ _ _ ).2 ⟨hI, h0, Lib.hid (fun _ => rfl), h2, h3, L5, g5, h4⟩⟩
    · skip
      obtain ⟨hI, h0, h1, h2, h3, L5, g5, h4⟩ := (HJI.out _ _ _ _ _ _ _ _ _ _ _ _ _ ).1 hJI
      obtain ⟨hn, hd⟩ := ready_at hr rfl
      simp [Region.binds] at hn hd
      obtain rfl := h1.out (by simp [hd])
      refine wpOp_step rfl (fun K' hK => ?_)
      simp only [putAll, Act.put, List.setIfInBounds_toArray, List.set_cons_zero, List.set_cons_succ]
      go_simp
      refine (HOW _ hI.out.w).out.mono ?_
      rintro e w' ⟨oa, oc, qa, qc, ha, hc, rfl, hO, hk⟩
      exact hK _ _ ⟨_, by simp only [putAll, Act.put, List.setIfInBounds_toArray, List.set_cons_zero, List.set_cons_succ], b0, b1, true, b3, b4, b5, _, _, _, v16, _, sb, rfl, rfl, (HJI.out _ _ _ _ _ _ _ _ _ _ _ _ _ ).2 ⟨(Lib.hid (hI.out.kept hk)), h0, h1, Lib.hid (fun _ => ⟨oa, oc, qa, qc, ha, hc, rfl, hO.mono hI.out.k.size⟩), Lib.hid (fun hb => (by have := (h3.out hb).1; rw [hn] at this; cases this)), L5, g5, Lib.hid (fun hb => ⟨(h4.out hb).1, (h4.out hb).2.1, (h4.out hb).2.2.kept hk⟩)⟩⟩
    · skip
      obtain ⟨hI, h0, h1, h2, h3, L5, g5, h4⟩ := (HJI.out _ _ _ _ _ _ _ _ _ _ _ _ _ ).1 hJI
      obtain ⟨hn, hd⟩ := ready_at hr rfl
      simp [Region.binds] at hn hd
      obtain rfl := h0.out (by simp [hd])
      have hb5 : b5 = false := by cases b5 with | false => rfl | true => exact absurd ((L5.out rfl).symm.trans hn) (by decide)
      subst hb5
      obtain ⟨oa, oc, qa, qc, ha, hc, rfl, hO⟩ := h2.out (by simp [hd])
      refine wpOp_step rfl (fun K' hK => ?_)
      simp only [putAll, Act.put, List.setIfInBounds_toArray, List.set_cons_zero, List.set_cons_succ]
      go_simp
      exact hK _ _ ⟨_, by simp only [putAll, Act.put, List.setIfInBounds_toArray, List.set_cons_zero, List.set_cons_succ], b0, b1, b2, true, b4, false, _, _, .agg #[.slice oa m oc, .slice qa n qc, .slice ha n hc], (.agg #[.int .i64 N, .int .i64 S, .int .i64 T, .slice a3 (n + 1) c3, .slice a4 m c4, .slice a5 m c5, .slice a6 m c6, .slice a7 m c7, .slice a8 m c8, .slice oa m oc, .slice qa n qc, .slice ha n hc]), _, sb, rfl, rfl, (HJI.out _ _ _ _ _ _ _ _ _ _ _ _ _ ).2 ⟨hI, h0, h1, h2, Lib.hid (fun _ => ⟨(by simp [hd]), oa, oc, qa, qc, ha, hc, rfl, rfl⟩), Lib.hid (fun h => (by cases h)), Lib.hid (fun h => (by cases h)), Lib.hid (fun hb => h4.out hb)⟩⟩
    · skip
      obtain ⟨hI, h0, h1, h2, h3, L5, g5, h4⟩ := (HJI.out _ _ _ _ _ _ _ _ _ _ _ _ _ ).1 hJI
      obtain ⟨hn, hd⟩ := ready_at hr rfl
      simp [Region.binds] at hn hd
      have hb5 : b5 = false := by cases b5 with | false => rfl | true => exact absurd ((g5.out rfl).symm.trans hn) (by decide)
      subst hb5
      refine wpOp_step rfl (fun K' hK => ?_)
      simp only [putAll, Act.put, List.setIfInBounds_toArray, List.set_cons_zero, List.set_cons_succ]
      go_simp
      exact hK _ _ ⟨_, by simp only [putAll, Act.put, List.setIfInBounds_toArray, List.set_cons_zero, List.set_cons_succ], b0, b1, b2, b3, true, false, _, _, _, _, _, W.heap.size, rfl, rfl, (HJI.out _ _ _ _ _ _ _ _ _ _ _ _ _ ).2 ⟨(Lib.hid (hI.out.kept ((Upd.refl _ _).alloc _))), h0, h1, Lib.hid (fun hb => (h2.out hb).kept ((Upd.refl _ _).alloc _)), h3, Lib.hid (fun h => (by cases h)), Lib.hid (fun h => (by cases h)), Lib.hid (fun _ => ⟨rfl, hI.out.k.size, Blk.new _ _ _⟩)⟩⟩
    · skip
      obtain ⟨hI, h0, h1, h2, h3, L5, g5, h4⟩ := (HJI.out _ _ _ _ _ _ _ _ _ _ _ _ _ ).1 hJI
      obtain ⟨hn, hd⟩ := ready_at hr rfl
      simp [Region.binds] at hn hd
      obtain rfl : b5 = false := hn
      obtain ⟨rfl, hx, hbk0⟩ := h4.out (by simp [hd])
      have hbk : Blk W sb #[.int .i64 0, .int .i64 0, .int .i64 0, .slice none 0 0, .slice none 0 0, .slice none 0 0, .slice none 0 0, .slice none 0 0, .slice none 0 0, .slice none 0 0, .slice none 0 0, .slice none 0 0] 73 := hbk0
      obtain ⟨-, oa, oc, qa, qc, ha, hc, rfl, rfl⟩ := h3.out (by simp [hd])
      refine wpOp_step (o := ⟨none, .store 73 (.tmp 9) (.tmp 16), 0, _, _, none⟩) rfl (fun K' hK => ?_)
      simp only [putAll, Act.put, List.setIfInBounds_toArray, List.set_cons_zero, List.set_cons_succ]
      refine wp_store_mid 73 (.tmp 9) (.tmp 16) rfl sb 0 #[.int .i64 N, .int .i64 S, .int .i64 T, .slice a3 (n + 1) c3, .slice a4 m c4, .slice a5 m c5, .slice a6 m c6, .slice a7 m c7, .slice a8 m c8, .slice oa m oc, .slice qa n qc, .slice ha n hc] rfl rfl (Blk.there hbk 12 rfl) hz12.out (all_oneCell_toArray (cs := [.int .i64 N, .int .i64 S, .int .i64 T, .slice a3 (n + 1) c3, .slice a4 m c4, .slice a5 m c5, .slice a6 m c6, .slice a7 m c7, .slice a8 m c8, .slice oa m oc, .slice qa n qc, .slice ha n hc]) (by simp [Value.oneCell'])) ?_
      have hs := hbk.alls [.int .i64 N, .int .i64 S, .int .i64 T, .slice a3 (n + 1) c3, .slice a4 m c4, .slice a5 m c5, .slice a6 m c6, .slice a7 m c7, .slice a8 m c8, .slice oa m oc, .slice qa n qc, .slice ha n hc] rfl
      exact hK _ _ ⟨_, by simp only [putAll, Act.put, List.setIfInBounds_toArray, List.set_cons_zero, List.set_cons_succ], b0, b1, b2, b3, b4, true, _, _, _, _, _, sb, rfl, rfl, (HJI.out _ _ _ _ _ _ _ _ _ _ _ _ _ ).2 ⟨(Lib.hid (hI.out.upd hs.2 hx HK.out HLT.out)), h0, h1, Lib.hid (fun hb => (by obtain ⟨oa, oc, qa, qc, ha, hc, e, hO⟩ := h2.out hb; exact ⟨oa, oc, qa, qc, ha, hc, e, hO.upd hs.2 (fun j hj e => by subst e; exact hO.box hbk (by decide) (by decide) hj)⟩)), h3, Lib.hid (fun _ => (by simp [hd])), Lib.hid (fun _ => (by simp [hd])), Lib.hid (fun _ => ⟨rfl, hx, hs.1⟩)⟩⟩
  · rintro l us W ⟨b0, b1, b2, b3, b4, b5, v13, v14, v15, v16, v9, sb, rfl, rfl, hJI⟩ hall
    as_aux_lemma =>
    obtain ⟨hI, h0, h1, h2, h3, L5, g5, h4⟩ := (HJI.out _ _ _ _ _ _ _ _ _ _ _ _ _ ).1 hJI
    clear hJI
    obtain rfl : b0 = true := by simpa using hall 0
    obtain rfl : b1 = true := by simpa using hall 1
    obtain rfl : b2 = true := by simpa using hall 2
    obtain rfl : b3 = true := by simpa using hall 3
    obtain rfl : b4 = true := by simpa using hall 4
    obtain rfl : b5 = true := by simpa using hall 5
    obtain rfl := h0.out rfl
    obtain rfl := h1.out rfl
    obtain ⟨-, oa, oc, qa, qc, ha, hc, rfl, rfl⟩ := h3.out rfl
    obtain ⟨rfl, hx, hB⟩ := h4.out rfl
    obtain ⟨oa', oc', qa', qc', ha', hc', e, hO⟩ := h2.out rfl
    cases e
    have Y1 : Hid (Kept W3 W ∧ OwnP W W3.heap.size p n m oa oc qa qc ha hc ∧ Blk W cb #[.int .i64 N, .int .i64 S, .int .i64 T, .slice a3 (n + 1) c3, .slice a4 m c4, .slice a5 m c5, .slice a6 m c6, .slice a7 m c7, .slice a8 m c8] 32 ∧ Blk W qb #[.slice none 0 0, .slice none 0 0, .slice none 0 0] 29 ∧ Blk W sb #[.int .i64 N, .int .i64 S, .int .i64 T, .slice a3 (n + 1) c3, .slice a4 m c4, .slice a5 m c5, .slice a6 m c6, .slice a7 m c7, .slice a8 m c8, .slice oa m oc, .slice qa n qc, .slice ha n hc] 73) := Lib.hid ⟨hI.out.k, hO, hI.out.c, hI.out.q, hB⟩
    have HQB : Hid (w.heap.size ≤ qb) := HQB
    clear h0 h1 h2 h3 h4 L5 g5 hall hB hO hx hI HLT Q0 HOW
    simp only [putAll, Act.put, List.setIfInBounds_toArray, List.set_cons_zero, List.set_cons_succ]
    obtain ⟨NE, hNE⟩ : ∃ q, evs.length = q := ⟨_, rfl⟩
    have HNE := Lib.hid hNE
    rw [hNE] at hlm
    rw [hNE]
    clear hNE
    go_wp2_with fail
    have HRI : Hid (RR = ((runP N S T n ys (evs.drop 0) p).1, (runP N S T n ys (evs.drop 0) p).2.1 + 0, (runP N S T n ys (evs.drop 0) p).2.2)) := Lib.hid (by rw [List.drop_zero, HRR.out]; rfl)
    clear HRR
    go_loopw [19] (fun cx wr => ∃ (k : Nat) (p1 : PS), cx = .int .i64 k ∧ k ≤ NE ∧ Hid (Kept W3 wr ∧ OwnP wr W3.heap.size p1 n m oa oc qa qc ha hc ∧ Blk wr cb #[.int .i64 N, .int .i64 S, .int .i64 T, .slice a3 (n + 1) c3, .slice a4 m c4, .slice a5 m c5, .slice a6 m c6, .slice a7 m c7, .slice a8 m c8] 32 ∧ Blk wr qb #[.slice none 0 0, .slice none 0 0, .slice none 0 0] 29 ∧ Blk wr sb #[.int .i64 N, .int .i64 S, .int .i64 T, .slice a3 (n + 1) c3, .slice a4 m c4, .slice a5 m c5, .slice a6 m c6, .slice a7 m c7, .slice a8 m c8, .slice oa m oc, .slice qa n qc, .slice ha n hc] 73) ∧ Hid (RR = ((runP N S T n ys (evs.drop k) p1).1, (runP N S T n ys (evs.drop k) p1).2.1 + k, (runP N S T n ys (evs.drop k) p1).2.2))) (fun cx _ => NE - (intOf cx).toNat)
    case atStart => exact ⟨0, p, rfl, by omega, Y1, HRI⟩
    case round =>
      clear Y1 HRI
      obtain ⟨k, p1, rfl, hk, Y1, HRI⟩ := hrel
      by_cases hlt : k < NE
      · as_aux_lemma =>
        have hkl : k < evs.length := by have := HNE.out; omega
        obtain ⟨b, off, rfl, hcs⟩ := HL.out.resolve_left (by omega)
        have HRF := Lib.hid (run_first (N := N) (S := S) (T := T) (n := n) (ys := ys) hkl p1)
        obtain ⟨ev, hev⟩ : ∃ ev, evs[k] = ev := ⟨_, rfl⟩
        have hwt := HWT.out evs[k] (List.getElem_mem hkl)
        rw [hev] at hwt HRF
        have hraE : wr.rangeAt b (off + k * 7) ev.cells := by
          intro j v hv
          rw [← hev] at hv
          exact (keptCells (HK.out.trans Y1.out.1) _ (by rw [hcs k hkl j v hv]; rfl)).trans (hcs k hkl j v hv)
        obtain ⟨who, wt, u, ar, d, h, lo⟩ := ev
        simp only [Ev.cells] at hraE
        have hwt : (Lit.int .u8 wt).wf = true := hwt
        have i1 : (0 : Int) ≤ (k : Int) := by omega
        have i2 : (k : Int) < (NE : Int) := by omega
        have hz7 : (Try.prog.info? 39).map (·.size) = some 7 := by kernel_rfl
        have hZ := Blk.new wr #[.int .i64 0, .int .u8 0, .int .i64 0, .int .i64 0, .int .i64 0, .int .i64 0, .int .i64 0] 39
        have hth := Blk.there hZ 7 rfl
        obtain ⟨W4, hW4⟩ : ∃ W4, (wr.alloc (.cells #[.int .i64 0, .int .u8 0, .int .i64 0, .int .i64 0, .int .i64 0, .int .i64 0, .int .i64 0] 39)).setCells wr.heap.size 0 [.int .i64 who, .int .u8 wt, .int .i64 u, .int .i64 ar, .int .i64 d, .int .i64 h, .int .i64 lo] = W4 := ⟨_, rfl⟩
        have hB4 : Blk W4 wr.heap.size #[.int .i64 who, .int .u8 wt, .int .i64 u, .int .i64 ar, .int .i64 d, .int .i64 h, .int .i64 lo] 39 ∧ Upd (fun k => k = wr.heap.size) (wr.alloc (.cells #[.int .i64 0, .int .u8 0, .int .i64 0, .int .i64 0, .int .i64 0, .int .i64 0, .int .i64 0] 39)) W4 := by rw [← hW4]; exact Blk.alls hZ [.int .i64 who, .int .u8 wt, .int .i64 u, .int .i64 ar, .int .i64 d, .int .i64 h, .int .i64 lo] rfl
        have HEB := Lib.hid hB4.1
        have KW := Lib.hid (show Kept wr W4 from ((Upd.refl (fun _ => False) wr).alloc _).then hB4.2 (fun i hi e => by omega))
        clear hB4 hZ hev hcs
        go_upto_region 5 with (first | (refine wpList_load_mid rfl _ _ rfl b (off + k * 7) rfl [.int .i64 who, .int .u8 wt, .int .i64 u, .int .i64 ar, .int .i64 d, .int .i64 h, .int .i64 lo] _ hraE Try.underlying39 rfl hz7 ?_) | (refine wpList_store_mid rfl _ _ _ rfl wr.heap.size 0 #[.int .i64 who, .int .u8 wt, .int .i64 u, .int .i64 ar, .int .i64 d, .int .i64 h, .int .i64 lo] rfl rfl hth hz7 (all_oneCell_toArray (cs := [.int .i64 who, .int .u8 wt, .int .i64 u, .int .i64 ar, .int .i64 d, .int .i64 h, .int .i64 lo]) (by simp [Value.oneCell'])) ?_; simp only [hW4]) | fail)
        clear hth hW4 hraE
        have Y4 : Hid (Kept W3 W4 ∧ OwnP W4 W3.heap.size p1 n m oa oc qa qc ha hc ∧ Blk W4 cb #[.int .i64 N, .int .i64 S, .int .i64 T, .slice a3 (n + 1) c3, .slice a4 m c4, .slice a5 m c5, .slice a6 m c6, .slice a7 m c7, .slice a8 m c8] 32 ∧ Blk W4 qb #[.slice none 0 0, .slice none 0 0, .slice none 0 0] 29 ∧ Blk W4 sb #[.int .i64 N, .int .i64 S, .int .i64 T, .slice a3 (n + 1) c3, .slice a4 m c4, .slice a5 m c5, .slice a6 m c6, .slice a7 m c7, .slice a8 m c8, .slice oa m oc, .slice qa n qc, .slice ha n hc] 73) := Lib.hid ⟨Y1.out.1.trans KW.out, Y1.out.2.1.kept KW.out, Y1.out.2.2.1.kept KW.out, Y1.out.2.2.2.1.kept KW.out, Y1.out.2.2.2.2.kept KW.out⟩
        generalize wr.heap.size = eb at HEB ⊢
        clear Y1 KW
        obtain ⟨LL, hLL⟩ : ∃ q, legalP N S T ys p1 ⟨who, wt, u, ar, d, h, lo⟩ = q := ⟨_, rfl⟩
        have HLL := Lib.hid hLL
        have HLG := Lib.hid (show Calls Try.prog 16 #[.agg #[.int .i64 N, .int .i64 S, .int .i64 T, .slice a3 (n + 1) c3, .slice a4 m c4, .slice a5 m c5, .slice a6 m c6, .slice a7 m c7, .slice a8 m c8], .agg #[.slice oa m oc, .slice qa n qc, .slice ha n hc], .agg #[.int .i64 who, .int .u8 wt, .int .i64 u, .int .i64 ar, .int .i64 d, .int .i64 h, .int .i64 lo]] W4 fun e w' => e = .returned (.int .i64 LL) ∧ Kept W4 w' by rw [← hLL]; exact legal_any N S T n m a3 a4 a5 a6 a7 a8 c3 c4 c5 c6 c7 c8 ys p1 oa oc qa qc ha hc who wt u ar d h lo W4 HG.out (HCR.out.kept (HK.out.trans Y4.out.1)) Y4.out.2.1.ok Y4.out.2.1.rd.1 Y4.out.2.1.rd.2.1 Y4.out.2.1.rd.2.2.1 hwt)
        clear hLL
        have hra9 := Blk.range Y4.out.2.2.1
        have sx := Y4.out.2.2.2.2.cell
        have hraE := Blk.range HEB.out
        by_cases hL0 : LL = 0
        · as_aux_lemma =>
          subst hL0
          go_wp2_with (first | (refine wpList_load_mid rfl _ _ rfl cb 0 rfl [.int .i64 N, .int .i64 S, .int .i64 T, .slice a3 (n + 1) c3, .slice a4 m c4, .slice a5 m c5, .slice a6 m c6, .slice a7 m c7, .slice a8 m c8] _ hra9 Try.underlying32 rfl hz9.out ?_) | (refine wpList_load_mid rfl _ _ rfl eb 0 rfl [.int .i64 who, .int .u8 wt, .int .i64 u, .int .i64 ar, .int .i64 d, .int .i64 h, .int .i64 lo] _ hraE Try.underlying39 rfl hz7 ?_) | fail)
          refine HLG.out.mono ?_
          rintro e W5 ⟨rfl, hk5⟩
          have Y5 : Hid (Kept W3 W5 ∧ OwnP W5 W3.heap.size p1 n m oa oc qa qc ha hc ∧ Blk W5 cb #[.int .i64 N, .int .i64 S, .int .i64 T, .slice a3 (n + 1) c3, .slice a4 m c4, .slice a5 m c5, .slice a6 m c6, .slice a7 m c7, .slice a8 m c8] 32 ∧ Blk W5 qb #[.slice none 0 0, .slice none 0 0, .slice none 0 0] 29 ∧ Blk W5 sb #[.int .i64 N, .int .i64 S, .int .i64 T, .slice a3 (n + 1) c3, .slice a4 m c4, .slice a5 m c5, .slice a6 m c6, .slice a7 m c7, .slice a8 m c8, .slice oa m oc, .slice qa n qc, .slice ha n hc] 73) := Lib.hid ⟨Y4.out.1.trans hk5, Y4.out.2.1.kept hk5, Y4.out.2.2.1.kept hk5, Y4.out.2.2.2.1.kept hk5, Y4.out.2.2.2.2.kept hk5⟩
          have HEB5 := Lib.hid (HEB.out.kept hk5)
          have HRI2 : Hid (RR = ((runP N S T n ys (evs.drop (k + 1)) (doesP n ys p1 ⟨who, wt, u, ar, d, h, lo⟩)).1, (runP N S T n ys (evs.drop (k + 1)) (doesP n ys p1 ⟨who, wt, u, ar, d, h, lo⟩)).2.1 + (k + 1), (runP N S T n ys (evs.drop (k + 1)) (doesP n ys p1 ⟨who, wt, u, ar, d, h, lo⟩)).2.2)) := Lib.hid (by
            have h := HRI.out
            rw [HRF.out, if_pos HLL.out] at h
            rw [h]
            simp only [Prod.mk.injEq, true_and, and_true]
            omega)
          have hin := legal_in HG.out HLL.out
          have HDO := Lib.hid (does_any N S T n m a3 a4 a5 a6 a7 a8 c3 c4 c5 c6 c7 c8 ys p1 oa oc qa qc ha hc who wt u ar d h lo W3 W5 HG.out (HCR.out.kept HK.out) Y5.out.1 Y5.out.2.1 hin.1 hin.2.1 hin.2.2.2.2.2)
          clear hin hk5 HLG hra9 sx hraE Y4 HEB HRI HRF HLL
          have hraS := Blk.range Y5.out.2.2.2.2
          have ex := HEB5.out.cell
          go_wp2_with (first | (refine wpList_load_mid rfl _ _ rfl sb 0 rfl [.int .i64 N, .int .i64 S, .int .i64 T, .slice a3 (n + 1) c3, .slice a4 m c4, .slice a5 m c5, .slice a6 m c6, .slice a7 m c7, .slice a8 m c8, .slice oa m oc, .slice qa n qc, .slice ha n hc] _ hraS Try.underlying73 rfl hz12.out ?_) | fail)
          refine HDO.out.mono ?_
          rintro e W6 ⟨rfl, hO6, hk6, hu6⟩
          have Y6 : Hid (Kept W3 W6 ∧ OwnP W6 W3.heap.size (doesP n ys p1 ⟨who, wt, u, ar, d, h, lo⟩) n m oa oc qa qc ha hc ∧ Blk W6 cb #[.int .i64 N, .int .i64 S, .int .i64 T, .slice a3 (n + 1) c3, .slice a4 m c4, .slice a5 m c5, .slice a6 m c6, .slice a7 m c7, .slice a8 m c8] 32 ∧ Blk W6 qb #[.slice none 0 0, .slice none 0 0, .slice none 0 0] 29 ∧ Blk W6 sb #[.int .i64 N, .int .i64 S, .int .i64 T, .slice a3 (n + 1) c3, .slice a4 m c4, .slice a5 m c5, .slice a6 m c6, .slice a7 m c7, .slice a8 m c8, .slice oa m oc, .slice qa n qc, .slice ha n hc] 73) := Lib.hid ⟨hk6, hO6, Y5.out.2.2.1.upd hu6 (Y5.out.2.1.box Y5.out.2.2.1 (by decide) (by decide)), Y5.out.2.2.2.1.upd hu6 (Y5.out.2.1.box Y5.out.2.2.2.1 (by decide) (by decide)), Y5.out.2.2.2.2.upd hu6 (Y5.out.2.1.box Y5.out.2.2.2.2 (by decide) (by decide))⟩
          clear hO6 hk6 hu6 HDO Y5 HEB5 hraS ex
          have hwk : wrap64 ((k : Int) + 1) = ((k + 1 : Nat) : Int) := by unfold wrap64; omega
          go_wp2_with fail
          go_roundw
          case rel => exact ⟨k + 1, _, by go_num, by omega, Y6, HRI2⟩
          case measure => simp [intOf]; omega
        · as_aux_lemma =>
          have b0 : (LL != 0) = true := by simpa using hL0
          go_wp2_with (first | (refine wpList_load_mid rfl _ _ rfl cb 0 rfl [.int .i64 N, .int .i64 S, .int .i64 T, .slice a3 (n + 1) c3, .slice a4 m c4, .slice a5 m c5, .slice a6 m c6, .slice a7 m c7, .slice a8 m c8] _ hra9 Try.underlying32 rfl hz9.out ?_) | (refine wpList_load_mid rfl _ _ rfl eb 0 rfl [.int .i64 who, .int .u8 wt, .int .i64 u, .int .i64 ar, .int .i64 d, .int .i64 h, .int .i64 lo] _ hraE Try.underlying39 rfl hz7 ?_) | fail)
          refine HLG.out.mono ?_
          rintro e W5 ⟨rfl, hk5⟩
          have Y5 : Hid (Kept W3 W5 ∧ OwnP W5 W3.heap.size p1 n m oa oc qa qc ha hc ∧ Blk W5 cb #[.int .i64 N, .int .i64 S, .int .i64 T, .slice a3 (n + 1) c3, .slice a4 m c4, .slice a5 m c5, .slice a6 m c6, .slice a7 m c7, .slice a8 m c8] 32 ∧ Blk W5 qb #[.slice none 0 0, .slice none 0 0, .slice none 0 0] 29 ∧ Blk W5 sb #[.int .i64 N, .int .i64 S, .int .i64 T, .slice a3 (n + 1) c3, .slice a4 m c4, .slice a5 m c5, .slice a6 m c6, .slice a7 m c7, .slice a8 m c8, .slice oa m oc, .slice qa n qc, .slice ha n hc] 73) := Lib.hid ⟨Y4.out.1.trans hk5, Y4.out.2.1.kept hk5, Y4.out.2.2.1.kept hk5, Y4.out.2.2.2.1.kept hk5, Y4.out.2.2.2.2.kept hk5⟩
          have HRX : Hid (RR = (p1, k, LL)) := Lib.hid (by
            have h := HRI.out
            rw [HRF.out, if_neg (by rw [HLL.out]; exact hL0), HLL.out] at h
            rw [h]
            simp)
          clear hk5 HLG hra9 sx hraE Y4 HEB HRI HRF HLL
          have qx := Y5.out.2.2.2.1.cell
          have qf := Y5.out.2.2.2.1.free
          have sx := Y5.out.2.2.2.2.cell
          have HU : Hid (Upd (fun j => j = qb) W5 (((W5.setCell ⟨qb, 0, none⟩ (.slice oa m oc)).setCell ⟨qb, 1, none⟩ (.slice qa n qc)).setCell ⟨qb, 2, none⟩ (.slice ha n hc))) := Lib.hid ((((Upd.refl (fun j => j = qb) W5).setCell (p := ⟨qb, 0, none⟩) (.inl rfl) (.slice oa m oc)).setCell (p := ⟨qb, 1, none⟩) (.inl rfl) (.slice qa n qc)).setCell (p := ⟨qb, 2, none⟩) (.inl rfl) (.slice ha n hc))
          have HQ3 : Hid (Blk (((W5.setCell ⟨qb, 0, none⟩ (.slice oa m oc)).setCell ⟨qb, 1, none⟩ (.slice qa n qc)).setCell ⟨qb, 2, none⟩ (.slice ha n hc)) qb #[.slice oa m oc, .slice qa n qc, .slice ha n hc] 29) := Lib.hid ((((Y5.out.2.2.2.1.set 0 (.slice oa m oc)).set 1 (.slice qa n qc)).set 2 (.slice ha n hc)))
          have HFO : Hid (OwnP (((W5.setCell ⟨qb, 0, none⟩ (.slice oa m oc)).setCell ⟨qb, 1, none⟩ (.slice qa n qc)).setCell ⟨qb, 2, none⟩ (.slice ha n hc)) w.heap.size p1 n m oa oc qa qc ha hc ∧ Kept w (((W5.setCell ⟨qb, 0, none⟩ (.slice oa m oc)).setCell ⟨qb, 1, none⟩ (.slice qa n qc)).setCell ⟨qb, 2, none⟩ (.slice ha n hc))) := Lib.hid ⟨(Y5.out.2.1.upd HU.out (fun j hj e => by subst e; exact Y5.out.2.1.box Y5.out.2.2.2.1 (by decide) (by decide) hj)).mono HK.out.size, (HK.out.trans Y5.out.1).then HU.out (fun i hi e => by have := HQB.out; omega)⟩
          clear Y5 HU
          go_wp2_with fail
          generalize (((W5.setCell ⟨qb, 0, none⟩ (.slice oa m oc)).setCell ⟨qb, 1, none⟩ (.slice qa n qc)).setCell ⟨qb, 2, none⟩ (.slice ha n hc)) = WF at HQ3 HFO ⊢
          have e0 : WF.cell? ⟨qb, 0, none⟩ = some (.slice oa m oc) := HQ3.out.cell 0
          have e1 : WF.cell? ⟨qb, 1, none⟩ = some (.slice qa n qc) := HQ3.out.cell 1
          have e2 : WF.cell? ⟨qb, 2, none⟩ = some (.slice ha n hc) := HQ3.out.cell 2
          refine bodyPost_ret (v := .tuple #[.agg #[.slice oa m oc, .slice qa n qc, .slice ha n hc], .int .i64 (k : Int), .int .i64 LL]) (by simp [results, Try.results19, go_sem, e0, e1, e2]) rfl ?_
          exact ⟨oa, oc, qa, qc, ha, hc, by rw [HRX.out], by rw [HRX.out]; exact HFO.out.1, HFO.out.2⟩
      · have hlt' : ¬ (k : Int) < (NE : Int) := by omega
        as_aux_lemma =>
        have HRX : Hid (RR = (p1, NE, 0)) := Lib.hid (by
          have h := HRI.out
          have hke : k = NE := by omega
          rw [List.drop_eq_nil_of_le (by have := HNE.out; omega)] at h
          rw [h, hke]
          simp [runP])
        clear HRI
        have qx := Y1.out.2.2.2.1.cell
        have qf := Y1.out.2.2.2.1.free
        have sx := Y1.out.2.2.2.2.cell
        have HU : Hid (Upd (fun j => j = qb) wr (((wr.setCell ⟨qb, 0, none⟩ (.slice oa m oc)).setCell ⟨qb, 1, none⟩ (.slice qa n qc)).setCell ⟨qb, 2, none⟩ (.slice ha n hc))) := Lib.hid ((((Upd.refl (fun j => j = qb) wr).setCell (p := ⟨qb, 0, none⟩) (.inl rfl) (.slice oa m oc)).setCell (p := ⟨qb, 1, none⟩) (.inl rfl) (.slice qa n qc)).setCell (p := ⟨qb, 2, none⟩) (.inl rfl) (.slice ha n hc))
        have HQ3 : Hid (Blk (((wr.setCell ⟨qb, 0, none⟩ (.slice oa m oc)).setCell ⟨qb, 1, none⟩ (.slice qa n qc)).setCell ⟨qb, 2, none⟩ (.slice ha n hc)) qb #[.slice oa m oc, .slice qa n qc, .slice ha n hc] 29) := Lib.hid ((((Y1.out.2.2.2.1.set 0 (.slice oa m oc)).set 1 (.slice qa n qc)).set 2 (.slice ha n hc)))
        have HFO : Hid (OwnP (((wr.setCell ⟨qb, 0, none⟩ (.slice oa m oc)).setCell ⟨qb, 1, none⟩ (.slice qa n qc)).setCell ⟨qb, 2, none⟩ (.slice ha n hc)) w.heap.size p1 n m oa oc qa qc ha hc ∧ Kept w (((wr.setCell ⟨qb, 0, none⟩ (.slice oa m oc)).setCell ⟨qb, 1, none⟩ (.slice qa n qc)).setCell ⟨qb, 2, none⟩ (.slice ha n hc))) := Lib.hid ⟨(Y1.out.2.1.upd HU.out (fun j hj e => by subst e; exact Y1.out.2.1.box Y1.out.2.2.2.1 (by decide) (by decide) hj)).mono HK.out.size, (HK.out.trans Y1.out.1).then HU.out (fun i hi e => by have := HQB.out; omega)⟩
        clear Y1 HU
        go_wp2_with fail
        generalize (((wr.setCell ⟨qb, 0, none⟩ (.slice oa m oc)).setCell ⟨qb, 1, none⟩ (.slice qa n qc)).setCell ⟨qb, 2, none⟩ (.slice ha n hc)) = WF at HQ3 HFO ⊢
        have e0 : WF.cell? ⟨qb, 0, none⟩ = some (.slice oa m oc) := HQ3.out.cell 0
        have e1 : WF.cell? ⟨qb, 1, none⟩ = some (.slice qa n qc) := HQ3.out.cell 1
        have e2 : WF.cell? ⟨qb, 2, none⟩ = some (.slice ha n hc) := HQ3.out.cell 2
        refine bodyPost_ret (v := .tuple #[.agg #[.slice oa m oc, .slice qa n qc, .slice ha n hc], .int .i64 (NE : Int), .int .i64 0]) (by simp [results, Try.results19, go_sem, e0, e1, e2]) rfl ?_
        exact ⟨oa, oc, qa, qc, ha, hc, by rw [HRX.out], by rw [HRX.out]; exact HFO.out.1, HFO.out.2⟩
    
end Go.Proofs.Ytdhimfkmgcfohaa
