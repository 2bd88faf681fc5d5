/- The law FlagsTells. -/
import Derived.Test.YtnhedibdecileaaAwake12
import Derived.Test.YtnhedibdecileaaBankAll
import Derived.Test.YtnhedibdecileaaSame11
import Derived.Test.YtnhedibdecileaaRefFlags
import Derived.Test.YtnhedibdecileaaFlagsElse
import Derived.Deep.RegionHeld3
import Derived.Deep.CutRange
namespace Go.Proofs.Ytnhedibdecileaa
set_option linter.unusedVariables false
open Go.RowKit

theorem fop_of {e : List Value} (hf : fits [some .u8, none, none] e) : ∃ x fr again, e = [.int .u8 x, .bool fr, .bool again] ∧ 0 ≤ x ∧ x ≤ 255 := by
  obtain ⟨x1, u1, e1, h1, f1⟩ := fits_int hf
  obtain ⟨x2, u2, e2, f2⟩ := fits_bool f1
  obtain ⟨x3, u3, e3, f3⟩ := fits_bool f2
  exact ⟨x1, x2, x3, by rw [e1, e2, e3, fits_nil f3], (bounds_u8 h1).1, (bounds_u8 h1).2⟩
theorem refHeldN (l : Lay) (g cap : Nat) (xs : List Int) (n m : Nat) (w : World) (hb : RB w g cap xs) (hx : xs.length = m) (hmx : m ≤ 1000000) (hv : l.verts = (n : Int)) (hn : n ≤ 5000) (f0 : 0 ≤ l.flag) (f1 : l.flag ≤ 1000000) :
    Calls Try.prog 21 #[l.val, .slice (some ⟨g, 0, none⟩) m cap] w (HeldIs (heldOf xs l.flag n) w) := by
  subst hx; exact refHeld_any l g cap xs n w hb hmx hv hn f0 f1
theorem flat31 : flatB Try.prog 31 [some .u8, none, none] = true := by kernel_rfl
theorem rb_rd {w : World} {g cap : Nat} {xs : List Int} (h : RB w g cap xs) : Rd w (some ⟨g, 0, none⟩) (xs.map (Value.int .i64)) := by
  refine .inr ⟨g, 0, rfl, fun i u hu => ?_⟩
  rw [List.getElem?_map] at hu
  obtain ⟨x, hx, rfl⟩ := Option.map_eq_some_iff.1 hu
  obtain ⟨hi, rfl⟩ := List.getElem?_eq_some_iff.1 hx
  rw [Nat.zero_add, h.cell hi]
  simp [hi]
theorem longs_sameN (a a' : Option Addr) (c c' : Nat) (xs : List Int) (w : World) (m : Nat) (hx : Rd w a (xs.map (Value.int .i64))) (hy : Rd w a' (xs.map (Value.int .i64))) (h1 : xs.length = m) (hm : m ≤ 1000000) :
    Calls Try.prog 19 #[.slice a m c, .slice a' m c'] w fun e w' => e = .returned (.bool true) ∧ Kept w w' := by
  have := longs_same a a' c c' xs xs w hx hy (by omega) (by omega)
  rw [h1] at this
  simpa using this
theorem ints_sameN (a a' : Option Addr) (c c' : Nat) (xs : List Int) (w : World) (hx : Rd w a (xs.map (Value.int .i64))) (hy : Rd w a' (xs.map (Value.int .i64))) (hm : xs.length ≤ 1000000) :
    Calls Try.prog 13 #[.slice a xs.length c, .slice a' xs.length c'] w fun e w' => e = .returned (.bool true) ∧ Kept w w' := by
  have := ints_same a a' c c' xs xs w hx hy (by omega) (by omega)
  simpa using this
def AllN (xs : List Int) (m : Nat) (w : World) (e : Ending) (w' : World) : Prop := ∃ g, e = .returned (.slice (some ⟨g, 0, none⟩) m m) ∧ Rd w' (some ⟨g, 0, none⟩) (xs.map (Value.int .i64)) ∧ Kept w w'
theorem allN {w : World} {bb g m : Nat} {xs : List Int} (h : Bnk w bb g xs) (hm : xs.length = m) :
    Calls Try.prog 20 #[.pointer (some ⟨bb, 0, none⟩)] w (AllN xs m w) := by
  refine (All_bank h).mono fun e w' ⟨v, he, ⟨g3, hv, hI, _⟩, hk⟩ => ⟨g3, ?_, Rd.blk hI, hk⟩
  rw [he, hv, hm]

/-- What the law's round holds: the bank, the reference's, the plan (block L), all else as at first (w0). -/
structure FT0 (w0 : World) (m bb g L : Nat) (vals : Array Value) (w : World) (gm cap : Nat) (xs ys : List Int) : Prop where
  bank : Bnk w bb g xs
  ref : RB w gm cap ys
  lay : Blk w L vals 25
  kp : Kept w0 w
  len : ys.length = m
/-- .. and the op at hand (block o). -/
structure FTS (w0 : World) (m bb g L o : Nat) (vals arr : Array Value) (w : World) (gm cap : Nat) (xs ys : List Int) : Prop where
  base : FT0 w0 m bb g L vals w gm cap xs ys
  op : Blk w o arr 31
section
variable {w0 w w' : World} {m bb g L o gm cap gn capn c : Nat} {vals arr : Array Value} {xs ys zs : List Int}
theorem FTS.bank (h : FTS w0 m bb g L o vals arr w gm cap xs ys) : Bnk w bb g xs := h.base.bank
theorem FTS.ref (h : FTS w0 m bb g L o vals arr w gm cap xs ys) : RB w gm cap ys := h.base.ref
theorem FTS.lay (h : FTS w0 m bb g L o vals arr w gm cap xs ys) : Blk w L vals 25 := h.base.lay
theorem FTS.kp (h : FTS w0 m bb g L o vals arr w gm cap xs ys) : Kept w0 w := h.base.kp
theorem FTS.len (h : FTS w0 m bb g L o vals arr w gm cap xs ys) : ys.length = m := h.base.len
theorem FT0.kept (h : FT0 w0 m bb g L vals w gm cap xs ys) (hk : Kept w w') : FT0 w0 m bb g L vals w' gm cap xs ys :=
  ⟨h.bank.kept hk, h.ref.kept hk, h.lay.kept hk, h.kp.trans hk, h.len⟩
theorem FTS.kept (h : FTS w0 m bb g L o vals arr w gm cap xs ys) (hk : Kept w w') : FTS w0 m bb g L o vals arr w' gm cap xs ys := ⟨h.base.kept hk, h.op.kept hk⟩
theorem FT0.next (h : FT0 w0 m bb g L vals w gm cap xs ys) (arr : Array Value) : FTS w0 m bb g L w.heap.size vals arr (w.alloc (.cells arr 31)) gm cap xs ys :=
  ⟨h.kept ((Upd.refl _ _).alloc _), Blk.new _ _ _⟩
theorem FTS.put (h : FTS w0 m bb g L o vals arr w gm cap xs ys) (hr : RB w' gn capn zs) (hz : zs.length = m) (hk : Kept w w') : FTS w0 m bb g L o vals arr w' gn capn xs zs :=
  ⟨⟨h.bank.kept hk, hr, h.lay.kept hk, h.kp.trans hk, hz⟩, h.op.kept hk⟩
theorem FTS.lts (h : FTS w0 m bb g L o vals arr w gm cap xs ys) : bb < w.heap.size ∧ g < w.heap.size ∧ L < w.heap.size ∧ o < w.heap.size ∧ gm < w.heap.size ∧ w0.heap.size ≤ w.heap.size :=
  ⟨h.bank.head.lt, h.bank.row.lt, h.lay.lt, h.op.lt, h.ref.lt, h.kp.size⟩
theorem FTS.two (hg : w0.heap.size ≤ g) (h : FTS w0 m bb g L o vals arr w gm cap xs ys) (hU : Upd (fun k => k = g ∨ k = c) w w') (hB : Bnk w' bb g zs) (h1 : L < c) (h2 : o < c) (h3 : gm < c) (h4 : w0.heap.size ≤ c) : FTS w0 m bb g L o vals arr w' gm cap zs ys := by
  have e1 : ¬ L = g := fun e => by subst e; have := (h.lay.same h.bank.row).2; simp at this
  have e2 : ¬ o = g := fun e => by subst e; have := (h.op.same h.bank.row).2; simp at this
  have e3 := rb_ne h.ref h.bank
  exact ⟨⟨hB, h.ref.upd hU (fun e => by rcases e with e | e; exact e3 e; omega), h.lay.upd hU (fun e => by rcases e with e | e; exact e1 e; omega), h.kp.then hU (fun i hi e => by rcases e with e | e <;> omega), h.len⟩, h.op.upd hU (fun e => by rcases e with e | e; exact e2 e; omega)⟩
theorem FTS.one (h : FTS w0 m bb g L o vals arr w gm cap xs ys) (hU : Upd (fun k => k = c) w w') (h1 : L < c) (h2 : o < c) (h3 : gm < c) (h4 : w0.heap.size ≤ c) (h5 : bb < c) (h6 : g < c) : FTS w0 m bb g L o vals arr w' gm cap xs ys :=
  ⟨⟨h.bank.upd hU (fun e => by omega) (fun e => by omega), h.ref.upd hU (fun e => by omega), h.lay.upd hU (fun e => by omega), h.kp.then hU (fun i hi e => by omega), h.len⟩, h.op.upd hU (fun e => by omega)⟩
end

set_option maxRecDepth 100000 in
set_option maxHeartbeats 16000000 in
theorem flagsTells_some (a0 : Int) (b off cap0 : Nat) (els : List (List Value)) (w : World) (w0 : 0 ≤ a0 ∧ a0 ≤ 255) (hlen : els.length ≤ cap0) (hmost : cap0 ≤ maxLen)
    (hcells : ∀ i (h : i < els.length) j v, els[i][j]? = some v → w.cell? ⟨b, off + i * 3 + j, none⟩ = some v) (hfit : ∀ e ∈ els, fits [some .u8, none, none] e) :
    Calls Try.prog 5 #[.int .u8 a0, .slice (some ⟨b, off, none⟩) els.length cap0] w fun e w' => e = .returned (.bool true) ∧ Kept w w' := by
  obtain ⟨N, hN⟩ := Int.eq_ofNat_of_zero_le (show 0 ≤ 1 + a0 % 30 by omega)
  have hN1 : 1 ≤ N := by omega
  have hN2 : N ≤ 30 := by omega
  have hN0 : ¬ (N : Int) = 0 := by omega
  obtain ⟨hm, m, hs1, hm2, hfl, hvt, hfm⟩ := plan_size (N : Int) (by omega) (by omega)
  obtain ⟨l, hl⟩ : ∃ l, planOf (N : Int) 3 2 = l := ⟨_, rfl⟩
  have HP := fun w => Lib.hid (bank_any (N : Int) l m w hm hl (by rw [← hl]; exact hs1) hm2)
  rw [hl] at hs1 hfl hvt
  obtain ⟨f, hf⟩ := Int.eq_ofNat_of_zero_le (show 0 ≤ l.flag by omega)
  have hf1 : f + N ≤ m := by omega
  have hf2 : f ≤ 63 := by omega
  have hl0 : 0 ≤ (f : Int) := by omega
  have hl1 : (f : Int) ≤ 1000000 := by omega
  have HHe := fun bb g xs w hb => Lib.hid (Held_any l bb g xs N w hb hvt (by omega) (by omega) (by omega))
  have HHr := fun gm cap xs {w} (hb : RB w gm cap xs) (hx : xs.length = m) => Lib.hid (refHeldN l gm cap xs N m w hb hx (by omega) hvt (by omega) (by omega) (by omega))
  clear hm hl hfl
  obtain ⟨verts, arcs, workers, room, res, ex, hh, flag, pending, ask, count, sense, deques, size⟩ := l
  simp only at hs1 hvt hf
  subst hs1 hvt hf
  simp only [Lay.val, Lay.vals] at HHe HHr
  obtain ⟨M, hM⟩ : ∃ M, M = min els.length 120 := ⟨_, rfl⟩
  have hM1 : M ≤ els.length := by omega
  have hM2 : M ≤ 120 := by omega
  have hmk := fun w => make_one (P := Try.prog) (t := 46) (e := 2) (z := .int .i64 0) (v := .int .i64 0) (bytes := 8) Try.underlying46 (by kernel_rfl) rfl .i64 m (by omega) (by omega) w
  have hsl := fun w => run_take (P := Try.prog) Try.underlying22 (size := 3) (by kernel_rfl) (some ⟨b, off, none⟩) els.length cap0 M (by omega) w
  have hif1 : (if (120 : Int) < (els.length : Int) then (120 : Int) else (els.length : Int)) = (M : Int) := by split <;> omega
  have hif2 : (if 120 < els.length then (120 : Int) else (els.length : Int)) = (M : Int) := by split <;> omega
  unfold maxLen at hmost
  have HC := Lib.hid hcells
  have HF := Lib.hid hfit
  have HM := Lib.hid hM
  clear hcells hfit hM hfm
  go_enter Try.func5, Try.ntmps5
  go_wp2_with fail
  refine (HP _).out.mono ?_
  rintro e w1 ⟨bb, g, rfl, hB, hbb, hg, hk⟩
  simp only [Lay.val, Lay.vals]
  have HB := Lib.hid hB
  have HK := Lib.hid hk
  have hsz := hk.size
  clear hB hk HP
  go_wp2_with fail
  go_loopw [9, 37] (fun y x wr => ∃ (k : Nat) (xs : List Int) (gm cap : Nat), x = .int .i64 k ∧ k ≤ M ∧ y = .slice (some ⟨gm, 0, none⟩) m cap ∧ Hid (FT0 w m bb g w1.heap.size #[.int .i64 (N : Int), .int .i64 arcs, .int .i64 workers, .int .i64 room, .int .i64 res, .int .i64 ex, .int .i64 hh, .int .i64 (f : Int), .int .i64 pending, .int .i64 ask, .int .i64 count, .int .i64 sense, .int .i64 deques, .int .i64 (m : Int)] wr gm cap xs xs)) (fun _ x _ => M - (intOf x).toNat)
  case atStart =>
    have h1 : Kept w1 ((w1.alloc (.cells #[.int .i64 (N : Int), .int .i64 arcs, .int .i64 workers, .int .i64 room, .int .i64 res, .int .i64 ex, .int .i64 hh, .int .i64 (f : Int), .int .i64 pending, .int .i64 ask, .int .i64 count, .int .i64 sense, .int .i64 deques, .int .i64 (m : Int)] 25)).alloc (.cells (zeros m (.int .i64 0)) 2)) := ((Upd.refl _ _).alloc _).alloc _
    refine ⟨0, List.replicate m 0, w1.heap.size + 1, m, rfl, by omega, rfl, Lib.hid ⟨HB.out.kept h1, ?_, (Blk.new _ _ _).alloc _, HK.out.trans h1, by simp⟩⟩
    have := World.ownsRow_lit (base := 0) (e := 2) (size := 1) (w1.alloc (.cells #[.int .i64 (N : Int), .int .i64 arcs, .int .i64 workers, .int .i64 room, .int .i64 res, .int .i64 ex, .int .i64 hh, .int .i64 (f : Int), .int .i64 pending, .int .i64 ask, .int .i64 count, .int .i64 sense, .int .i64 deques, .int .i64 (m : Int)] 25)) (zeros m (.int .i64 0)) m (Nat.zero_le _) (by unfold maxLen; omega) (by simp [zeros])
    have e1 : (w1.alloc (.cells #[.int .i64 (N : Int), .int .i64 arcs, .int .i64 workers, .int .i64 room, .int .i64 res, .int .i64 ex, .int .i64 hh, .int .i64 (f : Int), .int .i64 pending, .int .i64 ask, .int .i64 count, .int .i64 sense, .int .i64 deques, .int .i64 (m : Int)] 25)).heap.size = w1.heap.size + 1 := by simp
    rw [e1] at this
    unfold RB
    rw [List.length_replicate]
    rw [zeros_ints] at this
    rw [zeros_ints]
    exact this
  case round =>
    obtain ⟨k, xs, gm, cap, rfl, hk0, rfl, S0⟩ := hrel
    clear HB HK
    by_cases hlt : k < M
    · obtain ⟨x, fr, again, hel, hx0, hx1⟩ := fop_of (HF.out (els[k]'(by omega)) (List.getElem_mem _))
      have hc := fun j v (h : (els[k]'(by omega))[j]? = some v) => (S0.out.kp.cells _ (by rw [HC.out k (by omega) j v h]; rfl) (fun f => f)).trans (HC.out k (by omega) j v h)
      rw [hel] at hc
      have c0 : wr.cell? ⟨b, off + k * 3, none⟩ = some (.int .u8 x) := hc 0 _ rfl
      have c1 : wr.cell? ⟨b, off + k * 3 + 1, none⟩ = some (.bool fr) := hc 1 _ rfl
      have c2 : wr.cell? ⟨b, off + k * 3 + 2, none⟩ = some (.bool again) := hc 2 _ rfl
      clear hc hel
      have q0 : 0 ≤ x % (N : Int) := Int.emod_nonneg _ (by omega)
      have q1 : x % (N : Int) < N := Int.emod_lt_of_pos _ (by omega)
      have S1 := Lib.hid (S0.out.next #[.int .u8 x, .bool fr, .bool again])
      have HRF := fun gm cap w (hr : RB w gm cap xs) (hN : xs.length = m) => Lib.hid (refFree_any (⟨(N : Int), arcs, workers, room, res, ex, hh, (f : Int), pending, ask, count, sense, deques, (m : Int)⟩ : Lay) (x % (N : Int)) hr hN (by omega) hl0 hl1 q0 (by omega))
      have HRC := fun gm cap w (hr : RB w gm cap xs) (hN : xs.length = m) => Lib.hid (refClaim_any (⟨(N : Int), arcs, workers, room, res, ex, hh, (f : Int), pending, ask, count, sense, deques, (m : Int)⟩ : Lay) (x % (N : Int)) hr hN (by omega) hl0 hl1 q0 (by omega))
      have HNF := fun w => Lib.hid (NewFree_any (⟨(N : Int), arcs, workers, room, res, ex, hh, (f : Int), pending, ask, count, sense, deques, (m : Int)⟩ : Lay) (x % (N : Int)) w hl0 hl1 q0 (by omega))
      have HNC := fun w => Lib.hid (NewClaim_any (⟨(N : Int), arcs, workers, room, res, ex, hh, (f : Int), pending, ask, count, sense, deques, (m : Int)⟩ : Lay) (x % (N : Int)) w hl0 hl1 q0 (by omega))
      simp only [Lay.val, Lay.vals] at HRF HRC HNF HNC
      have cl1 := S1.out.lay.cell
      have co1 := S1.out.op.cell
      clear S0
      go_upto_if 47 with (fail)
      go_cut [9] from 47 to 96 (fun y wx => ∃ (ys : List Int) (gn capn : Nat), y = .slice (some ⟨gn, 0, none⟩) m capn ∧ Hid (FT0 w m bb g w1.heap.size #[.int .i64 (N : Int), .int .i64 arcs, .int .i64 workers, .int .i64 room, .int .i64 res, .int .i64 ex, .int .i64 hh, .int .i64 (f : Int), .int .i64 pending, .int .i64 ask, .int .i64 count, .int .i64 sense, .int .i64 deques, .int .i64 (m : Int)] wx gn capn ys ys))
      case first =>
        cases fr
        · cases again
          · as_aux_lemma =>
              go_wp2_with fail
              refine (HRC _ _ _ S1.out.ref S1.out.len).out.mono ?_
              rintro e w2 ⟨gn, capn, rfl, hR2, hk⟩
              have S2 := Lib.hid (S1.out.put hR2 (by split <;> first | (rw [length_bput]; exact S1.out.len) | exact S1.out.len) hk)
              have HS := fun c w (hc : Blk w c #[.int .i64 ((f : Int) + x % (N : Int)), .bool false, .bool false] 51) (hb : Bnk w bb g xs) => Lib.hid (Claim_step c bb g ((f : Int) + x % (N : Int)) false (decide (bget xs ((f : Int) + x % (N : Int)) = 0)) xs (if bget xs ((f : Int) + x % (N : Int)) = 0 then bput xs ((f : Int) + x % (N : Int)) 1 else xs) w hc hb (by congr 1; exact propext ⟨fun h => h.2, fun h => ⟨⟨by omega, by have := S1.out.len; omega⟩, h⟩⟩) rfl)
              obtain ⟨r, hr⟩ : ∃ r, decide (bget xs ((f : Int) + x % (N : Int)) = 0) = r := ⟨_, rfl⟩
              rw [hr] at HS
              rw [hr]
              have cl2 := S2.out.lay.cell
              have co2 := S2.out.op.cell
              clear hk hR2 hr S1 cl1 co1
              go_wp2_with fail
              refine (HNC _).out.mono ?_
              rintro e w3 ⟨rfl, hk⟩
              have S3 := Lib.hid (S2.out.kept hk)
              have cl3 := S3.out.lay.cell
              have co3 := S3.out.op.cell
              clear hk S2 cl2 co2
              obtain ⟨l1, l2, l3, l4, l5, l6⟩ := S3.out.lts
              have hk : Kept w3 (w3.alloc (.cells #[.int .i64 ((f : Int) + x % (N : Int)), .bool false, .bool false] 51)) := (Upd.refl _ _).alloc _
              have S4 := Lib.hid (S3.out.kept hk)
              have cl4 := S4.out.lay.cell
              have co4 := S4.out.op.cell
              clear hk S3 cl3 co3
              have cc4 : (w3.alloc (.cells #[.int .i64 ((f : Int) + x % (N : Int)), .bool false, .bool false] 51)).cell? ⟨w3.heap.size, 2, none⟩ = some (.bool false) := by rw [(Blk.new _ _ _).cell]; rfl
              go_wp2_with fail
              refine (Got_any _ false _ cc4).mono ?_
              rintro e w' ⟨rfl, rfl⟩
              go_wp2_with fail
              refine (HS _ _ (Blk.new _ _ _) S4.out.bank).out.mono ?_
              rintro e w5 ⟨rfl, hC, hB, hU⟩
              have S5 := Lib.hid (FTS.two hg S4.out hU hB (by omega) (by omega) (by omega) (by omega))
              have HC5 := Lib.hid hC
              have cl5 := S5.out.lay.cell
              have co5 := S5.out.op.cell
              clear hU hB hC S4 cl4 co4
              generalize (if bget xs ((f : Int) + x % (N : Int)) = 0 then bput xs ((f : Int) + x % (N : Int)) 1 else xs) = ys at S5
              clear HS cc4
              have cc : w5.cell? ⟨w3.heap.size, 2, none⟩ = some (.bool r) := by rw [HC5.out.cell]; rfl
              clear HC5
              go_wp2_with fail
              refine (Got_any _ r _ cc).mono ?_
              rintro e w' ⟨rfl, rfl⟩
              clear cc
              go_wp2_with fail
              go_meet
              case rel => exact ⟨ys, gn, capn, rfl, Lib.hid S5.out.base⟩
          · as_aux_lemma =>
              go_wp2_with fail
              refine (HRC _ _ _ S1.out.ref S1.out.len).out.mono ?_
              rintro e w2 ⟨gn, capn, rfl, hR2, hk⟩
              have S2 := Lib.hid (S1.out.put hR2 (by split <;> first | (rw [length_bput]; exact S1.out.len) | exact S1.out.len) hk)
              have HS := fun c w (hc : Blk w c #[.int .i64 ((f : Int) + x % (N : Int)), .bool false, .bool false] 51) (hb : Bnk w bb g xs) => Lib.hid (Claim_step c bb g ((f : Int) + x % (N : Int)) false (decide (bget xs ((f : Int) + x % (N : Int)) = 0)) xs (if bget xs ((f : Int) + x % (N : Int)) = 0 then bput xs ((f : Int) + x % (N : Int)) 1 else xs) w hc hb (by congr 1; exact propext ⟨fun h => h.2, fun h => ⟨⟨by omega, by have := S1.out.len; omega⟩, h⟩⟩) rfl)
              obtain ⟨r, hr⟩ : ∃ r, decide (bget xs ((f : Int) + x % (N : Int)) = 0) = r := ⟨_, rfl⟩
              rw [hr] at HS
              rw [hr]
              have cl2 := S2.out.lay.cell
              have co2 := S2.out.op.cell
              clear hk hR2 hr S1 cl1 co1
              go_wp2_with fail
              refine (HNC _).out.mono ?_
              rintro e w3 ⟨rfl, hk⟩
              have S3 := Lib.hid (S2.out.kept hk)
              have cl3 := S3.out.lay.cell
              have co3 := S3.out.op.cell
              clear hk S2 cl2 co2
              obtain ⟨l1, l2, l3, l4, l5, l6⟩ := S3.out.lts
              have hk : Kept w3 (w3.alloc (.cells #[.int .i64 ((f : Int) + x % (N : Int)), .bool false, .bool false] 51)) := (Upd.refl _ _).alloc _
              have S4 := Lib.hid (S3.out.kept hk)
              have cl4 := S4.out.lay.cell
              have co4 := S4.out.op.cell
              clear hk S3 cl3 co3
              have cc4 : (w3.alloc (.cells #[.int .i64 ((f : Int) + x % (N : Int)), .bool false, .bool false] 51)).cell? ⟨w3.heap.size, 2, none⟩ = some (.bool false) := by rw [(Blk.new _ _ _).cell]; rfl
              go_wp2_with fail
              refine (Got_any _ false _ cc4).mono ?_
              rintro e w' ⟨rfl, rfl⟩
              go_wp2_with fail
              refine (HS _ _ (Blk.new _ _ _) S4.out.bank).out.mono ?_
              rintro e w5 ⟨rfl, hC, hB, hU⟩
              have S5 := Lib.hid (FTS.two hg S4.out hU hB (by omega) (by omega) (by omega) (by omega))
              have HC5 := Lib.hid hC
              have cl5 := S5.out.lay.cell
              have co5 := S5.out.op.cell
              clear hU hB hC S4 cl4 co4
              generalize (if bget xs ((f : Int) + x % (N : Int)) = 0 then bput xs ((f : Int) + x % (N : Int)) 1 else xs) = ys at S5
              clear HS cc4
              go_wp2_with fail
              refine (Claim_done _ bb ((f : Int) + x % (N : Int)) r _ HC5.out).mono ?_
              rintro e w6 ⟨rfl, hC, hU⟩
              have S6 := Lib.hid (S5.out.one hU (by omega) (by omega) (by omega) (by omega) (by omega) (by omega))
              have HC6 := Lib.hid hC
              have cl6 := S6.out.lay.cell
              have co6 := S6.out.op.cell
              clear hU hC S5 HC5 cl5 co5
              have cc : w6.cell? ⟨w3.heap.size, 2, none⟩ = some (.bool r) := by rw [HC6.out.cell]; rfl
              clear HC6
              go_wp2_with fail
              refine (Got_any _ r _ cc).mono ?_
              rintro e w' ⟨rfl, rfl⟩
              clear cc
              go_wp2_with fail
              go_meet
              case rel => exact ⟨ys, gn, capn, rfl, Lib.hid S6.out.base⟩
        · cases again
          · as_aux_lemma =>
              go_wp2_with fail
              refine (HRF _ _ _ S1.out.ref S1.out.len).out.mono ?_
              rintro e w2 ⟨gn, capn, rfl, hR2, hgn, hk⟩
              have S2 := Lib.hid (S1.out.put hR2 (by rw [length_bput]; exact S1.out.len) hk)
              have cl2 := S2.out.lay.cell
              have co2 := S2.out.op.cell
              clear hk hR2 hgn S1 cl1 co1
              go_wp2_with fail
              refine (HNF _).out.mono ?_
              rintro e w3 ⟨rfl, hk⟩
              have S3 := Lib.hid (S2.out.kept hk)
              have cl3 := S3.out.lay.cell
              have co3 := S3.out.op.cell
              clear hk S2 cl2 co2
              obtain ⟨l1, l2, l3, l4, l5, l6⟩ := S3.out.lts
              have hk : Kept w3 (w3.alloc (.cells #[.int .i64 ((f : Int) + x % (N : Int)), .bool false] 35)) := (Upd.refl _ _).alloc _
              have S4 := Lib.hid (S3.out.kept hk)
              have cl4 := S4.out.lay.cell
              have co4 := S4.out.op.cell
              clear hk S3 cl3 co3
              go_wp2_with fail
              refine (Free_step _ bb g ((f : Int) + x % (N : Int)) xs (bput xs ((f : Int) + x % (N : Int)) 0) _ (Blk.new _ _ _) S4.out.bank rfl).mono ?_
              rintro e w5 ⟨rfl, hC, hB, hU⟩
              have S5 := Lib.hid (FTS.two hg S4.out hU hB (by omega) (by omega) (by omega) (by omega))
              have HC5 := Lib.hid hC
              have cl5 := S5.out.lay.cell
              have co5 := S5.out.op.cell
              clear hU hB hC S4 cl4 co4
              generalize bput xs ((f : Int) + x % (N : Int)) 0 = ys at S5
              clear HC5
              go_wp2_with fail
              go_meet
              case rel => exact ⟨ys, gn, capn, rfl, Lib.hid S5.out.base⟩
          · as_aux_lemma =>
              go_wp2_with fail
              refine (HRF _ _ _ S1.out.ref S1.out.len).out.mono ?_
              rintro e w2 ⟨gn, capn, rfl, hR2, hgn, hk⟩
              have S2 := Lib.hid (S1.out.put hR2 (by rw [length_bput]; exact S1.out.len) hk)
              have cl2 := S2.out.lay.cell
              have co2 := S2.out.op.cell
              clear hk hR2 hgn S1 cl1 co1
              go_wp2_with fail
              refine (HNF _).out.mono ?_
              rintro e w3 ⟨rfl, hk⟩
              have S3 := Lib.hid (S2.out.kept hk)
              have cl3 := S3.out.lay.cell
              have co3 := S3.out.op.cell
              clear hk S2 cl2 co2
              obtain ⟨l1, l2, l3, l4, l5, l6⟩ := S3.out.lts
              have hk : Kept w3 (w3.alloc (.cells #[.int .i64 ((f : Int) + x % (N : Int)), .bool false] 35)) := (Upd.refl _ _).alloc _
              have S4 := Lib.hid (S3.out.kept hk)
              have cl4 := S4.out.lay.cell
              have co4 := S4.out.op.cell
              clear hk S3 cl3 co3
              go_wp2_with fail
              refine (Free_step _ bb g ((f : Int) + x % (N : Int)) xs (bput xs ((f : Int) + x % (N : Int)) 0) _ (Blk.new _ _ _) S4.out.bank rfl).mono ?_
              rintro e w5 ⟨rfl, hC, hB, hU⟩
              have S5 := Lib.hid (FTS.two hg S4.out hU hB (by omega) (by omega) (by omega) (by omega))
              have HC5 := Lib.hid hC
              have cl5 := S5.out.lay.cell
              have co5 := S5.out.op.cell
              clear hU hB hC S4 cl4 co4
              generalize bput xs ((f : Int) + x % (N : Int)) 0 = ys at S5
              go_wp2_with fail
              refine (Free_done _ bb ((f : Int) + x % (N : Int)) _ HC5.out).mono ?_
              rintro e w6 ⟨rfl, hC, hU⟩
              have S6 := Lib.hid (S5.out.one hU (by omega) (by omega) (by omega) (by omega) (by omega) (by omega))
              have HC6 := Lib.hid hC
              have cl6 := S6.out.lay.cell
              have co6 := S6.out.op.cell
              clear hU hC S5 HC5 cl5 co5
              clear HC6
              go_wp2_with fail
              go_meet
              case rel => exact ⟨ys, gn, capn, rfl, Lib.hid S6.out.base⟩
      case rest => as_aux_lemma =>
        obtain ⟨ys, gn, capn, rfl, S5⟩ := hcut
        have hlh := heldOf_le ys (f : Int) N
        have cl5 := S5.out.lay.cell
        go_wp2_with fail
        go_region_held3 (fun w' => ∀ i, w'.cell? ⟨w1.heap.size, i, none⟩ = #[.int .i64 (N : Int), .int .i64 arcs, .int .i64 workers, .int .i64 room, .int .i64 res, .int .i64 ex, .int .i64 hh, .int .i64 (f : Int), .int .i64 pending, .int .i64 ask, .int .i64 count, .int .i64 sense, .int .i64 deques, .int .i64 (m : Int)][i]?)
          (first | exact cl5 | exact cl11 | exact cl12 | exact cl13 | exact cl14 | exact cl15)
          ((first
            | (go_at_call 20; refine (allN (S5.out.bank.kept (Upd.refl _ _).drew) S5.out.len).mono ?_; rintro e w11 ⟨g3, rfl, hI, hk⟩; have HI11 := Lib.hid hI; have S11 := Lib.hid ((S5.out.kept (Upd.refl _ _).drew).kept hk); have cl11 := S11.out.lay.cell; clear hI hk)
            | (go_at_call 19; refine (longs_sameN _ _ _ _ ys _ m HI11.out (rb_rd S11.out.ref) S11.out.len (by omega)).mono ?_; rintro e w12 ⟨rfl, hk⟩; have S12 := Lib.hid (S11.out.kept hk); have cl12 := S12.out.lay.cell; clear hk)
            | (go_at_call 11; refine (HHe _ _ _ _ S12.out.bank).out.mono ?_; rintro e w13 ⟨v1, rfl, hO, hk⟩; obtain ⟨a1, k1, rfl, hR1⟩ := Rd.owns hO; have HV13 := Lib.hid hR1; have S13 := Lib.hid (S12.out.kept hk); have cl13 := S13.out.lay.cell; clear hk hO hR1)
            | (go_at_call 21; refine (HHr _ _ _ S13.out.ref S13.out.len).out.mono ?_; rintro e w14 ⟨v2, rfl, hO, hk⟩; obtain ⟨a2, k2, rfl, hR2⟩ := Rd.owns hO; have HW14 := Lib.hid hR2; have HV14 := Lib.hid (HV13.out.kept hk); have S14 := Lib.hid (S13.out.kept hk); have cl14 := S14.out.lay.cell; clear hk hO hR2)
            | (go_at_call 13; refine (ints_sameN _ _ _ _ (heldOf ys (f : Int) N) _ HV14.out HW14.out (by omega)).mono ?_; rintro e w15 ⟨rfl, hk⟩; have S15 := Lib.hid (S14.out.kept hk); have cl15 := S15.out.lay.cell; clear hk)))
        clear cl11 cl12 cl13 cl14 cl15
        go_wp2_with fail
        go_roundw
        case rel => exact ⟨k + 1, ys, gn, capn, by go_num, by omega, rfl, S15⟩
        case measure => simp [intOf]; omega
    · go_wp2_with fail
      refine (awake_any _).mono ?_
      rintro e w5 ⟨rfl, hk5⟩
      go_wp2
      go_ret
      exact ⟨rfl, S0.out.kp.trans hk5⟩
end Go.Proofs.Ytnhedibdecileaa
