/- The law FlagsOne. -/
import Derived.Test.YtnhedibdecileaaAwake12
import Derived.Test.YtnhedibdecileaaMap
import Derived.Test.YtnhedibdecileaaRd
import Derived.Test.YtnhedibdecileaaOpen
import Derived.Test.YtnhedibdecileaaHeld
import Derived.Test.YtnhedibdecileaaClaims
import Derived.Deep.CutRange
namespace Go.Proofs.Ytnhedibdecileaa
set_option linter.unusedVariables false
open Go.RowKit Go.Maps

theorem flat31 : flatB Try.prog 31 [some .u8, none, none] = true := by kernel_rfl
theorem IntRow.rd {k : IntKind} {w : World} {a : Option Addr} {cap : Nat} {zs : List Int} (h : IntRow k w a cap zs) : Rd w a (zs.map (Value.int k)) := by
  rcases h.cells with h0 | ⟨b, off, rfl, hc⟩
  · left; rw [List.eq_nil_of_length_eq_zero h0]; rfl
  · right
    refine ⟨b, off, rfl, fun i u hu => ?_⟩
    rw [List.getElem?_map] at hu
    cases hz : zs[i]? with
    | none => rw [hz] at hu; cases hu
    | some z =>
      rw [hz] at hu
      cases hu
      obtain ⟨hi, rfl⟩ := List.getElem?_eq_some_iff.1 hz
      exact hc i hi
/-- The bank's cells beside who has a vertex. -/
structure FP (f N Z : Nat) (xs h : List Int) : Prop where
  xl : xs.length = Z
  hl : h.length = N
  fit : f + N ≤ Z
  at_ : ∀ v : Nat, v < N → 0 ≤ h.getD v 0 ∧ bget xs ((f : Int) + (v : Int)) = if h.getD v 0 = 0 then 0 else 1
theorem bget_at (xs : List Int) (f v : Nat) : bget xs ((f : Int) + (v : Int)) = xs.getD (f + v) 0 := by
  rw [bget_in (by omega)]
  congr 1
theorem bput_at (xs : List Int) (f v : Nat) (u : Int) : bput xs ((f : Int) + (v : Int)) u = xs.set (f + v) u := by
  rw [bput_in _ (by omega)]
  congr 1
theorem FP.put {f N Z : Nat} {xs h : List Int} (p : FP f N Z xs h) {q : Nat} (hq : q < N) {u c : Int} (hu : 0 ≤ u) (hc : c = if u = 0 then 0 else 1) : FP f N Z (bput xs ((f : Int) + (q : Int)) c) (h.set q u) := by
  have h1 := p.xl
  have h2 := p.hl
  have h3 := p.fit
  refine ⟨by simpa using h1, by simpa using h2, h3, fun v hv => ?_⟩
  have h4 := p.at_ v hv
  rw [bget_at] at h4 ⊢
  rw [bput_at]
  by_cases e : v = q
  · subst e
    rw [show (h.set v u).getD v 0 = u by simp [List.getD, h2, hv], show (xs.set (f + v) c).getD (f + v) 0 = c by simp [List.getD, show f + v < xs.length by omega]]
    exact ⟨hu, hc⟩
  · rw [show (h.set q u).getD v 0 = h.getD v 0 by simp [List.getD, Ne.symm e], show (xs.set (f + q) c).getD (f + v) 0 = xs.getD (f + v) 0 by simp [List.getD, Ne.symm e]]
    exact h4
theorem FP.new (f N Z : Nat) (h : f + N ≤ Z) : FP f N Z (List.replicate Z 0) (List.replicate N 0) := by
  refine ⟨by simp, by simp, h, fun v hv => ?_⟩
  rw [bget_at]
  simp [List.getD, hv, show f + v < Z by omega]
/-- A vertex that is held. -/
theorem FP.held {f N Z : Nat} {xs h : List Int} (p : FP f N Z xs h) {j : Nat} (hj : j < (heldOf xs (f : Int) N).length) : ∃ v : Nat, v < N ∧ ((heldOf xs (f : Int) N).map (Value.int .i64))[j]? = some (.int .i64 (v : Int)) ∧ ¬ h.getD v 0 = 0 := by
  have hm := List.getElem_mem hj
  obtain ⟨v, hv, he⟩ := List.mem_map.1 hm
  obtain ⟨h1, h2⟩ := List.mem_filter.1 hv
  have h1 := List.mem_range.1 h1
  refine ⟨v, h1, ?_, ?_⟩
  · rw [List.getElem?_map, List.getElem?_eq_getElem hj, ← he]; rfl
  · have := (p.at_ v h1).2
    intro e
    rw [if_pos e] at this
    simp [this] at h2
/-- How many of those that were ranged over hold something. -/
def cntL (h : List Int) (N : Nat) (left : Lit → Bool) : Nat := (List.range N).countP fun v => decide (0 < h.getD v 0) && !left (.int .i64 (v : Int))
theorem cntL_le (h : List Int) (N : Nat) (left : Lit → Bool) : cntL h N left ≤ N := by
  have := List.countP_le_length (p := fun v => decide (0 < h.getD v 0) && !left (.int .i64 (v : Int))) (l := List.range N)
  simpa [cntL] using this
theorem cntL_start {h : List Int} {l : List Bool} {N : Nat} {D : DataW Unit} (hd : MD D h l) (hl : h.length = N) : cntL h N (Maps.has D) = 0 := by
  unfold cntL
  rw [List.countP_eq_zero]
  intro v hv
  have hv := List.mem_range.1 hv
  intro hc
  rw [Bool.and_eq_true] at hc
  have h0 : 0 < h.getD v 0 := of_decide_eq_true hc.1
  have h1 : Maps.has D (.int .i64 (v : Int)) = false := by simpa using hc.2
  have h2 := hd.at_ v (by omega)
  rw [atKey_of_not_has h1] at h2
  injection h2 with h2
  injection h2 with _ h2
  omega
theorem cntL_end {f N Z : Nat} {xs h : List Int} (p : FP f N Z xs h) {left : Lit → Bool} (hl : ∀ kl, left kl = false) : cntL h N left = (heldOf xs (f : Int) N).length := by
  unfold cntL heldOf
  rw [List.length_map, ← List.countP_eq_length_filter]
  apply List.countP_congr
  intro v hv
  have hv := List.mem_range.1 hv
  obtain ⟨h1, h2⟩ := p.at_ v hv
  rw [h2, hl]
  generalize h.getD v 0 = y at h1
  by_cases e : y = 0
  · simp [e]
  · simp [e]; omega
theorem countP_one {p q : Nat → Bool} {i : Nat} (ho : ∀ v, ¬ v = i → q v = p v) (hp : p i = false) : ∀ n, (List.range n).countP q = (List.range n).countP p + (if i < n ∧ q i = true then 1 else 0)
  | 0 => by simp
  | n + 1 => by
    have ih := countP_one ho hp n
    rw [List.range_succ, List.countP_append, List.countP_append, ih]
    by_cases e : n = i
    · subst e
      simp [hp, List.countP_cons]
    · simp only [List.countP_cons, List.countP_nil, ho n e]
      by_cases e2 : i < n
      · simp [e2, show i < n + 1 by omega]; omega
      · simp [e2, show ¬ i < n + 1 by omega]
theorem cntL_step {h : List Int} {N i : Nat} {left : Lit → Bool} (hi : i < N) (hl : left (.int .i64 (i : Int)) = true) : cntL h N (fun z => left z && !z.sameKey (.int .i64 (i : Int))) = cntL h N left + (if 0 < h.getD i 0 then 1 else 0) := by
  unfold cntL
  rw [countP_one (p := fun v => decide (0 < h.getD v 0) && !left (.int .i64 (v : Int))) (i := i) ?_ (by simp [hl]) N]
  · congr 1
    have := WideAt.sameKey_self (a := .int .i64 (i : Int)) trivial
    simp [this, hi]
  · intro v hv
    have : (Lit.int .i64 (v : Int)).sameKey (.int .i64 (i : Int)) = false := sameKey_ne (fun e => by cases e; exact hv rfl)
    simp [this]
theorem Blk.newAt (w : World) (arr : Array Value) (T : TypeId) (k : Nat) (h : k = w.heap.size) : Blk (w.alloc (.cells arr T)) k arr T := by subst h; exact Blk.new w arr T
/-- What the law holds. -/
structure FO (w : World) (pb bb g mb c : Nat) (lv : Array Value) (xs h : List Int) (l : List Bool) (W : World) : Prop where
  box : Blk W pb lv 25
  bank : Bnk W bb g xs
  map : Mp W mb c h l
  kp : Kept w W
  geo : w.heap.size ≤ g ∧ w.heap.size ≤ mb ∧ ¬ pb = g ∧ ¬ mb = g ∧ ¬ pb = mb ∧ ¬ mb = bb
section
variable {w W W' : World} {pb bb g mb c : Nat} {lv : Array Value} {xs h : List Int} {l : List Bool}
theorem FO.kept (s : FO w pb bb g mb c lv xs h l W) (hk : Kept W W') : FO w pb bb g mb c lv xs h l W' := ⟨s.box.kept hk, s.bank.kept hk, s.map.upd hk (fun f => f), s.kp.trans hk, s.geo⟩
theorem FO.acc (s : FO w pb bb g mb c lv xs h l W) {ys : List Int} (hB : Bnk W' bb g ys) (hU : Upd (fun k => k = g) W W') : FO w pb bb g mb c lv ys h l W' := by
  have := s.geo
  exact ⟨s.box.upd hU (fun e => by omega), hB, s.map.upd hU (fun e => by omega), s.kp.then hU (fun i hi e => by omega), s.geo⟩
theorem FO.lts (s : FO w pb bb g mb c lv xs h l W) : pb < W.heap.size ∧ bb < W.heap.size ∧ g < W.heap.size ∧ mb < W.heap.size ∧ w.heap.size ≤ W.heap.size := ⟨s.box.lt, s.bank.head.lt, s.bank.row.lt, s.map.lt, s.kp.size⟩
theorem FO.acc2 (s : FO w pb bb g mb c lv xs h l W) {ys : List Int} {fb : Nat} (hB : Bnk W' bb g ys) (hU : Upd (fun k => k = g ∨ k = fb) W W') (h1 : ¬ fb = pb ∧ ¬ fb = mb ∧ w.heap.size ≤ fb) : FO w pb bb g mb c lv ys h l W' := by
  have := s.geo
  exact ⟨s.box.upd hU (fun e => by omega), hB, s.map.upd hU (fun e => by omega), s.kp.then hU (fun i hi e => by omega), s.geo⟩
theorem FO.put (s : FO w pb bb g mb c lv xs h l W) {h' : List Int} {l' : List Bool} {c' : Nat} (hM : Mp W' mb c' h' l') (hU : Upd (fun k => k = mb) W W') : FO w pb bb g mb c' lv xs h' l' W' := by
  have := s.geo
  exact ⟨s.box.upd hU (fun e => by omega), s.bank.upd hU (fun e => by omega) (fun e => by omega), hM, s.kp.then hU (fun i hi e => by omega), s.geo⟩
theorem FO.fresh (s : FO w pb bb g mb c lv xs h l W) {r : Nat} (hU : Upd (fun k => k = r) W W') (hr : pb < r ∧ bb < r ∧ g < r ∧ mb < r ∧ w.heap.size ≤ r) : FO w pb bb g mb c lv xs h l W' :=
  ⟨s.box.upd hU (fun e => by omega), s.bank.upd hU (fun e => by omega) (fun e => by omega), s.map.upd hU (fun e => by omega), s.kp.then hU (fun i hi e => by omega), s.geo⟩
end
/-- The cells of an act. -/
def ActAt (w : World) (b o : Nat) (V : Int) (fr ag : Bool) : Prop := w.cell? ⟨b, o, none⟩ = some (.int .u8 V) ∧ w.cell? ⟨b, o + 1, none⟩ = some (.bool fr) ∧ w.cell? ⟨b, o + 2, none⟩ = some (.bool ag)
theorem ActAt.kept {w W : World} {b o : Nat} {V : Int} {fr ag : Bool} (h : ActAt w b o V fr ag) (hk : Kept w W) : ActAt W b o V fr ag := by
  obtain ⟨h0, h1, h2⟩ := h
  exact ⟨(keptCells hk _ (by rw [h0]; rfl)).trans h0, (keptCells hk _ (by rw [h1]; rfl)).trans h1, (keptCells hk _ (by rw [h2]; rfl)).trans h2⟩
theorem actAt {els : List (List Value)} (hf : ∀ e ∈ els, fits [some .u8, none, none] e) {b off : Nat} {w : World} (hc : ∀ i (h : i < els.length) j v, els[i][j]? = some v → w.cell? ⟨b, off + i * 3 + j, none⟩ = some v)
    {k : Nat} (hk : k < els.length) : ∃ V fr ag, Hid (ActAt w b (off + k * 3) V fr ag) ∧ 0 ≤ V ∧ V ≤ 255 := by
  have hf := hf (els[k]'hk) (List.getElem_mem _)
  obtain ⟨x1, u1, e1, h1, f1⟩ := fits_int hf
  obtain ⟨x2, u2, e2, f2⟩ := fits_bool f1
  obtain ⟨x3, u3, e3, f3⟩ := fits_bool f2
  have hel : els[k]'hk = [.int .u8 x1, .bool x2, .bool x3] := by rw [e1, e2, e3, fits_nil f3]
  have hc := hc k hk
  rw [hel] at hc
  have hb := bounds_u8 h1
  exact ⟨x1, x2, x3, Lib.hid ⟨hc 0 _ rfl, hc 1 _ rfl, hc 2 _ rfl⟩, hb.1, hb.2⟩

set_option maxRecDepth 100000 in
set_option maxHeartbeats 8000000 in
theorem flagsOne_walk (a0 a1 : Int) (s2 : Option Addr) (cap2 : Nat) (els : List (List Value)) (s3 : Option Addr) (cap3 : Nat) (z3 : List Int) (w : World) (w0 : (Lit.int .u8 a0).wf = true) (w1' : (Lit.int .u8 a1).wf = true) (hrow : FlatRow [some .u8, none, none] w s2 cap2 els) (hfit : ∀ x ∈ els, fits [some .u8, none, none] x) (h3 : IntRow .u8 w s3 cap3 z3) (m3 : ∀ n ∈ z3, (Lit.int .u8 n).wf = true) :
    Calls Try.prog 3 #[.int .u8 a0, .int .u8 a1, .slice s2 els.length cap2, .slice s3 z3.length cap3] w fun e w' => e = .returned (.bool true) ∧ Kept w w' := by
  have w0 := bounds_u8 w0
  have w1' := bounds_u8 w1'
  obtain ⟨N, hN⟩ := Int.eq_ofNat_of_zero_le (show 0 ≤ 1 + a0 % 30 by omega)
  have hN1 : 1 ≤ N := by omega
  have hN2 : N ≤ 30 := by omega
  obtain ⟨K, hK⟩ := Int.eq_ofNat_of_zero_le (show 0 ≤ 2 + a1 % 8 by omega)
  have hK1 : 2 ≤ K := by omega
  have hK2 : K ≤ 9 := by omega
  obtain ⟨hm, Z, hs1, hm2, hfl, hvt, hfm⟩ := plan_size (N : Int) (by omega) (by omega)
  obtain ⟨l, hl⟩ : ∃ l, planOf (N : Int) 3 2 = l := ⟨_, rfl⟩
  have HP := fun w => Lib.hid (bank_any (N : Int) l Z w hm hl (by rw [← hl]; exact hs1) hm2)
  rw [hl] at hs1 hfl hvt
  obtain ⟨f, hf⟩ := Int.eq_ofNat_of_zero_le (show 0 ≤ l.flag by omega)
  have hf1 : f + N ≤ Z := by omega
  have hf2 : f ≤ 63 := by omega
  have HNF := fun (q : Nat) (hq : q < N) w => Lib.hid (NewFree_any l (q : Int) w (by omega) (by omega) (by omega) (by omega))
  have HHe := fun bb g xs w hb => Lib.hid (Held_any l bb g xs N w hb hvt (by omega) (by omega) (by omega))
  have HCL := fun (q : Nat) (hq : q < N) bb g r xs ys w hb hin hr hy => Lib.hid (claims_any l bb g (q : Int) r xs ys w hb (by omega) (by omega) (by omega) (by omega) hin hr hy)
  clear hm hl hfl
  obtain ⟨verts, arcs, workers, room, res, ex, hh, flag, pending, ask, count, sense, deques, size⟩ := l
  simp only at hs1 hvt hf
  subst hs1 hvt hf
  simp only [Lay.val, Lay.vals] at HNF HHe HCL
  have HF1 := Lib.hid hf1
  obtain ⟨M, hM⟩ : ∃ M, M = min els.length 200 := ⟨_, rfl⟩
  have hM1 : M ≤ els.length := by omega
  have hM2 : M ≤ 200 := by omega
  have hle := hrow.le
  have hmost := hrow.most
  have hle3 := h3.le
  have hmost3 := h3.most
  have hsl := fun w => run_take (P := Try.prog) Try.underlying22 (size := 3) (by kernel_rfl) s2 els.length cap2 M (by omega) w
  have hif1 : (if (200 : Int) < (els.length : Int) then (200 : Int) else (els.length : Int)) = (M : Int) := by split <;> omega
  have hif2 : (if 200 < els.length then (200 : Int) else (els.length : Int)) = (M : Int) := by split <;> omega
  unfold maxLen at hmost hmost3
  have HC := Lib.hid hrow.cells
  have HF := Lib.hid hfit
  have HR3 := Lib.hid h3.rd
  have HW3 := Lib.hid m3
  have hmm := @run_makeMap Try.prog
  clear hrow hfit hM h3 m3 hfm hf1
  go_enter Try.func3, Try.ntmps3
  go_wp2_with fail
  refine (HP _).out.mono ?_
  rintro e w1 ⟨bb, g, rfl, hB, hbb, hg, hk⟩
  simp only [Lay.val, Lay.vals]
  obtain ⟨pb, hpb⟩ : ∃ pb, w1.heap.size = pb := ⟨_, rfl⟩
  have S0 : Hid (FO w pb bb g (pb + 1) 0 #[.int .i64 (N : Int), .int .i64 arcs, .int .i64 workers, .int .i64 room, .int .i64 res, .int .i64 ex, .int .i64 hh, .int .i64 (f : Int), .int .i64 pending, .int .i64 ask, .int .i64 count, .int .i64 sense, .int .i64 deques, .int .i64 (Z : Int)] (List.replicate Z 0) (List.replicate N 0) (List.replicate N false) ((w1.alloc (.cells #[.int .i64 (N : Int), .int .i64 arcs, .int .i64 workers, .int .i64 room, .int .i64 res, .int .i64 ex, .int .i64 hh, .int .i64 (f : Int), .int .i64 pending, .int .i64 ask, .int .i64 count, .int .i64 sense, .int .i64 deques, .int .i64 (Z : Int)] 25)).alloc (.map #[] 0))) := Lib.hid (by
    have h1 := hB.row.lt
    have h2 := hB.head.lt
    have h3 := hk.size
    have e1 : (w1.alloc (.cells #[.int .i64 (N : Int), .int .i64 arcs, .int .i64 workers, .int .i64 room, .int .i64 res, .int .i64 ex, .int .i64 hh, .int .i64 (f : Int), .int .i64 pending, .int .i64 ask, .int .i64 count, .int .i64 sense, .int .i64 deques, .int .i64 (Z : Int)] 25)).heap.size = pb + 1 := by rw [← hpb]; simp
    have hm := Mp.new (w1.alloc (.cells #[.int .i64 (N : Int), .int .i64 arcs, .int .i64 workers, .int .i64 room, .int .i64 res, .int .i64 ex, .int .i64 hh, .int .i64 (f : Int), .int .i64 pending, .int .i64 ask, .int .i64 count, .int .i64 sense, .int .i64 deques, .int .i64 (Z : Int)] 25)) N
    rw [e1] at hm
    refine ⟨(Blk.newAt _ _ _ _ hpb.symm).alloc _, ?_, hm, (hk.alloc _).alloc _, by omega⟩
    exact hB.kept (((Upd.refl _ _).alloc _).alloc _))
  have HPB := Lib.hid hpb
  have hpe : (w1.alloc (.cells #[.int .i64 (N : Int), .int .i64 arcs, .int .i64 workers, .int .i64 room, .int .i64 res, .int .i64 ex, .int .i64 hh, .int .i64 (f : Int), .int .i64 pending, .int .i64 ask, .int .i64 count, .int .i64 sense, .int .i64 deques, .int .i64 (Z : Int)] 25)).heap.size = pb + 1 := by rw [← hpb]; simp
  have HPE := Lib.hid hpe
  clear hB hk HP hbb hg hpb hpe
  go_wp2_with fail
  try rw [HPB.out]
  clear HPB HPE hif1 hif2 hsl hmm
  go_loopw [50] (fun x wr => ∃ (k : Nat) (xs h : List Int) (l : List Bool) (c : Nat), x = .int .i64 k ∧ k ≤ M ∧ c ≤ k ∧ Hid (FP f N Z xs h) ∧ Hid (FO w pb bb g (pb + 1) c #[.int .i64 (N : Int), .int .i64 arcs, .int .i64 workers, .int .i64 room, .int .i64 res, .int .i64 ex, .int .i64 hh, .int .i64 (f : Int), .int .i64 pending, .int .i64 ask, .int .i64 count, .int .i64 sense, .int .i64 deques, .int .i64 (Z : Int)] xs h l wr)) (fun x _ => M - (intOf x).toNat)
  case atStart => exact ⟨0, _, _, _, 0, rfl, by omega, by omega, Lib.hid (FP.new f N Z HF1.out), S0⟩
  case round =>
    obtain ⟨k, xs, h, l, c, rfl, hk, hck0, HFP, S1⟩ := hrel
    clear S0
    obtain ⟨mb, hmb⟩ : ∃ mb, pb + 1 = mb := ⟨_, rfl⟩
    rw [hmb] at S1 ⊢
    have HMB := Lib.hid hmb
    clear hmb
    by_cases hlt : k < M
    · as_aux_lemma =>
      obtain ⟨b, off, rfl, hcc⟩ := HC.out.resolve_left (by omega)
      obtain ⟨V, fr, ag, HO0, hV0, hV1⟩ := actAt HF.out hcc (k := k) (by omega)
      clear hcc HC HF
      have hN0 : ¬ (N : Int) = 0 := by omega
      obtain ⟨q, hq⟩ := Int.eq_ofNat_of_zero_le (Int.emod_nonneg V hN0)
      have hqN : q < N := by have := Int.emod_lt_of_pos V (show (0 : Int) < (N : Int) by omega); omega
      obtain ⟨e0, e1, e2⟩ := HO0.out.kept S1.out.kp
      have S2' := Lib.hid (S1.out.kept ((Upd.refl _ _).alloc (.cells #[.int .u8 V, .bool fr, .bool ag] 31)))
      have HB' := Lib.hid (Blk.new wr #[.int .u8 V, .bool fr, .bool ag] 31)
      clear hN hK w0 w1' S1 HO0
      go_upto_region 9 with (fail)
      obtain ⟨W1, hW⟩ : ∃ W1, wr.alloc (.cells #[.int .u8 V, .bool fr, .bool ag] 31) = W1 := ⟨_, rfl⟩
      obtain ⟨ob, hob⟩ : ∃ ob, wr.heap.size = ob := ⟨_, rfl⟩
      rw [hW] at S2' HB' ⊢
      rw [hob] at HB' ⊢
      have S2 := Lib.hid S2'.out
      have HB := Lib.hid HB'.out
      clear hW hob S2' HB' e0 e1 e2
      have co := HB.out.cell
      have cb := S2.out.box.cell
      go_upto_if 63 with (fail)
      rw [hq]
      go_cut [18] from 60 to 70 (fun x wx => ∃ u : Nat, x = .int .i64 (u : Int) ∧ u ≤ 8 ∧ wx = W1)
      case first =>
        by_cases hwk : k < z3.length
        · obtain ⟨b', off', rfl, hc2⟩ := HR3.out.at k (by simpa using hwk)
          have c2 : w.cell? ⟨b', off' + k, none⟩ = some (.int .u8 (z3.getD k 0)) := by rw [hc2]; simp [hwk]
          have c2' : W1.cell? ⟨b', off' + k, none⟩ = some (.int .u8 (z3.getD k 0)) := (keptCells S2.out.kp _ (by rw [c2]; rfl)).trans c2
          have hyb := bounds_u8 (HW3.out (z3.getD k 0) (by simp [List.getD, hwk]))
          obtain ⟨y, hy⟩ : ∃ y, z3.getD k 0 = y := ⟨_, rfl⟩
          rw [hy] at c2' hyb
          clear c2 hc2 hy
          have hK0 : ¬ (K : Int) = 0 := by omega
          obtain ⟨u, hu⟩ := Int.eq_ofNat_of_zero_le (Int.emod_nonneg y hK0)
          have hu8 : u ≤ 8 := by have := Int.emod_lt_of_pos y (show (0 : Int) < (K : Int) by omega); omega
          have HU := Lib.hid hu
          clear hu
          go_wp2_with fail
          go_meet
          case rel => exact ⟨u, congrArg _ HU.out, hu8, rfl⟩
        · go_wp2_with fail
          go_meet
          case rel => exact ⟨0, rfl, by omega, rfl⟩
      case rest =>
        obtain ⟨u, rfl, hu, hwc⟩ := hcut
        rw [hwc]
        clear hwc
        obtain ⟨hv, hhv⟩ : ∃ hv, h.getD q 0 = hv := ⟨_, rfl⟩
        have hlk := S2.out.map.look q (by rw [HFP.out.hl]; exact hqN) (by omega) hhv
        have hv0 : 0 ≤ hv := by rw [← hhv]; exact (HFP.out.at_ q hqN).1
        clear hq
        cases fr with
        | true =>
          by_cases hne : hv = (u : Int) + 1
          · as_aux_lemma =>
              have hcmp : (hv != (u : Int) + 1) = false := by rw [hne]; simp
              clear hne
              go_wp2_with fail
              refine (HNF q hqN _).out.mono ?_
              rintro e w3 ⟨rfl, hk3⟩
              have S3 := Lib.hid (S2.out.kept hk3)
              have hlk3 := S3.out.map.look q (by rw [HFP.out.hl]; exact hqN) (by omega) hhv
              clear hk3 S2 hlk cb co
              go_upto_region 15 with (fail)
              obtain ⟨W4, hW4⟩ : ∃ W4, w3.alloc (.cells #[.int .i64 ((f : Int) + (q : Int)), .bool false] 35) = W4 := ⟨_, rfl⟩
              obtain ⟨fb, hfb⟩ : ∃ fb, w3.heap.size = fb := ⟨_, rfl⟩
              have S4 : Hid (FO w pb bb g mb c #[.int .i64 (N : Int), .int .i64 arcs, .int .i64 workers, .int .i64 room, .int .i64 res, .int .i64 ex, .int .i64 hh, .int .i64 (f : Int), .int .i64 pending, .int .i64 ask, .int .i64 count, .int .i64 sense, .int .i64 deques, .int .i64 (Z : Int)] xs h l W4) := Lib.hid (by rw [← hW4]; exact S3.out.kept ((Upd.refl _ _).alloc _))
              have HF4 : Hid (Blk W4 fb #[.int .i64 ((f : Int) + (q : Int)), .bool false] 35) := Lib.hid (by rw [← hW4]; exact Blk.newAt _ _ _ _ hfb.symm)
              have hfg : Hid (¬ fb = pb ∧ ¬ fb = mb ∧ w.heap.size ≤ fb) := Lib.hid (by have := S3.out.lts; omega)
              rw [hW4, hfb]
              clear hW4 hfb S3 hlk3
              go_wp2_with fail
              refine (Free_step fb bb g ((f : Int) + (q : Int)) xs _ W4 HF4.out S4.out.bank rfl).mono ?_
              rintro e w5 ⟨rfl, _, hB5, hU5⟩
              have S5 := Lib.hid (S4.out.acc2 hB5 hU5 hfg.out)
              clear hB5 hU5 S4 HF4 hfg
              go_wp2_with (first | (at_mapUpdate; refine wpList_put _ rfl _ _ _ rfl rfl S5.out.map (by unfold maxLen; omega) q (0) rfl rfl (by rw [HFP.out.hl]; exact hqN) (by omega) (by decide) ?_; intro w6 hM6 hU6; have S6 := Lib.hid (S5.out.put hM6 hU6); have cb6 := S6.out.box.cell; clear hM6 hU6) | fail)
              refine (HHe bb g (bput xs ((f : Int) + (q : Int)) 0) w6 S6.out.bank).out.mono ?_
              rintro e w7 ⟨_, rfl, hown7, hk7⟩
              obtain ⟨ha, hc, rfl, hrd⟩ := Rd.owns hown7
              have HRd := Lib.hid hrd
              have S7 := Lib.hid (S6.out.kept hk7)
              obtain ⟨xs7, hx7⟩ : ∃ xs7, bput xs ((f : Int) + (q : Int)) 0 = xs7 := ⟨_, rfl⟩
              obtain ⟨h7, hh7⟩ : ∃ h7, h.set q 0 = h7 := ⟨_, rfl⟩
              obtain ⟨l7, hl7⟩ : ∃ l7, l.set q true = l7 := ⟨_, rfl⟩
              obtain ⟨c7, hc7⟩ : ∃ c7, c + 1 = c7 := ⟨_, rfl⟩
              have HP7 := Lib.hid (HFP.out.put hqN (Int.le_refl 0) (show (0 : Int) = if (0 : Int) = 0 then 0 else 1 from rfl))
              rw [hx7, hh7] at HP7
              rw [hx7, hh7, hl7, hc7] at S7
              rw [hx7] at HRd ⊢
              have hck : c7 ≤ k + 1 := by omega
              clear hx7 hh7 hl7 hc7 hrd hown7 hk7 S6
              obtain ⟨Ln, hLn⟩ : ∃ Ln, (heldOf xs7 (f : Int) N).length = Ln := ⟨_, rfl⟩
              have HL := Lib.hid hLn
              have hLN : Ln ≤ N := by rw [← hLn]; exact heldOf_le _ _ _
              rw [hLn]
              clear hLn
              as_aux_lemma =>
                go_wp2_with fail
                go_loop [106] (fun x => ∃ j : Nat, x = .int .i64 j ∧ j ≤ Ln) (fun x => Ln - (intOf x).toNat)
                case atStart => exact ⟨0, rfl, by omega⟩
                case round =>
                  obtain ⟨j, rfl, hj⟩ := hrel
                  by_cases hlt2 : j < Ln
                  · obtain ⟨v, hvN, hve, hvne⟩ := HP7.out.held (j := j) (by rw [HL.out]; exact hlt2)
                    obtain ⟨b', off', rfl, hc2⟩ := HRd.out.at j (by rw [List.length_map, HL.out]; exact hlt2)
                    have c2 : w7.cell? ⟨b', off' + j, none⟩ = some (.int .i64 (v : Int)) := by rw [hc2]; exact hve
                    obtain ⟨y, hy⟩ : ∃ y, h7.getD v 0 = y := ⟨_, rfl⟩
                    have hlk := S7.out.map.look v (by rw [HP7.out.hl]; exact hvN) (by omega) hy
                    have hyb : (y == 0) = false := by rw [hy] at hvne; simpa using hvne
                    clear hve hvne hc2 hy
                    go_wp2_with fail
                    go_round
                    case rel => exact ⟨j + 1, by go_num, by omega⟩
                    case measure => simp [intOf]; omega
                  · as_aux_lemma =>
                    obtain ⟨D, ho, hd⟩ := S7.out.map
                    have HD := Lib.hid hd
                    obtain ⟨r, hr⟩ : ∃ r, w7.heap.size = r := ⟨_, rfl⟩
                    have hrl : Hid (pb < r ∧ bb < r ∧ g < r ∧ mb < r ∧ w.heap.size ≤ r) := Lib.hid (by rw [← hr]; exact S7.out.lts)
                    have HRR := Lib.hid hr
                    clear hd hj hr HRd
                    go_wp2_with (first
                      | (at_range; refine wpList_range_own _ rfl _ 29 rfl 3 3 lawI Try.underlying29 (plainElem (H := Unit) Try.prog 3) mb c7 D rfl ho ?_; intro w8 hrg0 hg0 hs0)
                      | fail)
                    try go_frame
                    rw [HRR.out] at hrg0
                    rw [HRR.out]
                    have S8 := Lib.hid (S7.out.kept (grown_kept hg0))
                    have HG0 := Lib.hid hrg0
                    clear ho hrg0 hg0 hs0 S7 HRR hlt2
                    go_loopw [24] (fun x wr => ∃ (left : Lit → Bool) (cnt A0 : Nat), x = .int .i64 A0 ∧ A0 ≤ N ∧ Hid (cntL h7 N left = A0) ∧ Hid (∀ z, left z = true → Maps.has D z = true) ∧ Hid (wr.ranges Try.prog 3 (plainElem (H := Unit) Try.prog 3) mb r c7 D left cnt) ∧ Hid (FO w pb bb g mb c7 #[.int .i64 (N : Int), .int .i64 arcs, .int .i64 workers, .int .i64 room, .int .i64 res, .int .i64 ex, .int .i64 hh, .int .i64 (f : Int), .int .i64 pending, .int .i64 ask, .int .i64 count, .int .i64 sense, .int .i64 deques, .int .i64 (Z : Int)] xs7 h7 l7 wr)) (fun _ wr => wr.rangeLeft mb r)
                    case atStart => exact ⟨_, _, 0, rfl, by omega, Lib.hid (cntL_start HD.out HP7.out.hl), Lib.hid (fun z h => h), HG0, S8⟩
                    case round =>
                      obtain ⟨left, cnt, A0, rfl, hA0, HCN, HLH, HG, S9⟩ := hrel
                      clear S8 HG0
                      have hrg := HG.out
                      go_wp2_with (first
                        | (at_next; refine wpList_next_ranges_ii _ rfl _ rfl 3 3 .i64 .i64 lawI Try.underlying3 Try.underlying3 mb r c7 _ _ _ rfl hrg ?_ ?_)
                        | fail)
                      · intro _ hl0
                        obtain rfl : A0 = Ln := by rw [← HCN.out, cntL_end HP7.out hl0, HL.out]
                        clear hrg
                        go_wp2_with fail
                        go_roundw
                        case rel => exact ⟨k + 1, xs7, h7, l7, c7, by go_num, by omega, hck, HP7, S9⟩
                        case measure => simp [intOf]; omega
                      · intro x c1 w1' cnt1 hwx hwc hlx hat hrg1 hlt' hg1 hs1 hen
                        obtain ⟨i, hi, rfl, rfl⟩ := HD.out.entry (HLH.out _ hlx) hat
                        have S10 := Lib.hid (S9.out.fresh (grown_upd hg1) hrl.out)
                        have hiN : i < N := by rw [← HP7.out.hl]; exact hi
                        have HS := cntL_step (h := h7) hiN hlx
                        have HLn := Lib.hid (show ∀ z, (left z && !z.sameKey (.int .i64 (i : Int))) = true → Maps.has D z = true from fun z hz => HLH.out z (by simp only [Bool.and_eq_true] at hz; exact hz.1))
                        have HG1 := Lib.hid hrg1
                        have HME := Lib.hid (show w1'.rangeLeft mb r < wr.rangeLeft mb r by rw [hrg1.left_eq, hrg.left_eq]; exact hlt')
                        clear hrg1 hlt' hg1 hs1 hat hlx hi hrg S9 HLH
                        obtain ⟨y, hy⟩ : ∃ y, h7.getD i 0 = y := ⟨_, rfl⟩
                        rw [hy] at hen HS ⊢
                        by_cases hy0 : 0 < y
                        · have HC2 : Hid (cntL h7 N (fun z => left z && !z.sameKey (.int .i64 (i : Int))) = A0 + 1) := Lib.hid (by rw [HS, if_pos hy0, HCN.out])
                          have hAN : A0 + 1 ≤ N := by rw [← HC2.out]; exact cntL_le _ _ _
                          clear HS hwx hwc hy
                          go_wp2_with fail
                          go_roundw
                          case rel => exact ⟨_, cnt1, A0 + 1, by go_num, hAN, HC2, HLn, HG1, S10⟩
                          case measure => exact HME.out
                        · have HC2 : Hid (cntL h7 N (fun z => left z && !z.sameKey (.int .i64 (i : Int))) = A0) := Lib.hid (by rw [HS, if_neg hy0, HCN.out]; rfl)
                          clear HS hwx hwc hy
                          go_wp2_with fail
                          go_roundw
                          case rel => exact ⟨_, cnt1, A0, rfl, hA0, HC2, HLn, HG1, S10⟩
                          case measure => exact HME.out
          · as_aux_lemma =>
              have hcmp : (hv != (u : Int) + 1) = true := by simpa using hne
              clear hne
              go_wp2_with fail
              go_roundw
              case rel => exact ⟨k + 1, xs, h, l, c, by go_num, by omega, by omega, HFP, S2⟩
              case measure => simp [intOf]; omega
        | false =>
          by_cases hz : hv = 0
          · as_aux_lemma =>
              have hbg : bget xs ((f : Int) + (q : Int)) = 0 := by rw [(HFP.out.at_ q hqN).2, hhv, if_pos hz]
              have hzb : (hv == 0) = true := by simpa using hz
              clear hlk hz
              go_wp2_with fail
              refine (HCL q hqN bb g true xs (bput xs ((f : Int) + (q : Int)) 1) _ S2.out.bank (by rw [HFP.out.xl]; have := HFP.out.fit; omega) (by rw [hbg]; rfl) (by rw [hbg]; rfl)).out.mono ?_
              rintro e w3 ⟨rfl, hB3, hU3⟩
              have S3 := Lib.hid (S2.out.acc hB3 hU3)
              have cb3 := S3.out.box.cell
              have hlk := S3.out.map.look q (by rw [HFP.out.hl]; exact hqN) (by omega) hhv
              clear hB3 hU3 S2 cb co hbg
              go_wp2_with (first | (at_mapUpdate; refine wpList_put _ rfl _ _ _ rfl rfl S3.out.map (by unfold maxLen; omega) q ((u : Int) + 1) rfl rfl (by rw [HFP.out.hl]; exact hqN) (by omega) (WalkArith.wf_i64 (by omega)) ?_; intro w6 hM6 hU6; have S6 := Lib.hid (S3.out.put hM6 hU6); have cb6 := S6.out.box.cell; clear hM6 hU6) | fail)
              refine (HHe bb g (bput xs ((f : Int) + (q : Int)) 1) w6 S6.out.bank).out.mono ?_
              rintro e w7 ⟨_, rfl, hown7, hk7⟩
              obtain ⟨ha, hc, rfl, hrd⟩ := Rd.owns hown7
              have HRd := Lib.hid hrd
              have S7 := Lib.hid (S6.out.kept hk7)
              obtain ⟨xs7, hx7⟩ : ∃ xs7, bput xs ((f : Int) + (q : Int)) 1 = xs7 := ⟨_, rfl⟩
              obtain ⟨h7, hh7⟩ : ∃ h7, h.set q ((u : Int) + 1) = h7 := ⟨_, rfl⟩
              obtain ⟨l7, hl7⟩ : ∃ l7, l.set q true = l7 := ⟨_, rfl⟩
              obtain ⟨c7, hc7⟩ : ∃ c7, c + 1 = c7 := ⟨_, rfl⟩
              have HP7 := Lib.hid (HFP.out.put hqN (show (0 : Int) ≤ (u : Int) + 1 by omega) (show (1 : Int) = if (u : Int) + 1 = 0 then 0 else 1 by rw [if_neg (by omega)]))
              rw [hx7, hh7] at HP7
              rw [hx7, hh7, hl7, hc7] at S7
              rw [hx7] at HRd ⊢
              have hck : c7 ≤ k + 1 := by omega
              clear hx7 hh7 hl7 hc7 hrd hown7 hk7 S6
              obtain ⟨Ln, hLn⟩ : ∃ Ln, (heldOf xs7 (f : Int) N).length = Ln := ⟨_, rfl⟩
              have HL := Lib.hid hLn
              have hLN : Ln ≤ N := by rw [← hLn]; exact heldOf_le _ _ _
              rw [hLn]
              clear hLn
              as_aux_lemma =>
                go_wp2_with fail
                go_loop [106] (fun x => ∃ j : Nat, x = .int .i64 j ∧ j ≤ Ln) (fun x => Ln - (intOf x).toNat)
                case atStart => exact ⟨0, rfl, by omega⟩
                case round =>
                  obtain ⟨j, rfl, hj⟩ := hrel
                  by_cases hlt2 : j < Ln
                  · obtain ⟨v, hvN, hve, hvne⟩ := HP7.out.held (j := j) (by rw [HL.out]; exact hlt2)
                    obtain ⟨b', off', rfl, hc2⟩ := HRd.out.at j (by rw [List.length_map, HL.out]; exact hlt2)
                    have c2 : w7.cell? ⟨b', off' + j, none⟩ = some (.int .i64 (v : Int)) := by rw [hc2]; exact hve
                    obtain ⟨y, hy⟩ : ∃ y, h7.getD v 0 = y := ⟨_, rfl⟩
                    have hlk := S7.out.map.look v (by rw [HP7.out.hl]; exact hvN) (by omega) hy
                    have hyb : (y == 0) = false := by rw [hy] at hvne; simpa using hvne
                    clear hve hvne hc2 hy
                    go_wp2_with fail
                    go_round
                    case rel => exact ⟨j + 1, by go_num, by omega⟩
                    case measure => simp [intOf]; omega
                  · as_aux_lemma =>
                    obtain ⟨D, ho, hd⟩ := S7.out.map
                    have HD := Lib.hid hd
                    obtain ⟨r, hr⟩ : ∃ r, w7.heap.size = r := ⟨_, rfl⟩
                    have hrl : Hid (pb < r ∧ bb < r ∧ g < r ∧ mb < r ∧ w.heap.size ≤ r) := Lib.hid (by rw [← hr]; exact S7.out.lts)
                    have HRR := Lib.hid hr
                    clear hd hj hr HRd
                    go_wp2_with (first
                      | (at_range; refine wpList_range_own _ rfl _ 29 rfl 3 3 lawI Try.underlying29 (plainElem (H := Unit) Try.prog 3) mb c7 D rfl ho ?_; intro w8 hrg0 hg0 hs0)
                      | fail)
                    try go_frame
                    rw [HRR.out] at hrg0
                    rw [HRR.out]
                    have S8 := Lib.hid (S7.out.kept (grown_kept hg0))
                    have HG0 := Lib.hid hrg0
                    clear ho hrg0 hg0 hs0 S7 HRR hlt2
                    go_loopw [24] (fun x wr => ∃ (left : Lit → Bool) (cnt A0 : Nat), x = .int .i64 A0 ∧ A0 ≤ N ∧ Hid (cntL h7 N left = A0) ∧ Hid (∀ z, left z = true → Maps.has D z = true) ∧ Hid (wr.ranges Try.prog 3 (plainElem (H := Unit) Try.prog 3) mb r c7 D left cnt) ∧ Hid (FO w pb bb g mb c7 #[.int .i64 (N : Int), .int .i64 arcs, .int .i64 workers, .int .i64 room, .int .i64 res, .int .i64 ex, .int .i64 hh, .int .i64 (f : Int), .int .i64 pending, .int .i64 ask, .int .i64 count, .int .i64 sense, .int .i64 deques, .int .i64 (Z : Int)] xs7 h7 l7 wr)) (fun _ wr => wr.rangeLeft mb r)
                    case atStart => exact ⟨_, _, 0, rfl, by omega, Lib.hid (cntL_start HD.out HP7.out.hl), Lib.hid (fun z h => h), HG0, S8⟩
                    case round =>
                      obtain ⟨left, cnt, A0, rfl, hA0, HCN, HLH, HG, S9⟩ := hrel
                      clear S8 HG0
                      have hrg := HG.out
                      go_wp2_with (first
                        | (at_next; refine wpList_next_ranges_ii _ rfl _ rfl 3 3 .i64 .i64 lawI Try.underlying3 Try.underlying3 mb r c7 _ _ _ rfl hrg ?_ ?_)
                        | fail)
                      · intro _ hl0
                        obtain rfl : A0 = Ln := by rw [← HCN.out, cntL_end HP7.out hl0, HL.out]
                        clear hrg
                        go_wp2_with fail
                        go_roundw
                        case rel => exact ⟨k + 1, xs7, h7, l7, c7, by go_num, by omega, hck, HP7, S9⟩
                        case measure => simp [intOf]; omega
                      · intro x c1 w1' cnt1 hwx hwc hlx hat hrg1 hlt' hg1 hs1 hen
                        obtain ⟨i, hi, rfl, rfl⟩ := HD.out.entry (HLH.out _ hlx) hat
                        have S10 := Lib.hid (S9.out.fresh (grown_upd hg1) hrl.out)
                        have hiN : i < N := by rw [← HP7.out.hl]; exact hi
                        have HS := cntL_step (h := h7) hiN hlx
                        have HLn := Lib.hid (show ∀ z, (left z && !z.sameKey (.int .i64 (i : Int))) = true → Maps.has D z = true from fun z hz => HLH.out z (by simp only [Bool.and_eq_true] at hz; exact hz.1))
                        have HG1 := Lib.hid hrg1
                        have HME := Lib.hid (show w1'.rangeLeft mb r < wr.rangeLeft mb r by rw [hrg1.left_eq, hrg.left_eq]; exact hlt')
                        clear hrg1 hlt' hg1 hs1 hat hlx hi hrg S9 HLH
                        obtain ⟨y, hy⟩ : ∃ y, h7.getD i 0 = y := ⟨_, rfl⟩
                        rw [hy] at hen HS ⊢
                        by_cases hy0 : 0 < y
                        · have HC2 : Hid (cntL h7 N (fun z => left z && !z.sameKey (.int .i64 (i : Int))) = A0 + 1) := Lib.hid (by rw [HS, if_pos hy0, HCN.out])
                          have hAN : A0 + 1 ≤ N := by rw [← HC2.out]; exact cntL_le _ _ _
                          clear HS hwx hwc hy
                          go_wp2_with fail
                          go_roundw
                          case rel => exact ⟨_, cnt1, A0 + 1, by go_num, hAN, HC2, HLn, HG1, S10⟩
                          case measure => exact HME.out
                        · have HC2 : Hid (cntL h7 N (fun z => left z && !z.sameKey (.int .i64 (i : Int))) = A0) := Lib.hid (by rw [HS, if_neg hy0, HCN.out]; rfl)
                          clear HS hwx hwc hy
                          go_wp2_with fail
                          go_roundw
                          case rel => exact ⟨_, cnt1, A0, rfl, hA0, HC2, HLn, HG1, S10⟩
                          case measure => exact HME.out
          · as_aux_lemma =>
              have hbg : bget xs ((f : Int) + (q : Int)) = 1 := by rw [(HFP.out.at_ q hqN).2, hhv, if_neg hz]
              have hzb : (hv == 0) = false := by simpa using hz
              clear hlk hz
              go_wp2_with fail
              refine (HCL q hqN bb g false xs (xs) _ S2.out.bank (by rw [HFP.out.xl]; have := HFP.out.fit; omega) (by rw [hbg]; rfl) (by rw [hbg]; rfl)).out.mono ?_
              rintro e w3 ⟨rfl, hB3, hU3⟩
              have S3 := Lib.hid (S2.out.acc hB3 hU3)
              have cb3 := S3.out.box.cell
              have hlk := S3.out.map.look q (by rw [HFP.out.hl]; exact hqN) (by omega) hhv
              clear hB3 hU3 S2 cb co hbg
              go_wp2_with fail
              refine (HHe bb g (xs) w3 S3.out.bank).out.mono ?_
              rintro e w7 ⟨_, rfl, hown7, hk7⟩
              obtain ⟨ha, hc, rfl, hrd⟩ := Rd.owns hown7
              have HRd := Lib.hid hrd
              have S7 := Lib.hid (S3.out.kept hk7)
              obtain ⟨xs7, hx7⟩ : ∃ xs7, xs = xs7 := ⟨_, rfl⟩
              obtain ⟨h7, hh7⟩ : ∃ h7, h = h7 := ⟨_, rfl⟩
              obtain ⟨l7, hl7⟩ : ∃ l7, l = l7 := ⟨_, rfl⟩
              obtain ⟨c7, hc7⟩ : ∃ c7, c = c7 := ⟨_, rfl⟩
              have HP7 := HFP
              rw [hx7, hh7] at HP7
              rw [hx7, hh7, hl7, hc7] at S7
              rw [hx7] at HRd ⊢
              have hck : c7 ≤ k + 1 := by omega
              clear hx7 hh7 hl7 hc7 hrd hown7 hk7 S3
              obtain ⟨Ln, hLn⟩ : ∃ Ln, (heldOf xs7 (f : Int) N).length = Ln := ⟨_, rfl⟩
              have HL := Lib.hid hLn
              have hLN : Ln ≤ N := by rw [← hLn]; exact heldOf_le _ _ _
              rw [hLn]
              clear hLn
              as_aux_lemma =>
                go_wp2_with fail
                go_loop [106] (fun x => ∃ j : Nat, x = .int .i64 j ∧ j ≤ Ln) (fun x => Ln - (intOf x).toNat)
                case atStart => exact ⟨0, rfl, by omega⟩
                case round =>
                  obtain ⟨j, rfl, hj⟩ := hrel
                  by_cases hlt2 : j < Ln
                  · obtain ⟨v, hvN, hve, hvne⟩ := HP7.out.held (j := j) (by rw [HL.out]; exact hlt2)
                    obtain ⟨b', off', rfl, hc2⟩ := HRd.out.at j (by rw [List.length_map, HL.out]; exact hlt2)
                    have c2 : w7.cell? ⟨b', off' + j, none⟩ = some (.int .i64 (v : Int)) := by rw [hc2]; exact hve
                    obtain ⟨y, hy⟩ : ∃ y, h7.getD v 0 = y := ⟨_, rfl⟩
                    have hlk := S7.out.map.look v (by rw [HP7.out.hl]; exact hvN) (by omega) hy
                    have hyb : (y == 0) = false := by rw [hy] at hvne; simpa using hvne
                    clear hve hvne hc2 hy
                    go_wp2_with fail
                    go_round
                    case rel => exact ⟨j + 1, by go_num, by omega⟩
                    case measure => simp [intOf]; omega
                  · as_aux_lemma =>
                    obtain ⟨D, ho, hd⟩ := S7.out.map
                    have HD := Lib.hid hd
                    obtain ⟨r, hr⟩ : ∃ r, w7.heap.size = r := ⟨_, rfl⟩
                    have hrl : Hid (pb < r ∧ bb < r ∧ g < r ∧ mb < r ∧ w.heap.size ≤ r) := Lib.hid (by rw [← hr]; exact S7.out.lts)
                    have HRR := Lib.hid hr
                    clear hd hj hr HRd
                    go_wp2_with (first
                      | (at_range; refine wpList_range_own _ rfl _ 29 rfl 3 3 lawI Try.underlying29 (plainElem (H := Unit) Try.prog 3) mb c7 D rfl ho ?_; intro w8 hrg0 hg0 hs0)
                      | fail)
                    try go_frame
                    rw [HRR.out] at hrg0
                    rw [HRR.out]
                    have S8 := Lib.hid (S7.out.kept (grown_kept hg0))
                    have HG0 := Lib.hid hrg0
                    clear ho hrg0 hg0 hs0 S7 HRR hlt2
                    go_loopw [24] (fun x wr => ∃ (left : Lit → Bool) (cnt A0 : Nat), x = .int .i64 A0 ∧ A0 ≤ N ∧ Hid (cntL h7 N left = A0) ∧ Hid (∀ z, left z = true → Maps.has D z = true) ∧ Hid (wr.ranges Try.prog 3 (plainElem (H := Unit) Try.prog 3) mb r c7 D left cnt) ∧ Hid (FO w pb bb g mb c7 #[.int .i64 (N : Int), .int .i64 arcs, .int .i64 workers, .int .i64 room, .int .i64 res, .int .i64 ex, .int .i64 hh, .int .i64 (f : Int), .int .i64 pending, .int .i64 ask, .int .i64 count, .int .i64 sense, .int .i64 deques, .int .i64 (Z : Int)] xs7 h7 l7 wr)) (fun _ wr => wr.rangeLeft mb r)
                    case atStart => exact ⟨_, _, 0, rfl, by omega, Lib.hid (cntL_start HD.out HP7.out.hl), Lib.hid (fun z h => h), HG0, S8⟩
                    case round =>
                      obtain ⟨left, cnt, A0, rfl, hA0, HCN, HLH, HG, S9⟩ := hrel
                      clear S8 HG0
                      have hrg := HG.out
                      go_wp2_with (first
                        | (at_next; refine wpList_next_ranges_ii _ rfl _ rfl 3 3 .i64 .i64 lawI Try.underlying3 Try.underlying3 mb r c7 _ _ _ rfl hrg ?_ ?_)
                        | fail)
                      · intro _ hl0
                        obtain rfl : A0 = Ln := by rw [← HCN.out, cntL_end HP7.out hl0, HL.out]
                        clear hrg
                        go_wp2_with fail
                        go_roundw
                        case rel => exact ⟨k + 1, xs7, h7, l7, c7, by go_num, by omega, hck, HP7, S9⟩
                        case measure => simp [intOf]; omega
                      · intro x c1 w1' cnt1 hwx hwc hlx hat hrg1 hlt' hg1 hs1 hen
                        obtain ⟨i, hi, rfl, rfl⟩ := HD.out.entry (HLH.out _ hlx) hat
                        have S10 := Lib.hid (S9.out.fresh (grown_upd hg1) hrl.out)
                        have hiN : i < N := by rw [← HP7.out.hl]; exact hi
                        have HS := cntL_step (h := h7) hiN hlx
                        have HLn := Lib.hid (show ∀ z, (left z && !z.sameKey (.int .i64 (i : Int))) = true → Maps.has D z = true from fun z hz => HLH.out z (by simp only [Bool.and_eq_true] at hz; exact hz.1))
                        have HG1 := Lib.hid hrg1
                        have HME := Lib.hid (show w1'.rangeLeft mb r < wr.rangeLeft mb r by rw [hrg1.left_eq, hrg.left_eq]; exact hlt')
                        clear hrg1 hlt' hg1 hs1 hat hlx hi hrg S9 HLH
                        obtain ⟨y, hy⟩ : ∃ y, h7.getD i 0 = y := ⟨_, rfl⟩
                        rw [hy] at hen HS ⊢
                        by_cases hy0 : 0 < y
                        · have HC2 : Hid (cntL h7 N (fun z => left z && !z.sameKey (.int .i64 (i : Int))) = A0 + 1) := Lib.hid (by rw [HS, if_pos hy0, HCN.out])
                          have hAN : A0 + 1 ≤ N := by rw [← HC2.out]; exact cntL_le _ _ _
                          clear HS hwx hwc hy
                          go_wp2_with fail
                          go_roundw
                          case rel => exact ⟨_, cnt1, A0 + 1, by go_num, hAN, HC2, HLn, HG1, S10⟩
                          case measure => exact HME.out
                        · have HC2 : Hid (cntL h7 N (fun z => left z && !z.sameKey (.int .i64 (i : Int))) = A0) := Lib.hid (by rw [HS, if_neg hy0, HCN.out]; rfl)
                          clear HS hwx hwc hy
                          go_wp2_with fail
                          go_roundw
                          case rel => exact ⟨_, cnt1, A0, rfl, hA0, HC2, HLn, HG1, S10⟩
                          case measure => exact HME.out
    · as_aux_lemma =>
      go_wp2_with fail
      refine (awake_any _).mono ?_
      rintro e w5 ⟨rfl, hk5⟩
      go_wp2
      go_ret
      exact ⟨rfl, S1.out.kp.trans hk5⟩
end Go.Proofs.Ytnhedibdecileaa
