/- The law FlagsAll. -/
import Derived.Test.YtnhedibdecileaaAwake12
import Derived.Test.YtnhedibdecileaaRd
import Derived.Test.YtnhedibdecileaaOpen
import Derived.Test.YtnhedibdecileaaHeld
import Derived.Test.YtnhedibdecileaaClaims
import Derived.Test.YtnhedibdecileaaInts12
import Derived.Test.YtnhedibdecileaaRegion
import Derived.Deep.CutRange
import Derived.StillTailTactics
import Derived.ArgAppend
namespace Go.Proofs.Ytnhedibdecileaa
set_option linter.unusedVariables false
open Go.RowKit

theorem Blk.newAt (w : World) (arr : Array Value) (T : TypeId) (k : Nat) (h : k = w.heap.size) : Blk (w.alloc (.cells arr T)) k arr T := by subst h; exact Blk.new w arr T
theorem IntRow.rd {k : IntKind} {w : World} {a : Option Addr} {cap : Nat} {zs : List Int} (h : IntRow k w a cap zs) : Rd w a (zs.map (Value.int k)) := by
  rcases h.cells with h0 | ⟨b, off, rfl, hc⟩
  · left; rw [List.eq_nil_of_length_eq_zero h0]; rfl
  · right
    refine ⟨b, off, rfl, fun i u hu => ?_⟩
    rw [List.getElem?_map] at hu
    cases hz : zs[i]? with
    | none => rw [hz] at hu; cases hu
    | some z =>
      rw [hz] at hu
      cases hu
      obtain ⟨hi, rfl⟩ := List.getElem?_eq_some_iff.1 hz
      exact hc i hi
theorem bget_at (xs : List Int) (f v : Nat) : bget xs ((f : Int) + (v : Int)) = xs.getD (f + v) 0 := by
  rw [bget_in (by omega)]
  congr 1
theorem bput_at (xs : List Int) (f v : Nat) (u : Int) : bput xs ((f : Int) + (v : Int)) u = xs.set (f + v) u := by
  rw [bput_in _ (by omega)]
  congr 1
/-- The first k flags are up. -/
structure Ups (f N Z k : Nat) (xs : List Int) : Prop where
  xl : xs.length = Z
  fit : f + N ≤ Z
  at_ : ∀ v : Nat, v < N → bget xs ((f : Int) + (v : Int)) = if v < k then 1 else 0
theorem Ups.new (f N Z : Nat) (h : f + N ≤ Z) : Ups f N Z 0 (List.replicate Z 0) := by
  refine ⟨by simp, h, fun v hv => ?_⟩
  rw [bget_at]
  simp [List.getD, show f + v < Z by omega]
theorem Ups.next {f N Z k : Nat} {xs : List Int} (h : Ups f N Z k xs) (hk : k < N) : Ups f N Z (k + 1) (bput xs ((f : Int) + (k : Int)) 1) := by
  have h1 := h.xl
  have h2 := h.fit
  refine ⟨by simpa using h1, h2, fun v hv => ?_⟩
  have h3 := h.at_ v hv
  rw [bget_at] at h3 ⊢
  rw [bput_at]
  by_cases e : v = k
  · subst e
    rw [if_pos (by omega)]
    simp [List.getD, show f + v < xs.length by omega]
  · rw [show (xs.set (f + k) 1).getD (f + v) 0 = xs.getD (f + v) 0 by simp [List.getD, Ne.symm e], h3]
    by_cases e2 : v < k
    · rw [if_pos e2, if_pos (by omega)]
    · rw [if_neg e2, if_neg (by omega)]
theorem Ups.all {f N Z : Nat} {xs : List Int} (h : Ups f N Z N xs) : heldOf xs (f : Int) N = (List.range N).map fun v : Nat => (v : Int) := by
  unfold heldOf
  congr 1
  apply List.filter_eq_self.2
  intro v hv
  have hv := List.mem_range.1 hv
  rw [h.at_ v hv, if_pos hv]
  rfl
theorem filter_erase : ∀ {L : List Nat} (hn : L.Nodup) (i : Nat) (hi : i < L.length), L.filter (fun x => x != L[i]) = L.eraseIdx i
  | x :: L, hn, 0, hi => by
    have h := List.nodup_cons.1 hn
    simp only [List.getElem_cons_zero, List.eraseIdx_cons_zero, List.filter_cons, bne_self_eq_false]
    rw [if_neg (by decide)]
    apply List.filter_eq_self.2
    intro y hy
    simp only [bne_iff_ne]
    intro e
    subst e
    exact h.1 hy
  | x :: L, hn, i + 1, hi => by
    have h := List.nodup_cons.1 hn
    have hi' : i < L.length := by simpa using hi
    simp only [List.getElem_cons_succ, List.eraseIdx_cons_succ, List.filter_cons]
    rw [if_pos, filter_erase h.2 i hi']
    simp only [bne_iff_ne]
    intro e
    exact h.1 (e ▸ List.getElem_mem hi')
theorem map_erase {α β : Type} (g : α → β) : ∀ (L : List α) (i : Nat), (L.eraseIdx i).map g = (L.map g).eraseIdx i
  | [], i => by simp
  | x :: L, 0 => by simp
  | x :: L, i + 1 => by simp [map_erase g L i]
/-- One of those that are held. -/
theorem held_at {xs : List Int} {f N i : Nat} {l : List Int} (hl : heldOf xs (f : Int) N = l) (hi : i < l.length) : ∃ v : Nat, v < N ∧ l[i]? = some (v : Int) := by
  subst hl
  have hm := List.getElem_mem hi
  obtain ⟨v, hv, he⟩ := List.mem_map.1 hm
  exact ⟨v, List.mem_range.1 (List.mem_filter.1 hv).1, by rw [List.getElem?_eq_getElem hi, ← he]⟩
theorem held_free {xs : List Int} {f N Z i v : Nat} {l : List Int} (hx : xs.length = Z) (hf : f + N ≤ Z) (hl : heldOf xs (f : Int) N = l) (hi : l[i]? = some (v : Int)) (hv : v < N) : heldOf (bput xs ((f : Int) + (v : Int)) 0) (f : Int) N = l.eraseIdx i := by
  subst hl
  unfold heldOf at hi ⊢
  rw [← map_erase]
  congr 1
  rw [List.getElem?_map] at hi
  obtain ⟨L, hL⟩ : ∃ L, (List.range N).filter (fun v : Nat => decide (bget xs ((f : Int) + (v : Int)) ≠ 0)) = L := ⟨_, rfl⟩
  rw [hL] at hi ⊢
  have hn : L.Nodup := by rw [← hL]; exact (List.nodup_range).sublist List.filter_sublist
  cases hg : L[i]? with
  | none => rw [hg] at hi; cases hi
  | some u =>
    rw [hg] at hi
    have hi3 : (u : Int) = (v : Int) := by simpa using hi
    have : u = v := by omega
    subst this
    obtain ⟨hi2, hg2⟩ := List.getElem?_eq_some_iff.1 hg
    rw [← filter_erase hn i hi2, hg2, ← hL, List.filter_filter]
    apply List.filter_congr
    intro y hy
    have hy := List.mem_range.1 hy
    rw [bget_at, bget_at, bput_at]
    by_cases e : y = u
    · subst e
      simp [List.getD, show f + y < xs.length by omega]
    · have e3 : (y != u) = true := by simpa using e
      rw [show (xs.set (f + u) 0).getD (f + y) 0 = xs.getD (f + y) 0 by simp [List.getD, Ne.symm e], e3]
      simp
/-- What the law holds. -/
structure AO (w : World) (pb bb g : Nat) (lv : Array Value) (xs : List Int) (W : World) : Prop where
  box : Blk W pb lv 25
  bank : Bnk W bb g xs
  kp : Kept w W
  geo : w.heap.size ≤ g ∧ ¬ pb = g
/-- The row of those that are left, in a block of its own. -/
structure LB (W : World) (b : Nat) (l : List Int) (g : Nat) : Prop where
  ne : ¬ b = g
  lt : b < W.heap.size
  cell : ∀ i u, (l.map (Value.int .i64))[i]? = some u → W.cell? ⟨b, i, none⟩ = some u
def LF (W : World) (v : Value) (l : List Int) (g : Nat) : Prop := ∃ a cap, v = .slice a l.length cap ∧ l.length ≤ cap ∧ cap ≤ maxLen ∧ (l = [] ∨ ∃ b, a = some ⟨b, 0, none⟩ ∧ LB W b l g)
section
variable {w W W' : World} {pb bb g : Nat} {lv : Array Value} {xs l : List Int}
theorem AO.kept (s : AO w pb bb g lv xs W) (hk : Kept W W') : AO w pb bb g lv xs W' := ⟨s.box.kept hk, s.bank.kept hk, s.kp.trans hk, s.geo⟩
theorem AO.acc (s : AO w pb bb g lv xs W) {ys : List Int} (hB : Bnk W' bb g ys) (hU : Upd (fun k => k = g) W W') : AO w pb bb g lv ys W' := by
  have := s.geo
  exact ⟨s.box.upd hU (fun e => by omega), hB, s.kp.then hU (fun i hi e => by omega), s.geo⟩
theorem AO.acc2 (s : AO w pb bb g lv xs W) {ys : List Int} {fb : Nat} (hB : Bnk W' bb g ys) (hU : Upd (fun k => k = g ∨ k = fb) W W') (h1 : ¬ fb = pb ∧ w.heap.size ≤ fb) : AO w pb bb g lv ys W' := by
  have := s.geo
  exact ⟨s.box.upd hU (fun e => by omega), hB, s.kp.then hU (fun i hi e => by omega), s.geo⟩
theorem AO.far (s : AO w pb bb g lv xs W) (hU : Upd (fun k => pb + 1 ≤ k) W W') (hb : bb < pb ∧ g < pb ∧ w.heap.size ≤ pb) : AO w pb bb g lv xs W' :=
  ⟨s.box.upd hU (fun e => by omega), s.bank.upd hU (fun e => by omega) (fun e => by omega), s.kp.then hU (fun i hi e => by omega), s.geo⟩
theorem LB.upd {b : Nat} {S : Nat → Prop} (h : LB W b l g) (hU : Upd S W W') (hs : ¬ S b) : LB W' b l g :=
  ⟨h.ne, Nat.lt_of_lt_of_le h.lt hU.size, fun i u hu => (hU.cells _ (by rw [h.cell i u hu]; rfl) hs).trans (h.cell i u hu)⟩
theorem LF.upd {v : Value} {S : Nat → Prop} (h : LF W v l g) (hU : Upd S W W') (hs : ∀ b, b < W.heap.size → S b → b = g) : LF W' v l g := by
  obtain ⟨a, cap, hv, h1, h2, h3⟩ := h
  refine ⟨a, cap, hv, h1, h2, ?_⟩
  rcases h3 with h3 | ⟨b, ha, h4⟩
  · exact .inl h3
  · exact .inr ⟨b, ha, h4.upd hU (fun e => h4.ne (hs b h4.lt e))⟩
theorem LF.kept {v : Value} (h : LF W v l g) (hk : Kept W W') : LF W' v l g := h.upd hk (fun b _ f => f.elim)
theorem LF.owns {v : Value} {base : Nat} (h : W.ownsRow base 3 1 v l.length (l.map (Value.int .i64))) (hg : g < base) : LF W v l g := by
  rcases h.2 with ⟨rfl, hn⟩ | ⟨b, cap, cur, rfl, hb, hh, hc, hm, _⟩
  · exact ⟨none, 0, by rw [hn], by omega, by decide, .inl (List.eq_nil_of_length_eq_zero hn)⟩
  · refine ⟨_, cap, rfl, hc, hm, .inr ⟨b, rfl, by omega, (Array.getElem?_eq_some_iff.1 hh).1, fun i u hu => ?_⟩⟩
    have hi := (List.getElem?_eq_some_iff.1 hu).1
    rw [World.ownsRow.cellAt h i (by simpa using hi)]
    exact hu
end
/-- x[:i:i]. -/
theorem run_to {P : Program} {t e : TypeId} {size : Nat} (ht : P.underlying t = some (.slice e)) (hs : (P.info? e).map (fun i => i.size) = some size) (a : Option Addr) (len cap m : Nat) (hm : m ≤ cap) (w : World) :
    (Instr.slice t (.slice a len cap) none (some (.int .i64 m)) (some (.int .i64 m))).run P w = .ok (.slice a m m) w := by
  obtain ⟨i, hi, hsz⟩ := Option.map_eq_some_iff.1 hs
  have e1 : a.map (fun x => x.add 0) = a := by
    cases a with
    | none => rfl
    | some x => simp [Addr.add]
  simp [Instr.slice, run_underlying ht, Instr.sliceBounds, Instr.sliceBound, asIntOf, sizeOf, typeInfo, hi, Result.andThen, e1, hm]
/-- x[m:]. -/
theorem run_from {P : Program} {t e : TypeId} (ht : P.underlying t = some (.slice e)) (hs : (P.info? e).map (fun i => i.size) = some 1) (b len cap m : Nat) (x : Int) (hx : x = (m : Int)) (h0 : ¬ m = 0) (hm : m ≤ len) (hc : len ≤ cap) :
    ∃ ad : Addr, (m < len → ad = ⟨b, m, none⟩) ∧ ∀ w, (Instr.slice t (.slice (some ⟨b, 0, none⟩) len cap) (some (.int .i64 x)) none none).run P w = .ok (.slice (some ad) (len - m) (cap - m)) w := by
  subst hx
  obtain ⟨i, hi, hsz⟩ := Option.map_eq_some_iff.1 hs
  by_cases h : cap = m
  · refine ⟨⟨b, 0, none⟩, fun h2 => by omega, fun w => ?_⟩
    simp [Instr.slice, run_underlying ht, Instr.sliceBounds, Instr.sliceBound, asIntOf, sizeOf, typeInfo, hi, Result.andThen, Addr.add, hm, h]
  · refine ⟨⟨b, m, none⟩, fun h2 => rfl, fun w => ?_⟩
    simp [Instr.slice, run_underlying ht, Instr.sliceBounds, Instr.sliceBound, asIntOf, sizeOf, typeInfo, hi, Result.andThen, Addr.add, hm, hsz, h, h0]
theorem infoI : (Try.prog.info? 3).map (fun i => (i.zero, i.size, i.bytes)) = some (some (.int .i64 0), 1, 8) := by kernel_rfl
/-- append(x[:i:i], x[i+1:]...). -/
theorem wpList_erase (w : World) {ops : Array Oper} {rest : List Oper} {o : Oper} {a : Act} {Q : Exit → Act → World → Prop} (hg : o.guard = none) (s x : Operand) (hop : o.op = Op.call { callee := Callee.builtin Builtin.append, args := #[s, x], argTypes := #[39, 39] })
    {b g c i : Nat} {l : List Int} (hb : LB w b l g) (hi : i < l.length) (hl : l.length ≤ 1000000) (hs : a.eval s = .slice (some ⟨b, 0, none⟩) i i) {ad : Addr} (had : i + 1 < l.length → ad = ⟨b, i + 1, none⟩) (hx : a.eval x = .slice (some ad) (l.length - (i + 1)) c) (hgw : g < w.heap.size)
    (hK : ∀ v' w', LF w' v' (l.eraseIdx i) g → Kept w w' → wpList Try.prog ops Q rest (a.put o.dst v') w') : wpList Try.prog ops Q (o :: rest) a w := by
  obtain ⟨i0, hi0, hz0, hz1, hz2⟩ := info_parts infoI
  have hle : (l.eraseIdx i).length = l.length - 1 := by rw [List.length_eraseIdx, if_pos hi]
  by_cases he : i + 1 = l.length
  · have hrun : (Builtin.append_ #[39, 39] o.type #[.slice (some ⟨b, 0, none⟩) i i, .slice (some ad) (l.length - (i + 1)) c]).run Try.prog w = .ok (.slice (some ⟨b, 0, none⟩) i i) w := by
      have e0 : l.length - (i + 1) = 0 := by omega
      have hf := run_firstCells_some (P := Try.prog) w 1 0 ad 0 c [] rfl (by simp)
      rw [e0]
      simp [Builtin.append_, run_underlying Try.underlying39, sizeOf, typeInfo, hi0, hz1, Builtin.lenOf, hf, storeCells]
    refine wpList_plain hg fun K' hK' => ?_
    unfold Oper.wp
    simp [execOp, hop, resolve, invoke, builtin, hs, hx, hrun, Result.andThen]
    refine hK' _ _ (hK _ _ ⟨_, i, by rw [hle, ← he]; rfl, by rw [hle]; omega, by unfold maxLen; omega, .inr ⟨b, rfl, hb.ne, hb.lt, fun j u hu => ?_⟩⟩ (Upd.refl _ _))
    apply hb.cell j u
    have hj := (List.getElem?_eq_some_iff.1 hu).1
    rw [map_erase, List.getElem?_eraseIdx] at hu
    rw [List.length_map, hle] at hj
    rw [if_pos (by omega)] at hu
    exact hu
  · obtain rfl := had (by omega)
    have hlo : ((l.take i).map (Value.int .i64)).length = i * 1 := by simp; omega
    have hln : ((l.drop (i + 1)).map (Value.int .i64)).length = (l.length - (i + 1)) * 1 := by simp
    refine wpList_append_grows w hg s x 39 hop 3 i0 (.int .i64 0) 1 8 Try.underlying39 hi0 hz0 hz1 hz2 rfl (by decide) (some ⟨b, 0, none⟩) i i ((l.take i).map (Value.int .i64)) hs (by simp) hlo ?_ ⟨b, i + 1, none⟩ (l.length - (i + 1)) c ((l.drop (i + 1)).map (Value.int .i64)) hx hln ?_ ?_ (by omega) (by unfold maxLen; omega) (by omega) ?_
    · rintro b' e j u hu
      cases e
      have hj := (List.getElem?_eq_some_iff.1 hu).1
      rw [hlo] at hj
      rw [Addr.add_lit, Nat.zero_add]
      apply hb.cell j u
      rw [List.map_take, List.getElem?_take, if_pos (by omega)] at hu
      exact hu
    · intro j u hu
      rw [Addr.add_lit]
      apply hb.cell (i + 1 + j) u
      rw [List.map_drop, List.getElem?_drop] at hu
      exact hu
    · intro u hu
      obtain ⟨y, _, rfl⟩ := List.mem_map.1 hu
      rfl
    · intro v' w' hown hgr
      have hk : Kept w w' := Upd.grown (Upd.refl _ _) hgr (fun j hj => by cases hj)
      refine hK v' w' (LF.owns (base := w.heap.size) ?_ hgw) hk
      have e1 : i + (l.length - (i + 1)) = (l.eraseIdx i).length := by rw [hle]; omega
      rw [e1, ← List.map_append, ← List.eraseIdx_eq_take_drop_succ] at hown
      exact hown
/-- What the drawn region keeps. -/
structure RA (w : World) (pb bb g : Nat) (lv : Array Value) (xs : List Int) (base b : Nat) (l : List Int) (W : World) : Prop where
  ao : AO w pb bb g lv xs W
  lb : LB W b l g
  old : w.heap.size ≤ base
  up : base ≤ W.heap.size
  lts : pb < base ∧ bb < base ∧ g < base ∧ b < base
section
variable {w W W' : World} {pb bb g base b : Nat} {lv : Array Value} {xs l : List Int}
theorem RA.kept (h : RA w pb bb g lv xs base b l W) (hk : Kept W W') : RA w pb bb g lv xs base b l W' := ⟨h.ao.kept hk, h.lb.upd hk (fun f => f), h.old, Nat.le_trans h.up hk.size, h.lts⟩
theorem RA.upd (h : RA w pb bb g lv xs base b l W) {xb : Nat} (hU : Upd (fun k => k = xb) W W') (hx : base ≤ xb) : RA w pb bb g lv xs base b l W' := by
  have h1 := h.lts
  have h2 := h.old
  exact ⟨⟨h.ao.box.upd hU (fun e => by omega), h.ao.bank.upd hU (fun e => by omega) (fun e => by omega), h.ao.kp.then hU (fun i hi e => by omega), h.ao.geo⟩, h.lb.upd hU (fun e => by omega), h.old, Nat.le_trans h.up hU.size, h.lts⟩
theorem AO.ra (h : AO w pb bb g lv xs W) (hl : LB W b l g) : RA w pb bb g lv xs W.heap.size b l W := ⟨h, hl, h.kp.size, Nat.le_refl _, h.box.lt, h.bank.head.lt, h.bank.row.lt, hl.lt⟩
end
theorem Blk.put2 {w : World} {b : Nat} {T : TypeId} {z0 z1 : Value} (h : Blk w b #[z0, z1] T) (a0 a1 : Value) :
    Blk ((w.setCell ⟨b, 0, none⟩ a0).setCell ⟨b, 1, none⟩ a1) b #[a0, a1] T ∧ Upd (fun k => k = b) w ((w.setCell ⟨b, 0, none⟩ a0).setCell ⟨b, 1, none⟩ a1) := by
  refine ⟨?_, ((Upd.refl (fun k => k = b) w).setCell (S := fun k => k = b) (p := ⟨b, 0, none⟩) (.inl rfl) a0).setCell (S := fun k => k = b) (p := ⟨b, 1, none⟩) (.inl rfl) a1⟩
  have := ((h.set 0 a0).set 1 a1)
  simpa using this

set_option maxRecDepth 100000 in
set_option maxHeartbeats 8000000 in
theorem flagsAll_walk (a0 : Int) (s1 : Option Addr) (cap1 : Nat) (z1 : List Int) (w : World) (w0 : (Lit.int .u8 a0).wf = true) (h1 : IntRow .u8 w s1 cap1 z1) (m1 : ∀ n ∈ z1, (Lit.int .u8 n).wf = true) :
    Calls Try.prog 4 #[.int .u8 a0, .slice s1 z1.length cap1] w fun e w' => e = .returned (.bool true) ∧ Kept w w' := by
  have w0 := bounds_u8 w0
  obtain ⟨N, hN⟩ := Int.eq_ofNat_of_zero_le (show 0 ≤ 1 + a0 % 30 by omega)
  have hN1 : 1 ≤ N := by omega
  have hN2 : N ≤ 30 := by omega
  obtain ⟨hm, Z, hs1, hm2, hfl, hvt, hfm⟩ := plan_size (N : Int) (by omega) (by omega)
  obtain ⟨l, hl⟩ : ∃ l, planOf (N : Int) 3 2 = l := ⟨_, rfl⟩
  have HP := fun w => Lib.hid (bank_any (N : Int) l Z w hm hl (by rw [← hl]; exact hs1) hm2)
  rw [hl] at hs1 hfl hvt
  obtain ⟨f, hf⟩ := Int.eq_ofNat_of_zero_le (show 0 ≤ l.flag by omega)
  have hf1 : f + N ≤ Z := by omega
  have hf2 : f ≤ 63 := by omega
  have HNF := fun (q : Nat) (hq : q < N) w => Lib.hid (NewFree_any l (q : Int) w (by omega) (by omega) (by omega) (by omega))
  have HHe := fun bb g xs w hb => Lib.hid (Held_any l bb g xs N w hb hvt (by omega) (by omega) (by omega))
  have HCL := fun (q : Nat) (hq : q < N) bb g r xs ys w hb hin hr hy => Lib.hid (claims_any l bb g (q : Int) r xs ys w hb (by omega) (by omega) (by omega) (by omega) hin hr hy)
  clear hm hl hfl
  obtain ⟨verts, arcs, workers, room, res, ex, hh, flag, pending, ask, count, sense, deques, size⟩ := l
  simp only at hs1 hvt hf
  subst hs1 hvt hf
  simp only [Lay.val, Lay.vals] at HNF HHe HCL
  have HF1 := Lib.hid hf1
  obtain ⟨M, hM⟩ : ∃ M, M = min z1.length 40 := ⟨_, rfl⟩
  have hM1 : M ≤ z1.length := by omega
  have hM2 : M ≤ 40 := by omega
  have hle := h1.le
  have hmost := h1.most
  have hsl := fun w => run_take (P := Try.prog) Try.underlying23 (size := 1) (by kernel_rfl) s1 z1.length cap1 M (by omega) w
  have hif1 : (if (40 : Int) < (z1.length : Int) then (40 : Int) else (z1.length : Int)) = (M : Int) := by split <;> omega
  have hif2 : (if 40 < z1.length then (40 : Int) else (z1.length : Int)) = (M : Int) := by split <;> omega
  unfold maxLen at hmost
  have HR1 := Lib.hid h1.rd
  have HW1 := Lib.hid m1
  have HSL := Lib.hid hsl
  clear hM h1 m1 hfm hf1
  obtain ⟨i0, hi, hz0, hz1, hz2⟩ := info_parts infoInt
  have HI0 := Lib.hid (And.intro hi (And.intro hz0 (And.intro hz1 hz2)))
  clear hi hz0 hz1 hz2 hsl
  go_enter Try.func4, Try.ntmps4
  go_wp2_with fail
  refine (HP _).out.mono ?_
  rintro e w1 ⟨bb, g, rfl, hB, hbb, hg, hk⟩
  simp only [Lay.val, Lay.vals]
  obtain ⟨pb, hpb⟩ : ∃ pb, w1.heap.size = pb := ⟨_, rfl⟩
  have S0 : Hid (AO w pb bb g #[.int .i64 (N : Int), .int .i64 arcs, .int .i64 workers, .int .i64 room, .int .i64 res, .int .i64 ex, .int .i64 hh, .int .i64 (f : Int), .int .i64 pending, .int .i64 ask, .int .i64 count, .int .i64 sense, .int .i64 deques, .int .i64 (Z : Int)] (List.replicate Z 0) (w1.alloc (.cells #[.int .i64 (N : Int), .int .i64 arcs, .int .i64 workers, .int .i64 room, .int .i64 res, .int .i64 ex, .int .i64 hh, .int .i64 (f : Int), .int .i64 pending, .int .i64 ask, .int .i64 count, .int .i64 sense, .int .i64 deques, .int .i64 (Z : Int)] 25))) := Lib.hid (by
    have h1 := hB.row.lt
    exact ⟨Blk.newAt _ _ _ _ hpb.symm, hB.kept ((Upd.refl _ _).alloc _), hk.alloc _, hg, by omega⟩)
  have hbp : Hid (bb < pb ∧ g < pb ∧ w.heap.size ≤ pb) := Lib.hid (by rw [← hpb]; exact ⟨hB.head.lt, hB.row.lt, hk.size⟩)
  have HPB := Lib.hid hpb
  clear hB hk HP hbb hg hpb
  go_wp2_with fail
  rw [HPB.out]
  clear HPB hN w0
  go_loopw [9, 28] (fun y x wr => ∃ (k : Nat) (xs : List Int), x = .int .i64 k ∧ k ≤ N ∧ Hid (Ups f N Z k xs) ∧ Hid (wr.ownsRow (pb + 1) 3 1 y k ((List.range k).map fun v : Nat => Value.int .i64 (v : Int))) ∧ Hid (AO w pb bb g #[.int .i64 (N : Int), .int .i64 arcs, .int .i64 workers, .int .i64 room, .int .i64 res, .int .i64 ex, .int .i64 hh, .int .i64 (f : Int), .int .i64 pending, .int .i64 ask, .int .i64 count, .int .i64 sense, .int .i64 deques, .int .i64 (Z : Int)] xs wr)) (fun _ x _ => N - (intOf x).toNat)
  case atStart => exact ⟨0, _, rfl, by omega, Lib.hid (Ups.new f N Z HF1.out), Lib.hid (World.ownsRow_nil _ _ _ _), S0⟩
  case round =>
    obtain ⟨k, xs, rfl, hk, HUp, HO, S1⟩ := hrel
    clear S0
    by_cases hlt : k < N
    · as_aux_lemma =>
      have cb := S1.out.box.cell
      have HUn := Lib.hid (HUp.out.next hlt)
      have hbg : bget xs ((f : Int) + (k : Int)) = 0 := by rw [HUp.out.at_ k hlt, if_neg (by omega)]
      have HCLk := Lib.hid (HCL k hlt bb g true xs (bput xs ((f : Int) + (k : Int)) 1) wr S1.out.bank (by rw [HUp.out.xl]; have := HF1.out; omega) (by rw [hbg]; rfl) (by rw [hbg]; rfl)).out
      clear hbg HUp
      go_wp2_with fail
      refine HCLk.out.mono ?_
      rintro e w3 ⟨rfl, hB3, hU3⟩
      have S3 := Lib.hid (S1.out.acc hB3 hU3)
      have HO3 := Lib.hid (ownsRow_upd HO.out hU3 (fun j hj e => by have := hbp.out; omega))
      clear hB3 hU3 S1 HO cb HCLk HNF HHe HCL
      obtain ⟨hi, hz0, hz1, hz2⟩ := HI0.out
      go_wp2_with (first | (at_builtin; refine wpList_append_own _ rfl _ _ 39 rfl (pb + 1) 3 i0 (.int .i64 0) 1 8 Try.underlying39 hi hz0 hz1 hz2 rfl (by decide) _ _ _ rfl (HO3.out.alloc _) ⟨w3.heap.size, 0, none⟩ 1 1 [.int .i64 (k : Int)] rfl rfl ?c1 ?c2 ?c3 ?c4 ?c5 ?_) | fail)
      case c1 => exact cell_one_new _ _ _
      case c2 => simp [Value.oneCell']
      case c3 => unfold maxLen; omega
      case c4 => omega
      case c5 => have := S3.out.box.lt; simp; omega
      intro v' w4 hown hgrow hnil
      have HO4 : Hid (w4.ownsRow (pb + 1) 3 1 v' (k + 1) ((List.range (k + 1)).map fun v : Nat => Value.int .i64 (v : Int))) := Lib.hid (by
        rw [List.range_succ, List.map_append]; exact hown)
      have S4 : Hid (AO w pb bb g #[.int .i64 (N : Int), .int .i64 arcs, .int .i64 workers, .int .i64 room, .int .i64 res, .int .i64 ex, .int .i64 hh, .int .i64 (f : Int), .int .i64 pending, .int .i64 ask, .int .i64 count, .int .i64 sense, .int .i64 deques, .int .i64 (Z : Int)] (bput xs ((f : Int) + (k : Int)) 1) w4) := Lib.hid (S3.out.far (Upd.grown ((Upd.refl _ _).alloc _) hgrow (fun j hj => .inl (World.ownsRow.lt HO3.out j hj).1)) hbp.out)
      clear hown hgrow hnil HO3 S3 hi hz0 hz1 hz2
      go_wp2_with fail
      go_roundw
      case rel => exact ⟨k + 1, _, by go_num, by omega, HUn, HO4, S4⟩
      case measure => simp [intOf]; omega
    · as_aux_lemma =>
      obtain rfl : N = k := by omega
      have HHL0 := Lib.hid HUp.out.all
      have HXS0 := Lib.hid HUp.out.xl
      have HL0 : Hid (LF wr u9 ((List.range N).map fun v : Nat => (v : Int)) g) := Lib.hid (LF.owns (base := pb + 1) (by rw [List.map_map, List.length_map, List.length_range]; exact HO.out) (by have := hbp.out; omega))
      obtain ⟨l0, hl0⟩ : ∃ l0, ((List.range N).map fun v : Nat => (v : Int)) = l0 := ⟨_, rfl⟩
      have hl0n : l0.length ≤ 30 := by rw [← hl0]; simpa using hN2
      rw [hl0] at HHL0 HL0
      have hsl := HSL.out
      clear HUp HO hl0 HI0 HCL HSL hk
      go_wp2_with fail
      clear hsl hif1 hif2 hlt
      obtain ⟨wo, rfl⟩ : ∃ wo : World, wo = wr := ⟨_, rfl⟩
      go_loopw [9, 47] (fun y x wr => ∃ (k : Nat) (xs l : List Int), x = .int .i64 k ∧ k ≤ M ∧ l.length ≤ 30 ∧ Hid (xs.length = Z) ∧ Hid (heldOf xs (f : Int) N = l) ∧ Hid (LF wr y l g) ∧ Hid (AO w pb bb g #[.int .i64 (N : Int), .int .i64 arcs, .int .i64 workers, .int .i64 room, .int .i64 res, .int .i64 ex, .int .i64 hh, .int .i64 (f : Int), .int .i64 pending, .int .i64 ask, .int .i64 count, .int .i64 sense, .int .i64 deques, .int .i64 (Z : Int)] xs wr)) (fun _ x _ => M - (intOf x).toNat)
      case atStart => exact ⟨0, xs, l0, rfl, by omega, hl0n, HXS0, HHL0, HL0, S1⟩
      case round =>
        obtain ⟨k, xs, lst, rfl, hk, hln, HXS, HHL, HLF, S2⟩ := hrel
        clear S1 HXS0 HHL0 HL0
        obtain ⟨a9, cap, hy, hcap, hcm, h3⟩ := HLF.out
        subst hy
        have H3 := Lib.hid h3
        unfold maxLen at hcm
        clear h3 HLF
        by_cases hlt : k < M
        · obtain ⟨b', off', rfl, hc2⟩ := HR1.out.at k (by rw [List.length_map]; omega)
          have c2 : w.cell? ⟨b', off' + k, none⟩ = some (.int .u8 (z1.getD k 0)) := by rw [hc2]; simp [show k < z1.length by omega]
          have c2' : wr.cell? ⟨b', off' + k, none⟩ = some (.int .u8 (z1.getD k 0)) := (keptCells S2.out.kp _ (by rw [c2]; rfl)).trans c2
          have hyb := bounds_u8 (HW1.out (z1.getD k 0) (by simp [List.getD, show k < z1.length by omega]))
          obtain ⟨y, hy⟩ : ∃ y, z1.getD k 0 = y := ⟨_, rfl⟩
          rw [hy] at c2' hyb
          clear c2 hc2 hy
          by_cases hl0 : lst.length = 0
          · as_aux_lemma =>
            have hlb : ((lst.length : Int) == 0) = true := by simp [hl0]
            clear hl0
            go_wp2_with fail
            refine (awake_any _).mono ?_
            rintro e w5 ⟨rfl, hk5⟩
            go_wp2
            go_ret
            exact ⟨rfl, S2.out.kp.trans hk5⟩
          · have hlb : ((lst.length : Int) == 0) = false := by simpa using hl0
            have hL0 : ¬ (lst.length : Int) = 0 := by omega
            obtain ⟨lb, rfl, HLB0⟩ := H3.out.resolve_left (fun e => hl0 (by rw [e]; rfl))
            have HLB1 := Lib.hid HLB0
            clear HLB0 H3
            obtain ⟨ix, hi⟩ := Int.eq_ofNat_of_zero_le (Int.emod_nonneg y hL0)
            have hil : ix < lst.length := by have := Int.emod_lt_of_pos y (show (0 : Int) < (lst.length : Int) by omega); omega
            have hiI : (ix : Int) < (lst.length : Int) := by omega
            obtain ⟨v, hvN, hvi⟩ := held_at HHL.out hil
            have HVI := Lib.hid hvi
            have HVC : Hid ((lst.map (Value.int .i64))[ix]? = some (.int .i64 (v : Int))) := Lib.hid (by rw [List.getElem?_map, hvi]; rfl)
            have HHI := Lib.hid hi
            clear hvi hi
            go_upto_region 18 with (fail)
            rw [HHI.out]
            have HRI := Lib.hid (S2.out.ra HLB1.out)
            clear HLB1 S2 c2' HHI hlb hL0
            refine wp_region_inv (fun l us W => ∃ (b0 b1 b2 b3 b4 b5 b6 b7 : Bool) (v59 v60 v61 v62 v63 v64 v14 : Value) (xb : Nat), l = #[b0, b1, b2, b3, b4, b5, b6, b7] ∧ us = [v59, v60, v61, v62, v63, v64, v14] ∧ Hid (RA w pb bb g #[.int .i64 (N : Int), .int .i64 arcs, .int .i64 workers, .int .i64 room, .int .i64 res, .int .i64 ex, .int .i64 hh, .int .i64 (f : Int), .int .i64 pending, .int .i64 ask, .int .i64 count, .int .i64 sense, .int .i64 deques, .int .i64 (Z : Int)] xs wr.heap.size lb lst W) ∧
    Hid (b0 = true → v59 = .agg #[.int .i64 (N : Int), .int .i64 arcs, .int .i64 workers, .int .i64 room, .int .i64 res, .int .i64 ex, .int .i64 hh, .int .i64 (f : Int), .int .i64 pending, .int .i64 ask, .int .i64 count, .int .i64 sense, .int .i64 deques, .int .i64 (Z : Int)]) ∧
    Hid (b1 = true → v60 = .slice (some ⟨lb, 0, none⟩) lst.length cap) ∧
    Hid (b2 = true → v61 = .int .i64 (ix : Int)) ∧
    Hid (b3 = true → v62 = .pointer (some ⟨lb, ix, none⟩)) ∧
    Hid (b4 = true → v63 = .int .i64 (v : Int)) ∧
    Hid (b5 = true → v64 = .agg #[.int .i64 ((f : Int) + (v : Int)), .bool false]) ∧
    Hid (b6 = true → v14 = .pointer (some ⟨xb, 0, none⟩) ∧ wr.heap.size ≤ xb ∧ Blk W xb (if b7 then #[.int .i64 ((f : Int) + (v : Int)), .bool false] else #[.int .i64 0, .bool false]) 35) ∧
    Hid (b7 = true → b6 = true)) [59, 60, 61, 62, 63, 64, 14] [u59, u60, u61, u62, u63, u64, u14] (by kernel_rfl) (by kernel_rfl) (by simp only [putAll, Act.put, List.setIfInBounds_toArray, List.set_cons_zero, List.set_cons_succ]) ?_ ?_ ?_
            · exact ⟨false, false, false, false, false, false, false, false, _, _, _, _, _, _, _, 0, rfl, rfl, Lib.hid (HRI.out.kept (Upd.refl _ _).drew), Lib.hid (by simp), Lib.hid (by simp), Lib.hid (by simp), Lib.hid (by simp), Lib.hid (by simp), Lib.hid (by simp), Lib.hid (by simp), Lib.hid (by simp)⟩
            · rintro i l us W ⟨b0, b1, b2, b3, b4, b5, b6, b7, v59, v60, v61, v62, v63, v64, v14, xb, rfl, rfl, hI, h0, h1, h2, h3, h4, h5, h6, g7⟩ hr
              have hi : i = 0 ∨ i = 1 ∨ i = 2 ∨ i = 3 ∨ i = 4 ∨ i = 5 ∨ i = 6 ∨ i = 7 := by
                have := ready_lt hr
                simp at this
                omega
              rcases hi with rfl | rfl | rfl | rfl | rfl | rfl | rfl | rfl
              · skip
                obtain ⟨hn, hd⟩ := ready_at hr rfl
                simp [Region.binds] at hn hd
                refine wpOp_step rfl (fun K' hK => ?_)
                simp only [putAll, Act.put, List.setIfInBounds_toArray, List.set_cons_zero, List.set_cons_succ]
                have cb := hI.out.ao.box.cell
                go_simp
                exact hK _ _ ⟨_, by simp only [putAll, Act.put, List.setIfInBounds_toArray, List.set_cons_zero, List.set_cons_succ], true, b1, b2, b3, b4, b5, b6, b7, _, _, _, _, _, _, _, xb, rfl, rfl, hI, Lib.hid (fun _ => rfl), h1, h2, h3, h4, h5, h6, g7⟩
              · skip
                obtain ⟨hn, hd⟩ := ready_at hr rfl
                simp [Region.binds] at hn hd
                refine wpOp_step rfl (fun K' hK => ?_)
                simp only [putAll, Act.put, List.setIfInBounds_toArray, List.set_cons_zero, List.set_cons_succ]
                go_simp
                exact hK _ _ ⟨_, by simp only [putAll, Act.put, List.setIfInBounds_toArray, List.set_cons_zero, List.set_cons_succ], b0, true, b2, b3, b4, b5, b6, b7, _, _, _, _, _, _, _, xb, rfl, rfl, hI, h0, Lib.hid (fun _ => rfl), h2, h3, h4, h5, h6, g7⟩
              · skip
                obtain ⟨hn, hd⟩ := ready_at hr rfl
                simp [Region.binds] at hn hd
                refine wpOp_step rfl (fun K' hK => ?_)
                simp only [putAll, Act.put, List.setIfInBounds_toArray, List.set_cons_zero, List.set_cons_succ]
                go_simp
                exact hK _ _ ⟨_, by simp only [putAll, Act.put, List.setIfInBounds_toArray, List.set_cons_zero, List.set_cons_succ], b0, b1, true, b3, b4, b5, b6, b7, _, _, _, _, _, _, _, xb, rfl, rfl, hI, h0, h1, Lib.hid (fun _ => rfl), h3, h4, h5, h6, g7⟩
              · skip
                obtain ⟨hn, hd⟩ := ready_at hr rfl
                simp [Region.binds] at hn hd
                obtain rfl := h1.out (by simp [hd])
                obtain rfl := h2.out (by simp [hd])
                refine wpOp_step rfl (fun K' hK => ?_)
                simp only [putAll, Act.put, List.setIfInBounds_toArray, List.set_cons_zero, List.set_cons_succ]
                go_simp
                exact hK _ _ ⟨_, by simp only [putAll, Act.put, List.setIfInBounds_toArray, List.set_cons_zero, List.set_cons_succ], b0, b1, b2, true, b4, b5, b6, b7, _, _, _, _, _, _, _, xb, rfl, rfl, hI, h0, h1, h2, Lib.hid (fun _ => rfl), h4, h5, h6, g7⟩
              · skip
                obtain ⟨hn, hd⟩ := ready_at hr rfl
                simp [Region.binds] at hn hd
                obtain rfl := h3.out (by simp [hd])
                refine wpOp_step rfl (fun K' hK => ?_)
                simp only [putAll, Act.put, List.setIfInBounds_toArray, List.set_cons_zero, List.set_cons_succ]
                have cl := hI.out.lb.cell ix _ HVC.out
                go_simp
                exact hK _ _ ⟨_, by simp only [putAll, Act.put, List.setIfInBounds_toArray, List.set_cons_zero, List.set_cons_succ], b0, b1, b2, b3, true, b5, b6, b7, _, _, _, _, _, _, _, xb, rfl, rfl, hI, h0, h1, h2, h3, Lib.hid (fun _ => rfl), h5, h6, g7⟩
              · skip
                obtain ⟨hn, hd⟩ := ready_at hr rfl
                simp [Region.binds] at hn hd
                obtain rfl := h0.out (by simp [hd])
                obtain rfl := h4.out (by simp [hd])
                refine wpOp_step rfl (fun K' hK => ?_)
                simp only [putAll, Act.put, List.setIfInBounds_toArray, List.set_cons_zero, List.set_cons_succ]
                go_simp
                refine (HNF v hvN _).out.mono ?_
                rintro e w' ⟨rfl, hk⟩
                exact hK _ _ ⟨_, by simp only [putAll, Act.put, List.setIfInBounds_toArray, List.set_cons_zero, List.set_cons_succ], b0, b1, b2, b3, b4, true, b6, b7, _, _, _, _, _, _, _, xb, rfl, rfl, (Lib.hid (hI.out.kept hk)), h0, h1, h2, h3, h4, Lib.hid (fun _ => rfl), Lib.hid (fun hb => ⟨(h6.out hb).1, (h6.out hb).2.1, (h6.out hb).2.2.kept hk⟩), g7⟩
              · skip
                obtain ⟨hn, hd⟩ := ready_at hr rfl
                simp [Region.binds] at hn hd
                have hbq : b7 = false := by cases b7 with | false => rfl | true => (have := g7.out rfl; rw [hn] at this; cases this)
                subst hbq
                refine wpOp_step rfl (fun K' hK => ?_)
                simp only [putAll, Act.put, List.setIfInBounds_toArray, List.set_cons_zero, List.set_cons_succ]
                go_simp
                exact hK _ _ ⟨_, by simp only [putAll, Act.put, List.setIfInBounds_toArray, List.set_cons_zero, List.set_cons_succ], b0, b1, b2, b3, b4, b5, true, false, _, _, _, _, _, _, _, W.heap.size, rfl, rfl, (Lib.hid (hI.out.kept ((Upd.refl _ _).alloc _))), h0, h1, h2, h3, h4, h5, Lib.hid (fun _ => ⟨rfl, hI.out.up, Blk.new _ _ _⟩), Lib.hid (by simp)⟩
              · skip
                obtain ⟨hn, hd⟩ := ready_at hr rfl
                simp [Region.binds] at hn hd
                obtain rfl := h5.out (by simp [hd])
                obtain ⟨hp, hx, hbk⟩ := h6.out (by simp [hd])
                subst hn hp
                have hbk : Blk W _ _ _ := hbk
                have hc := hbk.cell
                have hf := hbk.free
                refine wpOp_step rfl (fun K' hK => ?_)
                simp only [putAll, Act.put, List.setIfInBounds_toArray, List.set_cons_zero, List.set_cons_succ]
                go_simp
                have hs := hbk.put2 (.int .i64 ((f : Int) + (v : Int))) (.bool false)
                exact hK _ _ ⟨_, by simp only [putAll, Act.put, List.setIfInBounds_toArray, List.set_cons_zero, List.set_cons_succ], b0, b1, b2, b3, b4, b5, b6, true, _, _, _, _, _, _, _, xb, rfl, rfl, (Lib.hid (hI.out.upd hs.2 hx)), h0, h1, h2, h3, h4, h5, Lib.hid (fun _ => ⟨rfl, hx, hs.1⟩), Lib.hid (fun _ => (by simp [hd]))⟩
            · rintro l us W ⟨b0, b1, b2, b3, b4, b5, b6, b7, v59, v60, v61, v62, v63, v64, v14, xb, rfl, rfl, hI, h0, h1, h2, h3, h4, h5, h6, g7⟩ hall
              as_aux_lemma =>
              obtain rfl : b0 = true := by simpa using hall 0
              obtain rfl : b1 = true := by simpa using hall 1
              obtain rfl : b2 = true := by simpa using hall 2
              obtain rfl : b3 = true := by simpa using hall 3
              obtain rfl : b4 = true := by simpa using hall 4
              obtain rfl : b5 = true := by simpa using hall 5
              obtain rfl : b6 = true := by simpa using hall 6
              obtain rfl : b7 = true := by simpa using hall 7
              obtain rfl := h0.out rfl
              obtain rfl := h1.out rfl
              obtain rfl := h2.out rfl
              obtain rfl := h3.out rfl
              obtain rfl := h4.out rfl
              obtain rfl := h5.out rfl
              obtain ⟨rfl, hx6, hB6⟩ := h6.out rfl
              have S4 := Lib.hid hI.out.ao
              have HLB := Lib.hid hI.out.lb
              have HX := Lib.hid (show Blk W xb _ _ from hB6)
              have hxn : Hid (¬ xb = pb ∧ ¬ xb = lb ∧ w.heap.size ≤ xb) := Lib.hid (by have h1 := hI.out.lts; have h2 := hI.out.old; omega)
              clear hall hx6 hB6 hI HRI
              simp only [putAll, Act.put, List.setIfInBounds_toArray, List.set_cons_zero, List.set_cons_succ]
              go_wp2_with fail
              refine (Free_step xb bb g ((f : Int) + (v : Int)) xs _ W HX.out S4.out.bank rfl).mono ?_
              rintro e w5 ⟨rfl, _, hB5, hU5⟩
              have S5 := Lib.hid (S4.out.acc2 hB5 hU5 ⟨hxn.out.1, hxn.out.2.2⟩)
              have HLB5 := Lib.hid (HLB.out.upd hU5 (fun e => by rcases e with e | e; exact HLB.out.ne e; exact hxn.out.2.1 e.symm))
              have HXL : Hid ((bput xs ((f : Int) + (v : Int)) 0).length = Z) := Lib.hid (by rw [length_bput]; exact HXS.out)
              have HH5 := Lib.hid (held_free HXS.out HF1.out HHL.out HVI.out hvN)
              obtain ⟨ys, hys⟩ : ∃ ys, bput xs ((f : Int) + (v : Int)) 0 = ys := ⟨_, rfl⟩
              rw [hys] at S5 HXL HH5
              obtain ⟨l2, hl2⟩ : ∃ l2, lst.eraseIdx ix = l2 := ⟨_, rfl⟩
              rw [hl2] at HH5
              have HL2 := Lib.hid hl2
              have hl2n : l2.length ≤ 30 := by rw [← hl2, List.length_eraseIdx]; split <;> omega
              clear hB5 hU5 S4 HLB HX hxn hys hl2 HXS HHL
              go_upto_region 20 with (fail)
              have hto := fun w => run_to (P := Try.prog) Try.underlying39 (size := 1) (by kernel_rfl) (some ⟨lb, 0, none⟩) lst.length cap ix (by omega) w
              obtain ⟨ad, had, hfrom⟩ := run_from (P := Try.prog) Try.underlying39 (by kernel_rfl) lb lst.length cap (ix + 1) ((ix : Int) + 1) (by omega) (by omega) (by omega) hcap
              have HAD := Lib.hid had
              have hwi : IntKind.i64.wrap ((ix : Int) + 1) = (ix : Int) + 1 := by rw [IntKind.wrap_i64]; omega
              clear had
              go_still_tail 8, (by kernel_rfl)
              change wpList _ _ _ _ _ w5.drew
              have S6 := Lib.hid (S5.out.kept (Upd.refl _ _).drew)
              have HLB6 := Lib.hid (HLB5.out.upd (Upd.refl (fun _ => False) w5).drew (fun f => f))
              clear S5 HLB5
              generalize w5.drew = w6 at S6 HLB6 ⊢
              clear hto hfrom hwi
              go_wp2_with (first | (at_builtin; refine wpList_erase _ rfl _ _ rfl HLB6.out hil (by omega) rfl HAD.out rfl S6.out.bank.row.lt ?_; intro v7 w7 hLF7 hk7; rw [HL2.out] at hLF7; obtain ⟨a7, cap7, rfl, hc7, hm7, hr7⟩ := hLF7; have S7 := Lib.hid (S6.out.kept hk7); have HL7 := Lib.hid (show LF w7 (.slice a7 l2.length cap7) l2 g from ⟨_, _, rfl, hc7, hm7, hr7⟩); have cb7 := S7.out.box.cell; clear hk7 hr7) | fail)
              clear HLB6 S6 HL2 cb7
              refine (HHe bb g ys w7 S7.out.bank).out.mono ?_
              rintro e w8 ⟨_, rfl, hown8, hk8⟩
              rw [HH5.out] at hown8
              obtain ⟨ha, hc, rfl, hrd⟩ := Rd.owns hown8
              have HRd := Lib.hid hrd
              have S8 := Lib.hid (S7.out.kept hk8)
              have HL8 := Lib.hid (HL7.out.kept hk8)
              have HR8 : Hid (Rd w8 a7 (l2.map (Value.int .i64))) := Lib.hid (by
                obtain ⟨a, cp, hv, _, _, h3⟩ := HL8.out
                cases hv
                rcases h3 with h3 | ⟨b, hb, h4⟩
                · left; rw [h3]; rfl
                · exact .inr ⟨b, 0, hb, fun i u hu => by rw [Nat.zero_add]; exact h4.cell i u hu⟩)
              clear hrd hown8 hk8 S7 HL7 hc7 hm7
              go_wp2_with fail
              refine (ints_same ha a7 hc cap7 l2 l2 _ HRd.out HR8.out (by omega) (by omega)).mono ?_
              rintro e w9 ⟨rfl, hk9⟩
              have S9 := Lib.hid (S8.out.kept hk9)
              have HL9 := Lib.hid (HL8.out.kept hk9)
              have hdd : decide (l2 = l2) = true := by simp
              clear hk9 S8 HL8 HRd HR8
              go_wp2_with fail
              clear hdd
              go_roundw
              case rel => exact ⟨k + 1, ys, l2, by go_num, by omega, hl2n, HXL, HH5, HL9, S9⟩
              case measure => simp [intOf]; omega
        · as_aux_lemma =>
          go_wp2_with fail
          refine (awake_any _).mono ?_
          rintro e w5 ⟨rfl, hk5⟩
          go_wp2
          go_ret
          exact ⟨rfl, S2.out.kp.trans hk5⟩
end Go.Proofs.Ytnhedibdecileaa
