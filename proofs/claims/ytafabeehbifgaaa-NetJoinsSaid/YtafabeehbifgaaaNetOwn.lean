/- A row of arcs that the call itself has made. slices.Clone, net.Copy. -/
import Derived.Test.YtafabeehbifgaaaNetSum
namespace Go.Proofs.Ytafabeehbifgaaa
set_option linter.unusedVariables false
open Go.RowKit

theorem acells_setF : ∀ (ys : List Ar) (k : Nat) (h : k < ys.length) (x : Int), (acells ys).set (k * 3) (.int .i64 x) = acells (ys.set k ⟨x, ys[k].t, ys[k].c⟩)
  | [], k, h, x => by simp at h
  | a :: ys, 0, h, x => rfl
  | a :: ys, k + 1, h, x => by
    have e : (k + 1) * 3 = k * 3 + 1 + 1 + 1 := by omega
    rw [e]
    simp only [acells, List.set_cons_succ, List.getElem_cons_succ]
    rw [acells_setF ys k (by simpa using h) x]
theorem acells_setT : ∀ (ys : List Ar) (k : Nat) (h : k < ys.length) (x : Int), (acells ys).set (k * 3 + 1) (.int .i64 x) = acells (ys.set k ⟨ys[k].f, x, ys[k].c⟩)
  | [], k, h, x => by simp at h
  | a :: ys, 0, h, x => rfl
  | a :: ys, k + 1, h, x => by
    have e : (k + 1) * 3 + 1 = k * 3 + 1 + 1 + 1 + 1 := by omega
    rw [e]
    simp only [acells, List.set_cons_succ, List.getElem_cons_succ]
    rw [acells_setT ys k (by simpa using h) x]
theorem acells_setC : ∀ (ys : List Ar) (k : Nat) (h : k < ys.length) (x : Int), (acells ys).set (k * 3 + 2) (.int .i64 x) = acells (ys.set k ⟨ys[k].f, ys[k].t, x⟩)
  | [], k, h, x => by simp at h
  | a :: ys, 0, h, x => rfl
  | a :: ys, k + 1, h, x => by
    have e : (k + 1) * 3 + 2 = k * 3 + 2 + 1 + 1 + 1 := by omega
    rw [e]
    simp only [acells, List.set_cons_succ, List.getElem_cons_succ]
    rw [acells_setC ys k (by simpa using h) x]
/-- v is a row of these arcs, in a block of its own, from base on. -/
def Own (w : World) (base : Nat) (v : Value) (ys : List Ar) : Prop := w.ownsRow base 31 3 v ys.length (acells ys)
theorem Own.nil (w : World) (base : Nat) : Own w base (.slice none 0 0) [] := World.ownsRow_nil w base _ _
theorem Own.mem {w : World} {base : Nat} {v : Value} {ys : List Ar} (h : Own w base v ys) : ∃ a c, v = .slice a ys.length c ∧ Ars w a ys := by
  rcases h.2 with ⟨rfl, h0⟩ | ⟨g, cap, cur, rfl, hb, hh, hn, hm, hs, ht⟩
  · exact ⟨none, 0, by rw [h0], .inl (by rw [List.eq_nil_of_length_eq_zero h0]; rfl)⟩
  · refine ⟨some ⟨g, 0, none⟩, cap, rfl, .inr ⟨g, 0, rfl, fun i u hu => ?_⟩⟩
    rw [Nat.zero_add, cell_of_row w g i cur _ (0, 0) hh]
    rw [← ht, List.getElem?_take] at hu
    split at hu
    · simpa using hu
    · cases hu
theorem Own.at {w : World} {base : Nat} {a : Option Addr} {c n : Nat} {ys : List Ar} (h : Own w base (.slice a n c) ys) : n = ys.length ∧ Ars w a ys := by
  obtain ⟨a', c', e, hA⟩ := h.mem
  cases e
  exact ⟨rfl, hA⟩
theorem Own.blk {w : World} {base : Nat} {a : Option Addr} {c n : Nat} {ys : List Ar} (h : Own w base (.slice a n c) ys) (hk : 0 < ys.length) : ∃ g, a = some ⟨g, 0, none⟩ ∧ base ≤ g ∧ g < w.heap.size ∧ (∀ i, w.frozen? ⟨g, i, none⟩ = false) := by
  rcases h.2 with ⟨e, h0⟩ | ⟨g, cap, cur, e, hb, hh, hn, hm, hs, ht⟩
  · omega
  · cases e
    exact ⟨g, rfl, hb, (Array.getElem?_eq_some_iff.1 hh).1, fun i => frozen_of_row w g i cur _ hh⟩
theorem Own.base {w : World} {base base' : Nat} {v : Value} {ys : List Ar} (h : Own w base v ys) (hb : base' ≤ base) : Own w base' v ys := ownsRow_base h hb
theorem Own.upd {w w' : World} {base : Nat} {v : Value} {ys : List Ar} {S : Nat → Prop} (h : Own w base v ys) (hu : Upd S w w') (hs : ∀ k, base ≤ k → ¬ S k) : Own w' base v ys := ownsRow_upd h hu hs
theorem Own.kept {w w' : World} {base : Nat} {v : Value} {ys : List Ar} (h : Own w base v ys) (hu : Kept w w') : Own w' base v ys := h.upd hu (fun _ _ f => f)
/-- Only one block is turned, another one. -/
theorem Own.far {w w' : World} {base : Nat} {a : Option Addr} {n c : Nat} {ys : List Ar} {S : Nat → Prop} (h : Own w base (.slice a n c) ys) (hu : Upd S w w') (hs : ∀ g, a = some ⟨g, 0, none⟩ → ¬ S g) : Own w' base (.slice a n c) ys := by
  refine ⟨h.1, ?_⟩
  rcases h.2 with h2 | ⟨g, cap, cur, hv, hg, hh, r⟩
  · exact .inl h2
  · cases hv
    exact .inr ⟨g, _, cur, rfl, hg, (hu.block _ (Array.getElem?_eq_some_iff.1 hh).1 (hs g rfl)).trans hh, r⟩
theorem Own.put {w : World} {base g c n : Nat} {ys zs : List Ar} (h : Own w base (.slice (some ⟨g, 0, none⟩) n c) ys) (i : Nat) (hi : i < ys.length * 3) (v : Value) (hz : (acells ys).set i v = acells zs) (hl : zs.length = ys.length) :
    Own (w.setCell ⟨g, i, none⟩ v) base (.slice (some ⟨g, 0, none⟩) n c) zs := by
  refine ⟨acells_len zs, ?_⟩
  rcases h.2 with ⟨e, h0⟩ | ⟨g', cap, cur, e, hb, hh, hn, hm, hs, ht⟩
  · cases e
  · cases e
    refine .inr ⟨g, c, cur.setIfInBounds i v, by rw [hl], hb, heap_setCell_same w g i cur _ v hh, by omega, hm, by simpa using hs, ?_⟩
    rw [hl, ← hz, ← ht]
    simp only [Array.toList_setIfInBounds, List.take_set]
theorem Own.setF {w : World} {base g c n : Nat} {ys : List Ar} (h : Own w base (.slice (some ⟨g, 0, none⟩) n c) ys) (k : Nat) (hk : k < ys.length) (x : Int) :
    Own (w.setCell ⟨g, k * 3, none⟩ (.int .i64 x)) base (.slice (some ⟨g, 0, none⟩) n c) (ys.set k ⟨x, ys[k].t, ys[k].c⟩) := h.put _ (by omega) _ (acells_setF ys k hk x) (by simp)
theorem Own.setT {w : World} {base g c n : Nat} {ys : List Ar} (h : Own w base (.slice (some ⟨g, 0, none⟩) n c) ys) (k : Nat) (hk : k < ys.length) (x : Int) :
    Own (w.setCell ⟨g, k * 3 + 1, none⟩ (.int .i64 x)) base (.slice (some ⟨g, 0, none⟩) n c) (ys.set k ⟨ys[k].f, x, ys[k].c⟩) := h.put _ (by omega) _ (acells_setT ys k hk x) (by simp)
theorem Own.setC {w : World} {base g c n : Nat} {ys : List Ar} (h : Own w base (.slice (some ⟨g, 0, none⟩) n c) ys) (k : Nat) (hk : k < ys.length) (x : Int) :
    Own (w.setCell ⟨g, k * 3 + 2, none⟩ (.int .i64 x)) base (.slice (some ⟨g, 0, none⟩) n c) (ys.set k ⟨ys[k].f, ys[k].t, x⟩) := h.put _ (by omega) _ (acells_setC ys k hk x) (by simp)
theorem Blk.put4 {w : World} {b : Nat} {T : TypeId} {z0 z1 z2 z3 : Value} (h : Blk w b #[z0, z1, z2, z3] T) (a0 a1 a2 a3 : Value) :
    ∃ w3, w3 = (((w.setCell ⟨b, 0, none⟩ a0).setCell ⟨b, 1, none⟩ a1).setCell ⟨b, 2, none⟩ a2).setCell ⟨b, 3, none⟩ a3 ∧ Blk w3 b #[a0, a1, a2, a3] T ∧ Upd (fun k => k = b) w w3 := by
  refine ⟨_, rfl, ?_, ?_⟩
  · have := (((h.set 0 a0).set 1 a1).set 2 a2).set 3 a3
    simpa using this
  · iterate 4 refine Upd.setCell (S := fun k => k = b) ?_ (.inl rfl) _
    exact Upd.refl _ _
theorem Own.ne {w : World} {base g n c b : Nat} {ys : List Ar} {arr : Array Value} {T : TypeId} (h : Own w base (.slice (some ⟨g, 0, none⟩) n c) ys) (hb : Blk w b arr T) (hT : T ≠ 31) : ¬ g = b := by
  intro e
  subst e
  rcases h.2 with ⟨e, _⟩ | ⟨g', cap, cur, e, _, hh, _⟩
  · cases e
  · cases e
    have := hh.symm.trans hb
    simp at this
    exact hT this.2.symm
theorem infoArc : (Try.prog.info? 31).map (fun i => (i.zero, i.size, i.bytes)) = some (some (.agg #[.int .i64 0, .int .i64 0, .int .i64 0]), 3, 24) := by kernel_rfl

theorem eqNil {P : Program} {t e : TypeId} (ht : P.underlying t = some (.slice e)) (a : Option Addr) (l c : Nat) (w : World) : (binOp .eql t (.slice a l c) (.slice none 0 0)).run P w = .ok (.bool a.isNone) w := by
  simp [binOp, run_equal_slice_nil w t e a l c ht]
set_option maxHeartbeats 1000000 in
theorem Clone_any (a : Option Addr) (cap : Nat) (ys : List Ar) (w : World) (h : Ars w a ys) (hm : ys.length ≤ 1000000000) :
    Calls Try.prog 20 #[.slice a ys.length cap] w fun e w' => ∃ v, e = .returned v ∧ Own w' w.heap.size v ys ∧ Kept w w' := by
  obtain ⟨i0, hi, hz0, hz1, hz2⟩ := info_parts infoArc
  cases a with
  | none =>
    obtain rfl : ys = [] := by
      rcases h with h | ⟨b, off, e, _⟩
      · cases ys with | nil => rfl | cons _ _ => simp [acells] at h
      · cases e
    clear h hi
    have hnil := eqNil (P := Try.prog) Try.underlying22 none 0 cap
    simp only [Option.isNone_none] at hnil
    go_enter Try.func20, Try.ntmps20
    go_wp2_with fail
    go_ret
    exact ⟨_, rfl, Own.nil _ _, Upd.refl _ _⟩
  | some ad =>
    have HX := Lib.hid h
    have hnil := eqNil (P := Try.prog) Try.underlying22 (some ad) ys.length cap
    simp only [Option.isNone_some] at hnil
    clear h
    go_enter Try.func20, Try.ntmps20
    go_wp2_with (at_builtin; refine wpList_append_own _ rfl _ _ 22 rfl w.heap.size 31 i0 (.agg #[.int .i64 0, .int .i64 0, .int .i64 0]) 3 24 Try.underlying22 hi hz0 hz1 hz2 rfl (by decide) _ 0 [] rfl (World.ownsRow_lit w #[] 0 (Nat.le_refl _) (by decide) rfl) ad ys.length cap (acells ys) rfl (acells_len ys) ?c1 ?c2 ?c3 ?c4 ?c5 ?_)
    case c1 =>
      intro j u hu
      rcases HX.out with h0 | ⟨b, off, e, hc⟩
      · rw [h0] at hu; cases hu
      · cases e
        have := hc j u hu
        rw [Addr.add_lit]
        exact (keptCells ((Upd.refl _ _).alloc _) _ (by rw [this]; rfl)).trans this
    case c2 => exact acells_one ys
    case c3 => unfold maxLen; omega
    case c4 => omega
    case c5 => simp
    intro v' w1 hown hgrow hnil
    have HO : Hid (Own w1 w.heap.size v' ys) := Lib.hid hown
    have HK : Hid (Kept w w1) := Lib.hid (Upd.grown ((Upd.refl _ _).alloc (.cells #[] 31)) hgrow (fun k hk => .inr (by cases hk; exact Nat.le_refl _)))
    clear hown hgrow hnil
    go_wp2
    go_ret
    exact ⟨v', rfl, HO.out, HK.out⟩
/-- What net.Copy hands back. -/
def CopyIs (N S T : Int) (ys : List Ar) (w : World) (e : Ending) (w' : World) : Prop := ∃ a c, e = .returned (.agg #[.int .i64 N, .int .i64 S, .int .i64 T, .slice a ys.length c]) ∧ Own w' w.heap.size (.slice a ys.length c) ys ∧ Kept w w'
set_option maxHeartbeats 1000000 in
theorem Copy_any (N S T : Int) (a : Option Addr) (cap : Nat) (ys : List Ar) (w : World) (h : Ars w a ys) (hm : ys.length ≤ 1000000000) :
    Calls Try.prog 9 #[.agg #[.int .i64 N, .int .i64 S, .int .i64 T, .slice a ys.length cap]] w (CopyIs N S T ys w) := by
  have HC := Lib.hid (Clone_any a cap ys ((w.alloc (.cells #[.int .i64 N, .int .i64 S, .int .i64 T, .slice a ys.length cap] 24)).alloc (.cells #[.int .i64 0, .int .i64 0, .int .i64 0, .slice none 0 0] 24)) (h.kept (((Upd.refl _ _).alloc _).alloc _)) hm)
  have HB := Lib.hid ((Blk.new w #[.int .i64 N, .int .i64 S, .int .i64 T, .slice a ys.length cap] 24).alloc (.cells #[.int .i64 0, .int .i64 0, .int .i64 0, .slice none 0 0] 24))
  have HB2 := Lib.hid (Blk.new (w.alloc (.cells #[.int .i64 N, .int .i64 S, .int .i64 T, .slice a ys.length cap] 24)) #[.int .i64 0, .int .i64 0, .int .i64 0, .slice none 0 0] 24)
  have HK := Lib.hid (((Upd.refl (fun _ => False) w).alloc (.cells #[.int .i64 N, .int .i64 S, .int .i64 T, .slice a ys.length cap] 24)).alloc (.cells #[.int .i64 0, .int .i64 0, .int .i64 0, .slice none 0 0] 24))
  clear h
  go_enter Try.func9, Try.ntmps9
  go_wp2_with fail
  refine HC.out.mono ?_
  rintro e w1 ⟨v, rfl, hO, hk⟩
  obtain ⟨a', c', rfl, _⟩ := hO.mem
  have hb := (HB.out.kept hk).cell
  have hf := (HB.out.kept hk).free
  have hb2 := (HB2.out.kept hk).cell
  have hf2 := (HB2.out.kept hk).free
  have HO := Lib.hid hO
  have HK2 := Lib.hid (HK.out.trans hk)
  have HB3 := Lib.hid (HB.out.kept hk)
  have HB4 := Lib.hid (HB2.out.kept hk)
  have e1 : (w.alloc (.cells #[.int .i64 N, .int .i64 S, .int .i64 T, .slice a ys.length cap] 24)).heap.size = w.heap.size + 1 := by simp
  rw [e1] at hb2 hf2
  clear hO hk HB HB2 HK HC e1
  go_wp2
  have e2 : ((w.alloc (.cells #[.int .i64 N, .int .i64 S, .int .i64 T, .slice a ys.length cap] 24)).alloc (.cells #[.int .i64 0, .int .i64 0, .int .i64 0, .slice none 0 0] 24)).heap.size = w.heap.size + 2 := by simp
  have HO2 : Hid (Own w1 (w.heap.size + 2) (.slice a' ys.length c') ys) := Lib.hid (by rw [← e2]; exact HO.out)
  clear e2 HO
  have hU0 : Upd (fun k => k = w.heap.size ∨ k = w.heap.size + 1) w1 (w1.setCell ⟨w.heap.size, 3, none⟩ (.slice a' ys.length c')) := (Upd.refl _ _).setCell (.inl (.inl rfl)) _
  have e3 : (w.alloc (.cells #[.int .i64 N, .int .i64 S, .int .i64 T, .slice a ys.length cap] 24)).heap.size = w.heap.size + 1 := by simp
  have HB5 := HB4.out
  rw [e3] at HB5
  have HB6 := Blk.other HB5 (p := ⟨w.heap.size, 3, none⟩) (by show ¬ w.heap.size + 1 = w.heap.size; omega) (.slice a' ys.length c')
  obtain ⟨w3, hw3, hB3, hU3⟩ := HB6.put4 (.int .i64 N) (.int .i64 S) (.int .i64 T) (.slice a' ys.length c')
  rw [← hw3]
  have hc3 := hB3.cell
  have hU := Upd.trans hU0 (hU3.wide (S' := fun k => k = w.heap.size ∨ k = w.heap.size + 1) (fun k _ h => .inr h))
  clear hw3
  refine bodyPost_ret (v := .agg #[.int .i64 N, .int .i64 S, .int .i64 T, .slice a' ys.length c']) ?_ rfl ?_
  · simp [results, go_sem, hc3]
  · exact ⟨a', c', rfl, (HO2.out.upd hU (fun k hk h => by omega)).base (by omega), HK2.out.then hU (fun i hi h => by omega)⟩
end Go.Proofs.Ytafabeehbifgaaa
