/- A crowd, as the laws hold it. -/
import Derived.Test.YtghlpapljjcaeaaCrowded
import Derived.Test.YtghlpapljjcaeaaBarAllP
namespace Go.Proofs.Ytghlpapljjcaeaa
set_option linter.unusedVariables false
open Go.RowKit

/-- A crowd, wherever its last ones lie. -/
def CrE (w0 : World) (Sx : Nat → Prop) (xb bb g mb gb db B n s capn : Nat) (L : List Int) (p C : Nat) (ws : List Wk) (wr : World) : Prop := ∃ la lk lc, CrS w0 Sx xb bb g mb gb db B n s capn L p C ws la lk lc wr
/-- What a step leaves. -/
def StepE (w0 : World) (Sx : Nat → Prop) (xb bb g mb gb db B n s capn : Nat) (L : List Int) (p C : Nat) (ws : List Wk) (i : Nat) (w : Wk) (e : Ending) (wz : World) : Prop :=
  e = .returned (.bool true) ∧ ∃ (z : Bool) (w' : Wk) (C' p' : Nat), Did p p' w w' z ∧ CrE w0 Sx xb bb g mb gb db B n s capn L p' C' (ws.set i w') wz
/-- How often each was done, as cells. -/
def dv (ws : List Wk) : List Value := ws.map fun x => .int .i64 ((x.d : Nat) : Int)
theorem dv_len (ws : List Wk) : (dv ws).length = ws.length := by simp [dv]
theorem dv_at {ws : List Wk} {i : Nat} {x : Wk} (h : ws[i]? = some x) : (dv ws)[i]? = some (.int .i64 ((x.d : Nat) : Int)) := by simp [dv, h]
theorem dv_one (ws : List Wk) : ∀ u ∈ dv ws, u.oneCell' = true := by
  intro u hu
  obtain ⟨y, -, rfl⟩ := List.mem_map.1 hu
  rfl
theorem row_rd {w : World} {base n c : Nat} {e : TypeId} {a : Option Addr} {vs : List Value} (h : w.ownsRow base e 1 (.slice a n c) n vs) : Rd w a vs := by
  obtain ⟨a', c', e9, h1⟩ := Rd.owns h
  cases e9
  exact h1
theorem row_bet {w : World} {base n c : Nat} {e : TypeId} {a : Option Addr} {vs : List Value} (h : w.ownsRow base e 1 (.slice a n c) n vs) : ∀ x, a = some x → base ≤ x.block ∧ x.block < w.heap.size := by
  rintro x rfl
  rcases h.2 with ⟨h1, -⟩ | ⟨g, cap, cur, h1, hb, hg, -⟩
  · cases h1
  · cases h1
    exact ⟨hb, (Array.getElem?_eq_some_iff.1 hg).1⟩
theorem rd_upd {w w' : World} {S : Nat → Prop} {a : Option Addr} {vs : List Value} (h : Rd w a vs) (hu : Upd S w w') (hs : ∀ x, a = some x → ¬ S x.block) : Rd w' a vs := by
  rcases h with rfl | ⟨b, off, rfl, hc⟩
  · exact .inl rfl
  · exact .inr ⟨b, off, rfl, fun i u hi => (hu.cells ⟨b, off + i, none⟩ (by rw [hc i u hi]; rfl) (hs ⟨b, off, none⟩ rfl)).trans (hc i u hi)⟩
section
variable {w0 : World} {Sx : Nat → Prop} {xb bb g mb gb db B n s capn : Nat} {L : List Int} {p C : Nat} {ws : List Wk} {wr w' : World}
theorem CrE.kept (h : CrE w0 Sx xb bb g mb gb db B n s capn L p C ws wr) (k : Kept wr w') : CrE w0 Sx xb bb g mb gb db B n s capn L p C ws w' := by
  obtain ⟨la, lk, lc, h⟩ := h
  exact ⟨la, lk, lc, h.kept k⟩
theorem CrE.inv (h : CrE w0 Sx xb bb g mb gb db B n s capn L p C ws wr) : BarI n p C ws := by
  obtain ⟨la, lk, lc, h⟩ := h
  exact h.inv
theorem CrE.kp (h : CrE w0 Sx xb bb g mb gb db B n s capn L p C ws wr) : Upd Sx w0 wr := by
  obtain ⟨la, lk, lc, h⟩ := h
  obtain ⟨ms, h1, -⟩ := h.ex
  exact h1.kp
theorem CrE.at (h : CrE w0 Sx xb bb g mb gb db B n s capn L p C ws wr) {i : Nat} (hi : i < n) : ∃ w, ws[i]? = some w := by
  have := h.inv.len
  exact ⟨ws[i], List.getElem?_eq_getElem (by omega)⟩
theorem CrE.dn (h : CrE w0 Sx xb bb g mb gb db B n s capn L p C ws wr) {i : Nat} {w : Wk} (hi : ws[i]? = some w) : wr.cell? ⟨db, i, none⟩ = some (.int .i64 ((w.d : Nat) : Int)) := by
  obtain ⟨la, lk, lc, h⟩ := h
  obtain ⟨ms, h1, -⟩ := h.ex
  rw [h1.dn.cell]
  simp [nv, hi]
theorem CrE.rdn (h : CrE w0 Sx xb bb g mb gb db B n s capn L p C ws wr) : Rd wr (some ⟨db, 0, none⟩) (dv ws) := .inr ⟨db, 0, rfl, fun i u hu => by
  unfold dv at hu
  rw [List.getElem?_map] at hu
  obtain ⟨y, hy, rfl⟩ := Option.map_eq_some_iff.1 hu
  rw [Nat.zero_add]
  exact h.dn hy⟩
theorem CrE.lts (h : CrE w0 Sx xb bb g mb gb db B n s capn L p C ws wr) : db < wr.heap.size ∧ xb < wr.heap.size := by
  obtain ⟨la, lk, lc, h⟩ := h
  obtain ⟨ms, h1, -⟩ := h.ex
  exact ⟨h1.dn.lt, h1.box.lt⟩
theorem CrE.done (h : CrE w0 Sx xb bb g mb gb db B n s capn L p C ws wr) : wr.cell? ⟨xb, 17, none⟩ = some (.slice (some ⟨db, 0, none⟩) n n) := by
  obtain ⟨la, lk, lc, h⟩ := h
  obtain ⟨ms, h1, -⟩ := h.ex
  rw [h1.box.cell]
  rfl
theorem CrE.lasts (h : CrE w0 Sx xb bb g mb gb db B n s capn L p C ws wr) : ∃ la lc, wr.cell? ⟨xb, 18, none⟩ = some (.slice la p lc) ∧ Rd wr la ((List.replicate p (1 : Int)).map (Value.int .i64)) := by
  obtain ⟨la, lk, lc, h⟩ := h
  obtain ⟨ms, h1, -⟩ := h.ex
  have hk : lk = p := by have := h1.len.2.2.2.2; simpa using this.symm
  subst hk
  refine ⟨la, lc, by rw [h1.box.cell]; rfl, ?_⟩
  rcases h1.lt.2 with ⟨e, e2⟩ | ⟨g', cap, cur, e, hb, hh, h3, h4, h5, h6⟩
  · subst e2; exact .inl rfl
  · cases e
    refine .inr ⟨g', 0, rfl, fun i u hu => ?_⟩
    have hc : Blk wr g' cur 3 := hh
    rw [Nat.zero_add, hc.cell]
    have : (cur.toList.take (lk * 1))[i]? = some u := by rw [h6]; simpa [nv] using hu
    rw [List.getElem?_take] at this
    split at this
    · simpa using this
    · cases this
theorem CrE.step (h : CrE w0 Sx xb bb g mb gb db B n s capn L p C ws wr) {i : Nat} {w : Wk} (hi : ws[i]? = some w) (hs : s = 11 + n * 4) (hn1 : 1 ≤ n) (hn12 : n ≤ 12) (hp : p ≤ 100000) :
    Calls Try.prog 8 #[.pointer (some ⟨xb, 0, none⟩), .int .i64 i] wr (StepE w0 Sx xb bb g mb gb db B n s capn L p C ws i w) := by
  obtain ⟨la, lk, lc, h⟩ := h
  refine (crowd_step w0 Sx xb bb g mb gb db B n s capn L p C ws la lk lc i w wr h hi hs hn1 hn12 hp).mono ?_
  rintro e wz ⟨rfl, m', z, w', C', p', la', lk', lc', h1, h2⟩
  exact ⟨rfl, z, w', C', p', h1.did, la', lk', lc', h2⟩
/-- From here on: all that is made behind this is let be. -/
theorem CrE.rebase (h : CrE w0 Sx xb bb g mb gb db B n s capn L p C ws wr) (k : Kept wr w') : ∃ S', CrE w' S' xb bb g mb gb db B n s capn L p C ws w' ∧ (∀ i, S' i → Sx i ∨ w0.heap.size ≤ i) ∧ (∀ i, S' i → i < wr.heap.size) := by
  refine ⟨fun i => (Sx i ∨ w0.heap.size ≤ i) ∧ i < wr.heap.size, ?_, fun i h => h.1, fun i h => h.2⟩
  obtain ⟨la, lk, lc, h⟩ := h
  obtain ⟨ms, h1, h2⟩ := h.ex
  have h3 := h1.lo
  have h4 := h1.kept k
  refine ⟨la, lk, lc, ⟨⟨ms, ⟨h4.box, h4.bank, h4.mach, h4.bg, h4.dn, h4.lt, Upd.refl _ _, h4.len, ⟨.inl ⟨h3.1, h1.box.lt⟩, .inl ⟨h3.2.1, h1.bank.head.lt⟩, .inl ⟨h3.2.2.1, h1.bank.row.lt⟩, .inl ⟨h3.2.2.2.1, h1.mach.lt⟩, .inl ⟨h3.2.2.2.2.1, h1.bg.lt⟩, .inl ⟨h3.2.2.2.2.2, h1.dn.lt⟩⟩, (fun i e => .inl ⟨h1.lz i e, (World.ownsRow.lt h1.lt i e).2⟩), h4.hi, h4.ne, h4.up⟩, h2⟩, h.inv⟩⟩
theorem CrE.bk (h : CrE w0 Sx xb bb g mb gb db B n s capn L p C ws wr) : wr.cell? ⟨xb, 14, none⟩ = some (.pointer (some ⟨bb, 0, none⟩)) ∧ wr.cell? ⟨xb, 10, none⟩ = some (.int .i64 9) ∧ Bnk wr bb g (bq L C ((p % 2 : Nat) : Int)) ∧ L.length = s := by
  obtain ⟨la, lk, lc, h⟩ := h
  obtain ⟨ms, h1, -⟩ := h.ex
  exact ⟨by rw [h1.box.cell]; rfl, by rw [h1.box.cell]; rfl, h1.bank, h1.len.1⟩
/-- Any step of the crowd. -/
def Steps (w0 : World) (Sx : Nat → Prop) (xb bb g mb gb db B n s capn : Nat) (L : List Int) : Prop := ∀ (p C : Nat) (ws : List Wk) (wr : World), CrE w0 Sx xb bb g mb gb db B n s capn L p C ws wr → ∀ (i : Nat) (x : Wk), ws[i]? = some x → p ≤ 100000 →
  Calls Try.prog 8 #[.pointer (some ⟨xb, 0, none⟩), .int .i64 i] wr (StepE w0 Sx xb bb g mb gb db B n s capn L p C ws i x)
theorem steps_of (w0 : World) (Sx : Nat → Prop) (xb bb g mb gb db B n s capn : Nat) (L : List Int) (hs : s = 11 + n * 4) (hn1 : 1 ≤ n) (hn12 : n ≤ 12) : Steps w0 Sx xb bb g mb gb db B n s capn L :=
  fun _ _ _ _ h _ _ hi hp => h.step hi hs hn1 hn12 hp
end
end Go.Proofs.Ytghlpapljjcaeaa
