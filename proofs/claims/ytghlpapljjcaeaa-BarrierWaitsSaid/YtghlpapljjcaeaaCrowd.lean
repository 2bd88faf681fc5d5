/- A crowd in memory. (printed by gen_crowd.py) -/
import Derived.Test.YtghlpapljjcaeaaCrowdP
import Derived.Test.YtghlpapljjcaeaaRows14
import Derived.Test.YtghlpapljjcaeaaPush
namespace Go.Proofs.Ytghlpapljjcaeaa
set_option linter.unusedVariables false
set_option linter.unusedSimpArgs false
open Go.RowKit

def nv (l : List Nat) : List Value := l.map fun (n : Nat) => .int .i64 (n : Int)
@[simp] theorem nv_len (l : List Nat) : (nv l).length = l.length := by simp [nv]
theorem nv_get {fl : List Nat} {i : Nat} (h : i < fl.length) : (nv fl)[i]? = some (.int .i64 (fl.getD i 0 : Nat)) := by simp [nv, h]
theorem Kept.set' {a b : World} (h : Kept a b) {p : Addr} (hp : a.heap.size ≤ p.block) (u : Value) : Kept a (b.setCell p u) := Upd.setCell h (.inr hp) u
theorem blk_ne {w : World} {a b : Nat} {x y : Array Value} {T U : TypeId} (h : Blk w a x T) (h' : Blk w b y U) (hT : T ≠ U) : a ≠ b := fun e => by subst e; exact hT (h.same h').2
/-- A crowd: its box, the bank, the machines, how often each began and was done, the last ones. -/
structure CW (w0 : World) (Sx : Nat → Prop) (xb bb g mb gb db B n s capn : Nat) (L : List Int) (ms : List MS) (bs ds ls : List Nat) (c q : Int) (la : Option Addr) (lk lc : Nat) (wr : World) : Prop where
  box : Blk wr xb #[.int .i64 2, .int .i64 1, .int .i64 (n : Int), .int .i64 2, .int .i64 0, .int .i64 1, .int .i64 3, .int .i64 5, .int .i64 7, .int .i64 8, .int .i64 9, .int .i64 10, .int .i64 11, .int .i64 (s : Int), .pointer (some ⟨bb, 0, none⟩), .slice (some ⟨mb, 0, none⟩) n capn, .slice (some ⟨gb, 0, none⟩) n n, .slice (some ⟨db, 0, none⟩) n n, .slice la lk lc] 33
  bank : Bnk wr bb g (bq L c q)
  mach : Mach wr mb n s ms
  bg : Blk wr gb (nv bs).toArray 3
  dn : Blk wr db (nv ds).toArray 3
  lt : wr.ownsRow B 3 1 (.slice la lk lc) lk (nv ls)
  kp : Upd Sx w0 wr
  len : L.length = s ∧ ms.length = n ∧ bs.length = n ∧ ds.length = n ∧ ls.length = lk
  lo : (Sx xb ∨ w0.heap.size ≤ xb) ∧ (Sx bb ∨ w0.heap.size ≤ bb) ∧ (Sx g ∨ w0.heap.size ≤ g) ∧ (Sx mb ∨ w0.heap.size ≤ mb) ∧ (Sx gb ∨ w0.heap.size ≤ gb) ∧ (Sx db ∨ w0.heap.size ≤ db)
  lz : ∀ k, (Value.slice la lk lc).ownBlock = some k → Sx k ∨ w0.heap.size ≤ k
  hi : xb < B ∧ bb < B ∧ g < B ∧ mb < B ∧ gb < B ∧ db < B
  ne : gb ≠ db
  up : B ≤ wr.heap.size
theorem CW.kept {w0 : World} {Sx : Nat → Prop} {xb bb g mb gb db B n s capn : Nat} {L : List Int} {ms : List MS} {bs ds ls : List Nat} {c q : Int} {la : Option Addr} {lk lc : Nat} {wr w' : World} (h : CW w0 Sx xb bb g mb gb db B n s capn L ms bs ds ls c q la lk lc wr) (k : Kept wr w') : CW w0 Sx xb bb g mb gb db B n s capn L ms bs ds ls c q la lk lc w' :=
  ⟨h.box.kept k, h.bank.kept k, h.mach.kept k, h.bg.kept k, h.dn.kept k, ownsRow_upd h.lt k (fun _ _ f => f), h.kp.then k (fun _ _ f => f.elim), h.len, h.lo, h.lz, h.hi, h.ne, Nat.le_trans h.up k.size⟩
section
variable {w0 : World} {Sx : Nat → Prop} {xb bb g mb gb db B n s capn : Nat} {L : List Int} {ms : List MS} {bs ds ls : List Nat} {c q : Int} {la : Option Addr} {lk lc : Nat} {wr w' : World}
/-- What differs. -/
theorem CW.apart (h : CW w0 Sx xb bb g mb gb db B n s capn L ms bs ds ls c q la lk lc wr) : xb ≠ bb ∧ xb ≠ g ∧ xb ≠ mb ∧ xb ≠ gb ∧ xb ≠ db ∧ mb ≠ bb ∧ mb ≠ g ∧ gb ≠ bb ∧ gb ≠ g ∧ gb ≠ mb ∧ db ≠ bb ∧ db ≠ g ∧ db ≠ mb := by
  obtain ⟨ls', hm⟩ := h.mach
  have hmb := hm.blk
  exact ⟨blk_ne h.box h.bank.head (by decide), blk_ne h.box h.bank.row (by decide), blk_ne h.box hmb (by decide), blk_ne h.box h.bg (by decide), blk_ne h.box h.dn (by decide), blk_ne hmb h.bank.head (by decide), blk_ne hmb h.bank.row (by decide),
    blk_ne h.bg h.bank.head (by decide), blk_ne h.bg h.bank.row (by decide), blk_ne h.bg hmb (by decide), blk_ne h.dn h.bank.head (by decide), blk_ne h.dn h.bank.row (by decide), blk_ne h.dn hmb (by decide)⟩
theorem row_late {w w' : World} {S : Nat → Prop} {base k : Nat} {e : TypeId} {v : Value} {xs : List Value} (h : w.ownsRow base e 1 v k xs) (hu : Upd S w w') (hs : ∀ i, S i → i < base) : w'.ownsRow base e 1 v k xs :=
  ownsRow_upd h hu (fun i hi hS => by have := hs i hS; omega)
/-- One began. -/
theorem CW.begin (h : CW w0 Sx xb bb g mb gb db B n s capn L ms bs ds ls c q la lk lc wr) (i x : Nat) : CW w0 Sx xb bb g mb gb db B n s capn L ms (bs.set i x) ds ls c q la lk lc (wr.setCell ⟨gb, i, none⟩ (.int .i64 (x : Nat))) := by
  obtain ⟨a1, a2, a3, a4, a5, a6, a7, a8, a9, a10, a11, a12, a13⟩ := h.apart
  have hU : Upd (fun k => k = gb) wr (wr.setCell ⟨gb, i, none⟩ (.int .i64 (x : Nat))) := Upd.setCell (S := fun k => k = gb) (p := ⟨gb, i, none⟩) (Upd.refl _ _) (.inl rfl) _
  refine ⟨h.box.upd hU a4, h.bank.upd hU (fun e => a8 e.symm) (fun e => a9 e.symm), h.mach.upd hU (fun e => a10 e.symm), ?_, h.dn.upd hU (fun e => h.ne e.symm), row_late h.lt hU (fun k e => by have := h.hi; omega), Upd.setCell h.kp (p := ⟨gb, i, none⟩) h.lo.2.2.2.2.1 _, ⟨h.len.1, h.len.2.1, by rw [List.length_set]; exact h.len.2.2.1, h.len.2.2.2⟩, h.lo, h.lz, h.hi, h.ne, Nat.le_trans h.up hU.size⟩
  have := h.bg.set i (.int .i64 (x : Nat))
  rwa [show (nv (bs.set i x)).toArray = (nv bs).toArray.setIfInBounds i (.int .i64 (x : Nat)) by simp [nv, List.map_set]]
/-- One is done. -/
theorem CW.ended (h : CW w0 Sx xb bb g mb gb db B n s capn L ms bs ds ls c q la lk lc wr) (i x : Nat) : CW w0 Sx xb bb g mb gb db B n s capn L ms bs (ds.set i x) ls c q la lk lc (wr.setCell ⟨db, i, none⟩ (.int .i64 (x : Nat))) := by
  obtain ⟨a1, a2, a3, a4, a5, a6, a7, a8, a9, a10, a11, a12, a13⟩ := h.apart
  have hU : Upd (fun k => k = db) wr (wr.setCell ⟨db, i, none⟩ (.int .i64 (x : Nat))) := Upd.setCell (S := fun k => k = db) (p := ⟨db, i, none⟩) (Upd.refl _ _) (.inl rfl) _
  refine ⟨h.box.upd hU a5, h.bank.upd hU (fun e => a11 e.symm) (fun e => a12 e.symm), h.mach.upd hU (fun e => a13 e.symm), h.bg.upd hU h.ne, ?_, row_late h.lt hU (fun k e => by have := h.hi; omega), Upd.setCell h.kp (p := ⟨db, i, none⟩) h.lo.2.2.2.2.2 _, ⟨h.len.1, h.len.2.1, h.len.2.2.1, by rw [List.length_set]; exact h.len.2.2.2.1, h.len.2.2.2.2⟩, h.lo, h.lz, h.hi, h.ne, Nat.le_trans h.up hU.size⟩
  have := h.dn.set i (.int .i64 (x : Nat))
  rwa [show (nv (ds.set i x)).toArray = (nv ds).toArray.setIfInBounds i (.int .i64 (x : Nat)) by simp [nv, List.map_set]]
/-- A machine was stored whole. -/
theorem CW.anew (h : CW w0 Sx xb bb g mb gb db B n s capn L ms bs ds ls c q la lk lc wr) {ms' : List MS} (hm : Mach w' mb n s ms') (hl : ms'.length = n) (hU : Upd (fun k => k = mb) wr w') : CW w0 Sx xb bb g mb gb db B n s capn L ms' bs ds ls c q la lk lc w' := by
  obtain ⟨a1, a2, a3, a4, a5, a6, a7, a8, a9, a10, a11, a12, a13⟩ := h.apart
  exact ⟨h.box.upd hU a3, h.bank.upd hU (fun e => a6 e.symm) (fun e => a7 e.symm), hm, h.bg.upd hU a10, h.dn.upd hU a13, row_late h.lt hU (fun k e => by have := h.hi; omega), h.kp.then hU (fun i hi e => by subst e; exact h.lo.2.2.2.1.resolve_right (by omega)), ⟨h.len.1, hl, h.len.2.2⟩, h.lo, h.lz, h.hi, h.ne, Nat.le_trans h.up hU.size⟩
/-- A machine's step. -/
theorem CW.stepped (h : CW w0 Sx xb bb g mb gb db B n s capn L ms bs ds ls c q la lk lc wr) {ms' : List MS} {c' q' : Int} {z : Bool} {e : Ending} (hs : Stp mb bb g n s ms' (bq L c' q') z wr e w') (hl : ms'.length = n) : CW w0 Sx xb bb g mb gb db B n s capn L ms' bs ds ls c' q' la lk lc w' := by
  obtain ⟨a1, a2, a3, a4, a5, a6, a7, a8, a9, a10, a11, a12, a13⟩ := h.apart
  obtain ⟨-, hm, hb, hU⟩ := hs
  exact ⟨h.box.upd hU (fun e => by rcases e with e | e; exact a2 e; exact a3 e), hb, hm, h.bg.upd hU (fun e => by rcases e with e | e; exact a9 e; exact a10 e), h.dn.upd hU (fun e => by rcases e with e | e; exact a12 e; exact a13 e), row_late h.lt hU (fun k e => by have := h.hi; omega), h.kp.then hU (fun i hi e => by rcases e with e | e; (subst e; exact h.lo.2.2.1.resolve_right (by omega)); (subst e; exact h.lo.2.2.2.1.resolve_right (by omega))), ⟨h.len.1, hl, h.len.2.2⟩, h.lo, h.lz, h.hi, h.ne, Nat.le_trans h.up hU.size⟩
/-- The last ones: read, and one of them set. -/
theorem CW.last (h : CW w0 Sx xb bb g mb gb db B n s capn L ms bs ds ls c q la lk lc wr) (hl : 0 < lk) : ∃ gl, la = some ⟨gl, 0, none⟩ ∧ (∀ j, j < lk → wr.cell? ⟨gl, j, none⟩ = some (.int .i64 (ls.getD j 0 : Nat)) ∧ wr.frozen? ⟨gl, j, none⟩ = false) ∧
    ∀ j x, j < lk → CW w0 Sx xb bb g mb gb db B n s capn L ms bs ds (ls.set j x) c q la lk lc (wr.setCell ⟨gl, j, none⟩ (.int .i64 (x : Nat))) := by
  have hln := h.len.2.2.2.2
  rcases h.lt.2 with ⟨h1, h2⟩ | ⟨gl, cap, cur, h1, h2, h3, h4, h5, h6, h7⟩
  · omega
  · have hb : Blk wr gl cur 3 := h3
    have hla : la = some ⟨gl, 0, none⟩ := by cases h1; rfl
    have hlc : lc = cap := by cases h1; rfl
    have hcur : ∀ j, j < lk → cur[j]? = (nv ls)[j]? := fun j hj => by
      rw [← h7, List.getElem?_take, if_pos (by omega)]
      simp
    refine ⟨gl, hla, fun j hj => ⟨by rw [hb.cell, hcur j hj, nv_get (by omega)], hb.free j⟩, fun j x hj => ?_⟩
    have hU : Upd (fun k => k = gl) wr (wr.setCell ⟨gl, j, none⟩ (.int .i64 (x : Nat))) := Upd.setCell (S := fun k => k = gl) (p := ⟨gl, j, none⟩) (Upd.refl _ _) (.inl rfl) _
    have hh := h.hi
    have hs := hb.set j (.int .i64 (x : Nat))
    refine ⟨h.box.upd hU (by omega), h.bank.upd hU (by omega) (by omega), h.mach.upd hU (by omega), h.bg.upd hU (by omega), h.dn.upd hU (by omega), ⟨by simp [hln], .inr ⟨gl, cap, _, h1, h2, hs, h4, h5, by simpa using h6, ?_⟩⟩, h.kp.then hU (fun i hi e => (h.lz i (by subst e; rw [hla]; rfl)).resolve_right (by omega)), ⟨h.len.1, h.len.2.1, h.len.2.2.1, h.len.2.2.2.1, by rw [List.length_set]; exact hln⟩, h.lo, h.lz, h.hi, h.ne, Nat.le_trans h.up hU.size⟩
    rw [show nv (ls.set j x) = (nv ls).set j (.int .i64 (x : Nat)) by simp [nv, List.map_set], ← h7]
    simp [List.take_set]
/-- One number more in the last ones. -/
theorem CW.push (h : CW w0 Sx xb bb g mb gb db B n s capn L ms bs ds ls c q la lk lc wr) {a' : Option Addr} {c' : Nat} (hown : w'.ownsRow B 3 1 (.slice a' (lk + 1) c') (lk + 1) (nv ls ++ [.int .i64 0])) (hg : Grew wr w' (.slice la lk lc) (.slice a' (lk + 1) c')) :
    Blk w' xb #[.int .i64 2, .int .i64 1, .int .i64 (n : Int), .int .i64 2, .int .i64 0, .int .i64 1, .int .i64 3, .int .i64 5, .int .i64 7, .int .i64 8, .int .i64 9, .int .i64 10, .int .i64 11, .int .i64 (s : Int), .pointer (some ⟨bb, 0, none⟩), .slice (some ⟨mb, 0, none⟩) n capn, .slice (some ⟨gb, 0, none⟩) n n, .slice (some ⟨db, 0, none⟩) n n, .slice la lk lc] 33 ∧ CW w0 Sx xb bb g mb gb db B n s capn L ms bs ds (ls ++ [0]) c q a' (lk + 1) c' (w'.setCell ⟨xb, 18, none⟩ (.slice a' (lk + 1) c')) := by
  obtain ⟨a1, a2, a3, a4, a5, a6, a7, a8, a9, a10, a11, a12, a13⟩ := h.apart
  have hS : ∀ k, (Value.slice la lk lc).ownBlock = some k → B ≤ k := fun k e => (World.ownsRow.lt h.lt k e).1
  have hh := h.hi
  have far : ∀ x, x < B → ¬ (Value.slice la lk lc).ownBlock = some x := fun x hx e => by have := hS x e; omega
  have hb : Blk w' xb #[.int .i64 2, .int .i64 1, .int .i64 (n : Int), .int .i64 2, .int .i64 0, .int .i64 1, .int .i64 3, .int .i64 5, .int .i64 7, .int .i64 8, .int .i64 9, .int .i64 10, .int .i64 11, .int .i64 (s : Int), .pointer (some ⟨bb, 0, none⟩), .slice (some ⟨mb, 0, none⟩) n capn, .slice (some ⟨gb, 0, none⟩) n n, .slice (some ⟨db, 0, none⟩) n n, .slice la lk lc] 33 := h.box.upd hg.upd (far xb hh.1)
  have hV : Upd (fun k => k = xb) w' (w'.setCell ⟨xb, 18, none⟩ (.slice a' (lk + 1) c')) := Upd.setCell (S := fun k => k = xb) (p := ⟨xb, 18, none⟩) (Upd.refl _ _) (.inl rfl) _
  refine ⟨hb, ?_, (h.bank.upd hg.upd (far bb hh.2.1) (far g hh.2.2.1)).upd hV (fun e => a1 e.symm) (fun e => a2 e.symm), (h.mach.upd hg.upd (far mb hh.2.2.2.1)).upd hV (fun e => a3 e.symm), (h.bg.upd hg.upd (far gb hh.2.2.2.2.1)).upd hV (fun e => a4 e.symm), (h.dn.upd hg.upd (far db hh.2.2.2.2.2)).upd hV (fun e => a5 e.symm),
    row_late (by rw [show nv (ls ++ [0]) = nv ls ++ [.int .i64 0] by simp [nv]]; exact hown) hV (fun k e => by omega), (h.kp.then hg.upd (fun i hi e => (h.lz i e).resolve_right (by omega))).then hV (fun i hi e => by subst e; exact h.lo.1.resolve_right (by omega)), ⟨h.len.1, h.len.2.1, h.len.2.2.1, h.len.2.2.2.1, by rw [List.length_append, h.len.2.2.2.2]; rfl⟩, h.lo, (fun k e => (hg.new k e).elim (h.lz k) (fun e2 => .inr (Nat.le_trans h.kp.size e2))), h.hi, h.ne, Nat.le_trans (Nat.le_trans h.up hg.upd.size) hV.size⟩
  have := hb.set 18 (.slice a' (lk + 1) c')
  simpa using this
end
end Go.Proofs.Ytghlpapljjcaeaa
