/- acequialaw14.crowded (printed by gen_crowded.py). -/
import Derived.Test.YtghlpapljjcaeaaCrowdStep
import Derived.Test.YtghlpapljjcaeaaRegion
import Derived.Great.BuildSlice
namespace Go.Proofs.Ytghlpapljjcaeaa
set_option linter.unusedVariables false
set_option linter.unusedSimpArgs false
open Go.RowKit
attribute [local go_sem] cell?_ext

theorem chop17 {α : Type} : ∀ (k : Nat) (l : List α), l.length = k * 17 → ∃ ls : List (List α), (∀ x ∈ ls, x.length = 17) ∧ ls.flatten = l
  | 0, l, h => ⟨[], by simp, by rw [List.eq_nil_of_length_eq_zero (show l.length = 0 by omega)]; rfl⟩
  | k + 1, l, h => by
    obtain ⟨ls, h1, h2⟩ := chop17 k (l.drop 17) (by rw [List.length_drop]; omega)
    refine ⟨l.take 17 :: ls, fun x hx => ?_, by rw [List.flatten_cons, h2, List.take_append_drop]⟩
    rcases List.mem_cons.1 hx with e | e
    · rw [e, List.length_take]; omega
    · exact h1 x e
/-- Machines, out of a row of one's own. -/
theorem Mach.ofOwn {wr : World} {B k cap mb : Nat} {n s : Int} {ms : List MS} (h : wr.ownsRow B 46 17 (.slice (some ⟨mb, 0, none⟩) k cap) k ((ms.map (mcell n s)).flatten)) : Mach wr mb n s ms := by
  rcases h.2 with ⟨e, -⟩ | ⟨g, cap', cur, e, hb, hh, hle, hmx, hsz, ht⟩
  · cases e
  · cases e
    obtain ⟨ls, h1, h2⟩ := chop17 (cap - k) (cur.toList.drop (k * 17)) (by rw [List.length_drop, Array.length_toList, hsz, Nat.sub_mul])
    refine ⟨ls, ?_, fun l hl => ?_⟩
    · rw [List.flatten_append, h2, ← ht, List.take_append_drop]
      exact hh
    · rcases List.mem_append.1 hl with e | e
      · exact mcell_len n s ms l e
      · exact h1 l e
theorem mcell_one (n s : Int) (m : MS) : ∀ u ∈ mcell n s m, u.oneCell' = true := fun u hu => (List.all_eq_true.1 (show (mcell n s m).all (fun u => u.oneCell') = true from rfl)) u hu
theorem blk_news {w : World} {b : Nat} {vs : List Value} {T : TypeId} (h : Blk w b vs.toArray T) : ∀ (j : Nat) (u : Value), vs[j]? = some u → w.cell? ((⟨b, 0, none⟩ : Addr).add j) = some u := by
  intro j u hu
  rw [Addr.add_lit, Nat.zero_add, h.cell]
  simpa using hu
theorem fill_one17 (cells0 mc : Array Value) (h0 : cells0.size = 17) (hm : mc.size = 17) : Instr.fill (fun i => some (i * 17, 17)) cells0 [(0, .agg mc)] = some mc := by
  have := Go.Great.fill_whole (s := 17) (by omega) [.agg mc] cells0 (by simp [Value.cells, hm]) (by simp [h0])
  simpa [Value.cells] using this
theorem infoArrive : (Try.prog.info? 46).map (fun i => (i.zero, i.size, i.bytes)) = some (some (.agg #[.int .i64 0, .int .i64 0, .int .i64 0, .int .i64 0, .int .i64 0, .int .i64 0, .int .i64 0, .int .i64 0, .int .i64 0, .int .i64 0, .int .i64 0, .int .i64 0, .int .i64 0, .int .i64 0, .int .u8 0, .int .i64 0, .bool false]), 17, 136) := by kernel_rfl

def c0v (bb gb db n s : Nat) : Array Value := #[.int .i64 2, .int .i64 1, .int .i64 (n : Int), .int .i64 2, .int .i64 0, .int .i64 1, .int .i64 3, .int .i64 5, .int .i64 7, .int .i64 8, .int .i64 9, .int .i64 10, .int .i64 11, .int .i64 (s : Int), .pointer (some ⟨bb, 0, none⟩), .slice none 0 0, .slice (some ⟨gb, 0, none⟩) n n, .slice (some ⟨db, 0, none⟩) n n, .slice none 0 0]
def c1v (bb gb db n s : Nat) (v : Value) : Array Value := #[.int .i64 2, .int .i64 1, .int .i64 (n : Int), .int .i64 2, .int .i64 0, .int .i64 1, .int .i64 3, .int .i64 5, .int .i64 7, .int .i64 8, .int .i64 9, .int .i64 10, .int .i64 11, .int .i64 (s : Int), .pointer (some ⟨bb, 0, none⟩), v, .slice (some ⟨gb, 0, none⟩) n n, .slice (some ⟨db, 0, none⟩) n n, .slice none 0 0]
/-- A crowd's box, as it is made. -/
structure CZ (w0 : World) (pb bb g xb gb db n s : Nat) (wr : World) : Prop where
  kp : Kept w0 wr
  bank : Bnk wr bb g (bar s n 0)
  lay : Blk wr pb #[.int .i64 2, .int .i64 1, .int .i64 (n : Int), .int .i64 2, .int .i64 0, .int .i64 1, .int .i64 3, .int .i64 5, .int .i64 7, .int .i64 8, .int .i64 9, .int .i64 10, .int .i64 11, .int .i64 (s : Int)] 28
  box : Blk wr xb (c0v bb gb db n s) 33
  bg : Blk wr gb (zeros n (.int .i64 0)) 3
  dn : Blk wr db (zeros n (.int .i64 0)) 3
  ne : gb ≠ db
  lo : w0.heap.size ≤ xb ∧ w0.heap.size ≤ gb ∧ w0.heap.size ≤ db
theorem CZ.made {w0 w2 : World} {pb bb g n s : Nat} {v : Array Value} (hk : Kept w0 w2) (hb : Bnk w2 bb g (bar s n 0)) (hl : Blk w2 pb #[.int .i64 2, .int .i64 1, .int .i64 (n : Int), .int .i64 2, .int .i64 0, .int .i64 1, .int .i64 3, .int .i64 5, .int .i64 7, .int .i64 8, .int .i64 9, .int .i64 10, .int .i64 11, .int .i64 (s : Int)] 28) :
    (v = c0v bb w2.heap.size (w2.heap.size + 1) n s → CZ w0 pb bb g (w2.heap.size + 1 + 1) w2.heap.size (w2.heap.size + 1) n s (((w2.alloc (.cells (zeros n (.int .i64 0)) 3)).alloc (.cells (zeros n (.int .i64 0)) 3)).alloc (.cells v 33)).drew) ∧
    (v = c0v bb (w2.heap.size + 1) w2.heap.size n s → CZ w0 pb bb g (w2.heap.size + 1 + 1) (w2.heap.size + 1) w2.heap.size n s (((w2.alloc (.cells (zeros n (.int .i64 0)) 3)).alloc (.cells (zeros n (.int .i64 0)) 3)).alloc (.cells v 33)).drew) := by
  have K : Kept w2 (((w2.alloc (.cells (zeros n (.int .i64 0)) 3)).alloc (.cells (zeros n (.int .i64 0)) 3)).alloc (.cells v 33)).drew := ((((Upd.refl _ w2).alloc _).alloc _).alloc _).drew
  have h1 : Blk (((w2.alloc (.cells (zeros n (.int .i64 0)) 3)).alloc (.cells (zeros n (.int .i64 0)) 3)).alloc (.cells v 33)).drew w2.heap.size (zeros n (.int .i64 0)) 3 := (((Blk.new w2 _ _).alloc _).alloc _).drew
  have h2 : Blk (((w2.alloc (.cells (zeros n (.int .i64 0)) 3)).alloc (.cells (zeros n (.int .i64 0)) 3)).alloc (.cells v 33)).drew (w2.heap.size + 1) (zeros n (.int .i64 0)) 3 := ((Blk.newAt _ _ _ _ (by simp)).alloc _).drew
  have h3 : Blk (((w2.alloc (.cells (zeros n (.int .i64 0)) 3)).alloc (.cells (zeros n (.int .i64 0)) 3)).alloc (.cells v 33)).drew (w2.heap.size + 1 + 1) v 33 := (Blk.newAt _ _ _ _ (by simp)).drew
  have hs := hk.size
  exact ⟨fun e => ⟨hk.trans K, hb.kept K, hl.kept K, by rw [← e]; exact h3, h1, h2, by omega, by omega, by omega, by omega⟩, fun e => ⟨hk.trans K, hb.kept K, hl.kept K, by rw [← e]; exact h3, h2, h1, by omega, by omega, by omega, by omega⟩⟩
/-- .. with k machines. -/
structure CK (w0 : World) (pb bb g xb gb db B n s : Nat) (la : Option Addr) (k cap : Nat) (wr : World) : Prop where
  kp : Kept w0 wr
  bank : Bnk wr bb g (bar s n 0)
  lay : Blk wr pb #[.int .i64 2, .int .i64 1, .int .i64 (n : Int), .int .i64 2, .int .i64 0, .int .i64 1, .int .i64 3, .int .i64 5, .int .i64 7, .int .i64 8, .int .i64 9, .int .i64 10, .int .i64 11, .int .i64 (s : Int)] 28
  box : Blk wr xb (c1v bb gb db n s (.slice la k cap)) 33
  bg : Blk wr gb (zeros n (.int .i64 0)) 3
  dn : Blk wr db (zeros n (.int .i64 0)) 3
  now : wr.ownsRow B 46 17 (.slice la k cap) k (((List.replicate k (⟨0, 0, false⟩ : MS)).map (mcell n s)).flatten)
  ne : gb ≠ db
  lo : w0.heap.size ≤ xb ∧ w0.heap.size ≤ gb ∧ w0.heap.size ≤ db
  hi : xb < B ∧ pb < B ∧ bb < B ∧ g < B ∧ gb < B ∧ db < B ∧ w0.heap.size ≤ B
  up : B ≤ wr.heap.size
theorem CZ.start {w0 wr : World} {pb bb g xb gb db n s : Nat} (h : CZ w0 pb bb g xb gb db n s wr) : CK w0 pb bb g xb gb db wr.heap.size n s none 0 0 wr :=
  ⟨h.kp, h.bank, h.lay, h.box, h.bg, h.dn, World.ownsRow_nil _ _ _ _, h.ne, h.lo, ⟨h.box.lt, h.lay.lt, h.bank.head.lt, h.bank.row.lt, h.bg.lt, h.dn.lt, h.kp.size⟩, Nat.le_refl _⟩
theorem CK.grew {w0 wr w4 : World} {pb bb g xb gb db B n s : Nat} {la : Option Addr} {k cap g4 cap4 : Nat} (h : CK w0 pb bb g xb gb db B n s la k cap wr) (hU : Upd (fun x => B ≤ x) wr w4)
    (ho : w4.ownsRow B 46 17 (.slice (some ⟨g4, 0, none⟩) (k + 1) cap4) (k + 1) (((List.replicate k (⟨0, 0, false⟩ : MS)).map (mcell n s)).flatten ++ mcell n s ⟨0, 0, false⟩)) :
    Blk w4 xb (c1v bb gb db n s (.slice la k cap)) 33 ∧ CK w0 pb bb g xb gb db B n s (some ⟨g4, 0, none⟩) (k + 1) cap4 (w4.setCell ⟨xb, 15, none⟩ (.slice (some ⟨g4, 0, none⟩) (k + 1) cap4)) := by
  obtain ⟨h1, h2, h3, h4, h5, h6, h7⟩ := h.hi
  have hV : Upd (fun x => x = xb) w4 (w4.setCell ⟨xb, 15, none⟩ (.slice (some ⟨g4, 0, none⟩) (k + 1) cap4)) := Upd.setCell (S := fun x => x = xb) (p := ⟨xb, 15, none⟩) (Upd.refl _ _) (.inl rfl) _
  have hb : Blk w4 xb (c1v bb gb db n s (.slice la k cap)) 33 := h.box.upd hU (by omega)
  have n1 : xb ≠ bb := blk_ne h.box h.bank.head (by decide)
  have n2 : xb ≠ g := blk_ne h.box h.bank.row (by decide)
  have n3 : xb ≠ pb := blk_ne h.box h.lay (by decide)
  have n4 : xb ≠ gb := blk_ne h.box h.bg (by decide)
  have n5 : xb ≠ db := blk_ne h.box h.dn (by decide)
  have h0 := h.lo
  have hk := h.kp.size
  have hup := h.up
  refine ⟨hb, ?_, (h.bank.upd hU (by omega) (by omega)).upd hV (fun e => n1 e.symm) (fun e => n2 e.symm), (h.lay.upd hU (by omega)).upd hV (fun e => n3 e.symm), ?_, (h.bg.upd hU (by omega)).upd hV (fun e => n4 e.symm), (h.dn.upd hU (by omega)).upd hV (fun e => n5 e.symm), ?_, h.ne, h.lo, h.hi, Nat.le_trans hup (Nat.le_trans hU.size hV.size)⟩
  · exact (h.kp.then hU (fun i hi he => by omega)).then hV (fun i hi he => by omega)
  · have := hb.set 15 (.slice (some ⟨g4, 0, none⟩) (k + 1) cap4)
    simpa [c1v] using this
  · rw [show (List.replicate (k + 1) (⟨0, 0, false⟩ : MS)) = List.replicate k ⟨0, 0, false⟩ ++ [⟨0, 0, false⟩] from List.replicate_succ', List.map_append, List.flatten_append, List.map_cons, List.map_nil, List.flatten_cons, List.flatten_nil, List.append_nil]
    exact ownsRow_upd ho hV (fun x hx e => by omega)
/-- The region's state: built, appended, stored. -/
def CKR (w0 : World) (pb bb g xb gb db B n s : Nat) (la : Option Addr) (k cap : Nat) (b7 b8 b11 : Bool) (v32 v33 : Value) (W : World) : Prop :=
  (b7 = false ∧ b8 = false ∧ b11 = false ∧ CK w0 pb bb g xb gb db B n s la k cap W) ∨
  (b7 = true ∧ b8 = false ∧ b11 = false ∧ CK w0 pb bb g xb gb db B n s la k cap W ∧ ∃ bk, v32 = .slice (some ⟨bk, 0, none⟩) 1 1 ∧ Blk W bk #[.int .i64 2, .int .i64 1, .int .i64 (n : Int), .int .i64 2, .int .i64 0, .int .i64 1, .int .i64 3, .int .i64 5, .int .i64 7, .int .i64 8, .int .i64 9, .int .i64 10, .int .i64 11, .int .i64 (s : Int), .int .u8 0, .int .i64 0, .bool false] 46) ∨
  (b7 = true ∧ b8 = true ∧ b11 = false ∧ ∃ g4 cap4, v33 = .slice (some ⟨g4, 0, none⟩) (k + 1) cap4 ∧ Blk W xb (c1v bb gb db n s (.slice la k cap)) 33 ∧ Blk W pb #[.int .i64 2, .int .i64 1, .int .i64 (n : Int), .int .i64 2, .int .i64 0, .int .i64 1, .int .i64 3, .int .i64 5, .int .i64 7, .int .i64 8, .int .i64 9, .int .i64 10, .int .i64 11, .int .i64 (s : Int)] 28 ∧ CK w0 pb bb g xb gb db B n s (some ⟨g4, 0, none⟩) (k + 1) cap4 (W.setCell ⟨xb, 15, none⟩ v33)) ∨
  (b7 = true ∧ b8 = true ∧ b11 = true ∧ ∃ g4 cap4, v33 = .slice (some ⟨g4, 0, none⟩) (k + 1) cap4 ∧ CK w0 pb bb g xb gb db B n s (some ⟨g4, 0, none⟩) (k + 1) cap4 W)
section
variable {w0 : World} {pb bb g xb gb db B n s : Nat} {la : Option Addr} {k cap : Nat} {b7 b8 b11 : Bool} {v32 v33 : Value} {W W' : World}
theorem CK.kept (h : CK w0 pb bb g xb gb db B n s la k cap W) (hk : Kept W W') : CK w0 pb bb g xb gb db B n s la k cap W' :=
  ⟨h.kp.trans hk, h.bank.kept hk, h.lay.kept hk, h.box.kept hk, h.bg.kept hk, h.dn.kept hk, ownsRow_upd h.now hk (fun _ _ f => f), h.ne, h.lo, h.hi, Nat.le_trans h.up hk.size⟩
theorem CKR.kept (h : CKR w0 pb bb g xb gb db B n s la k cap b7 false b11 v32 v33 W) (hk : Kept W W') : CKR w0 pb bb g xb gb db B n s la k cap b7 false b11 v32 v33 W' := by
  rcases h with ⟨h1, h2, h3, h⟩ | ⟨h1, h2, h3, h, bk, h4, h5⟩ | ⟨-, h, -⟩ | ⟨-, h, -⟩
  · exact .inl ⟨h1, h2, h3, h.kept hk⟩
  · exact .inr (.inl ⟨h1, h2, h3, h.kept hk, bk, h4, h5.kept hk⟩)
  · cases h
  · cases h
theorem CKR.early (h : CKR w0 pb bb g xb gb db B n s la k cap b7 false b11 v32 v33 W) : CK w0 pb bb g xb gb db B n s la k cap W := by
  rcases h with ⟨h1, h2, h3, h⟩ | ⟨h1, h2, h3, h, -⟩ | ⟨-, h, -⟩ | ⟨-, h, -⟩
  · exact h
  · exact h
  · cases h
  · cases h
theorem CKR.lay (h : CKR w0 pb bb g xb gb db B n s la k cap b7 b8 b11 v32 v33 W) : Blk W pb #[.int .i64 2, .int .i64 1, .int .i64 (n : Int), .int .i64 2, .int .i64 0, .int .i64 1, .int .i64 3, .int .i64 5, .int .i64 7, .int .i64 8, .int .i64 9, .int .i64 10, .int .i64 11, .int .i64 (s : Int)] 28 := by
  rcases h with ⟨h1, h2, h3, h⟩ | ⟨h1, h2, h3, h, -⟩ | ⟨-, -, -, g4, cap4, -, -, h, -⟩ | ⟨-, -, -, g4, cap4, -, h⟩
  · exact h.lay
  · exact h.lay
  · exact h
  · exact h.lay
theorem CKR.built (h : CKR w0 pb bb g xb gb db B n s la k cap b7 b8 b11 v32 v33 W) (e7 : b7 = false) : CKR w0 pb bb g xb gb db B n s la k cap true b8 b11 (.slice (some ⟨W.heap.size, 0, none⟩) 1 1) v33 (W.alloc (.cells #[.int .i64 2, .int .i64 1, .int .i64 (n : Int), .int .i64 2, .int .i64 0, .int .i64 1, .int .i64 3, .int .i64 5, .int .i64 7, .int .i64 8, .int .i64 9, .int .i64 10, .int .i64 11, .int .i64 (s : Int), .int .u8 0, .int .i64 0, .bool false] 46)) := by
  rcases h with ⟨h1, h2, h3, h⟩ | ⟨h, -⟩ | ⟨h, -⟩ | ⟨h, -⟩
  · exact .inr (.inl ⟨rfl, h2, h3, h.kept ((Upd.refl _ _).alloc _), _, rfl, Blk.new _ _ _⟩)
  · rw [e7] at h; cases h
  · rw [e7] at h; cases h
  · rw [e7] at h; cases h
theorem CKR.mid (h : CKR w0 pb bb g xb gb db B n s la k cap b7 b8 b11 v32 v33 W) (e7 : b7 = true) (e8 : b8 = false) : b11 = false ∧ CK w0 pb bb g xb gb db B n s la k cap W ∧ ∃ bk, v32 = .slice (some ⟨bk, 0, none⟩) 1 1 ∧ Blk W bk #[.int .i64 2, .int .i64 1, .int .i64 (n : Int), .int .i64 2, .int .i64 0, .int .i64 1, .int .i64 3, .int .i64 5, .int .i64 7, .int .i64 8, .int .i64 9, .int .i64 10, .int .i64 11, .int .i64 (s : Int), .int .u8 0, .int .i64 0, .bool false] 46 := by
  rcases h with ⟨h, -⟩ | ⟨h1, h2, h3, h⟩ | ⟨-, h, -⟩ | ⟨-, h, -⟩
  · rw [e7] at h; cases h
  · exact ⟨h3, h⟩
  · rw [e8] at h; cases h
  · rw [e8] at h; cases h
theorem CK.appended {w4 : World} {g4 cap4 : Nat} (h : CK w0 pb bb g xb gb db B n s la k cap W) (e7 : b7 = true) (e11 : b11 = false) (hg : W.grownBy w4 (Value.slice la k cap).ownBlock)
    (ho : w4.ownsRow B 46 17 (.slice (some ⟨g4, 0, none⟩) (k + 1) cap4) (k + 1) (((List.replicate k (⟨0, 0, false⟩ : MS)).map (mcell n s)).flatten ++ mcell n s ⟨0, 0, false⟩)) : CKR w0 pb bb g xb gb db B n s la k cap b7 true b11 v32 (.slice (some ⟨g4, 0, none⟩) (k + 1) cap4) w4 := by
  have hU : Upd (fun x => B ≤ x) W w4 := Upd.grown (Upd.refl _ _) hg (fun x hx => .inl (World.ownsRow.lt h.now x hx).1)
  have h2 := h.grew hU ho
  have h3 := h.hi
  exact .inr (.inr (.inl ⟨e7, rfl, e11, g4, cap4, rfl, h2.1, h.lay.upd hU (by omega), h2.2⟩))
theorem CKR.late (h : CKR w0 pb bb g xb gb db B n s la k cap b7 b8 b11 v32 v33 W) (e8 : b8 = true) (e11 : b11 = false) : ∃ g4 cap4, v33 = .slice (some ⟨g4, 0, none⟩) (k + 1) cap4 ∧ Blk W xb (c1v bb gb db n s (.slice la k cap)) 33 ∧ CKR w0 pb bb g xb gb db B n s la k cap b7 b8 true v32 v33 (W.setCell ⟨xb, 15, none⟩ v33) := by
  rcases h with ⟨-, h, -⟩ | ⟨-, h, -⟩ | ⟨h1, h2, h3, g4, cap4, h4, h5, h6, h7⟩ | ⟨-, -, h, -⟩
  · rw [e8] at h; cases h
  · rw [e8] at h; cases h
  · exact ⟨g4, cap4, h4, h5, .inr (.inr (.inr ⟨h1, h2, rfl, g4, cap4, h4, h7⟩))⟩
  · rw [e11] at h; cases h
theorem CKR.fin (h : CKR w0 pb bb g xb gb db B n s la k cap b7 b8 true v32 v33 W) : ∃ g4 cap4, v33 = .slice (some ⟨g4, 0, none⟩) (k + 1) cap4 ∧ CK w0 pb bb g xb gb db B n s (some ⟨g4, 0, none⟩) (k + 1) cap4 W := by
  rcases h with ⟨-, -, h, -⟩ | ⟨-, -, h, -⟩ | ⟨-, -, h, -⟩ | ⟨-, -, -, h⟩
  · cases h
  · cases h
  · cases h
  · exact h
end
theorem CK.done {w0 wr : World} {pb bb g xb gb db B n s : Nat} {la : Option Addr} {cap : Nat} (h : CK w0 pb bb g xb gb db B n s la n cap wr) (hn : 0 < n) (hs : s = 11 + n * 4) (hg : w0.heap.size ≤ bb ∧ w0.heap.size ≤ g) : ∃ (mb : Nat) (L : List Int), CrS w0 (fun _ => False) xb bb g mb gb db (wr.heap.size) n s cap L 0 n (List.replicate n ⟨0, 0, 0⟩) none 0 0 wr := by
  rcases h.now.2 with ⟨e, e2⟩ | ⟨mb, cap', cur, e, hb, hh, -⟩
  · omega
  cases e
  refine ⟨mb, List.replicate s 0, ⟨⟨List.replicate n ⟨0, 0, false⟩, ?_, fun j w m hw hm hs => ?_⟩, BarI.start n hn⟩⟩
  · refine ⟨h.box, h.bank, Mach.ofOwn h.now, ?_, ?_, World.ownsRow_nil _ _ _ _, h.kp, ⟨by simp, by simp, by simp, by simp, by simp⟩, ⟨.inr h.lo.1, .inr hg.1, .inr hg.2, .inr (Nat.le_trans h.hi.2.2.2.2.2.2 hb), .inr h.lo.2.1, .inr h.lo.2.2⟩, (fun k e => by cases e), ⟨h.box.lt, h.bank.head.lt, h.bank.row.lt, (Mach.ofOwn h.now).lt, h.bg.lt, h.dn.lt⟩, h.ne, Nat.le_refl _⟩
    · have := h.bg
      simpa [nv, zeros, Wk.b] using this
    · have := h.dn
      simpa [nv, zeros] using this
  · have := List.mem_of_getElem? hw
    rw [(List.mem_replicate.1 this).2] at hs
    exact absurd rfl hs
/-- What crowded hands back. -/
def Crowded (n : Nat) (w0 : World) (e : Ending) (wz : World) : Prop := ∃ (xb bb g mb gb db B s capn : Nat) (L : List Int), e = .returned (.tuple #[.pointer (some ⟨xb, 0, none⟩), .bool true]) ∧ s = 11 + n * 4 ∧ CrS w0 (fun _ => False) xb bb g mb gb db B n s capn L 0 n (List.replicate n ⟨0, 0, 0⟩) none 0 0 wz
set_option maxRecDepth 100000 in
set_option maxHeartbeats 16000000 in
theorem crowded_any (n : Nat) (hn1 : 1 ≤ n) (hn12 : n ≤ 12) (w0 : World) : Calls Try.prog 7 #[.int .i64 n] w0 (Crowded n w0) := by
  obtain ⟨s, hs⟩ : ∃ s, s = 11 + n * 4 := ⟨_, rfl⟩
  have HB := fun w => Lib.hid (bank_any n s hn1 (by omega) hs w)
  have hmk := fun w => make_one (P := Try.prog) (t := 31) (e := 3) (z := .int .i64 0) (v := .int .i64 0) (bytes := 8) Try.underlying31 (by kernel_rfl) rfl .i64 n (by omega) (by omega) w
  have HS := Lib.hid hs
  clear hs
  go_enter Try.func7, Try.ntmps7
  go_wp2_with fail
  refine (HB _).out.mono ?_
  rintro e w1 ⟨bb, g, rfl, hB, hbb, hg, hk⟩
  unfold lvn
  have HK1 := Lib.hid hk
  have HBK := Lib.hid hB
  have HLO := Lib.hid (And.intro hbb hg)
  clear hk hB hbb hg HB
  go_upto_region 2 with (fail)
  have HLB := Lib.hid (Blk.new w1 #[.int .i64 2, .int .i64 1, .int .i64 (n : Int), .int .i64 2, .int .i64 0, .int .i64 1, .int .i64 3, .int .i64 5, .int .i64 7, .int .i64 8, .int .i64 9, .int .i64 10, .int .i64 11, .int .i64 (s : Int)] 28)
  have HK2 := Lib.hid (HK1.out.alloc (.cells #[.int .i64 2, .int .i64 1, .int .i64 (n : Int), .int .i64 2, .int .i64 0, .int .i64 1, .int .i64 3, .int .i64 5, .int .i64 7, .int .i64 8, .int .i64 9, .int .i64 10, .int .i64 11, .int .i64 (s : Int)] 28))
  have HBK2 := Lib.hid (HBK.out.kept ((Upd.refl _ w1).alloc (.cells #[.int .i64 2, .int .i64 1, .int .i64 (n : Int), .int .i64 2, .int .i64 0, .int .i64 1, .int .i64 3, .int .i64 5, .int .i64 7, .int .i64 8, .int .i64 9, .int .i64 10, .int .i64 11, .int .i64 (s : Int)] 28)))
  generalize (w1.alloc (.cells #[.int .i64 2, .int .i64 1, .int .i64 (n : Int), .int .i64 2, .int .i64 0, .int .i64 1, .int .i64 3, .int .i64 5, .int .i64 7, .int .i64 8, .int .i64 9, .int .i64 10, .int .i64 11, .int .i64 (s : Int)] 28)) = w2 at HLB HK2 HBK2 ⊢
  generalize w1.heap.size = pb at HLB ⊢
  go_cut [7] from 14 to 21 (fun x wx => ∃ xb gb db : Nat, x = .pointer (some ⟨xb, 0, none⟩) ∧ Hid (CZ w0 pb bb g xb gb db n s wx))
  case first =>
    have C0 : (∀ ii, w2.drew.cell? ⟨pb, ii, none⟩ = (#[.int .i64 2, .int .i64 1, .int .i64 (n : Int), .int .i64 2, .int .i64 0, .int .i64 1, .int .i64 3, .int .i64 5, .int .i64 7, .int .i64 8, .int .i64 9, .int .i64 10, .int .i64 11, .int .i64 (s : Int)] : Array Value)[ii]?) := HLB.out.drew.cell
    have C1 : (∀ ii, (w2.alloc (.cells (zeros n (.int .i64 0)) 3)).drew.cell? ⟨pb, ii, none⟩ = (#[.int .i64 2, .int .i64 1, .int .i64 (n : Int), .int .i64 2, .int .i64 0, .int .i64 1, .int .i64 3, .int .i64 5, .int .i64 7, .int .i64 8, .int .i64 9, .int .i64 10, .int .i64 11, .int .i64 (s : Int)] : Array Value)[ii]?) := (HLB.out.alloc _).drew.cell
    have C2 : (∀ ii, ((w2.alloc (.cells (zeros n (.int .i64 0)) 3)).alloc (.cells (zeros n (.int .i64 0)) 3)).drew.cell? ⟨pb, ii, none⟩ = (#[.int .i64 2, .int .i64 1, .int .i64 (n : Int), .int .i64 2, .int .i64 0, .int .i64 1, .int .i64 3, .int .i64 5, .int .i64 7, .int .i64 8, .int .i64 9, .int .i64 10, .int .i64 11, .int .i64 (s : Int)] : Array Value)[ii]?) := ((HLB.out.alloc _).alloc _).drew.cell
    have C3 := fun o : Obj => (((HLB.out.alloc (.cells (zeros n (.int .i64 0)) 3)).alloc (.cells (zeros n (.int .i64 0)) 3)).alloc o).drew.cell
    go_region_held3 (fun w' => (∀ ii, w'.cell? ⟨pb, ii, none⟩ = (#[.int .i64 2, .int .i64 1, .int .i64 (n : Int), .int .i64 2, .int .i64 0, .int .i64 1, .int .i64 3, .int .i64 5, .int .i64 7, .int .i64 8, .int .i64 9, .int .i64 10, .int .i64 11, .int .i64 (s : Int)] : Array Value)[ii]?))
      (first | with_reducible exact C0 | with_reducible exact C1 | with_reducible exact C2 | exact C3 _)
      (fail)
    all_goals (have HCZ := fun (v : Array Value) => CZ.made (v := v) HK2.out HBK2.out HLB.out)
    all_goals (go_wp2_with fail)
    all_goals go_meet
    all_goals first
      | exact ⟨_, _, _, rfl, Lib.hid ((HCZ _).1 rfl)⟩
      | exact ⟨_, _, _, rfl, Lib.hid ((HCZ _).2 rfl)⟩
  case rest =>
    obtain ⟨xb, gb, db, rfl, HZ⟩ := hcut
    obtain ⟨EB, hEB⟩ : ∃ EB, wc.heap.size = EB := ⟨_, rfl⟩
    have HC0 : Hid (CK w0 pb bb g xb gb db EB n s none 0 0 wc) := Lib.hid (hEB ▸ HZ.out.start)
    clear HZ hEB HK2 HBK2 HLB HK1 HBK
    obtain ⟨j1, hi9, hz0, hz1, hz2⟩ := info_parts infoArrive
    go_wp2_with fail
    go_loopw [23] (fun ix wr => ∃ (k : Nat) (la : Option Addr) (cap : Nat), ix = .int .i64 k ∧ k ≤ n ∧ Hid (CK w0 pb bb g xb gb db EB n s la k cap wr)) (fun ix _ => n - (intOf ix).toNat)
    case atStart => exact ⟨0, none, 0, rfl, by omega, HC0⟩
    case round =>
      obtain ⟨k, la, cap, rfl, hk, HC⟩ := hrel
      by_cases hlt : k < n
      · as_aux_lemma =>
        have hlt' : (k : Int) < (n : Int) := by omega
        have HC1 : Hid (CKR w0 pb bb g xb gb db EB n s la k cap false false false u32 u33 wr) := Lib.hid (.inl ⟨rfl, rfl, rfl, HC.out⟩)
        go_upto_region 5 with (fail)
        refine wp_region_inv (fun l us W => ∃ (b0 b1 b2 b3 b4 b5 b6 b7 b8 b9 b10 b11 : Bool) (v25 v26 v27 v28 v29 v30 v31 v32 v33 v34 v35 : Value), l = #[b0, b1, b2, b3, b4, b5, b6, b7, b8, b9, b10, b11] ∧ us = [v25, v26, v27, v28, v29, v30, v31, v32, v33, v34, v35] ∧ Hid (CKR w0 pb bb g xb gb db EB n s la k cap b7 b8 b11 v32 v33 W) ∧
            Hid (b0 = true → v25 = .pointer (some ⟨xb, 0, none⟩)) ∧
            Hid (b1 = true → v26 = .pointer (some ⟨xb, 0, none⟩)) ∧
            Hid (b2 = true → v27 = .pointer (some ⟨xb, 0, none⟩)) ∧
            Hid (b3 = true → v28 = .pointer (some ⟨xb, 15, none⟩)) ∧
            Hid (b4 = true → v29 = .slice la k cap) ∧
            Hid (b5 = true → v30 = .agg #[.int .i64 2, .int .i64 1, .int .i64 (n : Int), .int .i64 2, .int .i64 0, .int .i64 1, .int .i64 3, .int .i64 5, .int .i64 7, .int .i64 8, .int .i64 9, .int .i64 10, .int .i64 11, .int .i64 (s : Int)]) ∧
            Hid (b6 = true → v31 = .agg #[.int .i64 2, .int .i64 1, .int .i64 (n : Int), .int .i64 2, .int .i64 0, .int .i64 1, .int .i64 3, .int .i64 5, .int .i64 7, .int .i64 8, .int .i64 9, .int .i64 10, .int .i64 11, .int .i64 (s : Int), .int .u8 0, .int .i64 0, .bool false]) ∧
            Hid (b9 = true → v34 = .pointer (some ⟨xb, 0, none⟩)) ∧
            Hid (b10 = true → v35 = .pointer (some ⟨xb, 15, none⟩)) ∧
            Hid (b8 = true → b4 = true ∧ b6 = true)) [25, 26, 27, 28, 29, 30, 31, 32, 33, 34, 35] [u25, u26, u27, u28, u29, u30, u31, u32, u33, u34, u35] (by kernel_rfl) (by kernel_rfl) (by simp only [putAll, Act.put, List.setIfInBounds_toArray, List.set_cons_zero, List.set_cons_succ]) ?_ ?_ ?_
        · exact ⟨false, false, false, false, false, false, false, false, false, false, false, false, _, _, _, _, _, _, _, _, _, _, _, rfl, rfl, Lib.hid (HC1.out.kept (Upd.refl _ _).drew), Lib.hid (by simp), Lib.hid (by simp), Lib.hid (by simp), Lib.hid (by simp), Lib.hid (by simp), Lib.hid (by simp), Lib.hid (by simp), Lib.hid (by simp), Lib.hid (by simp), Lib.hid (by simp)⟩
        · rintro i l us W ⟨b0, b1, b2, b3, b4, b5, b6, b7, b8, b9, b10, b11, v25, v26, v27, v28, v29, v30, v31, v32, v33, v34, v35, rfl, rfl, hI, h0, h1, h2, h3, h4, h5, h6, h9, h10, x8⟩ hr
          have hi : i = 0 ∨ i = 1 ∨ i = 2 ∨ i = 3 ∨ i = 4 ∨ i = 5 ∨ i = 6 ∨ i = 7 ∨ i = 8 ∨ i = 9 ∨ i = 10 ∨ i = 11 := by
            have := ready_lt hr
            simp at this
            omega
          rcases hi with rfl | rfl | rfl | rfl | rfl | rfl | rfl | rfl | rfl | rfl | rfl | rfl
          · skip
            obtain ⟨hn, hd⟩ := ready_at hr rfl
            simp [Region.binds] at hn hd
            refine wpOp_step rfl (fun K' hK => ?_)
            simp only [putAll, Act.put, List.setIfInBounds_toArray, List.set_cons_zero, List.set_cons_succ]
            go_simp
            exact hK _ _ ⟨_, by simp only [putAll, Act.put, List.setIfInBounds_toArray, List.set_cons_zero, List.set_cons_succ], true, b1, b2, b3, b4, b5, b6, b7, b8, b9, b10, b11, _, _, _, _, _, _, _, _, _, _, _, rfl, rfl, hI, Lib.hid (fun _ => rfl), h1, h2, h3, h4, h5, h6, h9, h10, x8⟩
          · skip
            obtain ⟨hn, hd⟩ := ready_at hr rfl
            simp [Region.binds] at hn hd
            refine wpOp_step rfl (fun K' hK => ?_)
            simp only [putAll, Act.put, List.setIfInBounds_toArray, List.set_cons_zero, List.set_cons_succ]
            go_simp
            exact hK _ _ ⟨_, by simp only [putAll, Act.put, List.setIfInBounds_toArray, List.set_cons_zero, List.set_cons_succ], b0, true, b2, b3, b4, b5, b6, b7, b8, b9, b10, b11, _, _, _, _, _, _, _, _, _, _, _, rfl, rfl, hI, h0, Lib.hid (fun _ => rfl), h2, h3, h4, h5, h6, h9, h10, x8⟩
          · skip
            obtain ⟨hn, hd⟩ := ready_at hr rfl
            simp [Region.binds] at hn hd
            obtain rfl := h1.out (by simp [hd])
            refine wpOp_step rfl (fun K' hK => ?_)
            simp only [putAll, Act.put, List.setIfInBounds_toArray, List.set_cons_zero, List.set_cons_succ]
            go_simp
            exact hK _ _ ⟨_, by simp only [putAll, Act.put, List.setIfInBounds_toArray, List.set_cons_zero, List.set_cons_succ], b0, b1, true, b3, b4, b5, b6, b7, b8, b9, b10, b11, _, _, _, _, _, _, _, _, _, _, _, rfl, rfl, hI, h0, h1, Lib.hid (fun _ => rfl), h3, h4, h5, h6, h9, h10, x8⟩
          · skip
            obtain ⟨hn, hd⟩ := ready_at hr rfl
            simp [Region.binds] at hn hd
            obtain rfl := h2.out (by simp [hd])
            refine wpOp_step rfl (fun K' hK => ?_)
            simp only [putAll, Act.put, List.setIfInBounds_toArray, List.set_cons_zero, List.set_cons_succ]
            go_simp
            exact hK _ _ ⟨_, by simp only [putAll, Act.put, List.setIfInBounds_toArray, List.set_cons_zero, List.set_cons_succ], b0, b1, b2, true, b4, b5, b6, b7, b8, b9, b10, b11, _, _, _, _, _, _, _, _, _, _, _, rfl, rfl, hI, h0, h1, h2, Lib.hid (fun _ => rfl), h4, h5, h6, h9, h10, x8⟩
          · skip
            obtain ⟨hn, hd⟩ := ready_at hr rfl
            simp [Region.binds] at hn hd
            obtain rfl := h3.out (by simp [hd])
            have hb8 : b8 = false := by cases b8 with | false => rfl | true => (have := x8.out rfl; rw [hn] at this; simp at this)
            subst hb8
            have hc : W.cell? ⟨xb, 15, none⟩ = some (.slice la k cap) := by rw [hI.out.early.box.cell]; rfl
            refine wpOp_step rfl (fun K' hK => ?_)
            simp only [putAll, Act.put, List.setIfInBounds_toArray, List.set_cons_zero, List.set_cons_succ]
            go_simp
            exact hK _ _ ⟨_, by simp only [putAll, Act.put, List.setIfInBounds_toArray, List.set_cons_zero, List.set_cons_succ], b0, b1, b2, b3, true, b5, b6, b7, false, b9, b10, b11, _, _, _, _, _, _, _, _, _, _, _, rfl, rfl, hI, h0, h1, h2, h3, Lib.hid (fun _ => rfl), h5, h6, h9, h10, Lib.hid (fun h => (by cases h))⟩
          · skip
            obtain ⟨hn, hd⟩ := ready_at hr rfl
            simp [Region.binds] at hn hd
            refine wpOp_step rfl (fun K' hK => ?_)
            simp only [putAll, Act.put, List.setIfInBounds_toArray, List.set_cons_zero, List.set_cons_succ]
            have cb := hI.out.lay.cell
            go_simp
            exact hK _ _ ⟨_, by simp only [putAll, Act.put, List.setIfInBounds_toArray, List.set_cons_zero, List.set_cons_succ], b0, b1, b2, b3, b4, true, b6, b7, b8, b9, b10, b11, _, _, _, _, _, _, _, _, _, _, _, rfl, rfl, hI, h0, h1, h2, h3, h4, Lib.hid (fun _ => rfl), h6, h9, h10, x8⟩
          · skip
            obtain ⟨hn, hd⟩ := ready_at hr rfl
            simp [Region.binds] at hn hd
            obtain rfl := h5.out (by simp [hd])
            have hb8 : b8 = false := by cases b8 with | false => rfl | true => (have := x8.out rfl; rw [hn] at this; simp at this)
            subst hb8
            refine wpOp_step rfl (fun K' hK => ?_)
            simp only [putAll, Act.put, List.setIfInBounds_toArray, List.set_cons_zero, List.set_cons_succ]
            go_simp
            refine (newArr n s _).mono ?_
            rintro e w' ⟨rfl, hk⟩
            exact hK _ _ ⟨_, by simp only [putAll, Act.put, List.setIfInBounds_toArray, List.set_cons_zero, List.set_cons_succ], b0, b1, b2, b3, b4, b5, true, b7, false, b9, b10, b11, _, _, _, _, _, _, _, _, _, _, _, rfl, rfl, (Lib.hid (hI.out.kept hk)), h0, h1, h2, h3, h4, h5, Lib.hid (fun _ => rfl), h9, h10, Lib.hid (fun h => (by cases h))⟩
          · skip
            obtain ⟨hn, hd⟩ := ready_at hr rfl
            simp [Region.binds] at hn hd
            obtain rfl := h6.out (by simp [hd])
            refine wpOp_step rfl (fun K' hK => ?_)
            simp only [putAll, Act.put, List.setIfInBounds_toArray, List.set_cons_zero, List.set_cons_succ]
            refine wp_buildSlice 30 46 1 #[(0, .tmp 31)] rfl #[.int .i64 2, .int .i64 1, .int .i64 (n : Int), .int .i64 2, .int .i64 0, .int .i64 1, .int .i64 3, .int .i64 5, .int .i64 7, .int .i64 8, .int .i64 9, .int .i64 10, .int .i64 11, .int .i64 (s : Int), .int .u8 0, .int .i64 0, .bool false] j1 (.agg #[.int .i64 0, .int .i64 0, .int .i64 0, .int .i64 0, .int .i64 0, .int .i64 0, .int .i64 0, .int .i64 0, .int .i64 0, .int .i64 0, .int .i64 0, .int .i64 0, .int .i64 0, .int .i64 0, .int .u8 0, .int .i64 0, .bool false]) Try.underlying30 hi9 hz0 (by rw [hz1]; decide) (by rw [hz1]; decide) ?_ ?_
            · rw [hz1]
              refine (congrArg _ ?_).trans (fill_one17 _ #[.int .i64 2, .int .i64 1, .int .i64 (n : Int), .int .i64 2, .int .i64 0, .int .i64 1, .int .i64 3, .int .i64 5, .int .i64 7, .int .i64 8, .int .i64 9, .int .i64 10, .int .i64 11, .int .i64 (s : Int), .int .u8 0, .int .i64 0, .bool false] (by simp) rfl)
              simp [Act.eval]
            have hb := hI.out.built hn
            generalize (W.alloc _) = W2 at hb ⊢
            change K' (Act.put _ (some 32) _) W2
            exact hK _ _ ⟨_, by simp only [putAll, Act.put, List.setIfInBounds_toArray, List.set_cons_zero, List.set_cons_succ], b0, b1, b2, b3, b4, b5, b6, true, b8, b9, b10, b11, _, _, _, _, _, _, _, _, _, _, _, rfl, rfl, (Lib.hid hb), h0, h1, h2, h3, h4, h5, h6, h9, h10, x8⟩
          · skip
            obtain ⟨hn, hd⟩ := ready_at hr rfl
            simp [Region.binds] at hn hd
            obtain rfl := h4.out (by simp [hd])
            have e7 : b7 = true := (by simp [hd])
            obtain ⟨e11, hE, bk, rfl, hbk⟩ := hI.out.mid e7 hn
            refine wpOp_step rfl (fun K' hK => ?_)
            simp only [putAll, Act.put, List.setIfInBounds_toArray, List.set_cons_zero, List.set_cons_succ]
            refine wp_append_tot (.tmp 29) (.tmp 32) 30 rfl EB 46 j1 (.agg #[.int .i64 0, .int .i64 0, .int .i64 0, .int .i64 0, .int .i64 0, .int .i64 0, .int .i64 0, .int .i64 0, .int .i64 0, .int .i64 0, .int .i64 0, .int .i64 0, .int .i64 0, .int .i64 0, .int .u8 0, .int .i64 0, .bool false]) 17 136 Try.underlying30 hi9 hz0 hz1 hz2 rfl (by decide) (.slice la k cap) k (((List.replicate k (⟨0, 0, false⟩ : MS)).map (mcell n s)).flatten) (by simp [Act.eval]) hE.now ⟨bk, 0, none⟩ 1 1 (mcell n s ⟨0, 0, false⟩) (by simp [Act.eval]) rfl (blk_news hbk) (mcell_one _ _ _) (k + 1) rfl (by omega) (by unfold maxLen; omega) (by omega) hE.up ?_
            intro g4 cap4 w4 hown hgrow
            change K' (Act.put _ (some 33) _) w4
            exact hK _ _ ⟨_, by simp only [putAll, Act.put, List.setIfInBounds_toArray, List.set_cons_zero, List.set_cons_succ], b0, b1, b2, b3, b4, b5, b6, b7, true, b9, b10, b11, _, _, _, _, _, _, _, _, _, _, _, rfl, rfl, (Lib.hid (hE.appended (v32 := .slice (some ⟨bk, 0, none⟩) 1 1) e7 e11 hgrow hown)), h0, h1, h2, h3, h4, h5, h6, h9, h10, Lib.hid (fun _ => (by simp [hd]))⟩
          · skip
            obtain ⟨hn, hd⟩ := ready_at hr rfl
            simp [Region.binds] at hn hd
            obtain rfl := h0.out (by simp [hd])
            refine wpOp_step rfl (fun K' hK => ?_)
            simp only [putAll, Act.put, List.setIfInBounds_toArray, List.set_cons_zero, List.set_cons_succ]
            go_simp
            exact hK _ _ ⟨_, by simp only [putAll, Act.put, List.setIfInBounds_toArray, List.set_cons_zero, List.set_cons_succ], b0, b1, b2, b3, b4, b5, b6, b7, b8, true, b10, b11, _, _, _, _, _, _, _, _, _, _, _, rfl, rfl, hI, h0, h1, h2, h3, h4, h5, h6, Lib.hid (fun _ => rfl), h10, x8⟩
          · skip
            obtain ⟨hn, hd⟩ := ready_at hr rfl
            simp [Region.binds] at hn hd
            obtain rfl := h9.out (by simp [hd])
            refine wpOp_step rfl (fun K' hK => ?_)
            simp only [putAll, Act.put, List.setIfInBounds_toArray, List.set_cons_zero, List.set_cons_succ]
            go_simp
            exact hK _ _ ⟨_, by simp only [putAll, Act.put, List.setIfInBounds_toArray, List.set_cons_zero, List.set_cons_succ], b0, b1, b2, b3, b4, b5, b6, b7, b8, b9, true, b11, _, _, _, _, _, _, _, _, _, _, _, rfl, rfl, hI, h0, h1, h2, h3, h4, h5, h6, h9, Lib.hid (fun _ => rfl), x8⟩
          · skip
            obtain ⟨hn, hd⟩ := ready_at hr rfl
            simp [Region.binds] at hn hd
            obtain rfl := h10.out (by simp [hd])
            obtain ⟨g4, cap4, rfl, hL⟩ := hI.out.late (by simp [hd]) hn
            have hc : W.cell? ⟨xb, 15, none⟩ = some (.slice la k cap) := by rw [hL.1.cell]; rfl
            have hf := hL.1.free 15
            refine wpOp_step (o := ⟨none, .store 30 (.tmp 35) (.tmp 33), 0, "outright.go:25", _, none⟩) rfl (fun K' hK => ?_)
            simp only [putAll, Act.put, List.setIfInBounds_toArray, List.set_cons_zero, List.set_cons_succ]
            go_simp
            exact hK _ _ ⟨_, by simp only [putAll, Act.put, List.setIfInBounds_toArray, List.set_cons_zero, List.set_cons_succ], b0, b1, b2, b3, b4, b5, b6, b7, b8, b9, b10, true, _, _, _, _, _, _, _, _, _, _, _, rfl, rfl, (Lib.hid hL.2), h0, h1, h2, h3, h4, h5, h6, h9, h10, x8⟩
        · rintro l us W ⟨b0, b1, b2, b3, b4, b5, b6, b7, b8, b9, b10, b11, v25, v26, v27, v28, v29, v30, v31, v32, v33, v34, v35, rfl, rfl, hI, h0, h1, h2, h3, h4, h5, h6, h9, h10, x8⟩ hall
          as_aux_lemma =>
          obtain rfl : b0 = true := by simpa using hall 0
          obtain rfl : b1 = true := by simpa using hall 1
          obtain rfl : b2 = true := by simpa using hall 2
          obtain rfl : b3 = true := by simpa using hall 3
          obtain rfl : b4 = true := by simpa using hall 4
          obtain rfl : b5 = true := by simpa using hall 5
          obtain rfl : b6 = true := by simpa using hall 6
          obtain rfl : b7 = true := by simpa using hall 7
          obtain rfl : b8 = true := by simpa using hall 8
          obtain rfl : b9 = true := by simpa using hall 9
          obtain rfl : b10 = true := by simpa using hall 10
          obtain rfl : b11 = true := by simpa using hall 11
          obtain rfl := h0.out rfl
          obtain rfl := h1.out rfl
          obtain rfl := h2.out rfl
          obtain rfl := h3.out rfl
          obtain rfl := h4.out rfl
          obtain rfl := h5.out rfl
          obtain rfl := h6.out rfl
          obtain rfl := h9.out rfl
          obtain rfl := h10.out rfl
          obtain ⟨g4, cap4, rfl, hnew⟩ := hI.out.fin
          have HC2 := Lib.hid hnew
          clear hnew hI HC1 HC x8 hall
          simp only [putAll, Act.put, List.setIfInBounds_toArray, List.set_cons_zero, List.set_cons_succ]
          go_wp2_with fail
          go_roundw
          case rel => exact ⟨k + 1, _, _, by go_num, by omega, HC2⟩
          case measure => simp [intOf]; omega
      · as_aux_lemma =>
        have hlt' : ¬ (k : Int) < (n : Int) := by omega
        obtain rfl : k = n := by omega
        go_wp2_with fail
        obtain ⟨mb, L, h⟩ := HC.out.done (by omega) HS.out HLO.out
        exact bodyPost_ret (v := .tuple #[.pointer (some ⟨xb, 0, none⟩), .bool true]) (by simp [results, Try.results7, go_sem]) rfl ⟨xb, bb, g, mb, gb, db, _, s, cap, L, rfl, HS.out, h⟩
end Go.Proofs.Ytghlpapljjcaeaa
