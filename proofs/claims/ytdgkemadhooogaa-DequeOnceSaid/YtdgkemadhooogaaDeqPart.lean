/- Package deque: what all machines have (printed by gen_deq.py). -/
import Derived.Test.YtdgkemadhooogaaDeq
import Derived.Test.YtdgkemadhooogaaRefBank
import Derived.Deep.RegionHeld3
import Derived.Deep.CutRange
import Derived.StillTailTactics
import Derived.Deep.MidRow
namespace Go.Proofs.Ytdgkemadhooogaa
set_option linter.unusedVariables false
set_option linter.unusedSimpArgs false
open Go.RowKit
attribute [local go_sem] cell?_ext

theorem dtop {w : World} {mb : Nat} {T : TypeId} {l : Lay} {k : Int} {ex : List Value} {m : DM} {tp r : Nat} (hG : Geo l k tp r) (h : PB w mb T l k m ex) :
    Calls Try.prog 103 #[.pointer (some ⟨mb, 0, none⟩)] w fun e w' => e = .returned (.int .i64 ((tp : Int))) ∧ Kept w w' := by
  have h1 := hG.room_le
  have HT := fun w => Lib.hid (show Calls Try.prog 46 #[l.val, .int .i64 k] w fun e w' => e = .returned (.int .i64 ((tp : Int))) ∧ Kept w w' by rw [← hG.top]; exact Top_any l k w hG.d0 hG.d1 (by omega) (by omega) hG.k0 hG.k1)
  obtain ⟨c0, c1, c2, c3, c4, c5, c6, c7, c8, c9, c10, c11, c12, c13, c14⟩ := h.lay
  obtain ⟨verts, arcs, workers, room, res, lex, hh, flag, pending, ask, count, sense, deques, size⟩ := l
  simp only [Lay.val, Lay.vals] at HT
  simp only at c0 c1 c2 c3 c4 c5 c6 c7 c8 c9 c10 c11 c12 c13 c14
  clear h hG h1
  go_enter Try.func103, Try.ntmps103
  go_upto_region 1 with (fail)
  refine wp_region_kept (by kernel_rfl) (by kernel_rfl) ?_
  repeat (go_big_quiet_step ((go_at_call 46; exact kept_call (HT _).out)))
  refine wpQuiet_nil ?_
  intro w2 hk2
  go_wp2_with fail
  go_ret
  exact ⟨rfl, hk2⟩
theorem dbottom {w : World} {mb : Nat} {T : TypeId} {l : Lay} {k : Int} {ex : List Value} {m : DM} {tp r : Nat} (hG : Geo l k tp r) (h : PB w mb T l k m ex) :
    Calls Try.prog 104 #[.pointer (some ⟨mb, 0, none⟩)] w fun e w' => e = .returned (.int .i64 ((tp : Int) + 1)) ∧ Kept w w' := by
  have h1 := hG.room_le
  have HT := fun w => Lib.hid (show Calls Try.prog 47 #[l.val, .int .i64 k] w fun e w' => e = .returned (.int .i64 ((tp : Int) + 1)) ∧ Kept w w' by rw [← hG.top]; exact Bottom_any l k w hG.d0 hG.d1 (by omega) (by omega) hG.k0 hG.k1)
  obtain ⟨c0, c1, c2, c3, c4, c5, c6, c7, c8, c9, c10, c11, c12, c13, c14⟩ := h.lay
  obtain ⟨verts, arcs, workers, room, res, lex, hh, flag, pending, ask, count, sense, deques, size⟩ := l
  simp only [Lay.val, Lay.vals] at HT
  simp only at c0 c1 c2 c3 c4 c5 c6 c7 c8 c9 c10 c11 c12 c13 c14
  clear h hG h1
  go_enter Try.func104, Try.ntmps104
  go_upto_region 1 with (fail)
  refine wp_region_kept (by kernel_rfl) (by kernel_rfl) ?_
  repeat (go_big_quiet_step ((go_at_call 47; exact kept_call (HT _).out)))
  refine wpQuiet_nil ?_
  intro w2 hk2
  go_wp2_with fail
  go_ret
  exact ⟨rfl, hk2⟩
theorem dslot {w : World} {mb : Nat} {T : TypeId} {l : Lay} {k : Int} {ex : List Value} {m : DM} {tp r : Nat} (hG : Geo l k tp r) (h : PB w mb T l k m ex) {j : Int} (hj : 0 ≤ j ∧ j < 9223372036854775808) :
    Calls Try.prog 101 #[.pointer (some ⟨mb, 0, none⟩), .int .i64 j] w fun e w' => e = .returned (.int .i64 (slot tp r j)) ∧ Kept w w' := by
  have h1 := hG.room_le
  have HT := fun w => Lib.hid (show Calls Try.prog 34 #[l.val, .int .i64 k, .int .i64 j] w fun e w' => e = .returned (.int .i64 (slot tp r j)) ∧ Kept w w' by 
    obtain ⟨i, rfl⟩ : ∃ i : Nat, j = (i : Int) := ⟨j.toNat, by omega⟩
    unfold slot
    rw [← hG.top]
    exact Slot_any l k r i w hG.d0 hG.d1 hG.r13 hG.room hG.k0 hG.k1 (by omega))
  obtain ⟨c0, c1, c2, c3, c4, c5, c6, c7, c8, c9, c10, c11, c12, c13, c14⟩ := h.lay
  obtain ⟨verts, arcs, workers, room, res, lex, hh, flag, pending, ask, count, sense, deques, size⟩ := l
  simp only [Lay.val, Lay.vals] at HT
  simp only at c0 c1 c2 c3 c4 c5 c6 c7 c8 c9 c10 c11 c12 c13 c14
  clear h hG h1
  go_enter Try.func101, Try.ntmps101
  go_upto_region 1 with (fail)
  refine wp_region_kept (by kernel_rfl) (by kernel_rfl) ?_
  repeat (go_big_quiet_step ((go_at_call 34; exact kept_call (HT _).out)))
  refine wpQuiet_nil ?_
  intro w2 hk2
  go_wp2_with fail
  go_ret
  exact ⟨rfl, hk2⟩
theorem cell_kept {w w' : World} (k : Kept w w') {p : Addr} {v : Value} (h : w.cell? p = some v) : w'.cell? p = w.cell? p := by
  have hb := World.block_lt_of_cell? w p h
  exact World.cell?_of_block (k.block p.block hb (fun f => f))
theorem dloadTop {w : World} {mb : Nat} {T : TypeId} {l : Lay} {k : Int} {ex : List Value} {a t b x : Int} {dn gt : Bool} {bb g : Nat} {xs : List Int} {tp r : Nat} (hG : Geo l k tp r) (h : PB w mb T l k ⟨a, t, b, x, dn, gt⟩ ex) (hb : Bnk w bb g xs) (hne : ¬ mb = g ∧ ¬ mb = bb) :
    Calls Try.prog 98 #[.pointer (some ⟨mb, 0, none⟩), .pointer (some ⟨bb, 0, none⟩)] w fun e w' => e = .returned (.tuple #[]) ∧ DSt T l k mb bb g ⟨a, bget xs (tp : Int), b, x, dn, gt⟩ ex xs w w' := by
  have HT := Lib.hid (dtop hG h)
  obtain ⟨y, hy⟩ : ∃ y, bget xs (tp : Int) = y := ⟨_, rfl⟩
  rw [hy]
  have HL := fun (w' : World) (k' : Kept w w') => Lib.hid (Load_is (hb.kept k') (tp : Int) y hy)
  have HF := fun (w' : World) (k' : Kept w w') => Lib.hid (show w'.frozen? ⟨mb, 16, none⟩ = false ∧ (w'.cell? ⟨mb, 16, none⟩).isSome = true ∧ DSt T l k mb bb g ⟨a, y, b, x, dn, gt⟩ ex xs w (w'.setCell ⟨mb, 16, none⟩ (.int .i64 y)) from
    ⟨(h.kept k').free 16, by rw [(h.kept k').cell]; rfl, (h.kept k').put 16 _ rfl, (hb.kept k').upd (updCell _ mb 16 _) (fun e => hne.2 e.symm) (fun e => hne.1 e.symm), (k'.wide (fun _ _ f => f.elim)).setCell (p := ⟨mb, 16, none⟩) (.inl (.inr rfl)) _⟩)
  have hc : w.cell? ⟨mb, 16, none⟩ = some (.int .i64 t) := by rw [h.cell]; rfl
  clear h hb hne hG hy
  go_enter Try.func98, Try.ntmps98
  go_wp2_with fail
  refine HT.out.mono ?_
  rintro e w1 ⟨rfl, hk⟩
  go_wp2_with fail
  refine (HL _ hk).out.mono ?_
  rintro e w2 ⟨rfl, rfl⟩
  have hf := (HF _ hk).out.1
  have hc1 : w1.cell? ⟨mb, 16, none⟩ = some (.int .i64 t) := by rw [← hc]; exact cell_kept hk hc
  have H9 := Lib.hid (HF _ hk).out.2.2
  clear HF HL HT hk hc
  go_wp2_with fail
  go_end0
  exact ⟨rfl, H9.out⟩
theorem dloadBottom {w : World} {mb : Nat} {T : TypeId} {l : Lay} {k : Int} {ex : List Value} {a t b x : Int} {dn gt : Bool} {bb g : Nat} {xs : List Int} {tp r : Nat} (hG : Geo l k tp r) (h : PB w mb T l k ⟨a, t, b, x, dn, gt⟩ ex) (hb : Bnk w bb g xs) (hne : ¬ mb = g ∧ ¬ mb = bb) :
    Calls Try.prog 99 #[.pointer (some ⟨mb, 0, none⟩), .pointer (some ⟨bb, 0, none⟩)] w fun e w' => e = .returned (.tuple #[]) ∧ DSt T l k mb bb g ⟨a, t, bget xs ((tp : Int) + 1), x, dn, gt⟩ ex xs w w' := by
  have HT := Lib.hid (dbottom hG h)
  obtain ⟨y, hy⟩ : ∃ y, bget xs ((tp : Int) + 1) = y := ⟨_, rfl⟩
  rw [hy]
  have HL := fun (w' : World) (k' : Kept w w') => Lib.hid (Load_is (hb.kept k') ((tp : Int) + 1) y hy)
  have HF := fun (w' : World) (k' : Kept w w') => Lib.hid (show w'.frozen? ⟨mb, 17, none⟩ = false ∧ (w'.cell? ⟨mb, 17, none⟩).isSome = true ∧ DSt T l k mb bb g ⟨a, t, y, x, dn, gt⟩ ex xs w (w'.setCell ⟨mb, 17, none⟩ (.int .i64 y)) from
    ⟨(h.kept k').free 17, by rw [(h.kept k').cell]; rfl, (h.kept k').put 17 _ rfl, (hb.kept k').upd (updCell _ mb 17 _) (fun e => hne.2 e.symm) (fun e => hne.1 e.symm), (k'.wide (fun _ _ f => f.elim)).setCell (p := ⟨mb, 17, none⟩) (.inl (.inr rfl)) _⟩)
  have hc : w.cell? ⟨mb, 17, none⟩ = some (.int .i64 b) := by rw [h.cell]; rfl
  clear h hb hne hG hy
  go_enter Try.func99, Try.ntmps99
  go_wp2_with fail
  refine HT.out.mono ?_
  rintro e w1 ⟨rfl, hk⟩
  go_wp2_with fail
  refine (HL _ hk).out.mono ?_
  rintro e w2 ⟨rfl, rfl⟩
  have hf := (HF _ hk).out.1
  have hc1 : w1.cell? ⟨mb, 17, none⟩ = some (.int .i64 b) := by rw [← hc]; exact cell_kept hk hc
  have H9 := Lib.hid (HF _ hk).out.2.2
  clear HF HL HT hk hc
  go_wp2_with fail
  go_end0
  exact ⟨rfl, H9.out⟩
theorem dend {w : World} {mb : Nat} {T : TypeId} {l : Lay} {k : Int} {ex : List Value} {a t b x : Int} {dn gt : Bool} (z : Bool) (h : PB w mb T l k ⟨a, t, b, x, dn, gt⟩ ex) :
    Calls Try.prog 100 #[.pointer (some ⟨mb, 0, none⟩), .bool z] w fun e w' => e = .returned (.tuple #[]) ∧ PB w' mb T l k ⟨a, t, b, x, true, z⟩ ex ∧ Upd (fun i => i = mb) w w' := by
  have h1 := h.put 19 (.bool true) (m' := ⟨a, t, b, x, true, gt⟩) (ex' := ex) rfl
  have h2 := h1.put 20 (.bool z) (m' := ⟨a, t, b, x, true, z⟩) (ex' := ex) rfl
  have f19 := h.free 19
  have f20 := h1.free 20
  obtain ⟨-, -, -, -, c19, c20⟩ := h.own
  obtain ⟨-, -, -, -, d19, d20⟩ := h1.own
  have HF := Lib.hid (And.intro h2 (((Upd.refl (fun i => i = mb) w).setCell (p := ⟨mb, 19, none⟩) (.inl rfl) (.bool true)).setCell (p := ⟨mb, 20, none⟩) (.inl rfl) (.bool z)))
  clear h h1 h2
  go_enter Try.func100, Try.ntmps100
  go_wp2_with fail
  go_end0
  exact ⟨rfl, HF.out⟩
theorem dnext {w : World} {mb : Nat} {T : TypeId} {l : Lay} {k : Int} {ex : List Value} {a t b x : Int} {gt : Bool} (ha : 0 ≤ a ∧ a ≤ 1000) (h : PB w mb T l k ⟨a, t, b, x, false, gt⟩ ex) :
    Calls Try.prog 70 #[.pointer (some ⟨mb, 0, none⟩)] w fun e w' => e = .returned (.int .i64 a) ∧ PB w' mb T l k ⟨a + 1, t, b, x, false, gt⟩ ex ∧ Upd (fun i => i = mb) w w' := by
  have h1 := h.put 15 (.int .i64 (a + 1)) (m' := ⟨a + 1, t, b, x, false, gt⟩) (ex' := ex) rfl
  have f15 := h.free 15
  obtain ⟨c15, -, -, -, c19, -⟩ := h.own
  obtain ⟨d15, -, -, -, d19, -⟩ := h1.own
  simp only at c15 c19 d15 d19
  have HF := Lib.hid (And.intro h1 ((Upd.refl (fun i => i = mb) w).setCell (p := ⟨mb, 15, none⟩) (.inl rfl) (.int .i64 (a + 1))))
  have e1 : wrap64 (a + 1) = a + 1 := by unfold wrap64; omega
  have e2 : wrap64 (a + 1 - 1) = a := by unfold wrap64; omega
  have e3 : a + 1 - 1 = a := by omega
  have e4 : wrap64 a = a := by unfold wrap64; omega
  clear h h1
  go_enter Try.func70, Try.ntmps70
  go_wp2_with fail
  go_ret
  exact ⟨rfl, HF.out⟩
theorem dnext_done {w : World} {mb : Nat} {T : TypeId} {l : Lay} {k : Int} {ex : List Value} {a t b x : Int} {gt : Bool} (h : PB w mb T l k ⟨a, t, b, x, true, gt⟩ ex) :
    Calls Try.prog 70 #[.pointer (some ⟨mb, 0, none⟩)] w fun e w' => e = .returned (.int .i64 (-1)) ∧ w = w' := by
  obtain ⟨c15, -, -, -, c19, -⟩ := h.own
  simp only at c15 c19
  clear h
  go_enter Try.func70, Try.ntmps70
  go_wp2_with fail
  go_ret
  exact ⟨rfl, rfl⟩
/-- What a machine tells of what it took. -/
def took (m : DM) : Int × Bool := if m.done && m.got then (m.x, true) else (0, false)
theorem dtaken {w : World} {mb : Nat} {T : TypeId} {l : Lay} {k : Int} {ex : List Value} {a t b x : Int} {dn gt : Bool} (h : PB w mb T l k ⟨a, t, b, x, dn, gt⟩ ex) :
    Calls Try.prog 49 #[.pointer (some ⟨mb, 0, none⟩)] w fun e w' => e = .returned (.tuple #[.int .i64 (took ⟨a, t, b, x, dn, gt⟩).1, .bool (took ⟨a, t, b, x, dn, gt⟩).2]) ∧ w = w' := by
  obtain ⟨-, -, -, c18, c19, c20⟩ := h.own
  simp only at c18 c19 c20
  clear h
  unfold took
  cases dn <;> cases gt
  all_goals
    go_enter Try.func49, Try.ntmps49
    go_wp2_with fail
    go_ret2
    exact ⟨rfl, rfl⟩
end Go.Proofs.Ytdgkemadhooogaa
