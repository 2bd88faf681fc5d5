/- What the machines of package count do (layer 13), upon the plan of the statements. -/
import Derived.Test.YtccjgbmbggbmgaaBankAdd
import Derived.Test.YtccjgbmbggbmgaaBankNew
import Derived.Test.YtccjgbmbggbmgaaPlan
import Derived.Laws.EntriesVeiled
import Derived.Deep.CutRange
namespace Go.Proofs.Ytccjgbmbggbmgaa
set_option linter.unusedVariables false
open Go.RowKit

theorem Blk.newAt (w : World) (arr : Array Value) (T : TypeId) (k : Nat) (h : k = w.heap.size) : Blk (w.alloc (.cells arr T)) k arr T := by subst h; exact Blk.new w arr T
theorem run_equalIn_func_nil {P : Program} (w : World) (d : Nat) {t : TypeId} {p r : Array TypeId} {v : Bool} (ht : P.underlying t = some (.func p r v)) (f : Fn) (first caps : Array Value) : (Op.equalIn (d + 1) t (.func f first caps) .nilFunc).run P w = .ok false w := by
  simp [Op.equalIn, run_underlying ht]
theorem run_neq_func_nil {P : Program} {t : TypeId} {p r : Array TypeId} {v : Bool} (ht : P.underlying t = some (.func p r v)) (f : Fn) (first caps : Array Value) (w : World) : (binOp .neq t (.func f first caps) .nilFunc).run P w = .ok (.bool true) w := by
  simp only [binOp]
  simp [Op.equal, Op.maxDepth, run_equalIn_func_nil w 9999 ht f first caps]
/-- The plan's box. -/
abbrev lv : Array Value := #[.int .i64 2, .int .i64 1, .int .i64 1, .int .i64 2, .int .i64 0, .int .i64 1, .int .i64 3, .int .i64 5, .int .i64 7, .int .i64 8, .int .i64 9, .int .i64 10, .int .i64 11, .int .i64 15]
def LBox (w : World) (lb : Nat) : Prop := Blk w lb #[.int .i64 2, .int .i64 1, .int .i64 1, .int .i64 2, .int .i64 0, .int .i64 1, .int .i64 3, .int .i64 5, .int .i64 7, .int .i64 8, .int .i64 9, .int .i64 10, .int .i64 11, .int .i64 15] 24
/-- What a machine's access leaves, and tells. -/
def Acc (bb g : Nat) (ys : List Int) (z : Bool) (w : World) (e : Ending) (w' : World) : Prop := e = .returned (.bool z) ∧ Bnk w' bb g ys ∧ Upd (fun k => k = g) w w'

set_option maxRecDepth 100000 in
theorem addIt {w : World} {bb g lb nb : Nat} {xs : List Int} (hb : Bnk w bb g xs) (hx : xs.length = 15) (hl : LBox w lb) (n : Int) (hn : Blk w nb #[.int .i64 n] 2) (r : Int) (hr : wrap64 (bget xs 7 + n) = r) :
    Calls Try.prog 44 #[.pointer (some ⟨bb, 0, none⟩), .pointer (some ⟨lb, 0, none⟩), .pointer (some ⟨nb, 0, none⟩)] w (Acc bb g (bput xs 7 r) (r == 0) w) := by
  have c8 : w.cell? ⟨lb, 8, none⟩ = some (.int .i64 7) := by rw [hl.cell]; rfl
  have cn : w.cell? ⟨nb, 0, none⟩ = some (.int .i64 n) := by rw [hn.cell]; rfl
  have HA := Lib.hid (Add_is hb 7 n r (bput xs 7 r) (by rw [if_pos ⟨by omega, by omega⟩, hr]) (by rw [hr]))
  clear hb hl hn hr
  go_enter Try.func44, Try.ntmps44
  go_wp2_with fail
  refine HA.out.mono ?_
  rintro e w1 ⟨rfl, hB, hU⟩
  have HF : Hid (Acc bb g (bput xs 7 r) (r == 0) w (.returned (.bool (r == 0))) w1) := Lib.hid ⟨rfl, hB, hU⟩
  clear hB hU HA
  go_wp2
  go_ret
  exact HF.out
theorem zeroIt {w : World} {bb g lb : Nat} {xs : List Int} (hb : Bnk w bb g xs) (hl : LBox w lb) :
    Calls Try.prog 47 #[.pointer (some ⟨bb, 0, none⟩), .pointer (some ⟨lb, 0, none⟩)] w (Acc bb g xs (bget xs 7 == 0) w) := by
  have c8 : w.cell? ⟨lb, 8, none⟩ = some (.int .i64 7) := by rw [hl.cell]; rfl
  have HA := Lib.hid (Load_bank hb 7)
  have HF : Hid (Acc bb g xs (bget xs 7 == 0) w (.returned (.bool (bget xs 7 == 0))) w) := Lib.hid ⟨rfl, hb, Upd.refl _ _⟩
  clear hb hl
  go_enter Try.func47, Try.ntmps47
  go_wp2_with fail
  refine HA.out.mono ?_
  rintro e w1 ⟨rfl, rfl⟩
  go_wp2
  go_ret
  exact HF.out
theorem askedIt {w : World} {bb g lb : Nat} {xs : List Int} (hb : Bnk w bb g xs) (hl : LBox w lb) :
    Calls Try.prog 48 #[.pointer (some ⟨bb, 0, none⟩), .pointer (some ⟨lb, 0, none⟩)] w (Acc bb g xs (bget xs 8 != 0) w) := by
  have c8 : w.cell? ⟨lb, 9, none⟩ = some (.int .i64 8) := by rw [hl.cell]; rfl
  have HA := Lib.hid (Load_bank hb 8)
  have HF : Hid (Acc bb g xs (bget xs 8 != 0) w (.returned (.bool (bget xs 8 != 0))) w) := Lib.hid ⟨rfl, hb, Upd.refl _ _⟩
  clear hb hl
  go_enter Try.func48, Try.ntmps48
  go_wp2_with fail
  refine HA.out.mono ?_
  rintro e w1 ⟨rfl, rfl⟩
  go_wp2
  go_ret
  exact HF.out
theorem askIt {w : World} {bb g lb : Nat} {xs : List Int} (hb : Bnk w bb g xs) (hl : LBox w lb) :
    Calls Try.prog 37 #[.pointer (some ⟨bb, 0, none⟩), .pointer (some ⟨lb, 0, none⟩)] w (Acc bb g (bput xs 8 1) false w) := by
  have c8 : w.cell? ⟨lb, 9, none⟩ = some (.int .i64 8) := by rw [hl.cell]; rfl
  have HA := Lib.hid (Store_bank hb 8 1)
  clear hb hl
  go_enter Try.func37, Try.ntmps37
  go_wp2_with fail
  refine HA.out.mono ?_
  rintro e w1 ⟨rfl, hB, hU⟩
  have HF : Hid (Acc bb g (bput xs 8 1) false w (.returned (.bool false)) w1) := Lib.hid ⟨rfl, hB, hU⟩
  clear hB hU HA
  go_wp2
  go_ret
  exact HF.out

/-- What a step leaves: the machine's block mb is done, and has what it tells. -/
structure Stepped (mb bb g : Nat) (fv : Value) (T : TypeId) (ys : List Int) (z : Bool) (w w' : World) : Prop where
  mach : Blk w' mb #[fv, .bool true, .bool z] T
  bank : Bnk w' bb g ys
  upd : Upd (fun k => k = g ∨ k = mb) w w'
/-- What a maker hands back: the machine's cells; what its closure has captured lies in new blocks. -/
def MadeOne (K : Nat) (w : World) (e : Ending) (w' : World) : Prop := ∃ lb, e = .returned (.agg #[.func (.func K) #[] #[.pointer (some ⟨lb, 0, none⟩)], .bool false, .bool false]) ∧ LBox w' lb ∧ w.heap.size ≤ lb ∧ Kept w w'
def MadeAdd (n : Int) (w : World) (e : Ending) (w' : World) : Prop := ∃ lb nb, e = .returned (.agg #[.func (.func 44) #[] #[.pointer (some ⟨lb, 0, none⟩), .pointer (some ⟨nb, 0, none⟩)], .bool false, .bool false]) ∧ LBox w' lb ∧ Blk w' nb #[.int .i64 n] 2 ∧ w.heap.size ≤ lb ∧ w.heap.size ≤ nb ∧ Kept w w'

set_option maxRecDepth 100000 in
theorem step_add {w : World} {mb bb g lb nb : Nat} {T : TypeId} {i0 z : Bool} {ys : List Int} (hm : Blk w mb #[.func (.func 44) #[] #[.pointer (some ⟨lb, 0, none⟩), .pointer (some ⟨nb, 0, none⟩)], .bool false, .bool i0] T) (hne : ¬ mb = g ∧ ¬ mb = bb)
    (hc : Calls Try.prog 44 #[.pointer (some ⟨bb, 0, none⟩), .pointer (some ⟨lb, 0, none⟩), .pointer (some ⟨nb, 0, none⟩)] w (Acc bb g ys z w)) :
    Calls Try.prog 28 #[.pointer (some ⟨mb, 0, none⟩), .pointer (some ⟨bb, 0, none⟩)] w fun e w' => e = .returned (.bool true) ∧ Stepped mb bb g (.func (.func 44) #[] #[.pointer (some ⟨lb, 0, none⟩), .pointer (some ⟨nb, 0, none⟩)]) T ys z w w' := by
  have c0 : w.cell? ⟨mb, 0, none⟩ = some (.func (.func 44) #[] #[.pointer (some ⟨lb, 0, none⟩), .pointer (some ⟨nb, 0, none⟩)]) := by rw [hm.cell]; rfl
  have c1 : w.cell? ⟨mb, 1, none⟩ = some (.bool false) := by rw [hm.cell]; rfl
  have HC := Lib.hid hc
  have HM := Lib.hid hm
  have HN := Lib.hid hne
  have hnn := run_neq_func_nil (P := Try.prog) Try.underlying28 (.func 44) #[] #[.pointer (some ⟨lb, 0, none⟩), .pointer (some ⟨nb, 0, none⟩)]
  clear hc hm hne
  go_enter Try.func28, Try.ntmps28
  go_wp2_with fail
  refine HC.out.mono ?_
  rintro e w1 ⟨rfl, hB, hU⟩
  have hm1 := HM.out.upd hU (fun e => HN.out.1 e)
  have d1 : w1.cell? ⟨mb, 1, none⟩ = some (.bool false) := by rw [hm1.cell]; rfl
  have d2 : w1.cell? ⟨mb, 2, none⟩ = some (.bool i0) := by rw [hm1.cell]; rfl
  have f1 := hm1.free 1
  have f2 := hm1.free 2
  have HF : Hid (Stepped mb bb g (.func (.func 44) #[] #[.pointer (some ⟨lb, 0, none⟩), .pointer (some ⟨nb, 0, none⟩)]) T ys z w ((w1.setCell ⟨mb, 1, none⟩ (.bool true)).setCell ⟨mb, 2, none⟩ (.bool z))) := by
    refine Lib.hid ⟨?_, ?_, ?_⟩
    · have := (hm1.set 1 (.bool true)).set 2 (.bool z)
      simpa using this
    · exact ((hB.upd (S := fun k => k = mb) (updCell w1 mb 1 (.bool true)) (fun e => HN.out.2 e.symm) (fun e => HN.out.1 e.symm))).upd (S := fun k => k = mb) (updCell _ mb 2 (.bool z)) (fun e => HN.out.2 e.symm) (fun e => HN.out.1 e.symm)
    · exact ((hU.wide (fun k _ e => .inl e)).setCell (p := ⟨mb, 1, none⟩) (.inl (.inr rfl)) _).setCell (p := ⟨mb, 2, none⟩) (.inl (.inr rfl)) _
  clear hB hU hm1 HC HM c0 c1
  go_wp2
  go_ret
  exact ⟨rfl, HF.out⟩

set_option maxRecDepth 100000 in
theorem step_zero {w : World} {mb bb g lb : Nat} {T : TypeId} {i0 z : Bool} {ys : List Int} (hm : Blk w mb #[.func (.func 47) #[] #[.pointer (some ⟨lb, 0, none⟩)], .bool false, .bool i0] T) (hne : ¬ mb = g ∧ ¬ mb = bb)
    (hc : Calls Try.prog 47 #[.pointer (some ⟨bb, 0, none⟩), .pointer (some ⟨lb, 0, none⟩)] w (Acc bb g ys z w)) :
    Calls Try.prog 28 #[.pointer (some ⟨mb, 0, none⟩), .pointer (some ⟨bb, 0, none⟩)] w fun e w' => e = .returned (.bool true) ∧ Stepped mb bb g (.func (.func 47) #[] #[.pointer (some ⟨lb, 0, none⟩)]) T ys z w w' := by
  have c0 : w.cell? ⟨mb, 0, none⟩ = some (.func (.func 47) #[] #[.pointer (some ⟨lb, 0, none⟩)]) := by rw [hm.cell]; rfl
  have c1 : w.cell? ⟨mb, 1, none⟩ = some (.bool false) := by rw [hm.cell]; rfl
  have HC := Lib.hid hc
  have HM := Lib.hid hm
  have HN := Lib.hid hne
  have hnn := run_neq_func_nil (P := Try.prog) Try.underlying28 (.func 47) #[] #[.pointer (some ⟨lb, 0, none⟩)]
  clear hc hm hne
  go_enter Try.func28, Try.ntmps28
  go_wp2_with fail
  refine HC.out.mono ?_
  rintro e w1 ⟨rfl, hB, hU⟩
  have hm1 := HM.out.upd hU (fun e => HN.out.1 e)
  have d1 : w1.cell? ⟨mb, 1, none⟩ = some (.bool false) := by rw [hm1.cell]; rfl
  have d2 : w1.cell? ⟨mb, 2, none⟩ = some (.bool i0) := by rw [hm1.cell]; rfl
  have f1 := hm1.free 1
  have f2 := hm1.free 2
  have HF : Hid (Stepped mb bb g (.func (.func 47) #[] #[.pointer (some ⟨lb, 0, none⟩)]) T ys z w ((w1.setCell ⟨mb, 1, none⟩ (.bool true)).setCell ⟨mb, 2, none⟩ (.bool z))) := by
    refine Lib.hid ⟨?_, ?_, ?_⟩
    · have := (hm1.set 1 (.bool true)).set 2 (.bool z)
      simpa using this
    · exact ((hB.upd (S := fun k => k = mb) (updCell w1 mb 1 (.bool true)) (fun e => HN.out.2 e.symm) (fun e => HN.out.1 e.symm))).upd (S := fun k => k = mb) (updCell _ mb 2 (.bool z)) (fun e => HN.out.2 e.symm) (fun e => HN.out.1 e.symm)
    · exact ((hU.wide (fun k _ e => .inl e)).setCell (p := ⟨mb, 1, none⟩) (.inl (.inr rfl)) _).setCell (p := ⟨mb, 2, none⟩) (.inl (.inr rfl)) _
  clear hB hU hm1 HC HM c0 c1
  go_wp2
  go_ret
  exact ⟨rfl, HF.out⟩

set_option maxRecDepth 100000 in
theorem step_asked {w : World} {mb bb g lb : Nat} {T : TypeId} {i0 z : Bool} {ys : List Int} (hm : Blk w mb #[.func (.func 48) #[] #[.pointer (some ⟨lb, 0, none⟩)], .bool false, .bool i0] T) (hne : ¬ mb = g ∧ ¬ mb = bb)
    (hc : Calls Try.prog 48 #[.pointer (some ⟨bb, 0, none⟩), .pointer (some ⟨lb, 0, none⟩)] w (Acc bb g ys z w)) :
    Calls Try.prog 28 #[.pointer (some ⟨mb, 0, none⟩), .pointer (some ⟨bb, 0, none⟩)] w fun e w' => e = .returned (.bool true) ∧ Stepped mb bb g (.func (.func 48) #[] #[.pointer (some ⟨lb, 0, none⟩)]) T ys z w w' := by
  have c0 : w.cell? ⟨mb, 0, none⟩ = some (.func (.func 48) #[] #[.pointer (some ⟨lb, 0, none⟩)]) := by rw [hm.cell]; rfl
  have c1 : w.cell? ⟨mb, 1, none⟩ = some (.bool false) := by rw [hm.cell]; rfl
  have HC := Lib.hid hc
  have HM := Lib.hid hm
  have HN := Lib.hid hne
  have hnn := run_neq_func_nil (P := Try.prog) Try.underlying28 (.func 48) #[] #[.pointer (some ⟨lb, 0, none⟩)]
  clear hc hm hne
  go_enter Try.func28, Try.ntmps28
  go_wp2_with fail
  refine HC.out.mono ?_
  rintro e w1 ⟨rfl, hB, hU⟩
  have hm1 := HM.out.upd hU (fun e => HN.out.1 e)
  have d1 : w1.cell? ⟨mb, 1, none⟩ = some (.bool false) := by rw [hm1.cell]; rfl
  have d2 : w1.cell? ⟨mb, 2, none⟩ = some (.bool i0) := by rw [hm1.cell]; rfl
  have f1 := hm1.free 1
  have f2 := hm1.free 2
  have HF : Hid (Stepped mb bb g (.func (.func 48) #[] #[.pointer (some ⟨lb, 0, none⟩)]) T ys z w ((w1.setCell ⟨mb, 1, none⟩ (.bool true)).setCell ⟨mb, 2, none⟩ (.bool z))) := by
    refine Lib.hid ⟨?_, ?_, ?_⟩
    · have := (hm1.set 1 (.bool true)).set 2 (.bool z)
      simpa using this
    · exact ((hB.upd (S := fun k => k = mb) (updCell w1 mb 1 (.bool true)) (fun e => HN.out.2 e.symm) (fun e => HN.out.1 e.symm))).upd (S := fun k => k = mb) (updCell _ mb 2 (.bool z)) (fun e => HN.out.2 e.symm) (fun e => HN.out.1 e.symm)
    · exact ((hU.wide (fun k _ e => .inl e)).setCell (p := ⟨mb, 1, none⟩) (.inl (.inr rfl)) _).setCell (p := ⟨mb, 2, none⟩) (.inl (.inr rfl)) _
  clear hB hU hm1 HC HM c0 c1
  go_wp2
  go_ret
  exact ⟨rfl, HF.out⟩

set_option maxRecDepth 100000 in
theorem step_ask {w : World} {mb bb g lb : Nat} {T : TypeId} {i0 z : Bool} {ys : List Int} (hm : Blk w mb #[.func (.func 37) #[] #[.pointer (some ⟨lb, 0, none⟩)], .bool false, .bool i0] T) (hne : ¬ mb = g ∧ ¬ mb = bb)
    (hc : Calls Try.prog 37 #[.pointer (some ⟨bb, 0, none⟩), .pointer (some ⟨lb, 0, none⟩)] w (Acc bb g ys z w)) :
    Calls Try.prog 28 #[.pointer (some ⟨mb, 0, none⟩), .pointer (some ⟨bb, 0, none⟩)] w fun e w' => e = .returned (.bool true) ∧ Stepped mb bb g (.func (.func 37) #[] #[.pointer (some ⟨lb, 0, none⟩)]) T ys z w w' := by
  have c0 : w.cell? ⟨mb, 0, none⟩ = some (.func (.func 37) #[] #[.pointer (some ⟨lb, 0, none⟩)]) := by rw [hm.cell]; rfl
  have c1 : w.cell? ⟨mb, 1, none⟩ = some (.bool false) := by rw [hm.cell]; rfl
  have HC := Lib.hid hc
  have HM := Lib.hid hm
  have HN := Lib.hid hne
  have hnn := run_neq_func_nil (P := Try.prog) Try.underlying28 (.func 37) #[] #[.pointer (some ⟨lb, 0, none⟩)]
  clear hc hm hne
  go_enter Try.func28, Try.ntmps28
  go_wp2_with fail
  refine HC.out.mono ?_
  rintro e w1 ⟨rfl, hB, hU⟩
  have hm1 := HM.out.upd hU (fun e => HN.out.1 e)
  have d1 : w1.cell? ⟨mb, 1, none⟩ = some (.bool false) := by rw [hm1.cell]; rfl
  have d2 : w1.cell? ⟨mb, 2, none⟩ = some (.bool i0) := by rw [hm1.cell]; rfl
  have f1 := hm1.free 1
  have f2 := hm1.free 2
  have HF : Hid (Stepped mb bb g (.func (.func 37) #[] #[.pointer (some ⟨lb, 0, none⟩)]) T ys z w ((w1.setCell ⟨mb, 1, none⟩ (.bool true)).setCell ⟨mb, 2, none⟩ (.bool z))) := by
    refine Lib.hid ⟨?_, ?_, ?_⟩
    · have := (hm1.set 1 (.bool true)).set 2 (.bool z)
      simpa using this
    · exact ((hB.upd (S := fun k => k = mb) (updCell w1 mb 1 (.bool true)) (fun e => HN.out.2 e.symm) (fun e => HN.out.1 e.symm))).upd (S := fun k => k = mb) (updCell _ mb 2 (.bool z)) (fun e => HN.out.2 e.symm) (fun e => HN.out.1 e.symm)
    · exact ((hU.wide (fun k _ e => .inl e)).setCell (p := ⟨mb, 1, none⟩) (.inl (.inr rfl)) _).setCell (p := ⟨mb, 2, none⟩) (.inl (.inr rfl)) _
  clear hB hU hm1 HC HM c0 c1
  go_wp2
  go_ret
  exact ⟨rfl, HF.out⟩

theorem step_done {w : World} {mb : Nat} {p : Value} (c1 : w.cell? ⟨mb, 1, none⟩ = some (.bool true)) :
    Calls Try.prog 28 #[.pointer (some ⟨mb, 0, none⟩), p] w fun e w' => e = .returned (.bool true) ∧ w = w' := by
  go_enter Try.func28, Try.ntmps28
  go_wp2
  go_ret
  exact ⟨rfl, rfl⟩

theorem Up_step {w : World} {mb : Nat} {p : Option Addr} {R : World → Prop} (h : Calls Try.prog 28 #[.pointer (some ⟨mb, 0, none⟩), .pointer p] w fun e w' => e = .returned (.bool true) ∧ R w') :
    Calls Try.prog 9 #[.pointer (some ⟨mb, 0, none⟩), .pointer p] w fun e w' => e = .returned (.bool true) ∧ R w' := by
  have HS := Lib.hid h
  clear h
  go_enter Try.func9, Try.ntmps9
  go_wp2_with fail
  refine HS.out.mono ?_
  rintro e w1 ⟨rfl, hr⟩
  have HX := Lib.hid hr
  clear hr HS
  go_wp2
  go_ret
  exact ⟨rfl, HX.out⟩

theorem Down_step {w : World} {mb : Nat} {p : Option Addr} {R : World → Prop} (h : Calls Try.prog 28 #[.pointer (some ⟨mb, 0, none⟩), .pointer p] w fun e w' => e = .returned (.bool true) ∧ R w') :
    Calls Try.prog 20 #[.pointer (some ⟨mb, 0, none⟩), .pointer p] w fun e w' => e = .returned (.bool true) ∧ R w' := by
  have HS := Lib.hid h
  clear h
  go_enter Try.func20, Try.ntmps20
  go_wp2_with fail
  refine HS.out.mono ?_
  rintro e w1 ⟨rfl, hr⟩
  have HX := Lib.hid hr
  clear hr HS
  go_wp2
  go_ret
  exact ⟨rfl, HX.out⟩

theorem Zero_step {w : World} {mb : Nat} {p : Option Addr} {R : World → Prop} (h : Calls Try.prog 28 #[.pointer (some ⟨mb, 0, none⟩), .pointer p] w fun e w' => e = .returned (.bool true) ∧ R w') :
    Calls Try.prog 32 #[.pointer (some ⟨mb, 0, none⟩), .pointer p] w fun e w' => e = .returned (.bool true) ∧ R w' := by
  have HS := Lib.hid h
  clear h
  go_enter Try.func32, Try.ntmps32
  go_wp2_with fail
  refine HS.out.mono ?_
  rintro e w1 ⟨rfl, hr⟩
  have HX := Lib.hid hr
  clear hr HS
  go_wp2
  go_ret
  exact ⟨rfl, HX.out⟩

theorem Ask_step {w : World} {mb : Nat} {p : Option Addr} {R : World → Prop} (h : Calls Try.prog 28 #[.pointer (some ⟨mb, 0, none⟩), .pointer p] w fun e w' => e = .returned (.bool true) ∧ R w') :
    Calls Try.prog 18 #[.pointer (some ⟨mb, 0, none⟩), .pointer p] w fun e w' => e = .returned (.bool true) ∧ R w' := by
  have HS := Lib.hid h
  clear h
  go_enter Try.func18, Try.ntmps18
  go_wp2_with fail
  refine HS.out.mono ?_
  rintro e w1 ⟨rfl, hr⟩
  have HX := Lib.hid hr
  clear hr HS
  go_wp2
  go_ret
  exact ⟨rfl, HX.out⟩

theorem Asked_step {w : World} {mb : Nat} {p : Option Addr} {R : World → Prop} (h : Calls Try.prog 28 #[.pointer (some ⟨mb, 0, none⟩), .pointer p] w fun e w' => e = .returned (.bool true) ∧ R w') :
    Calls Try.prog 36 #[.pointer (some ⟨mb, 0, none⟩), .pointer p] w fun e w' => e = .returned (.bool true) ∧ R w' := by
  have HS := Lib.hid h
  clear h
  go_enter Try.func36, Try.ntmps36
  go_wp2_with fail
  refine HS.out.mono ?_
  rintro e w1 ⟨rfl, hr⟩
  have HX := Lib.hid hr
  clear hr HS
  go_wp2
  go_ret
  exact ⟨rfl, HX.out⟩

theorem Down_Last {w : World} {mb : Nat} {z : Bool} (c2 : w.cell? ⟨mb, 2, none⟩ = some (.bool z)) :
    Calls Try.prog 21 #[.pointer (some ⟨mb, 0, none⟩)] w fun e w' => e = .returned (.bool z) ∧ w = w' := by
  go_enter Try.func21, Try.ntmps21
  go_wp2
  go_ret
  exact ⟨rfl, rfl⟩

theorem Zero_Is {w : World} {mb : Nat} {z : Bool} (c2 : w.cell? ⟨mb, 2, none⟩ = some (.bool z)) :
    Calls Try.prog 33 #[.pointer (some ⟨mb, 0, none⟩)] w fun e w' => e = .returned (.bool z) ∧ w = w' := by
  go_enter Try.func33, Try.ntmps33
  go_wp2
  go_ret
  exact ⟨rfl, rfl⟩

theorem Asked_Is {w : World} {mb : Nat} {z : Bool} (c2 : w.cell? ⟨mb, 2, none⟩ = some (.bool z)) :
    Calls Try.prog 35 #[.pointer (some ⟨mb, 0, none⟩)] w fun e w' => e = .returned (.bool z) ∧ w = w' := by
  go_enter Try.func35, Try.ntmps35
  go_wp2
  go_ret
  exact ⟨rfl, rfl⟩

theorem NewZero_any (w : World) :
    Calls Try.prog 31 #[.agg #[.int .i64 2, .int .i64 1, .int .i64 1, .int .i64 2, .int .i64 0, .int .i64 1, .int .i64 3, .int .i64 5, .int .i64 7, .int .i64 8, .int .i64 9, .int .i64 10, .int .i64 11, .int .i64 15]] w (MadeOne 47 w) := by
  go_enter Try.func31, Try.ntmps31
  go_wp2
  refine bodyPost_ret (v := .agg #[.func (.func 47) #[] #[.pointer (some ⟨w.heap.size, 0, none⟩)], .bool false, .bool false]) (by simp [results, Try.results31, go_sem]) rfl ⟨_, rfl, ?_, Nat.le_refl _, ?_⟩
  · exact (Blk.new _ _ _).alloc _
  · exact ((Upd.refl _ _).alloc _).alloc _

theorem NewAsked_any (w : World) :
    Calls Try.prog 34 #[.agg #[.int .i64 2, .int .i64 1, .int .i64 1, .int .i64 2, .int .i64 0, .int .i64 1, .int .i64 3, .int .i64 5, .int .i64 7, .int .i64 8, .int .i64 9, .int .i64 10, .int .i64 11, .int .i64 15]] w (MadeOne 48 w) := by
  go_enter Try.func34, Try.ntmps34
  go_wp2
  refine bodyPost_ret (v := .agg #[.func (.func 48) #[] #[.pointer (some ⟨w.heap.size, 0, none⟩)], .bool false, .bool false]) (by simp [results, Try.results34, go_sem]) rfl ⟨_, rfl, ?_, Nat.le_refl _, ?_⟩
  · exact (Blk.new _ _ _).alloc _
  · exact ((Upd.refl _ _).alloc _).alloc _

theorem NewAsk_any (w : World) :
    Calls Try.prog 17 #[.agg #[.int .i64 2, .int .i64 1, .int .i64 1, .int .i64 2, .int .i64 0, .int .i64 1, .int .i64 3, .int .i64 5, .int .i64 7, .int .i64 8, .int .i64 9, .int .i64 10, .int .i64 11, .int .i64 15]] w (MadeOne 37 w) := by
  go_enter Try.func17, Try.ntmps17
  go_wp2
  refine bodyPost_ret (v := .agg #[.func (.func 37) #[] #[.pointer (some ⟨w.heap.size, 0, none⟩)], .bool false, .bool false]) (by simp [results, Try.results17, go_sem]) rfl ⟨_, rfl, ?_, Nat.le_refl _, ?_⟩
  · exact (Blk.new _ _ _).alloc _
  · exact ((Upd.refl _ _).alloc _).alloc _

theorem add_any (n : Int) (w : World) :
    Calls Try.prog 27 #[.agg #[.int .i64 2, .int .i64 1, .int .i64 1, .int .i64 2, .int .i64 0, .int .i64 1, .int .i64 3, .int .i64 5, .int .i64 7, .int .i64 8, .int .i64 9, .int .i64 10, .int .i64 11, .int .i64 15], .int .i64 n] w (MadeAdd n w) := by
  go_enter Try.func27, Try.ntmps27
  go_wp2
  refine bodyPost_ret (v := .agg #[.func (.func 44) #[] #[.pointer (some ⟨w.heap.size, 0, none⟩), .pointer (some ⟨w.heap.size + 1, 0, none⟩)], .bool false, .bool false]) (by simp [results, Try.results27, go_sem]) rfl ⟨_, _, rfl, ?_, ?_, Nat.le_refl _, by omega, ?_⟩
  · exact ((Blk.new _ _ _).alloc _).alloc _
  · exact (Blk.newAt _ _ _ _ (by simp)).alloc _
  · exact (((Upd.refl _ _).alloc _).alloc _).alloc _

theorem NewUp_any (n : Int) (w : World) :
    Calls Try.prog 8 #[.agg #[.int .i64 2, .int .i64 1, .int .i64 1, .int .i64 2, .int .i64 0, .int .i64 1, .int .i64 3, .int .i64 5, .int .i64 7, .int .i64 8, .int .i64 9, .int .i64 10, .int .i64 11, .int .i64 15], .int .i64 n] w (MadeAdd n w) := by
  go_enter Try.func8, Try.ntmps8
  go_wp2_with fail
  refine (add_any n _).mono ?_
  rintro e w1 ⟨lb, nb, rfl, hl, hn, h1, h2, hk⟩
  have ho : Blk w1 (w.heap.size + 1) #[.nilFunc, .bool false, .bool false] 32 := (Blk.newAt _ _ _ _ (by simp)).kept hk
  have hk1 : Kept w w1 := (((Upd.refl _ _).alloc _).alloc _).trans hk
  simp only [World.size_alloc] at h1 h2
  have o0 : w1.cell? ⟨w.heap.size + 1, 0, none⟩ = some .nilFunc := by rw [ho.cell]; rfl
  have o1 : w1.cell? ⟨w.heap.size + 1, 1, none⟩ = some (.bool false) := by rw [ho.cell]; rfl
  have o2 : w1.cell? ⟨w.heap.size + 1, 2, none⟩ = some (.bool false) := by rw [ho.cell]; rfl
  have f0 := ho.free 0
  have f1 := ho.free 1
  have f2 := ho.free 2
  have hU : Upd (fun k => k = w.heap.size + 1) w1 (((w1.setCell ⟨w.heap.size + 1, 0, none⟩ (.func (.func 44) #[] #[.pointer (some ⟨lb, 0, none⟩), .pointer (some ⟨nb, 0, none⟩)])).setCell ⟨w.heap.size + 1, 1, none⟩ (.bool false)).setCell ⟨w.heap.size + 1, 2, none⟩ (.bool false)) :=
    ((updCell w1 _ 0 _).trans (updCell _ _ 1 _)).trans (updCell _ _ 2 _)
  have hO : Blk (((w1.setCell ⟨w.heap.size + 1, 0, none⟩ (.func (.func 44) #[] #[.pointer (some ⟨lb, 0, none⟩), .pointer (some ⟨nb, 0, none⟩)])).setCell ⟨w.heap.size + 1, 1, none⟩ (.bool false)).setCell ⟨w.heap.size + 1, 2, none⟩ (.bool false)) (w.heap.size + 1) #[.func (.func 44) #[] #[.pointer (some ⟨lb, 0, none⟩), .pointer (some ⟨nb, 0, none⟩)], .bool false, .bool false] 32 := by
    have := ((ho.set 0 (.func (.func 44) #[] #[.pointer (some ⟨lb, 0, none⟩), .pointer (some ⟨nb, 0, none⟩)])).set 1 (.bool false)).set 2 (.bool false)
    simpa using this
  have HL := Lib.hid (show LBox _ _ from Blk.upd hl hU (fun e => by omega))
  have HN := Lib.hid (hn.upd hU (fun e => by omega))
  have HK := Lib.hid (hk1.then hU (fun i hi e => by omega))
  have HO := Lib.hid hO
  clear hl hn hk ho hk1 hU hO
  go_wp2_with fail
  generalize ((w1.setCell ⟨w.heap.size + 1, 0, none⟩ (.func (.func 44) #[] #[.pointer (some ⟨lb, 0, none⟩), .pointer (some ⟨nb, 0, none⟩)])).setCell ⟨w.heap.size + 1, 1, none⟩ (.bool false)).setCell ⟨w.heap.size + 1, 2, none⟩ (.bool false) = w2 at HL HN HK HO ⊢
  have hc := HO.out.cell
  exact bodyPost_ret (v := .agg #[.func (.func 44) #[] #[.pointer (some ⟨lb, 0, none⟩), .pointer (some ⟨nb, 0, none⟩)], .bool false, .bool false]) (by simp [results, Try.results8, go_sem, hc]) rfl ⟨lb, nb, rfl, HL.out, HN.out, by omega, by omega, HK.out⟩

theorem NewDown_any (w : World) :
    Calls Try.prog 19 #[.agg #[.int .i64 2, .int .i64 1, .int .i64 1, .int .i64 2, .int .i64 0, .int .i64 1, .int .i64 3, .int .i64 5, .int .i64 7, .int .i64 8, .int .i64 9, .int .i64 10, .int .i64 11, .int .i64 15]] w (MadeAdd (-1) w) := by
  go_enter Try.func19, Try.ntmps19
  go_wp2_with fail
  refine (add_any (-1) _).mono ?_
  rintro e w1 ⟨lb, nb, rfl, hl, hn, h1, h2, hk⟩
  have ho : Blk w1 (w.heap.size + 1) #[.nilFunc, .bool false, .bool false] 48 := (Blk.newAt _ _ _ _ (by simp)).kept hk
  have hk1 : Kept w w1 := (((Upd.refl _ _).alloc _).alloc _).trans hk
  simp only [World.size_alloc] at h1 h2
  have o0 : w1.cell? ⟨w.heap.size + 1, 0, none⟩ = some .nilFunc := by rw [ho.cell]; rfl
  have o1 : w1.cell? ⟨w.heap.size + 1, 1, none⟩ = some (.bool false) := by rw [ho.cell]; rfl
  have o2 : w1.cell? ⟨w.heap.size + 1, 2, none⟩ = some (.bool false) := by rw [ho.cell]; rfl
  have f0 := ho.free 0
  have f1 := ho.free 1
  have f2 := ho.free 2
  have hU : Upd (fun k => k = w.heap.size + 1) w1 (((w1.setCell ⟨w.heap.size + 1, 0, none⟩ (.func (.func 44) #[] #[.pointer (some ⟨lb, 0, none⟩), .pointer (some ⟨nb, 0, none⟩)])).setCell ⟨w.heap.size + 1, 1, none⟩ (.bool false)).setCell ⟨w.heap.size + 1, 2, none⟩ (.bool false)) :=
    ((updCell w1 _ 0 _).trans (updCell _ _ 1 _)).trans (updCell _ _ 2 _)
  have hO : Blk (((w1.setCell ⟨w.heap.size + 1, 0, none⟩ (.func (.func 44) #[] #[.pointer (some ⟨lb, 0, none⟩), .pointer (some ⟨nb, 0, none⟩)])).setCell ⟨w.heap.size + 1, 1, none⟩ (.bool false)).setCell ⟨w.heap.size + 1, 2, none⟩ (.bool false)) (w.heap.size + 1) #[.func (.func 44) #[] #[.pointer (some ⟨lb, 0, none⟩), .pointer (some ⟨nb, 0, none⟩)], .bool false, .bool false] 48 := by
    have := ((ho.set 0 (.func (.func 44) #[] #[.pointer (some ⟨lb, 0, none⟩), .pointer (some ⟨nb, 0, none⟩)])).set 1 (.bool false)).set 2 (.bool false)
    simpa using this
  have HL := Lib.hid (show LBox _ _ from Blk.upd hl hU (fun e => by omega))
  have HN := Lib.hid (hn.upd hU (fun e => by omega))
  have HK := Lib.hid (hk1.then hU (fun i hi e => by omega))
  have HO := Lib.hid hO
  clear hl hn hk ho hk1 hU hO
  go_wp2_with fail
  generalize ((w1.setCell ⟨w.heap.size + 1, 0, none⟩ (.func (.func 44) #[] #[.pointer (some ⟨lb, 0, none⟩), .pointer (some ⟨nb, 0, none⟩)])).setCell ⟨w.heap.size + 1, 1, none⟩ (.bool false)).setCell ⟨w.heap.size + 1, 2, none⟩ (.bool false) = w2 at HL HN HK HO ⊢
  have hc := HO.out.cell
  exact bodyPost_ret (v := .agg #[.func (.func 44) #[] #[.pointer (some ⟨lb, 0, none⟩), .pointer (some ⟨nb, 0, none⟩)], .bool false, .bool false]) (by simp [results, Try.results19, go_sem, hc]) rfl ⟨lb, nb, rfl, HL.out, HN.out, by omega, by omega, HK.out⟩

set_option maxRecDepth 100000 in
set_option maxHeartbeats 1000000 in
theorem last_any {w : World} {bb g : Nat} {xs ys : List Int} {z : Bool} (hb : Bnk w bb g xs) (hx : xs.length = 15) (hz : (wrap64 (bget xs 7 + (-1)) == 0) = z) (hy : bput xs 7 (wrap64 (bget xs 7 + (-1))) = ys) :
    Calls Try.prog 10 #[.agg #[.int .i64 2, .int .i64 1, .int .i64 1, .int .i64 2, .int .i64 0, .int .i64 1, .int .i64 3, .int .i64 5, .int .i64 7, .int .i64 8, .int .i64 9, .int .i64 10, .int .i64 11, .int .i64 15], .pointer (some ⟨bb, 0, none⟩)] w (Acc bb g ys z w) := by
  have HB := Lib.hid hb
  have HX := Lib.hid hx
  have HZ := Lib.hid hz
  have HY := Lib.hid hy
  have lg := hb.row.lt
  have lbb := hb.head.lt
  clear hb hx hz hy
  go_enter Try.func10, Try.ntmps10
  go_wp2_with fail
  refine (NewDown_any _).mono ?_
  rintro e w1 ⟨lb, nb, rfl, hl, hn, h1, h2, hk⟩
  have hk1 : Kept w w1 := ((Upd.refl _ _).alloc _).trans hk
  have HB1 := Lib.hid (HB.out.kept hk1)
  have HL1 := Lib.hid hl
  have HN1 := Lib.hid hn
  have HK1 := Lib.hid hk1
  have hs1 := hk1.size
  clear hl hk hk1 HB hn
  have lg1 := HB1.out.row.lt
  have lb1 := HB1.out.head.lt
  go_wp2_with fail
  refine (Down_step (step_add (Blk.newAt w1 _ _ _ rfl) ⟨by omega, by omega⟩ (addIt (HB1.out.kept ((Upd.refl _ _).alloc _)) HX.out (Blk.alloc HL1.out _) _ (HN1.out.alloc _) _ rfl))).mono ?_
  rintro e w2 ⟨rfl, hS⟩
  rw [HY.out, HZ.out] at hS
  have c2 : w2.cell? ⟨w1.heap.size, 2, none⟩ = some (.bool z) := by rw [hS.mach.cell]; rfl
  have HF : Hid (Acc bb g ys z w (.returned (.bool z)) w2) := Lib.hid ⟨rfl, hS.bank, ((HK1.out.wide (fun _ _ f => f.elim)).alloc _).then hS.upd (fun i hi e => by rcases e with e | e; exact e; omega)⟩
  clear hS HB1 HL1 HN1 HK1 HY HZ
  go_wp2_with fail
  refine (Down_Last c2).mono ?_
  rintro e w3 ⟨rfl, rfl⟩
  go_wp2
  go_ret
  exact HF.out

set_option maxRecDepth 100000 in
set_option maxHeartbeats 1000000 in
theorem zero_any {w : World} {bb g : Nat} {xs ys : List Int} {z : Bool} (hb : Bnk w bb g xs) (hx : xs.length = 15) (hz : (bget xs 7 == 0) = z) (hy : xs = ys) :
    Calls Try.prog 12 #[.agg #[.int .i64 2, .int .i64 1, .int .i64 1, .int .i64 2, .int .i64 0, .int .i64 1, .int .i64 3, .int .i64 5, .int .i64 7, .int .i64 8, .int .i64 9, .int .i64 10, .int .i64 11, .int .i64 15], .pointer (some ⟨bb, 0, none⟩)] w (Acc bb g ys z w) := by
  have HB := Lib.hid hb
  have HX := Lib.hid hx
  have HZ := Lib.hid hz
  have HY := Lib.hid hy
  have lg := hb.row.lt
  have lbb := hb.head.lt
  clear hb hx hz hy
  go_enter Try.func12, Try.ntmps12
  go_wp2_with fail
  refine (NewZero_any _).mono ?_
  rintro e w1 ⟨lb, rfl, hl, h1, hk⟩
  have hk1 : Kept w w1 := ((Upd.refl _ _).alloc _).trans hk
  have HB1 := Lib.hid (HB.out.kept hk1)
  have HL1 := Lib.hid hl
  skip
  have HK1 := Lib.hid hk1
  have hs1 := hk1.size
  clear hl hk hk1 HB 
  have lg1 := HB1.out.row.lt
  have lb1 := HB1.out.head.lt
  go_wp2_with fail
  refine (Zero_step (step_zero (Blk.newAt w1 _ _ _ rfl) ⟨by omega, by omega⟩ (zeroIt (HB1.out.kept ((Upd.refl _ _).alloc _)) (Blk.alloc HL1.out _)))).mono ?_
  rintro e w2 ⟨rfl, hS⟩
  rw [HZ.out, HY.out] at hS
  have c2 : w2.cell? ⟨w1.heap.size, 2, none⟩ = some (.bool z) := by rw [hS.mach.cell]; rfl
  have HF : Hid (Acc bb g ys z w (.returned (.bool z)) w2) := Lib.hid ⟨rfl, hS.bank, ((HK1.out.wide (fun _ _ f => f.elim)).alloc _).then hS.upd (fun i hi e => by rcases e with e | e; exact e; omega)⟩
  clear hS HB1 HL1 HK1 HY HZ
  go_wp2_with fail
  refine (Zero_Is c2).mono ?_
  rintro e w3 ⟨rfl, rfl⟩
  go_wp2
  go_ret
  exact HF.out

set_option maxRecDepth 100000 in
set_option maxHeartbeats 1000000 in
theorem asked_any {w : World} {bb g : Nat} {xs ys : List Int} {z : Bool} (hb : Bnk w bb g xs) (hx : xs.length = 15) (hz : (bget xs 8 != 0) = z) (hy : xs = ys) :
    Calls Try.prog 16 #[.agg #[.int .i64 2, .int .i64 1, .int .i64 1, .int .i64 2, .int .i64 0, .int .i64 1, .int .i64 3, .int .i64 5, .int .i64 7, .int .i64 8, .int .i64 9, .int .i64 10, .int .i64 11, .int .i64 15], .pointer (some ⟨bb, 0, none⟩)] w (Acc bb g ys z w) := by
  have HB := Lib.hid hb
  have HX := Lib.hid hx
  have HZ := Lib.hid hz
  have HY := Lib.hid hy
  have lg := hb.row.lt
  have lbb := hb.head.lt
  clear hb hx hz hy
  go_enter Try.func16, Try.ntmps16
  go_wp2_with fail
  refine (NewAsked_any _).mono ?_
  rintro e w1 ⟨lb, rfl, hl, h1, hk⟩
  have hk1 : Kept w w1 := ((Upd.refl _ _).alloc _).trans hk
  have HB1 := Lib.hid (HB.out.kept hk1)
  have HL1 := Lib.hid hl
  skip
  have HK1 := Lib.hid hk1
  have hs1 := hk1.size
  clear hl hk hk1 HB 
  have lg1 := HB1.out.row.lt
  have lb1 := HB1.out.head.lt
  go_wp2_with fail
  refine (Asked_step (step_asked (Blk.newAt w1 _ _ _ rfl) ⟨by omega, by omega⟩ (askedIt (HB1.out.kept ((Upd.refl _ _).alloc _)) (Blk.alloc HL1.out _)))).mono ?_
  rintro e w2 ⟨rfl, hS⟩
  rw [HZ.out, HY.out] at hS
  have c2 : w2.cell? ⟨w1.heap.size, 2, none⟩ = some (.bool z) := by rw [hS.mach.cell]; rfl
  have HF : Hid (Acc bb g ys z w (.returned (.bool z)) w2) := Lib.hid ⟨rfl, hS.bank, ((HK1.out.wide (fun _ _ f => f.elim)).alloc _).then hS.upd (fun i hi e => by rcases e with e | e; exact e; omega)⟩
  clear hS HB1 HL1 HK1 HY HZ
  go_wp2_with fail
  refine (Asked_Is c2).mono ?_
  rintro e w3 ⟨rfl, rfl⟩
  go_wp2
  go_ret
  exact HF.out
end Go.Proofs.Ytccjgbmbggbmgaa
