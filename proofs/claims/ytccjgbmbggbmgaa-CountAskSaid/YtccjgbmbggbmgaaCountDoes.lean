/- CountAsk's closure: a machine is stepped, what is pending is counted. -/
import Derived.Test.YtccjgbmbggbmgaaCountOne
namespace Go.Proofs.Ytccjgbmbggbmgaa
set_option linter.unusedVariables false
open Go.RowKit

/-- Three boxes: the plan, the bank's pointer, what is pending. -/
structure Boxes (w : World) (pb kb nb bb g : Nat) (p q : Int) : Prop where
  bank : Bnk w bb g (cnt p q)
  plan : LBox w pb
  ptr : Blk w kb #[.pointer (some ⟨bb, 0, none⟩)] 25
  pend : Blk w nb #[.int .i64 p] 2
  ne : ¬ pb = g ∧ ¬ kb = g ∧ ¬ nb = g ∧ ¬ pb = nb ∧ ¬ kb = nb ∧ ¬ bb = nb
def Does (pb kb nb bb g : Nat) (p q : Int) (w : World) (e : Ending) (w' : World) : Prop := e = .returned (.tuple #[]) ∧ Boxes w' pb kb nb bb g p q ∧ Upd (fun k => k = g ∨ k = nb) w w'

set_option maxRecDepth 100000 in
set_option maxHeartbeats 2000000 in
theorem does_0 (x n : Int) (again : Bool) {w : World} {pb kb nb bb g : Nat} {p q : Int} (hb : Boxes w pb kb nb bb g p q) :
    Calls Try.prog 14 #[.agg #[.int .u8 x, .int .i64 n, .bool again], .int .i64 0, .pointer (some ⟨pb, 0, none⟩), .pointer (some ⟨kb, 0, none⟩), .pointer (some ⟨nb, 0, none⟩)] w (Does pb kb nb bb g (wrap64 (p + n)) (q) w) := by
  have S := Lib.hid hb
  have cp := hb.plan.cell
  have ck : w.cell? ⟨kb, 0, none⟩ = some (.pointer (some ⟨bb, 0, none⟩)) := by rw [hb.ptr.cell]; rfl
  have lp := Blk.lt hb.plan
  have lk := hb.ptr.lt
  clear hb
  go_enter Try.func14, Try.ntmps14
  go_wp2_with fail
  refine (one_0 n p q again (S.out.bank.kept ((Upd.refl _ _).alloc _))).mono ?_
  rintro e w1 ⟨rfl, hB, hU⟩
  have hne := S.out.ne
  have hlg := S.out.bank.row.lt
  have hO := (Blk.new w #[.int .u8 x, .int .i64 n, .bool again] 40).upd hU (fun e => by omega)
  have o1 : w1.cell? ⟨w.heap.size, 1, none⟩ = some (.int .i64 n) := by rw [hO.cell]; rfl
  have HB : Hid (Bnk w1 bb g (cnt (wrap64 (p + n)) (q))) := Lib.hid hB
  have HL : Hid (LBox w1 pb) := Lib.hid (Blk.upd (Blk.alloc S.out.plan _) hU hne.1)
  have HP := Lib.hid ((S.out.ptr.alloc (.cells #[.int .u8 x, .int .i64 n, .bool again] 40)).upd hU hne.2.1)
  have hN := (S.out.pend.alloc (.cells #[.int .u8 x, .int .i64 n, .bool again] 40)).upd hU hne.2.2.1
  have HU := Lib.hid (((Upd.refl (fun k => k = g ∨ k = nb) w).alloc (.cells #[.int .u8 x, .int .i64 n, .bool again] 40)).then hU (fun i h e => .inl e))
  have n0 : w1.cell? ⟨nb, 0, none⟩ = some (.int .i64 p) := by rw [hN.cell]; rfl
  have nf := hN.free 0
  have HN := Lib.hid hN
  have HF : Hid (Does pb kb nb bb g (wrap64 (p + n)) (q) w (.returned (.tuple #[])) (w1.setCell ⟨nb, 0, none⟩ (.int .i64 (wrap64 (p + n))))) := by
    have hw : wrap64 (p + n) = wrap64 (p + n) := rfl
    rw [hw]
    refine Lib.hid ⟨rfl, ⟨?_, ?_, ?_, ?_, hne⟩, HU.out.setCell (p := ⟨nb, 0, none⟩) (.inl (.inr rfl)) _⟩
    · exact HB.out.upd (S := fun k => k = nb) (updCell w1 nb 0 _) (fun e => hne.2.2.2.2.2 e) (fun e => hne.2.2.1 e.symm)
    · exact Blk.upd HL.out (updCell w1 nb 0 _) (fun e => hne.2.2.2.1 e)
    · exact HP.out.upd (updCell w1 nb 0 _) (fun e => hne.2.2.2.2.1 e)
    · simpa using HN.out.set 0 (.int .i64 (wrap64 (p + n)))
  clear hO hB hU hN HB HL HP HU HN S cp ck lp lk
  go_wp2
  exact bodyPost_ret (v := .tuple #[]) (by simp [results, Try.results14, go_sem]) rfl HF.out

set_option maxRecDepth 100000 in
set_option maxHeartbeats 2000000 in
theorem does_1 (x n : Int) (again : Bool) {w : World} {pb kb nb bb g : Nat} {p q : Int} (hb : Boxes w pb kb nb bb g p q) :
    Calls Try.prog 14 #[.agg #[.int .u8 x, .int .i64 n, .bool again], .int .i64 1, .pointer (some ⟨pb, 0, none⟩), .pointer (some ⟨kb, 0, none⟩), .pointer (some ⟨nb, 0, none⟩)] w (Does pb kb nb bb g (wrap64 (p + -1)) (q) w) := by
  have S := Lib.hid hb
  have cp := hb.plan.cell
  have ck : w.cell? ⟨kb, 0, none⟩ = some (.pointer (some ⟨bb, 0, none⟩)) := by rw [hb.ptr.cell]; rfl
  have lp := Blk.lt hb.plan
  have lk := hb.ptr.lt
  clear hb
  go_enter Try.func14, Try.ntmps14
  go_wp2_with fail
  refine (one_1 n p q again (S.out.bank.kept ((Upd.refl _ _).alloc _))).mono ?_
  rintro e w1 ⟨rfl, hB, hU⟩
  have hne := S.out.ne
  have hlg := S.out.bank.row.lt
  have hO := (Blk.new w #[.int .u8 x, .int .i64 n, .bool again] 40).upd hU (fun e => by omega)
  have o1 : w1.cell? ⟨w.heap.size, 1, none⟩ = some (.int .i64 n) := by rw [hO.cell]; rfl
  have HB : Hid (Bnk w1 bb g (cnt (wrap64 (p + -1)) (q))) := Lib.hid hB
  have HL : Hid (LBox w1 pb) := Lib.hid (Blk.upd (Blk.alloc S.out.plan _) hU hne.1)
  have HP := Lib.hid ((S.out.ptr.alloc (.cells #[.int .u8 x, .int .i64 n, .bool again] 40)).upd hU hne.2.1)
  have hN := (S.out.pend.alloc (.cells #[.int .u8 x, .int .i64 n, .bool again] 40)).upd hU hne.2.2.1
  have HU := Lib.hid (((Upd.refl (fun k => k = g ∨ k = nb) w).alloc (.cells #[.int .u8 x, .int .i64 n, .bool again] 40)).then hU (fun i h e => .inl e))
  have n0 : w1.cell? ⟨nb, 0, none⟩ = some (.int .i64 p) := by rw [hN.cell]; rfl
  have nf := hN.free 0
  have HN := Lib.hid hN
  have HF : Hid (Does pb kb nb bb g (wrap64 (p + -1)) (q) w (.returned (.tuple #[])) (w1.setCell ⟨nb, 0, none⟩ (.int .i64 (wrap64 (p - 1))))) := by
    have hw : wrap64 (p - 1) = wrap64 (p + -1) := rfl
    rw [hw]
    refine Lib.hid ⟨rfl, ⟨?_, ?_, ?_, ?_, hne⟩, HU.out.setCell (p := ⟨nb, 0, none⟩) (.inl (.inr rfl)) _⟩
    · exact HB.out.upd (S := fun k => k = nb) (updCell w1 nb 0 _) (fun e => hne.2.2.2.2.2 e) (fun e => hne.2.2.1 e.symm)
    · exact Blk.upd HL.out (updCell w1 nb 0 _) (fun e => hne.2.2.2.1 e)
    · exact HP.out.upd (updCell w1 nb 0 _) (fun e => hne.2.2.2.2.1 e)
    · simpa using HN.out.set 0 (.int .i64 (wrap64 (p + -1)))
  clear hO hB hU hN HB HL HP HU HN S cp ck lp lk
  go_wp2
  exact bodyPost_ret (v := .tuple #[]) (by simp [results, Try.results14, go_sem]) rfl HF.out

set_option maxRecDepth 100000 in
set_option maxHeartbeats 2000000 in
theorem does_2 (x n : Int) (again : Bool) {w : World} {pb kb nb bb g : Nat} {p q : Int} (hb : Boxes w pb kb nb bb g p q) :
    Calls Try.prog 14 #[.agg #[.int .u8 x, .int .i64 n, .bool again], .int .i64 2, .pointer (some ⟨pb, 0, none⟩), .pointer (some ⟨kb, 0, none⟩), .pointer (some ⟨nb, 0, none⟩)] w (Does pb kb nb bb g (p) (q) w) := by
  have S := Lib.hid hb
  have cp := hb.plan.cell
  have ck : w.cell? ⟨kb, 0, none⟩ = some (.pointer (some ⟨bb, 0, none⟩)) := by rw [hb.ptr.cell]; rfl
  have lp := Blk.lt hb.plan
  have lk := hb.ptr.lt
  clear hb
  go_enter Try.func14, Try.ntmps14
  go_wp2_with fail
  refine (one_2 n p q again (S.out.bank.kept ((Upd.refl _ _).alloc _))).mono ?_
  rintro e w1 ⟨rfl, hB, hU⟩
  have hne := S.out.ne
  have hlg := S.out.bank.row.lt
  have hO := (Blk.new w #[.int .u8 x, .int .i64 n, .bool again] 40).upd hU (fun e => by omega)
  have o1 : w1.cell? ⟨w.heap.size, 1, none⟩ = some (.int .i64 n) := by rw [hO.cell]; rfl
  have HB : Hid (Bnk w1 bb g (cnt (p) (q))) := Lib.hid hB
  have HL : Hid (LBox w1 pb) := Lib.hid (Blk.upd (Blk.alloc S.out.plan _) hU hne.1)
  have HP := Lib.hid ((S.out.ptr.alloc (.cells #[.int .u8 x, .int .i64 n, .bool again] 40)).upd hU hne.2.1)
  have hN := (S.out.pend.alloc (.cells #[.int .u8 x, .int .i64 n, .bool again] 40)).upd hU hne.2.2.1
  have HU := Lib.hid (((Upd.refl (fun k => k = g ∨ k = nb) w).alloc (.cells #[.int .u8 x, .int .i64 n, .bool again] 40)).then hU (fun i h e => .inl e))
  have n0 : w1.cell? ⟨nb, 0, none⟩ = some (.int .i64 p) := by rw [hN.cell]; rfl
  have nf := hN.free 0
  have HN := Lib.hid hN
  have HF : Hid (Does pb kb nb bb g (p) (q) w (.returned (.tuple #[])) w1) := Lib.hid ⟨rfl, ⟨HB.out, HL.out, HP.out, HN.out, hne⟩, HU.out⟩
  clear hO hB hU hN HB HL HP HU HN S cp ck lp lk
  go_wp2
  exact bodyPost_ret (v := .tuple #[]) (by simp [results, Try.results14, go_sem]) rfl HF.out

set_option maxRecDepth 100000 in
set_option maxHeartbeats 2000000 in
theorem does_3 (x n : Int) (again : Bool) {w : World} {pb kb nb bb g : Nat} {p q : Int} (hb : Boxes w pb kb nb bb g p q) :
    Calls Try.prog 14 #[.agg #[.int .u8 x, .int .i64 n, .bool again], .int .i64 3, .pointer (some ⟨pb, 0, none⟩), .pointer (some ⟨kb, 0, none⟩), .pointer (some ⟨nb, 0, none⟩)] w (Does pb kb nb bb g (p) (1) w) := by
  have S := Lib.hid hb
  have cp := hb.plan.cell
  have ck : w.cell? ⟨kb, 0, none⟩ = some (.pointer (some ⟨bb, 0, none⟩)) := by rw [hb.ptr.cell]; rfl
  have lp := Blk.lt hb.plan
  have lk := hb.ptr.lt
  clear hb
  go_enter Try.func14, Try.ntmps14
  go_wp2_with fail
  refine (one_3 n p q again (S.out.bank.kept ((Upd.refl _ _).alloc _))).mono ?_
  rintro e w1 ⟨rfl, hB, hU⟩
  have hne := S.out.ne
  have hlg := S.out.bank.row.lt
  have hO := (Blk.new w #[.int .u8 x, .int .i64 n, .bool again] 40).upd hU (fun e => by omega)
  have o1 : w1.cell? ⟨w.heap.size, 1, none⟩ = some (.int .i64 n) := by rw [hO.cell]; rfl
  have HB : Hid (Bnk w1 bb g (cnt (p) (1))) := Lib.hid hB
  have HL : Hid (LBox w1 pb) := Lib.hid (Blk.upd (Blk.alloc S.out.plan _) hU hne.1)
  have HP := Lib.hid ((S.out.ptr.alloc (.cells #[.int .u8 x, .int .i64 n, .bool again] 40)).upd hU hne.2.1)
  have hN := (S.out.pend.alloc (.cells #[.int .u8 x, .int .i64 n, .bool again] 40)).upd hU hne.2.2.1
  have HU := Lib.hid (((Upd.refl (fun k => k = g ∨ k = nb) w).alloc (.cells #[.int .u8 x, .int .i64 n, .bool again] 40)).then hU (fun i h e => .inl e))
  have n0 : w1.cell? ⟨nb, 0, none⟩ = some (.int .i64 p) := by rw [hN.cell]; rfl
  have nf := hN.free 0
  have HN := Lib.hid hN
  have HF : Hid (Does pb kb nb bb g (p) (1) w (.returned (.tuple #[])) w1) := Lib.hid ⟨rfl, ⟨HB.out, HL.out, HP.out, HN.out, hne⟩, HU.out⟩
  clear hO hB hU hN HB HL HP HU HN S cp ck lp lk
  go_wp2
  exact bodyPost_ret (v := .tuple #[]) (by simp [results, Try.results14, go_sem]) rfl HF.out

set_option maxRecDepth 100000 in
set_option maxHeartbeats 2000000 in
theorem does_4 (x n : Int) (again : Bool) {w : World} {pb kb nb bb g : Nat} {p q : Int} (hb : Boxes w pb kb nb bb g p q) :
    Calls Try.prog 14 #[.agg #[.int .u8 x, .int .i64 n, .bool again], .int .i64 4, .pointer (some ⟨pb, 0, none⟩), .pointer (some ⟨kb, 0, none⟩), .pointer (some ⟨nb, 0, none⟩)] w (Does pb kb nb bb g (p) (q) w) := by
  have S := Lib.hid hb
  have cp := hb.plan.cell
  have ck : w.cell? ⟨kb, 0, none⟩ = some (.pointer (some ⟨bb, 0, none⟩)) := by rw [hb.ptr.cell]; rfl
  have lp := Blk.lt hb.plan
  have lk := hb.ptr.lt
  clear hb
  go_enter Try.func14, Try.ntmps14
  go_wp2_with fail
  refine (one_4 n p q again (S.out.bank.kept ((Upd.refl _ _).alloc _))).mono ?_
  rintro e w1 ⟨rfl, hB, hU⟩
  have hne := S.out.ne
  have hlg := S.out.bank.row.lt
  have hO := (Blk.new w #[.int .u8 x, .int .i64 n, .bool again] 40).upd hU (fun e => by omega)
  have o1 : w1.cell? ⟨w.heap.size, 1, none⟩ = some (.int .i64 n) := by rw [hO.cell]; rfl
  have HB : Hid (Bnk w1 bb g (cnt (p) (q))) := Lib.hid hB
  have HL : Hid (LBox w1 pb) := Lib.hid (Blk.upd (Blk.alloc S.out.plan _) hU hne.1)
  have HP := Lib.hid ((S.out.ptr.alloc (.cells #[.int .u8 x, .int .i64 n, .bool again] 40)).upd hU hne.2.1)
  have hN := (S.out.pend.alloc (.cells #[.int .u8 x, .int .i64 n, .bool again] 40)).upd hU hne.2.2.1
  have HU := Lib.hid (((Upd.refl (fun k => k = g ∨ k = nb) w).alloc (.cells #[.int .u8 x, .int .i64 n, .bool again] 40)).then hU (fun i h e => .inl e))
  have n0 : w1.cell? ⟨nb, 0, none⟩ = some (.int .i64 p) := by rw [hN.cell]; rfl
  have nf := hN.free 0
  have HN := Lib.hid hN
  have HF : Hid (Does pb kb nb bb g (p) (q) w (.returned (.tuple #[])) w1) := Lib.hid ⟨rfl, ⟨HB.out, HL.out, HP.out, HN.out, hne⟩, HU.out⟩
  clear hO hB hU hN HB HL HP HU HN S cp ck lp lk
  go_wp2
  exact bodyPost_ret (v := .tuple #[]) (by simp [results, Try.results14, go_sem]) rfl HF.out
end Go.Proofs.Ytccjgbmbggbmgaa
