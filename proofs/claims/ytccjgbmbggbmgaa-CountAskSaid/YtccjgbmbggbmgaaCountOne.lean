/- A machine of a kind, stepped once or twice (layer 13). -/
import Derived.Test.YtccjgbmbggbmgaaCountState
namespace Go.Proofs.Ytccjgbmbggbmgaa
set_option linter.unusedVariables false
open Go.RowKit

/-- What is pending behind a machine of a kind; whether the end is asked for; what it tells. -/
def penK (k n p : Int) : Int := if k = 0 then wrap64 (p + n) else if k = 1 then wrap64 (p + -1) else p
def askK (k a : Int) : Int := if k = 3 then 1 else a
def telK (k n p a : Int) : Bool := if k = 1 then penK k n p == 0 else if k = 2 then p == 0 else if k = 4 then a != 0 else false
def OneIs (bb g : Nat) (k n p a : Int) (w : World) (e : Ending) (w' : World) : Prop := e = .returned (.tuple #[.bool false, .bool true, .bool (telK k n p a)]) ∧ Bnk w' bb g (cnt (penK k n p) (askK k a)) ∧ Upd (fun k => k = g) w w'

set_option maxRecDepth 100000 in
set_option maxHeartbeats 4000000 in
theorem one_0 (n p a : Int) (again : Bool) {w : World} {bb g : Nat} (hb : Bnk w bb g (cnt p a)) :
    Calls Try.prog 15 #[.int .i64 0, .int .i64 n, .agg #[.int .i64 2, .int .i64 1, .int .i64 1, .int .i64 2, .int .i64 0, .int .i64 1, .int .i64 3, .int .i64 5, .int .i64 7, .int .i64 8, .int .i64 9, .int .i64 10, .int .i64 11, .int .i64 15], .pointer (some ⟨bb, 0, none⟩), .bool again] w (OneIs bb g 0 n p a w) := by
  have HB := Lib.hid hb
  clear hb
  have HF : Hid (∀ w' z, z = (wrap64 (p + n) == 0) → Bnk w' bb g (cnt (wrap64 (p + n)) a) → Upd (fun k => k = g) w w' → OneIs bb g 0 n p a w (.returned (.tuple #[.bool false, .bool true, .bool false])) w') := Lib.hid fun w' z hz h1 h2 => by
    subst hz; exact ⟨rfl, h1, h2⟩
  go_enter Try.func15, Try.ntmps15
  go_wp2_with fail
  refine (NewUp_any n _).mono ?_
  rintro e w1 ⟨lb, nb, rfl, hl, hnn, h1, h2, hk⟩
  have hk1 : Kept w w1 := ((Upd.refl _ _).alloc _).trans hk
  have HB1 := Lib.hid (HB.out.kept hk1)
  have HL := Lib.hid (And.intro hl hnn)
  have HK1 := Lib.hid hk1
  have hs1 := hk1.size
  have lg := HB1.out.row.lt
  have lb1 := HB1.out.head.lt
  clear hl hnn hk hk1 HB
  go_wp2_with fail
  refine (Up_step (step_add (Blk.newAt w1 _ _ _ rfl) ⟨by omega, by omega⟩ (addIt (HB1.out.kept ((Upd.refl _ _).alloc _)) rfl (Blk.alloc HL.out.1 _) _ (HL.out.2.alloc _) _ rfl))).mono ?_
  rintro e w2 ⟨rfl, hS⟩
  have d1 : w2.cell? ⟨w1.heap.size, 1, none⟩ = some (.bool true) := by rw [hS.mach.cell]; rfl
  have d2 : w2.cell? ⟨w1.heap.size, 2, none⟩ = some (.bool (wrap64 (p + n) == 0)) := by rw [hS.mach.cell]; rfl
  have HE := Lib.hid (HF.out w2 _ rfl hS.bank (((HK1.out.wide (fun _ _ f => f.elim)).alloc _).then hS.upd (fun i hi e => by rcases e with e | e; exact e; omega)))
  clear hS HB1 HL HK1 HF
  cases again
  · go_wp2_with fail
    exact bodyPost_ret (v := .tuple #[.bool false, .bool true, .bool (false)]) (by simp [results, Try.results15, go_sem]) rfl HE.out
  · go_wp2_with fail
    refine (Up_step (step_done d1)).mono ?_
    rintro e w' ⟨rfl, rfl⟩
    go_wp2_with fail
    exact bodyPost_ret (v := .tuple #[.bool false, .bool true, .bool (false)]) (by simp [results, Try.results15, go_sem]) rfl HE.out

set_option maxRecDepth 100000 in
set_option maxHeartbeats 4000000 in
theorem one_1 (n p a : Int) (again : Bool) {w : World} {bb g : Nat} (hb : Bnk w bb g (cnt p a)) :
    Calls Try.prog 15 #[.int .i64 1, .int .i64 n, .agg #[.int .i64 2, .int .i64 1, .int .i64 1, .int .i64 2, .int .i64 0, .int .i64 1, .int .i64 3, .int .i64 5, .int .i64 7, .int .i64 8, .int .i64 9, .int .i64 10, .int .i64 11, .int .i64 15], .pointer (some ⟨bb, 0, none⟩), .bool again] w (OneIs bb g 1 n p a w) := by
  have HB := Lib.hid hb
  clear hb
  have HF : Hid (∀ w' z, z = (wrap64 (p + -1) == 0) → Bnk w' bb g (cnt (wrap64 (p + -1)) a) → Upd (fun k => k = g) w w' → OneIs bb g 1 n p a w (.returned (.tuple #[.bool false, .bool true, .bool z])) w') := Lib.hid fun w' z hz h1 h2 => by
    subst hz; exact ⟨rfl, h1, h2⟩
  go_enter Try.func15, Try.ntmps15
  go_wp2_with fail
  refine (NewDown_any _).mono ?_
  rintro e w1 ⟨lb, nb, rfl, hl, hnn, h1, h2, hk⟩
  have hk1 : Kept w w1 := ((Upd.refl _ _).alloc _).trans hk
  have HB1 := Lib.hid (HB.out.kept hk1)
  have HL := Lib.hid (And.intro hl hnn)
  have HK1 := Lib.hid hk1
  have hs1 := hk1.size
  have lg := HB1.out.row.lt
  have lb1 := HB1.out.head.lt
  clear hl hnn hk hk1 HB
  go_wp2_with fail
  refine (Down_Last (z := false) (by rw [(Blk.newAt w1 #[.func (.func 44) #[] #[.pointer (some ⟨lb, 0, none⟩), .pointer (some ⟨nb, 0, none⟩)], .bool false, .bool false] 48 w1.heap.size rfl).cell]; rfl)).mono ?_
  rintro e w' ⟨rfl, rfl⟩
  go_wp2_with fail
  refine (Down_step (step_add (Blk.newAt w1 _ _ _ rfl) ⟨by omega, by omega⟩ (addIt (HB1.out.kept ((Upd.refl _ _).alloc _)) rfl (Blk.alloc HL.out.1 _) _ (HL.out.2.alloc _) _ rfl))).mono ?_
  rintro e w2 ⟨rfl, hS⟩
  have d1 : w2.cell? ⟨w1.heap.size, 1, none⟩ = some (.bool true) := by rw [hS.mach.cell]; rfl
  have d2 : w2.cell? ⟨w1.heap.size, 2, none⟩ = some (.bool (wrap64 (p + -1) == 0)) := by rw [hS.mach.cell]; rfl
  have HE := Lib.hid (HF.out w2 _ rfl hS.bank (((HK1.out.wide (fun _ _ f => f.elim)).alloc _).then hS.upd (fun i hi e => by rcases e with e | e; exact e; omega)))
  clear hS HB1 HL HK1 HF
  cases again
  · go_wp2_with fail
    refine (Down_Last d2).mono ?_
    rintro e w' ⟨rfl, rfl⟩
    go_wp2
    exact bodyPost_ret (v := .tuple #[.bool false, .bool true, .bool (wrap64 (p + -1) == 0)]) (by simp [results, Try.results15, go_sem]) rfl HE.out
  · go_wp2_with fail
    refine (Down_step (step_done d1)).mono ?_
    rintro e w' ⟨rfl, rfl⟩
    go_wp2_with fail
    refine (Down_Last d2).mono ?_
    rintro e w' ⟨rfl, rfl⟩
    go_wp2
    exact bodyPost_ret (v := .tuple #[.bool false, .bool true, .bool (wrap64 (p + -1) == 0)]) (by simp [results, Try.results15, go_sem]) rfl HE.out

set_option maxRecDepth 100000 in
set_option maxHeartbeats 4000000 in
theorem one_2 (n p a : Int) (again : Bool) {w : World} {bb g : Nat} (hb : Bnk w bb g (cnt p a)) :
    Calls Try.prog 15 #[.int .i64 2, .int .i64 n, .agg #[.int .i64 2, .int .i64 1, .int .i64 1, .int .i64 2, .int .i64 0, .int .i64 1, .int .i64 3, .int .i64 5, .int .i64 7, .int .i64 8, .int .i64 9, .int .i64 10, .int .i64 11, .int .i64 15], .pointer (some ⟨bb, 0, none⟩), .bool again] w (OneIs bb g 2 n p a w) := by
  have HB := Lib.hid hb
  clear hb
  have HF : Hid (∀ w' z, z = (p == 0) → Bnk w' bb g (cnt (p) a) → Upd (fun k => k = g) w w' → OneIs bb g 2 n p a w (.returned (.tuple #[.bool false, .bool true, .bool z])) w') := Lib.hid fun w' z hz h1 h2 => by
    subst hz; exact ⟨rfl, h1, h2⟩
  go_enter Try.func15, Try.ntmps15
  go_wp2_with fail
  refine (NewZero_any _).mono ?_
  rintro e w1 ⟨lb, rfl, hl, h1, hk⟩
  have hk1 : Kept w w1 := ((Upd.refl _ _).alloc _).trans hk
  have HB1 := Lib.hid (HB.out.kept hk1)
  have HL := Lib.hid (And.intro hl True.intro)
  have HK1 := Lib.hid hk1
  have hs1 := hk1.size
  have lg := HB1.out.row.lt
  have lb1 := HB1.out.head.lt
  clear hl  hk hk1 HB
  go_wp2_with fail
  refine (Zero_Is (z := false) (by rw [(Blk.newAt w1 #[.func (.func 47) #[] #[.pointer (some ⟨lb, 0, none⟩)], .bool false, .bool false] 68 w1.heap.size rfl).cell]; rfl)).mono ?_
  rintro e w' ⟨rfl, rfl⟩
  go_wp2_with fail
  refine (Zero_step (step_zero (Blk.newAt w1 _ _ _ rfl) ⟨by omega, by omega⟩ (zeroIt (HB1.out.kept ((Upd.refl _ _).alloc _)) (Blk.alloc HL.out.1 _)))).mono ?_
  rintro e w2 ⟨rfl, hS⟩
  have d1 : w2.cell? ⟨w1.heap.size, 1, none⟩ = some (.bool true) := by rw [hS.mach.cell]; rfl
  have d2 : w2.cell? ⟨w1.heap.size, 2, none⟩ = some (.bool (p == 0)) := by rw [hS.mach.cell]; rfl
  have HE := Lib.hid (HF.out w2 _ rfl hS.bank (((HK1.out.wide (fun _ _ f => f.elim)).alloc _).then hS.upd (fun i hi e => by rcases e with e | e; exact e; omega)))
  clear hS HB1 HL HK1 HF
  cases again
  · go_wp2_with fail
    refine (Zero_Is d2).mono ?_
    rintro e w' ⟨rfl, rfl⟩
    go_wp2
    exact bodyPost_ret (v := .tuple #[.bool false, .bool true, .bool (p == 0)]) (by simp [results, Try.results15, go_sem]) rfl HE.out
  · go_wp2_with fail
    refine (Zero_step (step_done d1)).mono ?_
    rintro e w' ⟨rfl, rfl⟩
    go_wp2_with fail
    refine (Zero_Is d2).mono ?_
    rintro e w' ⟨rfl, rfl⟩
    go_wp2
    exact bodyPost_ret (v := .tuple #[.bool false, .bool true, .bool (p == 0)]) (by simp [results, Try.results15, go_sem]) rfl HE.out

set_option maxRecDepth 100000 in
set_option maxHeartbeats 4000000 in
theorem one_3 (n p a : Int) (again : Bool) {w : World} {bb g : Nat} (hb : Bnk w bb g (cnt p a)) :
    Calls Try.prog 15 #[.int .i64 3, .int .i64 n, .agg #[.int .i64 2, .int .i64 1, .int .i64 1, .int .i64 2, .int .i64 0, .int .i64 1, .int .i64 3, .int .i64 5, .int .i64 7, .int .i64 8, .int .i64 9, .int .i64 10, .int .i64 11, .int .i64 15], .pointer (some ⟨bb, 0, none⟩), .bool again] w (OneIs bb g 3 n p a w) := by
  have HB := Lib.hid hb
  clear hb
  have HF : Hid (∀ w' z, z = (false) → Bnk w' bb g (cnt (p) 1) → Upd (fun k => k = g) w w' → OneIs bb g 3 n p a w (.returned (.tuple #[.bool false, .bool true, .bool false])) w') := Lib.hid fun w' z hz h1 h2 => by
    subst hz; exact ⟨rfl, h1, h2⟩
  go_enter Try.func15, Try.ntmps15
  go_wp2_with fail
  refine (NewAsk_any _).mono ?_
  rintro e w1 ⟨lb, rfl, hl, h1, hk⟩
  have hk1 : Kept w w1 := ((Upd.refl _ _).alloc _).trans hk
  have HB1 := Lib.hid (HB.out.kept hk1)
  have HL := Lib.hid (And.intro hl True.intro)
  have HK1 := Lib.hid hk1
  have hs1 := hk1.size
  have lg := HB1.out.row.lt
  have lb1 := HB1.out.head.lt
  clear hl  hk hk1 HB
  go_wp2_with fail
  refine (Ask_step (step_ask (Blk.newAt w1 _ _ _ rfl) ⟨by omega, by omega⟩ (askIt (HB1.out.kept ((Upd.refl _ _).alloc _)) (Blk.alloc HL.out.1 _)))).mono ?_
  rintro e w2 ⟨rfl, hS⟩
  have d1 : w2.cell? ⟨w1.heap.size, 1, none⟩ = some (.bool true) := by rw [hS.mach.cell]; rfl
  have d2 : w2.cell? ⟨w1.heap.size, 2, none⟩ = some (.bool (false)) := by rw [hS.mach.cell]; rfl
  have HE := Lib.hid (HF.out w2 _ rfl hS.bank (((HK1.out.wide (fun _ _ f => f.elim)).alloc _).then hS.upd (fun i hi e => by rcases e with e | e; exact e; omega)))
  clear hS HB1 HL HK1 HF
  cases again
  · go_wp2_with fail
    exact bodyPost_ret (v := .tuple #[.bool false, .bool true, .bool (false)]) (by simp [results, Try.results15, go_sem]) rfl HE.out
  · go_wp2_with fail
    refine (Ask_step (step_done d1)).mono ?_
    rintro e w' ⟨rfl, rfl⟩
    go_wp2_with fail
    exact bodyPost_ret (v := .tuple #[.bool false, .bool true, .bool (false)]) (by simp [results, Try.results15, go_sem]) rfl HE.out

set_option maxRecDepth 100000 in
set_option maxHeartbeats 4000000 in
theorem one_4 (n p a : Int) (again : Bool) {w : World} {bb g : Nat} (hb : Bnk w bb g (cnt p a)) :
    Calls Try.prog 15 #[.int .i64 4, .int .i64 n, .agg #[.int .i64 2, .int .i64 1, .int .i64 1, .int .i64 2, .int .i64 0, .int .i64 1, .int .i64 3, .int .i64 5, .int .i64 7, .int .i64 8, .int .i64 9, .int .i64 10, .int .i64 11, .int .i64 15], .pointer (some ⟨bb, 0, none⟩), .bool again] w (OneIs bb g 4 n p a w) := by
  have HB := Lib.hid hb
  clear hb
  have HF : Hid (∀ w' z, z = (a != 0) → Bnk w' bb g (cnt (p) a) → Upd (fun k => k = g) w w' → OneIs bb g 4 n p a w (.returned (.tuple #[.bool false, .bool true, .bool z])) w') := Lib.hid fun w' z hz h1 h2 => by
    subst hz; exact ⟨rfl, h1, h2⟩
  go_enter Try.func15, Try.ntmps15
  go_wp2_with fail
  refine (NewAsked_any _).mono ?_
  rintro e w1 ⟨lb, rfl, hl, h1, hk⟩
  have hk1 : Kept w w1 := ((Upd.refl _ _).alloc _).trans hk
  have HB1 := Lib.hid (HB.out.kept hk1)
  have HL := Lib.hid (And.intro hl True.intro)
  have HK1 := Lib.hid hk1
  have hs1 := hk1.size
  have lg := HB1.out.row.lt
  have lb1 := HB1.out.head.lt
  clear hl  hk hk1 HB
  go_wp2_with fail
  refine (Asked_Is (z := false) (by rw [(Blk.newAt w1 #[.func (.func 48) #[] #[.pointer (some ⟨lb, 0, none⟩)], .bool false, .bool false] 70 w1.heap.size rfl).cell]; rfl)).mono ?_
  rintro e w' ⟨rfl, rfl⟩
  go_wp2_with fail
  refine (Asked_step (step_asked (Blk.newAt w1 _ _ _ rfl) ⟨by omega, by omega⟩ (askedIt (HB1.out.kept ((Upd.refl _ _).alloc _)) (Blk.alloc HL.out.1 _)))).mono ?_
  rintro e w2 ⟨rfl, hS⟩
  have d1 : w2.cell? ⟨w1.heap.size, 1, none⟩ = some (.bool true) := by rw [hS.mach.cell]; rfl
  have d2 : w2.cell? ⟨w1.heap.size, 2, none⟩ = some (.bool (a != 0)) := by rw [hS.mach.cell]; rfl
  have HE := Lib.hid (HF.out w2 _ rfl hS.bank (((HK1.out.wide (fun _ _ f => f.elim)).alloc _).then hS.upd (fun i hi e => by rcases e with e | e; exact e; omega)))
  clear hS HB1 HL HK1 HF
  cases again
  · go_wp2_with fail
    refine (Asked_Is d2).mono ?_
    rintro e w' ⟨rfl, rfl⟩
    go_wp2
    exact bodyPost_ret (v := .tuple #[.bool false, .bool true, .bool (a != 0)]) (by simp [results, Try.results15, go_sem]) rfl HE.out
  · go_wp2_with fail
    refine (Asked_step (step_done d1)).mono ?_
    rintro e w' ⟨rfl, rfl⟩
    go_wp2_with fail
    refine (Asked_Is d2).mono ?_
    rintro e w' ⟨rfl, rfl⟩
    go_wp2
    exact bodyPost_ret (v := .tuple #[.bool false, .bool true, .bool (a != 0)]) (by simp [results, Try.results15, go_sem]) rfl HE.out

theorem one_any (k : Int) (hk0 : 0 ≤ k) (hk1 : k < 5) (n p a : Int) (again : Bool) {w : World} {bb g : Nat} (hb : Bnk w bb g (cnt p a)) :
    Calls Try.prog 15 #[.int .i64 k, .int .i64 n, .agg #[.int .i64 2, .int .i64 1, .int .i64 1, .int .i64 2, .int .i64 0, .int .i64 1, .int .i64 3, .int .i64 5, .int .i64 7, .int .i64 8, .int .i64 9, .int .i64 10, .int .i64 11, .int .i64 15], .pointer (some ⟨bb, 0, none⟩), .bool again] w (OneIs bb g k n p a w) := by
  have h : k = 0 ∨ k = 1 ∨ k = 2 ∨ k = 3 ∨ k = 4 := by omega
  rcases h with rfl | rfl | rfl | rfl | rfl
  · exact one_0 n p a again hb
  · exact one_1 n p a again hb
  · exact one_2 n p a again hb
  · exact one_3 n p a again hb
  · exact one_4 n p a again hb
end Go.Proofs.Ytccjgbmbggbmgaa
