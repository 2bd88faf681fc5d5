/- The statements' own bank (layer 13). -/
import Derived.Test.YtccjgbmbggbmgaaCount
namespace Go.Proofs.Ytccjgbmbggbmgaa
set_option linter.unusedVariables false
open Go.RowKit

/-- The bank of the statements: what is pending, and whether the end is asked for. -/
def cnt (p a : Int) : List Int := [0, 0, 0, 0, 0, 0, 0, p, a, 0, 0, 0, 0, 0, 0]
theorem cnt_len (p a : Int) : (cnt p a).length = 15 := rfl
theorem cnt_7 (p a : Int) : bget (cnt p a) 7 = p := rfl
theorem cnt_8 (p a : Int) : bget (cnt p a) 8 = a := rfl
theorem cnt_p (p a q : Int) : bput (cnt p a) 7 q = cnt q a := rfl
theorem cnt_a (p a q : Int) : bput (cnt p a) 8 q = cnt p q := rfl

def BankOf (w : World) (e : Ending) (w' : World) : Prop :=
  ∃ bb g, e = .returned (.tuple #[.agg lv, .pointer (some ⟨bb, 0, none⟩), .bool true]) ∧ Bnk w' bb g (cnt 0 0) ∧ w.heap.size ≤ bb ∧ w.heap.size ≤ g ∧ Kept w w'
theorem Bnk.other {w : World} {bb g o : Nat} {xs : List Int} (h : Bnk w bb g xs) (h1 : ¬ o = bb) (h2 : ¬ o = g) (i : Nat) (v : Value) : Bnk (w.setCell ⟨o, i, none⟩ v) bb g xs :=
  h.upd (S := fun k => k = o) (updCell w o i v) (fun e => h1 e.symm) (fun e => h2 e.symm)

set_option maxRecDepth 100000 in
set_option maxHeartbeats 1000000 in
theorem bank_any (w : World) :
    Calls Try.prog 7 #[] w (BankOf w) := by
  have hp : planOf 2 1 1 = ⟨2, 1, 1, 2, 0, 1, 3, 5, 7, 8, 9, 10, 11, 15⟩ := by decide
  have HP := fun w => Lib.hid (Plan_ok 2 1 1 w (by unfold May; omega))
  rw [hp] at HP
  clear hp
  have HFin : Hid (∀ bb g w', Bnk w' bb g (cnt 0 0) → w.heap.size ≤ bb → w.heap.size ≤ g → Kept w w' → BankOf w (.returned (.tuple #[.agg lv, .pointer (some ⟨bb, 0, none⟩), .bool true])) w') :=
    Lib.hid fun bb g w' a b c d => ⟨bb, g, rfl, a, b, c, d⟩
  simp only [Lay.val, Lay.vals] at *
  go_enter Try.func7, Try.ntmps7
  go_wp2_with fail
  refine (HP _).out.mono ?_
  rintro e w1 ⟨rfl, hk⟩
  have HK1 := Lib.hid (((Upd.refl (fun _ => False) w).alloc (.cells #[.int .i64 0, .int .i64 0, .int .i64 0, .int .i64 0, .int .i64 0, .int .i64 0, .int .i64 0, .int .i64 0, .int .i64 0, .int .i64 0, .int .i64 0, .int .i64 0, .int .i64 0, .int .i64 0] 24)).trans hk)
  have HO1 := Lib.hid ((Blk.new w #[.int .i64 0, .int .i64 0, .int .i64 0, .int .i64 0, .int .i64 0, .int .i64 0, .int .i64 0, .int .i64 0, .int .i64 0, .int .i64 0, .int .i64 0, .int .i64 0, .int .i64 0, .int .i64 0] 24).kept hk)
  clear hk
  go_wp2_with fail
  refine (New_ok 15 _ (by omega)).mono ?_
  rintro e w2 ⟨bb, g, rfl, hB, hbb, hg, hk⟩
  have hsz := HK1.out.size
  have hbb' : w.heap.size ≤ bb := by simp at hbb; omega
  have hgg' : w.heap.size ≤ g := by simp at hg; omega
  have HB := Lib.hid hB
  have HL := Lib.hid ((Blk.new w1 lv 24).kept hk)
  have HO2 := Lib.hid ((HO1.out.alloc _).kept hk)
  have HK2 := Lib.hid ((HK1.out.alloc _).trans hk)
  have cl := HL.out.cell
  have co := HO2.out.cell
  have fo := HO2.out.free
  have hob : Hid (¬ w.heap.size = bb) := Lib.hid fun e => by rw [e] at HO2; have := (HO2.out.same HB.out.head).2; simp at this
  have hog : Hid (¬ w.heap.size = g) := Lib.hid fun e => by rw [e] at HO2; have := (HO2.out.same HB.out.row).2; simp at this
  simp only [lv] at cl
  clear hB hbb hg hk HO1 HK1 HL hsz
  go_wp2_with fail
  refine bodyPost_ret (v := .tuple #[.agg lv, .pointer (some ⟨bb, 0, none⟩), .bool true]) (by simp [results, Try.results7, go_sem, co]) rfl (HFin.out bb g _ ?_ hbb' hgg' ?_)
  · iterate 14 refine Bnk.other ?_ hob.out hog.out _ _
    exact HB.out
  · iterate 14 refine Upd.setCell ?_ (.inr (Nat.le_refl _)) _
    exact HK2.out
end Go.Proofs.Ytccjgbmbggbmgaa
