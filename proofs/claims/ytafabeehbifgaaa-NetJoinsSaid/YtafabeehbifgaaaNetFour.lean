/- The chapter's net; with more arcs. -/
import Derived.Test.YtafabeehbifgaaaNetOwn
namespace Go.Proofs.Ytafabeehbifgaaa
set_option linter.unusedVariables false
open Go.RowKit

def fourL : List Ar := [⟨0, 1, 5⟩, ⟨0, 2, 4⟩, ⟨1, 3, 3⟩, ⟨2, 3, 6⟩, ⟨1, 2, 2⟩]
/-- A literal row of arcs. -/
theorem Own.lit (w : World) (ys : List Ar) (hm : ys.length ≤ maxLen) : Own (w.alloc (.cells (acells ys).toArray 31)) w.heap.size (.slice (some ⟨w.heap.size, 0, none⟩) ys.length ys.length) ys := by
  have := World.ownsRow_lit (base := w.heap.size) (e := 31) (size := 3) w (acells ys).toArray ys.length (Nat.le_refl _) hm (by simp [acells_len])
  exact this
set_option maxHeartbeats 1000000 in
theorem Four_any (w : World) : Calls Try.prog 17 #[] w (CopyIs 4 0 3 fourL w) := by
  go_enter Try.func17, Try.ntmps17
  go_wp2_with fail
  have hO := Own.lit (w.alloc (.cells #[.int .i64 4, .int .i64 0, .int .i64 3, .slice (some ⟨w.heap.size + 1, 0, none⟩) 5 5] 24)) fourL (by decide)
  have e1 : (w.alloc (.cells #[.int .i64 4, .int .i64 0, .int .i64 3, .slice (some ⟨w.heap.size + 1, 0, none⟩) 5 5] 24)).heap.size = w.heap.size + 1 := by simp
  have hB := (Blk.new w #[.int .i64 4, .int .i64 0, .int .i64 3, .slice (some ⟨w.heap.size + 1, 0, none⟩) 5 5] 24).alloc (.cells (acells fourL).toArray 31)
  have hK := ((Upd.refl (fun _ => False) w).alloc (.cells #[.int .i64 4, .int .i64 0, .int .i64 3, .slice (some ⟨w.heap.size + 1, 0, none⟩) 5 5] 24)).alloc (.cells (acells fourL).toArray 31)
  rw [e1] at hO
  have hc := hB.cell
  simp only [acells, fourL] at hO hK hc
  refine bodyPost_ret (v := .agg #[.int .i64 4, .int .i64 0, .int .i64 3, .slice (some ⟨w.heap.size + 1, 0, none⟩) 5 5]) ?_ rfl ?_
  · simp [results, go_sem, hc]
  · exact ⟨_, _, rfl, Own.base hO (by omega), hK⟩
set_option maxHeartbeats 1000000 in
/-- .. and more arcs. -/
theorem with_any (a : Option Addr) (c : Nat) (ys : List Ar) (w : World) (h : Ars w a ys) (ha : a.isSome = true) (hm : ys.length ≤ 1000) :
    Calls Try.prog 18 #[.slice a ys.length c] w (CopyIs 4 0 3 (fourL ++ ys) w) := by
  obtain ⟨i0, hi, hz0, hz1, hz2⟩ := info_parts infoArc
  have HF := Lib.hid (Four_any (w.alloc (.cells #[.int .i64 0, .int .i64 0, .int .i64 0, .slice none 0 0] 24)))
  have HX := Lib.hid h
  have HB := Lib.hid (Blk.new w #[.int .i64 0, .int .i64 0, .int .i64 0, .slice none 0 0] 24)
  have HK := Lib.hid ((Upd.refl (fun _ => False) w).alloc (.cells #[.int .i64 0, .int .i64 0, .int .i64 0, .slice none 0 0] 24))
  obtain ⟨ad, rfl⟩ := Option.isSome_iff_exists.1 ha
  clear h ha
  go_enter Try.func18, Try.ntmps18
  go_wp2_with fail
  refine HF.out.mono ?_
  rintro e w1 ⟨a1, c1, rfl, hO, hk⟩
  have HO := Lib.hid (hO.base (base' := w.heap.size + 1) (by simp))
  have HB1 := Lib.hid (HB.out.kept hk)
  have HK1 := Lib.hid (HK.out.trans hk)
  have HX1 := Lib.hid (HX.out.kept HK1.out)
  clear hO hk HB HK HX HF
  have hl5 : fourL.length = 5 := rfl
  have hsz : w.heap.size < w1.heap.size := HB1.out.lt
  have HB2 := Lib.hid (Blk.new w1 #[.int .i64 4, .int .i64 0, .int .i64 3, .slice a1 5 c1] 24)
  go_wp2_with (at_builtin; refine wpList_append_own _ rfl _ _ 22 rfl (w.heap.size + 1) 31 i0 (.agg #[.int .i64 0, .int .i64 0, .int .i64 0]) 3 24 Try.underlying22 hi hz0 hz1 hz2 rfl (by decide) _ 5 (acells fourL) rfl (HO.out.kept ((Upd.refl _ _).alloc _)) ad ys.length c (acells ys) rfl (acells_len ys) ?c1 ?c2 ?c3 ?c4 ?c5 ?_)
  case c1 =>
    intro j u hu
    rcases HX1.out with h0 | ⟨b, off, e, hc⟩
    · rw [h0] at hu; cases hu
    · cases e
      have := hc j u hu
      rw [Addr.add_lit]
      exact (keptCells ((Upd.refl _ _).alloc _) _ (by rw [this]; rfl)).trans this
  case c2 => exact acells_one ys
  case c3 => unfold maxLen; omega
  case c4 => omega
  case c5 => simp; omega
  intro v' w4 hown hgrow hnil
  have hU : Upd (fun k => w.heap.size + 1 ≤ k ∧ k < w1.heap.size) (w1.alloc (.cells #[.int .i64 4, .int .i64 0, .int .i64 3, .slice a1 5 c1] 24)) w4 :=
    Upd.grown (Upd.refl _ _) hgrow (fun k hk => .inl (World.ownsRow.lt HO.out k hk))
  have HO4 : Hid (Own w4 (w.heap.size + 1) v' (fourL ++ ys)) := Lib.hid (by
    unfold Own
    rw [acells_append, List.length_append]
    exact hown)
  obtain ⟨a4, c4, rfl, _⟩ := HO4.out.mem
  have hlen : (fourL ++ ys).length = 5 + ys.length := by simp [hl5]
  have HB4 := Lib.hid (HB2.out.upd hU (by omega))
  have HB5 := Lib.hid ((HB1.out.alloc (.cells #[.int .i64 4, .int .i64 0, .int .i64 3, .slice a1 5 c1] 24)).upd hU (by omega))
  have HK5 := Lib.hid ((HK1.out.alloc (.cells #[.int .i64 4, .int .i64 0, .int .i64 3, .slice a1 5 c1] 24)).then hU (fun i hi h => by omega))
  have hc4 := HB4.out.cell
  have hf4 := HB4.out.free
  have hc5 := HB5.out.cell
  have hf5 := HB5.out.free
  generalize w1.heap.size = nb at hsz hc4 hf4 HB4
  clear hown hgrow hnil hU HB1 HB2 HK1 HX1 HO
  have hne : ¬ w.heap.size = nb := by omega
  have hne2 : ¬ nb = w.heap.size := by omega
  go_wp2
  have hU0 : Upd (fun k => k = nb ∨ k = w.heap.size) w4 (w4.setCell ⟨nb, 3, none⟩ (.slice a4 (5 + ys.length) c4)) := Upd.setCell (Upd.refl _ _) (.inl (.inl rfl)) _
  obtain ⟨w5, hw5, hB6, hU6⟩ := (Blk.other HB5.out (p := ⟨nb, 3, none⟩) hne (.slice a4 (5 + ys.length) c4)).put4 (.int .i64 4) (.int .i64 0) (.int .i64 3) (.slice a4 (5 + ys.length) c4)
  rw [← hw5]
  have hc6 := hB6.cell
  have hU := Upd.trans hU0 (hU6.wide (S' := fun k => k = nb ∨ k = w.heap.size) (fun k _ h => .inr h))
  clear hw5 hc5 hf5 hc4 hf4
  refine bodyPost_ret (v := .agg #[.int .i64 4, .int .i64 0, .int .i64 3, .slice a4 (5 + ys.length) c4]) ?_ rfl ?_
  · simp [results, go_sem, hc6]
  · refine ⟨a4, c4, by rw [hlen], (HO4.out.far hU (fun g hg h => ?_)).base (by omega), HK5.out.then hU (fun i hi h => by omega)⟩
    subst hg
    have h1 := HO4.out.ne HB4.out (by decide)
    have h2 := HO4.out.ne HB5.out (by decide)
    omega
end Go.Proofs.Ytafabeehbifgaaa
