/- A struct of two numbers that came in. No program in sight. -/
import Derived.Test.YticeionjlknlcaaOpen
namespace Go.Proofs.Yticeionjlknlcaa
set_option linter.unusedVariables false
open Go.RowKit Go.ChangeShapes Go.WideShapes Go.ChangeAt

/-- A struct of two ints: a closed fact. -/
def pairB (P : Program) (t : TypeId) : Bool :=
  match P.underlying t with
  | some (.struct fs) => fs.size == 2 && P.cellsOf t == 2 && (List.range 2).all fun i =>
      match fs[i]? with
      | some f => f.offset == i && P.cellsOf f.type == 1 && (match P.underlying f.type with | some (.int j) => j == .i64 | _ => false)
      | none => false
  | _ => false
theorem pair_of {H : Type} {enc : TypeId × Value → H} {P : Program} {w : World} {t : TypeId} (hB : pairB P t = true) {r : Reach} {base : Nat} {v : Value} (hv : Value.okWide P w r base t v) {d : DataW H} {p : List MemPlace}
    (h : DataW.Trod enc P w 0 (fun _ => true) true t v d p) : ∃ N S, v = .agg #[.int .i64 N, .int .i64 S] ∧ (Lit.int .i64 N).wf = true ∧ (Lit.int .i64 S).wf = true := by
  unfold pairB at hB
  split at hB
  · rename_i fs hu
    simp only [Bool.and_eq_true, beq_iff_eq] at hB
    obtain ⟨⟨hsz, hc⟩, hall⟩ := hB
    obtain ⟨cs, rfl, hcs⟩ := okWide_struct hu hv
    obtain ⟨fuel, hf⟩ := h
    obtain ⟨xs, n, _, _, hl, hxl, hfi⟩ := DataW.trod_struct hu hf
    have key : ∀ i, i < 2 → ∃ f, fs[i]? = some f ∧ (match P.underlying f.type with | some (.int j) => j == .i64 | _ => false) = true ∧ ∃ x, DataW.trod enc P w 0 (fun _ => true) true n f.type [cs[i]?.getD undef] = some x := by
      intro i hi
      have h1 := List.all_eq_true.1 hall i (List.mem_range.2 hi)
      have hfs : fs[i]? = some fs[i] := by simp [hsz, hi]
      rw [hfs] at h1
      simp only [Bool.and_eq_true, beq_iff_eq] at h1
      obtain ⟨⟨ho, h1c⟩, hk⟩ := h1
      have h2 := hfi i fs[i] hfs
      have hxi : xs[i]? = some xs[i] := by simp
      rw [ho, h1c, hxi] at h2
      have hd : ((Value.agg cs).cells.toList.drop i).take 1 = [cs[i]?.getD undef] := by
        have hlt : i < cs.toList.length := by simp; omega
        show (cs.toList.drop i).take 1 = _
        rw [List.drop_eq_getElem_cons hlt]
        have : i < cs.size := by omega
        simp [this]
      rw [hd] at h2
      exact ⟨fs[i], hfs, hk, _, h2⟩
    have num : ∀ i, i < 2 → ∃ m : Int, cs[i]?.getD undef = .int .i64 m ∧ (Lit.int .i64 m).wf = true := by
      intro i hi
      obtain ⟨f, hf1, hk, x, hx⟩ := key i (by omega)
      split at hk
      · rename_i j e1
        simp only [beq_iff_eq] at hk
        obtain ⟨m, hm, _, hw⟩ := DataW.trod_int e1 hx
        rw [hk] at hm hw
        exact ⟨m, by simpa using hm, hw⟩
      · cases hk
    obtain ⟨N, hN, wN⟩ := num 0 (by omega)
    obtain ⟨S, hS, wS⟩ := num 1 (by omega)
    refine ⟨N, S, ?_, wN, wS⟩
    congr 1
    have h4 : cs.size = 2 := by omega
    apply Array.ext
    · simp [h4]
    · intro i hi1 hi2
      have e3 : cs[i] = cs[i]?.getD undef := by simp [hi1]
      rw [e3]
      have : i = 0 ∨ i = 1 := by omega
      rcases this with rfl | rfl
      · exact hN
      · exact hS
  · cases hB
end Go.Proofs.Yticeionjlknlcaa
