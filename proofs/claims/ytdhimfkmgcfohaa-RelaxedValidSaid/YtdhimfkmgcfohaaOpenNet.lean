/- A net that came in: three numbers and a row of arcs. No program in sight. -/
import Derived.Test.YtdhimfkmgcfohaaOpen
namespace Go.Proofs.Ytdhimfkmgcfohaa
set_option linter.unusedVariables false
open Go.RowKit Go.ChangeShapes Go.WideShapes Go.ChangeAt Go.Deep

/-- A struct of three ints and a slice: a closed fact. -/
def netB (P : Program) (t e : TypeId) : Bool :=
  match P.underlying t with
  | some (.struct fs) => fs.size == 4 && P.cellsOf t == 4 && (List.range 4).all fun i =>
      match fs[i]? with
      | some f => f.offset == i && P.cellsOf f.type == 1 && (match P.underlying f.type with | some (.int j) => decide (i < 3) && j == .i64 | some (.slice e') => i == 3 && e' == e | _ => false)
      | none => false
  | _ => false
theorem net_of {H : Type} {enc : TypeId × Value → H} {P : Program} {w : World} {t e : TypeId} {ks : List (Option IntKind)} (hB : netB P t e = true) (he : flatB P e ks = true) (hk0 : 0 < ks.length) {r : Reach} {base : Nat} {v : Value} (hv : Value.okWide P w r base t v) {d : DataW H} {p : List MemPlace}
    (h : DataW.Trod enc P w 0 (fun _ => true) true t v d p) : ∃ N S T a cap els, v = .agg #[.int .i64 N, .int .i64 S, .int .i64 T, .slice a els.length cap] ∧ (Lit.int .i64 N).wf = true ∧ (Lit.int .i64 S).wf = true ∧ (Lit.int .i64 T).wf = true ∧ FlatRow ks w a cap els ∧ (∀ x ∈ els, fits ks x) := by
  unfold netB at hB
  split at hB
  · rename_i fs hu
    simp only [Bool.and_eq_true, beq_iff_eq] at hB
    obtain ⟨⟨hsz, hc⟩, hall⟩ := hB
    obtain ⟨cs, rfl, hcs⟩ := okWide_struct hu hv
    obtain ⟨fuel, hf⟩ := h
    obtain ⟨xs, n, _, _, hl, hxl, hfi⟩ := DataW.trod_struct hu hf
    have key : ∀ i, i < 4 → ∃ f, fs[i]? = some f ∧ (match P.underlying f.type with | some (.int j) => decide (i < 3) && j == .i64 | some (.slice e') => i == 3 && e' == e | _ => false) = true ∧ ∃ x, DataW.trod enc P w 0 (fun _ => true) true n f.type [cs[i]?.getD undef] = some x := by
      intro i hi
      have h1 := List.all_eq_true.1 hall i (List.mem_range.2 hi)
      have hfs : fs[i]? = some fs[i] := by simp [hsz, hi]
      rw [hfs] at h1
      simp only [Bool.and_eq_true, beq_iff_eq] at h1
      obtain ⟨⟨ho, h1c⟩, hk⟩ := h1
      have h2 := hfi i fs[i] hfs
      have hxi : xs[i]? = some xs[i] := by simp
      rw [ho, h1c, hxi] at h2
      have hd : ((Value.agg cs).cells.toList.drop i).take 1 = [cs[i]?.getD undef] := by
        have hlt : i < cs.toList.length := by simp; omega
        show (cs.toList.drop i).take 1 = _
        rw [List.drop_eq_getElem_cons hlt]
        have : i < cs.size := by omega
        simp [this]
      rw [hd] at h2
      exact ⟨fs[i], hfs, hk, _, h2⟩
    have num : ∀ i, i < 3 → ∃ m : Int, cs[i]?.getD undef = .int .i64 m ∧ (Lit.int .i64 m).wf = true := by
      intro i hi
      obtain ⟨f, hf1, hk, x, hx⟩ := key i (by omega)
      split at hk
      · rename_i j e1
        simp only [Bool.and_eq_true, beq_iff_eq] at hk
        obtain ⟨m, hm, _, hw⟩ := DataW.trod_int e1 hx
        rw [hk.2] at hm hw
        exact ⟨m, by simpa using hm, hw⟩
      · simp only [Bool.and_eq_true, beq_iff_eq] at hk; omega
      · cases hk
    obtain ⟨N, hN, wN⟩ := num 0 (by omega)
    obtain ⟨S, hS, wS⟩ := num 1 (by omega)
    obtain ⟨T, hT, wT⟩ := num 2 (by omega)
    obtain ⟨f, hf1, hk, x, hx⟩ := key 3 (by omega)
    split at hk
    · simp at hk
    · rename_i e' e1
      simp only [Bool.and_eq_true, beq_iff_eq] at hk
      obtain ⟨_, rfl⟩ := hk
      have hsl : ∃ a len cap, cs[3]?.getD undef = .slice a len cap := by
        rcases DataW.trod_slice e1 hx with ⟨hcs', _⟩ | ⟨a, len, cap, _, _, _, _, hcs', _⟩
        · exact ⟨none, 0, 0, by simpa using hcs'⟩
        · exact ⟨some a, len, cap, by simpa using hcs'⟩
      obtain ⟨a, len, cap, hsl⟩ := hsl
      rw [hsl] at hx
      obtain ⟨els, rfl, hrow, hfit⟩ := flatRow_of e1 he hk0 (a := a) (len := len) (cap := cap) (d := x.1) (p := x.2) ⟨n, by simpa [Value.cells] using hx⟩
      refine ⟨N, S, T, a, cap, els, ?_, wN, wS, wT, hrow, hfit⟩
      congr 1
      have h4 : cs.size = 4 := by omega
      apply Array.ext
      · simp [h4]
      · intro i hi1 hi2
        have e3 : cs[i] = cs[i]?.getD undef := by simp [hi1]
        rw [e3]
        have : i = 0 ∨ i = 1 ∨ i = 2 ∨ i = 3 := by omega
        rcases this with rfl | rfl | rfl | rfl
        · exact hN
        · exact hS
        · exact hT
        · exact hsl
    · cases hk
  · cases hB
end Go.Proofs.Ytdhimfkmgcfohaa
