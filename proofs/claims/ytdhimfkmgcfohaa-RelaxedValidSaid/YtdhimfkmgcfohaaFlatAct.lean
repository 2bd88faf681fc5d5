/- A row of structs: a struct of numbers, a yes or no, a small number. -/
import Derived.Test.YtdhimfkmgcfohaaProg
import Derived.Test.YtdhimfkmgcfohaaOpen
namespace Go.Proofs.Ytdhimfkmgcfohaa
set_option linter.unusedVariables false
open Go.RowKit Go.ChangeShapes Go.WideShapes Go.ChangeAt Go.Deep

def nestB (P : Program) (t : TypeId) (k1 : List (Option IntKind)) : Bool :=
  match P.underlying t with
  | some (.struct fs) => fs.size == 3 && P.cellsOf t == k1.length + 2 && (match fs[0]?, fs[1]?, fs[2]? with
    | some f0, some f1, some f2 => (f0.offset == 0 && P.cellsOf f0.type == k1.length && flatB P f0.type k1) && (f1.offset == k1.length && P.cellsOf f1.type == 1 && (match P.underlying f1.type with | some .bool => true | _ => false)) && (f2.offset == k1.length + 1 && P.cellsOf f2.type == 1 && (match P.underlying f2.type with | some (.int j) => j == .u8 | _ => false))
    | _, _, _ => false)
  | _ => false
theorem fits_append : ∀ {k1 k2 : List (Option IntKind)} {v1 v2 : List Value}, fits k1 v1 → fits k2 v2 → fits (k1 ++ k2) (v1 ++ v2)
  | [], _, [], _, _, h => h
  | some _ :: _, _, _ :: _, _, h1, h2 => ⟨h1.1, fits_append h1.2 h2⟩
  | none :: _, _, _ :: _, _, h1, h2 => ⟨h1.1, fits_append h1.2 h2⟩
  | [], _, _ :: _, _, h, _ => h.elim
  | some _ :: _, _, [], _, h, _ => h.elim
  | none :: _, _, [], _, h, _ => h.elim
section
variable {H : Type} {enc : TypeId × Value → H} {P : Program} {w : World}
theorem nestB_size {t : TypeId} {k1 : List (Option IntKind)} (h : nestB P t k1 = true) : P.cellsOf t = k1.length + 2 := by
  unfold nestB at h
  split at h
  · simp only [Bool.and_eq_true, beq_iff_eq] at h; exact h.1.2
  · cases h
theorem nest_trod {t : TypeId} {k1 : List (Option IntKind)} (hB : nestB P t k1 = true) {base : Nat} {spare : Nat → Bool} {held : Bool} {fuel : Nat} {cs : List Value} {x : DataW H × List MemPlace}
    (h : DataW.trod enc P w base spare held fuel t cs = some x) : fits (k1 ++ [none, some .u8]) cs := by
  have hs := nestB_size hB
  unfold nestB at hB
  split at hB
  · rename_i fs hu
    simp only [Bool.and_eq_true] at hB
    obtain ⟨-, hB⟩ := hB
    obtain ⟨xs, n, _, _, hl, hxl, hf⟩ := DataW.trod_struct hu h
    split at hB
    · rename_i f0 f1 f2 e0 e1 e2
      simp only [Bool.and_eq_true, beq_iff_eq] at hB
      obtain ⟨⟨⟨⟨o0, s0⟩, b0⟩, ⟨⟨o1, s1⟩, b1⟩⟩, ⟨o2, s2⟩, b2⟩ := hB
      have g0 := hf 0 f0 e0
      have g1 := hf 1 f1 e1
      have g2 := hf 2 f2 e2
      rw [o0, s0] at g0
      rw [o1, s1] at g1
      rw [o2, s2] at g2
      have hcl : cs.length = k1.length + 2 := by omega
      have hx : ∀ i, i < fs.size → ∃ y, xs[i]? = some y := fun i hi => ⟨xs[i]'(by omega), by simp⟩
      obtain ⟨y0, hy0⟩ := hx 0 (Array.getElem?_eq_some_iff.1 e0).1
      obtain ⟨y1, hy1⟩ := hx 1 (Array.getElem?_eq_some_iff.1 e1).1
      obtain ⟨y2, hy2⟩ := hx 2 (Array.getElem?_eq_some_iff.1 e2).1
      rw [hy0] at g0
      rw [hy1] at g1
      rw [hy2] at g2
      have q0 := fits_trod b0 g0
      have hcs : cs = cs.take k1.length ++ ((cs.drop k1.length).take 1 ++ (cs.drop (k1.length + 1)).take 1) := by
        have h1 : (cs.drop (k1.length + 1)).take 1 = cs.drop (k1.length + 1) := List.take_of_length_le (by simp; omega)
        have h2 : cs.drop (k1.length + 1) = (cs.drop k1.length).drop 1 := by simp [List.drop_drop]
        rw [h1, h2, List.take_append_drop, List.take_append_drop]
      rw [hcs]
      refine fits_append (by simpa using q0) ?_
      split at b1
      · rename_i u1
        obtain ⟨b, hb, _⟩ := DataW.trod_bool u1 g1
        split at b2
        · rename_i j u2
          obtain rfl : j = .u8 := by simpa using b2
          obtain ⟨z, hz, _, hw⟩ := DataW.trod_int u2 g2
          rw [hb, hz]
          exact ⟨⟨b, rfl⟩, ⟨z, rfl, hw⟩, trivial⟩
        · cases b2
      · cases b1
    · cases hB
  · cases hB
theorem nestRow_of {t e : TypeId} {ks : List (Option IntKind)} (ht : P.underlying t = some (.slice e)) {k1 : List (Option IntKind)} (hke : ks = k1 ++ [none, some .u8]) (he : nestB P e k1 = true) (hk0 : 0 < ks.length) {a : Option Addr} {len cap : Nat} {d : DataW H} {p : List MemPlace}
    (h : DataW.Trod enc P w 0 (fun _ => true) true t (.slice a len cap) d p) : ∃ els : List (List Value), len = els.length ∧ FlatRow ks w a cap els ∧ (∀ x ∈ els, fits ks x) := by
  have hsz : P.cellsOf e = ks.length := by rw [hke]; simpa using nestB_size he
  obtain ⟨fuel, hf⟩ := h
  rcases open_slice ht hf with ⟨hcs, _⟩ | ⟨x, l, c, m, n, D, Pl, hcs, _, hl, hm, hmm, _, hx⟩
  · simp [Value.cells] at hcs
    obtain ⟨rfl, rfl, rfl⟩ := hcs
    exact ⟨[], rfl, ⟨Nat.le_refl _, Nat.zero_le _, .inl rfl, fun _ h => by cases h⟩, fun _ h => by cases h⟩
  · simp [Value.cells] at hcs
    obtain ⟨rfl, rfl, rfl⟩ := hcs
    have hm' : m = cap := by simpa using hmm
    rw [hsz] at hx
    have hall : ∃ f : Nat → List Value, ∀ i, i < len → w.cells? 0 (x.add (i * ks.length)) ks.length = some (f i) ∧ fits ks (f i) := by
      refine ⟨fun i => (w.cells? 0 (x.add (i * ks.length)) ks.length).getD [], fun i hi => ?_⟩
      obtain ⟨cs', h1, h2⟩ := hx i (by omega)
      refine ⟨?_, ?_⟩
      · simp only [h1, Option.getD_some]
      · simp only [h1, Option.getD_some]
        rw [hke]; exact nest_trod he h2
    obtain ⟨f, hf'⟩ := hall
    have hfit : ∀ y ∈ (List.range len).map f, fits ks y := by
      intro y hy
      obtain ⟨i, hi, rfl⟩ := List.mem_map.1 hy
      exact (hf' i (List.mem_range.1 hi)).2
    refine ⟨(List.range len).map f, by simp, ⟨by simpa using hl, hm, ?_, hfit⟩, hfit⟩
    by_cases h0 : len = 0
    · exact .inl (by simpa using h0)
    · have hl0 : 0 < len := by omega
      have hx0 : x = ⟨x.block, x.off, none⟩ := by
        obtain ⟨h1, h2⟩ := hf' 0 hl0
        obtain ⟨h3, h4⟩ := cells?_get h1
        have h5 := h4 0 ((f 0)[0]'(by omega)) (by simp)
        rw [Nat.zero_mul] at h5
        have h6 : (x.add 0).add 0 = x.add 0 := by unfold Addr.add; split <;> simp_all
        rw [h6] at h5
        exact spotless h5
      refine .inr ⟨x.block, x.off, congrArg some hx0, fun i hi j v hv => ?_⟩
      have hi' : i < len := by simpa using hi
      obtain ⟨h1, _⟩ := hf' i hi'
      have h2 := (cells?_get h1).2 j v (by simpa using hv)
      rw [hx0, Addr.add_lit, Addr.add_lit] at h2
      exact h2
end
theorem nest41 : nestB Try.prog 41 [some .i64, some .u8, some .i64, some .i64, some .i64, some .i64, some .i64] = true := by kernel_rfl
end Go.Proofs.Ytdhimfkmgcfohaa
