/- NetSums: what sums do. No walk. -/
import Derived.Test.YtafabeehbifgaaaNetState
import Derived.Test.YtafabeehbifgaaaJoin
import Derived.Deep.AppendLies
namespace Go.Proofs.Ytafabeehbifgaaa
set_option linter.unusedVariables false
open Go.RowKit

theorem leftOf_is (ys : List Ar) : leftOf ys 4611686018427387904 = if (∀ a ∈ ys, 0 ≤ a.c) ∧ capsOf ys ≤ 4611686018427387904 then some (4611686018427387904 - capsOf ys) else none := by
  split
  · rename_i h; exact leftOf_some ys _ (by omega) h
  · rename_i h
    cases hl : leftOf ys 4611686018427387904 with
    | none => rfl
    | some m =>
      obtain ⟨h1, h2, h3⟩ := leftOf_inv ys _ m hl
      exact absurd ⟨h1, by have := h3 (by omega); omega⟩ h
theorem sum_ok {ys : List Ar} (h : (∀ a ∈ ys, 0 ≤ a.c) ∧ capsOf ys ≤ 4611686018427387904) : sumT ys = capsOf ys ∧ sumB ys = true := by
  unfold sumT sumB
  rw [leftOf_is, if_pos h]
  exact ⟨by simp only; omega, rfl⟩
theorem sum_no {ys : List Ar} (h : ¬ ((∀ a ∈ ys, 0 ≤ a.c) ∧ capsOf ys ≤ 4611686018427387904)) : sumT ys = 0 ∧ sumB ys = false := by
  unfold sumT sumB
  rw [leftOf_is, if_neg h]
  exact ⟨rfl, rfl⟩
theorem sum_same {xs ys : List Ar} (h : ∀ a, a ∈ xs ↔ a ∈ ys) (hc : capsOf xs = capsOf ys) : sumT xs = sumT ys ∧ sumB xs = sumB ys := by
  have e : ((∀ a ∈ xs, 0 ≤ a.c) ∧ capsOf xs ≤ 4611686018427387904) ↔ ((∀ a ∈ ys, 0 ≤ a.c) ∧ capsOf ys ≤ 4611686018427387904) := by
    rw [hc]
    constructor
    · rintro ⟨h1, h2⟩; exact ⟨fun a ha => h1 a ((h a).2 ha), h2⟩
    · rintro ⟨h1, h2⟩; exact ⟨fun a ha => h1 a ((h a).1 ha), h2⟩
  unfold sumT sumB
  rw [leftOf_is, leftOf_is, hc]
  by_cases hx : (∀ a ∈ xs, 0 ≤ a.c) ∧ capsOf ys ≤ 4611686018427387904
  · have hy := e.1 (by rw [hc]; exact hx)
    rw [if_pos hx, if_pos hy]; exact ⟨rfl, rfl⟩
  · have hy : ¬ ((∀ a ∈ ys, 0 ≤ a.c) ∧ capsOf ys ≤ 4611686018427387904) := fun hy => hx (by have := e.2 hy; rw [hc] at this; exact this)
    rw [if_neg hx, if_neg hy]; exact ⟨rfl, rfl⟩
theorem sum_rot (xs : List Ar) (k : Nat) : sumT (xs.drop k ++ xs.take k) = sumT xs ∧ sumB (xs.drop k ++ xs.take k) = sumB xs := by
  refine sum_same (fun a => ?_) ?_
  · rw [List.mem_append, Or.comm, ← List.mem_append, List.take_append_drop]
  · rw [capsOf_append, Int.add_comm, ← capsOf_append, List.take_append_drop]
/-- One capacity more. -/
theorem sum_more (xs : List Ar) (c : Int) : (sumB xs = false → sumB (xs ++ [⟨0, 0, c⟩]) = false ∧ sumT (xs ++ [⟨0, 0, c⟩]) = 0) ∧
    (sumB xs = true → 0 ≤ sumT xs ∧ sumT xs ≤ 4611686018427387904 ∧ (∀ a ∈ xs, 0 ≤ a.c ∧ a.c ≤ sumT xs) ∧
      ((c < 0 ∨ 4611686018427387904 - sumT xs < c) → sumB (xs ++ [⟨0, 0, c⟩]) = false ∧ sumT (xs ++ [⟨0, 0, c⟩]) = 0) ∧
      (0 ≤ c → c ≤ 4611686018427387904 - sumT xs → sumB (xs ++ [⟨0, 0, c⟩]) = true ∧ sumT (xs ++ [⟨0, 0, c⟩]) = sumT xs + c)) := by
  have hcap : capsOf (xs ++ [⟨0, 0, c⟩]) = capsOf xs + c := by rw [capsOf_append]; simp [capsOf]
  by_cases h : (∀ a ∈ xs, 0 ≤ a.c) ∧ capsOf xs ≤ 4611686018427387904
  · obtain ⟨h1, h2⟩ := sum_ok h
    refine ⟨fun e => (by rw [h2] at e; cases e), fun _ => ?_⟩
    rw [h1]
    refine ⟨capsOf_nonneg xs h.1, h.2, fun a ha => ⟨h.1 a ha, capsOf_ge xs h.1 a ha⟩, fun hc => ?_, fun h0 hc => ?_⟩
    · have hn : ¬ ((∀ a ∈ xs ++ [⟨0, 0, c⟩], 0 ≤ a.c) ∧ capsOf (xs ++ [⟨0, 0, c⟩]) ≤ 4611686018427387904) := by
        rintro ⟨k1, k2⟩
        have := k1 ⟨0, 0, c⟩ (by simp)
        simp only at this
        omega
      exact (sum_no hn).symm
    · have hy : (∀ a ∈ xs ++ [⟨0, 0, c⟩], 0 ≤ a.c) ∧ capsOf (xs ++ [⟨0, 0, c⟩]) ≤ 4611686018427387904 := by
        refine ⟨fun a ha => ?_, by omega⟩
        rw [List.mem_append] at ha
        rcases ha with ha | ha
        · exact h.1 a ha
        · simp at ha; subst ha; exact h0
      have := sum_ok hy
      exact ⟨this.2, by rw [this.1, hcap]⟩
  · obtain ⟨h1, h2⟩ := sum_no h
    refine ⟨fun _ => ?_, fun e => by rw [h2] at e; cases e⟩
    have hn : ¬ ((∀ a ∈ xs ++ [⟨0, 0, c⟩], 0 ≤ a.c) ∧ capsOf (xs ++ [⟨0, 0, c⟩]) ≤ 4611686018427387904) := by
      rintro ⟨k1, k2⟩
      have := k1 ⟨0, 0, c⟩ (by simp)
      simp only at this
      exact h ⟨fun a ha => k1 a (List.mem_append_left _ ha), by omega⟩
    exact (sum_no hn).symm
theorem Own.neBlk {w : World} {base b : Nat} {v : Value} {ys : List Ar} {arr : Array Value} {T : TypeId} (h : Own w base v ys) (hb : Blk w b arr T) (hT : T ≠ 31) : ¬ v.ownBlock = some b := by
  intro e
  rcases h.2 with ⟨rfl, _⟩ | ⟨g', cap, cur, rfl, _, hh, _⟩
  · cases e
  · cases e
    have := hh.symm.trans hb
    simp at this
    exact hT this.2.symm
/-- x[k:], where there is something behind. -/
theorem run_low {P : Program} {t e : TypeId} {size : Nat} (ht : P.underlying t = some (.slice e)) (hs : (P.info? e).map (fun i => i.size) = some size) (b off len cap k : Nat) (hk : k ≤ len) (hc : len ≤ cap) (hlt : k < cap) (w : World) :
    (Instr.slice t (.slice (some ⟨b, off, none⟩) len cap) (some (.int .i64 k)) none none).run P w = .ok (.slice (some ⟨b, off + k * size, none⟩) (len - k) (cap - k)) w := by
  obtain ⟨i, hi, hsz⟩ := Option.map_eq_some_iff.1 hs
  have h : ¬ cap = k := by omega
  by_cases h0 : k = 0
  · subst h0
    simp [Instr.slice, run_underlying ht, Instr.sliceBounds, Instr.sliceBound, asIntOf, sizeOf, typeInfo, hi, Result.andThen, Addr.add]
  · simp [Instr.slice, run_underlying ht, Instr.sliceBounds, Instr.sliceBound, asIntOf, sizeOf, typeInfo, hi, Result.andThen, Addr.add, hk, hsz, h]
theorem arsLow {w : World} {b off : Nat} {xs : List Ar} (h : Ars w (some ⟨b, off, none⟩) xs) (k : Nat) : Ars w (some ⟨b, off + k * 3, none⟩) (xs.drop k) := by
  rcases h with h | ⟨b', off', e, hc⟩
  · refine .inl ?_; rw [acells_drop, h]; simp
  · cases e
    refine .inr ⟨b, off + k * 3, rfl, fun i u hu => ?_⟩
    rw [acells_drop, List.getElem?_drop] at hu
    rw [Nat.add_assoc]
    exact hc _ _ hu
theorem arsNews {w : World} {ad : Addr} {xs : List Ar} (h : Ars w (some ad) xs) : ∀ j u, (acells xs)[j]? = some u → w.cell? (ad.add j) = some u := by
  intro j u hu
  rcases h with h | ⟨b', off', e, hc⟩
  · rw [h] at hu; cases hu
  · cases e
    rw [Addr.add_lit]
    exact hc j u hu
/-- append, at a step of a region that draws: something is there in the end. -/
theorem step_append_own {P : Program} {w : World} {ops : Array Oper} {o : Oper} {a : Act} {K : Act → World → Prop} {Q : Exit → Act → World → Prop} {E : Prop} (hgd : o.guard = none) (s x : Operand) (t : TypeId)
    (ho : o.op = .call { callee := .builtin .append, args := #[s, x], argTypes := #[t, t] })
    (base : Nat) (e : TypeId) (i : TypeInfo) (z : Value) (size bytes : Nat) (ht : P.underlying t = some (.slice e)) (hi : P.info? e = some i) (hz : i.zero = some z)
    (hsize : i.size = size) (hby : i.bytes = bytes) (hzs : z.cells.size = size) (hsz : 0 < size)
    (v : Value) (n : Nat) (xs : List Value) (hs : a.eval s = v) (hown : w.ownsRow base e size v n xs)
    (ad : Addr) (m c : Nat) (news : List Value) (hx : a.eval x = .slice (some ad) m c) (hl : news.length = m * size) (hnews : ∀ j u, news[j]? = some u → w.cell? (ad.add j) = some u) (h1 : ∀ u ∈ news, u.oneCell' = true)
    (tot : Nat) (htot : n + m = tot) (hm : 0 < tot) (h63 : tot ≤ maxLen) (hbytes : tot * bytes ≤ 140737488355328) (hbase : base ≤ w.heap.size)
    (h : ∀ g cap w', w'.ownsRow base e size (.slice (some ⟨g, 0, none⟩) tot cap) tot (xs ++ news) → w.grownBy w' v.ownBlock → K (a.put o.dst (.slice (some ⟨g, 0, none⟩) tot cap)) w') :
    if Region.wanted o (yielded ops a.tmps) = true then Oper.wp P o a w K Q else E := by
  subst htot
  have hw : Region.wanted o (yielded ops a.tmps) = true := by simp [Region.wanted, hgd]
  rw [if_pos hw]
  refine wp_append_own w s x t ho base e i z size bytes ht hi hz hsize hby hzs hsz v n xs hs hown ad m c news hx hl hnews h1 h63 hbytes hbase fun v' w' h2 h3 _ => ?_
  obtain ⟨g, cap, rfl, _, _⟩ := h2.form hm
  exact h g cap w' h2 h3
end Go.Proofs.Ytafabeehbifgaaa
