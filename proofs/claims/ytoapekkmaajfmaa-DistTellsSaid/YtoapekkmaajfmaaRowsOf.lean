/- Rows of rows: each row in a block of its own (printed by gen_distrows.py). No walk. -/
import Derived.Test.YtoapekkmaajfmaaPush
import Derived.Test.YtoapekkmaajfmaaGst
import Derived.Test.YtoapekkmaajfmaaCopyRow
namespace Go.Proofs.Ytoapekkmaajfmaa
set_option linter.unusedVariables false
set_option linter.unusedSimpArgs false
open Go.RowKit

/-- One thing, just made, is appended to a row of one's own, of elements of one cell. -/
theorem run_pushw {P : Program} (W : World) (base : Nat) (t ty e : TypeId) (i : TypeInfo) (z : Value) (bytes : Nat) (ht : P.underlying t = some (.slice e)) (hi : P.info? e = some i) (hz : i.zero = some z)
    (hsize : i.size = 1) (hby : i.bytes = bytes) (hzs : z.cells.size = 1) (hb8 : bytes ≤ 1000)
    (v : Value) (n : Nat) (xs : List Value) (hown : W.ownsRow base e 1 v n xs) (u : Value) (h1 : u.oneCell' = true) (hn : n ≤ 2000000) (hbase : base ≤ W.heap.size) :
    ∃ g cap w', (Builtin.append_ #[t, t] ty #[v, .slice (some ⟨W.heap.size, 0, none⟩) 1 1]).run P (W.alloc (.cells #[u] e)) = .ok (.slice (some ⟨g, 0, none⟩) (n + 1) cap) w' ∧
      w'.ownsRow base e 1 (.slice (some ⟨g, 0, none⟩) (n + 1) cap) (n + 1) (xs ++ [u]) ∧ Grew W w' v (.slice (some ⟨g, 0, none⟩) (n + 1) cap) := by
  have hK := (Upd.refl (fun _ => False) W).alloc (.cells #[u] e)
  have hown' := hown.alloc (.cells #[u] e)
  have hnews : ∀ (j : Nat) (x : Value), [u][j]? = some x → (W.alloc (.cells #[u] e)).cell? ((⟨W.heap.size, 0, none⟩ : Addr).add j) = some x := cells_new W #[u] e
  have hone : ∀ x ∈ [u], x.oneCell' = true := by intro x hx; simp at hx; subst hx; exact h1
  have hsz : W.heap.size ≤ (W.alloc (.cells #[u] e)).heap.size := hK.size
  have hl63 : n + 1 ≤ maxLen := by unfold maxLen; omega
  have hbb : (n + 1) * bytes ≤ 140737488355328 := Nat.le_trans (Nat.mul_le_mul (show n + 1 ≤ 2000001 by omega) hb8) (by decide)
  have key : ∀ b', W.ownsRow b' e 1 v n xs → b' ≤ W.heap.size → ∃ v' w', (Builtin.append_ #[t, t] ty #[v, .slice (some ⟨W.heap.size, 0, none⟩) 1 1]).run P (W.alloc (.cells #[u] e)) = .ok v' w' ∧ w'.ownsRow b' e 1 v' (n + 1) (xs ++ [u]) ∧ (W.alloc (.cells #[u] e)).grownBy w' v.ownBlock := by
    intro b' ho hb'
    obtain ⟨v', w', hr, h2, h3, _⟩ := run_append_own (P := P) (W.alloc (.cells #[u] e)) b' t ty e i z 1 bytes ht hi hz hsize hby hzs (by omega) v n xs (ho.alloc _) ⟨W.heap.size, 0, none⟩ 1 1 [u] rfl hnews hone hl63 hbb (by omega)
    exact ⟨v', w', hr, h2, h3⟩
  obtain ⟨v', w', hr, h2, h3⟩ := key base hown hbase
  obtain ⟨g, cap, rfl, _⟩ := h2.form (by omega)
  refine ⟨g, cap, w', hr, h2, Upd.grown ((Upd.refl (fun k => v.ownBlock = some k) W).alloc _) h3 (fun k hk => .inl hk), fun k hk => ?_⟩
  cases hk
  rcases hown.2 with ⟨rfl, rfl⟩ | ⟨g0, cap0, cur0, rfl, hb0, hg0, hnc, hcm, hcs, htake⟩
  · right
    have hx : xs = [] := List.eq_nil_of_length_eq_zero (by simpa using hown.1)
    subst hx
    obtain ⟨v2, w2, hr2, h22, _⟩ := key W.heap.size (World.ownsRow_nil _ _ _ _) (Nat.le_refl _)
    rw [hr] at hr2
    cases hr2
    exact (World.ownsRow.lt h22 g rfl).1
  · by_cases hroom : n + 1 ≤ cap0
    · left
      have hg1 : (W.alloc (.cells #[u] e)).heap[g0]? = some (.cells cur0 e (0, 0)) := by
        rw [hK.block g0 (Array.getElem?_eq_some_iff.1 hg0).1 (fun f => f)]; exact hg0
      have hr2 := run_append_room (P := P) (W.alloc (.cells #[u] e)) t ty e i ht hi g0 n cap0 cur0 hg1 ⟨W.heap.size, 0, none⟩ 1 1 [u] (by rw [hsize]; rfl) hnews hone hroom (by rw [hsize, hcs]; simp; omega)
      rw [hr] at hr2
      cases hr2
      rfl
    · right
      have holds : ∀ j x, xs[j]? = some x → (W.alloc (.cells #[u] e)).cell? ((⟨g0, 0, none⟩ : Addr).add j) = some x := hown'.cells (g := g0) rfl
      have hr2 := run_append_grow (P := P) (W.alloc (.cells #[u] e)) t ty e i z ht hi hz ⟨g0, 0, none⟩ n cap0 xs (by rw [hsize]; exact hown.1) holds ⟨W.heap.size, 0, none⟩ 1 1 [u] (by rw [hsize]; rfl) hnews (by omega) (by omega) (growslice_fits (by omega) (by rw [hby]; exact hbb))
      rw [hr] at hr2
      cases hr2
      exact hsz
theorem wpList_pushw {P : Program} {W : World} {ops : Array Oper} {rest : List Oper} {o : Oper} {a : Act} {Q : Exit → Act → World → Prop} (hgd : o.guard = none) (s x : Operand) (t : TypeId)
    (ho : o.op = .call { callee := .builtin .append, args := #[s, x], argTypes := #[t, t] })
    (base : Nat) (e : TypeId) (i : TypeInfo) (z : Value) (bytes : Nat) (ht : P.underlying t = some (.slice e)) (hi : P.info? e = some i) (hz : i.zero = some z)
    (hsize : i.size = 1) (hby : i.bytes = bytes) (hzs : z.cells.size = 1) (hb8 : bytes ≤ 1000)
    (v : Value) (n : Nat) (xs : List Value) (hs : a.eval s = v) (hown : W.ownsRow base e 1 v n xs) (u : Value) (h1 : u.oneCell' = true) (hx : a.eval x = .slice (some ⟨W.heap.size, 0, none⟩) 1 1) (hn : n ≤ 2000000) (hbase : base ≤ W.heap.size)
    (h : ∀ g cap w', w'.ownsRow base e 1 (.slice (some ⟨g, 0, none⟩) (n + 1) cap) (n + 1) (xs ++ [u]) → Grew W w' v (.slice (some ⟨g, 0, none⟩) (n + 1) cap) → wpList P ops Q rest (a.put o.dst (.slice (some ⟨g, 0, none⟩) (n + 1) cap)) w') :
    wpList P ops Q (o :: rest) a (W.alloc (.cells #[u] e)) := by
  obtain ⟨g, cap, w', hr, h2, h3⟩ := run_pushw (P := P) W base t o.type e i z bytes ht hi hz hsize hby hzs hb8 v n xs hown u h1 hn hbase
  refine wpList_plain hgd fun K hK => ?_
  unfold Oper.wp execOp
  simp only [ho, resolve, invoke, builtin, Sem.run_bind, Sem.run_pure, Result.andThen_ok, List.map_toArray, List.map_cons, List.map_nil, hs, hx, hr]
  exact hK _ _ (h g cap w' h2 h3)

theorem infoRow : (Try.prog.info? 27).map (fun i => (i.zero, i.size, i.bytes)) = some (some (.slice none 0 0), 1, 24) := by kernel_rfl
def lenV : Value → Nat
  | .slice _ l _ => l
  | _ => 0
/-- A row of rows of one's own. -/
structure RR (w wr : World) (v : Value) (L : Nat) (R : Nat → List Nat) : Prop where
  kp : Kept w wr
  ex : ∃ vs, wr.ownsRow w.heap.size 27 1 v L vs ∧ (∀ j, j < L → ∃ u, vs[j]? = some u ∧ wr.ownsRow w.heap.size 3 1 u (R j).length (nv (R j))) ∧ (∀ (i j : Nat) (u u' : Value), vs[i]? = some u → vs[j]? = some u' → i ≠ j → FarV u u')
theorem RR.nil (w : World) (R : Nat → List Nat) : RR w w (.slice none 0 0) 0 R := ⟨Upd.refl _ _, [], World.ownsRow_nil _ _ _ _, fun j h => by omega, fun i j u u' h => by simp at h⟩
theorem RR.kept {w wr w' : World} {v : Value} {L : Nat} {R : Nat → List Nat} (h : RR w wr v L R) (k : Kept wr w') : RR w w' v L R := by
  obtain ⟨vs, h1, h2, h3⟩ := h.ex
  refine ⟨h.kp.trans k, vs, ownsRow_upd h1 k (fun _ _ f => f), fun j hj => ?_, h3⟩
  obtain ⟨u, e1, e2⟩ := h2 j hj
  exact ⟨u, e1, ownsRow_upd e2 k (fun _ _ f => f)⟩
theorem RR.congr {w wr : World} {v : Value} {L : Nat} {R R' : Nat → List Nat} (h : RR w wr v L R) (k : ∀ j, j < L → R j = R' j) : RR w wr v L R' := by
  obtain ⟨vs, h1, h2, h3⟩ := h.ex
  refine ⟨h.kp, vs, h1, fun j hj => ?_, h3⟩
  rw [← k j hj]
  exact h2 j hj
/-- One more row, with nothing in it. -/
theorem RR.grow {w wr w' : World} {v v' : Value} {L : Nat} {R : Nat → List Nat} (h : RR w wr v L R) {vs : List Value} (h1 : wr.ownsRow w.heap.size 27 1 v L vs) (h2 : ∀ j, j < L → ∃ u, vs[j]? = some u ∧ wr.ownsRow w.heap.size 3 1 u (R j).length (nv (R j))) (h3 : ∀ (i j : Nat) (u u' : Value), vs[i]? = some u → vs[j]? = some u' → i ≠ j → FarV u u')
    (ho : w'.ownsRow w.heap.size 27 1 v' (L + 1) (vs ++ [.slice none 0 0])) (hg : Grew wr w' v v') (hR : R L = []) : RR w w' v' (L + 1) R := by
  have hl : vs.length = L := by have := h1.1; simpa using this
  refine ⟨hg.kept h.kp h1 (Nat.le_refl _), _, ho, fun j hj => ?_, fun i j u u' hi hj hne => ?_⟩
  · by_cases e : j < L
    · obtain ⟨u, e1, e2⟩ := h2 j e
      exact ⟨u, by rw [List.getElem?_append_left (by omega)]; exact e1, hg.row e2 (rows_far h1 e2 (by decide))⟩
    · obtain rfl : j = L := by omega
      refine ⟨.slice none 0 0, by rw [List.getElem?_append_right (by omega)]; simp [hl], ?_⟩
      rw [hR]
      exact World.ownsRow_nil _ _ _ _
  · rcases Nat.lt_or_ge i L with a | a <;> rcases Nat.lt_or_ge j L with b | b
    · rw [List.getElem?_append_left (by omega)] at hi hj
      exact h3 i j u u' hi hj hne
    · rw [List.getElem?_append_right (by omega)] at hj
      have : u' = .slice none 0 0 := by
        rcases Nat.eq_zero_or_pos (j - vs.length) with e | e
        · rw [e] at hj; simpa using hj.symm
        · rw [List.getElem?_eq_none (by simp; omega)] at hj; cases hj
      subst this
      exact (FarV.nil u).symm
    · rw [List.getElem?_append_right (by omega)] at hi
      have : u = .slice none 0 0 := by
        rcases Nat.eq_zero_or_pos (i - vs.length) with e | e
        · rw [e] at hi; simpa using hi.symm
        · rw [List.getElem?_eq_none (by simp; omega)] at hi; cases hi
      subst this
      exact FarV.nil u'
    · rw [List.getElem?_append_right (by omega)] at hi
      have : u = .slice none 0 0 := by
        rcases Nat.eq_zero_or_pos (i - vs.length) with e | e
        · rw [e] at hi; simpa using hi.symm
        · rw [List.getElem?_eq_none (by simp; omega)] at hi; cases hi
      subst this
      exact FarV.nil u'
/-- One more number in a row, and the row stored. -/
theorem RR.add {w wr w' : World} {g c L k x : Nat} {R R' : Nat → List Nat} (h : RR w wr (.slice (some ⟨g, 0, none⟩) L c) L R) {vs : List Value} (h1 : wr.ownsRow w.heap.size 27 1 (.slice (some ⟨g, 0, none⟩) L c) L vs) (h2 : ∀ j, j < L → ∃ u, vs[j]? = some u ∧ wr.ownsRow w.heap.size 3 1 u (R j).length (nv (R j))) (h3 : ∀ (i j : Nat) (u u' : Value), vs[i]? = some u → vs[j]? = some u' → i ≠ j → FarV u u')
    {u u' : Value} (hk : k < L) (hu : vs[k]? = some u) (huo : wr.ownsRow w.heap.size 3 1 u (R k).length (nv (R k))) (ho : w'.ownsRow w.heap.size 3 1 u' ((R k).length + 1) (nv (R k) ++ [.int .i64 (x : Int)])) (hg : Grew wr w' u u')
    (hR : R' k = R k ++ [x]) (hR2 : ∀ j, j ≠ k → R' j = R j) :
    (∃ y, w'.cell? ⟨g, k, none⟩ = some y) ∧ w'.frozen? ⟨g, k, none⟩ = false ∧ RR w (w'.setCell ⟨g, k, none⟩ u') (.slice (some ⟨g, 0, none⟩) L c) L R' := by
  have hl : vs.length = L := by have := h1.1; simpa using this
  have hout : w'.ownsRow w.heap.size 27 1 (.slice (some ⟨g, 0, none⟩) L c) L vs := hg.row h1 (rows_far huo h1 (by decide))
  obtain ⟨s1, s2⟩ := hout.stored k u'
  have hU : Upd (fun i => i = g) w' (w'.setCell ⟨g, k, none⟩ u') := Upd.setCell (S := fun i => i = g) (Upd.refl _ _) (.inl rfl) _
  have hbg := (World.ownsRow.lt hout g rfl).1
  have hne : ∀ (z : Value) (n : Nat) (xs : List Value), w'.ownsRow w.heap.size 3 1 z n xs → (w'.setCell ⟨g, k, none⟩ u').ownsRow w.heap.size 3 1 z n xs := fun z n xs hz => ownsRow_far hz hU (fun i hi e => by
    subst e
    exact rows_far hz hout (by decide) i hi rfl)
  refine ⟨⟨_, by rw [hout.cellAt k (by omega)]; exact hu⟩, hout.frozenAt k, Kept.set (hg.kept h.kp huo (Nat.le_refl _)) hbg _, vs.set k u', s1, fun j hj => ?_, fun i j z z' hi hj hij => ?_⟩
  · by_cases e : k = j
    · subst e
      refine ⟨u', by rw [List.getElem?_set]; simp [hl, hk], ?_⟩
      rw [hR, List.length_append, show nv (R k ++ [x]) = nv (R k) ++ [.int .i64 (x : Int)] by simp [nv]]
      exact hne _ _ _ ho
    · obtain ⟨z, e1, e2⟩ := h2 j hj
      refine ⟨z, by rw [List.getElem?_set, if_neg e]; exact e1, ?_⟩
      rw [hR2 j (fun e2 => e e2.symm)]
      exact hne _ _ _ (hg.row e2 (h3 k j u z hu e1 e))
  · rw [List.getElem?_set] at hi hj
    by_cases e : k = i
    · subst e
      rw [if_pos rfl] at hi
      rw [if_neg hij] at hj
      split at hi
      · cases hi
        obtain ⟨jl, -⟩ := List.getElem?_eq_some_iff.1 hj
        obtain ⟨z2, e1, e2⟩ := h2 j (by omega)
        rw [e1] at hj
        cases hj
        exact hg.far e2 (h3 k j u _ hu e1 hij)
      · cases hi
    · rw [if_neg e] at hi
      by_cases e' : k = j
      · subst e'
        rw [if_pos rfl] at hj
        split at hj
        · cases hj
          obtain ⟨il, -⟩ := List.getElem?_eq_some_iff.1 hi
          obtain ⟨z2, e1, e2⟩ := h2 i (by omega)
          rw [e1] at hi
          cases hi
          exact (hg.far e2 (h3 k i u _ hu e1 e)).symm
        · cases hj
      · rw [if_neg e'] at hj
        exact h3 i j z z' hi hj hij
/-- Rows, read. -/
def RowsV (w : World) (a : Option Addr) (L : Nat) (R : Nat → List Nat) : Prop := ∃ vs, Rd w a vs ∧ vs.length = L ∧ ∀ j, j < L → ∃ a' c', vs[j]? = some (.slice a' (R j).length c') ∧ Rd w a' (nv (R j))
theorem RR.rowsV {w wr : World} {a : Option Addr} {c L : Nat} {R : Nat → List Nat} (h : RR w wr (.slice a L c) L R) : RowsV wr a L R := by
  obtain ⟨vs, h1, h2, -⟩ := h.ex
  obtain ⟨a', c', e, hr⟩ := Rd.owns h1
  cases e
  refine ⟨vs, hr, by have := h1.1; simpa using this, fun j hj => ?_⟩
  obtain ⟨u, e1, e2⟩ := h2 j hj
  obtain ⟨a2, c2, rfl, hr2⟩ := Rd.owns e2
  exact ⟨a2, c2, e1, hr2⟩
theorem RowsV.kept {w w' : World} {a : Option Addr} {L : Nat} {R : Nat → List Nat} (h : RowsV w a L R) (k : Kept w w') : RowsV w' a L R := by
  obtain ⟨vs, h1, h2, h3⟩ := h
  refine ⟨vs, h1.kept k, h2, fun j hj => ?_⟩
  obtain ⟨a', c', e1, e2⟩ := h3 j hj
  exact ⟨a', c', e1, e2.kept k⟩
/-- Those so far away. -/
def lvl (d : List Nat) (v j : Nat) : List Nat := (List.range v).filter fun x => d.getD x 0 == j
theorem lvl_succ (d : List Nat) (v j : Nat) : lvl d (v + 1) j = if d.getD v 0 = j then lvl d v j ++ [v] else lvl d v j := by
  unfold lvl
  rw [range_filter_succ]
  by_cases h : d.getD v 0 = j
  · rw [if_pos h, if_pos (by rw [h]; simp)]
  · rw [if_neg h, if_neg (by simpa using h), List.append_nil]
theorem lvl_nil {d : List Nat} {v j : Nat} (h : ∀ x, x < v → d.getD x 0 ≠ j) : lvl d v j = [] := by
  unfold lvl
  rw [List.filter_eq_nil_iff]
  intro x hx
  have := h x (List.mem_range.1 hx)
  simpa using this
end Go.Proofs.Ytoapekkmaajfmaa
