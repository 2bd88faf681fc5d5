/- Rows in blocks of their own, pairwise apart; one thing appended to one of them. No program in sight. -/
import Derived.Test.YtdhimfkmgcfohaaStep
namespace Go.Proofs.Ytdhimfkmgcfohaa
set_option linter.unusedVariables false
open Go.RowKit

/-- Two rows do not share a block. -/
def FarV (a b : Value) : Prop := ∀ k, a.ownBlock = some k → b.ownBlock = some k → False
theorem FarV.symm {a b : Value} (h : FarV a b) : FarV b a := fun k h1 h2 => h k h2 h1
theorem FarV.nil (b : Value) : FarV (.slice none 0 0) b := fun k h => by cases h
/-- A row has grown: nothing else turned, and it lies where it lay, or in a new block. -/
structure Grew (W w' : World) (v v' : Value) : Prop where
  upd : Upd (fun k => v.ownBlock = some k) W w'
  new : ∀ k, v'.ownBlock = some k → v.ownBlock = some k ∨ W.heap.size ≤ k
theorem blk_row_ne {w : World} {b : Nat} {arr : Array Value} {T e : TypeId} {base n size : Nat} {v : Value} {xs : List Value} (hb : Blk w b arr T) (h : w.ownsRow base e size v n xs) (he : e ≠ T) : ¬ v.ownBlock = some b := by
  intro hk
  rcases h.2 with ⟨rfl, _⟩ | ⟨g, cap, cur, rfl, _, hh, _⟩
  · cases hk
  · cases hk
    have := hh.symm.trans hb
    simp at this
    exact he this.2
section
variable {W w' : World} {v v' : Value}
theorem Grew.blk (hg : Grew W w' v v') {b : Nat} {arr : Array Value} {T e : TypeId} {base n size : Nat} {xs : List Value} (hb : Blk W b arr T) (h : W.ownsRow base e size v n xs) (he : e ≠ T) : Blk w' b arr T := hb.upd hg.upd (blk_row_ne hb h he)
theorem Grew.row (hg : Grew W w' v v') {v2 : Value} {e : TypeId} {base n size : Nat} {xs : List Value} (h : W.ownsRow base e size v2 n xs) (hf : FarV v v2) : w'.ownsRow base e size v2 n xs := ownsRow_far h hg.upd fun k h1 h2 => hf k h2 h1
theorem Grew.far (hg : Grew W w' v v') {v2 : Value} {e : TypeId} {base n size : Nat} {xs : List Value} (h : W.ownsRow base e size v2 n xs) (hf : FarV v v2) : FarV v' v2 := by
  intro k h1 h2
  rcases hg.new k h1 with h3 | h3
  · exact hf k h3 h2
  · have := (World.ownsRow.lt h k h2).2
    omega
theorem Grew.kept {w : World} (hg : Grew W w' v v') (hk : Kept w W) {e : TypeId} {base n size : Nat} {xs : List Value} (h : W.ownsRow base e size v n xs) (hb : w.heap.size ≤ base) : Kept w w' :=
  hk.then hg.upd fun k hk he => by have := (World.ownsRow.lt h k he).1; omega
end
theorem rows_far {w : World} {b1 b2 s1 s2 n1 n2 : Nat} {e1 e2 : TypeId} {v1 v2 : Value} {x1 x2 : List Value} (h1 : w.ownsRow b1 e1 s1 v1 n1 x1) (h2 : w.ownsRow b2 e2 s2 v2 n2 x2) (he : e1 ≠ e2) : FarV v1 v2 := rows_ne h1 h2 he
/-- One thing, just made, is appended to a row of one's own, of elements of one cell. -/
theorem run_push {P : Program} (W : World) (base : Nat) (t ty e : TypeId) (i : TypeInfo) (z : Value) (bytes : Nat) (ht : P.underlying t = some (.slice e)) (hi : P.info? e = some i) (hz : i.zero = some z)
    (hsize : i.size = 1) (hby : i.bytes = bytes) (hzs : z.cells.size = 1) (hb8 : bytes ≤ 8)
    (v : Value) (n : Nat) (xs : List Value) (hown : W.ownsRow base e 1 v n xs) (u : Value) (h1 : u.oneCell' = true) (hn : n ≤ 2000000) (hbase : base ≤ W.heap.size) :
    ∃ g cap w', (Builtin.append_ #[t, t] ty #[v, .slice (some ⟨W.heap.size, 0, none⟩) 1 1]).run P (W.alloc (.cells #[u] e)) = .ok (.slice (some ⟨g, 0, none⟩) (n + 1) cap) w' ∧
      w'.ownsRow base e 1 (.slice (some ⟨g, 0, none⟩) (n + 1) cap) (n + 1) (xs ++ [u]) ∧ Grew W w' v (.slice (some ⟨g, 0, none⟩) (n + 1) cap) := by
  have hK := (Upd.refl (fun _ => False) W).alloc (.cells #[u] e)
  have hown' := hown.alloc (.cells #[u] e)
  have hnews : ∀ (j : Nat) (x : Value), [u][j]? = some x → (W.alloc (.cells #[u] e)).cell? ((⟨W.heap.size, 0, none⟩ : Addr).add j) = some x := cells_new W #[u] e
  have hone : ∀ x ∈ [u], x.oneCell' = true := by intro x hx; simp at hx; subst hx; exact h1
  have hsz : W.heap.size ≤ (W.alloc (.cells #[u] e)).heap.size := hK.size
  have hl63 : n + 1 ≤ maxLen := by unfold maxLen; omega
  have hbb : (n + 1) * bytes ≤ 140737488355328 := Nat.le_trans (Nat.mul_le_mul (show n + 1 ≤ 2000001 by omega) hb8) (by decide)
  have key : ∀ b', W.ownsRow b' e 1 v n xs → b' ≤ W.heap.size → ∃ v' w', (Builtin.append_ #[t, t] ty #[v, .slice (some ⟨W.heap.size, 0, none⟩) 1 1]).run P (W.alloc (.cells #[u] e)) = .ok v' w' ∧ w'.ownsRow b' e 1 v' (n + 1) (xs ++ [u]) ∧ (W.alloc (.cells #[u] e)).grownBy w' v.ownBlock := by
    intro b' ho hb'
    obtain ⟨v', w', hr, h2, h3, _⟩ := run_append_own (P := P) (W.alloc (.cells #[u] e)) b' t ty e i z 1 bytes ht hi hz hsize hby hzs (by omega) v n xs (ho.alloc _) ⟨W.heap.size, 0, none⟩ 1 1 [u] rfl hnews hone hl63 hbb (by omega)
    exact ⟨v', w', hr, h2, h3⟩
  obtain ⟨v', w', hr, h2, h3⟩ := key base hown hbase
  obtain ⟨g, cap, rfl, _⟩ := h2.form (by omega)
  refine ⟨g, cap, w', hr, h2, Upd.grown ((Upd.refl (fun k => v.ownBlock = some k) W).alloc _) h3 (fun k hk => .inl hk), fun k hk => ?_⟩
  cases hk
  rcases hown.2 with ⟨rfl, rfl⟩ | ⟨g0, cap0, cur0, rfl, hb0, hg0, hnc, hcm, hcs, htake⟩
  · right
    have hx : xs = [] := List.eq_nil_of_length_eq_zero (by simpa using hown.1)
    subst hx
    obtain ⟨v2, w2, hr2, h22, _⟩ := key W.heap.size (World.ownsRow_nil _ _ _ _) (Nat.le_refl _)
    rw [hr] at hr2
    cases hr2
    exact (World.ownsRow.lt h22 g rfl).1
  · by_cases hroom : n + 1 ≤ cap0
    · left
      have hg1 : (W.alloc (.cells #[u] e)).heap[g0]? = some (.cells cur0 e (0, 0)) := by
        rw [hK.block g0 (Array.getElem?_eq_some_iff.1 hg0).1 (fun f => f)]; exact hg0
      have hr2 := run_append_room (P := P) (W.alloc (.cells #[u] e)) t ty e i ht hi g0 n cap0 cur0 hg1 ⟨W.heap.size, 0, none⟩ 1 1 [u] (by rw [hsize]; rfl) hnews hone hroom (by rw [hsize, hcs]; simp; omega)
      rw [hr] at hr2
      cases hr2
      rfl
    · right
      have holds : ∀ j x, xs[j]? = some x → (W.alloc (.cells #[u] e)).cell? ((⟨g0, 0, none⟩ : Addr).add j) = some x := hown'.cells (g := g0) rfl
      have hr2 := run_append_grow (P := P) (W.alloc (.cells #[u] e)) t ty e i z ht hi hz ⟨g0, 0, none⟩ n cap0 xs (by rw [hsize]; exact hown.1) holds ⟨W.heap.size, 0, none⟩ 1 1 [u] (by rw [hsize]; rfl) hnews (by omega) (by omega) (growslice_fits (by omega) (by rw [hby]; exact hbb))
      rw [hr] at hr2
      cases hr2
      exact hsz
theorem wpList_push {P : Program} {W : World} {ops : Array Oper} {rest : List Oper} {o : Oper} {a : Act} {Q : Exit → Act → World → Prop} (hgd : o.guard = none) (s x : Operand) (t : TypeId)
    (ho : o.op = .call { callee := .builtin .append, args := #[s, x], argTypes := #[t, t] })
    (base : Nat) (e : TypeId) (i : TypeInfo) (z : Value) (bytes : Nat) (ht : P.underlying t = some (.slice e)) (hi : P.info? e = some i) (hz : i.zero = some z)
    (hsize : i.size = 1) (hby : i.bytes = bytes) (hzs : z.cells.size = 1) (hb8 : bytes ≤ 8)
    (v : Value) (n : Nat) (xs : List Value) (hs : a.eval s = v) (hown : W.ownsRow base e 1 v n xs) (u : Value) (h1 : u.oneCell' = true) (hx : a.eval x = .slice (some ⟨W.heap.size, 0, none⟩) 1 1) (hn : n ≤ 2000000) (hbase : base ≤ W.heap.size)
    (h : ∀ g cap w', w'.ownsRow base e 1 (.slice (some ⟨g, 0, none⟩) (n + 1) cap) (n + 1) (xs ++ [u]) → Grew W w' v (.slice (some ⟨g, 0, none⟩) (n + 1) cap) → wpList P ops Q rest (a.put o.dst (.slice (some ⟨g, 0, none⟩) (n + 1) cap)) w') :
    wpList P ops Q (o :: rest) a (W.alloc (.cells #[u] e)) := by
  obtain ⟨g, cap, w', hr, h2, h3⟩ := run_push (P := P) W base t o.type e i z bytes ht hi hz hsize hby hzs hb8 v n xs hown u h1 hn hbase
  refine wpList_plain hgd fun K hK => ?_
  unfold Oper.wp execOp
  simp only [ho, resolve, invoke, builtin, Sem.run_bind, Sem.run_pure, Result.andThen_ok, List.map_toArray, List.map_cons, List.map_nil, hs, hx, hr]
  exact hK _ _ (h g cap w' h2 h3)
end Go.Proofs.Ytdhimfkmgcfohaa
