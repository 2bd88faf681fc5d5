/- One thing, just made, is appended to a row of one's own, in a region that draws its order. No program in sight. -/
import Derived.Test.YtdgkemadhooogaaPush
namespace Go.Proofs.Ytdgkemadhooogaa
set_option linter.unusedVariables false
open Go.RowKit

theorem step_push {P : Program} {W : World} {ops : Array Oper} {o : Oper} {a : Act} {K : Act → World → Prop} {Q : Exit → Act → World → Prop} {E : Prop} (hgd : o.guard = none) (s x : Operand) (t : TypeId)
    (ho : o.op = .call { callee := .builtin .append, args := #[s, x], argTypes := #[t, t] })
    (base : Nat) (e : TypeId) (i : TypeInfo) (z : Value) (bytes : Nat) (ht : P.underlying t = some (.slice e)) (hi : P.info? e = some i) (hz : i.zero = some z)
    (hsize : i.size = 1) (hby : i.bytes = bytes) (hzs : z.cells.size = 1) (hb8 : bytes ≤ 8)
    (v : Value) (n : Nat) (xs : List Value) (hs : a.eval s = v) (hown : W.ownsRow base e 1 v n xs) (u : Value) (h1 : u.oneCell' = true) (hx : a.eval x = .slice (some ⟨W.heap.size, 0, none⟩) 1 1) (hn : n ≤ 2000000) (hbase : base ≤ W.heap.size)
    (h : ∀ g cap w', w'.ownsRow base e 1 (.slice (some ⟨g, 0, none⟩) (n + 1) cap) (n + 1) (xs ++ [u]) → Grew W w' v (.slice (some ⟨g, 0, none⟩) (n + 1) cap) → K (a.put o.dst (.slice (some ⟨g, 0, none⟩) (n + 1) cap)) w') :
    if Region.wanted o (yielded ops a.tmps) = true then Oper.wp P o a (W.alloc (.cells #[u] e)) K Q else E := by
  obtain ⟨g, cap, w', hr, h2, h3⟩ := run_push (P := P) W base t o.type e i z bytes ht hi hz hsize hby hzs hb8 v n xs hown u h1 hn hbase
  have hw : Region.wanted o (yielded ops a.tmps) = true := by simp [Region.wanted, hgd]
  rw [if_pos hw]
  unfold Oper.wp execOp
  simp only [ho, resolve, invoke, builtin, Sem.run_bind, Sem.run_pure, Result.andThen_ok, List.map_toArray, List.map_cons, List.map_nil, hs, hx, hr]
  exact h g cap w' h2 h3
/-- .. in any world: the thing that is appended lies at p. -/
theorem run_push1 {P : Program} (W1 : World) (base : Nat) (t ty e : TypeId) (i : TypeInfo) (z : Value) (bytes : Nat) (ht : P.underlying t = some (.slice e)) (hi : P.info? e = some i) (hz : i.zero = some z)
    (hsize : i.size = 1) (hby : i.bytes = bytes) (hzs : z.cells.size = 1) (hb8 : bytes ≤ 8)
    (v : Value) (n : Nat) (xs : List Value) (hown : W1.ownsRow base e 1 v n xs) (u : Value) (h1 : u.oneCell' = true) (pb po c : Nat) (hp : W1.cell? ⟨pb, po, none⟩ = some u) (hn : n ≤ 2000000) (hbase : base ≤ W1.heap.size) :
    ∃ g cap w', (Builtin.append_ #[t, t] ty #[v, .slice (some ⟨pb, po, none⟩) 1 c]).run P W1 = .ok (.slice (some ⟨g, 0, none⟩) (n + 1) cap) w' ∧
      w'.ownsRow base e 1 (.slice (some ⟨g, 0, none⟩) (n + 1) cap) (n + 1) (xs ++ [u]) ∧ Grew W1 w' v (.slice (some ⟨g, 0, none⟩) (n + 1) cap) := by
  have hnews : ∀ (j : Nat) (x : Value), [u][j]? = some x → W1.cell? ((⟨pb, po, none⟩ : Addr).add j) = some x := by
    intro j x hx
    cases j with
    | zero =>
      simp at hx
      subst hx
      rw [Addr.add_lit]
      exact hp
    | succ j => simp at hx
  have hone : ∀ x ∈ [u], x.oneCell' = true := by intro x hx; simp at hx; subst hx; exact h1
  have hl63 : n + 1 ≤ maxLen := by unfold maxLen; omega
  have hbb : (n + 1) * bytes ≤ 140737488355328 := Nat.le_trans (Nat.mul_le_mul (show n + 1 ≤ 2000001 by omega) hb8) (by decide)
  have key : ∀ b', W1.ownsRow b' e 1 v n xs → b' ≤ W1.heap.size → ∃ v' w', (Builtin.append_ #[t, t] ty #[v, .slice (some ⟨pb, po, none⟩) 1 c]).run P W1 = .ok v' w' ∧ w'.ownsRow b' e 1 v' (n + 1) (xs ++ [u]) ∧ W1.grownBy w' v.ownBlock := by
    intro b' ho hb'
    obtain ⟨v', w', hr, h2, h3, _⟩ := run_append_own (P := P) W1 b' t ty e i z 1 bytes ht hi hz hsize hby hzs (by omega) v n xs ho ⟨pb, po, none⟩ 1 c [u] rfl hnews hone hl63 hbb hb'
    exact ⟨v', w', hr, h2, h3⟩
  obtain ⟨v', w', hr, h2, h3⟩ := key base hown hbase
  obtain ⟨g, cap, rfl, _⟩ := h2.form (by omega)
  refine ⟨g, cap, w', hr, h2, Upd.grown (Upd.refl (fun k => v.ownBlock = some k) W1) h3 (fun k hk => .inl hk), fun k hk => ?_⟩
  cases hk
  rcases hown.2 with ⟨rfl, rfl⟩ | ⟨g0, cap0, cur0, rfl, hb0, hg0, hnc, hcm, hcs, htake⟩
  · right
    have hx : xs = [] := List.eq_nil_of_length_eq_zero (by simpa using hown.1)
    subst hx
    obtain ⟨v2, w2, hr2, h22, _⟩ := key W1.heap.size (World.ownsRow_nil _ _ _ _) (Nat.le_refl _)
    rw [hr] at hr2
    cases hr2
    exact (World.ownsRow.lt h22 g rfl).1
  · by_cases hroom : n + 1 ≤ cap0
    · left
      have hr2 := run_append_room (P := P) W1 t ty e i ht hi g0 n cap0 cur0 hg0 ⟨pb, po, none⟩ 1 c [u] (by rw [hsize]; rfl) hnews hone hroom (by rw [hsize, hcs]; simp; omega)
      rw [hr] at hr2
      cases hr2
      rfl
    · right
      have holds : ∀ j x, xs[j]? = some x → W1.cell? ((⟨g0, 0, none⟩ : Addr).add j) = some x := hown.cells (g := g0) rfl
      have hr2 := run_append_grow (P := P) W1 t ty e i z ht hi hz ⟨g0, 0, none⟩ n cap0 xs (by rw [hsize]; exact hown.1) holds ⟨pb, po, none⟩ 1 c [u] (by rw [hsize]; rfl) hnews (by omega) (by omega) (growslice_fits (by omega) (by rw [hby]; exact hbb))
      rw [hr] at hr2
      cases hr2
      exact Nat.le_refl _
/-- .. as an operation. -/
theorem wp_push1 {P : Program} {W1 : World} {o : Oper} {a : Act} {K : Act → World → Prop} {Q : Exit → Act → World → Prop} (s x : Operand) (t : TypeId)
    (ho : o.op = .call { callee := .builtin .append, args := #[s, x], argTypes := #[t, t] })
    (base : Nat) (e : TypeId) (i : TypeInfo) (z : Value) (bytes : Nat) (ht : P.underlying t = some (.slice e)) (hi : P.info? e = some i) (hz : i.zero = some z)
    (hsize : i.size = 1) (hby : i.bytes = bytes) (hzs : z.cells.size = 1) (hb8 : bytes ≤ 8)
    (v : Value) (n : Nat) (xs : List Value) (hs : a.eval s = v) (hown : W1.ownsRow base e 1 v n xs) (u : Value) (h1 : u.oneCell' = true) (pb po c : Nat) (hx : a.eval x = .slice (some ⟨pb, po, none⟩) 1 c) (hp : W1.cell? ⟨pb, po, none⟩ = some u) (hn : n ≤ 2000000) (hbase : base ≤ W1.heap.size)
    (h : ∀ g cap w', w'.ownsRow base e 1 (.slice (some ⟨g, 0, none⟩) (n + 1) cap) (n + 1) (xs ++ [u]) → Grew W1 w' v (.slice (some ⟨g, 0, none⟩) (n + 1) cap) → K (a.put o.dst (.slice (some ⟨g, 0, none⟩) (n + 1) cap)) w') :
    Oper.wp P o a W1 K Q := by
  obtain ⟨g, cap, w', hr, h2, h3⟩ := run_push1 (P := P) W1 base t o.type e i z bytes ht hi hz hsize hby hzs hb8 v n xs hown u h1 pb po c hp hn hbase
  unfold Oper.wp execOp
  simp only [ho, resolve, invoke, builtin, Sem.run_bind, Sem.run_pure, Result.andThen_ok, List.map_toArray, List.map_cons, List.map_nil, hs, hx, hr]
  exact h g cap w' h2 h3
end Go.Proofs.Ytdgkemadhooogaa
