/- append(x, y...) of a row of one's own and any slice that is read. No program in sight. -/
import Derived.Test.YticeionjlknlcaaCopyRow
namespace Go.Proofs.Yticeionjlknlcaa
set_option linter.unusedVariables false
open Go.RowKit

theorem run_appended {P : Program} (W : World) (base : Nat) (t ty e : TypeId) (i : TypeInfo) (z : Value) (bytes : Nat) (ht : P.underlying t = some (.slice e)) (hi : P.info? e = some i) (hz : i.zero = some z)
    (hsize : i.size = 1) (hby : i.bytes = bytes) (hzs : z.cells.size = 1) (hb8 : bytes ≤ 8)
    (v : Value) (n : Nat) (xs : List Value) (hown : W.ownsRow base e 1 v n xs) (a : Option Addr) (m c : Nat) (vs : List Value) (hr : Rd W a vs) (hl : vs.length = m) (hs : SomeOr a m c) (h1 : ∀ u ∈ vs, u.oneCell' = true) (hn : n + m ≤ 2000000) (hbase : base ≤ W.heap.size) :
    ∃ a' c' w', (Builtin.append_ #[t, t] ty #[v, .slice a m c]).run P W = .ok (.slice a' (n + m) c') w' ∧ w'.ownsRow base e 1 (.slice a' (n + m) c') (n + m) (xs ++ vs) ∧ Upd (fun k => v.ownBlock = some k) W w' := by
  rcases hs with ⟨ad, rfl⟩ | ⟨rfl, rfl, rfl⟩
  · have hnews : ∀ (j : Nat) (u : Value), vs[j]? = some u → W.cell? (ad.add j) = some u := by
      rcases hr with rfl | ⟨b, off, e1, hc⟩
      · intro j u hu; simp at hu
      · cases e1
        intro j u hu
        rw [add_off]
        exact hc j u hu
    have hbb : (n + m) * bytes ≤ 140737488355328 := Nat.le_trans (Nat.mul_le_mul hn hb8) (by decide)
    obtain ⟨v', w', hrun, h2, h3, -⟩ := run_append_own (P := P) W base t ty e i z 1 bytes ht hi hz hsize hby hzs (by omega) v n xs hown ad m c vs (by omega) hnews h1 (by unfold maxLen; omega) hbb hbase
    obtain ⟨a', c', rfl⟩ := row_form h2
    exact ⟨a', c', w', hrun, h2, Upd.grown (Upd.refl _ _) h3 (fun k hk => .inl hk)⟩
  · have hvs : vs = [] := List.eq_nil_of_length_eq_zero hl
    subst hvs
    obtain ⟨a', c', rfl⟩ := row_form hown
    have := run_append_owned_none (P := P) W base t ty e i 1 ht hi _ n xs hown
    exact ⟨a', c', W, this, by simpa using hown, Upd.refl _ _⟩
theorem wpList_appended {P : Program} {W : World} {ops : Array Oper} {rest : List Oper} {o : Oper} {a : Act} {Q : Exit → Act → World → Prop} (hgd : o.guard = none) (s x : Operand) (t : TypeId)
    (ho : o.op = .call { callee := .builtin .append, args := #[s, x], argTypes := #[t, t] })
    (base : Nat) (e : TypeId) (i : TypeInfo) (z : Value) (bytes : Nat) (ht : P.underlying t = some (.slice e)) (hi : P.info? e = some i) (hz : i.zero = some z)
    (hsize : i.size = 1) (hby : i.bytes = bytes) (hzs : z.cells.size = 1) (hb8 : bytes ≤ 8)
    (v : Value) (n : Nat) (xs : List Value) (hs : a.eval s = v) (hown : W.ownsRow base e 1 v n xs) (ad : Option Addr) (m c : Nat) (vs : List Value) (hx : a.eval x = .slice ad m c) (hr : Rd W ad vs) (hl : vs.length = m) (hso : SomeOr ad m c) (h1 : ∀ u ∈ vs, u.oneCell' = true) (hn : n + m ≤ 2000000) (hbase : base ≤ W.heap.size)
    (h : ∀ a' c' w', w'.ownsRow base e 1 (.slice a' (n + m) c') (n + m) (xs ++ vs) → Upd (fun k => v.ownBlock = some k) W w' → wpList P ops Q rest (a.put o.dst (.slice a' (n + m) c')) w') :
    wpList P ops Q (o :: rest) a W := by
  obtain ⟨a', c', w', hrun, h2, h3⟩ := run_appended (P := P) W base t o.type e i z bytes ht hi hz hsize hby hzs hb8 v n xs hown ad m c vs hr hl hso h1 hn hbase
  refine wpList_plain hgd fun K hK => ?_
  unfold Oper.wp execOp
  simp only [ho, resolve, invoke, builtin, Sem.run_bind, Sem.run_pure, Result.andThen_ok, List.map_toArray, List.map_cons, List.map_nil, hs, hx, hrun]
  exact hK _ _ (h a' c' w' h2 h3)
theorem step_appended {P : Program} {W : World} {ops : Array Oper} {o : Oper} {a : Act} {K : Act → World → Prop} {Q : Exit → Act → World → Prop} {E : Prop} (hgd : o.guard = none) (s x : Operand) (t : TypeId)
    (ho : o.op = .call { callee := .builtin .append, args := #[s, x], argTypes := #[t, t] })
    (base : Nat) (e : TypeId) (i : TypeInfo) (z : Value) (bytes : Nat) (ht : P.underlying t = some (.slice e)) (hi : P.info? e = some i) (hz : i.zero = some z)
    (hsize : i.size = 1) (hby : i.bytes = bytes) (hzs : z.cells.size = 1) (hb8 : bytes ≤ 8)
    (v : Value) (n : Nat) (xs : List Value) (hs : a.eval s = v) (hown : W.ownsRow base e 1 v n xs) (ad : Option Addr) (m c : Nat) (vs : List Value) (hx : a.eval x = .slice ad m c) (hr : Rd W ad vs) (hl : vs.length = m) (hso : SomeOr ad m c) (h1 : ∀ u ∈ vs, u.oneCell' = true) (hn : n + m ≤ 2000000) (hbase : base ≤ W.heap.size)
    (tot : Nat) (htot : n + m = tot)
    (h : ∀ a' c' w', w'.ownsRow base e 1 (.slice a' tot c') tot (xs ++ vs) → Upd (fun k => v.ownBlock = some k) W w' → K (a.put o.dst (.slice a' tot c')) w') :
    if Region.wanted o (yielded ops a.tmps) = true then Oper.wp P o a W K Q else E := by
  subst htot
  have hw : Region.wanted o (yielded ops a.tmps) = true := by simp [Region.wanted, hgd]
  rw [if_pos hw]
  obtain ⟨a', c', w', hrun, h2, h3⟩ := run_appended (P := P) W base t o.type e i z bytes ht hi hz hsize hby hzs hb8 v n xs hown ad m c vs hr hl hso h1 hn hbase
  unfold Oper.wp execOp
  simp only [ho, resolve, invoke, builtin, Sem.run_bind, Sem.run_pure, Result.andThen_ok, List.map_toArray, List.map_cons, List.map_nil, hs, hx, hrun]
  exact h a' c' w' h2 h3
end Go.Proofs.Yticeionjlknlcaa
