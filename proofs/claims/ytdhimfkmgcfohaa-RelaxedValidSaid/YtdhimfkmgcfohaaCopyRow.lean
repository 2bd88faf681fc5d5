/- append([]T{}, x...): a copy of a row, in a block of its own. No program in sight. -/
import Derived.Test.YtdhimfkmgcfohaaPush
import Derived.Test.YtdhimfkmgcfohaaRd
import Derived.Laws.OwnMore
namespace Go.Proofs.Ytdhimfkmgcfohaa
set_option linter.unusedVariables false
open Go.RowKit

theorem add_off (b off j : Nat) : (⟨b, off, none⟩ : Addr).add j = ⟨b, off + j, none⟩ := by unfold Addr.add; split <;> simp_all
/-- A slice that has a block, or nothing. -/
def SomeOr (a : Option Addr) (m c : Nat) : Prop := (∃ ad, a = some ad) ∨ (a = none ∧ m = 0 ∧ c = 0)
theorem someOr_own {w : World} {base n size : Nat} {e : TypeId} {a : Option Addr} {c : Nat} {vs : List Value} (h : w.ownsRow base e size (.slice a n c) n vs) : SomeOr a n c := by
  rcases h.2 with ⟨h1, h2⟩ | ⟨g, cap, cur, h1, -⟩
  · cases h1; exact .inr ⟨rfl, rfl, rfl⟩
  · cases h1; exact .inl ⟨_, rfl⟩
theorem run_copied {P : Program} (W : World) (t ty e : TypeId) (i : TypeInfo) (z : Value) (bytes : Nat) (ht : P.underlying t = some (.slice e)) (hi : P.info? e = some i) (hz : i.zero = some z)
    (hsize : i.size = 1) (hby : i.bytes = bytes) (hzs : z.cells.size = 1) (hb8 : bytes ≤ 8)
    (a : Option Addr) (m c : Nat) (vs : List Value) (hr : Rd W a vs) (hl : vs.length = m) (hs : SomeOr a m c) (h1 : ∀ u ∈ vs, u.oneCell' = true) (hn : m ≤ 2000000) :
    ∃ a' c' w', (Builtin.append_ #[t, t] ty #[.slice (some ⟨W.heap.size, 0, none⟩) 0 0, .slice a m c]).run P (W.alloc (.cells #[] e)) = .ok (.slice a' m c') w' ∧
      w'.ownsRow W.heap.size e 1 (.slice a' m c') m vs ∧ Kept W w' := by
  have ho := World.ownsRow_lit (base := W.heap.size) (e := e) (size := 1) W #[] 0 (Nat.le_refl _) (by unfold maxLen; omega) rfl
  have hK := (Upd.refl (fun _ => False) W).alloc (.cells #[] e)
  rcases hs with ⟨ad, rfl⟩ | ⟨rfl, rfl, rfl⟩
  · have hnews : ∀ (j : Nat) (u : Value), vs[j]? = some u → (W.alloc (.cells #[] e)).cell? (ad.add j) = some u := by
      rcases hr.kept hK with rfl | ⟨b, off, e1, hc⟩
      · intro j u hu; simp at hu
      · cases e1
        intro j u hu
        rw [add_off]
        exact hc j u hu
    have hbb : (0 + m) * bytes ≤ 140737488355328 := Nat.le_trans (Nat.mul_le_mul (show 0 + m ≤ 2000000 by omega) hb8) (by decide)
    obtain ⟨v', w', hrun, h2, h3, -⟩ := run_append_own (P := P) (W.alloc (.cells #[] e)) W.heap.size t ty e i z 1 bytes ht hi hz hsize hby hzs (by omega) _ 0 [] ho ad m c vs (by omega) hnews h1 (by unfold maxLen; omega) hbb hK.size
    rw [Nat.zero_add] at h2
    obtain ⟨a', c', rfl⟩ := row_form h2
    refine ⟨a', c', w', hrun, by simpa using h2, ?_⟩
    exact hK.then (Upd.grown (S := fun k => k = W.heap.size) (Upd.refl _ _) h3 (fun k hk => .inl (by cases hk; rfl))) (fun i hi e => by omega)
  · have hvs : vs = [] := List.eq_nil_of_length_eq_zero hl
    subst hvs
    have := run_append_owned_none (P := P) (W.alloc (.cells #[] e)) W.heap.size t ty e i 1 ht hi _ 0 [] ho
    exact ⟨_, _, _, this, ho, hK⟩
theorem wpList_copied {P : Program} {W : World} {ops : Array Oper} {rest : List Oper} {o : Oper} {a : Act} {Q : Exit → Act → World → Prop} (hgd : o.guard = none) (s x : Operand) (t : TypeId)
    (ho : o.op = .call { callee := .builtin .append, args := #[s, x], argTypes := #[t, t] })
    (e : TypeId) (i : TypeInfo) (z : Value) (bytes : Nat) (ht : P.underlying t = some (.slice e)) (hi : P.info? e = some i) (hz : i.zero = some z)
    (hsize : i.size = 1) (hby : i.bytes = bytes) (hzs : z.cells.size = 1) (hb8 : bytes ≤ 8)
    (ad : Option Addr) (m c : Nat) (vs : List Value) (hs : a.eval s = .slice (some ⟨W.heap.size, 0, none⟩) 0 0) (hx : a.eval x = .slice ad m c) (hr : Rd W ad vs) (hl : vs.length = m) (hso : SomeOr ad m c) (h1 : ∀ u ∈ vs, u.oneCell' = true) (hn : m ≤ 2000000)
    (h : ∀ a' c' w', w'.ownsRow W.heap.size e 1 (.slice a' m c') m vs → Kept W w' → wpList P ops Q rest (a.put o.dst (.slice a' m c')) w') :
    wpList P ops Q (o :: rest) a (W.alloc (.cells #[] e)) := by
  obtain ⟨a', c', w', hrun, h2, h3⟩ := run_copied (P := P) W t o.type e i z bytes ht hi hz hsize hby hzs hb8 ad m c vs hr hl hso h1 hn
  refine wpList_plain hgd fun K hK => ?_
  unfold Oper.wp execOp
  simp only [ho, resolve, invoke, builtin, Sem.run_bind, Sem.run_pure, Result.andThen_ok, List.map_toArray, List.map_cons, List.map_nil, hs, hx, hrun]
  exact hK _ _ (h a' c' w' h2 h3)
end Go.Proofs.Ytdhimfkmgcfohaa
