/- Slices of numbers that came in: how great they may be. A long slice, copied. No program in sight. -/
import Derived.Test.YticeionjlknlcaaOpen
import Derived.Test.YticeionjlknlcaaCopyRow
import Derived.SizedLaws
namespace Go.Proofs.Yticeionjlknlcaa
set_option linter.unusedVariables false
open Go.RowKit Go.ChangeShapes Go.WideShapes Go.ChangeAt
section
variable {P : Program} {H : Type} {enc : TypeId × Value → H} {w : World}
/-- A slice of numbers of 8 bytes that came in: it has a block, or nothing; and it fits a machine. -/
theorem intRow_big {t e : TypeId} {ts : List TypeId} {ds : List (DataW H)} (hsz : (DataW.weightsEach P ts ds).all (· ≤ reachBytes) = true) {j : Nat} (htj : ts[j]? = some t) {d : DataW H} (hdj : ds[j]? = some d) (ht : P.underlying t = some (.slice e)) (he : P.underlying e = some (.int .i64)) (hc : P.cellsOf e = 1) (hb : P.bytesOf e = 8)
    {a : Option Addr} {len cap : Nat} {p : List MemPlace} (h : DataW.Trod enc P w 0 (fun _ => true) true t (.slice a len cap) d p) : SomeOr a len cap ∧ cap * 8 ≤ 140737488351232 := by
  obtain ⟨fuel, hf⟩ := h
  rcases open_ints ht he hc hf with ⟨hcs, _⟩ | ⟨x, l, c, zs, hcs, _, hl, hm, hz, hx, hcell, hwz⟩
  · simp [Value.cells] at hcs
    obtain ⟨rfl, rfl, rfl⟩ := hcs
    exact ⟨.inr ⟨rfl, rfl, rfl⟩, by omega⟩
  · simp [Value.cells] at hcs
    obtain ⟨rfl, rfl, rfl⟩ := hcs
    refine ⟨.inl ⟨_, rfl⟩, ?_⟩
    have hz' : zs.length = cap := by simpa using hz
    simp only [Prod.mk.injEq] at hx
    obtain ⟨rfl, -⟩ := hx
    have h1 := sized_slice hsz htj hdj ht
    rw [hb] at h1
    simp only [lits, List.length_map, List.length_take, List.length_drop, reachBytes] at h1
    omega
end
/-- As wpList_copied, of any length that fits a machine. -/
theorem run_copiedB {P : Program} (W : World) (t ty e : TypeId) (i : TypeInfo) (z : Value) (bytes : Nat) (ht : P.underlying t = some (.slice e)) (hi : P.info? e = some i) (hz : i.zero = some z)
    (hsize : i.size = 1) (hby : i.bytes = bytes) (hzs : z.cells.size = 1)
    (a : Option Addr) (m c : Nat) (vs : List Value) (hr : Rd W a vs) (hl : vs.length = m) (hs : SomeOr a m c) (h1 : ∀ u ∈ vs, u.oneCell' = true) (hn : m * bytes ≤ 140737488355328) (hmx : m ≤ maxLen) :
    ∃ a' c' w', (Builtin.append_ #[t, t] ty #[.slice (some ⟨W.heap.size, 0, none⟩) 0 0, .slice a m c]).run P (W.alloc (.cells #[] e)) = .ok (.slice a' m c') w' ∧
      w'.ownsRow W.heap.size e 1 (.slice a' m c') m vs ∧ Kept W w' := by
  have ho := World.ownsRow_lit (base := W.heap.size) (e := e) (size := 1) W #[] 0 (Nat.le_refl _) (by unfold maxLen; omega) rfl
  have hK := (Upd.refl (fun _ => False) W).alloc (.cells #[] e)
  rcases hs with ⟨ad, rfl⟩ | ⟨rfl, rfl, rfl⟩
  · have hnews : ∀ (j : Nat) (u : Value), vs[j]? = some u → (W.alloc (.cells #[] e)).cell? (ad.add j) = some u := by
      rcases hr.kept hK with rfl | ⟨b, off, e1, hc⟩
      · intro j u hu; simp at hu
      · cases e1
        intro j u hu
        rw [add_off]
        exact hc j u hu
    obtain ⟨v', w', hrun, h2, h3, -⟩ := run_append_own (P := P) (W.alloc (.cells #[] e)) W.heap.size t ty e i z 1 bytes ht hi hz hsize hby hzs (by omega) _ 0 [] ho ad m c vs (by omega) hnews h1 (by omega) (by rw [Nat.zero_add]; exact hn) hK.size
    rw [Nat.zero_add] at h2
    obtain ⟨a', c', rfl⟩ := row_form h2
    refine ⟨a', c', w', hrun, by simpa using h2, ?_⟩
    exact hK.then (Upd.grown (S := fun k => k = W.heap.size) (Upd.refl _ _) h3 (fun k hk => .inl (by cases hk; rfl))) (fun i hi e => by omega)
  · have hvs : vs = [] := List.eq_nil_of_length_eq_zero hl
    subst hvs
    have := run_append_owned_none (P := P) (W.alloc (.cells #[] e)) W.heap.size t ty e i 1 ht hi _ 0 [] ho
    exact ⟨_, _, _, this, ho, hK⟩
theorem wpList_copiedB {P : Program} {W : World} {ops : Array Oper} {rest : List Oper} {o : Oper} {a : Act} {Q : Exit → Act → World → Prop} (hgd : o.guard = none) (s x : Operand) (t : TypeId)
    (ho : o.op = .call { callee := .builtin .append, args := #[s, x], argTypes := #[t, t] })
    (e : TypeId) (i : TypeInfo) (z : Value) (bytes : Nat) (ht : P.underlying t = some (.slice e)) (hi : P.info? e = some i) (hz : i.zero = some z)
    (hsize : i.size = 1) (hby : i.bytes = bytes) (hzs : z.cells.size = 1)
    (ad : Option Addr) (m c : Nat) (vs : List Value) (hs : a.eval s = .slice (some ⟨W.heap.size, 0, none⟩) 0 0) (hx : a.eval x = .slice ad m c) (hr : Rd W ad vs) (hl : vs.length = m) (hso : SomeOr ad m c) (h1 : ∀ u ∈ vs, u.oneCell' = true) (hn : m * bytes ≤ 140737488355328) (hmx : m ≤ maxLen)
    (h : ∀ a' c' w', w'.ownsRow W.heap.size e 1 (.slice a' m c') m vs → Kept W w' → wpList P ops Q rest (a.put o.dst (.slice a' m c')) w') :
    wpList P ops Q (o :: rest) a (W.alloc (.cells #[] e)) := by
  obtain ⟨a', c', w', hrun, h2, h3⟩ := run_copiedB (P := P) W t o.type e i z bytes ht hi hz hsize hby hzs ad m c vs hr hl hso h1 hn hmx
  refine wpList_plain hgd fun K hK => ?_
  unfold Oper.wp execOp
  simp only [ho, resolve, invoke, builtin, Sem.run_bind, Sem.run_pure, Result.andThen_ok, List.map_toArray, List.map_cons, List.map_nil, hs, hx, hrun]
  exact hK _ _ (h a' c' w' h2 h3)
end Go.Proofs.Yticeionjlknlcaa
