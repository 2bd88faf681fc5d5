/- A row of numbers of one's own that begins anywhere in its block: append(x, y), x[:m], x[1:]. No program in sight. -/
import Derived.Test.YtdgkemadhooogaaPush
import Derived.Test.YtdgkemadhooogaaRd
import Derived.Test.YtdgkemadhooogaaCopyRow
namespace Go.Proofs.Ytdgkemadhooogaa
set_option linter.unusedVariables false
set_option linter.unusedSimpArgs false
open Go.RowKit

def OffRow (w : World) (base : Nat) (e : TypeId) (a : Option Addr) (n c : Nat) (xs : List Int) : Prop :=
  xs.length = n ∧ ((a = none ∧ n = 0 ∧ c = 0) ∨ ∃ (q off : Nat) (cur : List Value), a = some ⟨q, off, none⟩ ∧ base ≤ q ∧ Blk w q cur.toArray e ∧ n ≤ c ∧ off + c ≤ cur.length ∧ c ≤ maxLen ∧ (cur.drop off).take n = xs.map (Value.int .i64))
section
variable {w w' : World} {base : Nat} {e : TypeId} {a : Option Addr} {n c : Nat} {xs : List Int}
theorem OffRow.nil (w : World) (base : Nat) (e : TypeId) : OffRow w base e none 0 0 [] := ⟨rfl, .inl ⟨rfl, rfl, rfl⟩⟩
theorem OffRow.le (h : OffRow w base e a n c xs) : n ≤ c := by
  rcases h.2 with ⟨-, h1, h2⟩ | ⟨_, _, _, -, -, -, h1, -⟩ <;> omega
theorem OffRow.upd {S : Nat → Prop} (h : OffRow w base e a n c xs) (hu : Upd S w w') (hs : ∀ q, base ≤ q → q < w.heap.size → ¬ S q) : OffRow w' base e a n c xs := by
  refine ⟨h.1, h.2.imp id ?_⟩
  rintro ⟨q, off, cur, h1, h2, h3, h4⟩
  exact ⟨q, off, cur, h1, h2, h3.upd hu (hs q h2 h3.lt), h4⟩
theorem OffRow.kept (h : OffRow w base e a n c xs) (hu : Kept w w') : OffRow w' base e a n c xs := h.upd hu (fun _ _ _ f => f)
theorem OffRow.rd (h : OffRow w base e a n c xs) : Rd w a (xs.map (Value.int .i64)) := by
  rcases h.2 with ⟨h1, h2, -⟩ | ⟨q, off, cur, h1, -, hb, h4, h5, -, h6⟩
  · left
    have hx : xs = [] := List.eq_nil_of_length_eq_zero (by rw [h.1]; exact h2)
    rw [hx]
    rfl
  · refine .inr ⟨q, off, h1, fun i u hu => ?_⟩
    rw [← h6, List.getElem?_take] at hu
    split at hu
    · rw [hb.cell, List.getElem?_toArray, ← hu, List.getElem?_drop]
    · cases hu
theorem OffRow.take (h : OffRow w base e a n c xs) (m : Nat) (hm : m ≤ n) : OffRow w base e a m c (xs.take m) := by
  refine ⟨by rw [List.length_take, h.1]; omega, ?_⟩
  rcases h.2 with ⟨h1, h2, h3⟩ | ⟨q, off, cur, h1, h2, hb, h4, h5, h6, h7⟩
  · exact .inl ⟨h1, by omega, h3⟩
  · refine .inr ⟨q, off, cur, h1, h2, hb, by omega, h5, h6, ?_⟩
    rw [List.map_take, ← h7, List.take_take, Nat.min_eq_left hm]
end
/-- x[1:]. -/
theorem run_tail {P : Program} {t e : TypeId} (ht : P.underlying t = some (.slice e)) (hs : (P.info? e).map (fun i => i.size) = some 1) {w : World} {base : Nat} {a : Option Addr} {n c : Nat} {xs : List Int} (h : OffRow w base e a n c xs) (hn : 0 < n) :
    ∃ a', OffRow w base e a' (n - 1) (c - 1) xs.tail ∧ ∀ w', (Instr.slice t (.slice a n c) (some (.int .i64 1)) none none).run P w' = .ok (.slice a' (n - 1) (c - 1)) w' := by
  obtain ⟨i, hi, hsz⟩ := Option.map_eq_some_iff.1 hs
  rcases h.2 with ⟨h1, h2, h3⟩ | ⟨q, off, cur, h1, h2, hb, h4, h5, h6, h7⟩
  · omega
  · subst h1
    have hl : xs.tail.length = n - 1 := by rw [List.length_tail, h.1]
    by_cases hc : c = 1
    · have hn1 : n = 1 := by omega
      refine ⟨some ⟨q, off, none⟩, ⟨hl, .inr ⟨q, off, cur, rfl, h2, hb, by omega, by omega, by omega, ?_⟩⟩, fun w' => ?_⟩
      · subst hn1
        have : xs.tail = [] := List.eq_nil_of_length_eq_zero (by rw [hl])
        simp [this]
      · subst hc hn1
        simp [Instr.slice, run_underlying ht, Instr.sliceBounds, Instr.sliceBound, asIntOf, sizeOf, typeInfo, hi, Result.andThen, Addr.add]
    · have h1c : 1 ≤ n := hn
      refine ⟨some ⟨q, off + 1, none⟩, ⟨hl, .inr ⟨q, off + 1, cur, rfl, h2, hb, by omega, by omega, by omega, ?_⟩⟩, fun w' => ?_⟩
      · rw [List.map_tail, ← h7]
        cases hd : cur.drop off with
        | nil =>
          have := congrArg List.length hd
          simp at this
          omega
        | cons v r =>
          have : cur.drop (off + 1) = r := by rw [← List.drop_drop, hd]; rfl
          rw [this]
          obtain ⟨n', rfl⟩ : ∃ n', n = n' + 1 := ⟨n - 1, by omega⟩
          simp
      · have hle : n ≤ c := h4
        have h1i : (1 : Int) ≤ (n : Int) := by omega
        simp [Instr.slice, run_underlying ht, Instr.sliceBounds, Instr.sliceBound, asIntOf, sizeOf, typeInfo, hi, Result.andThen, Addr.add, hsz, hc, h1c, h1i]
theorem list_mid (cur : List Value) (off n : Nat) (y : Value) (r : List Value) (h : off + n < cur.length) : ((cur.take (off + n) ++ [y] ++ r).drop off).take (n + 1) = (cur.drop off).take n ++ [y] := by
  have h1 : (cur.take (off + n)).length = off + n := by rw [List.length_take]; omega
  have h2 : ((cur.drop off).take n).length = n := by rw [List.length_take, List.length_drop]; omega
  rw [List.append_assoc, List.drop_append_of_le_length (by omega), List.drop_take, show off + n - off = n by omega, List.take_append, h2]
  rw [List.take_of_length_le (by omega)]
  simp
/-- append(x, y). -/
theorem run_offpush {P : Program} (W : World) (base : Nat) (t ty e : TypeId) (i : TypeInfo) (ht : P.underlying t = some (.slice e)) (hi : P.info? e = some i) (hz : i.zero = some (.int .i64 0)) (hsize : i.size = 1) (hby : i.bytes = 8)
    {a : Option Addr} {n c : Nat} {xs : List Int} (h : OffRow W base e a n c xs) (y : Int) (hn : n ≤ 100000) (hbase : base ≤ W.heap.size) :
    ∃ a' c' w', (Builtin.append_ #[t, t] ty #[.slice a n c, .slice (some ⟨W.heap.size, 0, none⟩) 1 1]).run P (W.alloc (.cells #[Value.int .i64 y] e)) = .ok (.slice a' (n + 1) c') w' ∧ OffRow w' base e a' (n + 1) c' (xs ++ [y]) ∧ Upd (fun k => base ≤ k) W w' := by
  have hK : Upd (fun k => base ≤ k) W (W.alloc (.cells #[Value.int .i64 y] e)) := (Upd.refl _ _).alloc _
  have hKK : Kept W (W.alloc (.cells #[Value.int .i64 y] e)) := (Upd.refl _ _).alloc _
  have hnews : ∀ (j : Nat) (u : Value), [Value.int .i64 y][j]? = some u → (W.alloc (.cells #[Value.int .i64 y] e)).cell? ((⟨W.heap.size, 0, none⟩ : Addr).add j) = some u := by
    intro j u hu
    rw [add_off, Nat.zero_add, (Blk.new W #[Value.int .i64 y] e).cell, ← hu]
    simp
  have hone : ∀ u ∈ [Value.int .i64 y], u.oneCell' = true := by
    intro u hu
    rw [List.mem_singleton.1 hu]
    rfl
  have hbs : base ≤ (W.alloc (.cells #[Value.int .i64 y] e)).heap.size := Nat.le_trans hbase hKK.size
  have hgrown : ∀ (old : Nat) (q : World), old < n + 1 → q = W.alloc (.cells #[Value.int .i64 y] e) →
      OffRow (q.drew.alloc (.cells ((xs.map (Value.int .i64)).toArray ++ #[Value.int .i64 y] ++ Builtin.zeroCells (Value.int .i64 0).cells (grownCap q (n + 1) old e - (n + 1))) e)) base e (some ⟨q.heap.size, 0, none⟩) (n + 1) (grownCap q (n + 1) old e) (xs ++ [y]) ∧
      Upd (fun k => base ≤ k) W (q.drew.alloc (.cells ((xs.map (Value.int .i64)).toArray ++ #[Value.int .i64 y] ++ Builtin.zeroCells (Value.int .i64 0).cells (grownCap q (n + 1) old e - (n + 1))) e)) := by
    intro old q ho hq
    have hge := grownCap_ge q (n + 1) old e
    have hcm : grownCap q (n + 1) old e ≤ maxLen := grownCap_le_maxLen q (n + 1) old e (by unfold maxLen; omega)
    have hq2 : base ≤ q.heap.size := by rw [hq]; exact hbs
    refine ⟨?_, by rw [hq]; exact hK.drew.alloc _⟩
    have hlen : ((xs.map (Value.int .i64)).toArray ++ #[Value.int .i64 y] ++ Builtin.zeroCells (Value.int .i64 0).cells (grownCap q (n + 1) old e - (n + 1))).toList.length = grownCap q (n + 1) old e := by
      have hz1 : (Value.int .i64 0).cells.size = 1 := rfl
      simp only [Array.length_toList, Array.size_append, size_zeroCells, hz1, List.size_toArray, List.length_map, h.1]
      simp
      omega
    have htake : ((xs.map (Value.int .i64)).toArray ++ #[Value.int .i64 y] ++ Builtin.zeroCells (Value.int .i64 0).cells (grownCap q (n + 1) old e - (n + 1))).toList.take (n + 1) = (xs ++ [y]).map (Value.int .i64) := by
      rw [Array.toList_append, Array.toList_append]
      rw [List.take_left' (by simp [h.1])]
      simp
    generalize ((xs.map (Value.int .i64)).toArray ++ #[Value.int .i64 y] ++ Builtin.zeroCells (Value.int .i64 0).cells (grownCap q (n + 1) old e - (n + 1))) = arr at hlen htake ⊢
    exact ⟨by simp [h.1], .inr ⟨q.heap.size, 0, arr.toList, rfl, hq2, Blk.new q.drew arr e, hge, by omega, hcm, by rw [List.drop_zero]; exact htake⟩⟩
  rcases h.2 with ⟨rfl, rfl, rfl⟩ | ⟨q, off, cur, rfl, h2, hb, h4, h5, h6, h7⟩
  · have hxs : xs = [] := List.eq_nil_of_length_eq_zero h.1
    subst hxs
    have hr := run_append_nil (P := P) (W.alloc (.cells #[Value.int .i64 y] e)) t ty e i (.int .i64 0) ht hi hz ⟨W.heap.size, 0, none⟩ 1 1 [.int .i64 y] (by rw [hsize]; rfl) hnews (by omega) (by omega) (by rw [hby]; omega)
    obtain ⟨g1, g2⟩ := hgrown 0 _ (by omega) rfl
    simp only [List.map_nil, Array.empty_append, Nat.zero_add] at g1 g2
    exact ⟨_, _, _, hr, g1, g2⟩
  · by_cases hroom : n + 1 ≤ c
    · have hq : (W.alloc (.cells #[Value.int .i64 y] e)).heap[q]? = some (.cells cur.toArray e (0, 0)) := hb.kept hKK
      have hf := run_firstCells_some (P := P) (W.alloc (.cells #[Value.int .i64 y] e)) i.size 1 ⟨W.heap.size, 0, none⟩ 1 1 [.int .i64 y] (by rw [hsize]; rfl) hnews
      have hst := run_storeCells_at P q (off + n) e [.int .i64 y] 0 cur.toArray (W.alloc (.cells #[Value.int .i64 y] e)) hq (by simp; omega) hone
      simp only [Nat.add_zero] at hst
      refine ⟨some ⟨q, off, none⟩, c, (W.alloc (.cells #[Value.int .i64 y] e)).setRow q (cur.take (off + n) ++ [Value.int .i64 y] ++ cur.drop (off + n + [Value.int .i64 y].length)).toArray, ?_, ⟨by simp [h.1], .inr ⟨q, off, cur.take (off + n) ++ [Value.int .i64 y] ++ cur.drop (off + n + [Value.int .i64 y].length), rfl, h2, setRow_heap _ q _ _ e _ hq, hroom, ?_, h6, ?_⟩⟩, ⟨hK.os, hK.tape, hK.output, by simp, fun k hk hs => ?_⟩⟩
      · simp [Builtin.append_, run_underlying ht, sizeOf, typeInfo, hi, hsize, Builtin.lenOf, hroom, hf, add_off, hst]
        rw [hsize] at hf
        simp [hf, hst]
      · simp
        omega
      · rw [List.map_append, ← h7]
        exact list_mid cur off n _ _ (by omega)
      · rw [setRow_other _ q k _ (fun e => hs (by rw [e]; exact h2))]
        exact hK.block k hk hs
    · have holds : ∀ (j : Nat) (v : Value), (xs.map (Value.int .i64))[j]? = some v → (W.alloc (.cells #[Value.int .i64 y] e)).cell? ((⟨q, off, none⟩ : Addr).add j) = some v := by
        intro j v hv
        rw [add_off, (hb.kept hKK).cell, List.getElem?_toArray]
        rw [← h7, List.getElem?_take] at hv
        split at hv
        · rw [← hv, List.getElem?_drop]
        · cases hv
      have hr := run_append_grow (P := P) (W.alloc (.cells #[Value.int .i64 y] e)) t ty e i (.int .i64 0) ht hi hz ⟨q, off, none⟩ n c (xs.map (Value.int .i64)) (by rw [hsize, List.length_map, h.1]; omega) holds ⟨W.heap.size, 0, none⟩ 1 1 [.int .i64 y] (by rw [hsize]; rfl) hnews (by omega) (by omega) (growslice_fits (by omega) (by rw [hby]; omega))
      obtain ⟨g1, g2⟩ := hgrown c _ (by omega) rfl
      exact ⟨_, _, _, hr, g1, g2⟩
theorem wpList_offpush {P : Program} {W : World} {ops : Array Oper} {rest : List Oper} {o : Oper} {a : Act} {Q : Exit → Act → World → Prop} (hgd : o.guard = none) (s x : Operand) (t : TypeId)
    (ho : o.op = .call { callee := .builtin .append, args := #[s, x], argTypes := #[t, t] })
    (base : Nat) (e : TypeId) (i : TypeInfo) (ht : P.underlying t = some (.slice e)) (hi : P.info? e = some i) (hz : i.zero = some (.int .i64 0)) (hsize : i.size = 1) (hby : i.bytes = 8)
    {ad : Option Addr} {n c : Nat} {xs : List Int} (h : OffRow W base e ad n c xs) (y : Int) (hs : a.eval s = .slice ad n c) (hx : a.eval x = .slice (some ⟨W.heap.size, 0, none⟩) 1 1) (hn : n ≤ 100000) (hbase : base ≤ W.heap.size)
    (hk : ∀ a' c' w', OffRow w' base e a' (n + 1) c' (xs ++ [y]) → Upd (fun k => base ≤ k) W w' → wpList P ops Q rest (a.put o.dst (.slice a' (n + 1) c')) w') :
    wpList P ops Q (o :: rest) a (W.alloc (.cells #[Value.int .i64 y] e)) := by
  obtain ⟨a', c', w', hr, h2, h3⟩ := run_offpush (P := P) W base t o.type e i ht hi hz hsize hby h y hn hbase
  refine wpList_plain hgd fun K hK => ?_
  unfold Oper.wp execOp
  simp only [ho, resolve, invoke, builtin, Sem.run_bind, Sem.run_pure, Result.andThen_ok, List.map_toArray, List.map_cons, List.map_nil, hs, hx, hr]
  exact hK _ _ (hk a' c' w' h2 h3)
end Go.Proofs.Ytdgkemadhooogaa
