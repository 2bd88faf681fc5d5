/- A map[[2]int]int that the call makes: what it has at two numbers. -/
import Derived.Test.YtafabeehbifgaaaProg
import Derived.Test.YtafabeehbifgaaaBase2
import Derived.Maps.OwnSet
import Derived.DeepKeys4
import Derived.WideKeyPair
namespace Go.Proofs.Ytafabeehbifgaaa
set_option linter.unusedVariables false
open Go.RowKit Go.Maps Go.WideMaps

theorem laidOut : laidOutB Try.prog = true := by kernel_rfl
theorem row41 : (41 : TypeId) < Try.prog.types.size := of_decide_eq_true (by kernel_rfl)
theorem lawP : Keyed Try.prog 41 := Keyed.of_law (deep_law_laid laidOut (m := 2) (by omega) row41 (by kernel_rfl) (by kernel_rfl))
theorem arrP : ArrKey Try.prog 41 3 2 := ⟨Try.underlying41, by kernel_rfl, by kernel_rfl, by kernel_rfl⟩
theorem sizeP : ∃ m, Try.prog.types.size = m + 1 := by
  have h := row41
  cases hs : Try.prog.types.size with
  | zero => rw [hs] at h; exact absurd h (Nat.not_lt_zero _)
  | succ m => exact ⟨m, rfl⟩
theorem zeroP (w : World) : (zeroValue 3).run Try.prog w = .ok (.int .i64 0) w := by kernel_rfl
/-- A key, as it reads. -/
def kl (f t : Int) : Lit := .string (keyBytes [.int .i64 f, .int .i64 t])
def wfi (f : Int) : Prop := (Lit.int .i64 f).wf = true
theorem wfi_of {f : Int} (h0 : -9223372036854775808 ≤ f) (h1 : f ≤ 9223372036854775807) : wfi f := WalkArith.wf_i64 (n := f) ⟨h0, h1⟩
theorem kl_key {f t : Int} (hf : wfi f) (ht : wfi t) : keyOf Try.prog 41 (.agg #[.int .i64 f, .int .i64 t]) = some (kl f t) := keyOf_pair arrP Try.underlying3 sizeP hf ht
theorem kl_lit {f t : Int} (hf : wfi f) (ht : wfi t) : WideAt.IsKeyLit (kl f t) := lawP.key (kl_key hf ht)
theorem kl_ne {f t f' t' : Int} (hf : wfi f) (ht : wfi t) (hf' : wfi f') (ht' : wfi t') (h : ¬ (f = f' ∧ t = t')) : kl f t ≠ kl f' t' := by
  intro e
  have h1 := kl_key hf ht
  have h2 := kl_key hf' ht'
  rw [← e] at h2
  have := lawP.inj h1 h2
  simp at this
  exact h this
/-- What a map has: at (f, t) it is g f t, or there is none. -/
def MK (w : World) (b m : Nat) (g : Int → Int → Option Int) : Prop := ∃ D, w.ownsMap Try.prog 41 (plainElem (H := Unit) Try.prog 3) b m D ∧
  ∀ f t, wfi f → wfi t → Maps.has D (kl f t) = (g f t).isSome ∧ D.atKey (kl f t) (.lit (.int .i64 0)) = .lit (.int .i64 ((g f t).getD 0))
theorem MK.new (w : World) : MK (w.alloc (.map #[] 0)) w.heap.size 0 (fun _ _ => none) := ⟨_, World.ownsMap_made _ _ _ _, fun f t _ _ => ⟨by simp [Maps.has], by simp; rfl⟩⟩
theorem ownsMap_upd {w w' : World} {S : Nat → Prop} {b m : Nat} {D : DataW Unit} (h : w.ownsMap Try.prog 41 (plainElem (H := Unit) Try.prog 3) b m D) (hu : Upd S w w') (hs : ¬ S b) : w'.ownsMap Try.prog 41 (plainElem (H := Unit) Try.prog 3) b m D := by
  have hlt := h.lt
  obtain ⟨es, clock, hb, r⟩ := h
  exact ⟨es, clock, (hu.block b hlt hs).trans hb, r⟩
theorem MK.upd {w w' : World} {S : Nat → Prop} {b m : Nat} {g : Int → Int → Option Int} (hm : MK w b m g) (hu : Upd S w w') (hs : ¬ S b) : MK w' b m g := by
  obtain ⟨D, ho, hd⟩ := hm
  exact ⟨D, ownsMap_upd ho hu hs, hd⟩
theorem MK.lt {w : World} {b m : Nat} {g : Int → Int → Option Int} (hm : MK w b m g) : b < w.heap.size := by
  obtain ⟨D, ho, hd⟩ := hm
  exact ho.lt
theorem MK.mono {w : World} {b m m' : Nat} {g : Int → Int → Option Int} (hm : MK w b m g) (h : m ≤ m') : MK w b m' g := by
  obtain ⟨D, ho, hd⟩ := hm
  exact ⟨D, ho.mono h, hd⟩
/-- A map's block is no block of cells. -/
theorem MK.ne {w : World} {b m k : Nat} {g : Int → Int → Option Int} {arr : Array Value} {T : TypeId} (hm : MK w b m g) (hb : Blk w k arr T) : ¬ b = k := by
  intro e
  subst e
  obtain ⟨D, ⟨es, clock, h1, _⟩, _⟩ := hm
  have := h1.symm.trans hb
  simp at this
theorem MK.neRow {w : World} {b m base n size : Nat} {g : Int → Int → Option Int} {e : TypeId} {v : Value} {xs : List Value} (hm : MK w b m g) (h : w.ownsRow base e size v n xs) : ∀ k, v.ownBlock = some k → ¬ b = k := by
  intro k hk he
  subst he
  obtain ⟨D, ⟨es, clock, h1, _⟩, _⟩ := hm
  rcases h.2 with ⟨rfl, _⟩ | ⟨g', cap, cur, rfl, _, hh, _⟩
  · cases hk
  · cases hk
    have := h1.symm.trans hh
    simp at this
theorem grown_upd {w w' : World} {b : Nat} (h : w.grownBy w' (some b)) : Upd (fun k => k = b) w w' :=
  Upd.grown (Upd.refl _ _) h (fun j hj => .inl (by cases hj; rfl))
/-- 'm[[2]int{f, t}]'. -/
theorem MK.look {w : World} {b m : Nat} {g : Int → Int → Option Int} (hm : MK w b m g) {f t : Int} (hf : wfi f) (ht : wfi t) {c : Int} (hc : (g f t).getD 0 = c) :
    (Instr.lookup 40 (.map (some b)) (.agg #[.int .i64 f, .int .i64 t]) false).run Try.prog w = .ok (.int .i64 c) w := by
  obtain ⟨D, ho, hd⟩ := hm
  obtain ⟨c', hrun, hat, _⟩ := ho.lookup_int lawP Try.underlying40 Try.underlying3 (zeroP w) (kl_key hf ht)
  rw [(hd f t hf ht).2] at hat
  cases hat
  rw [hrun, ← hc]
/-- 'v, ok := m[[2]int{f, t}]'. -/
theorem MK.lookOk {w : World} {b m : Nat} {g : Int → Int → Option Int} (hm : MK w b m g) {f t : Int} (hf : wfi f) (ht : wfi t) {c : Int} {z : Bool} (hc : (g f t).getD 0 = c) (hz : (g f t).isSome = z) :
    (Instr.lookup 40 (.map (some b)) (.agg #[.int .i64 f, .int .i64 t]) true).run Try.prog w = .ok (.tuple #[.int .i64 c, .bool z]) w := by
  obtain ⟨D, ho, hd⟩ := hm
  obtain ⟨v, ps, hrun, hv⟩ := ho.look_ok lawP Try.underlying40 (zeroP w) (plainElem_int (H := Unit) Try.underlying3 (by decide)) (kl_key hf ht)
  obtain ⟨c', rfl, hc', _⟩ := plainElem_int_inv Try.underlying3 hv
  rw [(hd f t hf ht).2] at hc'
  simp at hc'
  rw [hrun, (hd f t hf ht).1, hz, ← hc, hc'.1]
/-- 'm[[2]int{f, t}] = u'. -/
theorem wpList_putk (w : World) {ops : Array Oper} {rest : List Oper} {o : Oper} {a : Act} {Q : Exit → Act → World → Prop} (hg : o.guard = none) (m x v : Operand) (hop : o.op = Op.mapUpdate 40 m x v) {b c : Nat} {g : Int → Int → Option Int}
    (hm : a.eval m = .map (some b)) (hown : MK w b c g) (hn : c < maxLen) {f t u : Int} (hf : wfi f) (ht : wfi t) (hx : a.eval x = .agg #[.int .i64 f, .int .i64 t]) (hv : a.eval v = .int .i64 u) (hu : wfi u)
    (hK : ∀ w', MK w' b (c + 1) (fun f' t' => if f' = f ∧ t' = t then some u else g f' t') → Upd (fun k => k = b) w w' → wpList Try.prog ops Q rest (a.put o.dst undef) w') : wpList Try.prog ops Q (o :: rest) a w := by
  obtain ⟨D, ho, hd⟩ := hown
  refine wpList_mapUpdate_own _ hg _ _ _ 40 hop 41 3 lawP Try.underlying40 (plainElem (H := Unit) Try.prog 3) b c D hm ho hn _ _ _ hx hv (kl_key hf ht) _ [] (plainElem_int Try.underlying3 hu) ?_
  intro w' ho' hg'
  refine hK w' ⟨_, ho', fun f' t' hf' ht' => ?_⟩ (grown_upd hg')
  by_cases e : f' = f ∧ t' = t
  · obtain ⟨rfl, rfl⟩ := e
    simp only [and_self, if_true, Option.isSome_some, Option.getD_some]
    exact ⟨has_put_same (ho.tidy lawP).isMap (kl_lit hf ht) _, atKey_put_same (ho.tidy lawP).isMap (kl_lit hf ht) _ _⟩
  · show _ = (if f' = f ∧ t' = t then some u else g f' t').isSome ∧ _ = DataW.lit (Lit.int IntKind.i64 ((if f' = f ∧ t' = t then some u else g f' t').getD 0))
    rw [if_neg e, has_put_other (kl_ne hf' ht' hf ht e), atKey_put_other (kl_ne hf' ht' hf ht e)]
    exact hd f' t' hf' ht'
end Go.Proofs.Ytafabeehbifgaaa
