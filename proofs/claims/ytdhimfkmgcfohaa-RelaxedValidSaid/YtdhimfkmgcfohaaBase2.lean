/- More facts on worlds and frames. -/
import Derived.Test.YtdhimfkmgcfohaaBase
import Derived.OpenShut
namespace Go.Proofs.Ytdhimfkmgcfohaa
set_option linter.unusedVariables false
open Go.RowKit

theorem Blk.set14 {w : World} {b : Nat} {T : TypeId} {z0 z1 z2 z3 z4 z5 z6 z7 z8 z9 z10 z11 z12 z13 : Value} (h : Blk w b #[z0, z1, z2, z3, z4, z5, z6, z7, z8, z9, z10, z11, z12, z13] T) (a0 a1 a2 a3 a4 a5 a6 a7 a8 a9 a10 a11 a12 a13 : Value) :
    Blk ((((((((((((((w.setCell ⟨b, 0, none⟩ a0).setCell ⟨b, 1, none⟩ a1).setCell ⟨b, 2, none⟩ a2).setCell ⟨b, 3, none⟩ a3).setCell ⟨b, 4, none⟩ a4).setCell ⟨b, 5, none⟩ a5).setCell ⟨b, 6, none⟩ a6).setCell ⟨b, 7, none⟩ a7).setCell ⟨b, 8, none⟩ a8).setCell ⟨b, 9, none⟩ a9).setCell ⟨b, 10, none⟩ a10).setCell ⟨b, 11, none⟩ a11).setCell ⟨b, 12, none⟩ a12).setCell ⟨b, 13, none⟩ a13) b #[a0, a1, a2, a3, a4, a5, a6, a7, a8, a9, a10, a11, a12, a13] T := by
  have := ((((((((((((((h.set 0 a0).set 1 a1).set 2 a2).set 3 a3).set 4 a4).set 5 a5).set 6 a6).set 7 a7).set 8 a8).set 9 a9).set 10 a10).set 11 a11).set 12 a12).set 13 a13)
  simpa using this
theorem Upd.cells {S : Nat → Prop} {w w' : World} (h : Upd S w w') : ∀ a : Addr, (w.cell? a).isSome = true → ¬ S a.block → w'.cell? a = w.cell? a := fun a ha hn => by
  obtain ⟨v, hv⟩ := Option.isSome_iff_exists.1 ha
  exact World.cell?_of_block (h.block _ (World.block_lt_of_cell? w a hv) hn)
theorem Upd.frees {S : Nat → Prop} {w w' : World} (h : Upd S w w') : ∀ a : Addr, (w.cell? a).isSome = true → ¬ S a.block → w'.frozen? a = w.frozen? a := fun a ha hn => by
  obtain ⟨v, hv⟩ := Option.isSome_iff_exists.1 ha
  exact World.frozen?_of_block (h.block _ (World.block_lt_of_cell? w a hv) hn)
theorem keptCells {w w' : World} (h : Kept w w') : ∀ a : Addr, (w.cell? a).isSome = true → w'.cell? a = w.cell? a := fun a ha => h.cells a ha fun f => f
theorem keptFrees {w w' : World} (h : Kept w w') : ∀ a : Addr, (w.cell? a).isSome = true → w'.frozen? a = w.frozen? a := fun a ha => h.frees a ha fun f => f
theorem rem_i64 {P : Program} {x y : Int} (hx : 0 ≤ x) (hy : 0 < y) (hm : y ≤ 9223372036854775807) (w : World) (T : TypeId) : (binOp .rem T (.int .i64 x) (.int .i64 y)).run P w = .ok (.int .i64 (x % y)) w := by
  have h1 : x.tmod y = x % y := Int.tmod_eq_emod_of_nonneg hx
  have h2 : 0 ≤ x % y := Int.emod_nonneg _ (by omega)
  have h3 : x % y < y := Int.emod_lt_of_pos _ hy
  have h4 : ¬ y = 0 := by omega
  simp [binOp, Op.intDiv, h4, h1]
/-- x[:m]. -/
theorem run_take {P : Program} {t e : TypeId} {size : Nat} (ht : P.underlying t = some (.slice e)) (hs : (P.info? e).map (fun i => i.size) = some size) (a : Option Addr) (len cap m : Nat) (hm : m ≤ cap) (w : World) :
    (Instr.slice t (.slice a len cap) none (some (.int .i64 m)) none).run P w = .ok (.slice a m cap) w := by
  obtain ⟨i, hi, hsz⟩ := Option.map_eq_some_iff.1 hs
  have e1 : a.map (fun x => x.add 0) = a := by
    cases a with
    | none => rfl
    | some x => simp [Addr.add]
  simp [Instr.slice, run_underlying ht, Instr.sliceBounds, Instr.sliceBound, asIntOf, sizeOf, typeInfo, hi, Result.andThen, e1, hm]
theorem bits_255 (x : Int) : 0 ≤ bits .and .i64 x 255 ∧ bits .and .i64 x 255 ≤ 255 := by
  have h : (BitVec.ofInt 64 x &&& BitVec.ofInt 64 255).toNat ≤ 255 := by
    rw [BitVec.toNat_and]
    exact Nat.and_le_right
  have e : bits .and .i64 x 255 = IntKind.i64.wrap ((BitVec.ofInt 64 x &&& BitVec.ofInt 64 255).toNat : Int) := rfl
  rw [e, IntKind.wrap_i64]
  omega
end Go.Proofs.Ytdhimfkmgcfohaa
