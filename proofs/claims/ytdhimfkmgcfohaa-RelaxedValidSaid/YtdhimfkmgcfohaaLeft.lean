/- acequialaw05.Left of a right net (printed by gen_left.py). -/
import Derived.Test.YtdhimfkmgcfohaaRefRes
import Derived.Deep.RegionHeld3
namespace Go.Proofs.Ytdhimfkmgcfohaa
set_option linter.unusedVariables false
open Go.RowKit

/-- What Left hands back. -/
def LeftIs (N S T : Int) (ys : List Ar) (ls : List Int) (w : World) (e : Ending) (w' : World) : Prop := ∃ B n m a3 c3 a4 c4 a5 c5 a6 c6 a7 c7 a8 c8 a9 c9,
  e = .returned (.tuple #[.agg #[.int .i64 N, .int .i64 S, .int .i64 T, .slice a3 (n + 1) c3, .slice a4 m c4, .slice a5 m c5, .slice a6 m c6, .slice a7 m c7, .slice a8 m c8], .slice a9 m c9]) ∧ N.toNat = n ∧ (enAll n ys).length = m ∧ CsrR w' n ys a3 a4 a5 a6 a7 a8 ∧ CsrL w.heap.size B a3 a4 a5 a6 a7 a8 ∧ Kept w w' ∧ w.heap.size ≤ B ∧ w'.ownsRow B 2 1 (.slice a9 m c9) m (lv (resAll (wths ls ys) n ys))
theorem res_at (N S T : Int) (n m : Nat) (ys : List Ar) (a3 a4 a5 a6 a7 a8 : Option Addr) (c3 c4 c5 c6 c7 c8 : Nat) (fa : Option Addr) (fl fc : Nat) (fs : List Int) (w : World) (hc : CsrR w n ys a3 a4 a5 a6 a7 a8) (hm : (enAll n ys).length = m) (hm2 : m ≤ 1280) (hy : ∀ x ∈ ys, ArcOk n x) (hf : FsOk fs ys) (hr : Rd w fa (lv fs)) (hfl : fs.length = fl) :
    Calls Try.prog 29 #[.agg #[.int .i64 N, .int .i64 S, .int .i64 T, .slice a3 (n + 1) c3, .slice a4 m c4, .slice a5 m c5, .slice a6 m c6, .slice a7 m c7, .slice a8 m c8], .slice fa fl fc] w fun e w' => ∃ a9 c9, e = .returned (.tuple #[.slice a9 m c9, .int .i64 0]) ∧ w'.ownsRow w.heap.size 2 1 (.slice a9 m c9) m (lv (resAll fs n ys)) ∧ Kept w w' := by
  subst hfl
  refine (Res_ok N S T n m ys a3 a4 a5 a6 a7 a8 c3 c4 c5 c6 c7 c8 fa fc fs w hc hm hm2 hy hf hr).mono ?_
  rintro e w' ⟨v9, rfl, ho, hk⟩
  obtain ⟨a9, c9, rfl⟩ := row_form ho
  exact ⟨a9, c9, rfl, ho, hk⟩
structure LW (w w1 : World) (nb rb cb : Nat) (N S T : Int) (n m : Nat) (ys : List Ar) (a : Option Addr) (cap : Nat) (la : Option Addr) (ls : List Int) (a3 a4 a5 a6 a7 a8 : Option Addr) (c3 c4 c5 c6 c7 c8 : Nat) (wr : World) : Prop where
  kp : Kept w1 wr
  nn : Blk wr nb #[.int .i64 N, .int .i64 S, .int .i64 T, .slice a ys.length cap] 24
  rr : Blk wr rb #[.int .i64 0, .int .i64 0, .int .i64 0, .slice none 0 0, .slice none 0 0, .slice none 0 0, .slice none 0 0, .slice none 0 0, .slice none 0 0] 32
  cc : Blk wr cb #[.int .i64 N, .int .i64 S, .int .i64 T, .slice a3 (n + 1) c3, .slice a4 m c4, .slice a5 m c5, .slice a6 m c6, .slice a7 m c7, .slice a8 m c8] 32
  an : Ars wr a ys
  al : Rd wr la (ls.map (Value.int .i64))
  cr : CsrR wr n ys a3 a4 a5 a6 a7 a8
theorem LW.kept {w w1 : World} {nb rb cb : Nat} {N S T : Int} {n m : Nat} {ys : List Ar} {a : Option Addr} {cap : Nat} {la : Option Addr} {ls : List Int} {a3 a4 a5 a6 a7 a8 : Option Addr} {c3 c4 c5 c6 c7 c8 : Nat} {wr w' : World} (h : LW w w1 nb rb cb N S T n m ys a cap la ls a3 a4 a5 a6 a7 a8 c3 c4 c5 c6 c7 c8 wr) (hk : Kept wr w') : LW w w1 nb rb cb N S T n m ys a cap la ls a3 a4 a5 a6 a7 a8 c3 c4 c5 c6 c7 c8 w' :=
  ⟨h.kp.trans hk, h.nn.kept hk, h.rr.kept hk, h.cc.kept hk, h.an.kept hk, h.al.kept hk, h.cr.kept hk⟩

end Go.Proofs.Ytdhimfkmgcfohaa
