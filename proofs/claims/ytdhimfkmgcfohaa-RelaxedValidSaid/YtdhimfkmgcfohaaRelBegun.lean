/- acequialaw09.begun (printed by gen_relbegun.py) -/
import Derived.Test.YtdhimfkmgcfohaaRelDoes
import Derived.Test.YtdhimfkmgcfohaaRefRes
import Derived.Test.YtdhimfkmgcfohaaLeft
import Derived.Deep.CutRange
import Derived.Deep.RegionHeld3
import Derived.Deep.MidRow
import Derived.Deep.Onto
import Derived.Laws.OwnMore
import Derived.Deep.AppendLies
import Derived.Deep.Onto
namespace Go.Proofs.Ytdhimfkmgcfohaa
set_option linter.unusedVariables false
set_option linter.unusedSimpArgs false
open Go.RowKit
attribute [local go_sem] cell?_ext

/-- What a state begins with: all of S's arcs are full. -/
def begF (S : Int) (x : Ar) : Int := if x.f = S ∧ x.t ≠ S then x.c else 0
def begL (S : Int) (n : Nat) (ys : List Ar) : Nat → List Int
  | 0 => List.replicate n 0
  | k + 1 => if (ys.getD k ⟨0, 0, 0⟩).f = S ∧ (ys.getD k ⟨0, 0, 0⟩).t ≠ S then plusAt (plusAt (begL S n ys k) S.toNat (-(ys.getD k ⟨0, 0, 0⟩).c)) (ys.getD k ⟨0, 0, 0⟩).t.toNat (ys.getD k ⟨0, 0, 0⟩).c else begL S n ys k
theorem begL_len (S : Int) (n : Nat) (ys : List Ar) : ∀ k, (begL S n ys k).length = n
  | 0 => List.length_replicate
  | k + 1 => by
    unfold begL
    split
    · simp [plusAt_len, begL_len S n ys k]
    · exact begL_len S n ys k
def begP (N S : Int) (n : Nat) (ys : List Ar) : PS := ⟨resAll (ys.map (begF S)) n ys, begL S n ys ys.length, (List.replicate n 0).set S.toNat N⟩
theorem begF_ok {N S : Int} {ys : List Ar} (h : ∀ x ∈ ys, ArcOk N x) : FsOk (ys.map (begF S)) ys := by
  refine ⟨by simp, fun k x hx => ⟨begF S x, by simp [hx], ?_⟩⟩
  have := h x (List.mem_of_getElem? hx)
  unfold ArcOk at this
  unfold begF
  split <;> omega
theorem begP_ok (N S : Int) (n m : Nat) (ys : List Ar) (hm : (enAll n ys).length = m) : (begP N S n ys).ok n m :=
  ⟨by simp [begP, resAll_len, hm], begL_len _ _ _ _, by simp [begP]⟩
/-- The numbers of a flow, the first k of them. -/
def fK (S : Int) (ys : List Ar) (k : Nat) : List Int := (ys.take k).map (begF S) ++ List.replicate (ys.length - k) 0
theorem fK_len (S : Int) (ys : List Ar) (k : Nat) (h : k ≤ ys.length) : (fK S ys k).length = ys.length := by simp [fK]; omega
theorem fK_next (S : Int) (ys : List Ar) (k : Nat) (h : k < ys.length) : fK S ys (k + 1) = (fK S ys k).set k (begF S ys[k]) := by
  unfold fK
  rw [List.take_succ_eq_append_getElem h, List.map_append, List.set_append_right _ _ (by simp; omega)]
  simp only [List.map_cons, List.map_nil, List.append_assoc, List.length_map, List.length_take, Nat.min_eq_left (Nat.le_of_lt h), Nat.sub_self]
  congr 1
  rw [show ys.length - k = ys.length - (k + 1) + 1 by omega, List.replicate_succ]
  rfl
theorem fK_same (S : Int) (ys : List Ar) (k : Nat) (h : k < ys.length) (hz : begF S ys[k] = 0) : fK S ys (k + 1) = fK S ys k := by
  rw [fK_next S ys k h, hz]
  unfold fK
  rw [List.set_append_right _ _ (by simp; omega), show ys.length - k = ys.length - (k + 1) + 1 by omega, List.replicate_succ]
  simp [Nat.min_eq_left (Nat.le_of_lt h)]
theorem lv_set' (xs : List Int) (i : Nat) (x : Int) : (lv xs).set i (.int .i64 x) = lv (xs.set i x) := by simp [lv, List.map_set]
theorem zrow {w : World} (n : Nat) (e : TypeId) (hn : n ≤ 1000000) (base : Nat) (hb : base ≤ w.heap.size) : (w.alloc (.cells (zeros n (.int .i64 0)) e)).ownsRow base e 1 (.slice (some ⟨w.heap.size, 0, none⟩) n n) n (lv (List.replicate n 0)) := by
  have := World.ownsRow_lit (base := base) (e := e) (size := 1) w (zeros n (.int .i64 0)) n hb (by unfold maxLen; omega) (by simp [zeros])
  simpa [zeros, lv] using this
/-- What begun hands back. -/
def BegEnd (N S T : Int) (ys : List Ar) (w : World) (e : Ending) (w' : World) : Prop := ∃ n m lo B a3 c3 a4 c4 a5 c5 a6 c6 a7 c7 a8 c8 ra rc ea ec za zc, e = .returned (.tuple #[.agg #[.int .i64 N, .int .i64 S, .int .i64 T, .slice a3 (n + 1) c3, .slice a4 m c4, .slice a5 m c5, .slice a6 m c6, .slice a7 m c7, .slice a8 m c8], .agg #[.slice ra m rc, .slice ea n ec, .slice za n zc]]) ∧
  Gr N S T n m ys ∧ CsrR w' n ys a3 a4 a5 a6 a7 a8 ∧ CsrL lo B a3 a4 a5 a6 a7 a8 ∧ w.heap.size ≤ B ∧ OwnP w' B (begP N S n ys) n m ra rc ea ec za zc ∧ Kept w w'
set_option maxRecDepth 100000 in
set_option maxHeartbeats 8000000 in
theorem begun_any (N S T : Int) (a : Option Addr) (cap L : Nat) (ys : List Ar) (w : World) (hA : Ars w a ys) (hL : ys.length = L) (hok : NetOk N S T ys) :
    Calls Try.prog 8 #[.agg #[.int .i64 N, .int .i64 S, .int .i64 T, .slice a L cap]] w (BegEnd N S T ys w) := by
  have hs1 : (w.alloc (.cells #[.int .i64 N, .int .i64 S, .int .i64 T, .slice a L cap] 24)).heap.size = w.heap.size + 1 := World.size_alloc _ _
  have hs2 : ((w.alloc (.cells #[.int .i64 N, .int .i64 S, .int .i64 T, .slice a L cap] 24)).alloc (.cells #[.int .i64 0, .int .i64 0, .int .i64 0, .slice none 0 0, .slice none 0 0, .slice none 0 0, .slice none 0 0, .slice none 0 0, .slice none 0 0] 32)).heap.size = w.heap.size + 1 + 1 := by rw [← hs1]; exact World.size_alloc _ _
  have HK := Lib.hid ((((Upd.refl (fun _ => False) w).alloc (.cells #[.int .i64 N, .int .i64 S, .int .i64 T, .slice a L cap] 24)).alloc (.cells #[.int .i64 0, .int .i64 0, .int .i64 0, .slice none 0 0, .slice none 0 0, .slice none 0 0, .slice none 0 0, .slice none 0 0, .slice none 0 0] 32)).alloc (.cells #[.slice none 0 0, .slice none 0 0, .slice none 0 0] 29))
  have HN := Lib.hid (((Blk.new w #[.int .i64 N, .int .i64 S, .int .i64 T, .slice a L cap] 24).alloc (.cells #[.int .i64 0, .int .i64 0, .int .i64 0, .slice none 0 0, .slice none 0 0, .slice none 0 0, .slice none 0 0, .slice none 0 0, .slice none 0 0] 32)).alloc (.cells #[.slice none 0 0, .slice none 0 0, .slice none 0 0] 29))
  have HR := Lib.hid ((Blk.new (w.alloc (.cells #[.int .i64 N, .int .i64 S, .int .i64 T, .slice a L cap] 24)) #[.int .i64 0, .int .i64 0, .int .i64 0, .slice none 0 0, .slice none 0 0, .slice none 0 0, .slice none 0 0, .slice none 0 0, .slice none 0 0] 32).alloc (.cells #[.slice none 0 0, .slice none 0 0, .slice none 0 0] 29))
  have HQ := Lib.hid (Blk.new ((w.alloc (.cells #[.int .i64 N, .int .i64 S, .int .i64 T, .slice a L cap] 24)).alloc (.cells #[.int .i64 0, .int .i64 0, .int .i64 0, .slice none 0 0, .slice none 0 0, .slice none 0 0, .slice none 0 0, .slice none 0 0, .slice none 0 0] 32)) #[.slice none 0 0, .slice none 0 0, .slice none 0 0] 29)
  rw [hs1] at HR
  rw [hs2] at HQ
  have HAA := Lib.hid (hA.kept HK.out)
  have HOK := Lib.hid hok
  have HLN := Lib.hid hL
  have HMK : ∀ W, Kept w W → Hid (Calls Try.prog 28 #[.agg #[.int .i64 N, .int .i64 S, .int .i64 T, .slice a L cap]] W fun e w' => ∃ v3 v4 v5 v6 v7 v8, e = .returned (.tuple #[.agg #[.int .i64 N, .int .i64 S, .int .i64 T, v3, v4, v5, v6, v7, v8], .int .i64 0]) ∧ CsrV w' W.heap.size N.toNat ys v3 v4 v5 v6 v7 v8 ∧ Kept W w') := fun W k => by
    subst hL
    exact Lib.hid (Make_ok N S T a cap ys W (hA.kept k) hok)
  have hL40 : L ≤ 40 := by have := hok.len; omega
  have hn16 := hok.n16
  have hn2 := hok.n2
  clear hA hok hL
  go_enter Try.func8, Try.ntmps8
  go_upto_region 1 with (fail)
  try rw [hs2]
  try rw [hs1]
  clear hs1 hs2
  generalize (((w.alloc (.cells #[.int .i64 N, .int .i64 S, .int .i64 T, .slice a L cap] 24)).alloc (.cells #[.int .i64 0, .int .i64 0, .int .i64 0, .slice none 0 0, .slice none 0 0, .slice none 0 0, .slice none 0 0, .slice none 0 0, .slice none 0 0] 32)).alloc (.cells #[.slice none 0 0, .slice none 0 0, .slice none 0 0] 29)) = W0 at HK HN HR HQ HAA ⊢
  have HQB : Hid (w.heap.size ≤ w.heap.size + 1 ∧ w.heap.size ≤ w.heap.size + 1 + 1 ∧ ¬ w.heap.size + 1 = w.heap.size + 1 + 1) := Lib.hid (by omega)
  generalize w.heap.size + 1 + 1 = qb at HQ HQB ⊢
  generalize w.heap.size + 1 = rb at HR HQB ⊢
  generalize hnb : w.heap.size = nb at HN HQB ⊢
  have HNB := Lib.hid hnb
  clear hnb
  have nx := HN.out.cell
  go_wp2_with fail
  refine (HMK _ HK.out).out.mono ?_
  rintro e w1 ⟨v3, v4, v5, v6, v7, v8, rfl, hcv, hk1⟩
  obtain ⟨a3, c3, a4, c4, a5, c5, a6, c6, a7, c7, a8, c8, rfl, rfl, rfl, rfl, rfl, rfl, hcr, hcl⟩ := hcv.rd
  clear hcv
  obtain ⟨n, hn⟩ : ∃ n, N.toNat = n := ⟨_, rfl⟩
  obtain ⟨m, hm⟩ : ∃ m, (enAll n ys).length = m := ⟨_, rfl⟩
  rw [hn] at hcr ⊢
  rw [hm]
  have HG : Hid (Gr N S T n m ys) := Lib.hid ⟨HOK.out, hn, hm⟩
  have hNn : N = (n : Int) := by omega
  have HNN := Lib.hid hNn
  have HCR := Lib.hid hcr
  have HK1 := Lib.hid (HK.out.trans hk1)
  have HN1 := Lib.hid (HN.out.kept hk1)
  have HR1 := Lib.hid (HR.out.kept hk1)
  have HQ1 := Lib.hid (HQ.out.kept hk1)
  have HA1 := Lib.hid (HAA.out.kept hk1)
  have HCL := Lib.hid hcl
  have HHI := Lib.hid (show qb < W0.heap.size ∧ rb < W0.heap.size ∧ W0.heap.size ≤ w1.heap.size from ⟨HQ.out.lt, HR.out.lt, hk1.size⟩)
  clear hcr hcl hk1 HK HN HR HQ HAA nx hn hm HMK
  clear hNn
  have hmk2 := fun w => make_one (P := Try.prog) (t := 26) (e := 2) (z := .int .i64 0) (v := .int .i64 0) (bytes := 8) Try.underlying26 (by kernel_rfl) rfl .i64 L (by omega) (by omega) w
  have hmk3 : ∀ w, (Instr.makeSlice 26 (.int .i64 N) (.int .i64 N)).run Try.prog w = .ok (.slice (some ⟨w.heap.size, 0, none⟩) n n) (w.alloc (.cells (zeros n (.int .i64 0)) 2)) := fun w => by
    rw [HNN.out]
    exact make_one (P := Try.prog) (t := 26) (e := 2) (z := .int .i64 0) (v := .int .i64 0) (bytes := 8) Try.underlying26 (by kernel_rfl) rfl .i64 n (by have := HNN.out; omega) (by have := HNN.out; omega) w
  have HS0 : Hid ((w1.alloc (.cells #[.int .i64 N, .int .i64 S, .int .i64 T, .slice a3 (n + 1) c3, .slice a4 m c4, .slice a5 m c5, .slice a6 m c6, .slice a7 m c7, .slice a8 m c8] 32)).heap.size = w1.heap.size + 1 ∧ ((w1.alloc (.cells #[.int .i64 N, .int .i64 S, .int .i64 T, .slice a3 (n + 1) c3, .slice a4 m c4, .slice a5 m c5, .slice a6 m c6, .slice a7 m c7, .slice a8 m c8] 32)).alloc (.cells (zeros L (.int .i64 0)) 2)).heap.size = w1.heap.size + 1 + 1 ∧ (((w1.alloc (.cells #[.int .i64 N, .int .i64 S, .int .i64 T, .slice a3 (n + 1) c3, .slice a4 m c4, .slice a5 m c5, .slice a6 m c6, .slice a7 m c7, .slice a8 m c8] 32)).alloc (.cells (zeros L (.int .i64 0)) 2)).alloc (.cells (zeros n (.int .i64 0)) 2)).heap.size = w1.heap.size + 1 + 1 + 1) := Lib.hid (by
    have e1 := World.size_alloc w1 (.cells #[.int .i64 N, .int .i64 S, .int .i64 T, .slice a3 (n + 1) c3, .slice a4 m c4, .slice a5 m c5, .slice a6 m c6, .slice a7 m c7, .slice a8 m c8] 32)
    have e2 := World.size_alloc (w1.alloc (.cells #[.int .i64 N, .int .i64 S, .int .i64 T, .slice a3 (n + 1) c3, .slice a4 m c4, .slice a5 m c5, .slice a6 m c6, .slice a7 m c7, .slice a8 m c8] 32)) (.cells (zeros L (.int .i64 0)) 2)
    have e3 := World.size_alloc ((w1.alloc (.cells #[.int .i64 N, .int .i64 S, .int .i64 T, .slice a3 (n + 1) c3, .slice a4 m c4, .slice a5 m c5, .slice a6 m c6, .slice a7 m c7, .slice a8 m c8] 32)).alloc (.cells (zeros L (.int .i64 0)) 2)) (.cells (zeros n (.int .i64 0)) 2)
    omega)
  have X0 : Hid (Kept w1 (((w1.alloc (.cells #[.int .i64 N, .int .i64 S, .int .i64 T, .slice a3 (n + 1) c3, .slice a4 m c4, .slice a5 m c5, .slice a6 m c6, .slice a7 m c7, .slice a8 m c8] 32)).alloc (.cells (zeros L (.int .i64 0)) 2)).alloc (.cells (zeros n (.int .i64 0)) 2)) ∧ Blk (((w1.alloc (.cells #[.int .i64 N, .int .i64 S, .int .i64 T, .slice a3 (n + 1) c3, .slice a4 m c4, .slice a5 m c5, .slice a6 m c6, .slice a7 m c7, .slice a8 m c8] 32)).alloc (.cells (zeros L (.int .i64 0)) 2)).alloc (.cells (zeros n (.int .i64 0)) 2)) w1.heap.size #[.int .i64 N, .int .i64 S, .int .i64 T, .slice a3 (n + 1) c3, .slice a4 m c4, .slice a5 m c5, .slice a6 m c6, .slice a7 m c7, .slice a8 m c8] 32 ∧ (((w1.alloc (.cells #[.int .i64 N, .int .i64 S, .int .i64 T, .slice a3 (n + 1) c3, .slice a4 m c4, .slice a5 m c5, .slice a6 m c6, .slice a7 m c7, .slice a8 m c8] 32)).alloc (.cells (zeros L (.int .i64 0)) 2)).alloc (.cells (zeros n (.int .i64 0)) 2)).ownsRow w1.heap.size 2 1 (.slice (some ⟨w1.heap.size + 1, 0, none⟩) L L) L (lv (fK S ys 0)) ∧ (((w1.alloc (.cells #[.int .i64 N, .int .i64 S, .int .i64 T, .slice a3 (n + 1) c3, .slice a4 m c4, .slice a5 m c5, .slice a6 m c6, .slice a7 m c7, .slice a8 m c8] 32)).alloc (.cells (zeros L (.int .i64 0)) 2)).alloc (.cells (zeros n (.int .i64 0)) 2)).ownsRow w1.heap.size 2 1 (.slice (some ⟨w1.heap.size + 1 + 1, 0, none⟩) n n) n (lv (begL S n ys 0))) := Lib.hid (by
    have k1 := (Upd.refl (fun _ => False) (w1.alloc (.cells #[.int .i64 N, .int .i64 S, .int .i64 T, .slice a3 (n + 1) c3, .slice a4 m c4, .slice a5 m c5, .slice a6 m c6, .slice a7 m c7, .slice a8 m c8] 32))).alloc (.cells (zeros L (.int .i64 0)) 2)
    have k2 := (Upd.refl (fun _ => False) ((w1.alloc (.cells #[.int .i64 N, .int .i64 S, .int .i64 T, .slice a3 (n + 1) c3, .slice a4 m c4, .slice a5 m c5, .slice a6 m c6, .slice a7 m c7, .slice a8 m c8] 32)).alloc (.cells (zeros L (.int .i64 0)) 2))).alloc (.cells (zeros n (.int .i64 0)) 2)
    have r1 := zrow (w := (w1.alloc (.cells #[.int .i64 N, .int .i64 S, .int .i64 T, .slice a3 (n + 1) c3, .slice a4 m c4, .slice a5 m c5, .slice a6 m c6, .slice a7 m c7, .slice a8 m c8] 32))) L 2 (by omega) w1.heap.size (by have := HS0.out; omega)
    have r2 := zrow (w := ((w1.alloc (.cells #[.int .i64 N, .int .i64 S, .int .i64 T, .slice a3 (n + 1) c3, .slice a4 m c4, .slice a5 m c5, .slice a6 m c6, .slice a7 m c7, .slice a8 m c8] 32)).alloc (.cells (zeros L (.int .i64 0)) 2))) n 2 (by have := HNN.out; omega) w1.heap.size (by have := HS0.out; omega)
    rw [HS0.out.1] at r1
    rw [HS0.out.2.1] at r2
    refine ⟨(((Upd.refl (fun _ => False) w1).alloc _).trans k1).trans k2, ((Blk.new w1 _ _).kept k1).kept k2, ?_, r2⟩
    have e : fK S ys 0 = List.replicate L 0 := by simp [fK, HLN.out]
    rw [e]
    exact ownsRow_far r1 k2 (fun _ _ f => f))
  have HNE : Hid (w1.heap.size ≤ w1.heap.size ∧ w1.heap.size ≤ w1.heap.size + 1 ∧ w1.heap.size ≤ w1.heap.size + 1 + 1 ∧ ¬ w1.heap.size + 1 = w1.heap.size + 1 + 1) := Lib.hid (by omega)
  have nx := (HN1.out.kept (((Upd.refl (fun _ => False) w1).alloc (.cells #[.int .i64 N, .int .i64 S, .int .i64 T, .slice a3 (n + 1) c3, .slice a4 m c4, .slice a5 m c5, .slice a6 m c6, .slice a7 m c7, .slice a8 m c8] 32)))).cell
  go_upto_region 3 with (fail)
  have e1 := HS0.out.1
  have e2 := HS0.out.2.1
  try rw [e1]
  clear nx
  have nx := (HN1.out.kept ((((Upd.refl (fun _ => False) w1).alloc (.cells #[.int .i64 N, .int .i64 S, .int .i64 T, .slice a3 (n + 1) c3, .slice a4 m c4, .slice a5 m c5, .slice a6 m c6, .slice a7 m c7, .slice a8 m c8] 32)).alloc (.cells (zeros L (.int .i64 0)) 2)))).cell
  go_upto_region 4 with (fail)
  try rw [e2]
  clear nx hmk2 hmk3 e1 e2
  generalize (((w1.alloc (.cells #[.int .i64 N, .int .i64 S, .int .i64 T, .slice a3 (n + 1) c3, .slice a4 m c4, .slice a5 m c5, .slice a6 m c6, .slice a7 m c7, .slice a8 m c8] 32)).alloc (.cells (zeros L (.int .i64 0)) 2)).alloc (.cells (zeros n (.int .i64 0)) 2)) = W3 at X0 HS0 ⊢
  clear HS0
  generalize w1.heap.size + 1 + 1 = ge at X0 HNE ⊢
  generalize w1.heap.size + 1 = gf at X0 HNE ⊢
  generalize hxb : w1.heap.size = xb at HNE ⊢
  have HXB := Lib.hid hxb
  have X1 : Hid (Kept w1 W3 ∧ Blk W3 xb #[.int .i64 N, .int .i64 S, .int .i64 T, .slice a3 (n + 1) c3, .slice a4 m c4, .slice a5 m c5, .slice a6 m c6, .slice a7 m c7, .slice a8 m c8] 32 ∧ W3.ownsRow w1.heap.size 2 1 (.slice (some ⟨gf, 0, none⟩) L L) L (lv (fK S ys 0)) ∧ W3.ownsRow w1.heap.size 2 1 (.slice (some ⟨ge, 0, none⟩) n n) n (lv (begL S n ys 0))) := Lib.hid (by have h := X0.out; rw [hxb] at h ⊢; exact h)
  clear hxb X0
  have nx := (HN1.out.kept X1.out.1).cell
  go_upto_region 5 with (fail)
  clear nx
  go_loopw [28] (fun x wr => ∃ k : Nat, x = .int .i64 k ∧ k ≤ L ∧ Hid (Kept w1 wr ∧ Blk wr xb #[.int .i64 N, .int .i64 S, .int .i64 T, .slice a3 (n + 1) c3, .slice a4 m c4, .slice a5 m c5, .slice a6 m c6, .slice a7 m c7, .slice a8 m c8] 32 ∧ wr.ownsRow w1.heap.size 2 1 (.slice (some ⟨gf, 0, none⟩) L L) L (lv (fK S ys k)) ∧ wr.ownsRow w1.heap.size 2 1 (.slice (some ⟨ge, 0, none⟩) n n) n (lv (begL S n ys k)))) (fun x _ => L - (intOf x).toNat)
  case atStart => exact ⟨0, rfl, by omega, X1⟩
  case round =>
    clear X1
    obtain ⟨k, rfl, hk, X1⟩ := hrel
    by_cases hlt : k < L
    · have hkl : k < ys.length := by have := HLN.out; omega
      obtain ⟨b, off, rfl, p0, p1, p2⟩ := (HA1.out.kept X1.out.1).at k hkl
      have hao := HOK.out.arcs ys[k] (List.getElem_mem hkl)
      have HST : Hid (begL S n ys (k + 1) = if ys[k].f = S ∧ ys[k].t ≠ S then plusAt (plusAt (begL S n ys k) S.toNat (-ys[k].c)) ys[k].t.toNat ys[k].c else begL S n ys k) := Lib.hid (by
        have e : ys.getD k ⟨0, 0, 0⟩ = ys[k] := by simp [hkl]
        show (if _ then _ else _) = _
        rw [e])
      have HF1 := Lib.hid (fK_next S ys k hkl)
      have HF2 := Lib.hid (fK_same S ys k hkl)
      have HBF : Hid (begF S ys[k] = if ys[k].f = S ∧ ys[k].t ≠ S then ys[k].c else 0) := Lib.hid rfl
      have HFL := Lib.hid (fK_len S ys k (by omega))
      have HBL := Lib.hid (begL_len S n ys k)
      generalize ys[k] = ar at p0 p1 p2 hao HST HF1 HF2 HBF
      obtain ⟨fv, tv, cv0⟩ := ar
      simp only at p0 p1 p2 HST HBF
      unfold ArcOk at hao
      simp only at hao
      have hA := (Upd.refl (fun _ => False) wr).alloc (.cells #[.int .i64 fv, .int .i64 tv, .int .i64 cv0] 68)
      have X2 : Hid (Kept w1 (wr.alloc (.cells #[.int .i64 fv, .int .i64 tv, .int .i64 cv0] 68)) ∧ Blk (wr.alloc (.cells #[.int .i64 fv, .int .i64 tv, .int .i64 cv0] 68)) xb #[.int .i64 N, .int .i64 S, .int .i64 T, .slice a3 (n + 1) c3, .slice a4 m c4, .slice a5 m c5, .slice a6 m c6, .slice a7 m c7, .slice a8 m c8] 32 ∧ (wr.alloc (.cells #[.int .i64 fv, .int .i64 tv, .int .i64 cv0] 68)).ownsRow w1.heap.size 2 1 (.slice (some ⟨gf, 0, none⟩) L L) L (lv (fK S ys k)) ∧ (wr.alloc (.cells #[.int .i64 fv, .int .i64 tv, .int .i64 cv0] 68)).ownsRow w1.heap.size 2 1 (.slice (some ⟨ge, 0, none⟩) n n) n (lv (begL S n ys k))) := Lib.hid ⟨X1.out.1.trans hA, X1.out.2.1.kept hA, ownsRow_far X1.out.2.2.1 hA (fun _ _ f => f), ownsRow_far X1.out.2.2.2 hA (fun _ _ f => f)⟩
      have HAB := Lib.hid (Blk.new wr #[.int .i64 fv, .int .i64 tv, .int .i64 cv0] 68)
      have j1 : (k : Int) < (L : Int) := by omega
      have j2 : (0 : Int) ≤ (k : Int) := by omega
      clear hA X1
      go_upto_region 7 with (fail)
      clear p0 p1 p2
      generalize (wr.alloc (.cells #[.int .i64 fv, .int .i64 tv, .int .i64 cv0] 68)) = W4 at X2 HAB ⊢
      generalize wr.heap.size = ab at HAB ⊢
      have ax := HAB.out.cell
      have nx := (HN1.out.kept X2.out.1).cell
      by_cases q1 : fv = S
      · have b1 : (fv == S) = true := by simpa using q1
        by_cases q2 : tv = S
        · as_aux_lemma =>
          have b2 : (tv != S) = false := by simpa using q2
          have X9 : Hid (Kept w1 W4 ∧ Blk W4 xb #[.int .i64 N, .int .i64 S, .int .i64 T, .slice a3 (n + 1) c3, .slice a4 m c4, .slice a5 m c5, .slice a6 m c6, .slice a7 m c7, .slice a8 m c8] 32 ∧ W4.ownsRow w1.heap.size 2 1 (.slice (some ⟨gf, 0, none⟩) L L) L (lv (fK S ys (k + 1))) ∧ W4.ownsRow w1.heap.size 2 1 (.slice (some ⟨ge, 0, none⟩) n n) n (lv (begL S n ys (k + 1)))) := Lib.hid (by
            rw [HST.out, if_neg (fun h => h.2 q2), HF2.out (by rw [HBF.out, if_neg (fun h => h.2 q2)])]
            exact X2.out)
          clear X2 HST HF1 HF2 HBF q1 q2
          go_wp2_with fail
          go_roundw
          case rel => exact ⟨k + 1, by go_num, by omega, X9⟩
          case measure => simp [intOf]; omega
        · as_aux_lemma =>
          have b2 : (tv != S) = true := by simpa using q2
          have HFN : Hid (fK S ys (k + 1) = (fK S ys k).set k cv0) := Lib.hid (by rw [HF1.out, HBF.out, if_pos ⟨q1, q2⟩])
          have HBN : Hid (begL S n ys (k + 1) = plusAt (plusAt (begL S n ys k) S.toNat (-cv0)) tv.toNat cv0) := Lib.hid (by rw [HST.out, if_pos ⟨q1, q2⟩])
          obtain ⟨sn, hsn⟩ : ∃ z : Nat, S = (z : Int) := ⟨S.toNat, by omega⟩
          obtain ⟨tn, htn⟩ : ∃ z : Nat, tv = (z : Int) := ⟨tv.toNat, by omega⟩
          have HSN := Lib.hid hsn
          have HTN := Lib.hid htn
          have HQS := Lib.hid q1
          have hsl : sn < n := by have := HNN.out; omega
          have htl : tn < n := by have := HNN.out; omega
          clear HST HF1 HF2 HBF q2 hao hsn htn q1
          have cA : W4.cell? ⟨gf, k, none⟩ = some (.int .i64 ((fK S ys k).getD k 0)) := (X2.out.2.2.1.cellAt k (by omega)).trans (lv_get (by have := HFL.out; have := HLN.out; omega))
          have fA : W4.frozen? ⟨gf, k, none⟩ = false := X2.out.2.2.1.frozenAt k
          generalize (fK S ys k).getD k 0 = x0 at cA
          go_upto_region 9 with (fail)
          clear cA fA ax nx
          have X3 : Hid (Kept w1 (W4.setCell ⟨gf, k, none⟩ (.int .i64 cv0)) ∧ Blk (W4.setCell ⟨gf, k, none⟩ (.int .i64 cv0)) xb #[.int .i64 N, .int .i64 S, .int .i64 T, .slice a3 (n + 1) c3, .slice a4 m c4, .slice a5 m c5, .slice a6 m c6, .slice a7 m c7, .slice a8 m c8] 32 ∧ (W4.setCell ⟨gf, k, none⟩ (.int .i64 cv0)).ownsRow w1.heap.size 2 1 (.slice (some ⟨gf, 0, none⟩) L L) L (lv (fK S ys (k + 1))) ∧ (W4.setCell ⟨gf, k, none⟩ (.int .i64 cv0)).ownsRow w1.heap.size 2 1 (.slice (some ⟨ge, 0, none⟩) n n) n (lv (begL S n ys k))) := Lib.hid (by
            have hu := updCellO W4 gf k (.int .i64 cv0)
            have x := X2.out
            have ne := HNE.out
            have h := (x.2.2.1.stored k (.int .i64 cv0)).1
            rw [lv_set', ← HFN.out] at h
            exact ⟨x.1.then hu (fun i hi e => by have := HXB.out; omega), x.2.1.upd hu (by have := x.2.1; intro e; subst e; exact blk_row_ne this x.2.2.1 (by decide) rfl), h, ownsRow_far x.2.2.2 hu (fun j hj e => by cases hj; exact ne.2.2.2 e.symm)⟩)
          have HAB3 := Lib.hid (HAB.out.upd (updCellO W4 gf k (.int .i64 cv0)) (by intro e; subst e; exact blk_row_ne HAB.out X2.out.2.2.1 (by decide) rfl))
          clear X2 HAB HFN
          generalize W4.setCell ⟨gf, k, none⟩ (.int .i64 cv0) = W5 at X3 HAB3 ⊢
          have ax := HAB3.out.cell
          rw [HQS.out, HSN.out] at ax
          rw [HTN.out] at ax
          have i1 : (sn : Int) < (n : Int) := by omega
          have i2 : (0 : Int) ≤ (sn : Int) := by omega
          have i3 : (tn : Int) < (n : Int) := by omega
          have i4 : (0 : Int) ≤ (tn : Int) := by omega
          have HBN2 : Hid (begL S n ys (k + 1) = plusAt (plusAt (begL S n ys k) sn (-cv0)) tn cv0) := Lib.hid (by have h := HBN.out; rw [HSN.out, HTN.out, Int.toNat_natCast, Int.toNat_natCast] at h; rw [HSN.out]; exact h)
          clear HBN
          generalize hLk : begL S n ys k = Lk at X3 HBL HBN2
          clear hLk
          have cA : W5.cell? ⟨ge, sn, none⟩ = some (.int .i64 (Lk.getD sn 0)) := (X3.out.2.2.2.cellAt sn (by omega)).trans (lv_get (by have := HBL.out; simp; omega))
          have fA : W5.frozen? ⟨ge, sn, none⟩ = false := X3.out.2.2.2.frozenAt sn
          obtain ⟨y1, hy1⟩ : ∃ y, Lk.getD sn 0 = y := ⟨_, rfl⟩
          rw [hy1] at cA
          obtain ⟨q1, hq1⟩ : ∃ q, wrap64 (y1 - cv0) = q := ⟨_, rfl⟩
          have hq1' : IntKind.i64.wrap (y1 - cv0) = q1 := by rw [← hq1]; simp only [IntKind.wrap_i64, wrap64]
          have HQ1q : Hid (plusAt Lk sn (-cv0) = Lk.set sn q1) := Lib.hid (by unfold plusAt; rw [hy1, ← hq1]; rfl)
          clear hy1
          refine wp_region_quiet_tail 9 (by kernel_rfl) (by kernel_rfl) ?_
          simp only [List.take_succ_cons, List.take_zero, List.drop_succ_cons, List.drop_zero]
          repeat (go_big_quiet_step (fail))
          refine wpQuiet_nil ?_
          go_upto_region 10 with (fail)
          clear cA fA hq1 hq1'
          have HU1 : Hid (Upd (fun j => j = ge) W5 (W5.setCell ⟨ge, sn, none⟩ (.int .i64 q1)).drew) := Lib.hid (updCellO W5 ge sn (.int .i64 q1)).drew
          have X4 : Hid (Kept w1 (W5.setCell ⟨ge, sn, none⟩ (.int .i64 q1)).drew ∧ Blk (W5.setCell ⟨ge, sn, none⟩ (.int .i64 q1)).drew xb #[.int .i64 N, .int .i64 S, .int .i64 T, .slice a3 (n + 1) c3, .slice a4 m c4, .slice a5 m c5, .slice a6 m c6, .slice a7 m c7, .slice a8 m c8] 32 ∧ (W5.setCell ⟨ge, sn, none⟩ (.int .i64 q1)).drew.ownsRow w1.heap.size 2 1 (.slice (some ⟨gf, 0, none⟩) L L) L (lv (fK S ys (k + 1))) ∧ (W5.setCell ⟨ge, sn, none⟩ (.int .i64 q1)).drew.ownsRow w1.heap.size 2 1 (.slice (some ⟨ge, 0, none⟩) n n) n (lv (Lk.set sn q1))) := Lib.hid (by
            have x := X3.out
            have ne := HNE.out
            have h := (x.2.2.2.stored sn (.int .i64 q1)).1
            rw [lv_set'] at h
            exact ⟨x.1.then HU1.out (fun i hi e => by have := HXB.out; omega), x.2.1.upd HU1.out (by have := x.2.1; intro e; subst e; exact blk_row_ne this x.2.2.2 (by decide) rfl), ownsRow_far x.2.2.1 HU1.out (fun j hj e => by cases hj; exact ne.2.2.2 e), h.drew⟩)
          generalize (W5.setCell ⟨ge, sn, none⟩ (.int .i64 q1)).drew = W6 at X4 HU1 ⊢
          have HAB4 := Lib.hid (HAB3.out.upd HU1.out (by intro e; subst e; exact blk_row_ne HAB3.out X3.out.2.2.2 (by decide) rfl))
          clear X3 HAB3 HU1 ax
          have ax := HAB4.out.cell
          rw [HQS.out, HSN.out] at ax
          rw [HTN.out] at ax
          have cA : W6.cell? ⟨ge, tn, none⟩ = some (.int .i64 ((Lk.set sn q1).getD tn 0)) := (X4.out.2.2.2.cellAt tn (by omega)).trans (lv_get (by have := HBL.out; simp; omega))
          have fA : W6.frozen? ⟨ge, tn, none⟩ = false := X4.out.2.2.2.frozenAt tn
          obtain ⟨y2, hy2⟩ : ∃ y, (Lk.set sn q1).getD tn 0 = y := ⟨_, rfl⟩
          rw [hy2] at cA
          obtain ⟨q2, hq2⟩ : ∃ q, wrap64 (y2 + cv0) = q := ⟨_, rfl⟩
          have hq2' : IntKind.i64.wrap (y2 + cv0) = q2 := by rw [← hq2]; simp only [IntKind.wrap_i64, wrap64]
          have HQ2q : Hid (plusAt (Lk.set sn q1) tn cv0 = (Lk.set sn q1).set tn q2) := Lib.hid (by unfold plusAt; rw [hy2, ← hq2])
          clear hy2
          refine wp_region_quiet_tail 9 (by kernel_rfl) (by kernel_rfl) ?_
          simp only [List.take_succ_cons, List.take_zero, List.drop_succ_cons, List.drop_zero]
          repeat (go_big_quiet_step (fail))
          refine wpQuiet_nil ?_
          go_upto_region 11 with (fail)
          clear cA fA hq2 hq2'
          have HU2 : Hid (Upd (fun j => j = ge) W6 (W6.setCell ⟨ge, tn, none⟩ (.int .i64 q2)).drew) := Lib.hid (updCellO W6 ge tn (.int .i64 q2)).drew
          have X5 : Hid (Kept w1 (W6.setCell ⟨ge, tn, none⟩ (.int .i64 q2)).drew ∧ Blk (W6.setCell ⟨ge, tn, none⟩ (.int .i64 q2)).drew xb #[.int .i64 N, .int .i64 S, .int .i64 T, .slice a3 (n + 1) c3, .slice a4 m c4, .slice a5 m c5, .slice a6 m c6, .slice a7 m c7, .slice a8 m c8] 32 ∧ (W6.setCell ⟨ge, tn, none⟩ (.int .i64 q2)).drew.ownsRow w1.heap.size 2 1 (.slice (some ⟨gf, 0, none⟩) L L) L (lv (fK S ys (k + 1))) ∧ (W6.setCell ⟨ge, tn, none⟩ (.int .i64 q2)).drew.ownsRow w1.heap.size 2 1 (.slice (some ⟨ge, 0, none⟩) n n) n (lv ((Lk.set sn q1).set tn q2))) := Lib.hid (by
            have x := X4.out
            have ne := HNE.out
            have h := (x.2.2.2.stored tn (.int .i64 q2)).1
            rw [lv_set'] at h
            exact ⟨x.1.then HU2.out (fun i hi e => by have := HXB.out; omega), x.2.1.upd HU2.out (by have := x.2.1; intro e; subst e; exact blk_row_ne this x.2.2.2 (by decide) rfl), ownsRow_far x.2.2.1 HU2.out (fun j hj e => by cases hj; exact ne.2.2.2 e), h.drew⟩)
          generalize (W6.setCell ⟨ge, tn, none⟩ (.int .i64 q2)).drew = W7 at X5 HU2 ⊢
          have X9 : Hid (Kept w1 W7 ∧ Blk W7 xb #[.int .i64 N, .int .i64 S, .int .i64 T, .slice a3 (n + 1) c3, .slice a4 m c4, .slice a5 m c5, .slice a6 m c6, .slice a7 m c7, .slice a8 m c8] 32 ∧ W7.ownsRow w1.heap.size 2 1 (.slice (some ⟨gf, 0, none⟩) L L) L (lv (fK S ys (k + 1))) ∧ W7.ownsRow w1.heap.size 2 1 (.slice (some ⟨ge, 0, none⟩) n n) n (lv (begL S n ys (k + 1)))) := Lib.hid (by rw [HBN2.out, HQ1q.out, HQ2q.out]; exact X5.out)
          clear X4 X5 HAB4 HU2 ax HBN2
          go_wp2_with fail
          go_roundw
          case rel => exact ⟨k + 1, by go_num, by omega, X9⟩
          case measure => simp [intOf]; omega
      · as_aux_lemma =>
        have b1 : (fv == S) = false := by simpa using q1
        have X9 : Hid (Kept w1 W4 ∧ Blk W4 xb #[.int .i64 N, .int .i64 S, .int .i64 T, .slice a3 (n + 1) c3, .slice a4 m c4, .slice a5 m c5, .slice a6 m c6, .slice a7 m c7, .slice a8 m c8] 32 ∧ W4.ownsRow w1.heap.size 2 1 (.slice (some ⟨gf, 0, none⟩) L L) L (lv (fK S ys (k + 1))) ∧ W4.ownsRow w1.heap.size 2 1 (.slice (some ⟨ge, 0, none⟩) n n) n (lv (begL S n ys (k + 1)))) := Lib.hid (by
          rw [HST.out, if_neg (fun h => q1 h.1), HF2.out (by rw [HBF.out, if_neg (fun h => q1 h.1)])]
          exact X2.out)
        clear X2 HST HF1 HF2 HBF q1
        go_wp2_with fail
        go_roundw
        case rel => exact ⟨k + 1, by go_num, by omega, X9⟩
        case measure => simp [intOf]; omega
    · as_aux_lemma =>
      have hkL : k = L := by omega
      have j1 : ¬ (k : Int) < (L : Int) := by omega
      have X6 : Hid (Kept w1 wr ∧ Blk wr xb #[.int .i64 N, .int .i64 S, .int .i64 T, .slice a3 (n + 1) c3, .slice a4 m c4, .slice a5 m c5, .slice a6 m c6, .slice a7 m c7, .slice a8 m c8] 32 ∧ wr.ownsRow w1.heap.size 2 1 (.slice (some ⟨gf, 0, none⟩) L L) L (lv (ys.map (begF S))) ∧ wr.ownsRow w1.heap.size 2 1 (.slice (some ⟨ge, 0, none⟩) n n) n (lv (begL S n ys ys.length))) := Lib.hid (by
        have h := X1.out
        rw [hkL, ← HLN.out] at h
        have e : fK S ys ys.length = ys.map (begF S) := by simp [fK]
        rw [e] at h
        have := HLN.out
        rw [this] at h ⊢
        exact h)
      clear X1 hkL
      have HRS : Hid (Calls Try.prog 29 #[.agg #[.int .i64 N, .int .i64 S, .int .i64 T, .slice a3 (n + 1) c3, .slice a4 m c4, .slice a5 m c5, .slice a6 m c6, .slice a7 m c7, .slice a8 m c8], .slice (some ⟨gf, 0, none⟩) L L] wr fun e w' => ∃ a9 c9, e = .returned (.tuple #[.slice a9 m c9, .int .i64 0]) ∧ w'.ownsRow wr.heap.size 2 1 (.slice a9 m c9) m (lv (resAll (ys.map (begF S)) n ys)) ∧ Kept wr w') := Lib.hid (by
        obtain ⟨a1, c1, e1, r1⟩ := Rd.owns X6.out.2.2.1
        cases e1
        exact res_at N S T n m ys a3 a4 a5 a6 a7 a8 c3 c4 c5 c6 c7 c8 _ L L (ys.map (begF S)) wr (HCR.out.kept X6.out.1) HG.out.hm (by
          have h2 := enAll_len n ys
          have h4 : n * ys.length ≤ 16 * 40 := Nat.mul_le_mul (by have := HG.out.ok.n16; have := HNN.out; omega) HG.out.ok.len
          have := HG.out.hm
          omega) (by rw [← HNN.out]; exact HG.out.ok.arcs) (begF_ok HG.out.ok.arcs) r1 (by simp [HLN.out]))
      have hra9 := Blk.range X6.out.2.1
      have hz9 : (Try.prog.info? 32).map (·.size) = some 9 := by kernel_rfl
      generalize hRA : resAll (ys.map (begF S)) n ys = RA at HRS
      generalize hFB : ys.map (begF S) = FB at X6
      generalize hEB : begL S n ys ys.length = EB at X6
      have HPB : Hid (begP N S n ys = ⟨RA, EB, (List.replicate n 0).set S.toNat N⟩) := Lib.hid (by rw [← hRA, ← hEB]; rfl)
      have HOKP := Lib.hid (begP_ok N S n m ys HG.out.hm)
      clear hRA hFB hEB hlt
      go_wp2_with (first | (refine wpList_load_mid rfl _ _ rfl xb 0 rfl [.int .i64 N, .int .i64 S, .int .i64 T, .slice a3 (n + 1) c3, .slice a4 m c4, .slice a5 m c5, .slice a6 m c6, .slice a7 m c7, .slice a8 m c8] _ hra9 Try.underlying32 rfl hz9 ?_) | fail)
      refine HRS.out.mono ?_
      rintro e w4 ⟨a9, c9, rfl, ho9, hk9⟩
      have HO9 := Lib.hid (ownsRow_base (base' := w1.heap.size) ho9 (by have := X6.out.1.size; omega))
      have HSZ4 := Lib.hid (show ∀ g, (Value.slice a9 m c9).ownBlock = some g → wr.heap.size ≤ g from by
        intro g hg
        rcases ho9.2 with ⟨h, _⟩ | ⟨g2, cap2, cur2, h2, hg2, _⟩
        · cases h; cases hg
        · cases h2; cases hg; exact hg2)
      have HGE : Hid (ge < wr.heap.size) := Lib.hid (by
        rcases X6.out.2.2.2.2 with ⟨h, _⟩ | ⟨g2, cap2, cur2, h2, hg2, hh, _⟩
        · cases h
        · cases h2; exact (Array.getElem?_eq_some_iff.1 hh).1)
      have HWR := Lib.hid hk9.size
      have HGW := Lib.hid X6.out.1.size
      have X7 : Hid (Kept w1 w4 ∧ Blk w4 xb #[.int .i64 N, .int .i64 S, .int .i64 T, .slice a3 (n + 1) c3, .slice a4 m c4, .slice a5 m c5, .slice a6 m c6, .slice a7 m c7, .slice a8 m c8] 32 ∧ w4.ownsRow w1.heap.size 2 1 (.slice (some ⟨gf, 0, none⟩) L L) L (lv (FB)) ∧ w4.ownsRow w1.heap.size 2 1 (.slice (some ⟨ge, 0, none⟩) n n) n (lv (EB))) := Lib.hid ⟨X6.out.1.trans hk9, X6.out.2.1.kept hk9, ownsRow_far X6.out.2.2.1 hk9 (fun _ _ f => f), ownsRow_far X6.out.2.2.2 hk9 (fun _ _ f => f)⟩
      clear ho9 hk9 hra9 HRS X6
      have nx := (HN1.out.kept X7.out.1).cell
      have hmk3 : ∀ w, (Instr.makeSlice 27 (.int .i64 N) (.int .i64 N)).run Try.prog w = .ok (.slice (some ⟨w.heap.size, 0, none⟩) n n) (w.alloc (.cells (zeros n (.int .i64 0)) 3)) := fun w => by
        rw [HNN.out]
        exact make_one (P := Try.prog) (t := 27) (e := 3) (z := .int .i64 0) (v := .int .i64 0) (bytes := 8) Try.underlying27 (by kernel_rfl) rfl .i64 n (by have := HNN.out; omega) (by have := HNN.out; omega) w
      go_upto_region 14 with (fail)
      clear hmk3
      have hA := (Upd.refl (fun _ => False) w4).alloc (.cells (zeros n (.int .i64 0)) 3)
      have HZR : Hid ((w4.alloc (.cells (zeros n (.int .i64 0)) 3)).ownsRow w1.heap.size 3 1 (.slice (some ⟨w4.heap.size, 0, none⟩) n n) n (lv (List.replicate n 0))) := Lib.hid (zrow (w := w4) n 3 (by have := HNN.out; omega) w1.heap.size (by have := X7.out.1.size; omega))
      have HO8 := Lib.hid (ownsRow_far HO9.out hA (fun _ _ f => f))
      have X8 : Hid (Kept w1 (w4.alloc (.cells (zeros n (.int .i64 0)) 3)) ∧ Blk (w4.alloc (.cells (zeros n (.int .i64 0)) 3)) xb #[.int .i64 N, .int .i64 S, .int .i64 T, .slice a3 (n + 1) c3, .slice a4 m c4, .slice a5 m c5, .slice a6 m c6, .slice a7 m c7, .slice a8 m c8] 32 ∧ (w4.alloc (.cells (zeros n (.int .i64 0)) 3)).ownsRow w1.heap.size 2 1 (.slice (some ⟨gf, 0, none⟩) L L) L (lv (FB)) ∧ (w4.alloc (.cells (zeros n (.int .i64 0)) 3)).ownsRow w1.heap.size 2 1 (.slice (some ⟨ge, 0, none⟩) n n) n (lv (EB))) := Lib.hid ⟨X7.out.1.trans hA, X7.out.2.1.kept hA, ownsRow_far X7.out.2.2.1 hA (fun _ _ f => f), ownsRow_far X7.out.2.2.2 hA (fun _ _ f => f)⟩
      have HSG : Hid (ge < w4.heap.size ∧ xb < w4.heap.size ∧ rb < w4.heap.size ∧ qb < w4.heap.size ∧ w.heap.size ≤ w4.heap.size ∧ w1.heap.size ≤ w4.heap.size) := Lib.hid ⟨Nat.lt_of_lt_of_le HGE.out HWR.out, X7.out.2.1.lt, (HR1.out.kept X7.out.1).lt, (HQ1.out.kept X7.out.1).lt, (HK1.out.trans X7.out.1).size, X7.out.1.size⟩
      have HW0 := Lib.hid (show w.heap.size ≤ w1.heap.size from HK1.out.size)
      clear hA X7 nx HO9
      generalize w4.alloc (.cells (zeros n (.int .i64 0)) 3) = W8 at HZR HO8 X8 ⊢
      generalize w4.heap.size = gz at HZR HSG ⊢
      have nx := (HN1.out.kept X8.out.1).cell
      obtain ⟨sn, hsn⟩ : ∃ z : Nat, S = (z : Int) := ⟨S.toNat, by have := HG.out.len; omega⟩
      have HSN := Lib.hid hsn
      have hsl : sn < n := by have := HG.out.len; omega
      rw [hsn] at nx
      have i1 : (sn : Int) < (n : Int) := by omega
      have i2 : (0 : Int) ≤ (sn : Int) := by omega
      have cA : W8.cell? ⟨gz, sn, none⟩ = some (.int .i64 ((List.replicate n (0 : Int)).getD sn 0)) := (HZR.out.cellAt sn (by omega)).trans (lv_get (by simpa using hsl))
      have fA : W8.frozen? ⟨gz, sn, none⟩ = false := HZR.out.frozenAt sn
      generalize (List.replicate n (0 : Int)).getD sn 0 = x0 at cA
      clear hsn
      go_upto_region 15 with (fail)
      clear cA fA nx
      have hu8 := updCellO W8 gz sn (.int .i64 N)
      have HZ9 := Lib.hid (HZR.out.stored sn (.int .i64 N)).1
      rw [lv_set'] at HZ9
      have HO9 := Lib.hid (ownsRow_far HO8.out hu8 (fun j hj e => rows_ne HO8.out HZR.out (by decide) j hj (by rw [e]; rfl)))
      have HE9 := Lib.hid (ownsRow_far X8.out.2.2.2 hu8 (fun j hj e => by cases hj; have := HSG.out; have e2 : ge = gz := e; omega))
      have HX9 := Lib.hid (X8.out.2.1.upd hu8 (fun e => by have := HSG.out; omega))
      have HK9 : Hid (Kept w1 (W8.setCell ⟨gz, sn, none⟩ (.int .i64 N))) := Lib.hid (X8.out.1.then hu8 (fun i hi e => by have := HSG.out; have e2 : i = gz := e; omega))
      clear hu8 X8 HO8 HZR
      generalize W8.setCell ⟨gz, sn, none⟩ (.int .i64 N) = W9 at HZ9 HO9 HE9 HX9 HK9 ⊢
      have HR9 := Lib.hid (HR1.out.kept HK9.out)
      have HQ9 := Lib.hid (HQ1.out.kept HK9.out)
      obtain ⟨w9, hw9, hB9, hU9⟩ := HR9.out.put9 (.int .i64 N) (.int .i64 S) (.int .i64 T) (.slice a3 (n + 1) c3) (.slice a4 m c4) (.slice a5 m c5) (.slice a6 m c6) (.slice a7 m c7) (.slice a8 m c8)
      have hra9 := Blk.range HX9.out
      have hth : W9.there rb 0 9 := Blk.there HR9.out 9 rfl
      have hw9' : W9.setCells rb 0 [.int .i64 N, .int .i64 S, .int .i64 T, .slice a3 (n + 1) c3, .slice a4 m c4, .slice a5 m c5, .slice a6 m c6, .slice a7 m c7, .slice a8 m c8] = w9 := hw9.symm
      have HQA := Lib.hid (HQ9.out.upd hU9 (fun e => by have := HQB.out; omega))
      have HB9 := Lib.hid hB9
      have HU9 := Lib.hid hU9
      have qx := HQA.out.cell
      have qf := HQA.out.free
      have HUQ : Hid (Upd (fun j => j = qb) w9 (((w9.setCell ⟨qb, 0, none⟩ (.slice a9 m c9)).setCell ⟨qb, 1, none⟩ (.slice (some ⟨ge, 0, none⟩) n n)).setCell ⟨qb, 2, none⟩ (.slice (some ⟨gz, 0, none⟩) n n))) := Lib.hid ((((Upd.refl (fun j => j = qb) w9).setCell (p := ⟨qb, 0, none⟩) (.inl rfl) (.slice a9 m c9)).setCell (p := ⟨qb, 1, none⟩) (.inl rfl) (.slice (some ⟨ge, 0, none⟩) n n)).setCell (p := ⟨qb, 2, none⟩) (.inl rfl) (.slice (some ⟨gz, 0, none⟩) n n))
      have HQF : Hid (Blk (((w9.setCell ⟨qb, 0, none⟩ (.slice a9 m c9)).setCell ⟨qb, 1, none⟩ (.slice (some ⟨ge, 0, none⟩) n n)).setCell ⟨qb, 2, none⟩ (.slice (some ⟨gz, 0, none⟩) n n)) qb #[.slice a9 m c9, .slice (some ⟨ge, 0, none⟩) n n, .slice (some ⟨gz, 0, none⟩) n n] 29) := Lib.hid (((HQA.out.set 0 (.slice a9 m c9)).set 1 (.slice (some ⟨ge, 0, none⟩) n n)).set 2 (.slice (some ⟨gz, 0, none⟩) n n))
      clear hw9 hB9 hU9 HR9 HQ9 HQA
      go_wp2_with (first | (refine wpList_load_mid rfl _ _ rfl xb 0 rfl [.int .i64 N, .int .i64 S, .int .i64 T, .slice a3 (n + 1) c3, .slice a4 m c4, .slice a5 m c5, .slice a6 m c6, .slice a7 m c7, .slice a8 m c8] _ hra9 Try.underlying32 rfl hz9 ?_) | (refine wpList_store_mid rfl _ _ _ rfl rb 0 #[.int .i64 N, .int .i64 S, .int .i64 T, .slice a3 (n + 1) c3, .slice a4 m c4, .slice a5 m c5, .slice a6 m c6, .slice a7 m c7, .slice a8 m c8] rfl rfl hth hz9 (all_oneCell_toArray (cs := [.int .i64 N, .int .i64 S, .int .i64 T, .slice a3 (n + 1) c3, .slice a4 m c4, .slice a5 m c5, .slice a6 m c6, .slice a7 m c7, .slice a8 m c8]) (by simp [Value.oneCell'])) ?_; simp only [hw9']) | fail)
      have HBF := Lib.hid (HB9.out.upd HUQ.out (fun e => by have := HQB.out; omega))
      have HNT : Hid (∀ j, w1.heap.size ≤ j → ¬ j = qb ∧ ¬ j = rb) := Lib.hid (fun j hj => by have := HHI.out; omega)
      have HA9 : Hid (∀ j, (Value.slice a9 m c9).ownBlock = some j → w1.heap.size ≤ j) := Lib.hid (fun j hj => Nat.le_trans HGW.out (HSZ4.out j hj))
      have HGE1 : Hid (w1.heap.size ≤ ge ∧ w1.heap.size ≤ gz) := Lib.hid ⟨by have := HNE.out; have := HXB.out; omega, HSG.out.2.2.2.2.2⟩
      generalize (((w9.setCell ⟨qb, 0, none⟩ (.slice a9 m c9)).setCell ⟨qb, 1, none⟩ (.slice (some ⟨ge, 0, none⟩) n n)).setCell ⟨qb, 2, none⟩ (.slice (some ⟨gz, 0, none⟩) n n)) = WF at HUQ HQF HBF ⊢
      have r0 := HBF.out.cell
      have q0 := HQF.out.cell
      refine bodyPost_ret (v := .tuple #[.agg #[.int .i64 N, .int .i64 S, .int .i64 T, .slice a3 (n + 1) c3, .slice a4 m c4, .slice a5 m c5, .slice a6 m c6, .slice a7 m c7, .slice a8 m c8], .agg #[.slice a9 m c9, .slice (some ⟨ge, 0, none⟩) n n, .slice (some ⟨gz, 0, none⟩) n n]]) ?_ rfl ?_
      · simp [results, Try.results8, go_sem, r0, q0]
      refine ⟨n, m, _, _, a3, c3, a4, c4, a5, c5, a6, c6, a7, c7, a8, c8, a9, c9, _, _, _, _, rfl, HG.out, ?_, HCL.out, HW0.out, ⟨?_, ?_, ?_, HOKP.out, ?_⟩, ?_⟩
      · have r := (HCR.out.kept HK9.out).upd HCL.out HU9.out (fun j h1 h2 e => by have := HHI.out; have e2 : j = rb := e; omega)
        exact r.upd HCL.out HUQ.out (fun j h1 h2 e => by have := HHI.out; have e2 : j = qb := e; omega)
      · rw [HPB.out]
        exact ownsRow_far (ownsRow_far HO9.out HU9.out (fun j hj e => (HNT.out j (HA9.out j hj)).2 e)) HUQ.out (fun j hj e => (HNT.out j (HA9.out j hj)).1 e)
      · rw [HPB.out]
        exact ownsRow_far (ownsRow_far HE9.out HU9.out (fun j hj e => by cases hj; exact (HNT.out _ HGE1.out.1).2 e)) HUQ.out (fun j hj e => by cases hj; exact (HNT.out _ HGE1.out.1).1 e)
      · rw [HPB.out, HSN.out]
        exact ownsRow_far (ownsRow_far HZ9.out HU9.out (fun j hj e => by cases hj; exact (HNT.out _ HGE1.out.2).2 e)) HUQ.out (fun j hj e => by cases hj; exact (HNT.out _ HGE1.out.2).1 e)
      · intro j h1 h2
        have h3 : some ge = some j := h2
        have h4 : ge = j := Option.some.inj h3
        have h5 := HSZ4.out j h1
        have h6 := HGE.out
        rw [h4] at h6
        exact Nat.lt_irrefl _ (Nat.lt_of_lt_of_le h6 h5)
      · exact ((HK1.out.trans HK9.out).then HU9.out (fun i hi e => by have := HQB.out; have := HNB.out; have e2 : i = rb := e; omega)).then HUQ.out (fun i hi e => by have := HQB.out; have := HNB.out; have e2 : i = qb := e; omega)
end Go.Proofs.Ytdhimfkmgcfohaa
