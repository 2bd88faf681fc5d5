/- A csr's rows, read; what a flow leaves, plain. No walk. -/
import Derived.Test.YtdhimfkmgcfohaaCsrState
import Derived.Test.YtdhimfkmgcfohaaWithin
namespace Go.Proofs.Ytdhimfkmgcfohaa
set_option linter.unusedVariables false
open Go.RowKit

/-- The rows of a csr, read. -/
structure CsrR (w : World) (n : Nat) (ys : List Ar) (a3 a4 a5 a6 a7 a8 : Option Addr) : Prop where
  r3 : Rd w a3 (nv (firsts (n + 1) ys))
  r4 : Rd w a4 (hv (enAll n ys))
  r5 : Rd w a5 (nv (revs (enAll n ys) (enAll n ys).length))
  r6 : Rd w a6 (cv (enAll n ys))
  r7 : Rd w a7 (kv (enAll n ys))
  r8 : Rd w a8 (bv (enAll n ys))
theorem CsrR.kept {w w' : World} {n : Nat} {ys : List Ar} {a3 a4 a5 a6 a7 a8 : Option Addr} (h : CsrR w n ys a3 a4 a5 a6 a7 a8) (hk : Kept w w') : CsrR w' n ys a3 a4 a5 a6 a7 a8 :=
  ⟨h.r3.kept hk, h.r4.kept hk, h.r5.kept hk, h.r6.kept hk, h.r7.kept hk, h.r8.kept hk⟩
/-- A slice's block lies from lo on, below hi. -/
def ABet (lo hi : Nat) (a : Option Addr) : Prop := ∀ x, a = some x → lo ≤ x.block ∧ x.block < hi
theorem Rd.upd {w w' : World} {S : Nat → Prop} {a : Option Addr} {vs : List Value} (h : Rd w a vs) (hu : Upd S w w') (hs : ∀ x, a = some x → ¬ S x.block) : Rd w' a vs := by
  rcases h with rfl | ⟨b, off, rfl, hc⟩
  · exact .inl rfl
  · exact .inr ⟨b, off, rfl, fun i u hi => (hu.cells ⟨b, off + i, none⟩ (by rw [hc i u hi]; rfl) (hs ⟨b, off, none⟩ rfl)).trans (hc i u hi)⟩
structure CsrL (lo hi : Nat) (a3 a4 a5 a6 a7 a8 : Option Addr) : Prop where
  l3 : ABet lo hi a3
  l4 : ABet lo hi a4
  l5 : ABet lo hi a5
  l6 : ABet lo hi a6
  l7 : ABet lo hi a7
  l8 : ABet lo hi a8
theorem CsrR.upd {w w' : World} {S : Nat → Prop} {n lo hi : Nat} {ys : List Ar} {a3 a4 a5 a6 a7 a8 : Option Addr} (h : CsrR w n ys a3 a4 a5 a6 a7 a8) (hl : CsrL lo hi a3 a4 a5 a6 a7 a8) (hu : Upd S w w') (hs : ∀ k, lo ≤ k → k < hi → ¬ S k) : CsrR w' n ys a3 a4 a5 a6 a7 a8 :=
  ⟨h.r3.upd hu (fun x e => hs _ (hl.l3 x e).1 (hl.l3 x e).2), h.r4.upd hu (fun x e => hs _ (hl.l4 x e).1 (hl.l4 x e).2), h.r5.upd hu (fun x e => hs _ (hl.l5 x e).1 (hl.l5 x e).2), h.r6.upd hu (fun x e => hs _ (hl.l6 x e).1 (hl.l6 x e).2), h.r7.upd hu (fun x e => hs _ (hl.l7 x e).1 (hl.l7 x e).2), h.r8.upd hu (fun x e => hs _ (hl.l8 x e).1 (hl.l8 x e).2)⟩
theorem Rd.owns' {w : World} {base n : Nat} {e : TypeId} {v : Value} {vs : List Value} (h : w.ownsRow base e 1 v n vs) : ∃ a c, v = .slice a n c ∧ Rd w a vs ∧ ABet base w.heap.size a := by
  obtain ⟨a, c, rfl, hr⟩ := Rd.owns h
  refine ⟨a, c, rfl, hr, ?_⟩
  rintro x rfl
  rcases h.2 with ⟨h1, -⟩ | ⟨g, cap, cur, h1, hb, hg, -⟩
  · cases h1
  · cases h1
    exact ⟨hb, (Array.getElem?_eq_some_iff.1 hg).1⟩
theorem CsrV.rd {w : World} {base n : Nat} {ys : List Ar} {v3 v4 v5 v6 v7 v8 : Value} (h : CsrV w base n ys v3 v4 v5 v6 v7 v8) :
    ∃ a3 c3 a4 c4 a5 c5 a6 c6 a7 c7 a8 c8, v3 = .slice a3 (n + 1) c3 ∧ v4 = .slice a4 (enAll n ys).length c4 ∧ v5 = .slice a5 (enAll n ys).length c5 ∧ v6 = .slice a6 (enAll n ys).length c6 ∧ v7 = .slice a7 (enAll n ys).length c7 ∧ v8 = .slice a8 (enAll n ys).length c8 ∧ CsrR w n ys a3 a4 a5 a6 a7 a8 ∧ CsrL base w.heap.size a3 a4 a5 a6 a7 a8 := by
  obtain ⟨a3, c3, e3, h3, k3⟩ := Rd.owns' h.o3
  obtain ⟨a4, c4, e4, h4, k4⟩ := Rd.owns' h.o4
  obtain ⟨a5, c5, e5, h5, k5⟩ := Rd.owns' h.o5
  obtain ⟨a6, c6, e6, h6, k6⟩ := Rd.owns' h.o6
  obtain ⟨a7, c7, e7, h7, k7⟩ := Rd.owns' h.o7
  obtain ⟨a8, c8, e8, h8, k8⟩ := Rd.owns' h.o8
  exact ⟨a3, c3, a4, c4, a5, c5, a6, c6, a7, c7, a8, c8, e3, e4, e5, e6, e7, e8, ⟨h3, h4, h5, h6, h7, h8⟩, ⟨k3, k4, k5, k6, k7, k8⟩⟩
/-- What a flow leaves of a residual arc. -/
def resOf (fs : List Int) (ys : List Ar) (e : En) : Int := if e.b then fs.getD e.k 0 else (ys.getD e.k ⟨0, 0, 0⟩).c - fs.getD e.k 0
def resAll (fs : List Int) (n : Nat) (ys : List Ar) : List Int := (enAll n ys).map (resOf fs ys)
theorem resAll_len (fs : List Int) (n : Nat) (ys : List Ar) : (resAll fs n ys).length = (enAll n ys).length := by simp [resAll]
def lv (rs : List Int) : List Value := rs.map (Value.int .i64)
theorem lv_len (rs : List Int) : (lv rs).length = rs.length := by simp [lv]
theorem lv_at (rs : List Int) (i : Nat) (h : i < rs.length) : (lv rs)[i]? = some (.int .i64 rs[i]) := by simp [lv, h]
theorem lv_push (rs : List Int) (x : Int) : lv (rs ++ [x]) = lv rs ++ [.int .i64 x] := by simp [lv]
theorem res_in {n : Nat} {fs : List Int} {ys : List Ar} (hy : ∀ x ∈ ys, ArcOk n x) (hf : FsOk fs ys) : ∀ x ∈ resAll fs n ys, 0 ≤ x ∧ x < 1125899906842624 := by
  intro x hx
  obtain ⟨e, he, rfl⟩ := List.mem_map.1 hx
  obtain ⟨y, hy1, -, -, -⟩ := mem_all.1 he
  obtain ⟨v, hv1, hv2, hv3⟩ := hf.2 _ _ hy1
  have ho := hy _ (List.mem_of_getElem? hy1)
  have h1 : fs.getD e.k 0 = v := by simp [hv1]
  have h2 : ys.getD e.k ⟨0, 0, 0⟩ = y := by simp [hy1]
  unfold ArcOk at ho
  unfold resOf
  rw [h1, h2]
  split <;> omega
theorem res_facts {n : Nat} {fs : List Int} {ys : List Ar} (hy : ∀ x ∈ ys, ArcOk n x) (hf : FsOk fs ys) (i : Nat) (hi : i < (enAll n ys).length) :
    ∃ (r p : Nat) (c c' v : Int) (b : Bool), (nv (revs (enAll n ys) (enAll n ys).length))[i]? = some (.int .i64 (r : Int)) ∧ r < (enAll n ys).length ∧ (cv (enAll n ys))[i]? = some (.int .i64 c) ∧ (cv (enAll n ys))[r]? = some (.int .i64 c') ∧
      (kv (enAll n ys))[i]? = some (.int .i64 (p : Int)) ∧ p < fs.length ∧ (lv fs)[p]? = some (.int .i64 v) ∧ (bv (enAll n ys))[i]? = some (.bool b) ∧ 0 ≤ v ∧ v ≤ c + c' ∧ 0 ≤ c ∧ 0 ≤ c' ∧ c + c' < 1125899906842624 ∧
      resOf fs ys (enAll n ys)[i] = if b then v else c + c' - v := by
  obtain ⟨h1, h2⟩ := revs_at hy (enAll n ys).length (Nat.le_refl _)
  obtain ⟨r, hr, hlt, hm⟩ := h2 i hi
  obtain ⟨e, e', x, he, he', hx, hc, hft⟩ := most_of hm
  obtain ⟨v, hv, h0, h4⟩ := hf.2 _ _ hx
  have ho := hy _ (List.mem_of_getElem? hx)
  unfold ArcOk at ho
  have hgi : (enAll n ys)[i] = e := (List.getElem?_eq_some_iff.1 he).2
  have cpos : ∀ e ∈ enAll n ys, 0 ≤ e.c := by
    intro e he
    obtain ⟨y, hy1, ho2, -, -⟩ := mem_all.1 he
    have h5 := hy _ (List.mem_of_getElem? hy1)
    unfold ArcOk at h5
    have h6 := ho2.2.2
    split at h6 <;> omega
  have hcp := cpos _ (List.mem_of_getElem? he)
  have hcp' := cpos _ (List.mem_of_getElem? he')
  refine ⟨r, e.k, e.c, e'.c, v, e.b, by simp [nv, hr], hlt, by simp [cv, he], by simp [cv, he'], by simp [kv, he], ?_, by simp [lv, hv], by simp [bv, he], h0, by omega, hcp, hcp', by omega, ?_⟩
  · rw [hf.1]
    exact (List.getElem?_eq_some_iff.1 hx).1
  · rw [hgi]
    unfold resOf
    rw [show fs.getD e.k 0 = v by simp [hv], show ys.getD e.k ⟨0, 0, 0⟩ = x by simp [hx], hc]
end Go.Proofs.Ytdhimfkmgcfohaa
