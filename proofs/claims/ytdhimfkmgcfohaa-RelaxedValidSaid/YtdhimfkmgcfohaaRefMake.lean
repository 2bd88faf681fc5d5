/- acequiaref02.Make of a right net (printed by gen_make.py). -/
import Derived.Test.YtdhimfkmgcfohaaCsrState
import Derived.Test.YtdhimfkmgcfohaaRefCheck
import Derived.Deep.CutRange
import Derived.Deep.MidRow
namespace Go.Proofs.Ytdhimfkmgcfohaa
set_option linter.unusedVariables false
open Go.RowKit

theorem hv_push (es : List En) (e : En) : hv (es ++ [e]) = hv es ++ [.int .i64 e.h] := by simp [hv]
theorem cv_push (es : List En) (e : En) : cv (es ++ [e]) = cv es ++ [.int .i64 e.c] := by simp [cv]
theorem kv_push (es : List En) (e : En) : kv (es ++ [e]) = kv es ++ [.int .i64 (e.k : Int)] := by simp [kv]
theorem bv_push (es : List En) (e : En) : bv (es ++ [e]) = bv es ++ [.bool e.b] := by simp [bv]
theorem nv_push (l : List Nat) (n : Nat) : nv (l ++ [n]) = nv l ++ [.int .i64 (n : Int)] := by simp [nv]
theorem hv_len (es : List En) : (hv es).length = es.length := by simp [hv]
theorem cv_len (es : List En) : (cv es).length = es.length := by simp [cv]
theorem kv_len (es : List En) : (kv es).length = es.length := by simp [kv]
theorem bv_len (es : List En) : (bv es).length = es.length := by simp [bv]
theorem nv_len (l : List Nat) : (nv l).length = l.length := by simp [nv]
theorem kv_at (es : List En) (i : Nat) (h : i < es.length) : (kv es)[i]? = some (.int .i64 (es[i].k : Int)) := by simp [kv, h]
theorem enStep_f {v f t c : Int} {k : Nat} (h : ¬ f = t) (h1 : f = v) : enStep v k ⟨f, t, c⟩ = [⟨t, c, k, false⟩] := by
  have h2 : ¬ t = v := fun e => h (h1.trans e.symm)
  simp only [enStep, enF, enT, if_neg h, if_pos h1, if_neg h2]
  rfl
theorem enStep_t {v f t c : Int} {k : Nat} (h : ¬ f = t) (h1 : ¬ f = v) (h2 : t = v) : enStep v k ⟨f, t, c⟩ = [⟨f, 0, k, true⟩] := by
  simp only [enStep, enF, enT, if_neg h, if_pos h2, if_neg h1]
  rfl
theorem CF.csr {w : World} {nb rb cb Bs : Nat} {N S T : Int} {sl v3 v4 v5 v6 v7 v8 : Value} {n : Nat} {ys : List Ar} {W w' : World}
    (h : CF w nb rb cb Bs N S T sl v3 v4 v5 v6 v7 v8 (nv (firsts (n + 1) ys)) (hv (enAll n ys)) (nv (revs (enAll n ys) (enAll n ys).length)) (cv (enAll n ys)) (kv (enAll n ys)) (bv (enAll n ys)) W) (hu : Upd (fun k => k = rb) W w') (hrb : rb < Bs) (hy : ∀ x ∈ ys, ArcOk n x) :
    CsrV w' w.heap.size n ys v3 v4 v5 v6 v7 v8 := by
  have hb := h.lt.1
  have key : ∀ {e : TypeId} {v : Value} {m : Nat} {x : List Value}, W.ownsRow Bs e 1 v m x → w'.ownsRow w.heap.size e 1 v m x := fun ho => ownsRow_base (ownsRow_upd ho hu (fun k hk e => by omega)) hb
  have h3 := key h.o3
  have h4 := key h.o4
  have h5 := key h.o5
  have h6 := key h.o6
  have h7 := key h.o7
  have h8 := key h.o8
  rw [nv_len, firsts_len] at h3
  rw [hv_len] at h4
  rw [nv_len, (revs_at hy _ (Nat.le_refl _)).1] at h5
  rw [cv_len] at h6
  rw [kv_len] at h7
  rw [bv_len] at h8
  exact ⟨h3, h4, h5, h6, h7, h8⟩
theorem drewN_kept (w : World) (n : Nat) : Kept w (w.drewN n) := ⟨rfl, rfl, rfl, Nat.le_refl _, fun _ _ _ => rfl⟩
theorem Blk.put9 {w : World} {b : Nat} {T : TypeId} {z0 z1 z2 z3 z4 z5 z6 z7 z8 : Value} (h : Blk w b #[z0, z1, z2, z3, z4, z5, z6, z7, z8] T) (a0 a1 a2 a3 a4 a5 a6 a7 a8 : Value) :
    ∃ w3, w3 = ((((((((w.setCell ⟨b, 0, none⟩ a0).setCell ⟨b, 1, none⟩ a1).setCell ⟨b, 2, none⟩ a2).setCell ⟨b, 3, none⟩ a3).setCell ⟨b, 4, none⟩ a4).setCell ⟨b, 5, none⟩ a5).setCell ⟨b, 6, none⟩ a6).setCell ⟨b, 7, none⟩ a7).setCell ⟨b, 8, none⟩ a8 ∧ Blk w3 b #[a0, a1, a2, a3, a4, a5, a6, a7, a8] T ∧ Upd (fun k => k = b) w w3 := by
  refine ⟨_, rfl, ?_, ?_⟩
  · have := ((((((((h.set 0 a0).set 1 a1).set 2 a2).set 3 a3).set 4 a4).set 5 a5).set 6 a6).set 7 a7).set 8 a8
    simpa using this
  · iterate 9 refine Upd.setCell (S := fun k => k = b) ?_ (.inl rfl) _
    exact Upd.refl _ _
/-- A row being made. -/
def MkS (w : World) (nb rb cb Bs : Nat) (N S T : Int) (sl : Value) (fs : List Nat) (es : List En) (wr : World) : Prop :=
  ∃ v3 v4 v6 v7 v8, CF w nb rb cb Bs N S T sl v3 v4 (.slice none 0 0) v6 v7 v8 (nv fs) (hv es) [] (cv es) (kv es) (bv es) wr

set_option maxRecDepth 100000 in
set_option maxHeartbeats 8000000 in
theorem Make_ok (N S T : Int) (a : Option Addr) (cap : Nat) (ys : List Ar) (w : World) (h : Ars w a ys) (hok : NetOk N S T ys) :
    Calls Try.prog 28 #[.agg #[.int .i64 N, .int .i64 S, .int .i64 T, .slice a ys.length cap]] w fun e w' => ∃ v3 v4 v5 v6 v7 v8, e = .returned (.tuple #[.agg #[.int .i64 N, .int .i64 S, .int .i64 T, v3, v4, v5, v6, v7, v8], .int .i64 0]) ∧ CsrV w' w.heap.size N.toNat ys v3 v4 v5 v6 v7 v8 ∧ Kept w w' := by
  have hk0 := ((Upd.refl (fun _ => False) w).alloc (.cells #[.int .i64 N, .int .i64 S, .int .i64 T, .slice a ys.length cap] 24)).alloc (.cells #[.int .i64 0, .int .i64 0, .int .i64 0, .slice none 0 0, .slice none 0 0, .slice none 0 0, .slice none 0 0, .slice none 0 0, .slice none 0 0] 32)
  have HX := Lib.hid h
  have HO := Lib.hid hok
  have HB := Lib.hid ((Blk.new w #[.int .i64 N, .int .i64 S, .int .i64 T, .slice a ys.length cap] 24).alloc (.cells #[.int .i64 0, .int .i64 0, .int .i64 0, .slice none 0 0, .slice none 0 0, .slice none 0 0, .slice none 0 0, .slice none 0 0, .slice none 0 0] 32))
  have HR := Lib.hid (Blk.new (w.alloc (.cells #[.int .i64 N, .int .i64 S, .int .i64 T, .slice a ys.length cap] 24)) #[.int .i64 0, .int .i64 0, .int .i64 0, .slice none 0 0, .slice none 0 0, .slice none 0 0, .slice none 0 0, .slice none 0 0, .slice none 0 0] 32)
  have e1 : (w.alloc (.cells #[.int .i64 N, .int .i64 S, .int .i64 T, .slice a ys.length cap] 24)).heap.size = w.heap.size + 1 := by simp
  rw [e1] at HR
  have e2 : Hid (((w.alloc (.cells #[.int .i64 N, .int .i64 S, .int .i64 T, .slice a ys.length cap] 24)).alloc (.cells #[.int .i64 0, .int .i64 0, .int .i64 0, .slice none 0 0, .slice none 0 0, .slice none 0 0, .slice none 0 0, .slice none 0 0, .slice none 0 0] 32)).heap.size = w.heap.size + 2) := Lib.hid (by simp)
  have HK := Lib.hid hk0
  clear h hok hk0 e1
  go_enter Try.func28, Try.ntmps28
  have cb0 := HB.out.cell
  go_wp2_with fail
  refine (refCheck_ok N S T a cap ys _ (HX.out.kept HK.out) HO.out).mono ?_
  rintro e w1 ⟨rfl, hk1⟩
  have HB1 := Lib.hid (HB.out.kept hk1)
  have HR1 := Lib.hid (HR.out.kept hk1)
  have HK1 := Lib.hid (HK.out.trans hk1)
  have HZ := Lib.hid (show w.heap.size + 2 ≤ w1.heap.size by have := hk1.size; have := e2.out; omega)
  clear hk1 HB HR HK cb0 e2
  have cb0 := HB1.out.cell
  have HC := Lib.hid (Blk.new w1 #[.int .i64 N, .int .i64 S, .int .i64 T, .slice none 0 0, .slice none 0 0, .slice none 0 0, .slice none 0 0, .slice none 0 0, .slice none 0 0] 32)
  have HK2 := Lib.hid ((Upd.refl (fun _ => False) w1).alloc (.cells #[.int .i64 N, .int .i64 S, .int .i64 T, .slice none 0 0, .slice none 0 0, .slice none 0 0, .slice none 0 0, .slice none 0 0, .slice none 0 0] 32))
  have hsz2 : Hid ((w1.alloc (.cells #[.int .i64 N, .int .i64 S, .int .i64 T, .slice none 0 0, .slice none 0 0, .slice none 0 0, .slice none 0 0, .slice none 0 0, .slice none 0 0] 32)).heap.size = w1.heap.size + 1) := Lib.hid (by simp)
  go_upto_region 5 with (fail)
  clear cb0
  generalize (w1.alloc (.cells #[.int .i64 N, .int .i64 S, .int .i64 T, .slice none 0 0, .slice none 0 0, .slice none 0 0, .slice none 0 0, .slice none 0 0, .slice none 0 0] 32)) = W2 at HC HK2 hsz2 ⊢
  obtain ⟨cb, hcb⟩ : ∃ cb, cb = w1.heap.size := ⟨_, rfl⟩
  obtain ⟨Bs, hBs⟩ : ∃ Bs, Bs = w1.heap.size + 1 := ⟨_, rfl⟩
  obtain ⟨nb, hnb⟩ : ∃ nb, nb = w.heap.size := ⟨_, rfl⟩
  obtain ⟨rb, hrb⟩ : ∃ rb, rb = w.heap.size + 1 := ⟨_, rfl⟩
  rw [← hnb] at HB1
  rw [← hrb] at HR1
  rw [← hcb] at HC
  rw [← hcb, ← hrb, ← hnb]
  have S0 : Hid (CF w nb rb cb Bs N S T (.slice a ys.length cap) (.slice none 0 0) (.slice none 0 0) (.slice none 0 0) (.slice none 0 0) (.slice none 0 0) (.slice none 0 0) [] [] [] [] [] [] W2) := Lib.hid
    ⟨HK1.out.trans HK2.out, HB1.out.kept HK2.out, HR1.out.kept HK2.out, HC.out, World.ownsRow_nil _ _ _ _, World.ownsRow_nil _ _ _ _, World.ownsRow_nil _ _ _ _, World.ownsRow_nil _ _ _ _, World.ownsRow_nil _ _ _ _, World.ownsRow_nil _ _ _ _,
     FarV.nil _, FarV.nil _, FarV.nil _, FarV.nil _, FarV.nil _, FarV.nil _, by have := HZ.out; have := hsz2.out; omega⟩
  have HLT := Lib.hid (show nb = w.heap.size ∧ rb = w.heap.size + 1 ∧ w.heap.size ≤ cb ∧ rb < Bs by have := HZ.out; omega)
  clear hcb hBs hnb hrb HC HK2 hsz2 HK1 HR1 HB1 HZ
  go_wp2_with fail
  go_loopw [6] (fun ix wr => ∃ (v : Nat), ix = .int .i64 v ∧ (v : Int) ≤ N ∧ Hid (MkS w nb rb cb Bs N S T (.slice a ys.length cap) (firsts v ys) (enAll v ys) wr)) (fun ix _ => N.toNat - (intOf ix).toNat)
  case atStart => exact ⟨0, rfl, by have := HO.out.n2; omega, Lib.hid ⟨_, _, _, _, _, S0.out⟩⟩
  case round =>
    obtain ⟨v, rfl, hv0, S1⟩ := hrel
    clear S0
    obtain ⟨v3, v4, v6, v7, v8, hS1⟩ := S1.out
    obtain ⟨a4, c4, rfl⟩ := row_form hS1.o4
    have S1 := Lib.hid hS1
    clear hS1
    have cp := S1.out.prm.cell
    have hN := HO.out.n16
    have hYL := HO.out.len
    by_cases hvN : (v : Int) < N
    · as_aux_lemma =>
      go_upto_region 8 with (fail)
      obtain ⟨i0, hi, hz0, hz1, hz2⟩ := info_parts infoInt
      have cx := S1.out.box.cell
      have hbs := S1.out.lt.2.1
      have hxl : (nv (firsts v ys)).length ≤ 2000000 := by rw [nv_len, firsts_len]; omega
      go_upto_region 9 with (first | (at_builtin; refine wpList_push rfl _ _ 27 rfl Bs 3 i0 (.int .i64 0) 8 Try.underlying27 hi hz0 hz1 hz2 rfl (by decide) _ _ _ rfl S1.out.o3 (.int .i64 ((hv (enAll v ys)).length : Nat)) rfl rfl hxl hbs ?_; intro g cap1 w1 hown hg; have S2a := Lib.hid (S1.out.push3 hown hg); have cm := (S1.out.mid3 hg).cell; have fm := (S1.out.mid3 hg).free; clear hown hg cx S1) | fail)
      clear cm fm hi hz0 hz1 hz2 hbs hxl cp
      have S2 : Hid (MkS w nb rb cb Bs N S T (.slice a ys.length cap) (firsts (v + 1) ys) (enAll v ys) (w1.setCell ⟨cb, 3, none⟩ (.slice (some ⟨g, 0, none⟩) ((nv (firsts v ys)).length + 1) cap1))) := Lib.hid ⟨_, _, _, _, _, by
        rw [firsts_succ, nv_push, ← hv_len]
        exact S2a.out⟩
      clear S2a
      generalize (w1.setCell ⟨cb, 3, none⟩ (.slice (some ⟨g, 0, none⟩) ((nv (firsts v ys)).length + 1) cap1)) = W2 at S2 ⊢
      clear w1
      go_wp2_with fail
      go_loopw [7] (fun ix wr => ∃ (k : Nat) (es : List En), ix = .int .i64 k ∧ k ≤ ys.length ∧ Hid (es = enAll v ys ++ enRow (v : Int) 0 (ys.take k)) ∧ Hid (MkS w nb rb cb Bs N S T (.slice a ys.length cap) (firsts (v + 1) ys) es wr)) (fun ix _ => ys.length - (intOf ix).toNat)
      case atStart => exact ⟨0, enAll v ys, rfl, by omega, Lib.hid (by simp [enRow]), S2⟩
      case round =>
        obtain ⟨k, es, rfl, hk, HEQ, S3⟩ := hrel
        clear S2
        obtain ⟨v3, v4, v6, v7, v8, hS3⟩ := S3.out
        have S1 := Lib.hid hS3
        clear S3 hS3
        have HE : Hid (es.length ≤ 1280) := Lib.hid (by
          have h1 := HEQ.out
          have h2 := enAll_len v ys
          have h3 := enRow_len (v : Int) (ys.take k) 0
          have h4 : v * ys.length ≤ 16 * 40 := Nat.mul_le_mul (by have := HO.out.n16; omega) HO.out.len
          have h5 : (ys.take k).length ≤ 40 := by have := HO.out.len; simp; omega
          rw [h1, List.length_append]
          omega)
        by_cases hlt : k < ys.length
        · obtain ⟨b, off, rfl, c0, c1, c2⟩ := (HX.out.kept S1.out.kp).at k hlt
          obtain ⟨x, hxe⟩ : ∃ x, ys[k] = x := ⟨_, rfl⟩
          rw [hxe] at c0 c1 c2
          obtain ⟨f, t, c⟩ := x
          simp only at c0 c1 c2
          have HXE := Lib.hid hxe
          clear hxe
          have j0 : (0 : Int) ≤ (k : Int) := by omega
          have j1 : (k : Int) < (ys.length : Int) := by omega
          have cp := S1.out.prm.cell
          have HA := Lib.hid (Blk.new wr #[.int .i64 f, .int .i64 t, .int .i64 c] 68)
          have S1 := Lib.hid (S1.out.kept ((Upd.refl _ _).alloc (.cells #[.int .i64 f, .int .i64 t, .int .i64 c] 68)))
          go_upto_region 13 with (fail)
          clear c0 c1 c2 cp
          generalize (wr.alloc (.cells #[.int .i64 f, .int .i64 t, .int .i64 c] 68)) = W1 at HA S1 ⊢
          generalize wr.heap.size = xb at HA ⊢
          have ca := HA.out.cell
          by_cases hft : f = t
          · have hb1 : (f == t) = true := by simpa using hft
            go_wp2_with fail
            go_roundw
            case rel => exact ⟨k + 1, es, by go_num, by omega, Lib.hid (by rw [HEQ.out, enRow_take _ _ _ _ hlt, HXE.out]; simp [enStep, hft]), Lib.hid ⟨_, _, _, _, _, S1.out⟩⟩
            case measure => simp [intOf]; omega
          · have hb1 : (f == t) = false := by simpa using hft
            have HFT := Lib.hid hft
            clear hft
            by_cases hfv : f = (v : Int)
            · have hb2 : (f == (v : Int)) = true := by simpa using hfv
              have hb3 : (t == (v : Int)) = false := by have := HFT.out; simp; omega
              have HFV := Lib.hid hfv
              clear hfv
              go_upto_region 15 with (fail)
              clear ca
              obtain ⟨i0, hi, hz0, hz1, hz2⟩ := info_parts infoInt
              have cx := S1.out.box.cell
              have ca := HA.out.cell
              have hbs := S1.out.lt.2.1
              have hxl : (hv es).length ≤ 2000000 := by rw [hv_len]; have := HE.out; omega
              go_upto_region 16 with (first | (at_builtin; refine wpList_push rfl _ _ 27 rfl Bs 3 i0 (.int .i64 0) 8 Try.underlying27 hi hz0 hz1 hz2 rfl (by decide) _ _ _ rfl S1.out.o4 (.int .i64 t) rfl rfl hxl hbs ?_; intro g0 cap0 w0 hown hg; have S2 := Lib.hid (S1.out.push4 hown hg); have HA2 := Lib.hid (S1.out.arc4 hg HA.out); have cm := (S1.out.mid4 hg).cell; have fm := (S1.out.mid4 hg).free; clear hown hg cx ca S1 HA) | fail)
              clear cm fm hi hz0 hz1 hz2 hbs hxl
              generalize (w0.setCell ⟨cb, 4, none⟩ (.slice (some ⟨g0, 0, none⟩) ((hv es).length + 1) cap0)) = W2 at S2 HA2 ⊢
              clear w0
              obtain ⟨i0, hi, hz0, hz1, hz2⟩ := info_parts infoLong
              have cx := S2.out.box.cell
              have ca := HA2.out.cell
              have hbs := S2.out.lt.2.1
              have hxl : (cv es).length ≤ 2000000 := by rw [cv_len]; have := HE.out; omega
              go_upto_region 17 with (first | (at_builtin; refine wpList_push rfl _ _ 26 rfl Bs 2 i0 (.int .i64 0) 8 Try.underlying26 hi hz0 hz1 hz2 rfl (by decide) _ _ _ rfl S2.out.o6 (.int .i64 c) rfl rfl hxl hbs ?_; intro g1 cap1 w1 hown hg; have S3 := Lib.hid (S2.out.push6 hown hg); have HA3 := Lib.hid (S2.out.arc6 hg HA2.out); have cm := (S2.out.mid6 hg).cell; have fm := (S2.out.mid6 hg).free; clear hown hg cx ca S2 HA2) | fail)
              clear cm fm hi hz0 hz1 hz2 hbs hxl
              generalize (w1.setCell ⟨cb, 6, none⟩ (.slice (some ⟨g1, 0, none⟩) ((cv es).length + 1) cap1)) = W3 at S3 HA3 ⊢
              clear w1
              obtain ⟨i0, hi, hz0, hz1, hz2⟩ := info_parts infoInt
              have cx := S3.out.box.cell
              have ca := HA3.out.cell
              have hbs := S3.out.lt.2.1
              have hxl : (kv es).length ≤ 2000000 := by rw [kv_len]; have := HE.out; omega
              go_upto_region 18 with (first | (at_builtin; refine wpList_push rfl _ _ 27 rfl Bs 3 i0 (.int .i64 0) 8 Try.underlying27 hi hz0 hz1 hz2 rfl (by decide) _ _ _ rfl S3.out.o7 (.int .i64 (k : Int)) rfl rfl hxl hbs ?_; intro g2 cap2 w2 hown hg; have S4 := Lib.hid (S3.out.push7 hown hg); have HA4 := Lib.hid (S3.out.arc7 hg HA3.out); have cm := (S3.out.mid7 hg).cell; have fm := (S3.out.mid7 hg).free; clear hown hg cx ca S3 HA3) | fail)
              clear cm fm hi hz0 hz1 hz2 hbs hxl
              generalize (w2.setCell ⟨cb, 7, none⟩ (.slice (some ⟨g2, 0, none⟩) ((kv es).length + 1) cap2)) = W4 at S4 HA4 ⊢
              clear w2
              obtain ⟨i0, hi, hz0, hz1, hz2⟩ := info_parts infoBool
              have cx := S4.out.box.cell
              have ca := HA4.out.cell
              have hbs := S4.out.lt.2.1
              have hxl : (bv es).length ≤ 2000000 := by rw [bv_len]; have := HE.out; omega
              go_upto_region 19 with (first | (at_builtin; refine wpList_push rfl _ _ 30 rfl Bs 4 i0 (.bool false) 1 Try.underlying30 hi hz0 hz1 hz2 rfl (by decide) _ _ _ rfl S4.out.o8 (.bool false) rfl rfl hxl hbs ?_; intro g3 cap3 w3 hown hg; have S5 := Lib.hid (S4.out.push8 hown hg); have HA5 := Lib.hid (S4.out.arc8 hg HA4.out); have cm := (S4.out.mid8 hg).cell; have fm := (S4.out.mid8 hg).free; clear hown hg cx ca S4 HA4) | fail)
              clear cm fm hi hz0 hz1 hz2 hbs hxl
              generalize (w3.setCell ⟨cb, 8, none⟩ (.slice (some ⟨g3, 0, none⟩) ((bv es).length + 1) cap3)) = W5 at S5 HA5 ⊢
              clear w3
              have ca := HA5.out.cell
              go_wp2_with fail
              go_roundw
              case rel =>
                have S6 : Hid (MkS w nb rb cb Bs N S T (.slice (some ⟨b, off, none⟩) ys.length cap) (firsts (v + 1) ys) (es ++ [⟨t, c, k, false⟩]) W5) := Lib.hid ⟨_, _, _, _, _, by
                  rw [hv_push, cv_push, kv_push, bv_push]
                  exact S5.out⟩
                refine ⟨k + 1, es ++ [⟨t, c, k, false⟩], by go_num, by omega, Lib.hid ?_, S6⟩
                rw [HEQ.out, enRow_take _ _ _ _ hlt, HXE.out, enStep_f HFT.out HFV.out]
                simp
              case measure => simp [intOf]; omega
            · have hb2 : (f == (v : Int)) = false := by simpa using hfv
              have HFV := Lib.hid hfv
              clear hfv
              by_cases htv : t = (v : Int)
              · have hb3 : (t == (v : Int)) = true := by simpa using htv
                have HTV := Lib.hid htv
                clear htv
                go_upto_region 20 with (fail)
                clear ca
                obtain ⟨i0, hi, hz0, hz1, hz2⟩ := info_parts infoInt
                have cx := S1.out.box.cell
                have ca := HA.out.cell
                have hbs := S1.out.lt.2.1
                have hxl : (hv es).length ≤ 2000000 := by rw [hv_len]; have := HE.out; omega
                go_upto_region 21 with (first | (at_builtin; refine wpList_push rfl _ _ 27 rfl Bs 3 i0 (.int .i64 0) 8 Try.underlying27 hi hz0 hz1 hz2 rfl (by decide) _ _ _ rfl S1.out.o4 (.int .i64 f) rfl rfl hxl hbs ?_; intro g0 cap0 w0 hown hg; have S2 := Lib.hid (S1.out.push4 hown hg); have HA2 := Lib.hid (S1.out.arc4 hg HA.out); have cm := (S1.out.mid4 hg).cell; have fm := (S1.out.mid4 hg).free; clear hown hg cx ca S1 HA) | fail)
                clear cm fm hi hz0 hz1 hz2 hbs hxl
                generalize (w0.setCell ⟨cb, 4, none⟩ (.slice (some ⟨g0, 0, none⟩) ((hv es).length + 1) cap0)) = W2 at S2 HA2 ⊢
                clear w0
                obtain ⟨i0, hi, hz0, hz1, hz2⟩ := info_parts infoLong
                have cx := S2.out.box.cell
                have ca := HA2.out.cell
                have hbs := S2.out.lt.2.1
                have hxl : (cv es).length ≤ 2000000 := by rw [cv_len]; have := HE.out; omega
                go_upto_region 22 with (first | (at_builtin; refine wpList_push rfl _ _ 26 rfl Bs 2 i0 (.int .i64 0) 8 Try.underlying26 hi hz0 hz1 hz2 rfl (by decide) _ _ _ rfl S2.out.o6 (.int .i64 0) rfl rfl hxl hbs ?_; intro g1 cap1 w1 hown hg; have S3 := Lib.hid (S2.out.push6 hown hg); have HA3 := Lib.hid (S2.out.arc6 hg HA2.out); have cm := (S2.out.mid6 hg).cell; have fm := (S2.out.mid6 hg).free; clear hown hg cx ca S2 HA2) | fail)
                clear cm fm hi hz0 hz1 hz2 hbs hxl
                generalize (w1.setCell ⟨cb, 6, none⟩ (.slice (some ⟨g1, 0, none⟩) ((cv es).length + 1) cap1)) = W3 at S3 HA3 ⊢
                clear w1
                obtain ⟨i0, hi, hz0, hz1, hz2⟩ := info_parts infoInt
                have cx := S3.out.box.cell
                have ca := HA3.out.cell
                have hbs := S3.out.lt.2.1
                have hxl : (kv es).length ≤ 2000000 := by rw [kv_len]; have := HE.out; omega
                go_upto_region 23 with (first | (at_builtin; refine wpList_push rfl _ _ 27 rfl Bs 3 i0 (.int .i64 0) 8 Try.underlying27 hi hz0 hz1 hz2 rfl (by decide) _ _ _ rfl S3.out.o7 (.int .i64 (k : Int)) rfl rfl hxl hbs ?_; intro g2 cap2 w2 hown hg; have S4 := Lib.hid (S3.out.push7 hown hg); have HA4 := Lib.hid (S3.out.arc7 hg HA3.out); have cm := (S3.out.mid7 hg).cell; have fm := (S3.out.mid7 hg).free; clear hown hg cx ca S3 HA3) | fail)
                clear cm fm hi hz0 hz1 hz2 hbs hxl
                generalize (w2.setCell ⟨cb, 7, none⟩ (.slice (some ⟨g2, 0, none⟩) ((kv es).length + 1) cap2)) = W4 at S4 HA4 ⊢
                clear w2
                obtain ⟨i0, hi, hz0, hz1, hz2⟩ := info_parts infoBool
                have cx := S4.out.box.cell
                have ca := HA4.out.cell
                have hbs := S4.out.lt.2.1
                have hxl : (bv es).length ≤ 2000000 := by rw [bv_len]; have := HE.out; omega
                go_wp2_with (first | (at_builtin; refine wpList_push rfl _ _ 30 rfl Bs 4 i0 (.bool false) 1 Try.underlying30 hi hz0 hz1 hz2 rfl (by decide) _ _ _ rfl S4.out.o8 (.bool true) rfl rfl hxl hbs ?_; intro g3 cap3 w3 hown hg; have S5 := Lib.hid (S4.out.push8 hown hg); have HA5 := Lib.hid (S4.out.arc8 hg HA4.out); have cm := (S4.out.mid8 hg).cell; have fm := (S4.out.mid8 hg).free; clear hown hg cx ca S4 HA4) | fail)
                clear cm fm hi hz0 hz1 hz2 hbs hxl
                generalize (w3.setCell ⟨cb, 8, none⟩ (.slice (some ⟨g3, 0, none⟩) ((bv es).length + 1) cap3)) = W5 at S5 HA5 ⊢
                clear w3
                go_roundw
                case rel =>
                  have S6 : Hid (MkS w nb rb cb Bs N S T (.slice (some ⟨b, off, none⟩) ys.length cap) (firsts (v + 1) ys) (es ++ [⟨f, 0, k, true⟩]) W5) := Lib.hid ⟨_, _, _, _, _, by
                    rw [hv_push, cv_push, kv_push, bv_push]
                    exact S5.out⟩
                  refine ⟨k + 1, es ++ [⟨f, 0, k, true⟩], by go_num, by omega, Lib.hid ?_, S6⟩
                  rw [HEQ.out, enRow_take _ _ _ _ hlt, HXE.out, enStep_t HFT.out HFV.out HTV.out]
                  simp
                case measure => simp [intOf]; omega
              · have hb3 : (t == (v : Int)) = false := by simpa using htv
                go_wp2_with fail
                go_roundw
                case rel => exact ⟨k + 1, es, by go_num, by omega, Lib.hid (by rw [HEQ.out, enRow_take _ _ _ _ hlt, HXE.out]; simp [enStep, enF, enT, HFT.out, HFV.out, htv]), Lib.hid ⟨_, _, _, _, _, S1.out⟩⟩
                case measure => simp [intOf]; omega
        · have hkM : k = ys.length := by omega
          subst hkM
          have cp := S1.out.prm.cell
          go_wp2_with fail
          go_roundw
          case rel =>
            refine ⟨v + 1, by go_num, by omega, Lib.hid ?_⟩
            have h1 := HEQ.out
            rw [List.take_length, ← enAll_succ] at h1
            exact ⟨_, _, _, _, _, by rw [← h1]; exact S1.out⟩
          case measure => simp [intOf]; omega
    · as_aux_lemma =>
      have hvN : (v : Int) = N := by omega
      obtain ⟨i0, hi, hz0, hz1, hz2⟩ := info_parts infoInt
      have cx := S1.out.box.cell
      have hbs := S1.out.lt.2.1
      have hxl : (nv (firsts v ys)).length ≤ 2000000 := by rw [nv_len, firsts_len]; omega
      go_upto_region 25 with (first | (at_builtin; refine wpList_push rfl _ _ 27 rfl Bs 3 i0 (.int .i64 0) 8 Try.underlying27 hi hz0 hz1 hz2 rfl (by decide) _ _ _ rfl S1.out.o3 (.int .i64 ((hv (enAll v ys)).length : Nat)) rfl rfl hxl hbs ?_; intro g cap1 w1 hown hg; have S2a := Lib.hid (S1.out.push3 hown hg); have cm := (S1.out.mid3 hg).cell; have fm := (S1.out.mid3 hg).free; clear hown hg cx S1) | fail)
      clear cm fm hi hz0 hz1 hz2 hbs hxl cp
      obtain ⟨es, hes⟩ : ∃ es, es = enAll v ys := ⟨_, rfl⟩
      have S2 : Hid (∃ v3, CF w nb rb cb Bs N S T (.slice a ys.length cap) v3 (.slice a4 es.length c4) (.slice none 0 0) v6 v7 v8 (nv (firsts (v + 1) ys)) (hv es) [] (cv es) (kv es) (bv es) (w1.setCell ⟨cb, 3, none⟩ (.slice (some ⟨g, 0, none⟩) ((nv (firsts v ys)).length + 1) cap1))) := Lib.hid ⟨_, by
        rw [firsts_succ, nv_push, hes, ← hv_len]
        exact S2a.out⟩
      clear S2a
      generalize (w1.setCell ⟨cb, 3, none⟩ (.slice (some ⟨g, 0, none⟩) ((nv (firsts v ys)).length + 1) cap1)) = W2 at S2 ⊢
      clear w1
      obtain ⟨v3, hS2⟩ := S2.out
      obtain ⟨a7, c7, rfl⟩ := row_form hS2.o7
      rw [kv_len] at hS2
      have S2 := Lib.hid hS2
      clear hS2
      have HES := Lib.hid hes
      have hel : es.length ≤ 640 := by
        have h2 := enAll_len v ys
        have h4 : v * ys.length ≤ 16 * 40 := Nat.mul_le_mul (by omega) hYL
        rw [hes]
        omega
      clear hes
      go_wp2_with fail
      go_loopw [9] (fun ix wr => ∃ (i : Nat) (v5 : Value), ix = .int .i64 i ∧ i ≤ es.length ∧ Hid (CF w nb rb cb Bs N S T (.slice a ys.length cap) v3 (.slice a4 es.length c4) v5 v6 (.slice a7 es.length c7) v8 (nv (firsts (v + 1) ys)) (hv es) (nv (revs es i)) (cv es) (kv es) (bv es) wr)) (fun ix _ => es.length - (intOf ix).toNat)
      case atStart => exact ⟨0, _, rfl, by omega, S2⟩
      case round =>
        obtain ⟨i, v5, rfl, hi0, S3⟩ := hrel
        clear S2
        have cx := S3.out.box.cell
        by_cases hlt : i < es.length
        · as_aux_lemma =>
          go_wp2_with fail
          clear cx
          go_loopw [10] (fun jx wr => ∃ (j : Nat) (v5 : Value), jx = .int .i64 j ∧ j ≤ es.length ∧ Hid (CF w nb rb cb Bs N S T (.slice a ys.length cap) v3 (.slice a4 es.length c4) v5 v6 (.slice a7 es.length c7) v8 (nv (firsts (v + 1) ys)) (hv es) (nv (revs es i ++ (List.range j).filter (mate es i))) (cv es) (kv es) (bv es) wr)) (fun jx _ => es.length - (intOf jx).toNat)
          case atStart => exact ⟨0, v5, rfl, by omega, Lib.hid (by simpa using S3.out)⟩
          case round =>
            obtain ⟨j, v5, rfl, hj0, S4⟩ := hrel
            clear S3
            have cx := S4.out.box.cell
            by_cases hjt : j < es.length
            · have ho7 := S4.out.o7
              rw [kv_len] at ho7
              obtain ⟨a', c', e', HR7⟩ := Rd.owns ho7
              obtain ⟨p, hp⟩ : ∃ p, es[i].k = p := ⟨_, rfl⟩
              obtain ⟨q, hq⟩ : ∃ q, es[j].k = q := ⟨_, rfl⟩
              have hm : mate es i j = (decide (p = q) && decide (i ≠ j)) := by
                unfold mate
                rw [List.getElem?_eq_getElem hlt, List.getElem?_eq_getElem hjt, ← hp, ← hq]
              have HM := Lib.hid hm
              have HRJ : Hid (nv (revs es i ++ (List.range (j + 1)).filter (mate es i)) = nv (revs es i ++ (List.range j).filter (mate es i)) ++ (if mate es i j then [.int .i64 (j : Int)] else [])) := Lib.hid (by
                rw [List.range_succ, List.filter_append, ← List.append_assoc]
                cases hmm : mate es i j <;> simp [nv, hmm])
              clear hm
              have hcc : a7 = a' ∧ c7 = c' := by cases e'; exact ⟨rfl, rfl⟩
              obtain ⟨rfl, rfl⟩ := hcc
              clear e' ho7
              obtain ⟨b7, f7, rfl, ci⟩ := HR7.at i (by rw [kv_len]; exact hlt)
              obtain ⟨b7', f7', e7, cj⟩ := HR7.at j (by rw [kv_len]; exact hjt)
              rw [kv_at _ _ hlt, hp] at ci
              rw [kv_at _ _ hjt, hq] at cj
              cases e7
              clear hp hq HR7
              have q1 : (0 : Int) ≤ (i : Int) := by omega
              have q2 : (i : Int) < (es.length : Int) := by omega
              have q3 : (0 : Int) ≤ (j : Int) := by omega
              have q4 : (j : Int) < (es.length : Int) := by omega
              by_cases hmt : p = q ∧ i ≠ j
              · obtain ⟨rfl, hne⟩ := hmt
                have hb1 : ((p : Int) == (p : Int)) = true := by simp
                have hb2 : ((i : Int) == (j : Int)) = false := by simp; omega
                have hb3 : ((i : Int) != (j : Int)) = true := by simp; omega
                have hmm : mate es i j = true := by rw [HM.out]; simp [hne]
                have hrl : (nv (revs es i ++ (List.range j).filter (mate es i))).length ≤ 2000000 := by
                  have h1 := revs_len es i
                  have h2 : i * es.length ≤ 640 * 640 := Nat.mul_le_mul (by omega) hel
                  have h3 := List.length_filter_le (mate es i) (List.range j)
                  rw [List.length_range] at h3
                  rw [nv_len, List.length_append]
                  omega
                obtain ⟨i0, hi, hz0, hz1, hz2⟩ := info_parts infoInt
                go_upto_region 31 with (fail)
                go_big_quiet (fail)
                have S4 := Lib.hid (S4.out.kept (drewN_kept wr nq))
                clear ci cj cx
                generalize wr.drewN nq = W4 at S4 ⊢
                have cx := S4.out.box.cell
                have hbs := S4.out.lt.2.1
                go_upto_region 30 with (first | (at_builtin; refine wpList_push rfl _ _ 27 rfl Bs 3 i0 (.int .i64 0) 8 Try.underlying27 hi hz0 hz1 hz2 rfl (by decide) _ _ _ rfl S4.out.o5 (.int .i64 (j : Int)) rfl rfl hrl hbs ?_; intro g cap1 w1 hown hg; have S5 := Lib.hid (S4.out.push5 hown hg); have cm := (S4.out.mid5 hg).cell; have fm := (S4.out.mid5 hg).free; clear hown hg cx S4) | fail)
                clear cm fm hi hz0 hz1 hz2 hbs hrl
                generalize (w1.setCell ⟨cb, 5, none⟩ _) = W5 at S5 ⊢
                go_wp2_with fail
                go_roundw
                case rel =>
                  have S6 := S5.out
                  rw [← (show nv (revs es i ++ (List.range (j + 1)).filter (mate es i)) = nv (revs es i ++ (List.range j).filter (mate es i)) ++ [.int .i64 (j : Int)] by rw [HRJ.out, hmm]; rfl)] at S6
                  exact ⟨j + 1, _, by go_num, by omega, Lib.hid S6⟩
                case measure => simp [intOf]; omega
              · have hmm : mate es i j = false := by rw [HM.out]; rw [← Bool.not_eq_true]; simpa using hmt
                have S6 : Hid (CF w nb rb cb Bs N S T (.slice a ys.length cap) v3 (.slice a4 es.length c4) v5 v6 (.slice (some ⟨b7, f7, none⟩) es.length c7) v8 (nv (firsts (v + 1) ys)) (hv es) (nv (revs es i ++ (List.range (j + 1)).filter (mate es i))) (cv es) (kv es) (bv es) wr) := Lib.hid (by
                  rw [HRJ.out, hmm]
                  simpa using S4.out)
                by_cases hpq : p = q
                · subst hpq
                  have hij : i = j := by omega
                  have hb1 : ((p : Int) == (p : Int)) = true := by simp
                  have hb2 : ((i : Int) == (j : Int)) = true := by simp; omega
                  have hb3 : ((i : Int) != (j : Int)) = false := by simp; omega
                  clear hij hmt
                  go_upto_region 31 with (fail)
                  go_big_quiet (fail)
                  have S6 := Lib.hid (S6.out.kept (drewN_kept wr nq))
                  clear ci cj cx
                  generalize wr.drewN nq = W4 at S6 ⊢
                  go_wp2_with fail
                  go_roundw
                  case rel => exact ⟨j + 1, _, by go_num, by omega, S6⟩
                  case measure => simp [intOf]; omega
                · have hb1 : ((p : Int) == (q : Int)) = false := by simp; omega
                  clear hmt
                  go_upto_region 31 with (fail)
                  go_big_quiet (fail)
                  have S6 := Lib.hid (S6.out.kept (drewN_kept wr nq))
                  clear ci cj cx
                  generalize wr.drewN nq = W4 at S6 ⊢
                  go_wp2_with fail
                  go_roundw
                  case rel => exact ⟨j + 1, _, by go_num, by omega, S6⟩
                  case measure => simp [intOf]; omega
            · have hjM : j = es.length := by omega
              subst hjM
              go_wp2_with fail
              go_roundw
              case rel => exact ⟨i + 1, _, by go_num, by omega, Lib.hid (by rw [revs_succ]; exact S4.out)⟩
              case measure => simp [intOf]; omega
        · as_aux_lemma =>
          have hiM : i = es.length := by omega
          subst hiM
          clear cx
          obtain ⟨a3, c3, rfl⟩ := row_form S3.out.o3
          obtain ⟨a5, c5, rfl⟩ := row_form S3.out.o5
          obtain ⟨a6, c6, rfl⟩ := row_form S3.out.o6
          obtain ⟨a8, c8, rfl⟩ := row_form S3.out.o8
          generalize hm3 : (nv (firsts (v + 1) ys)).length = m3 at S3
          generalize hm5 : (nv (revs es es.length)).length = m5 at S3
          generalize hm6 : (cv es).length = m6 at S3
          generalize hm8 : (bv es).length = m8 at S3
          clear hm3 hm5 hm6 hm8
          have cx := S3.out.box.cell
          have cr := S3.out.res.cell
          have fr := S3.out.res.free
          obtain ⟨w9, hw9, hB9, hU9⟩ := S3.out.res.put9 (.int .i64 N) (.int .i64 S) (.int .i64 T) (.slice a3 m3 c3) (.slice a4 es.length c4) (.slice a5 m5 c5) (.slice a6 m6 c6) (.slice a7 es.length c7) (.slice a8 m8 c8)
          have hra : wr.rangeAt cb 0 [.int .i64 N, .int .i64 S, .int .i64 T, .slice a3 m3 c3, .slice a4 es.length c4, .slice a5 m5 c5, .slice a6 m6 c6, .slice a7 es.length c7, .slice a8 m8 c8] := by
            intro j v hv
            rw [Nat.zero_add, cx j]
            simpa using hv
          have hth : wr.there rb 0 9 := by
            intro j hj
            rw [Nat.zero_add, cr j]
            exact ⟨by rw [Array.getElem?_eq_getElem (by simpa using hj)]; rfl, fr j⟩
          have hw9' : wr.setCells rb 0 [.int .i64 N, .int .i64 S, .int .i64 T, .slice a3 m3 c3, .slice a4 es.length c4, .slice a5 m5 c5, .slice a6 m6 c6, .slice a7 es.length c7, .slice a8 m8 c8] = w9 := hw9.symm
          have hc3 := hB9.cell
          have hz9 : (Try.prog.info? 32).map (·.size) = some 9 := by kernel_rfl
          clear cr fr hw9
          go_upto_region 33 with (fail)
          clear cx
          go_wp2_with (first | (refine wpList_load_mid rfl _ _ rfl cb 0 rfl [.int .i64 N, .int .i64 S, .int .i64 T, .slice a3 m3 c3, .slice a4 es.length c4, .slice a5 m5 c5, .slice a6 m6 c6, .slice a7 es.length c7, .slice a8 m8 c8] _ hra Try.underlying32 rfl hz9 ?_) | (refine wpList_store_mid rfl _ _ _ rfl rb 0 #[.int .i64 N, .int .i64 S, .int .i64 T, .slice a3 m3 c3, .slice a4 es.length c4, .slice a5 m5 c5, .slice a6 m6 c6, .slice a7 es.length c7, .slice a8 m8 c8] rfl rfl hth hz9 (all_oneCell_toArray (cs := [.int .i64 N, .int .i64 S, .int .i64 T, .slice a3 m3 c3, .slice a4 es.length c4, .slice a5 m5 c5, .slice a6 m6 c6, .slice a7 es.length c7, .slice a8 m8 c8]) (by simp [Value.oneCell'])) ?_; simp only [hw9']) | fail)
          refine bodyPost_ret (v := .tuple #[.agg #[.int .i64 N, .int .i64 S, .int .i64 T, .slice a3 m3 c3, .slice a4 es.length c4, .slice a5 m5 c5, .slice a6 m6 c6, .slice a7 es.length c7, .slice a8 m8 c8], .int .i64 0]) ?_ rfl ?_
          · simp [results, go_sem, hc3]
          · have hvT : N.toNat = v := by omega
            have hl := HLT.out
            have hS := S3.out
            have hes := HES.out
            subst hes
            rw [hvT]
            exact ⟨_, _, _, _, _, _, rfl, hS.csr hU9 (by omega) (by rw [show (v : Int) = N by omega]; exact HO.out.arcs), hS.kp.then hU9 (fun k hk e => by omega)⟩
end Go.Proofs.Ytdhimfkmgcfohaa
