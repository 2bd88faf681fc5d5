/- acequia/dist: search.from (printed by gen_distfrom.py). -/
import Derived.Test.YtoapekkmaajfmaaDistRight
import Derived.Test.YtoapekkmaajfmaaDistP
import Derived.Test.YtoapekkmaajfmaaRepeat
import Derived.Test.YtoapekkmaajfmaaPush
import Derived.Laws.OwnMore
import Derived.WalkMore
import Derived.Deep.RegionHeld3
import Derived.Deep.CutRange
namespace Go.Proofs.Ytoapekkmaajfmaa
set_option linter.unusedVariables false
set_option linter.unusedSimpArgs false
open Go.RowKit
attribute [local go_sem] cell?_ext

theorem wrap_up (x : Nat) (h : x ≤ 1000) : wrap64 ((x : Int) + 1) = ((x + 1 : Nat) : Int) := by unfold wrap64; omega
theorem wrap_up' (x : Nat) (h : x ≤ 1000) : IntKind.i64.wrap ((x : Int) + 1) = ((x + 1 : Nat) : Int) := by rw [IntKind.wrap_i64]; omega
theorem sml1 {x n : Nat} (h : x + 1 < n) (h2 : n ≤ 16) : x ≤ 1000 := by omega
theorem sml2 {x n : Nat} (h : x ≤ n) (h2 : n ≤ 16) : x ≤ 2000000 := by omega
theorem nv_set {w : World} {b : Nat} {d : List Nat} {T : TypeId} (h : Blk w b (nv d).toArray T) (i x : Nat) : Blk (w.setCell ⟨b, i, none⟩ (.int .i64 (x : Int))) b (nv (d.set i x)).toArray T := by
  have := h.set i (.int .i64 (x : Int))
  rwa [show (nv (d.set i x)).toArray = (nv d).toArray.setIfInBounds i (.int .i64 (x : Int)) by simp [nv, List.map_set]]
/-- Where the arcs from q on, up to a, that may be gone by, end. -/
def Gone (n : Nat) (ys : List Ar) (g : Nat → Bool) (q a x : Nat) : Prop := ∃ b, q ≤ b ∧ b < a ∧ hd n ys b = x ∧ g b = true
theorem gone_none {n : Nat} {ys : List Ar} {g : Nat → Bool} {q : Nat} (x : Nat) : ¬ Gone n ys g q q x := fun ⟨b, h1, h2, _⟩ => by omega
theorem gone_next {n : Nat} {ys : List Ar} {g : Nat → Bool} {q a x : Nat} (h : Gone n ys g q (a + 1) x) : Gone n ys g q a x ∨ x = hd n ys a ∧ g a = true := by
  obtain ⟨b, h1, h2, h3, h4⟩ := h
  by_cases e : b = a
  · subst e; exact .inr ⟨h3.symm, h4⟩
  · exact .inl ⟨b, h1, by omega, h3, h4⟩
/-- What search.from looks at: its box, how far, the row of those met. -/
structure FS (w : World) (sb db Bs : Nat) (box : Array Value) (d row : List Nat) (rg rl rcp : Nat) (wr : World) : Prop where
  kp : Kept w wr
  box : Blk wr sb box 61
  d : Blk wr db (nv d).toArray 3
  row : wr.ownsRow Bs 3 1 (.slice (some ⟨rg, 0, none⟩) rl rcp) rl (nv row)
  ne : ¬ rg = db
  nb : ¬ sb = db
  lo : w.heap.size ≤ db
  lo2 : w.heap.size ≤ Bs
section
variable {w : World} {sb db Bs : Nat} {box : Array Value} {d row : List Nat} {rg rl rcp : Nat} {wr w' : World}
theorem FS.kept (h : FS w sb db Bs box d row rg rl rcp wr) (k : Kept wr w') : FS w sb db Bs box d row rg rl rcp w' :=
  ⟨h.kp.trans k, h.box.kept k, h.d.kept k, ownsRow_upd h.row k (fun _ _ f => f), h.ne, h.nb, h.lo, h.lo2⟩
theorem FS.rat (h : FS w sb db Bs box d row rg rl rcp wr) (i : Nat) (hi : i < row.length) : wr.cell? ⟨rg, i, none⟩ = some (.int .i64 (row.getD i 0 : Nat)) := by
  have := h.row.cells (g := rg) rfl i _ (nv_get hi)
  unfold Addr.add at this
  simp only [Nat.zero_add] at this
  rwa [show (if i = 0 then (⟨rg, 0, none⟩ : Addr) else ⟨rg, i, none⟩) = ⟨rg, i, none⟩ by split <;> simp_all] at this
theorem FS.dat (h : FS w sb db Bs box d row rg rl rcp wr) (i : Nat) (hi : i < d.length) : wr.cell? ⟨db, i, none⟩ = some (.int .i64 (d.getD i 0 : Nat)) := by
  rw [h.d.cell]; simp only [List.getElem?_toArray]; exact nv_get hi
theorem FS.put (h : FS w sb db Bs box d row rg rl rcp wr) (i x : Nat) : FS w sb db Bs box (d.set i x) row rg rl rcp (wr.setCell ⟨db, i, none⟩ (.int .i64 (x : Int))) :=
  ⟨Kept.set h.kp h.lo _, h.box.other h.nb _, nv_set h.d i x, ownsRow_far h.row (Upd.setCell (S := fun k => k = db) (Upd.refl _ _) (.inl rfl) _) (fun k hk e => by cases hk; exact h.ne e), h.ne, h.nb, h.lo, h.lo2⟩
theorem FS.push (h : FS w sb db Bs box d row rg rl rcp wr) {x g cap : Nat} (ho : w'.ownsRow Bs 3 1 (.slice (some ⟨g, 0, none⟩) (rl + 1) cap) (rl + 1) (nv row ++ [.int .i64 (x : Int)])) (hg : Grew wr w' (.slice (some ⟨rg, 0, none⟩) rl rcp) (.slice (some ⟨g, 0, none⟩) (rl + 1) cap)) :
    FS w sb db Bs box d (row ++ [x]) g (rl + 1) cap w' := by
  refine ⟨hg.kept h.kp h.row h.lo2, hg.blk h.box h.row (by decide), h.d.upd hg.upd (fun e => by cases e; exact h.ne rfl), ?_, fun e => ?_, h.nb, h.lo, h.lo2⟩
  · rwa [show nv (row ++ [x]) = nv row ++ [.int .i64 (x : Int)] by simp [nv]]
  · subst e
    rcases hg.new g rfl with e | e
    · cases e; exact h.ne rfl
    · have := h.d.lt; omega
end
set_option maxHeartbeats 8000000 in
theorem fromT_any (N S T : Int) (n m : Nat) (a3 a4 a5 a6 a7 a8 : Option Addr) (c3 c4 c5 c6 c7 c8 : Nat) (cb rb : Nat) (ys : List Ar) (ra : Option Addr) (rc : Nat) (rs : List Int) (v : Nat) (w : World) (hg : Gr N S T n m ys) (hcr : CsrR w n ys a3 a4 a5 a6 a7 a8) (hr : Rd w ra (lv rs)) (hm : rs.length = m) (hc : Blk w cb #[.int .i64 N, .int .i64 S, .int .i64 T, .slice a3 (n + 1) c3, .slice a4 m c4, .slice a5 m c5, .slice a6 m c6, .slice a7 m c7, .slice a8 m c8] 29) (hb : Blk w rb #[.slice ra m rc] 25) (hvn : v < n) :
    Calls Try.prog 29 #[.agg #[.int .i64 N, .int .i64 S, .int .i64 T, .slice a3 (n + 1) c3, .slice a4 m c4, .slice a5 m c5, .slice a6 m c6, .slice a7 m c7, .slice a8 m c8, .func (.func 28) #[] #[.pointer (some ⟨rb, 0, none⟩), .pointer (some ⟨cb, 0, none⟩)]], .int .i64 v] w fun e w' => ∃ db d, e = .returned (.slice (some ⟨db, 0, none⟩) n n) ∧ Blk w' db (nv d).toArray 3 ∧ w.heap.size ≤ db ∧ IsD n v (StepB n m ys (goT n ys rs)) d ∧ Kept w w' := by
  have HRP := fun (xb : Nat) (w : World) (h : Blk w xb #[.int .i64 N] 3) => Lib.hid (Repeat_any xb N n w h (by have := hg.len; omega) (by have := hg.len; omega))
  obtain ⟨hnN, hn2, hn16, hm6, -⟩ := hg.len
  have HG := Lib.hid hg
  have HCR := Lib.hid hcr
  have HRR := Lib.hid hr
  have HCB := Lib.hid hc
  have HRB := Lib.hid hb
  subst hnN
  obtain ⟨b3, o3, e3, -⟩ := HCR.out.r3.at 0 (by rw [nv_len, firsts_len]; omega)
  subst e3
  have HGO : ∀ (a : Nat) (w' : World), a < m → Kept w w' → Hid (Calls Try.prog 28 #[.int .i64 (a : Nat), .pointer (some ⟨rb, 0, none⟩), .pointer (some ⟨cb, 0, none⟩)] w' fun e w'' => e = .returned (.bool (goT n ys rs a)) ∧ Kept w' w'') := fun a w' ha k => Lib.hid (goT_any (n : Int) S T n m (some ⟨b3, o3, none⟩) a4 a5 a6 a7 a8 c3 c4 c5 c6 c7 c8 ys ra rc rs cb rb a w' HG.out (HCR.out.kept k) (HRR.out.kept k) hm (HCB.out.kept k) (HRB.out.kept k) ha)
  have HK := Lib.hid ((Upd.refl (fun _ => False) w).alloc (.cells #[.int .i64 n, .int .i64 S, .int .i64 T, .slice (some ⟨b3, o3, none⟩) (n + 1) c3, .slice a4 m c4, .slice a5 m c5, .slice a6 m c6, .slice a7 m c7, .slice a8 m c8, .func (.func 28) #[] #[.pointer (some ⟨rb, 0, none⟩), .pointer (some ⟨cb, 0, none⟩)]] 61))
  have HB := Lib.hid (Blk.new w #[.int .i64 n, .int .i64 S, .int .i64 T, .slice (some ⟨b3, o3, none⟩) (n + 1) c3, .slice a4 m c4, .slice a5 m c5, .slice a6 m c6, .slice a7 m c7, .slice a8 m c8, .func (.func 28) #[] #[.pointer (some ⟨rb, 0, none⟩), .pointer (some ⟨cb, 0, none⟩)]] 61)
  clear hg hcr hr hb hc
  go_enter Try.func29, Try.ntmps29
  go_upto_region 1 with (fail)
  generalize (w.alloc (.cells #[.int .i64 n, .int .i64 S, .int .i64 T, .slice (some ⟨b3, o3, none⟩) (n + 1) c3, .slice a4 m c4, .slice a5 m c5, .slice a6 m c6, .slice a7 m c7, .slice a8 m c8, .func (.func 28) #[] #[.pointer (some ⟨rb, 0, none⟩), .pointer (some ⟨cb, 0, none⟩)]] 61)) = W0 at HK HB ⊢
  generalize w.heap.size = sb at HB ⊢
  have bx := HB.out.cell
  have HX := Lib.hid (Blk.new W0 #[.int .i64 n] 3)
  have HB1 := Lib.hid (HB.out.alloc (.cells #[.int .i64 n] 3))
  have bx1 := HB1.out.cell
  have HK1 := Lib.hid (HK.out.alloc (.cells #[.int .i64 n] 3))
  go_step3
  go_wp2_with fail
  refine (HRP _ _ HX.out).out.mono ?_
  rintro e w2 ⟨db, rfl, hd, hdl, hk2⟩
  have HB2 := Lib.hid (HB1.out.kept hk2)
  have HK2 := Lib.hid (HK1.out.trans hk2)
  have HD := Lib.hid hd
  have HDL : Hid (w.heap.size ≤ db) := Lib.hid (by have := HK1.out.size; omega)
  have HDX : Hid (¬ sb = db) := Lib.hid (by
    intro e
    subst e
    have := (HB2.out.same HD.out).2
    revert this
    decide)
  clear hd hdl hk2 HB HB1 HK HK1 HX bx bx1 HRP
  have HD' : Hid (Blk w2 db (nv (List.replicate n n)).toArray 3) := Lib.hid (by
    have := HD.out
    rwa [show lv (List.replicate n (n : Int)) = nv (List.replicate n n) by simp [lv, nv]] at this)
  have i0 : (0 : Int) ≤ (v : Int) := by omega
  have i1 : (v : Int) < (n : Int) := by omega
  have dc : w2.cell? ⟨db, v, none⟩ = some (.int .i64 ((List.replicate n n).getD v 0 : Nat)) := by rw [HD'.out.cell]; simp only [List.getElem?_toArray]; exact nv_get (by simpa using hvn)
  have df := HD'.out.free v
  clear HD
  go_upto_region 3 with (fail)
  have HD1 : Hid (Blk (w2.setCell ⟨db, v, none⟩ (.int .i64 0)) db (nv ((List.replicate n n).set v 0)).toArray 3) := Lib.hid (nv_set HD'.out v 0)
  have HB3 := Lib.hid (HB2.out.other (p := ⟨db, v, none⟩) HDX.out (.int .i64 0))
  have HK3 : Hid (Kept w (w2.setCell ⟨db, v, none⟩ (.int .i64 0))) := Lib.hid (Kept.set HK2.out HDL.out _)
  generalize (w2.setCell ⟨db, v, none⟩ (.int .i64 0)) = w3 at HD1 HB3 HK3 ⊢
  clear HD' HB2 HK2 dc df
  have HRW : Hid ((w3.alloc (.cells #[.int .i64 v] 3)).ownsRow w3.heap.size 3 1 (.slice (some ⟨w3.heap.size, 0, none⟩) 1 1) 1 (nv [v])) := Lib.hid (World.ownsRow_lit w3 #[.int .i64 v] 1 (Nat.le_refl _) (by decide) rfl)
  have HFS : Hid (FS w sb db w3.heap.size (#[.int .i64 n, .int .i64 S, .int .i64 T, .slice (some ⟨b3, o3, none⟩) (n + 1) c3, .slice a4 m c4, .slice a5 m c5, .slice a6 m c6, .slice a7 m c7, .slice a8 m c8, .func (.func 28) #[] #[.pointer (some ⟨rb, 0, none⟩), .pointer (some ⟨cb, 0, none⟩)]]) ((List.replicate n n).set v 0) [v] w3.heap.size 1 1 (w3.alloc (.cells #[.int .i64 v] 3))) := Lib.hid ⟨HK3.out.alloc _, HB3.out.alloc _, HD1.out.alloc _, HRW.out, by have := HD1.out.lt; omega, HDX.out, HDL.out, HK3.out.size⟩
  go_wp2_with fail
  go_step3
  go_wp2_with fail
  generalize (w3.alloc (.cells #[.int .i64 v] 3)) = w4 at HFS ⊢
  generalize w3.heap.size = Bs at HFS ⊢
  clear HD1 HB3 HK3 HRW HDL
  have HBF : Hid (BF n v (StepB n m ys (goT n ys rs)) ((List.replicate n n).set v 0) [v] 0 (fun _ => False)) := Lib.hid (BF.start _ hvn _ (fun _ h => h))
  go_loopw [6, 7] (fun rx ix wr => ∃ (d row : List Nat) (i rg rl rcp : Nat), rx = .slice (some ⟨rg, 0, none⟩) rl rcp ∧ ix = .int .i64 i ∧ Hid (row.length = rl) ∧ Hid (FS w sb db Bs (#[.int .i64 n, .int .i64 S, .int .i64 T, .slice (some ⟨b3, o3, none⟩) (n + 1) c3, .slice a4 m c4, .slice a5 m c5, .slice a6 m c6, .slice a7 m c7, .slice a8 m c8, .func (.func 28) #[] #[.pointer (some ⟨rb, 0, none⟩), .pointer (some ⟨cb, 0, none⟩)]]) d row rg rl rcp wr) ∧ Hid (BF n v (StepB n m ys (goT n ys rs)) d row i (fun _ => False)) ∧ i ≤ rl ∧ rl ≤ n) (fun _ ix _ => n + 1 - (intOf ix).toNat)
  case atStart => exact ⟨_, [v], 0, Bs, 1, 1, rfl, rfl, Lib.hid rfl, HFS, HBF, by omega, by omega⟩
  case round =>
    clear HFS HBF
    obtain ⟨d, row, i, rg, rl, rcp, rfl, rfl, HRL, HFS, HBF, hi, hrn⟩ := hrel
    by_cases hil : i = rl
    · have hil' : ((i : Int) == (rl : Int)) = true := by simp [hil]
      have HIL := Lib.hid hil
      clear hil
      go_wp2_with fail
      rw [Exit.noGoto_ret]
      go_ret
      exact ⟨db, d, rfl, HFS.out.d, HFS.out.lo, HBF.out.done (by rw [HRL.out]; exact HIL.out), HFS.out.kp⟩
    · have hil' : ((i : Int) == (rl : Int)) = false := by simp; omega
      have hir : i < row.length := by rw [HRL.out]; omega
      obtain ⟨u, hu⟩ : ∃ u, row.getD i 0 = u := ⟨_, rfl⟩
      have hun : u < n := by rw [← hu]; exact HBF.out.rlt _ (by simp [hir])
      have rc0 : wr.cell? ⟨rg, i, none⟩ = some (.int .i64 (u : Nat)) := by rw [HFS.out.rat i hir, hu]
      have HU := Lib.hid hu
      have HIR := Lib.hid hir
      have i2 : (0 : Int) ≤ (i : Int) := by omega
      have i3 : (i : Int) < (rl : Int) := by omega
      have f1 : ∀ w', Kept w w' → w'.cell? ⟨b3, o3 + u, none⟩ = some (.int .i64 (fst ys u : Nat)) ∧ w'.cell? ⟨b3, o3 + (u + 1), none⟩ = some (.int .i64 (fst ys (u + 1) : Nat)) := fun w' k => by
        obtain ⟨b, o, e, h1⟩ := (HCR.out.kept k).r3.at u (by rw [nv_len, firsts_len]; omega)
        obtain ⟨b', o', e', h2⟩ := (HCR.out.kept k).r3.at (u + 1) (by rw [nv_len, firsts_len]; omega)
        cases e
        cases e'
        rw [firsts_get n ys _ (by omega)] at h1 h2
        exact ⟨h1, h2⟩
      have HF1 := Lib.hid f1
      clear f1 hil hu hir
      have hfm : fst ys u ≤ fst ys (u + 1) ∧ fst ys (u + 1) ≤ m := ⟨fst_mono ys (by omega), by have := HG.out.hm; have := fst_mono ys (show u + 1 ≤ n by omega); unfold fst at *; omega⟩
      obtain ⟨q, hq⟩ : ∃ q, fst ys u = q := ⟨_, rfl⟩
      obtain ⟨q', hq'⟩ : ∃ q', fst ys (u + 1) = q' := ⟨_, rfl⟩
      rw [hq, hq'] at HF1 hfm
      have HQ : Hid (fst ys u = q ∧ fst ys (u + 1) = q') := Lib.hid ⟨hq, hq'⟩
      clear hq hq'
      have bx := HFS.out.box.cell
      have fc0 := (HF1.out wr HFS.out.kp).1
      have i4 : (0 : Int) ≤ (u : Int) := by omega
      have i5 : (u : Int) < ((n : Int) + 1) := by omega
      have hw0 : wrap64 ((u : Int) + 1) = ((u + 1 : Nat) : Int) := by unfold wrap64; omega
      have hw1 : IntKind.i64.wrap ((u : Int) + 1) = ((u + 1 : Nat) : Int) := by rw [IntKind.wrap_i64]; omega
      have i6 : ((u + 1 : Nat) : Int) < ((n : Int) + 1) := by omega
      have i7 : (0 : Int) ≤ ((u + 1 : Nat) : Int) := by omega
      go_upto_region 9 with (fail)
      have HB9 : Hid (BF n v (StepB n m ys (goT n ys rs)) d row i (Gone n ys (goT n ys rs) q q)) := Lib.hid (HBF.out.pass (fun x _ h => absurd h (gone_none x)))
      clear bx fc0 HBF
      go_loopw [6, 9] (fun rx ax wr => ∃ (d row : List Nat) (a rg rl rcp : Nat), rx = .slice (some ⟨rg, 0, none⟩) rl rcp ∧ ax = .int .i64 a ∧ Hid (row.length = rl) ∧ Hid (FS w sb db Bs (#[.int .i64 n, .int .i64 S, .int .i64 T, .slice (some ⟨b3, o3, none⟩) (n + 1) c3, .slice a4 m c4, .slice a5 m c5, .slice a6 m c6, .slice a7 m c7, .slice a8 m c8, .func (.func 28) #[] #[.pointer (some ⟨rb, 0, none⟩), .pointer (some ⟨cb, 0, none⟩)]]) d row rg rl rcp wr) ∧ Hid (BF n v (StepB n m ys (goT n ys rs)) d row i (Gone n ys (goT n ys rs) q a)) ∧ Hid (row.getD i 0 = u ∧ i < row.length) ∧ q ≤ a ∧ a ≤ q' ∧ rl ≤ n) (fun _ ax _ => q' - (intOf ax).toNat)
      case atStart => exact ⟨d, row, q, rg, rl, rcp, rfl, rfl, HRL, HFS, HB9, Lib.hid ⟨HU.out, HIR.out⟩, by omega, hfm.1, hrn⟩
      case round =>
        clear HFS HB9 HU HIR HRL i3 rc0
        obtain ⟨d, row, a, rg, rl, rcp, rfl, rfl, HRL, HFS, HBF, HU, ha0, ha1, hrn⟩ := hrel
        have bx := HFS.out.box.cell
        obtain ⟨fc0, fc1⟩ := HF1.out wr HFS.out.kp
        by_cases hlt : a < q'
        · have ham : a < m := by omega
          obtain ⟨x, hx⟩ : ∃ x, hd n ys a = x := ⟨_, rfl⟩
          have hxn : x < n := by rw [← hx]; exact (hd_get HG.out a ham).2
          obtain ⟨b4, o4, rfl, hc4⟩ := (HCR.out.kept HFS.out.kp).r4.at a (by rw [show (hv (enAll n ys)).length = (enAll n ys).length by simp [hv], HG.out.hm]; exact ham)
          rw [(hd_get HG.out a ham).1, hx] at hc4
          have htl : tl ys n a = u := tl_of ys a u (by rw [HQ.out.1]; exact ha0) (by rw [HQ.out.2]; exact hlt) n hun
          have HXA := Lib.hid (And.intro htl hx)
          have hdl := HBF.out.len
          have dc := HFS.out.dat x (by rw [hdl]; exact hxn)
          obtain ⟨dx, hdx⟩ : ∃ y, d.getD x 0 = y := ⟨_, rfl⟩
          rw [hdx] at dc
          have HDX := Lib.hid hdx
          have HDLN := Lib.hid hdl
          have HC := Lib.hid (HGO a)
          have j0 : (a : Int) < (q' : Int) := by omega
          have j1 : (0 : Int) ≤ (a : Int) := by omega
          have j2 : (a : Int) < (m : Int) := by omega
          have j3 : (0 : Int) ≤ (x : Int) := by omega
          have j4 : (x : Int) < (n : Int) := by omega
          have ha2 : (a : Int) ≤ 1000 := by omega
          clear htl hx hdx hdl HGO
          by_cases hdn : dx < n
          · have hbn : decide ((dx : Int) < (n : Int)) = true := by simpa using hdn
            go_upto_region 12 with (fail)
            refine wp_region_kept (by kernel_rfl) (by kernel_rfl) ?_
            repeat (go_big_quiet_step (fail))
            refine wpQuiet_nil ?_
            intro w1 hk1
            have HFS2 := Lib.hid (HFS.out.kept hk1)
            have HBF2 : Hid (BF n v (StepB n m ys (goT n ys rs)) d row i (Gone n ys (goT n ys rs) q (a + 1))) := Lib.hid (HBF.out.pass (fun x' _ h => by
              rcases gone_next h with h | ⟨h, -⟩
              · exact .inl h
              · right
                rw [h, HXA.out.2, HDX.out]
                exact hdn))
            clear hk1 HFS HBF bx fc0 fc1 hc4 dc
            go_wp2_with fail
            go_roundw
            case rel => exact ⟨d, row, a + 1, rg, rl, rcp, rfl, by go_num, HRL, HFS2, HBF2, HU, by omega, by omega, hrn⟩
            case measure => simp [intOf]; omega
          · have hbn : decide ((dx : Int) < (n : Int)) = false := by simp; omega
            obtain ⟨z, hz⟩ : ∃ z, goT n ys rs a = z := ⟨_, rfl⟩
            rw [hz] at HC
            have HZ := Lib.hid hz
            have HFK := Lib.hid HFS.out.kp
            clear hz
            cases z with
            | false =>
              go_upto_region 12 with (fail)
              refine wp_region_kept (by kernel_rfl) (by kernel_rfl) ?_
              repeat (go_big_quiet_step ((go_at_call 28; exact kept_call ((HC.out _ (by omega) (HFK.out.trans (kept_ext _ _))).out))))
              refine wpQuiet_nil ?_
              intro w1 hk1
              have HFS2 := Lib.hid (HFS.out.kept hk1)
              have HBF2 : Hid (BF n v (StepB n m ys (goT n ys rs)) d row i (Gone n ys (goT n ys rs) q (a + 1))) := Lib.hid (HBF.out.pass (fun x' _ h => by
                rcases gone_next h with h | ⟨-, h⟩
                · exact .inl h
                · rw [HZ.out] at h; cases h))
              clear hk1 HFS HBF bx fc0 fc1 hc4 dc HC HFK
              go_wp2_with fail
              go_roundw
              case rel => exact ⟨d, row, a + 1, rg, rl, rcp, rfl, by go_num, HRL, HFS2, HBF2, HU, by omega, by omega, hrn⟩
              case measure => simp [intOf]; omega
            | true =>
              go_upto_region 12 with (fail)
              refine wp_region_kept (by kernel_rfl) (by kernel_rfl) ?_
              repeat (go_big_quiet_step ((go_at_call 28; exact kept_call ((HC.out _ (by omega) (HFK.out.trans (kept_ext _ _))).out))))
              refine wpQuiet_nil ?_
              intro w1 hk1
              have HFS2 := Lib.hid (HFS.out.kept hk1)
              have hpush := HBF.out.push (Q := Gone n ys (goT n ys rs) q (a + 1)) HU.out.2 hxn (by rw [HDX.out]; exact hdn) (by rw [HU.out.1]; exact ⟨a, ham, HXA.out.1, HXA.out.2, HZ.out⟩) (fun x' _ h => by
                rcases gone_next h with h | ⟨h, -⟩
                · exact .inl h
                · exact .inr (by rw [h, HXA.out.2]))
              rw [HU.out.1] at hpush
              obtain ⟨du, hdu⟩ : ∃ y, d.getD u 0 = y := ⟨_, rfl⟩
              have duc := HFS2.out.dat u (by rw [HDLN.out]; exact hun)
              rw [hdu] at hpush duc
              obtain ⟨hp1, hp2⟩ := hpush
              have HBF2 := Lib.hid hp1
              have dxc := HFS2.out.dat x (by rw [HDLN.out]; exact hxn)
              have dxf := HFS2.out.d.free x
              have hd16 : du ≤ 1000 := sml1 hp2 hn16
              have hw2 := wrap_up du hd16
              have hw3 := wrap_up' du hd16
              have HFS3 := Lib.hid (HFS2.out.put x (du + 1))
              clear hk1 HFS HBF bx fc0 fc1 hc4 dc HC HFK hp1 hdu
              go_upto_region 14 with (fail)
              have HFS4 : Hid (FS w sb db Bs (#[.int .i64 n, .int .i64 S, .int .i64 T, .slice (some ⟨b3, o3, none⟩) (n + 1) c3, .slice (some ⟨b4, o4, none⟩) m c4, .slice a5 m c5, .slice a6 m c6, .slice a7 m c7, .slice a8 m c8, .func (.func 28) #[] #[.pointer (some ⟨rb, 0, none⟩), .pointer (some ⟨cb, 0, none⟩)]]) (d.set x (du + 1)) row rg rl rcp (w1.setCell ⟨db, x, none⟩ (.int .i64 ((du : Int) + 1)))) := HFS3
              generalize (w1.setCell ⟨db, x, none⟩ (.int .i64 ((du : Int) + 1))) = w5 at HFS4 ⊢
              clear HFS3 HFS2 dxc dxf duc
              obtain ⟨i0, hi0, hz0, hz1, hz2⟩ := info_parts infoInt
              have hxl : rl ≤ 2000000 := sml2 hrn hn16
              have hbs := World.ownsRow.lt HFS4.out.row rg rfl
              have hbs : Bs ≤ w5.heap.size := Nat.le_of_lt (Nat.lt_of_le_of_lt hbs.1 hbs.2)
              have ho := HFS4.out.row
              as_aux_lemma =>
              go_wp2_with (first | (at_builtin; refine wpList_push rfl _ _ 27 rfl Bs 3 i0 (.int .i64 0) 8 Try.underlying27 hi0 hz0 hz1 hz2 rfl (by decide) _ _ _ rfl ho (.int .i64 (x : Int)) rfl rfl hxl hbs ?_; intro g cap' w' hown hg2; clear hi0 hz0 hz1 hz2 hxl hbs) | fail)
              have HFS5 := Lib.hid (HFS4.out.push hown hg2)
              clear hown hg2 ho HFS4
              go_roundw
              case rel => exact ⟨d.set x (du + 1), row ++ [x], a + 1, g, rl + 1, cap', rfl, by go_num, Lib.hid (by rw [List.length_append, HRL.out]; rfl), HFS5, HBF2, Lib.hid ⟨by have h1 := HU.out.1; have h2 := HU.out.2; rw [List.getD_eq_getElem?_getD] at h1 ⊢; rw [List.getElem?_append_left h2]; exact h1, by have h2 := HU.out.2; rw [List.length_append]; omega⟩, by omega, by omega, by have := HBF2.out.room; rw [List.length_append, HRL.out] at this; exact this⟩
              case measure => simp [intOf]; omega
        · have j0 : ¬ (a : Int) < (q' : Int) := by omega
          have HBF2 : Hid (BF n v (StepB n m ys (goT n ys rs)) d row (i + 1) (fun _ => False)) := Lib.hid (HBF.out.next HU.out.2 (fun x hx hs => by
            rw [HU.out.1] at hs
            obtain ⟨b, hb, h1, h2, h3⟩ := hs
            obtain ⟨t1, t2, t3⟩ := tl_at ys b n (by have := HG.out.hm; unfold fst; omega)
            rw [h1] at t2 t3
            rw [HQ.out.1] at t2
            rw [HQ.out.2] at t3
            exact ⟨b, t2, by omega, h2, h3⟩) (fun _ h => h))
          clear fc0 HBF
          go_wp2_with fail
          go_roundw
          case rel => exact ⟨d, row, i + 1, rg, rl, rcp, rfl, by go_num, HRL, HFS, HBF2, by have := HU.out.2; have := HRL.out; omega, hrn⟩
          case measure => simp [intOf]; omega
end Go.Proofs.Ytoapekkmaajfmaa
