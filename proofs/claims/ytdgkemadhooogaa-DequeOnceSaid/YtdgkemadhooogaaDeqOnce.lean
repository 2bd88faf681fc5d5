/- The law DequeOnce (printed by gen_deq.py). -/
import Derived.Test.YtdgkemadhooogaaOnceM
import Derived.Test.YtdgkemadhooogaaAwake11
import Derived.Test.YtdgkemadhooogaaSame11
import Derived.Test.YtdgkemadhooogaaDeqTo
import Derived.Test.YtdgkemadhooogaaOpen
import Derived.Deep.RegionHeld3
import Derived.Deep.CutRange
import Derived.StillTailTactics
import Derived.Deep.MidRow
import Derived.Deep.MidRow
namespace Go.Proofs.Ytdgkemadhooogaa
set_option linter.unusedVariables false
set_option linter.unusedSimpArgs false
open Go.RowKit
attribute [local go_sem] cell?_ext

theorem rcells_mem {sides : List (Option Sd)} {vals : List Int} {x : List Value} (h : x ∈ rcells sides vals) : x.length = 4 := by
  obtain ⟨i, e⟩ := List.mem_iff_getElem?.1 h
  simp only [rcells, List.getElem?_zipWith] at e
  split at e
  · cases e; exact rcell_len _ _
  · cases e
theorem Mp.kept {w w' : World} {b m : Nat} {h : List Int} {l : List Bool} (q : Mp w b m h l) (k : Kept w w') : Mp w' b m h l := q.upd k (fun f => f)
theorem OS.after {w W W' : World} {B lb bb g sg hb bm mc : Nat} {lv : Array Value} {l : Lay} {tp r : Nat} {nx n : Int} {P G S : List Int} {T : Int} {L xs : List Int} {o : Option Sd} {sides : List (Option Sd)} {vals mh : List Int} {ml : List Bool}
    (h : OS w B lb bb g sg hb lv l tp r nx n P G S T L xs o sides vals W) (hn : n ≤ 999) {i : Nat} {d : Sd} (hd : sides[i]? = some (some d)) {v : Int} (hv : vals[i]? = some v) (hm : Mp W bm mc mh ml) (hbm : bm < B ∧ ¬ bm = g ∧ ¬ bm = sg ∧ ¬ bm = hb) {e : Ending}
    (hE : RunEnd B sg bb g hb i (rcells sides vals) v d.kd d.mb l 0 (kstep tp r d.kd ⟨d.m, d.lo, xs⟩) P G S W e W') :
    e = .returned (.tuple #[]) ∧ ∃ P' G' S' T' L' xs' o', OS w B lb bb g sg hb lv l tp r nx (n + 1) P' G' S' T' L' xs' o' (sides.set i (OwnNew d.kd d.mb (kstep tp r d.kd ⟨d.m, d.lo, xs⟩))) vals W' ∧ Mp W' bm mc mh ml := by
  have hU := hE.upd
  have hB := (h.mach i d hd).2.1
  obtain ⟨h1, P', G', S', T', L', xs', o', h2⟩ := h.stepped hn hd hv hE
  refine ⟨h1, P', G', S', T', L', xs', o', h2, hm.upd hU ?_⟩
  rintro (e | e | e | e | ⟨e, -⟩) <;> omega
def Bgn (nx : Int) (mh : List Int) : Prop := mh.length = 1001 ∧ ∀ v : Nat, 1 ≤ v → (v : Int) ≤ nx → mh.getD v 0 = 1
theorem Bg.bgn {nx : Int} {mc k : Nat} {mh : List Int} (h : Bg nx mc k mh) : Bgn nx mh := ⟨h.1, h.2.2⟩
/-- What is so when nobody is within. -/
structure EndF (nx : Int) (tp r : Nat) (xs : List Int) (T : Int) (P G Z L : List Int) : Prop where
  row : Row tp r xs T L
  fil : P.filter (fun v => !(G.contains v)) = L
  gn : G.Nodup
  gin : ∀ x ∈ G, x ∈ P ∧ 1 ≤ x ∧ x ≤ nx
  zs : Z.Pairwise (· < ·)
  pn : P.Nodup
  pin : ∀ x ∈ P, 1 ≤ x ∧ x ≤ nx
  nb : nx ≤ 1000
  lens : P.length ≤ 2000 ∧ G.length ≤ 2000 ∧ Z.length ≤ 2000
theorem EndF.num {nx : Int} {tp r : Nat} {xs : List Int} {T : Int} {P G Z L : List Int} (h : EndF nx tp r xs T P G Z L) {v : Int} (hv : v ∈ P) : ∃ n : Nat, v = (n : Int) ∧ 1 ≤ n ∧ n ≤ 1000 ∧ (n : Int) ≤ nx := by
  have h1 := h.pin v hv
  have h2 := h.nb
  exact ⟨v.toNat, by omega, by omega, by omega, by omega⟩
theorem EndF.below {nx : Int} {tp r : Nat} {xs : List Int} {T : Int} {P G Z L : List Int} (h : EndF nx tp r xs T P G Z L) {k : Nat} (hk : k + 1 < Z.length) {a b : Int} (ha : Z[k]? = some a) (hb : Z[k + 1]? = some b) : a < b := by
  obtain ⟨h1, rfl⟩ := List.getElem?_eq_some_iff.1 ha
  obtain ⟨h2, rfl⟩ := List.getElem?_eq_some_iff.1 hb
  exact List.pairwise_iff_getElem.1 h.zs k (k + 1) h1 h2 (by omega)
theorem iv_at {X : List Int} {k : Nat} {v : Int} (h : X[k]? = some v) : (iv X)[k]? = some (.int .i64 v) := by simp [iv, h]
theorem Rd.one {w : World} {a : Option Addr} {X : List Int} (h : Rd w a (iv X)) {k : Nat} {v : Int} (hv : X[k]? = some v) : ∃ b off, a = some ⟨b, off, none⟩ ∧ w.cell? ⟨b, off + k, none⟩ = some (.int .i64 v) := by
  obtain ⟨b, off, h1, h2⟩ := h.at k (by simpa [iv] using (List.getElem?_eq_some_iff.1 hv).1)
  exact ⟨b, off, h1, by rw [h2, iv_at hv]⟩
theorem OS.fin {w W : World} {B lb bb g sg hb : Nat} {lv : Array Value} {l : Lay} {tp r : Nat} {nx n : Int} {P G S : List Int} {T : Int} {L xs : List Int} {o : Option Sd} {sides : List (Option Sd)} {vals : List Int}
    (h : OS w B lb bb g sg hb lv l tp r nx n P G S T L xs o sides vals W) (hn : n ≤ 1000) (hx : sides[0]? = some none) :
    ∃ ap cp ag cg az cz, Blk W hb #[.slice ap P.length cp, .slice ag G.length cg, .slice az S.length cz] 31 ∧ Rd W ap (iv P) ∧ Rd W ag (iv G) ∧ Rd W az (iv S) ∧ EndF nx tp r xs T P G S L := by
  obtain ⟨vp, vg, vs, hl⟩ := h.log
  obtain ⟨ap, cp, rfl, r1⟩ := Rd.owns hl.p
  obtain ⟨ag, cg, rfl, r2⟩ := Rd.owns hl.g
  obtain ⟨az, cz, rfl, r3⟩ := Rd.owns hl.s
  have ho : o = none := by
    have := h.di.ho
    rw [hx] at this
    exact (Option.some.inj this).symm
  have hd := h.di
  rw [ho] at hd
  obtain ⟨e1, e2, e3, e4, e5⟩ := hd.end_ hn
  exact ⟨ap, cp, ag, cg, az, cz, hl.blk, r1, r2, r3, e1, e2, e3, e4, e5, rising_nodup h.di.log.srt, h.di.log.le, by have := h.di.bd; omega, h.di.lens hn⟩
theorem mk_runners (w : World) : (Instr.makeSlice 28 (.int .i64 5) (.int .i64 5)).run Try.prog w = .ok (.slice (some ⟨w.heap.size, 0, none⟩) 5 5) (w.alloc (.cells #[.pointer none, .pointer none, .pointer none, .int .i64 0, .pointer none, .pointer none, .pointer none, .int .i64 0, .pointer none, .pointer none, .pointer none, .int .i64 0, .pointer none, .pointer none, .pointer none, .int .i64 0, .pointer none, .pointer none, .pointer none, .int .i64 0] 40)) := by kernel_rfl
theorem op_of2 {e : List Value} (hf : fits [some .u8, some .u8, some .i64] e) : ∃ a b c, e = [.int .u8 a, .int .u8 b, .int .i64 c] ∧ 0 ≤ a ∧ a ≤ 255 ∧ 0 ≤ b ∧ b ≤ 255 := by
  obtain ⟨x1, u1, e1, h1, f1⟩ := fits_int hf
  obtain ⟨x2, u2, e2, h2, f2⟩ := fits_int f1
  obtain ⟨x3, u3, e3, h3, f3⟩ := fits_int f2
  exact ⟨x1, x2, x3, by rw [e1, e2, e3, fits_nil f3], (bounds_u8 h1).1, (bounds_u8 h1).2, (bounds_u8 h2).1, (bounds_u8 h2).2⟩
set_option maxRecDepth 100000 in
set_option maxHeartbeats 16000000 in
theorem dequeOnce_core (vts : Int) (sa : Option Addr) (cap0 : Nat) (els : List (List Value)) (w : World) (hv0 : 0 ≤ vts) (hv1 : vts ≤ 255) (hlen : els.length ≤ cap0) (hmost : cap0 ≤ maxLen)
    (hcells : els.length = 0 ∨ ∃ b off, sa = some ⟨b, off, none⟩ ∧ ∀ i (h : i < els.length) j v, els[i][j]? = some v → w.cell? ⟨b, off + i * 3 + j, none⟩ = some v) (hfit : ∀ e ∈ els, fits [some .u8, some .u8, some .i64] e) :
    Calls Try.prog 3 #[.int .u8 vts, .slice sa els.length cap0] w fun e w' => e = .returned (.bool true) ∧ Kept w w' := by
  have HZ14 : Hid ((Try.prog.info? 24).map (·.size) = some 14) := Lib.hid (by kernel_rfl)
  have HZo : Hid ((Try.prog.info? 51).map (·.size) = some 21) := Lib.hid (by kernel_rfl)
  have HZt : Hid ((Try.prog.info? 45).map (·.size) = some 22) := Lib.hid (by kernel_rfl)
  have HZu : Hid ((Try.prog.info? 48).map (·.size) = some 22) := Lib.hid (by kernel_rfl)
  obtain ⟨r, S, hS, hS2, hrm, hr13, hvr, hr8, htp⟩ := plan_geo (1 + vts % 16) 1 (by omega) (by omega)
  obtain ⟨tp, hG0, htp0, hfp⟩ := htp 0 (by omega) (by omega)
  obtain ⟨l, hl⟩ : ∃ l, planOf (1 + vts % 16) 0 1 = l := ⟨_, rfl⟩
  have HB := fun w => Lib.hid (bank_any (1 + vts % 16) 1 w (by unfold May; omega) l hl S (by rw [← hl]; exact hS) hS2)
  rw [hl] at hrm hG0
  have HDI0 := Lib.hid (DI.start hfp)
  have HG := Lib.hid hG0
  have HNU := fun v w => Lib.hid (NewPush_any l 0 v w)
  have HNP := fun w => Lib.hid (NewPop_any l 0 w)
  have HNS := fun w => Lib.hid (NewSteal_any l 0 w)
  have HH0 := fun w bb g xs T L n (hb : Bnk w bb g xs) (hr : Row tp r xs T L) hn => Lib.hid (Held_row hG0 hb hr n hn)
  clear hS hS2 hrm hr13 hvr hr8 htp hG0 htp0 hfp hl
  obtain ⟨verts, arcs, workers, room, res, lex, hh, flag, pending, ask, count, sense, deques, size⟩ := l
  simp only [Lay.val, Lay.vals, PL] at HB HNU HNP HNS HH0
  have hq0 : 0 ≤ vts % 16 := Int.emod_nonneg _ (by omega)
  have hq1 : vts % 16 < 16 := Int.emod_lt_of_pos _ (by omega)
  have hwv : wrap64 (1 + vts % 16) = 1 + vts % 16 := by unfold wrap64; omega
  obtain ⟨M, hM⟩ : ∃ M, M = min els.length 400 := ⟨_, rfl⟩
  have hM1 : M ≤ els.length := by omega
  have hM2 : M ≤ 400 := by omega
  have hsl := fun w => run_take (P := Try.prog) Try.underlying22 (size := 3) (by kernel_rfl) sa els.length cap0 M (by omega) w
  have hif1 : (if (400 : Int) < (els.length : Int) then (400 : Int) else (els.length : Int)) = (M : Int) := by split <;> omega
  have hif2 : (if 400 < els.length then (400 : Int) else (els.length : Int)) = (M : Int) := by split <;> omega
  unfold maxLen at hmost
  have HC := Lib.hid hcells
  have HF := Lib.hid hfit
  have hms := mk_runners
  have hmm := @run_makeMap Try.prog
  clear hcells hfit hM
  go_enter Try.func3, Try.ntmps3
  go_wp2_with fail
  refine (HB _).out.mono ?_
  rintro e w0 ⟨bb, g, rfl, hb, h1, h2, hk⟩
  have hA := (Upd.refl (fun _ => False) w0).alloc (.cells #[.int .i64 verts, .int .i64 arcs, .int .i64 workers, .int .i64 room, .int .i64 res, .int .i64 lex, .int .i64 hh, .int .i64 flag, .int .i64 pending, .int .i64 ask, .int .i64 count, .int .i64 sense, .int .i64 deques, .int .i64 size] 24)
  have D0 : Hid (DA w (w0.alloc (.cells #[.int .i64 verts, .int .i64 arcs, .int .i64 workers, .int .i64 room, .int .i64 res, .int .i64 lex, .int .i64 hh, .int .i64 flag, .int .i64 pending, .int .i64 ask, .int .i64 count, .int .i64 sense, .int .i64 deques, .int .i64 size] 24)).heap.size w0.heap.size bb g #[.int .i64 verts, .int .i64 arcs, .int .i64 workers, .int .i64 room, .int .i64 res, .int .i64 lex, .int .i64 hh, .int .i64 flag, .int .i64 pending, .int .i64 ask, .int .i64 count, .int .i64 sense, .int .i64 deques, .int .i64 size] (List.replicate S 0) (w0.alloc (.cells #[.int .i64 verts, .int .i64 arcs, .int .i64 workers, .int .i64 room, .int .i64 res, .int .i64 lex, .int .i64 hh, .int .i64 flag, .int .i64 pending, .int .i64 ask, .int .i64 count, .int .i64 sense, .int .i64 deques, .int .i64 size] 24))) := Lib.hid (by
    have h3 := hb.head.lt
    have h4 := hb.row.lt
    have h5 := hk.size
    have h6 : (w0.alloc (.cells #[.int .i64 verts, .int .i64 arcs, .int .i64 workers, .int .i64 room, .int .i64 res, .int .i64 lex, .int .i64 hh, .int .i64 flag, .int .i64 pending, .int .i64 ask, .int .i64 count, .int .i64 sense, .int .i64 deques, .int .i64 size] 24)).heap.size = w0.heap.size + 1 := World.size_alloc _ _
    exact ⟨hk.trans hA, Blk.new _ _ _, hb.kept hA, by omega⟩)
  clear hb h1 h2 hk hA HB
  simp only [Lay.val, Lay.vals]
  go_upto_region 2 with (fail)
  generalize (w0.alloc (.cells #[.int .i64 verts, .int .i64 arcs, .int .i64 workers, .int .i64 room, .int .i64 res, .int .i64 lex, .int .i64 hh, .int .i64 flag, .int .i64 pending, .int .i64 ask, .int .i64 count, .int .i64 sense, .int .i64 deques, .int .i64 size] 24)) = W1 at D0 ⊢
  generalize w0.heap.size = lb at D0 ⊢
  generalize W1.heap.size = B0 at D0
  clear hq0 hq1 hwv
  go_upto_region 8 with (fail)
  clear hms hmm
  have HZ0 : Hid ((((W1.alloc (.cells #[.pointer none, .pointer none, .pointer none, .int .i64 0, .pointer none, .pointer none, .pointer none, .int .i64 0, .pointer none, .pointer none, .pointer none, .int .i64 0, .pointer none, .pointer none, .pointer none, .int .i64 0, .pointer none, .pointer none, .pointer none, .int .i64 0] 40)).alloc (.cells #[.slice none 0 0, .slice none 0 0, .slice none 0 0] 31)).alloc (.map #[] 0)).heap.size = W1.heap.size + 1 + 1 + 1 ∧ ((W1.alloc (.cells #[.pointer none, .pointer none, .pointer none, .int .i64 0, .pointer none, .pointer none, .pointer none, .int .i64 0, .pointer none, .pointer none, .pointer none, .int .i64 0, .pointer none, .pointer none, .pointer none, .int .i64 0, .pointer none, .pointer none, .pointer none, .int .i64 0] 40)).alloc (.cells #[.slice none 0 0, .slice none 0 0, .slice none 0 0] 31)).heap.size = W1.heap.size + 1 + 1 ∧ (W1.alloc (.cells #[.pointer none, .pointer none, .pointer none, .int .i64 0, .pointer none, .pointer none, .pointer none, .int .i64 0, .pointer none, .pointer none, .pointer none, .int .i64 0, .pointer none, .pointer none, .pointer none, .int .i64 0, .pointer none, .pointer none, .pointer none, .int .i64 0] 40)).heap.size = W1.heap.size + 1) := Lib.hid (by
    have s1 := World.size_alloc W1 (.cells #[.pointer none, .pointer none, .pointer none, .int .i64 0, .pointer none, .pointer none, .pointer none, .int .i64 0, .pointer none, .pointer none, .pointer none, .int .i64 0, .pointer none, .pointer none, .pointer none, .int .i64 0, .pointer none, .pointer none, .pointer none, .int .i64 0] 40)
    have s2 := World.size_alloc (W1.alloc (.cells #[.pointer none, .pointer none, .pointer none, .int .i64 0, .pointer none, .pointer none, .pointer none, .int .i64 0, .pointer none, .pointer none, .pointer none, .int .i64 0, .pointer none, .pointer none, .pointer none, .int .i64 0, .pointer none, .pointer none, .pointer none, .int .i64 0] 40)) (.cells #[.slice none 0 0, .slice none 0 0, .slice none 0 0] 31)
    have s3 := World.size_alloc ((W1.alloc (.cells #[.pointer none, .pointer none, .pointer none, .int .i64 0, .pointer none, .pointer none, .pointer none, .int .i64 0, .pointer none, .pointer none, .pointer none, .int .i64 0, .pointer none, .pointer none, .pointer none, .int .i64 0, .pointer none, .pointer none, .pointer none, .int .i64 0] 40)).alloc (.cells #[.slice none 0 0, .slice none 0 0, .slice none 0 0] 31)) (.map #[] 0)
    omega)
  have HQ1 : Hid (Kept (W1.alloc (.cells #[.pointer none, .pointer none, .pointer none, .int .i64 0, .pointer none, .pointer none, .pointer none, .int .i64 0, .pointer none, .pointer none, .pointer none, .int .i64 0, .pointer none, .pointer none, .pointer none, .int .i64 0, .pointer none, .pointer none, .pointer none, .int .i64 0] 40)) (((W1.alloc (.cells #[.pointer none, .pointer none, .pointer none, .int .i64 0, .pointer none, .pointer none, .pointer none, .int .i64 0, .pointer none, .pointer none, .pointer none, .int .i64 0, .pointer none, .pointer none, .pointer none, .int .i64 0, .pointer none, .pointer none, .pointer none, .int .i64 0] 40)).alloc (.cells #[.slice none 0 0, .slice none 0 0, .slice none 0 0] 31)).alloc (.map #[] 0))) := Lib.hid (((Upd.refl (fun _ => False) (W1.alloc (.cells #[.pointer none, .pointer none, .pointer none, .int .i64 0, .pointer none, .pointer none, .pointer none, .int .i64 0, .pointer none, .pointer none, .pointer none, .int .i64 0, .pointer none, .pointer none, .pointer none, .int .i64 0, .pointer none, .pointer none, .pointer none, .int .i64 0] 40))).alloc (.cells #[.slice none 0 0, .slice none 0 0, .slice none 0 0] 31)).alloc (.map #[] 0))
  have HQ2 : Hid (Kept W1 (((W1.alloc (.cells #[.pointer none, .pointer none, .pointer none, .int .i64 0, .pointer none, .pointer none, .pointer none, .int .i64 0, .pointer none, .pointer none, .pointer none, .int .i64 0, .pointer none, .pointer none, .pointer none, .int .i64 0, .pointer none, .pointer none, .pointer none, .int .i64 0] 40)).alloc (.cells #[.slice none 0 0, .slice none 0 0, .slice none 0 0] 31)).alloc (.map #[] 0))) := Lib.hid ((((Upd.refl (fun _ => False) W1).alloc (.cells #[.pointer none, .pointer none, .pointer none, .int .i64 0, .pointer none, .pointer none, .pointer none, .int .i64 0, .pointer none, .pointer none, .pointer none, .int .i64 0, .pointer none, .pointer none, .pointer none, .int .i64 0, .pointer none, .pointer none, .pointer none, .int .i64 0] 40)).alloc (.cells #[.slice none 0 0, .slice none 0 0, .slice none 0 0] 31)).alloc (.map #[] 0))
  have HQ3 : Hid (Kept ((W1.alloc (.cells #[.pointer none, .pointer none, .pointer none, .int .i64 0, .pointer none, .pointer none, .pointer none, .int .i64 0, .pointer none, .pointer none, .pointer none, .int .i64 0, .pointer none, .pointer none, .pointer none, .int .i64 0, .pointer none, .pointer none, .pointer none, .int .i64 0] 40)).alloc (.cells #[.slice none 0 0, .slice none 0 0, .slice none 0 0] 31)) (((W1.alloc (.cells #[.pointer none, .pointer none, .pointer none, .int .i64 0, .pointer none, .pointer none, .pointer none, .int .i64 0, .pointer none, .pointer none, .pointer none, .int .i64 0, .pointer none, .pointer none, .pointer none, .int .i64 0, .pointer none, .pointer none, .pointer none, .int .i64 0] 40)).alloc (.cells #[.slice none 0 0, .slice none 0 0, .slice none 0 0] 31)).alloc (.map #[] 0))) := Lib.hid ((Upd.refl (fun _ => False) ((W1.alloc (.cells #[.pointer none, .pointer none, .pointer none, .int .i64 0, .pointer none, .pointer none, .pointer none, .int .i64 0, .pointer none, .pointer none, .pointer none, .int .i64 0, .pointer none, .pointer none, .pointer none, .int .i64 0, .pointer none, .pointer none, .pointer none, .int .i64 0] 40)).alloc (.cells #[.slice none 0 0, .slice none 0 0, .slice none 0 0] 31))).alloc (.map #[] 0))
  have HR0 : Hid (Rows (((W1.alloc (.cells #[.pointer none, .pointer none, .pointer none, .int .i64 0, .pointer none, .pointer none, .pointer none, .int .i64 0, .pointer none, .pointer none, .pointer none, .int .i64 0, .pointer none, .pointer none, .pointer none, .int .i64 0, .pointer none, .pointer none, .pointer none, .int .i64 0] 40)).alloc (.cells #[.slice none 0 0, .slice none 0 0, .slice none 0 0] 31)).alloc (.map #[] 0)) W1.heap.size 4 40 (rcells (List.replicate 5 none) (List.replicate 5 0))) := Lib.hid (Rows.kept ⟨Blk.new W1 #[.pointer none, .pointer none, .pointer none, .int .i64 0, .pointer none, .pointer none, .pointer none, .int .i64 0, .pointer none, .pointer none, .pointer none, .int .i64 0, .pointer none, .pointer none, .pointer none, .int .i64 0, .pointer none, .pointer none, .pointer none, .int .i64 0] 40, fun x hx => rcells_mem hx⟩ HQ1.out)
  have HL0 : Hid (Blk (((W1.alloc (.cells #[.pointer none, .pointer none, .pointer none, .int .i64 0, .pointer none, .pointer none, .pointer none, .int .i64 0, .pointer none, .pointer none, .pointer none, .int .i64 0, .pointer none, .pointer none, .pointer none, .int .i64 0, .pointer none, .pointer none, .pointer none, .int .i64 0] 40)).alloc (.cells #[.slice none 0 0, .slice none 0 0, .slice none 0 0] 31)).alloc (.map #[] 0)) (W1.heap.size + 1) #[.slice none 0 0, .slice none 0 0, .slice none 0 0] 31) := Lib.hid (by have h := (Blk.new (W1.alloc (.cells #[.pointer none, .pointer none, .pointer none, .int .i64 0, .pointer none, .pointer none, .pointer none, .int .i64 0, .pointer none, .pointer none, .pointer none, .int .i64 0, .pointer none, .pointer none, .pointer none, .int .i64 0, .pointer none, .pointer none, .pointer none, .int .i64 0] 40)) #[.slice none 0 0, .slice none 0 0, .slice none 0 0] 31).kept HQ3.out; rw [HZ0.out.2.2] at h; exact h)
  have HMS0 : Hid (Mp (((W1.alloc (.cells #[.pointer none, .pointer none, .pointer none, .int .i64 0, .pointer none, .pointer none, .pointer none, .int .i64 0, .pointer none, .pointer none, .pointer none, .int .i64 0, .pointer none, .pointer none, .pointer none, .int .i64 0, .pointer none, .pointer none, .pointer none, .int .i64 0] 40)).alloc (.cells #[.slice none 0 0, .slice none 0 0, .slice none 0 0] 31)).alloc (.map #[] 0)) (W1.heap.size + 1 + 1) 0 (List.replicate 1001 0) (List.replicate 1001 false)) := Lib.hid (by have h := Mp.new ((W1.alloc (.cells #[.pointer none, .pointer none, .pointer none, .int .i64 0, .pointer none, .pointer none, .pointer none, .int .i64 0, .pointer none, .pointer none, .pointer none, .int .i64 0, .pointer none, .pointer none, .pointer none, .int .i64 0, .pointer none, .pointer none, .pointer none, .int .i64 0] 40)).alloc (.cells #[.slice none 0 0, .slice none 0 0, .slice none 0 0] 31)) 1001; rw [HZ0.out.2.1] at h; exact h)
  have TS0 : Hid (OS w (((W1.alloc (.cells #[.pointer none, .pointer none, .pointer none, .int .i64 0, .pointer none, .pointer none, .pointer none, .int .i64 0, .pointer none, .pointer none, .pointer none, .int .i64 0, .pointer none, .pointer none, .pointer none, .int .i64 0, .pointer none, .pointer none, .pointer none, .int .i64 0] 40)).alloc (.cells #[.slice none 0 0, .slice none 0 0, .slice none 0 0] 31)).alloc (.map #[] 0)).heap.size lb bb g W1.heap.size (W1.heap.size + 1) #[.int .i64 verts, .int .i64 arcs, .int .i64 workers, .int .i64 room, .int .i64 res, .int .i64 lex, .int .i64 hh, .int .i64 flag, .int .i64 pending, .int .i64 ask, .int .i64 count, .int .i64 sense, .int .i64 deques, .int .i64 size] (⟨verts, arcs, workers, room, res, lex, hh, flag, pending, ask, count, sense, deques, size⟩ : Lay) tp r 0 0 [] [] [] 0 [] (List.replicate S 0) none (List.replicate 5 none) (List.replicate 5 0) (((W1.alloc (.cells #[.pointer none, .pointer none, .pointer none, .int .i64 0, .pointer none, .pointer none, .pointer none, .int .i64 0, .pointer none, .pointer none, .pointer none, .int .i64 0, .pointer none, .pointer none, .pointer none, .int .i64 0, .pointer none, .pointer none, .pointer none, .int .i64 0] 40)).alloc (.cells #[.slice none 0 0, .slice none 0 0, .slice none 0 0] 31)).alloc (.map #[] 0))) := Lib.hid (by
    have n := D0.out.nz
    have z := HZ0.out
    have k1 := D0.out.l.lt
    have k2 := D0.out.b.head.lt
    have k3 := D0.out.b.row.lt
    have k4 := D0.out.kp.size
    exact ⟨⟨D0.out.kp.trans HQ2.out, D0.out.l.kept HQ2.out, D0.out.b.kept HQ2.out, by omega⟩, HR0.out, ⟨_, _, _, LogB.start HL0.out (by omega)⟩, HDI0.out, List.length_replicate, fun i d hd => by have := List.mem_replicate.1 (List.mem_of_getElem? hd); exact absurd this.2 (by simp), fun i j d d' hd => by have := List.mem_replicate.1 (List.mem_of_getElem? hd); exact absurd this.2 (by simp), by omega, by omega⟩)
  have HBM : Hid (W1.heap.size + 1 + 1 < (((W1.alloc (.cells #[.pointer none, .pointer none, .pointer none, .int .i64 0, .pointer none, .pointer none, .pointer none, .int .i64 0, .pointer none, .pointer none, .pointer none, .int .i64 0, .pointer none, .pointer none, .pointer none, .int .i64 0, .pointer none, .pointer none, .pointer none, .int .i64 0] 40)).alloc (.cells #[.slice none 0 0, .slice none 0 0, .slice none 0 0] 31)).alloc (.map #[] 0)).heap.size ∧ w.heap.size ≤ W1.heap.size + 1 + 1 ∧ ¬ W1.heap.size + 1 + 1 = lb ∧ ¬ W1.heap.size + 1 + 1 = bb ∧ ¬ W1.heap.size + 1 + 1 = g ∧ ¬ W1.heap.size + 1 + 1 = W1.heap.size ∧ ¬ W1.heap.size + 1 + 1 = W1.heap.size + 1) := Lib.hid (by
    have z := HZ0.out
    have k1 := D0.out.l.lt
    have k2 := D0.out.b.head.lt
    have k3 := D0.out.b.row.lt
    have k4 := D0.out.kp.size
    omega)
  clear HQ1 HQ2 HQ3 HR0 HL0 HZ0 D0 HDI0
  generalize (((W1.alloc (.cells #[.pointer none, .pointer none, .pointer none, .int .i64 0, .pointer none, .pointer none, .pointer none, .int .i64 0, .pointer none, .pointer none, .pointer none, .int .i64 0, .pointer none, .pointer none, .pointer none, .int .i64 0, .pointer none, .pointer none, .pointer none, .int .i64 0] 40)).alloc (.cells #[.slice none 0 0, .slice none 0 0, .slice none 0 0] 31)).alloc (.map #[] 0)) = Wz at TS0 HMS0 HBM ⊢
  generalize W1.heap.size + 1 + 1 = bm at HMS0 HBM ⊢
  generalize W1.heap.size + 1 = hb at TS0 HBM ⊢
  generalize W1.heap.size = sg at TS0 HBM ⊢
  generalize Wz.heap.size = B at TS0 HBM
  go_wp2_with fail
  clear hsl hif1 hif2
  go_loopw [10, 47] (fun vx cx wr => ∃ (k mc : Nat) (nx : Int) (P G Z : List Int) (tt : Int) (L xs : List Int) (o : Option Sd) (sides : List (Option Sd)) (vals : List Int) (mh : List Int) (ml : List Bool), vx = .int .i64 nx ∧ cx = .int .i64 k ∧ k ≤ M ∧ Hid (OS w B lb bb g sg hb #[.int .i64 verts, .int .i64 arcs, .int .i64 workers, .int .i64 room, .int .i64 res, .int .i64 lex, .int .i64 hh, .int .i64 flag, .int .i64 pending, .int .i64 ask, .int .i64 count, .int .i64 sense, .int .i64 deques, .int .i64 size] (⟨verts, arcs, workers, room, res, lex, hh, flag, pending, ask, count, sense, deques, size⟩ : Lay) tp r nx (2 * (k : Int)) P G Z tt L xs o sides vals wr) ∧ Hid (Mp wr bm mc mh ml) ∧ Hid (Bg nx mc k mh)) (fun _ cx _ => M - (intOf cx).toNat)
  case atStart => exact ⟨0, 0, 0, _, _, _, _, _, _, _, _, _, _, _, rfl, rfl, by omega, TS0, HMS0, Lib.hid Bg.start⟩
  case round =>
    obtain ⟨k, mc, nx, P, G, Z, tt, L, xs, o, sides, vals, mh, ml, rfl, rfl, hk, T0, HMP0, HBG⟩ := hrel
    clear TS0 HMS0
    by_cases hlt : k < M
    · obtain ⟨sb0, so, rfl, hcs⟩ := HC.out.resolve_left (by omega)
      obtain ⟨who, wh, v, hel, hu0, hu1, hw0, hw1⟩ := op_of2 (HF.out (els[k]'(by omega)) (List.getElem_mem _))
      have hc := fun q v (h : (els[k]'(by omega))[q]? = some v) => (T0.out.da.kp.cells _ (by rw [hcs k (by omega) q v h]; rfl) (fun f => f)).trans (hcs k (by omega) q v h)
      rw [hel] at hc
      have c0 : wr.cell? ⟨sb0, so + k * 3, none⟩ = some (.int .u8 who) := hc 0 _ rfl
      have c1 : wr.cell? ⟨sb0, so + k * 3 + 1, none⟩ = some (.int .u8 wh) := hc 1 _ rfl
      have c2 : wr.cell? ⟨sb0, so + k * 3 + 2, none⟩ = some (.int .i64 v) := hc 2 _ rfl
      have hA := (Upd.refl (fun _ => False) wr).alloc (.cells #[.int .u8 who, .int .u8 wh, .int .i64 v] 34)
      have T1 := Lib.hid (T0.out.kept hA)
      have HMP := Lib.hid (HMP0.out.kept hA)
      have X1 := Lib.hid (Blk.new wr #[.int .u8 who, .int .u8 wh, .int .i64 v] 34)
      obtain ⟨i, hi⟩ : ∃ i : Nat, who % 5 = (i : Int) := ⟨(who % 5).toNat, by have := Int.emod_nonneg who (show (5 : Int) ≠ 0 by omega); omega⟩
      have hi5 : i < 5 := by have := Int.emod_lt_of_pos who (show (0 : Int) < 5 by omega); omega
      obtain ⟨x, hx⟩ : ∃ x, sides[i]? = some x := ⟨_, List.getElem?_eq_getElem (by rw [T0.out.di.len]; exact hi5)⟩
      obtain ⟨vi, hvi⟩ : ∃ x, vals[i]? = some x := ⟨_, List.getElem?_eq_getElem (by rw [T0.out.vl]; exact hi5)⟩
      have HX := Lib.hid hx
      have HV := Lib.hid hvi
      have i1 : (0 : Int) ≤ (k : Int) := by omega
      have i2 : (k : Int) < (M : Int) := by omega
      clear hc hel hcs hA T0 HMP0 hx hvi
      as_aux_lemma =>
      go_upto_region 12 with (fail)
      clear c0 c1 c2 i1 i2 hi
      generalize (wr.alloc (.cells #[.int .u8 who, .int .u8 wh, .int .i64 v] 34)) = Wa at T1 X1 HMP ⊢
      generalize wr.heap.size = ob at X1 ⊢
      have hi50 : (i : Int) < 5 := by omega
      go_wp2_with fail
      refine (busy_any x T1.out.rows (rcells_at HX.out HV.out) rfl).mono ?_
      rintro e w5 ⟨rfl, rfl⟩
      cases x with
      | some d =>
        as_aux_lemma =>
        have HSI := HX
        have HVI := HV
        clear X1
        have HSS := Lib.hid (rstep_any HG.out T1.out (by omega) (i := i) (f := i * 4) (d := d) HSI.out rfl HVI.out)
        have hi50 : (i : Int) < 5 := by omega
        go_wp2_with fail
        refine HSS.out.mono ?_
        rintro e w6 hE
        obtain ⟨rfl, P', G', Z', tt', L', xs', o', hO, hM⟩ := T1.out.after (by omega) HSI.out HVI.out HMP.out (by have := HBM.out; omega) hE
        have T9 := Lib.hid (hO.mono (m := 2 * ((k + 1 : Nat) : Int)) (by omega))
        have HM9 := Lib.hid hM
        clear hO hM hE HSS T1 HMP HSI HVI hi50
        go_wp2_with fail
        go_roundw
        case rel => exact ⟨k + 1, _, _, _, _, _, _, _, _, _, _, _, _, _, rfl, by go_num, by omega, T9, HM9, Lib.hid HBG.out.on⟩
        case measure => simp [intOf]; omega
      | none =>
        have x1 : Wa.cell? ⟨ob, 1, none⟩ = some (.int .u8 wh) := X1.out.cell 1
        clear X1
        by_cases hi0 : 0 < i
        · as_aux_lemma =>
          have j1 : (0 : Int) < (i : Int) := by omega
          have j2 : decide ((0 : Int) < (i : Int)) = true := by simpa using j1
          clear x1
          have hra := Blk.range T1.out.da.l
          go_wp2_with (first | (refine wpList_load_mid rfl _ _ rfl lb 0 rfl [.int .i64 verts, .int .i64 arcs, .int .i64 workers, .int .i64 room, .int .i64 res, .int .i64 lex, .int .i64 hh, .int .i64 flag, .int .i64 pending, .int .i64 ask, .int .i64 count, .int .i64 sense, .int .i64 deques, .int .i64 size] _ hra Try.underlying24 rfl HZ14.out ?_) | fail)
          refine (HNS _).out.mono ?_
          rintro e w3 ⟨rfl, hk⟩
          have hZ := Blk.new w3 #[.int .i64 0, .int .i64 0, .int .i64 0, .int .i64 0, .int .i64 0, .int .i64 0, .int .i64 0, .int .i64 0, .int .i64 0, .int .i64 0, .int .i64 0, .int .i64 0, .int .i64 0, .int .i64 0, .int .i64 0, .int .i64 0, .int .i64 0, .int .i64 0, .int .i64 0, .bool false, .bool false, .bool false] 45
          have hth := Blk.there hZ 22 rfl
          obtain ⟨W4, hW4⟩ : ∃ W4, (w3.alloc (.cells #[.int .i64 0, .int .i64 0, .int .i64 0, .int .i64 0, .int .i64 0, .int .i64 0, .int .i64 0, .int .i64 0, .int .i64 0, .int .i64 0, .int .i64 0, .int .i64 0, .int .i64 0, .int .i64 0, .int .i64 0, .int .i64 0, .int .i64 0, .int .i64 0, .int .i64 0, .bool false, .bool false, .bool false] 45)).setCells w3.heap.size 0 [.int .i64 verts, .int .i64 arcs, .int .i64 workers, .int .i64 room, .int .i64 res, .int .i64 lex, .int .i64 hh, .int .i64 flag, .int .i64 pending, .int .i64 ask, .int .i64 count, .int .i64 sense, .int .i64 deques, .int .i64 size, .int .i64 0, .int .i64 0, .int .i64 0, .int .i64 0, .int .i64 0, .bool false, .bool false, .bool false] = W4 := ⟨_, rfl⟩
          have hB4 : Blk W4 w3.heap.size #[.int .i64 verts, .int .i64 arcs, .int .i64 workers, .int .i64 room, .int .i64 res, .int .i64 lex, .int .i64 hh, .int .i64 flag, .int .i64 pending, .int .i64 ask, .int .i64 count, .int .i64 sense, .int .i64 deques, .int .i64 size, .int .i64 0, .int .i64 0, .int .i64 0, .int .i64 0, .int .i64 0, .bool false, .bool false, .bool false] 45 ∧ Upd (fun k => k = w3.heap.size) (w3.alloc (.cells #[.int .i64 0, .int .i64 0, .int .i64 0, .int .i64 0, .int .i64 0, .int .i64 0, .int .i64 0, .int .i64 0, .int .i64 0, .int .i64 0, .int .i64 0, .int .i64 0, .int .i64 0, .int .i64 0, .int .i64 0, .int .i64 0, .int .i64 0, .int .i64 0, .int .i64 0, .bool false, .bool false, .bool false] 45)) W4 := by rw [← hW4]; exact Blk.alls hZ [.int .i64 verts, .int .i64 arcs, .int .i64 workers, .int .i64 room, .int .i64 res, .int .i64 lex, .int .i64 hh, .int .i64 flag, .int .i64 pending, .int .i64 ask, .int .i64 count, .int .i64 sense, .int .i64 deques, .int .i64 size, .int .i64 0, .int .i64 0, .int .i64 0, .int .i64 0, .int .i64 0, .bool false, .bool false, .bool false] rfl
          have PB0 : Hid (PB W4 w3.heap.size 45 (⟨verts, arcs, workers, room, res, lex, hh, flag, pending, ask, count, sense, deques, size⟩ : Lay) 0 ⟨0, 0, 0, 0, false, false⟩ [.bool false]) := Lib.hid hB4.1
          have KW : Kept w3 W4 := ((Upd.refl (fun _ => False) w3).alloc _).then hB4.2 (fun i hi e => by omega)
          have KA := Lib.hid (hk.trans KW)
          have HMB : Hid (Wa.heap.size ≤ w3.heap.size) := Lib.hid hk.size
          have HMA := Lib.hid (HMP.out.kept KA.out)
          have TA := Lib.hid (T1.out.kept KA.out)
          have hzn := (show (Try.prog.info? 45).map (·.size) = some 22 from HZt.out)
          clear hB4 hZ KW hk hra
          go_upto_region 18 with (first | (refine wpList_store_mid rfl _ _ _ rfl w3.heap.size 0 #[.int .i64 verts, .int .i64 arcs, .int .i64 workers, .int .i64 room, .int .i64 res, .int .i64 lex, .int .i64 hh, .int .i64 flag, .int .i64 pending, .int .i64 ask, .int .i64 count, .int .i64 sense, .int .i64 deques, .int .i64 size, .int .i64 0, .int .i64 0, .int .i64 0, .int .i64 0, .int .i64 0, .bool false, .bool false, .bool false] rfl rfl hth hzn (all_oneCell_toArray (cs := [.int .i64 verts, .int .i64 arcs, .int .i64 workers, .int .i64 room, .int .i64 res, .int .i64 lex, .int .i64 hh, .int .i64 flag, .int .i64 pending, .int .i64 ask, .int .i64 count, .int .i64 sense, .int .i64 deques, .int .i64 size, .int .i64 0, .int .i64 0, .int .i64 0, .int .i64 0, .int .i64 0, .bool false, .bool false, .bool false]) (by simp [Value.oneCell'])) ?_; simp only [hW4]) | fail)
          clear hth hW4 hzn
          generalize w3.heap.size = mb at PB0 HMB ⊢
          have hi50 : (i : Int) < 5 := by omega
          have c2 : W4.cell? ⟨sg, i * 4 + 2, none⟩ = some (.pointer none) := by have h := TA.out.rows.cell (rcells_at HX.out HV.out) rfl 2 (by omega); exact h
          have f2 : W4.frozen? ⟨sg, i * 4 + 2, none⟩ = false := TA.out.rows.blk.free _
          go_upto_region 24 with (fail)
          clear c2 f2
          have TC := Lib.hid (T1.out.beginSteal KA.out PB0.out HMB.out HX.out HV.out (by omega) hi5)
          have HSI : Hid ((sides.set i (some ⟨.steal, mb, ⟨0, 0, 0, 0, false, false⟩, false⟩))[i]? = some (some ⟨.steal, mb, ⟨0, 0, 0, 0, false, false⟩, false⟩)) := Lib.hid (List.getElem?_set_self (List.getElem?_eq_some_iff.1 HX.out).1)
          have HVI : Hid ((vals.set i vi)[i]? = some vi) := Lib.hid (List.getElem?_set_self (List.getElem?_eq_some_iff.1 HV.out).1)
          have HMC := Lib.hid (HMA.out.upd (updCell2 W4 sg (i * 4 + 2) (.pointer (some ⟨mb, 0, none⟩))) (by have := HBM.out; omega))
          clear TA HMA T1 HMP KA HMB PB0 HX HV
          generalize (W4.setCell ⟨sg, i * 4 + 2, none⟩ (.pointer (some ⟨mb, 0, none⟩))) = W5 at TC HMC ⊢
          have HSS := Lib.hid (rstep_any HG.out TC.out (by omega) (i := i) (f := i * 4) (d := _) HSI.out rfl HVI.out)
          have hi50 : (i : Int) < 5 := by omega
          go_wp2_with fail
          refine HSS.out.mono ?_
          rintro e w6 hE
          obtain ⟨rfl, P', G', Z', tt', L', xs', o', hO, hM⟩ := TC.out.after (by omega) HSI.out HVI.out HMC.out (by have := HBM.out; omega) hE
          have T9 := Lib.hid (hO.mono (m := 2 * ((k + 1 : Nat) : Int)) (by omega))
          have HM9 := Lib.hid hM
          clear hO hM hE HSS TC HMC HSI HVI hi50
          go_wp2_with fail
          go_roundw
          case rel => exact ⟨k + 1, _, _, _, _, _, _, _, _, _, _, _, _, _, rfl, by go_num, by omega, T9, HM9, Lib.hid HBG.out.on⟩
          case measure => simp [intOf]; omega
        · as_aux_lemma =>
          have j1 : ¬ (0 : Int) < (i : Int) := by omega
          have j2 : decide ((0 : Int) < (i : Int)) = false := by simpa using j1
          have HI00 : Hid (i = 0) := Lib.hid (by omega)
          by_cases hw3 : wh % 3 < 2
          · as_aux_lemma =>
            have j3 : decide (wh % 3 < 2) = true := by simpa using hw3
            have j4 : wh.tmod 3 < 2 := by rw [Int.tmod_eq_emod_of_nonneg hw0]; exact hw3
            obtain ⟨jn, hjn⟩ : ∃ jn : Nat, nx + 1 = (jn : Int) := ⟨(nx + 1).toNat, by have := T1.out.di.bd; omega⟩
            have hjb : 1 ≤ jn ∧ jn ≤ 1000 := by have := T1.out.di.bd; have := T1.out.da.nz; have q := T1.out.di.row.t0; omega
            have hwj : wrap64 (nx + 1) = (jn : Int) := by unfold wrap64; omega
            have HJN := Lib.hid hjn
            have hjw : (Lit.int .i64 (jn : Int)).wf = true := WalkArith.wf_i64 (n := (jn : Int)) (by omega)
            clear hjn
            go_upto_region 21 with (fail)
            try rw [hwj]
            clear x1 j1 j2 j3 j4 hwj
            have hra := Blk.range T1.out.da.l
            go_wp2_with (first | (refine wpList_load_mid rfl _ _ rfl lb 0 rfl [.int .i64 verts, .int .i64 arcs, .int .i64 workers, .int .i64 room, .int .i64 res, .int .i64 lex, .int .i64 hh, .int .i64 flag, .int .i64 pending, .int .i64 ask, .int .i64 count, .int .i64 sense, .int .i64 deques, .int .i64 size] _ hra Try.underlying24 rfl HZ14.out ?_) | fail)
            refine (HNU (jn : Int) _).out.mono ?_
            rintro e w3 ⟨rfl, hk⟩
            have hZ := Blk.new w3 #[.int .i64 0, .int .i64 0, .int .i64 0, .int .i64 0, .int .i64 0, .int .i64 0, .int .i64 0, .int .i64 0, .int .i64 0, .int .i64 0, .int .i64 0, .int .i64 0, .int .i64 0, .int .i64 0, .int .i64 0, .int .i64 0, .int .i64 0, .int .i64 0, .int .i64 0, .bool false, .bool false, .int .i64 0] 48
            have hth := Blk.there hZ 22 rfl
            obtain ⟨W4, hW4⟩ : ∃ W4, (w3.alloc (.cells #[.int .i64 0, .int .i64 0, .int .i64 0, .int .i64 0, .int .i64 0, .int .i64 0, .int .i64 0, .int .i64 0, .int .i64 0, .int .i64 0, .int .i64 0, .int .i64 0, .int .i64 0, .int .i64 0, .int .i64 0, .int .i64 0, .int .i64 0, .int .i64 0, .int .i64 0, .bool false, .bool false, .int .i64 0] 48)).setCells w3.heap.size 0 [.int .i64 verts, .int .i64 arcs, .int .i64 workers, .int .i64 room, .int .i64 res, .int .i64 lex, .int .i64 hh, .int .i64 flag, .int .i64 pending, .int .i64 ask, .int .i64 count, .int .i64 sense, .int .i64 deques, .int .i64 size, .int .i64 0, .int .i64 0, .int .i64 0, .int .i64 0, .int .i64 0, .bool false, .bool false, .int .i64 (jn : Int)] = W4 := ⟨_, rfl⟩
            have hB4 : Blk W4 w3.heap.size #[.int .i64 verts, .int .i64 arcs, .int .i64 workers, .int .i64 room, .int .i64 res, .int .i64 lex, .int .i64 hh, .int .i64 flag, .int .i64 pending, .int .i64 ask, .int .i64 count, .int .i64 sense, .int .i64 deques, .int .i64 size, .int .i64 0, .int .i64 0, .int .i64 0, .int .i64 0, .int .i64 0, .bool false, .bool false, .int .i64 (jn : Int)] 48 ∧ Upd (fun k => k = w3.heap.size) (w3.alloc (.cells #[.int .i64 0, .int .i64 0, .int .i64 0, .int .i64 0, .int .i64 0, .int .i64 0, .int .i64 0, .int .i64 0, .int .i64 0, .int .i64 0, .int .i64 0, .int .i64 0, .int .i64 0, .int .i64 0, .int .i64 0, .int .i64 0, .int .i64 0, .int .i64 0, .int .i64 0, .bool false, .bool false, .int .i64 0] 48)) W4 := by rw [← hW4]; exact Blk.alls hZ [.int .i64 verts, .int .i64 arcs, .int .i64 workers, .int .i64 room, .int .i64 res, .int .i64 lex, .int .i64 hh, .int .i64 flag, .int .i64 pending, .int .i64 ask, .int .i64 count, .int .i64 sense, .int .i64 deques, .int .i64 size, .int .i64 0, .int .i64 0, .int .i64 0, .int .i64 0, .int .i64 0, .bool false, .bool false, .int .i64 (jn : Int)] rfl
            have PB0 : Hid (PB W4 w3.heap.size 48 (⟨verts, arcs, workers, room, res, lex, hh, flag, pending, ask, count, sense, deques, size⟩ : Lay) 0 ⟨0, 0, 0, 0, false, false⟩ [.int .i64 (jn : Int)]) := Lib.hid hB4.1
            have KW : Kept w3 W4 := ((Upd.refl (fun _ => False) w3).alloc _).then hB4.2 (fun i hi e => by omega)
            have KA := Lib.hid (hk.trans KW)
            have HMB : Hid (Wa.heap.size ≤ w3.heap.size) := Lib.hid hk.size
            have HMA := Lib.hid (HMP.out.kept KA.out)
            have TA := Lib.hid (T1.out.kept KA.out)
            have hzn := (show (Try.prog.info? 48).map (·.size) = some 22 from HZu.out)
            clear hB4 hZ KW hk hra
            go_upto_region 22 with (first | (refine wpList_store_mid rfl _ _ _ rfl w3.heap.size 0 #[.int .i64 verts, .int .i64 arcs, .int .i64 workers, .int .i64 room, .int .i64 res, .int .i64 lex, .int .i64 hh, .int .i64 flag, .int .i64 pending, .int .i64 ask, .int .i64 count, .int .i64 sense, .int .i64 deques, .int .i64 size, .int .i64 0, .int .i64 0, .int .i64 0, .int .i64 0, .int .i64 0, .bool false, .bool false, .int .i64 (jn : Int)] rfl rfl hth hzn (all_oneCell_toArray (cs := [.int .i64 verts, .int .i64 arcs, .int .i64 workers, .int .i64 room, .int .i64 res, .int .i64 lex, .int .i64 hh, .int .i64 flag, .int .i64 pending, .int .i64 ask, .int .i64 count, .int .i64 sense, .int .i64 deques, .int .i64 size, .int .i64 0, .int .i64 0, .int .i64 0, .int .i64 0, .int .i64 0, .bool false, .bool false, .int .i64 (jn : Int)]) (by simp [Value.oneCell'])) ?_; simp only [hW4]) | fail)
            clear hth hW4 hzn
            generalize w3.heap.size = mb at PB0 HMB ⊢
            have hi50 : (i : Int) < 5 := by omega
            have c0 : W4.cell? ⟨sg, i * 4, none⟩ = some (.pointer none) := by have h := TA.out.rows.cell (rcells_at HX.out HV.out) rfl 0 (by omega); exact h
            have f0 : W4.frozen? ⟨sg, i * 4, none⟩ = false := TA.out.rows.blk.free _
            have c3 : W4.cell? ⟨sg, i * 4 + 3, none⟩ = some (.int .i64 vi) := by have h := TA.out.rows.cell (rcells_at HX.out HV.out) rfl 3 (by omega); exact h
            have f3 : W4.frozen? ⟨sg, i * 4 + 3, none⟩ = false := TA.out.rows.blk.free _
            go_upto_region 23 with (fail)
            clear c0 f0 c3 f3
            obtain ⟨o2, hO⟩ := T1.out.beginPush KA.out PB0.out HMB.out HX.out HV.out HI00.out HJN.out
            have TC := Lib.hid hO
            clear hO
            have HSI : Hid ((sides.set i (some ⟨(.push (jn : Int)), mb, ⟨0, 0, 0, 0, false, false⟩, false⟩))[i]? = some (some ⟨(.push (jn : Int)), mb, ⟨0, 0, 0, 0, false, false⟩, false⟩)) := Lib.hid (List.getElem?_set_self (List.getElem?_eq_some_iff.1 HX.out).1)
            have HVI : Hid ((vals.set i (jn : Int))[i]? = some (jn : Int)) := Lib.hid (List.getElem?_set_self (List.getElem?_eq_some_iff.1 HV.out).1)
            have HMC := Lib.hid (HMA.out.upd ((updCell2 W4 sg (i * 4) (.pointer (some ⟨mb, 0, none⟩))).trans (updCell2 (W4.setCell ⟨sg, i * 4, none⟩ (.pointer (some ⟨mb, 0, none⟩))) sg (i * 4 + 3) (.int .i64 (jn : Int)))) (by have := HBM.out; omega))
            clear TA HMA T1 HMP KA HMB PB0 HX HV
            generalize ((W4.setCell ⟨sg, i * 4, none⟩ (.pointer (some ⟨mb, 0, none⟩))).setCell ⟨sg, i * 4 + 3, none⟩ (.int .i64 (jn : Int))) = W5 at TC HMC ⊢
            have hmc : mc < maxLen := by have := HBG.out.2.1; unfold maxLen; omega
            have hml : jn < mh.length := by have := HBG.out.1; omega
            have hjb3 : (jn : Int) ≤ 1000000000 := by omega
            go_upto_region 24 with (first | (at_mapUpdate; refine wpList_putx _ rfl _ _ _ rfl rfl HMC.out hmc jn 1 rfl rfl rfl hml hjb3 (by decide) ?_; intro w5 hM5 hU5) | fail)
            have TD := Lib.hid (TC.out.aside hU5 (by have := HBM.out; omega))
            have HMD := Lib.hid hM5
            have HBG2 := Lib.hid (HBG.out.next HJN.out hjb.2)
            clear hM5 hU5 TC HMC hmc hml hjb3 HBG
            have HSS := Lib.hid (rstep_any HG.out TD.out (by omega) (i := i) (f := i * 4) (d := _) HSI.out rfl HVI.out)
            have hi50 : (i : Int) < 5 := by omega
            go_wp2_with fail
            refine HSS.out.mono ?_
            rintro e w6 hE
            obtain ⟨rfl, P', G', Z', tt', L', xs', o', hO, hM⟩ := TD.out.after (by omega) HSI.out HVI.out HMD.out (by have := HBM.out; omega) hE
            have T9 := Lib.hid (hO.mono (m := 2 * ((k + 1 : Nat) : Int)) (by omega))
            have HM9 := Lib.hid hM
            clear hO hM hE HSS TD HMD HSI HVI hi50
            go_wp2_with fail
            go_roundw
            case rel => exact ⟨k + 1, _, _, _, _, _, _, _, _, _, _, _, _, _, rfl, by go_num, by omega, T9, HM9, HBG2⟩
            case measure => simp [intOf]; omega
          · as_aux_lemma =>
            have j3 : decide (wh % 3 < 2) = false := by simpa using hw3
            have j4 : ¬ wh.tmod 3 < 2 := by rw [Int.tmod_eq_emod_of_nonneg hw0]; exact hw3
            go_upto_region 14 with (fail)
            clear x1 j1 j2 j3 j4
            have hra := Blk.range T1.out.da.l
            go_wp2_with (first | (refine wpList_load_mid rfl _ _ rfl lb 0 rfl [.int .i64 verts, .int .i64 arcs, .int .i64 workers, .int .i64 room, .int .i64 res, .int .i64 lex, .int .i64 hh, .int .i64 flag, .int .i64 pending, .int .i64 ask, .int .i64 count, .int .i64 sense, .int .i64 deques, .int .i64 size] _ hra Try.underlying24 rfl HZ14.out ?_) | fail)
            refine (HNP _).out.mono ?_
            rintro e w3 ⟨rfl, hk⟩
            have hZ := Blk.new w3 #[.int .i64 0, .int .i64 0, .int .i64 0, .int .i64 0, .int .i64 0, .int .i64 0, .int .i64 0, .int .i64 0, .int .i64 0, .int .i64 0, .int .i64 0, .int .i64 0, .int .i64 0, .int .i64 0, .int .i64 0, .int .i64 0, .int .i64 0, .int .i64 0, .int .i64 0, .bool false, .bool false] 51
            have hth := Blk.there hZ 21 rfl
            obtain ⟨W4, hW4⟩ : ∃ W4, (w3.alloc (.cells #[.int .i64 0, .int .i64 0, .int .i64 0, .int .i64 0, .int .i64 0, .int .i64 0, .int .i64 0, .int .i64 0, .int .i64 0, .int .i64 0, .int .i64 0, .int .i64 0, .int .i64 0, .int .i64 0, .int .i64 0, .int .i64 0, .int .i64 0, .int .i64 0, .int .i64 0, .bool false, .bool false] 51)).setCells w3.heap.size 0 [.int .i64 verts, .int .i64 arcs, .int .i64 workers, .int .i64 room, .int .i64 res, .int .i64 lex, .int .i64 hh, .int .i64 flag, .int .i64 pending, .int .i64 ask, .int .i64 count, .int .i64 sense, .int .i64 deques, .int .i64 size, .int .i64 0, .int .i64 0, .int .i64 0, .int .i64 0, .int .i64 0, .bool false, .bool false] = W4 := ⟨_, rfl⟩
            have hB4 : Blk W4 w3.heap.size #[.int .i64 verts, .int .i64 arcs, .int .i64 workers, .int .i64 room, .int .i64 res, .int .i64 lex, .int .i64 hh, .int .i64 flag, .int .i64 pending, .int .i64 ask, .int .i64 count, .int .i64 sense, .int .i64 deques, .int .i64 size, .int .i64 0, .int .i64 0, .int .i64 0, .int .i64 0, .int .i64 0, .bool false, .bool false] 51 ∧ Upd (fun k => k = w3.heap.size) (w3.alloc (.cells #[.int .i64 0, .int .i64 0, .int .i64 0, .int .i64 0, .int .i64 0, .int .i64 0, .int .i64 0, .int .i64 0, .int .i64 0, .int .i64 0, .int .i64 0, .int .i64 0, .int .i64 0, .int .i64 0, .int .i64 0, .int .i64 0, .int .i64 0, .int .i64 0, .int .i64 0, .bool false, .bool false] 51)) W4 := by rw [← hW4]; exact Blk.alls hZ [.int .i64 verts, .int .i64 arcs, .int .i64 workers, .int .i64 room, .int .i64 res, .int .i64 lex, .int .i64 hh, .int .i64 flag, .int .i64 pending, .int .i64 ask, .int .i64 count, .int .i64 sense, .int .i64 deques, .int .i64 size, .int .i64 0, .int .i64 0, .int .i64 0, .int .i64 0, .int .i64 0, .bool false, .bool false] rfl
            have PB0 : Hid (PB W4 w3.heap.size 51 (⟨verts, arcs, workers, room, res, lex, hh, flag, pending, ask, count, sense, deques, size⟩ : Lay) 0 ⟨0, 0, 0, 0, false, false⟩ []) := Lib.hid hB4.1
            have KW : Kept w3 W4 := ((Upd.refl (fun _ => False) w3).alloc _).then hB4.2 (fun i hi e => by omega)
            have KA := Lib.hid (hk.trans KW)
            have HMB : Hid (Wa.heap.size ≤ w3.heap.size) := Lib.hid hk.size
            have HMA := Lib.hid (HMP.out.kept KA.out)
            have TA := Lib.hid (T1.out.kept KA.out)
            have hzn := (show (Try.prog.info? 51).map (·.size) = some 21 from HZo.out)
            clear hB4 hZ KW hk hra
            go_upto_region 15 with (first | (refine wpList_store_mid rfl _ _ _ rfl w3.heap.size 0 #[.int .i64 verts, .int .i64 arcs, .int .i64 workers, .int .i64 room, .int .i64 res, .int .i64 lex, .int .i64 hh, .int .i64 flag, .int .i64 pending, .int .i64 ask, .int .i64 count, .int .i64 sense, .int .i64 deques, .int .i64 size, .int .i64 0, .int .i64 0, .int .i64 0, .int .i64 0, .int .i64 0, .bool false, .bool false] rfl rfl hth hzn (all_oneCell_toArray (cs := [.int .i64 verts, .int .i64 arcs, .int .i64 workers, .int .i64 room, .int .i64 res, .int .i64 lex, .int .i64 hh, .int .i64 flag, .int .i64 pending, .int .i64 ask, .int .i64 count, .int .i64 sense, .int .i64 deques, .int .i64 size, .int .i64 0, .int .i64 0, .int .i64 0, .int .i64 0, .int .i64 0, .bool false, .bool false]) (by simp [Value.oneCell'])) ?_; simp only [hW4]) | fail)
            clear hth hW4 hzn
            generalize w3.heap.size = mb at PB0 HMB ⊢
            have hi50 : (i : Int) < 5 := by omega
            have c1 : W4.cell? ⟨sg, i * 4 + 1, none⟩ = some (.pointer none) := by have h := TA.out.rows.cell (rcells_at HX.out HV.out) rfl 1 (by omega); exact h
            have f1 : W4.frozen? ⟨sg, i * 4 + 1, none⟩ = false := TA.out.rows.blk.free _
            go_upto_region 24 with (fail)
            clear c1 f1
            obtain ⟨o2, hO⟩ := T1.out.beginPop KA.out PB0.out HMB.out HX.out HV.out HI00.out
            have TC := Lib.hid hO
            clear hO
            have HSI : Hid ((sides.set i (some ⟨.pop, mb, ⟨0, 0, 0, 0, false, false⟩, false⟩))[i]? = some (some ⟨.pop, mb, ⟨0, 0, 0, 0, false, false⟩, false⟩)) := Lib.hid (List.getElem?_set_self (List.getElem?_eq_some_iff.1 HX.out).1)
            have HVI : Hid ((vals.set i vi)[i]? = some vi) := Lib.hid (List.getElem?_set_self (List.getElem?_eq_some_iff.1 HV.out).1)
            have HMC := Lib.hid (HMA.out.upd (updCell2 W4 sg (i * 4 + 1) (.pointer (some ⟨mb, 0, none⟩))) (by have := HBM.out; omega))
            clear TA HMA T1 HMP KA HMB PB0 HX HV
            generalize (W4.setCell ⟨sg, i * 4 + 1, none⟩ (.pointer (some ⟨mb, 0, none⟩))) = W5 at TC HMC ⊢
            have HSS := Lib.hid (rstep_any HG.out TC.out (by omega) (i := i) (f := i * 4) (d := _) HSI.out rfl HVI.out)
            have hi50 : (i : Int) < 5 := by omega
            go_wp2_with fail
            refine HSS.out.mono ?_
            rintro e w6 hE
            obtain ⟨rfl, P', G', Z', tt', L', xs', o', hO, hM⟩ := TC.out.after (by omega) HSI.out HVI.out HMC.out (by have := HBM.out; omega) hE
            have T9 := Lib.hid (hO.mono (m := 2 * ((k + 1 : Nat) : Int)) (by omega))
            have HM9 := Lib.hid hM
            clear hO hM hE HSS TC HMC HSI HVI hi50
            go_wp2_with fail
            go_roundw
            case rel => exact ⟨k + 1, _, _, _, _, _, _, _, _, _, _, _, _, _, rfl, by go_num, by omega, T9, HM9, Lib.hid HBG.out.on⟩
            case measure => simp [intOf]; omega
    · obtain rfl : k = M := by omega
      have hlt' : ¬ (k : Int) < (k : Int) := by omega
      as_aux_lemma =>
      clear HC HF
      have HNX : Hid (Bgn nx mh) := Lib.hid HBG.out.bgn
      have HMC9 := HBG.out.2.1
      go_upto_region 26 with (fail)
      clear hlt' HBG
      go_wp2_with fail
      go_loopw [99] (fun cx wr => ∃ (j : Nat) (n : Int) (P G Z : List Int) (tt : Int) (L xs : List Int) (o : Option Sd) (sides : List (Option Sd)), cx = .int .i64 j ∧ j ≤ 5 ∧ Hid (n ≤ 800 + 10 * (j : Int)) ∧ Hid (OS w B lb bb g sg hb #[.int .i64 verts, .int .i64 arcs, .int .i64 workers, .int .i64 room, .int .i64 res, .int .i64 lex, .int .i64 hh, .int .i64 flag, .int .i64 pending, .int .i64 ask, .int .i64 count, .int .i64 sense, .int .i64 deques, .int .i64 size] (⟨verts, arcs, workers, room, res, lex, hh, flag, pending, ask, count, sense, deques, size⟩ : Lay) tp r nx n P G Z tt L xs o sides vals wr) ∧ Hid (Mp wr bm mc mh ml) ∧ Hid (∀ q, q < j → sides[q]? = some none)) (fun cx _ => 5 - (intOf cx).toNat)
      case atStart => exact ⟨0, _, _, _, _, _, _, _, _, _, rfl, by omega, Lib.hid (by omega), T0, HMP0, Lib.hid (fun q h => by omega)⟩
      case round =>
        clear T0 HMP0
        obtain ⟨j, n, P, G, Z, tt, L, xs, o, sides, rfl, hj, HN, T0, HMP0, HNO⟩ := hrel
        by_cases hlt : j < 5
        · have hlt' : (j : Int) < 5 := by omega
          obtain ⟨vi, hvi⟩ : ∃ x, vals[j]? = some x := ⟨_, List.getElem?_eq_getElem (by rw [T0.out.vl]; exact hlt)⟩
          have HVI := Lib.hid hvi
          clear hvi
          as_aux_lemma =>
          go_upto_region 30 with (fail)
          go_wp2_with fail
          go_loopw [20] (fun cx wr => ∃ (q : Nat) (n : Int) (P G Z : List Int) (tt : Int) (L xs : List Int) (o : Option Sd) (sides : List (Option Sd)), cx = .int .i64 q ∧ q ≤ 6 ∧ Hid (n ≤ 800 + 10 * (j : Int) + q) ∧ Hid (OS w B lb bb g sg hb #[.int .i64 verts, .int .i64 arcs, .int .i64 workers, .int .i64 room, .int .i64 res, .int .i64 lex, .int .i64 hh, .int .i64 flag, .int .i64 pending, .int .i64 ask, .int .i64 count, .int .i64 sense, .int .i64 deques, .int .i64 size] (⟨verts, arcs, workers, room, res, lex, hh, flag, pending, ask, count, sense, deques, size⟩ : Lay) tp r nx n P G Z tt L xs o sides vals wr) ∧ Hid (Mp wr bm mc mh ml) ∧ Hid (∀ q, q < j → sides[q]? = some none) ∧ Hid (∀ d, sides[j]? = some (some d) → (q : Int) ≤ d.m.a)) (fun cx _ => 10 - (intOf cx).toNat)
          case atStart => exact ⟨0, n, _, _, _, _, _, _, _, _, rfl, by omega, Lib.hid (by have := HN.out; omega), T0, HMP0, HNO, Lib.hid (fun d hd => by have := (T0.out.di.far hd).2.1; omega)⟩
          case round =>
            clear T0 HMP0 HN HNO
            obtain ⟨q, n, P, G, Z, tt, L, xs, o, sides, rfl, hq, HN, T0, HMP0, HNO, HFA⟩ := hrel
            obtain ⟨x, hx⟩ : ∃ x, sides[j]? = some x := ⟨_, List.getElem?_eq_getElem (by rw [T0.out.di.len]; exact hlt)⟩
            have HX := Lib.hid hx
            have i1 : (q : Int) < 10 := by omega
            have i2 : decide ((q : Int) < 10) = true := by simpa using i1
            clear hx
            go_wp2_with fail
            refine (busy_any x T0.out.rows (rcells_at HX.out HVI.out) rfl).mono ?_
            rintro e w5 ⟨rfl, rfl⟩
            cases x with
            | some d =>
              as_aux_lemma =>
              have hfar := T0.out.di.far HX.out
              have hqa := HFA.out d HX.out
              have hq5 : q ≤ 5 := by omega
              have HUP := Lib.hid (step_up tp r d.kd ⟨d.m, d.lo, xs⟩ hfar.1)
              have HQA := Lib.hid hqa
              have HSS := Lib.hid (rstep_any HG.out T0.out (by have := HN.out; omega) (i := j) (f := j * 4) (d := d) HX.out rfl HVI.out)
              clear hfar hqa
              go_wp2_with fail
              refine HSS.out.mono ?_
              rintro e w6 hE
              obtain ⟨rfl, P', G', Z', tt', L', xs', o', hO, hM⟩ := T0.out.after (by have := HN.out; omega) HX.out HVI.out HMP0.out (by have := HBM.out; omega) hE
              have T9 := Lib.hid hO
              have HM9 := Lib.hid hM
              have HNO9 : Hid (∀ q, q < j → (sides.set j (OwnNew d.kd d.mb (kstep tp r d.kd ⟨d.m, d.lo, xs⟩)))[q]? = some none) := Lib.hid (fun q hq => by rw [List.getElem?_set_ne (by omega)]; exact HNO.out q hq)
              have HFA9 : Hid (∀ d', (sides.set j (OwnNew d.kd d.mb (kstep tp r d.kd ⟨d.m, d.lo, xs⟩)))[j]? = some (some d') → ((q + 1 : Nat) : Int) ≤ d'.m.a) := Lib.hid (fun d' hd' => by
                rw [List.getElem?_set_self (List.getElem?_eq_some_iff.1 HX.out).1] at hd'
                have hd' := Option.some.inj hd'
                unfold OwnNew at hd'
                split at hd'
                · cases hd'
                · cases hd'
                  have h1 := HUP.out
                  have h2 := HQA.out
                  simp only at h1 ⊢
                  omega)
              clear hO hM hE HSS T0 HMP0 HX HNO HFA HUP HQA
              go_wp2_with fail
              go_roundw
              case rel => exact ⟨q + 1, _, _, _, _, _, _, _, _, _, by go_num, by omega, Lib.hid (by have := HN.out; omega), T9, HM9, HNO9, HFA9⟩
              case measure => simp [intOf]; omega
            | none =>
              as_aux_lemma =>
              have HX2 := HX
              go_wp2_with fail
              refine (busy_any none T0.out.rows (rcells_at HX.out HVI.out) rfl).mono ?_
              rintro e w5 ⟨rfl, rfl⟩
              have HNO9 : Hid (∀ q, q < j + 1 → sides[q]? = some none) := Lib.hid (fun q hq => by
                by_cases e : q = j
                · rw [e]; exact HX.out
                · exact HNO.out q (by omega))
              clear HX HX2 HNO HFA i1 i2
              go_wp2_with fail
              go_roundw
              case rel => exact ⟨j + 1, _, _, _, _, _, _, _, _, _, by go_num, by omega, Lib.hid (by have := HN.out; omega), T0, HMP0, HNO9⟩
              case measure => simp [intOf]; omega
        · have hlt5 : ¬ (j : Int) < 5 := by omega
          have HJ5 : Hid (j = 5) := Lib.hid (by omega)
          clear hj
          as_aux_lemma =>
          obtain ⟨wo, rfl⟩ : ∃ wo : World, wo = wr := ⟨_, rfl⟩
          obtain ⟨ap, cp, ag, cg, az, cz, hlb, r1, r2, r3, hend⟩ := T0.out.fin (by have := HN.out; have := HJ5.out; omega) (HNO.out 0 (by have := HJ5.out; omega))
          obtain ⟨NP, hNP⟩ : ∃ x, P.length = x := ⟨_, rfl⟩
          obtain ⟨NG, hNG⟩ : ∃ x, G.length = x := ⟨_, rfl⟩
          obtain ⟨NZ, hNZ⟩ : ∃ x, Z.length = x := ⟨_, rfl⟩
          rw [hNP, hNG, hNZ] at hlb
          have hlens := hend.lens
          rw [hNP, hNG, hNZ] at hlens
          have HLP := Lib.hid hNP
          have HLG := Lib.hid hNG
          have HLZ := Lib.hid hNZ
          have HDA := Lib.hid T0.out.da
          have HLB := Lib.hid hlb
          have HP := Lib.hid r1
          have HQ := Lib.hid r2
          have HZ := Lib.hid r3
          have HE := Lib.hid hend
          have hmm := @run_makeMap Try.prog
          have HM2 := Lib.hid (Mp.new wo 1001)
          have hka := (Upd.refl (fun _ => False) wo).alloc (.map #[] 0)
          have HK2 := Lib.hid hka
          have HB2 : Hid (wo.heap.size ≤ wo.heap.size) := Lib.hid (Nat.le_refl _)
          have HMI : Hid (Mp wo bm mc mh ml) := HMP0
          have c1 : (wo.alloc (.map #[] 0)).cell? ⟨hb, 1, none⟩ = some (.slice ag NG cg) := (HLB.out.kept hka).cell 1
          clear hlb r1 r2 r3 hend hNP hNG hNZ T0 HMP0 HNO HN hka
          go_upto_region 38 with (fail)
          clear hmm c1 hlt hlt5 HJ5
          have HWr : Hid (∃ _ : True, True) := Lib.hid ⟨trivial, trivial⟩
          generalize (wo.alloc (.map #[] 0)) = W2 at HM2 HK2 ⊢
          obtain ⟨b2, hb2⟩ : ∃ b2, wo.heap.size = b2 := ⟨_, rfl⟩
          rw [hb2] at HM2 ⊢
          have HB2 : Hid (wo.heap.size = b2) := Lib.hid hb2
          clear hb2
          go_loopw [126] (fun cx w' => ∃ (k c : Nat) (ha : List Int) (la : List Bool), cx = .int .i64 k ∧ k ≤ NG ∧ Hid (Kept wo w') ∧ Hid (Mp w' b2 c ha la) ∧ Hid (c ≤ k ∧ Mk (fun x => (G.take k).contains x) ha la)) (fun cx _ => NG - (intOf cx).toNat)
          case atStart => exact ⟨0, 0, _, _, rfl, by omega, HK2, HM2, Lib.hid ⟨by omega, Mk.start (fun x => rfl)⟩⟩
          case round =>
            clear HK2 HM2
            obtain ⟨k, c, ha, la, rfl, hk, HK2, HM2, HMK⟩ := hrel
            by_cases hlt : k < NG
            · as_aux_lemma =>
              have i1 : (0 : Int) ≤ (k : Int) := by omega
              have i2 : (k : Int) < (NG : Int) := by omega
              obtain ⟨v, hv⟩ : ∃ v, G[k]? = some v := ⟨_, List.getElem?_eq_getElem (by have := HLG.out; omega)⟩
              obtain ⟨vn, rfl, hv1, hv2, hv3⟩ := HE.out.num (HE.out.gin v (List.mem_of_getElem? hv)).1
              obtain ⟨b9, o9, rfl, c9⟩ := (HQ.out.kept HK2.out).one hv
              have HNI := Lib.hid (nodup_next HE.out.gn hv)
              have HV := Lib.hid hv
              have hvb : (vn : Int) ≤ 1000000000 := by omega
              have hlk := HM2.out.lookx (x := (vn : Int)) vn rfl (by have := HMK.out.2.1; omega) hvb (c := 0) (by rw [(HMK.out.2.2.2 vn hv2).1]; have := HNI.out; simp only [this]; rfl)
              have hcm : c < maxLen := by have := HMK.out.1; unfold maxLen; omega
              have hml : vn < ha.length := by have := HMK.out.2.1; omega
              clear hv
              go_wp2_with (first | (at_mapUpdate; refine wpList_putx _ rfl _ _ _ rfl rfl HM2.out hcm vn 1 rfl rfl rfl hml hvb (by decide) ?_; intro w5 hM5 hU5; have HM5 := Lib.hid hM5; have HK5 : Hid (Kept wo w5) := Lib.hid (HK2.out.then hU5 (fun i hi e => by have := HB2.out; omega)); have hlk2 := hM5.lookx (x := (vn : Int)) vn rfl (by simpa using hml) hvb (c := 1) (by simp [List.getD, hml]); have hlk3 := (HMI.out.upd HK5.out (fun f => f)).lookx (x := (vn : Int)) vn rfl (by have := HNX.out.1; omega) hvb (c := 1) (HNX.out.2 vn hv1 hv3); clear hM5 hU5 hlk c9) | fail)
              go_roundw
              case rel => exact ⟨k + 1, c + 1, _, _, by go_num, by omega, HK5, HM5, Lib.hid ⟨by have := HMK.out.1; omega, HMK.out.2.add hv2 (fun x => take_more HV.out x)⟩⟩
              case measure => simp [intOf]; omega
            · obtain rfl : NG = k := by omega
              have hlt' : ¬ (NG : Int) < (NG : Int) := by omega
              as_aux_lemma =>
              have HMK2 : Hid (c ≤ 2000 ∧ Mk (fun x => G.contains x) ha la) := Lib.hid ⟨by have := HMK.out.1; omega, HMK.out.2.same (fun x => by show G.contains x = (G.take NG).contains x; rw [List.take_of_length_le (by have := HLG.out; omega)])⟩
              clear HMK HNX HMI
              obtain ⟨wp, rfl⟩ : ∃ wp : World, wp = wr := ⟨_, rfl⟩
              clear hlt hlt'
              go_upto_region 45 with (fail)
              go_loopw [24] (fun y w' => ∃ k : Nat, y = .int .i64 k ∧ 1 ≤ k ∧ k ≤ NZ + 1 ∧ Hid (Kept wp w')) (fun y _ => NZ + 1 - (intOf y).toNat)
              case atStart => exact ⟨1, rfl, by omega, by omega, Lib.hid (Upd.refl _ _)⟩
              case round =>
                obtain ⟨k, rfl, hk1, hk2, HKW⟩ := hrel
                have c2 : wr.cell? ⟨hb, 2, none⟩ = some (.slice az NZ cz) := (HLB.out.kept (HK2.out.trans HKW.out)).cell 2
                by_cases hlt : k < NZ
                · as_aux_lemma =>
                  obtain ⟨q, rfl⟩ : ∃ q, k = q + 1 := ⟨k - 1, by omega⟩
                  obtain ⟨za, hza⟩ : ∃ v, Z[q]? = some v := ⟨_, List.getElem?_eq_getElem (by have := HLZ.out; omega)⟩
                  obtain ⟨zb, hzb⟩ : ∃ v, Z[q + 1]? = some v := ⟨_, List.getElem?_eq_getElem (by have := HLZ.out; omega)⟩
                  obtain ⟨b9, o9, rfl, c9⟩ := (HZ.out.kept (HK2.out.trans HKW.out)).one hza
                  obtain ⟨b8, o8, e8, c8⟩ := (HZ.out.kept (HK2.out.trans HKW.out)).one hzb
                  cases e8
                  have hab := HE.out.below (k := q) (by have := HLZ.out; omega) hza hzb
                  have i1 : ((q + 1 : Nat) : Int) < (NZ : Int) := by omega
                  have i1' : decide (((q + 1 : Nat) : Int) < (NZ : Int)) = true := by simpa using i1
                  have i3 : decide (zb ≤ za) = false := by simp; omega
                  have i4 : ¬ zb ≤ za := by omega
                  have i5 : wrap64 (((q + 1 : Nat) : Int) - 1) = (q : Int) := by unfold wrap64; omega
                  have i5' : IntKind.i64.wrap (((q + 1 : Nat) : Int) - 1) = (q : Int) := by rw [IntKind.wrap_i64]; omega
                  have i6 : (0 : Int) ≤ (q : Int) := by omega
                  have i7 : (q : Int) < (NZ : Int) := by omega
                  have i8 : (0 : Int) ≤ ((q + 1 : Nat) : Int) := by omega
                  clear hza hzb hab
                  go_upto_region 47 with (fail)
                  refine wp_region_kept (by kernel_rfl) (by kernel_rfl) ?_
                  repeat (go_big_quiet_step (fail))
                  refine wpQuiet_nil ?_
                  intro w9 hk9
                  have HK9 : Hid (Kept wp w9) := Lib.hid (HKW.out.trans hk9)
                  clear hk9 c8 c9 c2 HKW i3 i4 i5 i5' i6 i7 i8
                  have hwk : wrap64 (((q + 1 : Nat) : Int) + 1) = ((q + 1 + 1 : Nat) : Int) := by unfold wrap64; omega
                  go_wp2_with fail
                  go_roundw
                  case rel => exact ⟨q + 1 + 1, by go_num, by omega, by omega, HK9⟩
                  case measure => simp [intOf]; omega
                · have i1 : ¬ (k : Int) < (NZ : Int) := by omega
                  have i1' : decide ((k : Int) < (NZ : Int)) = false := by simpa using i1
                  as_aux_lemma =>
                  have HK3 : Hid (Kept wo wr) := Lib.hid (HK2.out.trans HKW.out)
                  have HM3 : Hid (Mp wr b2 c ha la) := Lib.hid (HM2.out.upd HKW.out (fun f => f))
                  have c0 : wr.cell? ⟨hb, 0, none⟩ = some (.slice ap NP cp) := (HLB.out.kept HK3.out).cell 0
                  go_upto_region 51 with (fail)
                  clear c0 c2 HKW HZ hlt i1 i1'
                  obtain ⟨wq, rfl⟩ : ∃ wq : World, wq = wr := ⟨_, rfl⟩
                  have hb2 : b2 + 1 ≤ wq.heap.size := HM3.out.lt
                  go_loopw [25, 167] (fun y cx w' => ∃ (k q c : Nat) (a : Option Addr) (cq : Nat) (ha : List Int) (la : List Bool), y = .slice a q cq ∧ cx = .int .i64 k ∧ k ≤ NP ∧ Hid (q = ((P.take k).filter (fun v => !(G.contains v))).length) ∧ Hid (w'.ownsRow (b2 + 1) 2 1 (.slice a q cq) q (iv ((P.take k).filter (fun v => !(G.contains v))))) ∧ Hid (Kept wo w' ∧ b2 + 1 ≤ w'.heap.size) ∧ Hid (Mp w' b2 c ha la) ∧ Hid (c ≤ 2000 ∧ Mk (fun x => G.contains x && !((P.take k).contains x)) ha la)) (fun _ cx _ => NP - (intOf cx).toNat)
                  case atStart => exact ⟨0, 0, c, none, 0, ha, la, rfl, rfl, by omega, Lib.hid rfl, Lib.hid (World.ownsRow_nil _ _ _ _), Lib.hid ⟨HK3.out, hb2⟩, HM3, Lib.hid ⟨HMK2.out.1, HMK2.out.2.same (fun x => by simp)⟩⟩
                  case round =>
                    clear HM3 HK3 HMK2 HK2 HM2 hb2
                    obtain ⟨k, q, c, a, cq, ha, la, rfl, rfl, hk, HQL, HOW, HK3, HM3, HMK⟩ := hrel
                    by_cases hlt : k < NP
                    · as_aux_lemma =>
                      have i1 : (0 : Int) ≤ (k : Int) := by omega
                      have i2 : (k : Int) < (NP : Int) := by omega
                      obtain ⟨v, hv⟩ : ∃ v, P[k]? = some v := ⟨_, List.getElem?_eq_getElem (by have := HLP.out; omega)⟩
                      obtain ⟨vn, rfl, hv1, hv2, hv3⟩ := HE.out.num (List.mem_of_getElem? hv)
                      obtain ⟨b9, o9, rfl, c9⟩ := (HP.out.kept HK3.out.1).one hv
                      have HNI := Lib.hid (nodup_next HE.out.pn hv)
                      have HV := Lib.hid hv
                      have hvb : (vn : Int) ≤ 1000000000 := by omega
                      have hml : vn < ha.length := by have := HMK.out.2.1; omega
                      clear hv
                      cases hg : G.contains (vn : Int) with
                      | false =>
                        as_aux_lemma =>
                        have hlk := HM3.out.lookx (x := (vn : Int)) vn rfl hml hvb (c := 0) (by rw [(HMK.out.2.2.2 vn hv2).1]; simp only [hg, Bool.false_and, if_false, Bool.false_eq_true])
                        have HGF := Lib.hid hg
                        obtain ⟨i0, hi0, hz0, hz1, hz2⟩ := info_parts info2
                        have hq2 : q ≤ 2000000 := by have h1 := HQL.out; have h2 := List.length_filter_le (fun v => !(G.contains v)) (P.take k); rw [List.length_take] at h2; have := HLP.out; omega
                        have hbs := HK3.out.2
                        have ho := HOW.out
                        clear hg
                        go_wp2_with (first | (at_builtin; refine wpList_push rfl _ _ 29 rfl (b2 + 1) 2 i0 (.int .i64 0) 8 Try.underlying29 hi0 hz0 hz1 hz2 rfl (by decide) _ _ _ rfl ho (.int .i64 (vn : Int)) rfl rfl hq2 hbs ?_; intro gg cap' w7 hown hg2; clear hi0 hz0 hz1 hz2 ho hbs c9 hlk; have HO7 := Lib.hid hown; have HG7 := Lib.hid hg2; clear hown hg2) | fail)
                        have HK7 : Hid (Kept wo w7 ∧ b2 + 1 ≤ w7.heap.size) := Lib.hid ⟨HK3.out.1.then HG7.out.upd (fun i hi e => by have h1 := (World.ownsRow.lt HOW.out i e).1; have := HB2.out; omega), Nat.le_trans HK3.out.2 HG7.out.upd.size⟩
                        have HM7 : Hid (Mp w7 b2 c ha la) := Lib.hid (HM3.out.upd HG7.out.upd (fun e => by have h1 := (World.ownsRow.lt HOW.out b2 e).1; omega))
                        have HF7 := Lib.hid (filter_next (p := fun v => !(G.contains v)) HV.out)
                        have HO8 : Hid (w7.ownsRow (b2 + 1) 2 1 (.slice (some ⟨gg, 0, none⟩) (q + 1) cap') (q + 1) (iv ((P.take (k + 1)).filter (fun v => !(G.contains v))))) := Lib.hid (by
                          rw [HF7.out, HGF.out]
                          simp only [Bool.not_false, if_true, iv_add]
                          exact HO7.out)
                        have HQ8 : Hid (q + 1 = ((P.take (k + 1)).filter (fun v => !(G.contains v))).length) := Lib.hid (by
                          rw [HF7.out, HGF.out]
                          simp only [Bool.not_false, if_true, List.length_append, List.length_singleton, ← HQL.out])
                        have HMK8 : Hid (c ≤ 2000 ∧ Mk (fun x => G.contains x && !((P.take (k + 1)).contains x)) ha la) := Lib.hid ⟨HMK.out.1, HMK.out.2.same (fun x => by
                          have h1 := take_more HV.out x
                          show (G.contains x && !((P.take (k + 1)).contains x)) = (G.contains x && !((P.take k).contains x))
                          rw [h1]
                          by_cases e : x = (vn : Int)
                          · rw [e, HGF.out]; rfl
                          · have e2 : (x == (vn : Int)) = false := by simpa using e
                            rw [e2, Bool.or_false])⟩
                        clear HO7 HG7 HK3 HM3 HF7 HGF HQL HOW HMK
                        go_roundw
                        case rel => exact ⟨k + 1, q + 1, c, _, _, _, _, rfl, by go_num, by omega, HQ8, HO8, HK7, HM7, HMK8⟩
                        case measure => simp [intOf]; omega
                      | true =>
                        as_aux_lemma =>
                        have hlk := HM3.out.lookx (x := (vn : Int)) vn rfl hml hvb (c := 1) (by rw [(HMK.out.2.2.2 vn hv2).1]; have := HNI.out; simp only [hg, this, Bool.not_false, Bool.and_self, if_true])
                        have HGF := Lib.hid hg
                        clear hg
                        go_wp2_with (first | (at_delete; refine wpList_delx _ rfl _ _ rfl rfl HM3.out vn rfl rfl hml hvb ?_; intro w7 hM7 hU7; have HM7 := Lib.hid hM7; have HU7 := Lib.hid hU7; clear hM7 hU7 c9 hlk) | fail)
                        have HK7 : Hid (Kept wo w7 ∧ b2 + 1 ≤ w7.heap.size) := Lib.hid ⟨HK3.out.1.then HU7.out (fun i hi e => by have := HB2.out; omega), Nat.le_trans HK3.out.2 HU7.out.size⟩
                        have HO8 : Hid (w7.ownsRow (b2 + 1) 2 1 (.slice a q cq) q (iv ((P.take (k + 1)).filter (fun v => !(G.contains v))))) := Lib.hid (by
                          rw [filter_next (p := fun v => !(G.contains v)) HV.out, HGF.out]
                          simp only [Bool.not_true, if_false, Bool.false_eq_true, List.append_nil]
                          exact ownsRow_far HOW.out HU7.out (fun i hi e => by have := (World.ownsRow.lt HOW.out i hi).1; omega))
                        have HQ8 : Hid (q = ((P.take (k + 1)).filter (fun v => !(G.contains v))).length) := Lib.hid (by
                          rw [filter_next (p := fun v => !(G.contains v)) HV.out, HGF.out]
                          simp only [Bool.not_true, if_false, Bool.false_eq_true, List.append_nil]
                          exact HQL.out)
                        have HMK8 : Hid (c ≤ 2000 ∧ Mk (fun x => G.contains x && !((P.take (k + 1)).contains x)) (ha.set vn 0) (la.set vn false)) := Lib.hid ⟨HMK.out.1, HMK.out.2.del hv2 (fun x => by
                          have h1 := take_more HV.out x
                          show (G.contains x && !((P.take (k + 1)).contains x)) = ((G.contains x && !((P.take k).contains x)) && (x != (vn : Int)))
                          rw [h1, Bool.not_or, ← Bool.and_assoc]
                          rfl)⟩
                        clear HU7 HK3 HM3 HGF HQL HOW HMK
                        go_roundw
                        case rel => exact ⟨k + 1, q, c, _, _, _, _, rfl, by go_num, by omega, HQ8, HO8, HK7, HM7, HMK8⟩
                        case measure => simp [intOf]; omega
                    · have hlt' : ¬ (k : Int) < (NP : Int) := by omega
                      have HKN : Hid (P.take k = P) := Lib.hid (List.take_of_length_le (by have := HLP.out; omega))
                      as_aux_lemma =>
                      have HCZ : Hid (((la.count true : Nat) : Int) = 0) := Lib.hid (by
                        have := HMK.out.2.none (fun x => by
                          rw [HKN.out]
                          cases hg : G.contains x with
                          | false => rfl
                          | true =>
                            have h1 : x ∈ G := by simpa using hg
                            have h2 := (HE.out.gin x h1).1
                            simp [h2])
                        rw [this]; rfl)
                      obtain ⟨NL, hNL⟩ : ∃ x, L.length = x := ⟨_, rfl⟩
                      have HFL : Hid ((P.take k).filter (fun v => !(G.contains v)) = L) := Lib.hid (by rw [HKN.out]; exact HE.out.fil)
                      have HNL := Lib.hid hNL
                      have HQN : Hid (q = NL) := Lib.hid (by rw [HQL.out, HFL.out, hNL])
                      have HRL : Hid (Rd wr a (L.map (Value.int .i64))) := Lib.hid (by
                        obtain ⟨a', c', e, hr⟩ := Rd.owns HOW.out
                        cases e
                        rw [HFL.out] at hr
                        exact hr)
                      have HNB : Hid (NL ≤ 1000000000) := Lib.hid (by have h1 := HE.out.row.big; have h2 := HE.out.row.t0; have := HNL.out; omega)
                      obtain rfl := HQN.out
                      have HD9 := Lib.hid (HDA.out.kept HK3.out.1)
                      clear hNL HMK HKN HQL HOW HFL HK3
                      have cl' := HD9.out.l.cell
                      go_wp2_with (first | (at_len; refine wpList_lenm _ rfl _ rfl rfl HM3.out (n := 0) HCZ.out ?_) | fail)
                      refine (HH0 _ _ _ _ _ _ q HD9.out.b HE.out.row HNL.out).out.mono ?_
                      rintro e w6 ⟨xa, xc, rfl, hr6, hk6⟩
                      have HR6 := Lib.hid hr6
                      have HRL6 := Lib.hid (HRL.out.kept hk6)
                      have HK6 := Lib.hid (HD9.out.kp.trans hk6)
                      clear hr6 hk6 cl' HM3 HCZ
                      go_wp2_with fail
                      refine (same_at _ _ _ _ L q _ HR6.out HRL6.out HNL.out HNB.out).mono ?_
                      rintro e w8 ⟨rfl, hk8⟩
                      have HK8 := Lib.hid (HK6.out.trans hk8)
                      clear hk8 HK6 HR6 HRL6
                      go_wp2_with fail
                      refine (awake11_any _).mono ?_
                      rintro e w7 ⟨rfl, hk7⟩
                      have HK7 := Lib.hid (HK8.out.trans hk7)
                      clear hk7 HK8
                      go_wp2_with fail
                      go_ret
                      exact ⟨rfl, HK7.out⟩
end Go.Proofs.Ytdgkemadhooogaa
