/- The chapter's examples (printed by gen_awake05.py). -/
import Derived.Test.YtoapekkmaajfmaaRows05
import Derived.Test.YtoapekkmaajfmaaDistFr
namespace Go.Proofs.Ytoapekkmaajfmaa
set_option linter.unusedVariables false
set_option linter.unusedSimpArgs false
open Go.RowKit

def ex5 : List Ar := [⟨0, 1, 1⟩, ⟨1, 2, 1⟩, ⟨0, 2, 1⟩]
def resA : List Int := [1, 1, 0, 1, 0, 0]
theorem ex5Ok : NetOk 4 0 2 ex5 := ⟨by omega, by omega, by omega, by omega, by omega, by decide, by simp [ex5, ArcOk]⟩
theorem ex5Gr : Gr 4 0 2 4 6 ex5 := ⟨ex5Ok, by decide, by decide +kernel⟩
theorem arsNew5 (W : World) (ys : List Ar) : Ars (W.alloc (.cells (acells ys).toArray 57)) (some ⟨W.heap.size, 0, none⟩) ys :=
  .inr ⟨W.heap.size, 0, rfl, fun i u hu => by rw [Nat.zero_add, (Blk.new W _ _).cell]; simpa using hu⟩
/-- What is left, of which numbers. -/
def lef (ls : List Int) : List Int := resAll (wths ls ex5) 4 ex5
def Left5 (ls : List Int) (w : World) (e : Ending) (w' : World) : Prop := ∃ a3 c3 a4 c4 a5 c5 a6 c6 a7 c7 a8 c8 a9 c9, e = .returned (.tuple #[.agg #[.int .i64 4, .int .i64 0, .int .i64 2, .slice a3 5 c3, .slice a4 6 c4, .slice a5 6 c5, .slice a6 6 c6, .slice a7 6 c7, .slice a8 6 c8], .slice a9 6 c9]) ∧ CsrR w' 4 ex5 a3 a4 a5 a6 a7 a8 ∧ Rd w' a9 (lv (lef ls)) ∧ Kept w w'
theorem left_ex5 (g : Nat) (la : Option Addr) (lc : Nat) (ls : List Int) (k : Nat) (w : World) (h : Ars w (some ⟨g, 0, none⟩) ex5) (hl : Rd w la (lv ls)) (hi : ∀ x ∈ ls, -9223372036854775808 ≤ x ∧ x ≤ 9223372036854775807) (hk : ls.length = k) (hk2 : k ≤ 1000) :
    Calls Try.prog 9 #[.agg #[.int .i64 4, .int .i64 0, .int .i64 2, .slice (some ⟨g, 0, none⟩) 3 3], .slice la k lc] w (Left5 ls w) := by
  subst hk
  refine (Left_ok 4 0 2 (some ⟨g, 0, none⟩) 3 ex5 la lc ls w h ex5Ok hl hi (by omega)).mono ?_
  rintro e w' ⟨B, n, m, a3, c3, a4, c4, a5, c5, a6, c6, a7, c7, a8, c8, a9, c9, rfl, hn, hm, hcr, -, hk, -, ho⟩
  have hn3 : n = 4 := by rw [← hn]; rfl
  subst hn3
  have hm4 : m = 6 := by rw [← hm]; exact ex5Gr.hm
  subst hm4
  obtain ⟨b, c, e1, hr⟩ := Rd.owns ho
  cases e1
  exact ⟨a3, c3, a4, c4, a5, c5, a6, c6, a7, c7, a8, c8, a9, c9, rfl, hcr, hr, hk⟩
/-- Is each so far? -/
def opB (n m : Nat) (ys : List Ar) (rs : List Int) (u v : Nat) : Bool := (List.range m).any fun a => decide (tl ys n a = u) && decide (hd n ys a = v) && decide (0 < rs.getD a 0)
theorem opB_iff (n m : Nat) (ys : List Ar) (rs : List Int) (u v : Nat) : opB n m ys rs u v = true ↔ OpenA n m ys rs u v := by
  unfold opB OpenA
  simp only [List.any_eq_true, List.mem_range, Bool.and_eq_true, decide_eq_true_eq]
  constructor
  · rintro ⟨a, ha, ⟨h1, h2⟩, h3⟩; exact ⟨a, ha, h1, h2, h3⟩
  · rintro ⟨a, ha, h1, h2, h3⟩; exact ⟨a, ha, ⟨h1, h2⟩, h3⟩
def isdB (n s : Nat) (g : Nat → Nat → Bool) (d : List Nat) : Bool := decide (d.length = n) && decide (s < n) && decide (d.getD s 0 = 0) && (List.range n).all (fun v => decide (d.getD v 0 ≤ n)) && (List.range n).all (fun u => (List.range n).all fun v => !g u v || decide (d.getD v 0 ≤ d.getD u 0 + 1)) &&
  (List.range n).all (fun v => decide (v = s) || !decide (d.getD v 0 < n) || (List.range n).any fun u => g u v && decide (d.getD v 0 = d.getD u 0 + 1))
theorem isdB_ok {n s : Nat} {g : Nat → Nat → Bool} {E : Nat → Nat → Prop} {d : List Nat} (h : isdB n s g d = true) (hg : ∀ u v, g u v = true ↔ E u v) : IsD n s E d := by
  unfold isdB at h
  simp only [Bool.and_eq_true, decide_eq_true_eq, List.all_eq_true, List.mem_range, Bool.or_eq_true, Bool.not_eq_true', List.any_eq_true, decide_eq_false_iff_not] at h
  obtain ⟨⟨⟨⟨⟨h1, h2⟩, h3⟩, h4⟩, h5⟩, h6⟩ := h
  refine ⟨h1, h2, h3, h4, fun u v hu hv he => ?_, fun v hv hne hl => ?_⟩
  · rcases h5 u hu v hv with e | e
    · rw [(hg u v).2 he] at e; cases e
    · exact e
  · rcases h6 v hv with (e | e) | ⟨u, hu, e1, e2⟩
    · exact absurd e hne
    · exact absurd hl e
    · exact ⟨u, hu, (hg u v).1 e1, e2⟩
theorem to_ex {a3 a4 a5 a6 a7 a8 a9 : Option Addr} {c3 c4 c5 c6 c7 c8 : Nat} (ls : List Int) (rc : Nat) (d : List Nat) (w : World) (hcr : CsrR w 4 ex5 a3 a4 a5 a6 a7 a8) (hr : Rd w a9 (lv (lef ls))) (hd : isdB 4 2 (fun u x => opB 4 6 ex5 (lef ls) x u) d = true) :
    Calls Try.prog 11 #[.agg #[.int .i64 4, .int .i64 0, .int .i64 2, .slice a3 5 c3, .slice a4 6 c4, .slice a5 6 c5, .slice a6 6 c6, .slice a7 6 c7, .slice a8 6 c8], .slice a9 6 rc, .int .i64 2] w fun e w' => ∃ db, e = .returned (.slice (some ⟨db, 0, none⟩) 4 4) ∧ Rd w' (some ⟨db, 0, none⟩) (nv d) ∧ Kept w w' := by
  have hm : (lef ls).length = 6 := by unfold lef; rw [resAll_len]; exact ex5Gr.hm
  refine (to_ok 4 0 2 4 6 a3 a4 a5 a6 a7 a8 c3 c4 c5 c6 c7 c8 ex5 a9 rc (lef ls) 2 w ex5Gr hcr hr hm (by omega)).mono ?_
  rintro e w' ⟨db, d', rfl, h1, -, h2, hk⟩
  obtain rfl : d' = d := h2.one (isdB_ok hd (fun u x => opB_iff 4 6 ex5 (lef ls) x u))
  exact ⟨db, rfl, Rd.blk h1, hk⟩
theorem from_ex {a3 a4 a5 a6 a7 a8 a9 : Option Addr} {c3 c4 c5 c6 c7 c8 : Nat} (ls : List Int) (rc s : Nat) (d : List Nat) (w : World) (hcr : CsrR w 4 ex5 a3 a4 a5 a6 a7 a8) (hr : Rd w a9 (lv (lef ls))) (hs : s < 4) (hd : isdB 4 s (opB 4 6 ex5 (lef ls)) d = true) :
    Calls Try.prog 12 #[.agg #[.int .i64 4, .int .i64 0, .int .i64 2, .slice a3 5 c3, .slice a4 6 c4, .slice a5 6 c5, .slice a6 6 c6, .slice a7 6 c7, .slice a8 6 c8], .slice a9 6 rc, .int .i64 s] w fun e w' => ∃ db, e = .returned (.slice (some ⟨db, 0, none⟩) 4 4) ∧ Rd w' (some ⟨db, 0, none⟩) (nv d) ∧ Kept w w' := by
  have hm : (lef ls).length = 6 := by unfold lef; rw [resAll_len]; exact ex5Gr.hm
  refine (from_ok 4 0 2 4 6 a3 a4 a5 a6 a7 a8 c3 c4 c5 c6 c7 c8 ex5 a9 rc (lef ls) s w ex5Gr hcr hr hm hs).mono ?_
  rintro e w' ⟨db, d', rfl, h1, -, h2, hk⟩
  obtain rfl : d' = d := h2.one (isdB_ok hd (fun u x => opB_iff 4 6 ex5 (lef ls) u x))
  exact ⟨db, rfl, Rd.blk h1, hk⟩
def rows5 (j : Nat) : List Nat := lvl [1, 1, 0, 4] 4 j
theorem rows_ex {a3 a4 a5 a6 a7 a8 a9 : Option Addr} {c3 c4 c5 c6 c7 c8 : Nat} (rc : Nat) (w : World) (hcr : CsrR w 4 ex5 a3 a4 a5 a6 a7 a8) (hr : Rd w a9 (lv (lef []))) :
    Calls Try.prog 15 #[.agg #[.int .i64 4, .int .i64 0, .int .i64 2, .slice a3 5 c3, .slice a4 6 c4, .slice a5 6 c5, .slice a6 6 c6, .slice a7 6 c7, .slice a8 6 c8], .slice a9 6 rc, .int .i64 2] w fun e w' => ∃ a c, e = .returned (.slice a 2 c) ∧ RowsV w' a 2 rows5 ∧ Kept w w' := by
  have hm : (lef []).length = 6 := by unfold lef; rw [resAll_len]; exact ex5Gr.hm
  refine (rows_ok 4 0 2 4 6 a3 a4 a5 a6 a7 a8 c3 c4 c5 c6 c7 c8 ex5 a9 rc (lef []) 2 w ex5Gr hcr hr hm (by omega)).mono ?_
  rintro e w' ⟨d', a, L, c, rfl, h2, h3, h4, hk⟩
  obtain rfl : d' = [1, 1, 0, 4] := h2.one (isdB_ok (by decide +kernel) (fun u x => opB_iff 4 6 ex5 (lef []) x u))
  have hL : L = 2 := by
    obtain ⟨q1, q2, q3⟩ := h3
    have := q1 0 (by omega) (by decide)
    simp at this
    rcases q2 with e | ⟨x, hx, e⟩
    · omega
    · have : x = 0 ∨ x = 1 ∨ x = 2 ∨ x = 3 := by omega
      rcases this with rfl | rfl | rfl | rfl <;> simp at e <;> omega
  subst hL
  exact ⟨a, c, rfl, h4, hk⟩
theorem ints_ex5 (a a' : Option Addr) (c c' : Nat) (l : List Nat) (w : World) (hl : l.length = 4) (hx : Rd w a (nv l)) (hy : Rd w a' (nv l)) :
    Calls Try.prog 13 #[.slice a 4 c, .slice a' 4 c'] w fun e w' => e = .returned (.bool true) ∧ Kept w w' := nats_z a a' c c' l l 4 4 true w hx hy hl hl (by omega) (by omega) (by simp)
theorem rows5_len : ∀ j, j < 2 → (rows5 j).length ≤ 1000000000 := by
  intro j hj
  have := List.length_filter_le (fun x => ([1, 1, 0, 4] : List Nat).getD x 0 == j) (List.range 4)
  rw [List.length_range] at this
  unfold rows5 lvl
  omega
theorem rows_lit (W : World) : RowsV (((W.alloc (.cells #[.int .i64 2] 3)).alloc (.cells #[.int .i64 0, .int .i64 1] 3)).alloc (.cells #[.slice (some ⟨W.heap.size, 0, none⟩) 1 1, .slice (some ⟨W.heap.size + 1, 0, none⟩) 2 2] 27)) (some ⟨W.heap.size + 1 + 1, 0, none⟩) 2 rows5 ∧
    Kept W (((W.alloc (.cells #[.int .i64 2] 3)).alloc (.cells #[.int .i64 0, .int .i64 1] 3)).alloc (.cells #[.slice (some ⟨W.heap.size, 0, none⟩) 1 1, .slice (some ⟨W.heap.size + 1, 0, none⟩) 2 2] 27)) := by
  have b1 := ((Blk.new W #[.int .i64 2] 3).alloc (.cells #[.int .i64 0, .int .i64 1] 3)).alloc (.cells #[.slice (some ⟨W.heap.size, 0, none⟩) 1 1, .slice (some ⟨W.heap.size + 1, 0, none⟩) 2 2] 27)
  have b2 := (Blk.new (W.alloc (.cells #[.int .i64 2] 3)) #[.int .i64 0, .int .i64 1] 3).alloc (.cells #[.slice (some ⟨W.heap.size, 0, none⟩) 1 1, .slice (some ⟨W.heap.size + 1, 0, none⟩) 2 2] 27)
  have b3 := Blk.new ((W.alloc (.cells #[.int .i64 2] 3)).alloc (.cells #[.int .i64 0, .int .i64 1] 3)) #[.slice (some ⟨W.heap.size, 0, none⟩) 1 1, .slice (some ⟨W.heap.size + 1, 0, none⟩) 2 2] 27
  rw [show (W.alloc (.cells #[.int .i64 2] 3)).heap.size = W.heap.size + 1 by simp] at b2
  rw [show ((W.alloc (.cells #[.int .i64 2] 3)).alloc (.cells #[.int .i64 0, .int .i64 1] 3)).heap.size = W.heap.size + 1 + 1 by simp] at b3
  refine ⟨⟨[.slice (some ⟨W.heap.size, 0, none⟩) 1 1, .slice (some ⟨W.heap.size + 1, 0, none⟩) 2 2], Rd.blk b3, rfl, fun j hj => ?_⟩, ((Upd.refl _ _).alloc _).alloc _ |>.alloc _⟩
  obtain rfl | rfl : j = 0 ∨ j = 1 := by omega
  · exact ⟨_, 1, rfl, by rw [show rows5 0 = [2] by decide +kernel]; exact Rd.blk b1⟩
  · exact ⟨_, 2, rfl, by rw [show rows5 1 = [0, 1] by decide +kernel]; exact Rd.blk b2⟩
structure EY (w : World) (cb : Nat) (a3 a4 a5 a6 a7 a8 a9 b9 : Option Addr) (c3 c4 c5 c6 c7 c8 : Nat) (wr : World) : Prop where
  kp : Kept w wr
  box : Blk wr cb #[.int .i64 4, .int .i64 0, .int .i64 2, .slice a3 5 c3, .slice a4 6 c4, .slice a5 6 c5, .slice a6 6 c6, .slice a7 6 c7, .slice a8 6 c8] 29
  cr : CsrR wr 4 ex5 a3 a4 a5 a6 a7 a8
  rs : Rd wr a9 (lv (lef []))
  rb : Rd wr b9 (lv (lef [0, 0, 1]))
theorem EY.kept {w : World} {cb : Nat} {a3 a4 a5 a6 a7 a8 a9 b9 : Option Addr} {c3 c4 c5 c6 c7 c8 : Nat} {wr w' : World} (h : EY w cb a3 a4 a5 a6 a7 a8 a9 b9 c3 c4 c5 c6 c7 c8 wr) (hk : Kept wr w') : EY w cb a3 a4 a5 a6 a7 a8 a9 b9 c3 c4 c5 c6 c7 c8 w' := ⟨h.kp.trans hk, h.box.kept hk, h.cr.kept hk, h.rs.kept hk, h.rb.kept hk⟩
theorem rdNew5 (W : World) (l : List Nat) (T : TypeId) : Rd (W.alloc (.cells (nv l).toArray T)) (some ⟨W.heap.size, 0, none⟩) (nv l) := Rd.blk (Blk.new _ _ _)
set_option maxHeartbeats 4000000 in
theorem awake5_any (w : World) : Calls Try.prog 14 #[] w fun e w' => e = .returned (.bool true) ∧ Kept w w' := by
  have HA := Lib.hid ((arsNew5 w ex5).kept ((Upd.refl (fun _ => False) _).alloc (.cells #[.int .i64 4, .int .i64 0, .int .i64 2, .slice (some ⟨w.heap.size, 0, none⟩) 3 3] 24)))
  have HN := Lib.hid (Blk.new (w.alloc (.cells (acells ex5).toArray 57)) #[.int .i64 4, .int .i64 0, .int .i64 2, .slice (some ⟨w.heap.size, 0, none⟩) 3 3] 24)
  have e0 : (w.alloc (.cells (acells ex5).toArray 57)).heap.size = w.heap.size + 1 := by simp
  rw [e0] at HN
  have HK := Lib.hid (((Upd.refl (fun _ => False) w).alloc (.cells (acells ex5).toArray 57)).alloc (.cells #[.int .i64 4, .int .i64 0, .int .i64 2, .slice (some ⟨w.heap.size, 0, none⟩) 3 3] 24))
  clear e0
  go_enter Try.func14, Try.ntmps14
  go_upto_region 2 with (fail)
  change Code.wp _ _ _ _ ((w.alloc (.cells (acells ex5).toArray 57)).alloc (.cells #[.int .i64 4, .int .i64 0, .int .i64 2, .slice (some ⟨w.heap.size, 0, none⟩) 3 3] 24))
  generalize ((w.alloc (.cells (acells ex5).toArray 57)).alloc (.cells #[.int .i64 4, .int .i64 0, .int .i64 2, .slice (some ⟨w.heap.size, 0, none⟩) 3 3] 24)) = W0 at HA HN HK ⊢
  generalize hnb : w.heap.size + 1 = nb at HN ⊢
  clear hnb
  generalize hgb : w.heap.size = gb at HA HN ⊢
  clear hgb
  have bn := HN.out.cell
  go_wp2_with fail
  refine (left_ex5 gb none 0 [] 0 _ HA.out (.inl rfl) (by simp) rfl (by omega)).mono ?_
  rintro e W1 ⟨a3, c3, a4, c4, a5, c5, a6, c6, a7, c7, a8, c8, a9, c9, rfl, hcr, hrs, hk1⟩
  have hA := (Upd.refl (fun _ => False) W1).alloc (.cells #[.int .i64 4, .int .i64 0, .int .i64 2, .slice a3 5 c3, .slice a4 6 c4, .slice a5 6 c5, .slice a6 6 c6, .slice a7 6 c7, .slice a8 6 c8] 29)
  have X1 := Lib.hid (Blk.new W1 #[.int .i64 4, .int .i64 0, .int .i64 2, .slice a3 5 c3, .slice a4 6 c4, .slice a5 6 c5, .slice a6 6 c6, .slice a7 6 c7, .slice a8 6 c8] 29)
  have HC1 := Lib.hid (hcr.kept hA)
  have HR1 := Lib.hid (hrs.kept hA)
  have HK1 := Lib.hid ((HK.out.trans hk1).trans hA)
  have HA1 := Lib.hid (HA.out.kept (hk1.trans hA))
  have HN1 := Lib.hid (HN.out.kept (hk1.trans hA))
  clear hcr hrs hk1 hA HA HK HN bn
  go_upto_region 3 with (fail)
  generalize (W1.alloc (.cells #[.int .i64 4, .int .i64 0, .int .i64 2, .slice a3 5 c3, .slice a4 6 c4, .slice a5 6 c5, .slice a6 6 c6, .slice a7 6 c7, .slice a8 6 c8] 29)) = W2 at X1 HC1 HR1 HK1 HA1 HN1 ⊢
  generalize W1.heap.size = cb at X1 ⊢
  have hB := (Upd.refl (fun _ => False) W2).alloc (.cells (lv [0, 0, 1]).toArray 2)
  have HL1 : Hid (Rd (W2.alloc (.cells (lv [0, 0, 1]).toArray 2)) (some ⟨W2.heap.size, 0, none⟩) (lv [0, 0, 1])) := Lib.hid (Rd.blk (Blk.new _ _ _))
  have HKB := Lib.hid hB
  have bn := HN1.out.cell
  clear hB
  go_wp2_with fail
  change Calls _ _ _ (W2.alloc (.cells (lv [0, 0, 1]).toArray 2)) _
  refine (left_ex5 gb (some ⟨W2.heap.size, 0, none⟩) 3 [0, 0, 1] 3 _ (HA1.out.kept HKB.out) HL1.out (by simp) rfl (by omega)).mono ?_
  rintro e W3 ⟨e3, f3, e4, f4, e5, f5, e6, f6, e7, f7, e8, f8, b9, f9, rfl, -, hrb, hk3⟩
  have hA := (Upd.refl (fun _ => False) W3).alloc (.cells #[.int .i64 4, .int .i64 0, .int .i64 2, .slice e3 5 f3, .slice e4 6 f4, .slice e5 6 f5, .slice e6 6 f6, .slice e7 6 f7, .slice e8 6 f8] 29)
  have hk := (HKB.out.trans hk3).trans hA
  have Z1 : Hid (EY w cb a3 a4 a5 a6 a7 a8 a9 b9 c3 c4 c5 c6 c7 c8 (W3.alloc (.cells #[.int .i64 4, .int .i64 0, .int .i64 2, .slice e3 5 f3, .slice e4 6 f4, .slice e5 6 f5, .slice e6 6 f6, .slice e7 6 f7, .slice e8 6 f8] 29))) := Lib.hid ⟨HK1.out.trans hk, X1.out.kept hk, HC1.out.kept hk, HR1.out.kept hk, hrb.kept hA⟩
  clear hrb hk3 hA hk X1 HC1 HR1 HK1 HA1 HN1 HKB HL1 bn
  go_upto_region 4 with (fail)
  generalize (W3.alloc (.cells #[.int .i64 4, .int .i64 0, .int .i64 2, .slice e3 5 f3, .slice e4 6 f4, .slice e5 6 f5, .slice e6 6 f6, .slice e7 6 f7, .slice e8 6 f8] 29)) = V1 at Z1 ⊢
  have bx := Z1.out.box.cell
  go_wp2_with fail
  refine (to_ex [] c9 [1, 1, 0, 4] _ Z1.out.cr Z1.out.rs (by decide +kernel)).mono ?_
  rintro e V2 ⟨db1, rfl, hv, hk⟩
  have Z2 := Lib.hid (Z1.out.kept hk)
  have HV := Lib.hid hv
  clear hv hk bx Z1
  have hB := (Upd.refl (fun _ => False) V2).alloc (.cells (nv [1, 1, 0, 4]).toArray 3)
  have Z3 := Lib.hid (Z2.out.kept hB)
  have HV2 := Lib.hid (HV.out.kept hB)
  have R3 := Lib.hid (rdNew5 V2 [1, 1, 0, 4] 3)
  have bx := Z3.out.box.cell
  clear hB HV Z2
  go_wp2_with fail
  change Calls _ _ _ (V2.alloc (.cells (nv [1, 1, 0, 4]).toArray 3)) _
  refine (ints_ex5 _ _ _ _ [1, 1, 0, 4] _ rfl HV2.out R3.out).mono ?_
  rintro e V4 ⟨rfl, hk⟩
  have Z4 := Lib.hid (Z3.out.kept hk)
  clear hk bx Z3 R3 HV2
  have bx := Z4.out.box.cell
  go_wp2_with fail
  refine (from_ex [] c9 1 [4, 0, 1, 4] _ Z4.out.cr Z4.out.rs (by omega) (by decide +kernel)).mono ?_
  rintro e V5 ⟨db4, rfl, hv, hk⟩
  have Z5 := Lib.hid (Z4.out.kept hk)
  have HV := Lib.hid hv
  clear hv hk bx Z4
  have hB := (Upd.refl (fun _ => False) V5).alloc (.cells (nv [4, 0, 1, 4]).toArray 3)
  have Z6 := Lib.hid (Z5.out.kept hB)
  have HV2 := Lib.hid (HV.out.kept hB)
  have R6 := Lib.hid (rdNew5 V5 [4, 0, 1, 4] 3)
  have bx := Z6.out.box.cell
  clear hB HV Z5
  go_wp2_with fail
  change Calls _ _ _ (V5.alloc (.cells (nv [4, 0, 1, 4]).toArray 3)) _
  refine (ints_ex5 _ _ _ _ [4, 0, 1, 4] _ rfl HV2.out R6.out).mono ?_
  rintro e V7 ⟨rfl, hk⟩
  have Z7 := Lib.hid (Z6.out.kept hk)
  clear hk bx Z6 R6 HV2
  have bx := Z7.out.box.cell
  go_wp2_with fail
  refine (to_ex (a9 := b9) [0, 0, 1] f9 [2, 1, 0, 4] _ Z7.out.cr Z7.out.rb (by decide +kernel)).mono ?_
  rintro e V8 ⟨db7, rfl, hv, hk⟩
  have Z8 := Lib.hid (Z7.out.kept hk)
  have HV := Lib.hid hv
  clear hv hk bx Z7
  have hB := (Upd.refl (fun _ => False) V8).alloc (.cells (nv [2, 1, 0, 4]).toArray 3)
  have Z9 := Lib.hid (Z8.out.kept hB)
  have HV2 := Lib.hid (HV.out.kept hB)
  have R9 := Lib.hid (rdNew5 V8 [2, 1, 0, 4] 3)
  have bx := Z9.out.box.cell
  clear hB HV Z8
  go_wp2_with fail
  change Calls _ _ _ (V8.alloc (.cells (nv [2, 1, 0, 4]).toArray 3)) _
  refine (ints_ex5 _ _ _ _ [2, 1, 0, 4] _ rfl HV2.out R9.out).mono ?_
  rintro e V10 ⟨rfl, hk⟩
  have Z10 := Lib.hid (Z9.out.kept hk)
  clear hk bx Z9 R9 HV2
  have bx := Z10.out.box.cell
  go_wp2_with fail
  refine (from_ex (a9 := b9) [0, 0, 1] f9 2 [1, 2, 0, 4] _ Z10.out.cr Z10.out.rb (by omega) (by decide +kernel)).mono ?_
  rintro e V11 ⟨db10, rfl, hv, hk⟩
  have Z11 := Lib.hid (Z10.out.kept hk)
  have HV := Lib.hid hv
  clear hv hk bx Z10
  have hB := (Upd.refl (fun _ => False) V11).alloc (.cells (nv [1, 2, 0, 4]).toArray 3)
  have Z12 := Lib.hid (Z11.out.kept hB)
  have HV2 := Lib.hid (HV.out.kept hB)
  have R12 := Lib.hid (rdNew5 V11 [1, 2, 0, 4] 3)
  have bx := Z12.out.box.cell
  clear hB HV Z11
  go_wp2_with fail
  change Calls _ _ _ (V11.alloc (.cells (nv [1, 2, 0, 4]).toArray 3)) _
  refine (ints_ex5 _ _ _ _ [1, 2, 0, 4] _ rfl HV2.out R12.out).mono ?_
  rintro e V13 ⟨rfl, hk⟩
  have Z13 := Lib.hid (Z12.out.kept hk)
  clear hk bx Z12 R12 HV2
  have bx := Z13.out.box.cell
  go_wp2_with fail
  refine (rows_ex c9 _ Z13.out.cr Z13.out.rs).mono ?_
  rintro e V14 ⟨ra, rc, rfl, hv, hk⟩
  have Z14 := Lib.hid (Z13.out.kept hk)
  have HV := Lib.hid hv
  clear hv hk bx Z13
  go_wp2_with fail
  obtain ⟨hrl, hkl⟩ := rows_lit V14
  have Z15 := Lib.hid (Z14.out.kept hkl)
  have HV2 := Lib.hid (HV.out.kept hkl)
  have HRL := Lib.hid hrl
  clear hrl hkl HV Z14
  refine (rows_same ra _ 2 rc _ rows5 _ HV2.out HRL.out (by omega) rows5_len).mono ?_
  rintro e V15 ⟨rfl, hk⟩
  have Z16 := Lib.hid (Z15.out.kept hk)
  clear hk Z15 HV2 HRL
  go_wp2_with fail
  go_ret
  exact ⟨rfl, Z16.out.kp⟩
end Go.Proofs.Ytoapekkmaajfmaa
