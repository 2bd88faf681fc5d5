/- Package sched: Next. -/
import Derived.Test.YtacacnjpfflbnaaNext
namespace Go.Proofs.Ytacacnjpfflbnaa
set_option linter.unusedVariables false
open Go.RowKit Go.Shelf
attribute [local go_sem] Oper.semAt_some

theorem Blk.newAt (w : World) (arr : Array Value) (T : TypeId) (k : Nat) (h : k = w.heap.size) : Blk (w.alloc (.cells arr T)) k arr T := by subst h; exact Blk.new w arr T
theorem below_kept {a b : World} (h : Below a.heap.size a b) : Kept a b := ⟨h.os, h.tape, h.output, h.size, fun k hk _ => h.block k hk⟩
theorem below_upd {a b : World} {B : Nat} (h : Below B a b) : Upd (fun k => B ≤ k) a b := ⟨h.os, h.tape, h.output, h.size, fun k hk hn => h.block k (by omega)⟩
theorem keepsFrom_upd {B : Nat} {W W' : World} {S : Nat → Prop} (h : Upd S W W') (hs : ∀ k, S k → k < B) : KeepsFrom B W W' :=
  ⟨h.size, fun k o hB hk _ => (h.block k (Array.getElem?_eq_some_iff.1 hk).1 (fun e => by have := hs k e; omega)).trans hk⟩
theorem upto_snoc {α : Type} {f : Nat → α} {k : Nat} {p : List α} {x : α} (h : p ++ [x] = upto f k) : ∃ m, k = m + 1 ∧ p = upto f m ∧ x = f m := by
  cases k with
  | zero => simp [upto] at h
  | succ m =>
    rw [upto_succ] at h
    obtain ⟨h1, h2⟩ := List.append_inj' h rfl
    exact ⟨m, rfl, h1, by simpa using h2⟩
theorem mem_upto {α : Type} {f : Nat → α} {k j : Nat} (h : j < k) : f j ∈ upto f k := List.mem_map.2 ⟨j, List.mem_range.2 h, rfl⟩

/-- How a round of Next's loop is left. -/
structure Fin1 (bd : Nat → Prop) (sb tb : Nat) (s : SS) (dl : List Bool) (W0 : World) (B : Nat) (pre : List (Fin s.told.length)) (W : World) : Prop where
  who : ∃ (p : List (Fin s.told.length)) (x : Fin s.told.length), pre = p ++ [x] ∧ (∀ y ∈ p, dl.getD y.val false = true) ∧ dl.getD x.val false = false ∧ Sc W bd sb tb (s.tell x.val dl) ∧ W.cell? ⟨B + 1 + 1, 0, none⟩ = some (.int .i64 ((x : Nat) : Int)) ∧ W.cell? ⟨B + 1 + 1 + 1, 0, none⟩ = some (.bool true)
  upd : Upd (fun k => (k = sb ∨ k = tb) ∨ (k = B + 1 + 1 ∨ k = B + 1 + 1 + 1)) W0 W

set_option maxRecDepth 100000 in
set_option maxHeartbeats 4000000 in
theorem Next_any {w : World} {bd : Nat → Prop} {sb tb : Nat} {s : SS} (hS : Sc w bd sb tb s) (hbd : ∀ k, bd k → k < w.heap.size) (a : Option Addr) (c : Nat) (dl : List Bool) (hd : Rd w a (dl.map Value.bool))
    (hda : ∀ b off, a = some ⟨b, off, none⟩ → dl.map Value.bool ≠ [] → ¬ (b = sb ∨ b = tb)) (he : s.ended < 4611686018427387904) :
    Calls Try.prog 10 #[.pointer (some ⟨sb, 0, none⟩), .slice a dl.length c] w (NextIs bd sb tb s dl w) := by
  obtain ⟨pa, pc, h, hp⟩ := hS
  have hsl : sb < w.heap.size := h.head.lt
  have htl : tb < w.heap.size := h.told.lt
  have n1 := h.n1
  have n2 := h.n2
  have H := Lib.hid h
  have HP := Lib.hid hp
  have HD := Lib.hid hd
  have HDA := Lib.hid hda
  clear h hp hd hda
  refine (callsIn_wide (n := 3)).1 ?_
  refine callsIn_of_wp_marks Try.func10 rfl trivial ?_ rfl
  simp only [Try.ntmps10, List.size_toArray, List.length_cons, List.length_nil, Nat.reduceAdd, Nat.reduceSub, Array.replicate_succ, Array.replicate_zero, List.push_toArray, List.append_toArray, List.nil_append, List.cons_append]
  refine wpIn_wide.2 ?_
  go_wp2_with fail
  refine (none_some (H.out.kept (((((Upd.refl _ _).alloc _).alloc _).alloc _).alloc _))).mono ?_
  rintro e w1 ⟨rfl, rfl⟩
  go_wp2_with fail
  have hc0 : ∀ w' : World, w'.cell? ⟨w.heap.size, 0, none⟩ = some (.pointer (some ⟨sb, 0, none⟩)) → w'.cell? ⟨w.heap.size, 0, none⟩ = some (.pointer (some ⟨sb, 0, none⟩)) := fun _ h => h
  go_region_held3 (fun w' => w'.cell? ⟨w.heap.size, 0, none⟩ = some (.pointer (some ⟨sb, 0, none⟩))) (first | assumption | go_simp)
    ((first
      | (go_at_call 18; refine (begin_any (H.out.kept (((((Upd.refl _ _).alloc _).alloc _).alloc _).alloc _).drew)).mono ?_; rintro e w' ⟨rfl, rfl⟩)
      | (go_at_call 17; refine (from_any _ _ _).mono ?_; rintro e w' ⟨rfl, rfl⟩)))
  go_wp2_with fail
  rename_i hHeld
  clear hHeld hc0
  obtain ⟨W0, hW0⟩ : ∃ W0, W0 = ((((((w.alloc (.cells #[.pointer (some ⟨sb, 0, none⟩)] 24)).alloc (.cells #[.slice a dl.length c] 28)).alloc (.cells #[.int .i64 0] 3)).alloc (.cells #[.bool false] 4)).alloc (.cells #[.pointer (some ⟨sb, 0, none⟩)] 24)).alloc (.cells #[.int .i64 ((fromOf s.told.length s.last s.picks : Nat) : Int)] 3)).drew := ⟨_, rfl⟩
  rw [← hW0]
  have b0 : Blk W0 w.heap.size #[.pointer (some ⟨sb, 0, none⟩)] 24 := by rw [hW0]; exact (((((Blk.new _ _ _).alloc _).alloc _).alloc _).alloc _).alloc _
  have b1 : Blk W0 (w.heap.size + 1) #[.slice a dl.length c] 28 := by rw [hW0]; exact ((((Blk.newAt _ _ _ _ (by simp)).alloc _).alloc _).alloc _).alloc _
  have b2 : Blk W0 (w.heap.size + 1 + 1) #[.int .i64 0] 3 := by rw [hW0]; exact (((Blk.newAt _ _ _ _ (by simp)).alloc _).alloc _).alloc _
  have b3 : Blk W0 (w.heap.size + 1 + 1 + 1) #[.bool false] 4 := by rw [hW0]; exact ((Blk.newAt _ _ _ _ (by simp)).alloc _).alloc _
  have b4 : Blk W0 (w.heap.size + 1 + 1 + 1 + 1) #[.pointer (some ⟨sb, 0, none⟩)] 24 := by rw [hW0]; exact (Blk.newAt _ _ _ _ (by simp)).alloc _
  have b5 : Blk W0 (w.heap.size + 1 + 1 + 1 + 1 + 1) #[.int .i64 ((fromOf s.told.length s.last s.picks : Nat) : Int)] 3 := by rw [hW0]; exact Blk.newAt _ _ _ _ (by simp)
  have hk0 : Kept w W0 := by rw [hW0]; exact ((((((Upd.refl _ _).alloc _).alloc _).alloc _).alloc _).alloc _).alloc _ |>.drew
  have hz0 : W0.heap.size = w.heap.size + 6 := by rw [hW0]; simp
  have HE := Lib.hid hW0
  clear hW0
  have hsc0 : W0.cell? ⟨sb, 2, none⟩ = some (.slice (some ⟨tb, 0, none⟩) s.told.length s.told.length) := by rw [(H.out.kept hk0).head.cell]; rfl
  refine (wpIn_wide (n := 3)).1 ?_
  refine wpIn_rangeFunc_ownG (n := 3) rfl (by omega) (gf := 24) (lb := #[.pointer (some ⟨w.heap.size + 1 + 1 + 1 + 1, 0, none⟩), .pointer (some ⟨w.heap.size + 1 + 1 + 1 + 1 + 1, 0, none⟩)]) rfl trivial (enters_of Try.func24 (by kernel_rfl) rfl)
    (from_stops Fence.wide 2 trivial rfl (by omega) (w.heap.size + 1 + 1 + 1 + 1) (w.heap.size + 1 + 1 + 1 + 1 + 1) W0.heap.size sb tb s.told.length (fromOf s.told.length s.last s.picks) n1 n2 (fromOf_lt _ _ _ n1) W0 (by rw [b4.cell]; rfl) hsc0 (by rw [b5.cell]; rfl) (by omega))
    belowK_t (belowK_b (Nat.le_refl _)) (Below.refl _ _) (fun _ => rfl)
    (fun pre W => (∀ x ∈ pre, dl.getD x.val false = true) ∧ Below W0.heap.size W0 W)
    (fun cd pre W => cd = .ret ∧ ∃ Wx, W0.heap.size ≤ Wx.heap.size ∧ Fin1 bd sb tb s dl W0 w.heap.size pre Wx ∧ Below W0.heap.size Wx W)
    (OwnFrom.and (fun _ _ _ _ h _ _ => h) (ownFrom_below (Nat.le_refl _) (Nat.le_refl _)))
    (fun cd pre W W' row hs hg hr => ⟨hs.1, by obtain ⟨_, Wx, h1, h2, h3⟩ := hs; exact ⟨Wx, h1, h2, h3.grown hg (Nat.le_trans h1 h3.size) (fun k e => (hr k e).1)⟩⟩)
    ⟨(fun x hx => by cases hx), Below.refl _ _⟩
    (fun x => { tmps := #[.pointer (some ⟨sb, 0, none⟩), .slice a dl.length c, .pointer (some ⟨w.heap.size, 0, none⟩), .pointer (some ⟨w.heap.size + 1, 0, none⟩), .pointer (some ⟨w.heap.size + 1 + 1, 0, none⟩), .pointer (some ⟨w.heap.size + 1 + 1 + 1, 0, none⟩), .int .i64 ((x : Nat) : Int), .pointer (some ⟨sb, 0, none⟩), .bool false, .pointer (some ⟨sb, 0, none⟩), .pointer (some ⟨sb, 0, none⟩), .int .i64 ((fromOf s.told.length s.last s.picks : Nat) : Int), .func (.func 24) #[] #[.pointer (some ⟨w.heap.size + 1 + 1 + 1 + 1, 0, none⟩), .pointer (some ⟨w.heap.size + 1 + 1 + 1 + 1 + 1, 0, none⟩)], .int .i64 ((x : Nat) : Int), undef, undef, undef, undef, undef, undef, undef, undef, undef], defers := [] }) ?assign ?body ?done ?stop
  case assign =>
    intro l x W K hK
    gi_wp2
    exact hK
  case body =>
    rintro l pre x W ⟨hall, hB⟩ _
    have hkW := below_kept hB
    have c0 : W.cell? ⟨w.heap.size, 0, none⟩ = some (.pointer (some ⟨sb, 0, none⟩)) := by rw [(b0.kept hkW).cell]; rfl
    have c1 : W.cell? ⟨w.heap.size + 1, 0, none⟩ = some (.slice a dl.length c) := by rw [(b1.kept hkW).cell]; rfl
    have HI := Lib.hid (isDone_any a c dl x.val W ((HD.out.kept hk0).kept hkW))
    have HAll := Lib.hid hall
    have HB := Lib.hid hB
    obtain ⟨r, hr⟩ : ∃ r, dl.getD x.val false = r := ⟨_, rfl⟩
    rw [hr] at HI
    have HR := Lib.hid hr
    clear hall hB hr
    cases r
    · have HT := Lib.hid (tell_any ((H.out.kept hk0).kept hkW) x.val x.isLt a c dl ((HD.out.kept hk0).kept hkW) (fun b off e h0 => HDA.out b off e h0) he bd HP.out)
      gi_wp2_with (refine ⟨trivial, ?_⟩; gi_at_call 19; refine (CallsIn.inRound l (callsIn_wide.2 HI.out)).mono ?_; rintro e w' ⟨rfl, rfl⟩)
      refine ⟨trivial, ?_⟩
      refine (CallsIn.inRound l (callsIn_wide.2 HT.out)).mono ?_
      rintro e w2 ⟨rfl, hSc, hU⟩
      have hneS : ∀ k, w.heap.size ≤ k → ¬ (k = sb ∨ k = tb) := fun k hk e => by rcases e with e | e <;> omega
      have d2 : Blk w2 (w.heap.size + 1 + 1) #[.int .i64 0] 3 := (b2.kept hkW).upd hU (hneS _ (by omega))
      have d3 : Blk w2 (w.heap.size + 1 + 1 + 1) #[.bool false] 4 := (b3.kept hkW).upd hU (hneS _ (by omega))
      have q2 : w2.cell? ⟨w.heap.size + 1 + 1, 0, none⟩ = some (.int .i64 0) := by rw [d2.cell]; rfl
      have q3 : w2.cell? ⟨w.heap.size + 1 + 1 + 1, 0, none⟩ = some (.bool false) := by rw [d3.cell]; rfl
      have g2 := d2.free 0
      have g3 := d3.free 0
      obtain ⟨Wx, hWx⟩ : ∃ Wx, Wx = (w2.setCell ⟨w.heap.size + 1 + 1, 0, none⟩ (.int .i64 ((x : Nat) : Int))).setCell ⟨w.heap.size + 1 + 1 + 1, 0, none⟩ (.bool true) := ⟨_, rfl⟩
      have hU2 : Upd (fun k => k = w.heap.size + 1 + 1 ∨ k = w.heap.size + 1 + 1 + 1) w2 Wx := by
        rw [hWx]; exact ((Upd.refl _ _).setCell (p := ⟨w.heap.size + 1 + 1, 0, none⟩) (.inl (.inl rfl)) _).setCell (p := ⟨w.heap.size + 1 + 1 + 1, 0, none⟩) (.inl (.inr rfl)) _
      have e2 : Blk Wx (w.heap.size + 1 + 1) #[.int .i64 ((x : Nat) : Int)] 3 := by
        rw [hWx]; have := (d2.set 0 (.int .i64 ((x : Nat) : Int))).other (p := ⟨w.heap.size + 1 + 1 + 1, 0, none⟩) (by simp) (.bool true); simpa using this
      have e3 : Blk Wx (w.heap.size + 1 + 1 + 1) #[.bool true] 4 := by
        rw [hWx]; have := (d3.other (p := ⟨w.heap.size + 1 + 1, 0, none⟩) (by simp) (.int .i64 ((x : Nat) : Int))).set 0 (.bool true); simpa using this
      have hall : Upd (fun k => (k = sb ∨ k = tb) ∨ (k = w.heap.size + 1 + 1 ∨ k = w.heap.size + 1 + 1 + 1)) W Wx := (hU.wide (fun k _ e => .inl e)).trans (hU2.wide (fun k _ e => .inr e))
      have hfin : Hid (KeepsFrom W0.heap.size W Wx ∧ W0.heap.size ≤ Wx.heap.size ∧ Fin1 bd sb tb s dl W0 w.heap.size (pre ++ [x]) Wx) := by
        apply Lib.hid
        have hs1 := hkW.size
        have hs2 := hall.size
        refine ⟨keepsFrom_upd hall (fun k e => by omega), by omega, ⟨pre, x, rfl, HAll.out, HR.out, hSc.upd hU2 (fun e => by omega) (fun e => by omega) (fun k hk e => by have := hbd k hk; omega), ?_, ?_⟩, ?_⟩
        · rw [e2.cell]; rfl
        · rw [e3.cell]; rfl
        · exact ((hkW.wide (fun k _ e => e.elim)).trans hall)
      rw [hWx] at hfin
      clear hWx hU2 e2 e3 hall hU hSc HT d2 d3 hneS HAll HB HI HR
      gi_wp2
      exact ⟨hfin.out.1, rfl, _, hfin.out.2.1, hfin.out.2.2, Below.refl _ _⟩
    · gi_wp2_with (refine ⟨trivial, ?_⟩; gi_at_call 19; refine (CallsIn.inRound l (callsIn_wide.2 HI.out)).mono ?_; rintro e w' ⟨rfl, rfl⟩)
      exact ⟨KeepsFrom.refl _ _, Below.refl _ _, (fun y hy => by rcases List.mem_append.1 hy with hy | hy; exact HAll.out y hy; simp at hy; rw [hy]; exact HR.out), HB.out⟩
  case done =>
    rintro D xs W hD rfl ⟨hall, hB⟩ hK
    have hkW := below_kept hB
    have hw : s.who dl = none := whoAt_none fun j hj => by
      have := hall _ (mem_upto (f := nth s.told.length (fromOf s.told.length s.last s.picks) n1) hj)
      exact this
    have q2 : W.cell? ⟨w.heap.size + 1 + 1, 0, none⟩ = some (.int .i64 0) := by rw [(b2.kept hkW).cell]; rfl
    have q3 : W.cell? ⟨w.heap.size + 1 + 1 + 1, 0, none⟩ = some (.bool false) := by rw [(b3.kept hkW).cell]; rfl
    have g2 := (b2.kept hkW).free 0
    have g3 := (b3.kept hkW).free 0
    have HKW := Lib.hid hkW
    have HK0 := Lib.hid hk0
    have HW := Lib.hid hw
    clear hall hB hkW hk0 hw
    go_wp2_with fail
    obtain ⟨W2, hW2⟩ : ∃ W2, W2 = (W.setCell ⟨w.heap.size + 1 + 1, 0, none⟩ (.int .i64 0)).setCell ⟨w.heap.size + 1 + 1 + 1, 0, none⟩ (.bool false) := ⟨_, rfl⟩
    rw [← hW2]
    have hkD : W2.heap[D]? = some (.deferred (some [])) := by
      rw [hW2, Below.heap_setCell _ _ _ _ (by simp; omega), Below.heap_setCell _ _ _ _ (by simp; omega)]; exact hK
    have hU2 : Upd (fun k => k = w.heap.size + 1 + 1 ∨ k = w.heap.size + 1 + 1 + 1) W W2 := by
      rw [hW2]; exact ((Upd.refl _ _).setCell (p := ⟨w.heap.size + 1 + 1, 0, none⟩) (.inl (.inl rfl)) _).setCell (p := ⟨w.heap.size + 1 + 1 + 1, 0, none⟩) (.inl (.inr rfl)) _
    have e2 : Blk W2 (w.heap.size + 1 + 1) #[.int .i64 0] 3 := by
      rw [hW2]; have := ((b2.kept HKW.out).set 0 (.int .i64 0)).other (p := ⟨w.heap.size + 1 + 1 + 1, 0, none⟩) (by simp) (.bool false); simpa using this
    have e3 : Blk W2 (w.heap.size + 1 + 1 + 1) #[.bool false] 4 := by
      rw [hW2]; have := ((b3.kept HKW.out).other (p := ⟨w.heap.size + 1 + 1, 0, none⟩) (by simp) (.int .i64 0)).set 0 (.bool false); simpa using this
    have hb : Below W0.heap.size W2 (W2.putObj D (.deferred none)) := belowK_b (w := W0) (Nat.le_refl _) W2 D _ _ hD hkD rfl rfl
    have r2 : (W2.putObj D (.deferred none)).cell? ⟨w.heap.size + 1 + 1, 0, none⟩ = some (.int .i64 0) := (hb.cell (p := ⟨w.heap.size + 1 + 1, 0, none⟩) (by simp; omega)).trans (by rw [e2.cell]; rfl)
    have r3 : (W2.putObj D (.deferred none)).cell? ⟨w.heap.size + 1 + 1 + 1, 0, none⟩ = some (.bool false) := (hb.cell (p := ⟨w.heap.size + 1 + 1 + 1, 0, none⟩) (by simp; omega)).trans (by rw [e3.cell]; rfl)
    have hfin : Hid (NextIs bd sb tb s dl w (.returned (.tuple #[.int .i64 0, .bool false])) (W2.putObj D (.deferred none))) := by
      apply Lib.hid
      unfold NextIs
      rw [HW.out]
      exact ⟨rfl, (((HK0.out.trans HKW.out).then hU2 (fun i hi e => by omega)).then (below_upd hb) (fun i hi e => by omega))⟩
    clear hW2 hU2 e2 e3 hb HW HKW HK0 q2 q3 g2 g3
    refine ⟨by simp, .inl ⟨_, _, rfl, run_takeDeferred hkD, ?_⟩⟩
    exact ⟨_, by simp [results, Try.results10, go_sem, r2, r3], hfin.out⟩
  case stop =>
    rintro D cd pre W hD ⟨k, hk, rfl⟩ ⟨rfl, Wx, hx1, hx2, hx3⟩ hK
    obtain ⟨p, x, hp, hall, hnot, hSc, q2, q3⟩ := hx2.who
    obtain ⟨m, rfl, rfl, rfl⟩ := upto_snoc hp.symm
    have hw : s.who dl = some ((fromOf s.told.length s.last s.picks + m) % s.told.length) := whoAt_some m (by omega) (fun j hj => hall _ (mem_upto (f := nth s.told.length (fromOf s.told.length s.last s.picks) n1) hj)) hnot
    refine wpIn_wide.2 ?_
    go_wp2_with fail
    have hb : Below W0.heap.size Wx (W.putObj D (.deferred none)) := hx3.trans (belowK_b (w := W0) (Nat.le_refl _) W D _ _ hD hK rfl rfl)
    have r2 := (hb.cell (p := ⟨w.heap.size + 1 + 1, 0, none⟩) (by simp; omega)).trans q2
    have r3 := (hb.cell (p := ⟨w.heap.size + 1 + 1 + 1, 0, none⟩) (by simp; omega)).trans q3
    have hfin : Hid (NextIs bd sb tb s dl w (.returned (.tuple #[.int .i64 (((nth s.told.length (fromOf s.told.length s.last s.picks) n1 m : Fin _) : Nat) : Int), .bool true])) (W.putObj D (.deferred none))) := by
      apply Lib.hid
      unfold NextIs
      rw [hw]
      have hs := hk0.size
      refine ⟨rfl, hSc.below hb (by omega) (by omega) (fun k hk => by have := hbd k hk; omega), ?_⟩
      exact ((hk0.wide (fun k _ e => e.elim)).then hx2.upd (fun i hi e => by rcases e with e | e; exact e; omega)).then (below_upd hb) (fun i hi e => by omega)
    refine ⟨by simp, .inl ⟨_, _, rfl, run_takeDeferred hK, ?_⟩⟩
    exact ⟨_, by simp only [results, Try.results10]; simp [go_sem, r2, r3], hfin.out⟩
end Go.Proofs.Ytacacnjpfflbnaa
