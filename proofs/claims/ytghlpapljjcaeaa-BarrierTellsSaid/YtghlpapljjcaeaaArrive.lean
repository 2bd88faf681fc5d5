/- Package barrier: one machine, and rows of machines: what an access does. -/
import Derived.Test.YtghlpapljjcaeaaBankAdd
import Derived.Test.YtghlpapljjcaeaaBankNew
import Derived.Test.YtghlpapljjcaeaaPlan
import Derived.Laws.EntriesVeiled
import Derived.Deep.CutRange
import Derived.Deep.RegionHeld3
namespace Go.Proofs.Ytghlpapljjcaeaa
set_option linter.unusedVariables false
open Go.RowKit

theorem Blk.newAt (w : World) (arr : Array Value) (T : TypeId) (k : Nat) (h : k = w.heap.size) : Blk (w.alloc (.cells arr T)) k arr T := by subst h; exact Blk.new w arr T
theorem flat_at {α : Type} (k : Nat) : ∀ (ls : List (List α)), (∀ l ∈ ls, l.length = k) → ∀ i j, j < k → (h : i < ls.length) → ls.flatten[i * k + j]? = (ls[i])[j]?
  | [], _, i, j, _, h => by simp at h
  | l :: ls, hl, 0, j, hj, h => by
    have : l.length = k := hl l (by simp)
    simp [List.getElem?_append_left (show j < l.length by omega)]
  | l :: ls, hl, i + 1, j, hj, h => by
    have h0 : l.length = k := hl l (by simp)
    have := flat_at k ls (fun x hx => hl x (by simp [hx])) i j hj (by simpa using h)
    rw [List.flatten_cons, List.getElem?_append_right (by rw [h0, Nat.add_mul]; omega), h0, show (i + 1) * k + j - k = i * k + j by rw [Nat.add_mul]; omega, this]
    simp
theorem flat_set {α : Type} (k : Nat) (v : α) : ∀ (ls : List (List α)), (∀ l ∈ ls, l.length = k) → ∀ i j, j < k → (h : i < ls.length) → ls.flatten.set (i * k + j) v = (ls.set i ((ls[i]).set j v)).flatten
  | [], _, i, j, _, h => by simp at h
  | l :: ls, hl, 0, j, hj, h => by
    have : l.length = k := hl l (by simp)
    simp [List.set_append_left _ _ (show j < l.length by omega)]
  | l :: ls, hl, i + 1, j, hj, h => by
    have h0 : l.length = k := hl l (by simp)
    have := flat_set k v ls (fun x hx => hl x (by simp [hx])) i j hj (by simpa using h)
    rw [List.flatten_cons, List.set_append_right _ _ (by rw [h0, Nat.add_mul]; omega), h0, show (i + 1) * k + j - k = i * k + j by rw [Nat.add_mul]; omega, this]
    simp

/-- A machine: what is next, its own sense, whether it is the last one. -/
structure MS where
  nx : Int
  own : Int
  last : Bool
def mcell (n s : Int) (m : MS) : List Value := [.int .i64 2, .int .i64 1, .int .i64 n, .int .i64 2, .int .i64 0, .int .i64 1, .int .i64 3, .int .i64 5, .int .i64 7, .int .i64 8, .int .i64 9, .int .i64 10, .int .i64 11, .int .i64 s, .int .u8 m.nx, .int .i64 m.own, .bool m.last]
def mrow (n s : Int) (ms : List MS) : List Value := (ms.map (mcell n s)).flatten
theorem mcell_len (n s : Int) (ms : List MS) : ∀ l ∈ ms.map (mcell n s), l.length = 17 := by
  intro l hl
  obtain ⟨m, _, rfl⟩ := List.mem_map.1 hl
  rfl
theorem mrow_at (n s : Int) (ms : List MS) (i j : Nat) (hj : j < 17) (hi : i < ms.length) : (mrow n s ms)[i * 17 + j]? = (mcell n s ms[i])[j]? := by
  have := flat_at 17 (ms.map (mcell n s)) (mcell_len n s ms) i j hj (by simpa using hi)
  simpa [mrow] using this
theorem mrow_set (n s : Int) (ms : List MS) (i j : Nat) (v : Value) (m : MS) (hj : j < 17) (hi : i < ms.length) (hm : (mcell n s ms[i]).set j v = mcell n s m) : (mrow n s ms).set (i * 17 + j) v = mrow n s (ms.set i m) := by
  have := flat_set 17 v (ms.map (mcell n s)) (mcell_len n s ms) i j hj (by simpa using hi)
  rw [mrow, this]
  simp only [List.getElem_map, hm]
  rw [mrow, List.map_set]
/-- A block of rows of k cells. -/
structure Rows (w : World) (b k : Nat) (T : TypeId) (ls : List (List Value)) : Prop where
  blk : Blk w b ls.flatten.toArray T
  len : ∀ l ∈ ls, l.length = k
theorem Rows.upd {w w' : World} {b k : Nat} {T : TypeId} {ls : List (List Value)} {S : Nat → Prop} (h : Rows w b k T ls) (hu : Upd S w w') (hs : ¬ S b) : Rows w' b k T ls := ⟨h.blk.upd hu hs, h.len⟩
theorem Rows.kept {w w' : World} {b k : Nat} {T : TypeId} {ls : List (List Value)} (h : Rows w b k T ls) (hu : Kept w w') : Rows w' b k T ls := h.upd hu (fun f => f)
theorem Rows.cell {w : World} {b k : Nat} {T : TypeId} {ls : List (List Value)} (h : Rows w b k T ls) {i o : Nat} {l : List Value} (hi : ls[i]? = some l) (ho : o = i * k) (j : Nat) (hj : j < k) : w.cell? ⟨b, o + j, none⟩ = l[j]? := by
  subst ho
  obtain ⟨h1, rfl⟩ := List.getElem?_eq_some_iff.1 hi
  rw [h.blk.cell]
  simpa using flat_at k ls h.len i j hj h1
theorem Rows.put {w : World} {b k i j : Nat} {T : TypeId} {ls : List (List Value)} (h : Rows w b k T ls) (hi : i < ls.length) (hj : j < k) (v : Value) : Rows (w.setCell ⟨b, i * k + j, none⟩ v) b k T (ls.set i ((ls[i]).set j v)) := by
  refine ⟨?_, fun l hl => ?_⟩
  · have := h.blk.set (i * k + j) v
    rw [List.setIfInBounds_toArray, flat_set k v ls h.len i j hj hi] at this
    exact this
  · rcases List.mem_or_eq_of_mem_set hl with h1 | rfl
    · exact h.len l h1
    · rw [List.length_set]; exact h.len _ (List.getElem_mem hi)
/-- A block of machines, and whatever else its array has room for. -/
def Mach (w : World) (mb : Nat) (n s : Int) (ms : List MS) : Prop := ∃ ls, Rows w mb 17 46 (ms.map (mcell n s) ++ ls)
theorem Mach.upd {w w' : World} {mb : Nat} {n s : Int} {ms : List MS} {S : Nat → Prop} (h : Mach w mb n s ms) (hu : Upd S w w') (hn : ¬ S mb) : Mach w' mb n s ms := let ⟨ls, h⟩ := h; ⟨ls, h.upd hu hn⟩
theorem Mach.kept {w w' : World} {mb : Nat} {n s : Int} {ms : List MS} (h : Mach w mb n s ms) (hu : Kept w w') : Mach w' mb n s ms := let ⟨ls, h⟩ := h; ⟨ls, h.kept hu⟩
theorem Mach.lt {w : World} {mb : Nat} {n s : Int} {ms : List MS} (h : Mach w mb n s ms) : mb < w.heap.size := let ⟨ls, h⟩ := h; h.blk.lt
theorem Mach.cell {w : World} {mb : Nat} {n s : Int} {ms : List MS} {m : MS} (h : Mach w mb n s ms) {i o : Nat} (hi : ms[i]? = some m) (ho : o = i * 17) (j : Nat) (hj : j < 17) : w.cell? ⟨mb, o + j, none⟩ = (mcell n s m)[j]? := by
  obtain ⟨ls, h⟩ := h
  obtain ⟨h1, h2⟩ := List.getElem?_eq_some_iff.1 hi
  exact h.cell (i := i) (by rw [List.getElem?_append_left (by simpa using h1), List.getElem?_map, hi]; rfl) ho j hj
theorem Mach.free {w : World} {mb : Nat} {n s : Int} {ms : List MS} (h : Mach w mb n s ms) (j : Nat) : w.frozen? ⟨mb, j, none⟩ = false := let ⟨ls, h⟩ := h; h.blk.free j
theorem Mach.set {w : World} {mb : Nat} {n s : Int} {ms : List MS} {m : MS} (h : Mach w mb n s ms) {i o : Nat} (hi : ms[i]? = some m) (ho : o = i * 17) (j : Nat) (hj : j < 17) (v : Value) (m' : MS) (hm : (mcell n s m).set j v = mcell n s m') : Mach (w.setCell ⟨mb, o + j, none⟩ v) mb n s (ms.set i m') := by
  subst ho
  obtain ⟨ls, h⟩ := h
  obtain ⟨h1, rfl⟩ := List.getElem?_eq_some_iff.1 hi
  have hl : i < (ms.map (mcell n s)).length := by simpa using h1
  have h2 := h.put (i := i) (j := j) (by rw [List.length_append]; omega) hj v
  refine ⟨ls, ?_⟩
  rw [List.map_set, ← hm, ← List.set_append_left _ _ hl]
  rw [List.getElem_append_left hl, List.getElem_map] at h2
  exact h2
theorem set_at {α : Type} {ms : List α} {i : Nat} {m : α} (h : ms[i]? = some m) (m' : α) : (ms.set i m')[i]? = some m' := by
  obtain ⟨h1, _⟩ := List.getElem?_eq_some_iff.1 h
  simp [h1]
theorem upd2 {w w' : World} {g mb j : Nat} (h : Upd (fun k => k = g ∨ k = mb) w w') (v : Value) : Upd (fun k => k = g ∨ k = mb) w (w'.setCell ⟨mb, j, none⟩ v) := h.setCell (p := ⟨mb, j, none⟩) (.inl (.inr rfl)) v
/-- What an access leaves, and is followed by. -/
def Went (mb bb g : Nat) (n s : Int) (ms : List MS) (xs : List Int) (nx : Int) (w : World) (e : Ending) (w' : World) : Prop := e = .returned (.int .u8 nx) ∧ Mach w' mb n s ms ∧ Bnk w' bb g xs ∧ Upd (fun k => k = g ∨ k = mb) w w'

set_option maxRecDepth 100000 in
theorem look_any {w : World} {mb bb g : Nat} {n s : Int} {ms : List MS} {xs : List Int} {nx own : Int} {last : Bool} (i o : Nat) (ho : o = i * 17) (hi : ms[i]? = some ⟨nx, own, last⟩) (hm : Mach w mb n s ms) (hb : Bnk w bb g xs) (hne : ¬ mb = g ∧ ¬ mb = bb) (r : Int) (hr : (if bget xs 10 = 0 then (1 : Int) else 0) = r) :
    Calls Try.prog 27 #[.pointer (some ⟨mb, o, none⟩), .pointer (some ⟨bb, 0, none⟩)] w (Went mb bb g n s (ms.set i ⟨nx, r, last⟩) xs 1 w) := by
  have f15 := hm.free (o + 15)
  have c15 : w.cell? ⟨mb, o + 15, none⟩ = some (.int .i64 own) := by rw [hm.cell hi ho 15 (by omega)]; rfl
  have h1 := hm.set hi ho 15 (by omega) (.int .i64 1) ⟨nx, 1, last⟩ rfl
  have hi1 := set_at hi (⟨nx, 1, last⟩ : MS)
  have hU := upd2 (g := g) (Upd.refl _ w) (mb := mb) (j := o + 15) (.int .i64 1)
  have hB := hb.upd (updCell w mb (o + 15) (.int .i64 1)) (fun e => hne.2 e.symm) (fun e => hne.1 e.symm)
  have d11 : (w.setCell ⟨mb, o + 15, none⟩ (.int .i64 1)).cell? ⟨mb, o + 11, none⟩ = some (.int .i64 10) := by rw [h1.cell hi1 ho 11 (by omega)]; rfl
  have d15 : (w.setCell ⟨mb, o + 15, none⟩ (.int .i64 1)).cell? ⟨mb, o + 15, none⟩ = some (.int .i64 1) := by rw [h1.cell hi1 ho 15 (by omega)]; rfl
  have h2 := h1.set hi1 ho 15 (by omega) (.int .i64 0) ⟨nx, 0, last⟩ rfl
  rw [List.set_set] at h2
  have g15 := h1.free (o + 15)
  have H1 := Lib.hid h1
  have H2 := Lib.hid h2
  have HU := Lib.hid hU
  have HB := Lib.hid hB
  have HR := Lib.hid hr
  have HNE := Lib.hid hne
  clear hm hb h1 h2 hU hB hr ho hi hi1 hne
  go_enter Try.func27, Try.ntmps27
  by_cases hz : bget xs 10 = 0
  · have hr := HR.out
    rw [if_pos hz] at hr
    subst hr
    go_wp2_with fail
    refine (Load_is HB.out 10 0 hz).mono ?_
    rintro e w' ⟨rfl, rfl⟩
    go_wp2
    exact bodyPost_ret (v := .int .u8 1) (by simp [results, Try.results27, go_sem]) rfl ⟨rfl, H1.out, HB.out, HU.out⟩
  · have hr := HR.out
    rw [if_neg hz] at hr
    subst hr
    go_wp2_with fail
    refine (Load_is HB.out 10 _ rfl).mono ?_
    rintro e w' ⟨rfl, rfl⟩
    go_wp2
    exact bodyPost_ret (v := .int .u8 1) (by simp [results, Try.results27, go_sem]) rfl ⟨rfl, H2.out, HB.out.upd (updCell _ mb (o + 15) (.int .i64 0)) (fun e => HNE.out.2 e.symm) (fun e => HNE.out.1 e.symm), upd2 HU.out _⟩

set_option maxRecDepth 100000 in
theorem come_any {w : World} {mb bb g : Nat} {n s : Int} {ms : List MS} {xs : List Int} {nx own : Int} {last : Bool} (i o : Nat) (ho : o = i * 17) (hi : ms[i]? = some ⟨nx, own, last⟩) (hm : Mach w mb n s ms) (hb : Bnk w bb g xs) (hlen : 9 < xs.length) (hne : ¬ mb = g ∧ ¬ mb = bb) (r : Int) (z : Bool) (hr : wrap64 (bget xs 9 + -1) = r) (hz : (r == 0) = z) (k : Int) (hk : (if z then (2 : Int) else 4) = k) :
    Calls Try.prog 28 #[.pointer (some ⟨mb, o, none⟩), .pointer (some ⟨bb, 0, none⟩)] w (Went mb bb g n s (ms.set i ⟨nx, own, z⟩) (bput xs 9 r) k w) := by
  have c10 : w.cell? ⟨mb, o + 10, none⟩ = some (.int .i64 9) := by rw [hm.cell hi ho 10 (by omega)]; rfl
  have HM := Lib.hid hm
  have HI := Lib.hid hi
  have HO := Lib.hid ho
  have HB := Lib.hid hb
  have HNE := Lib.hid hne
  have HA := Lib.hid (Add_is hb 9 (-1) r (bput xs 9 r) (by rw [if_pos ⟨by omega, by omega⟩]; exact hr) (by rw [hr]))
  have HK := Lib.hid hk
  clear hm hb hr ho hi hne hlen hk
  go_enter Try.func28, Try.ntmps28
  go_wp2_with fail
  refine HA.out.mono ?_
  rintro e w1 ⟨rfl, hB, hU⟩
  have hm1 := HM.out.upd hU HNE.out.1
  have d16 : w1.cell? ⟨mb, o + 16, none⟩ = some (.bool last) := by rw [hm1.cell HI.out HO.out 16 (by omega)]; rfl
  have f16 := hm1.free (o + 16)
  have h1 := hm1.set HI.out HO.out 16 (by omega) (.bool z) ⟨nx, own, z⟩ rfl
  have e16 : (w1.setCell ⟨mb, o + 16, none⟩ (.bool z)).cell? ⟨mb, o + 16, none⟩ = some (.bool z) := by rw [h1.cell (set_at HI.out _) HO.out 16 (by omega)]; rfl
  have HF : Hid (Went mb bb g n s (ms.set i ⟨nx, own, z⟩) (bput xs 9 r) k w (.returned (.int .u8 k)) (w1.setCell ⟨mb, o + 16, none⟩ (.bool z))) :=
    Lib.hid ⟨rfl, h1, hB.upd (updCell _ mb (o + 16) _) (fun e => HNE.out.2 e.symm) (fun e => HNE.out.1 e.symm), upd2 (hU.wide fun k _ e => .inl e) _⟩
  clear hB hU hm1 h1 HA HM HB c10
  cases z with
  | true =>
    obtain rfl : k = 2 := HK.out.symm
    go_wp2
    exact bodyPost_ret (v := .int .u8 2) (by simp [results, Try.results28, go_sem]) rfl HF.out
  | false =>
    obtain rfl : k = 4 := HK.out.symm
    go_wp2
    exact bodyPost_ret (v := .int .u8 4) (by simp [results, Try.results28, go_sem]) rfl HF.out

set_option maxRecDepth 100000 in
theorem reset_any {w : World} {mb bb g : Nat} {n s : Int} {ms : List MS} {xs : List Int} {nx own : Int} {last : Bool} (i o : Nat) (ho : o = i * 17) (hi : ms[i]? = some ⟨nx, own, last⟩) (hm : Mach w mb n s ms) (hb : Bnk w bb g xs) (hne : ¬ mb = g ∧ ¬ mb = bb) :
    Calls Try.prog 29 #[.pointer (some ⟨mb, o, none⟩), .pointer (some ⟨bb, 0, none⟩)] w (Went mb bb g n s ms (bput xs 9 n) 3 w) := by
  have c10 : w.cell? ⟨mb, o + 10, none⟩ = some (.int .i64 9) := by rw [hm.cell hi ho 10 (by omega)]; rfl
  have c2 : w.cell? ⟨mb, o + 2, none⟩ = some (.int .i64 n) := by rw [hm.cell hi ho 2 (by omega)]; rfl
  have HM := Lib.hid hm
  have HB := Lib.hid hb
  have HNE := Lib.hid hne
  have HI := Lib.hid hi
  have HO := Lib.hid ho
  clear hm hb ho hi hne
  go_enter Try.func29, Try.ntmps29
  go_wp2_with fail
  go_region_held3 (fun w' => w'.cell? ⟨mb, o + 10, none⟩ = some (.int .i64 9) ∧ w'.cell? ⟨mb, o + 2, none⟩ = some (.int .i64 n))
    (first | exact ⟨c10, c2⟩ | exact ⟨d10, d2⟩)
    ((first
      | (go_at_call 19; refine (Store_is (HB.out.kept (Upd.refl _ _).drew) 9 n _ rfl).mono ?_; rintro e w1 ⟨rfl, hB, hU⟩; have HM1 := Lib.hid ((HM.out.kept (Upd.refl _ _).drew).upd hU HNE.out.1); have HB1 := Lib.hid hB; have HU1 := Lib.hid (((Upd.refl (fun k => k = g ∨ k = mb) w).drew).then hU (fun i h e => .inl e)); have d10 : w1.cell? ⟨mb, o + 10, none⟩ = some (.int .i64 9) := (by rw [HM1.out.cell HI.out HO.out 10 (by omega)]; rfl); have d2 : w1.cell? ⟨mb, o + 2, none⟩ = some (.int .i64 n) := (by rw [HM1.out.cell HI.out HO.out 2 (by omega)]; rfl); clear hB hU)))
  clear HM HB c10 c2 d10 d2
  go_wp2
  exact bodyPost_ret (v := .int .u8 3) (by simp [results, Try.results29, go_sem]) rfl ⟨rfl, HM1.out, HB1.out, HU1.out⟩

set_option maxRecDepth 100000 in
theorem turn_any {w : World} {mb bb g : Nat} {n s : Int} {ms : List MS} {xs : List Int} {nx own : Int} {last : Bool} (i o : Nat) (ho : o = i * 17) (hi : ms[i]? = some ⟨nx, own, last⟩) (hm : Mach w mb n s ms) (hb : Bnk w bb g xs) (hne : ¬ mb = g ∧ ¬ mb = bb) :
    Calls Try.prog 30 #[.pointer (some ⟨mb, o, none⟩), .pointer (some ⟨bb, 0, none⟩)] w (Went mb bb g n s ms (bput xs 10 own) 5 w) := by
  have c11 : w.cell? ⟨mb, o + 11, none⟩ = some (.int .i64 10) := by rw [hm.cell hi ho 11 (by omega)]; rfl
  have c15 : w.cell? ⟨mb, o + 15, none⟩ = some (.int .i64 own) := by rw [hm.cell hi ho 15 (by omega)]; rfl
  have HM := Lib.hid hm
  have HB := Lib.hid hb
  have HNE := Lib.hid hne
  have HI := Lib.hid hi
  have HO := Lib.hid ho
  clear hm hb ho hi hne
  go_enter Try.func30, Try.ntmps30
  go_wp2_with fail
  go_region_held3 (fun w' => w'.cell? ⟨mb, o + 11, none⟩ = some (.int .i64 10) ∧ w'.cell? ⟨mb, o + 15, none⟩ = some (.int .i64 own))
    (first | exact ⟨c11, c15⟩ | exact ⟨d11, d15⟩)
    ((first
      | (go_at_call 19; refine (Store_is (HB.out.kept (Upd.refl _ _).drew) 10 own _ rfl).mono ?_; rintro e w1 ⟨rfl, hB, hU⟩; have HM1 := Lib.hid ((HM.out.kept (Upd.refl _ _).drew).upd hU HNE.out.1); have HB1 := Lib.hid hB; have HU1 := Lib.hid (((Upd.refl (fun k => k = g ∨ k = mb) w).drew).then hU (fun i h e => .inl e)); have d11 : w1.cell? ⟨mb, o + 11, none⟩ = some (.int .i64 10) := (by rw [HM1.out.cell HI.out HO.out 11 (by omega)]; rfl); have d15 : w1.cell? ⟨mb, o + 15, none⟩ = some (.int .i64 own) := (by rw [HM1.out.cell HI.out HO.out 15 (by omega)]; rfl); clear hB hU)))
  clear HM HB c11 c15 d11 d15
  go_wp2
  exact bodyPost_ret (v := .int .u8 5) (by simp [results, Try.results30, go_sem]) rfl ⟨rfl, HM1.out, HB1.out, HU1.out⟩

set_option maxRecDepth 100000 in
theorem wait_any {w : World} {mb bb g : Nat} {n s : Int} {ms : List MS} {xs : List Int} {nx own : Int} {last : Bool} (i o : Nat) (ho : o = i * 17) (hi : ms[i]? = some ⟨nx, own, last⟩) (hm : Mach w mb n s ms) (hb : Bnk w bb g xs) (k : Int) (hk : (if bget xs 10 = own then (5 : Int) else 4) = k) :
    Calls Try.prog 31 #[.pointer (some ⟨mb, o, none⟩), .pointer (some ⟨bb, 0, none⟩)] w (Went mb bb g n s ms xs k w) := by
  have c11 : w.cell? ⟨mb, o + 11, none⟩ = some (.int .i64 10) := by rw [hm.cell hi ho 11 (by omega)]; rfl
  have c15 : w.cell? ⟨mb, o + 15, none⟩ = some (.int .i64 own) := by rw [hm.cell hi ho 15 (by omega)]; rfl
  have HM := Lib.hid hm
  have HB := Lib.hid hb
  have HI := Lib.hid hi
  have HO := Lib.hid ho
  obtain ⟨x, hx⟩ : ∃ x, bget xs 10 = x := ⟨_, rfl⟩
  rw [hx] at hk
  have HX := Lib.hid hx
  have HK := Lib.hid hk
  clear hm hb ho hi hx hk
  go_enter Try.func31, Try.ntmps31
  go_wp2_with fail
  go_region_held3 (fun w' => w'.cell? ⟨mb, o + 11, none⟩ = some (.int .i64 10) ∧ w'.cell? ⟨mb, o + 15, none⟩ = some (.int .i64 own))
    (exact ⟨c11, c15⟩)
    ((first
      | (go_at_call 10; refine (Load_is (HB.out.kept (Upd.refl _ _).drew) 10 x HX.out).mono ?_; rintro e w' ⟨rfl, rfl⟩)))
  have HF : Hid (Went mb bb g n s ms xs k w (.returned (.int .u8 k)) w.drew) := Lib.hid ⟨rfl, HM.out.kept (Upd.refl _ _).drew, HB.out.kept (Upd.refl _ _).drew, (Upd.refl _ _).drew⟩
  clear HM HB c11 c15
  by_cases hxo : x = own
  · have hz : (x == own) = true := by simp [hxo]
    obtain rfl : k = 5 := by have := HK.out; rw [if_pos hxo] at this; exact this.symm
    clear hxo
    go_wp2
    exact bodyPost_ret (v := .int .u8 5) (by simp [results, Try.results31, go_sem]) rfl HF.out
  · have hz : (x == own) = false := by simp [hxo]
    obtain rfl : k = 4 := by have := HK.out; rw [if_neg hxo] at this; exact this.symm
    clear hxo
    go_wp2
    exact bodyPost_ret (v := .int .u8 4) (by simp [results, Try.results31, go_sem]) rfl HF.out
end Go.Proofs.Ytghlpapljjcaeaa
