/- (*crowd).step. (printed by gen_crowd.py) -/
import Derived.Test.YtghlpapljjcaeaaCrowd
import Derived.Test.YtghlpapljjcaeaaQuietTail
import Derived.Test.YtghlpapljjcaeaaUnblock
import Derived.Deep.RegionHeld3
import Derived.Deep.RegionHeldLaw
import Derived.Deep.LoopGhost
namespace Go.Proofs.Ytghlpapljjcaeaa
set_option linter.unusedVariables false
set_option linter.unusedSimpArgs false
open Go.RowKit
attribute [local go_sem] cell?_ext

theorem newArr (n s : Nat) (w : World) : Calls Try.prog 13 #[.agg #[.int .i64 2, .int .i64 1, .int .i64 (n : Int), .int .i64 2, .int .i64 0, .int .i64 1, .int .i64 3, .int .i64 5, .int .i64 7, .int .i64 8, .int .i64 9, .int .i64 10, .int .i64 11, .int .i64 (s : Int)]] w fun e w' => e = .returned (.agg #[.int .i64 2, .int .i64 1, .int .i64 (n : Int), .int .i64 2, .int .i64 0, .int .i64 1, .int .i64 3, .int .i64 5, .int .i64 7, .int .i64 8, .int .i64 9, .int .i64 10, .int .i64 11, .int .i64 (s : Int), .int .u8 0, .int .i64 0, .bool false]) ∧ Kept w w' := NewArrive_any n s w
/-- A machine stored whole. -/
theorem Mach.over {w : World} {mb n s : Nat} {ms : List MS} (h : Mach w mb n s ms) {i : Nat} (hi : i < ms.length) (m0 : MS) :
    Mach (w.setCells mb (i * 17) (mcell (n : Int) (s : Int) m0)) mb n s (ms.set i m0) ∧ Upd (fun x => x = mb) w (w.setCells mb (i * 17) (mcell (n : Int) (s : Int) m0)) ∧ w.there mb (i * 17) 17 := by
  obtain ⟨ls, h⟩ := h
  have hl : i < (ms.map (mcell (n : Int) (s : Int))).length := by simpa using hi
  have hr : (ms.map (mcell (n : Int) (s : Int)) ++ ls)[i]? = some (mcell (n : Int) (s : Int) ms[i]) := by rw [List.getElem?_append_left hl, List.getElem?_map, List.getElem?_eq_getElem hi]; rfl
  have h2 := Rows.over (mcell (n : Int) (s : Int) m0) w _ _ 0 h hr (by show 0 + 17 ≤ 17; omega)
  rw [ow_full _ _ 0 (by rfl)] at h2
  simp only [List.take_zero, List.nil_append, Nat.add_zero] at h2
  refine ⟨⟨ls, ?_⟩, h2.2, fun j hj => ?_⟩
  · rw [List.map_set, ← List.set_append_left _ _ hl]
    exact h2.1
  · rw [h.cell hr rfl j hj]
    exact ⟨by show ((mcell (n : Int) (s : Int) ms[i])[j]?).isSome = true; rw [List.getElem?_eq_getElem (by exact hj)]; rfl, h.blk.free _⟩
/-- A crowd: p phases ended; the count is C. -/
structure CrS (w0 : World) (Sx : Nat → Prop) (xb bb g mb gb db B n s capn : Nat) (L : List Int) (p C : Nat) (ws : List Wk) (la : Option Addr) (lk lc : Nat) (wr : World) : Prop where
  ex : ∃ ms, CW w0 Sx xb bb g mb gb db B n s capn L ms (ws.map Wk.b) (ws.map (·.d)) (List.replicate p 1) C ((p % 2 : Nat) : Int) la lk lc wr ∧ ∀ (j : Nat) (w : Wk) (m : MS), ws[j]? = some w → ms[j]? = some m → w.st ≠ 0 → m = machOf w
  inv : BarI n p C ws
theorem CrS.kept {w0 : World} {Sx : Nat → Prop} {xb bb g mb gb db B n s capn : Nat} {L : List Int} {p C : Nat} {ws : List Wk} {la : Option Addr} {lk lc : Nat} {wr w' : World} (h : CrS w0 Sx xb bb g mb gb db B n s capn L p C ws la lk lc wr) (k : Kept wr w') : CrS w0 Sx xb bb g mb gb db B n s capn L p C ws la lk lc w' := by
  obtain ⟨ms, h1, h2⟩ := h.ex
  exact ⟨⟨ms, h1.kept k, h2⟩, h.inv⟩
/-- What a step of a crowd leaves. -/
def CStep (w0 : World) (Sx : Nat → Prop) (xb bb g mb gb db B n s capn : Nat) (L : List Int) (p C : Nat) (ws : List Wk) (i : Nat) (w : Wk) (e : Ending) (wz : World) : Prop :=
  e = .returned (.bool true) ∧ ∃ (m' : MS) (z : Bool) (w' : Wk) (C' p' : Nat) (la : Option Addr) (lk lc : Nat), Goes n p C ws i w m' z w' C' p' ∧ CrS w0 Sx xb bb g mb gb db B n s capn L p' C' (ws.set i w') la lk lc wz
theorem CrS.passed {w0 : World} {Sx : Nat → Prop} {xb bb g mb gb db B n s capn : Nat} {L : List Int} {p C : Nat} {ws : List Wk} {i : Nat} {w w' : Wk} {m' : MS} {C' p' : Nat} {ms ms' : List MS} {la : Option Addr} {lk lc : Nat} {wz : World}
    (hC : CW w0 Sx xb bb g mb gb db B n s capn L (ms'.set i m') ((ws.map Wk.b).set i (w.d + 1)) ((ws.map (·.d)).set i (w.d + 1)) (List.replicate p' 1) C' ((p' % 2 : Nat) : Int) la lk lc wz) (hw : ws[i]? = some w)
    (hrel : ∀ (j : Nat) (w : Wk) (m : MS), ws[j]? = some w → ms[j]? = some m → w.st ≠ 0 → m = machOf w) (ho : ∀ j, j ≠ i → ms'[j]? = ms[j]?) (hgo : Goes n p C ws i w m' true w' C' p') : CrS w0 Sx xb bb g mb gb db B n s capn L p' C' (ws.set i w') la lk lc wz := by
  obtain ⟨g1, -, g2⟩ := hgo
  obtain ⟨g3, g4, -⟩ := g2 rfl
  have hil := (List.getElem?_eq_some_iff.1 hw).1
  refine ⟨⟨ms'.set i m', ?_, fun j x m hx hm hs => ?_⟩, g1⟩
  · rw [List.map_set, List.map_set, show w'.b = w.d + 1 by unfold Wk.b; rw [if_pos g3, g4], g4]
    exact hC
  · by_cases e : j = i
    · subst e
      rw [List.getElem?_set_self hil] at hx
      cases hx
      exact absurd g3 hs
    · rw [List.getElem?_set_ne (fun e2 => e e2.symm)] at hx hm
      rw [ho j e] at hm
      exact hrel j x m hx hm hs
theorem CrS.stay {w0 : World} {Sx : Nat → Prop} {xb bb g mb gb db B n s capn : Nat} {L : List Int} {p C : Nat} {ws : List Wk} {i : Nat} {w w' : Wk} {m' : MS} {C' p' : Nat} {ms ms' : List MS} {la : Option Addr} {lk lc : Nat} {wz : World}
    (hC : CW w0 Sx xb bb g mb gb db B n s capn L (ms'.set i m') ((ws.map Wk.b).set i (w.d + 1)) (ws.map (·.d)) (List.replicate p 1) C' ((p' % 2 : Nat) : Int) la lk lc wz) (hw : ws[i]? = some w)
    (hrel : ∀ (j : Nat) (w : Wk) (m : MS), ws[j]? = some w → ms[j]? = some m → w.st ≠ 0 → m = machOf w) (ho : ∀ j, j ≠ i → ms'[j]? = ms[j]?) (hgo : Goes n p C ws i w m' false w' C' p') : CrS w0 Sx xb bb g mb gb db B n s capn L p' C' (ws.set i w') la lk lc wz := by
  obtain ⟨g1, g2, -⟩ := hgo
  obtain ⟨rfl, g3, g4, g5, -⟩ := g2 rfl
  have hil := (List.getElem?_eq_some_iff.1 hw).1
  refine ⟨⟨ms'.set i m', ?_, fun j x m hx hm hs => ?_⟩, g1⟩
  · have e1 : (ws.set i w').map Wk.b = (ws.map Wk.b).set i (w.d + 1) := by
      rw [List.map_set, show w'.b = w.d + 1 by unfold Wk.b; rw [if_neg g3, g4]]
    have e2 : (ws.set i w').map (·.d) = ws.map (·.d) := by
      rw [List.map_set, g4]
      have h1 : (ws.map (·.d))[i]? = some w.d := by rw [List.getElem?_map, hw]; rfl
      obtain ⟨h2, h3⟩ := List.getElem?_eq_some_iff.1 h1
      rw [← h3, List.set_getElem_self]
    rw [e1, e2]
    exact hC
  · by_cases e : j = i
    · subst e
      rw [List.getElem?_set_self hil] at hx
      cases hx
      obtain ⟨h2, h3⟩ := List.getElem?_eq_some_iff.1 hm
      rw [List.getElem_set_self] at h3
      rw [← h3]; exact g5
    · rw [List.getElem?_set_ne (fun e2 => e e2.symm)] at hx hm
      rw [ho j e] at hm
      exact hrel j x m hx hm hs
theorem infoInt : (Try.prog.info? 3).map (fun i => (i.zero, i.size, i.bytes)) = some (some (.int .i64 0), 1, 8) := by kernel_rfl
theorem wrap_dnm (x : Nat) (h : x ≤ 1000000) : IntKind.i64.wrap (((x + 1 : Nat) : Int) - 1) = (x : Int) := by rw [IntKind.wrap_i64]; omega
theorem wrap_upm' (x : Int) (h : x = 0) : IntKind.i64.wrap (x + 1) = 1 := by subst h; decide
theorem wrap_upm (x : Nat) (h : x ≤ 1000000) : wrap64 ((x : Int) + 1) = ((x + 1 : Nat) : Int) := by unfold wrap64; omega
set_option maxRecDepth 100000 in
set_option maxHeartbeats 4000000 in
theorem crowd_step (w0 : World) (Sx : Nat → Prop) (xb bb g mb gb db B n s capn : Nat) (L : List Int) (p C : Nat) (ws : List Wk) (la : Option Addr) (lk lc : Nat) (i : Nat) (w : Wk) (wr : World) (h : CrS w0 Sx xb bb g mb gb db B n s capn L p C ws la lk lc wr) (hi : ws[i]? = some w) (hs : s = 11 + n * 4) (hn1 : 1 ≤ n) (hn12 : n ≤ 12) (hp : p ≤ 100000) :
    Calls Try.prog 8 #[.pointer (some ⟨xb, 0, none⟩), .int .i64 i] wr (CStep w0 Sx xb bb g mb gb db B n s capn L p C ws i w) := by
  obtain ⟨ms, hcw, hrel⟩ := h.ex
  have HI := Lib.hid h.inv
  have HN := Lib.hid (And.intro hn1 hn12)
  obtain ⟨m', z, w', C', p', hg, hz, h0, h5, hgo⟩ := bgo_goes h.inv hi (by omega)
  have HGO := Lib.hid hgo
  have HG := Lib.hid (And.intro hg (And.intro hz (And.intro h0 h5)))
  have HCW := Lib.hid hcw
  have HREL := Lib.hid hrel
  have HWI := Lib.hid hi
  have hil : i < n := by have h1 := (List.getElem?_eq_some_iff.1 hi).1; have h2 := h.inv.len; omega
  have HDP : Hid (w.d ≤ p) := Lib.hid (h.inv.near w (h.inv.mem hi)).1
  have HLK : Hid (lk = p) := Lib.hid (by have := hcw.len.2.2.2.2; simpa using this.symm)
  have HL : Hid (10 < L.length) := Lib.hid (by have := hcw.len.1; omega)
  clear hg hz h0 h5 hgo hcw hrel hi h hn12 hn1 hs
  have i1 : (0 : Int) ≤ (i : Int) := by omega
  have i2 : (i : Int) < (n : Int) := by omega
  obtain ⟨d, hd⟩ : ∃ d, w.d = d := ⟨_, rfl⟩
  obtain ⟨b, hb⟩ : ∃ b, w.b = b := ⟨_, rfl⟩
  have HDB := Lib.hid (And.intro hd hb)
  have hbc : wr.cell? ⟨gb, i, none⟩ = some (.int .i64 (b : Nat)) := by
    rw [HCW.out.bg.cell]
    simp only [List.getElem?_toArray, nv, List.getElem?_map, HWI.out, Option.map_some, hb]
  have hdc : wr.cell? ⟨db, i, none⟩ = some (.int .i64 (d : Nat)) := by
    rw [HCW.out.dn.cell]
    simp only [List.getElem?_toArray, nv, List.getElem?_map, HWI.out, Option.map_some, hd]
  have bx := HCW.out.box.cell
  clear hd hb
  go_enter Try.func8, Try.ntmps8
  go_upto_region 1 with (fail)
  refine wp_region_kept (by kernel_rfl) (by kernel_rfl) ?_
  repeat (go_big_quiet_step (fail))
  refine wpQuiet_nil ?_
  intro w1 hk1
  have HC1 := Lib.hid (HCW.out.kept hk1)
  have hbc1 : w1.cell? ⟨gb, i, none⟩ = some (.int .i64 (b : Nat)) := (keptCells hk1 _ (by rw [hbc]; rfl)).trans hbc
  clear hk1 hbc hdc bx HCW
  go_upto_if 21 with (fail)
  go_cut [] from 7 to 41 (fun wx => ∃ ms', Hid (CW w0 Sx xb bb g mb gb db B n s capn L ms' ((ws.map Wk.b).set i (w.d + 1)) (ws.map (·.d)) (List.replicate p 1) C ((p % 2 : Nat) : Int) la lk lc wx) ∧ Hid (ms'[i]? = some (machOf w)) ∧ Hid (∀ j, j ≠ i → ms'[j]? = ms[j]?))
  case first =>
    by_cases hst : w.st = 0
    · have hbd : b = d := by rw [← HDB.out.1, ← HDB.out.2]; unfold Wk.b; rw [if_pos hst]
      have z1 : ((b : Int) == (d : Int)) = true := by simp [hbd]
      have bx := HC1.out.box.cell
      have bf := HC1.out.bg.free i
      have hd1000 : b ≤ 1000000 := by have := HDP.out; have := HDB.out.1; omega
      have hwb : wrap64 ((b : Int) + 1) = ((b + 1 : Nat) : Int) := wrap_upm b hd1000
      have HB2 : Hid (CW w0 Sx xb bb g mb gb db B n s capn L ms ((ws.map Wk.b).set i (b + 1)) (ws.map (·.d)) (List.replicate p 1) C ((p % 2 : Nat) : Int) la lk lc (w1.setCell ⟨gb, i, none⟩ (.int .i64 ((b : Int) + 1)))) := Lib.hid (HC1.out.begin i (b + 1))
      have HBD := Lib.hid hbd
      have HST := Lib.hid hst
      clear hbd hst hd1000
      go_upto_region 3 with (fail)
      generalize (w1.setCell ⟨gb, i, none⟩ (.int .i64 ((b : Int) + 1))) = w2 at HB2 ⊢
      clear bx bf hwb hbc1 HC1
      have HMI : Hid (i < ms.length) := Lib.hid (by rw [HB2.out.len.2.1]; exact hil)
      have HML : Hid (ms.length = n) := Lib.hid HB2.out.len.2.1
      have hmc : mcell (n : Int) (s : Int) ⟨0, 0, false⟩ = [.int .i64 2, .int .i64 1, .int .i64 (n : Int), .int .i64 2, .int .i64 0, .int .i64 1, .int .i64 3, .int .i64 5, .int .i64 7, .int .i64 8, .int .i64 9, .int .i64 10, .int .i64 11, .int .i64 (s : Int), .int .u8 0, .int .i64 0, .bool false] := rfl
      obtain ⟨⟨mx, mo, ml⟩, hmo⟩ : ∃ m, ms[i]? = some m := ⟨_, List.getElem?_eq_getElem HMI.out⟩
      have HMO := Lib.hid hmo
      clear hmo
      have hlen : ([.int .i64 2, .int .i64 1, .int .i64 (n : Int), .int .i64 2, .int .i64 0, .int .i64 1, .int .i64 3, .int .i64 5, .int .i64 7, .int .i64 8, .int .i64 9, .int .i64 10, .int .i64 11, .int .i64 (s : Int), .int .u8 0, .int .i64 0, .bool false] : List Value).length = 17 := rfl
      have hone : ∀ v ∈ ([.int .i64 2, .int .i64 1, .int .i64 (n : Int), .int .i64 2, .int .i64 0, .int .i64 1, .int .i64 3, .int .i64 5, .int .i64 7, .int .i64 8, .int .i64 9, .int .i64 10, .int .i64 11, .int .i64 (s : Int), .int .u8 0, .int .i64 0, .bool false] : List Value), v.oneCell' = true := by simp [Value.oneCell']
      have hz17 : (Try.prog.info? 46).map (·.size) = some 17 := by kernel_rfl
      have H0 := Lib.hid (HB2.out.kept ((Upd.refl _ w2).drew))
      have C0 : (∀ ii, w2.drew.cell? ⟨xb, ii, none⟩ = (#[.int .i64 2, .int .i64 1, .int .i64 (n : Int), .int .i64 2, .int .i64 0, .int .i64 1, .int .i64 3, .int .i64 5, .int .i64 7, .int .i64 8, .int .i64 9, .int .i64 10, .int .i64 11, .int .i64 (s : Int), .pointer (some ⟨bb, 0, none⟩), .slice (some ⟨mb, 0, none⟩) n capn, .slice (some ⟨gb, 0, none⟩) n n, .slice (some ⟨db, 0, none⟩) n n, .slice la lk lc] : Array Value)[ii]?) := H0.out.box.cell
      go_region_held_law (fun w' => (∀ ii, w'.cell? ⟨xb, ii, none⟩ = (#[.int .i64 2, .int .i64 1, .int .i64 (n : Int), .int .i64 2, .int .i64 0, .int .i64 1, .int .i64 3, .int .i64 5, .int .i64 7, .int .i64 8, .int .i64 9, .int .i64 10, .int .i64 11, .int .i64 (s : Int), .pointer (some ⟨bb, 0, none⟩), .slice (some ⟨mb, 0, none⟩) n capn, .slice (some ⟨gb, 0, none⟩) n n, .slice (some ⟨db, 0, none⟩) n n, .slice la lk lc] : Array Value)[ii]?))
        (first | with_reducible exact C0 | with_reducible exact C1 | with_reducible exact C2)
        ((first
          | (go_at_call 13; refine (newArr n s _).mono ?_; rintro e w4 ⟨rfl, hk4⟩; have H4 := Lib.hid (H0.out.kept hk4); have hov := Mach.over H4.out.mach HMI.out ⟨0, 0, false⟩; rw [hmc] at hov; have H5 := Lib.hid (H4.out.anew hov.1 (by rw [List.length_set]; exact HML.out) hov.2.1); have hth : w4.there mb (i * 17) 17 := hov.2.2; have k0 : w4.cell? ⟨mb, i * 17, none⟩ = some (.int .i64 2) := H4.out.mach.cell HMO.out rfl 0 (by omega); have f0 : w4.frozen? ⟨mb, i * 17, none⟩ = false := H4.out.mach.free _; have k1 : w4.cell? ⟨mb, i * 17 + 1, none⟩ = some (.int .i64 1) := H4.out.mach.cell HMO.out rfl 1 (by omega); have f1 : w4.frozen? ⟨mb, i * 17 + 1, none⟩ = false := H4.out.mach.free _; have k2 : w4.cell? ⟨mb, i * 17 + 2, none⟩ = some (.int .i64 (n : Int)) := H4.out.mach.cell HMO.out rfl 2 (by omega); have f2 : w4.frozen? ⟨mb, i * 17 + 2, none⟩ = false := H4.out.mach.free _; have k3 : w4.cell? ⟨mb, i * 17 + 3, none⟩ = some (.int .i64 2) := H4.out.mach.cell HMO.out rfl 3 (by omega); have f3 : w4.frozen? ⟨mb, i * 17 + 3, none⟩ = false := H4.out.mach.free _; have k4 : w4.cell? ⟨mb, i * 17 + 4, none⟩ = some (.int .i64 0) := H4.out.mach.cell HMO.out rfl 4 (by omega); have f4 : w4.frozen? ⟨mb, i * 17 + 4, none⟩ = false := H4.out.mach.free _; have k5 : w4.cell? ⟨mb, i * 17 + 5, none⟩ = some (.int .i64 1) := H4.out.mach.cell HMO.out rfl 5 (by omega); have f5 : w4.frozen? ⟨mb, i * 17 + 5, none⟩ = false := H4.out.mach.free _; have k6 : w4.cell? ⟨mb, i * 17 + 6, none⟩ = some (.int .i64 3) := H4.out.mach.cell HMO.out rfl 6 (by omega); have f6 : w4.frozen? ⟨mb, i * 17 + 6, none⟩ = false := H4.out.mach.free _; have k7 : w4.cell? ⟨mb, i * 17 + 7, none⟩ = some (.int .i64 5) := H4.out.mach.cell HMO.out rfl 7 (by omega); have f7 : w4.frozen? ⟨mb, i * 17 + 7, none⟩ = false := H4.out.mach.free _; have k8 : w4.cell? ⟨mb, i * 17 + 8, none⟩ = some (.int .i64 7) := H4.out.mach.cell HMO.out rfl 8 (by omega); have f8 : w4.frozen? ⟨mb, i * 17 + 8, none⟩ = false := H4.out.mach.free _; have k9 : w4.cell? ⟨mb, i * 17 + 9, none⟩ = some (.int .i64 8) := H4.out.mach.cell HMO.out rfl 9 (by omega); have f9 : w4.frozen? ⟨mb, i * 17 + 9, none⟩ = false := H4.out.mach.free _; have k10 : w4.cell? ⟨mb, i * 17 + 10, none⟩ = some (.int .i64 9) := H4.out.mach.cell HMO.out rfl 10 (by omega); have f10 : w4.frozen? ⟨mb, i * 17 + 10, none⟩ = false := H4.out.mach.free _; have k11 : w4.cell? ⟨mb, i * 17 + 11, none⟩ = some (.int .i64 10) := H4.out.mach.cell HMO.out rfl 11 (by omega); have f11 : w4.frozen? ⟨mb, i * 17 + 11, none⟩ = false := H4.out.mach.free _; have k12 : w4.cell? ⟨mb, i * 17 + 12, none⟩ = some (.int .i64 11) := H4.out.mach.cell HMO.out rfl 12 (by omega); have f12 : w4.frozen? ⟨mb, i * 17 + 12, none⟩ = false := H4.out.mach.free _; have k13 : w4.cell? ⟨mb, i * 17 + 13, none⟩ = some (.int .i64 (s : Int)) := H4.out.mach.cell HMO.out rfl 13 (by omega); have f13 : w4.frozen? ⟨mb, i * 17 + 13, none⟩ = false := H4.out.mach.free _; have k14 : w4.cell? ⟨mb, i * 17 + 14, none⟩ = some (.int .u8 mx) := H4.out.mach.cell HMO.out rfl 14 (by omega); have f14 : w4.frozen? ⟨mb, i * 17 + 14, none⟩ = false := H4.out.mach.free _; have k15 : w4.cell? ⟨mb, i * 17 + 15, none⟩ = some (.int .i64 mo) := H4.out.mach.cell HMO.out rfl 15 (by omega); have f15 : w4.frozen? ⟨mb, i * 17 + 15, none⟩ = false := H4.out.mach.free _; have k16 : w4.cell? ⟨mb, i * 17 + 16, none⟩ = some (.bool ml) := H4.out.mach.cell HMO.out rfl 16 (by omega); have f16 : w4.frozen? ⟨mb, i * 17 + 16, none⟩ = false := H4.out.mach.free _; have C1 : (∀ ii, w4.cell? ⟨xb, ii, none⟩ = (#[.int .i64 2, .int .i64 1, .int .i64 (n : Int), .int .i64 2, .int .i64 0, .int .i64 1, .int .i64 3, .int .i64 5, .int .i64 7, .int .i64 8, .int .i64 9, .int .i64 10, .int .i64 11, .int .i64 (s : Int), .pointer (some ⟨bb, 0, none⟩), .slice (some ⟨mb, 0, none⟩) n capn, .slice (some ⟨gb, 0, none⟩) n n, .slice (some ⟨db, 0, none⟩) n n, .slice la lk lc] : Array Value)[ii]?) := H4.out.box.cell; have H6 : Hid (CW w0 Sx xb bb g mb gb db B n s capn L (ms.set i ⟨0, 0, false⟩) ((ws.map Wk.b).set i (b + 1)) (ws.map (·.d)) (List.replicate p 1) C ((p % 2 : Nat) : Int) la lk lc (World.setCell (World.setCell (World.setCell (World.setCell (World.setCell (World.setCell (World.setCell (World.setCell (World.setCell (World.setCell (World.setCell (World.setCell (World.setCell (World.setCell (World.setCell (World.setCell (World.setCell w4 ⟨mb, i * 17, none⟩ (.int .i64 2)) ⟨mb, i * 17 + 1, none⟩ (.int .i64 1)) ⟨mb, i * 17 + 2, none⟩ (.int .i64 (n : Int))) ⟨mb, i * 17 + 3, none⟩ (.int .i64 2)) ⟨mb, i * 17 + 4, none⟩ (.int .i64 0)) ⟨mb, i * 17 + 5, none⟩ (.int .i64 1)) ⟨mb, i * 17 + 6, none⟩ (.int .i64 3)) ⟨mb, i * 17 + 7, none⟩ (.int .i64 5)) ⟨mb, i * 17 + 8, none⟩ (.int .i64 7)) ⟨mb, i * 17 + 9, none⟩ (.int .i64 8)) ⟨mb, i * 17 + 10, none⟩ (.int .i64 9)) ⟨mb, i * 17 + 11, none⟩ (.int .i64 10)) ⟨mb, i * 17 + 12, none⟩ (.int .i64 11)) ⟨mb, i * 17 + 13, none⟩ (.int .i64 (s : Int))) ⟨mb, i * 17 + 14, none⟩ (.int .u8 0)) ⟨mb, i * 17 + 15, none⟩ (.int .i64 0)) ⟨mb, i * 17 + 16, none⟩ (.bool false))) := H5; have C2 : (∀ ii, (World.setCell (World.setCell (World.setCell (World.setCell (World.setCell (World.setCell (World.setCell (World.setCell (World.setCell (World.setCell (World.setCell (World.setCell (World.setCell (World.setCell (World.setCell (World.setCell (World.setCell w4 ⟨mb, i * 17, none⟩ (.int .i64 2)) ⟨mb, i * 17 + 1, none⟩ (.int .i64 1)) ⟨mb, i * 17 + 2, none⟩ (.int .i64 (n : Int))) ⟨mb, i * 17 + 3, none⟩ (.int .i64 2)) ⟨mb, i * 17 + 4, none⟩ (.int .i64 0)) ⟨mb, i * 17 + 5, none⟩ (.int .i64 1)) ⟨mb, i * 17 + 6, none⟩ (.int .i64 3)) ⟨mb, i * 17 + 7, none⟩ (.int .i64 5)) ⟨mb, i * 17 + 8, none⟩ (.int .i64 7)) ⟨mb, i * 17 + 9, none⟩ (.int .i64 8)) ⟨mb, i * 17 + 10, none⟩ (.int .i64 9)) ⟨mb, i * 17 + 11, none⟩ (.int .i64 10)) ⟨mb, i * 17 + 12, none⟩ (.int .i64 11)) ⟨mb, i * 17 + 13, none⟩ (.int .i64 (s : Int))) ⟨mb, i * 17 + 14, none⟩ (.int .u8 0)) ⟨mb, i * 17 + 15, none⟩ (.int .i64 0)) ⟨mb, i * 17 + 16, none⟩ (.bool false)).cell? ⟨xb, ii, none⟩ = (#[.int .i64 2, .int .i64 1, .int .i64 (n : Int), .int .i64 2, .int .i64 0, .int .i64 1, .int .i64 3, .int .i64 5, .int .i64 7, .int .i64 8, .int .i64 9, .int .i64 10, .int .i64 11, .int .i64 (s : Int), .pointer (some ⟨bb, 0, none⟩), .slice (some ⟨mb, 0, none⟩) n capn, .slice (some ⟨gb, 0, none⟩) n n, .slice (some ⟨db, 0, none⟩) n n, .slice la lk lc] : Array Value)[ii]?) := H6.out.box.cell; clear hk4 hov hth H5)))
      have HM : Hid ((ms.set i ⟨0, 0, false⟩)[i]? = some (machOf w)) := Lib.hid (by
        rw [List.getElem?_set_self HMI.out]
        unfold machOf
        rw [if_pos HST.out])
      have HB5 : Hid (CW w0 Sx xb bb g mb gb db B n s capn L (ms.set i ⟨0, 0, false⟩) ((ws.map Wk.b).set i (w.d + 1)) (ws.map (·.d)) (List.replicate p 1) C ((p % 2 : Nat) : Int) la lk lc (World.setCell (World.setCell (World.setCell (World.setCell (World.setCell (World.setCell (World.setCell (World.setCell (World.setCell (World.setCell (World.setCell (World.setCell (World.setCell (World.setCell (World.setCell (World.setCell (World.setCell w4 ⟨mb, i * 17, none⟩ (.int .i64 2)) ⟨mb, i * 17 + 1, none⟩ (.int .i64 1)) ⟨mb, i * 17 + 2, none⟩ (.int .i64 (n : Int))) ⟨mb, i * 17 + 3, none⟩ (.int .i64 2)) ⟨mb, i * 17 + 4, none⟩ (.int .i64 0)) ⟨mb, i * 17 + 5, none⟩ (.int .i64 1)) ⟨mb, i * 17 + 6, none⟩ (.int .i64 3)) ⟨mb, i * 17 + 7, none⟩ (.int .i64 5)) ⟨mb, i * 17 + 8, none⟩ (.int .i64 7)) ⟨mb, i * 17 + 9, none⟩ (.int .i64 8)) ⟨mb, i * 17 + 10, none⟩ (.int .i64 9)) ⟨mb, i * 17 + 11, none⟩ (.int .i64 10)) ⟨mb, i * 17 + 12, none⟩ (.int .i64 11)) ⟨mb, i * 17 + 13, none⟩ (.int .i64 (s : Int))) ⟨mb, i * 17 + 14, none⟩ (.int .u8 0)) ⟨mb, i * 17 + 15, none⟩ (.int .i64 0)) ⟨mb, i * 17 + 16, none⟩ (.bool false))) := Lib.hid (by rw [HDB.out.1, ← HBD.out]; exact H6.out)
      clear C0 C1 C2 H0 H4 H6 hlen hone hz17 hmc k0 k1 k2 k3 k4 k5 k6 k7 k8 k9 k10 k11 k12 k13 k14 k15 k16 f0 f1 f2 f3 f4 f5 f6 f7 f8 f9 f10 f11 f12 f13 f14 f15 f16
      generalize (World.setCell (World.setCell (World.setCell (World.setCell (World.setCell (World.setCell (World.setCell (World.setCell (World.setCell (World.setCell (World.setCell (World.setCell (World.setCell (World.setCell (World.setCell (World.setCell (World.setCell w4 ⟨mb, i * 17, none⟩ (.int .i64 2)) ⟨mb, i * 17 + 1, none⟩ (.int .i64 1)) ⟨mb, i * 17 + 2, none⟩ (.int .i64 (n : Int))) ⟨mb, i * 17 + 3, none⟩ (.int .i64 2)) ⟨mb, i * 17 + 4, none⟩ (.int .i64 0)) ⟨mb, i * 17 + 5, none⟩ (.int .i64 1)) ⟨mb, i * 17 + 6, none⟩ (.int .i64 3)) ⟨mb, i * 17 + 7, none⟩ (.int .i64 5)) ⟨mb, i * 17 + 8, none⟩ (.int .i64 7)) ⟨mb, i * 17 + 9, none⟩ (.int .i64 8)) ⟨mb, i * 17 + 10, none⟩ (.int .i64 9)) ⟨mb, i * 17 + 11, none⟩ (.int .i64 10)) ⟨mb, i * 17 + 12, none⟩ (.int .i64 11)) ⟨mb, i * 17 + 13, none⟩ (.int .i64 (s : Int))) ⟨mb, i * 17 + 14, none⟩ (.int .u8 0)) ⟨mb, i * 17 + 15, none⟩ (.int .i64 0)) ⟨mb, i * 17 + 16, none⟩ (.bool false)) = w5 at HB5 ⊢
      go_wp2_with fail
      go_meet
      case rel => exact ⟨_, HB5, HM, Lib.hid (fun j hj => List.getElem?_set_ne (fun e => hj e.symm))⟩
    · have hbd : b = d + 1 := by rw [← HDB.out.1, ← HDB.out.2]; unfold Wk.b; rw [if_neg hst]
      have z1 : ((b : Int) == (d : Int)) = false := by simp; omega
      obtain ⟨m, hm⟩ : ∃ m, ms[i]? = some m := ⟨_, List.getElem?_eq_getElem (by rw [HC1.out.len.2.1]; exact hil)⟩
      have hmm := HREL.out i w m HWI.out hm hst
      have HM : Hid (ms[i]? = some (machOf w)) := Lib.hid (by rw [hm, hmm])
      have HB2 : Hid (CW w0 Sx xb bb g mb gb db B n s capn L ms ((ws.map Wk.b).set i (w.d + 1)) (ws.map (·.d)) (List.replicate p 1) C ((p % 2 : Nat) : Int) la lk lc w1) := Lib.hid (by
        have e : (ws.map Wk.b).set i (w.d + 1) = ws.map Wk.b := by
          have h1 : (ws.map Wk.b)[i]? = some (w.d + 1) := by rw [List.getElem?_map, HWI.out]; show some w.b = _; rw [HDB.out.2, hbd, HDB.out.1]
          obtain ⟨h2, h3⟩ := List.getElem?_eq_some_iff.1 h1
          rw [← h3, List.set_getElem_self]
        rw [e]
        exact HC1.out)
      clear hbd hst hm hmm
      go_wp2_with fail
      go_meet
      case rel => exact ⟨ms, HB2, HM, Lib.hid (fun _ _ => rfl)⟩
  case rest =>
    obtain ⟨ms', HC2, HM, HO⟩ := hcut
    clear HC1
    obtain ⟨hg, hz, h0, h5⟩ := HG.out
    have hne : ¬ mb = g ∧ ¬ mb = bb := by obtain ⟨a1, a2, a3, a4, a5, a6, a7, -⟩ := HC2.out.apart; exact ⟨a7, a6⟩
    have HST := fun (wx : World) (k : Kept wc wx) => Lib.hid (step_bq (z := z) hg hz h0 h5 i (i * 17) rfl HM.out (HC2.out.mach.kept k) (HC2.out.bank.kept k) HL.out hne)
    have HML : Hid ((ms'.set i m').length = n) := Lib.hid (by rw [List.length_set]; exact HC2.out.len.2.1)
    clear hg hz h0 h5 hne
    have H0 := Lib.hid (HC2.out.kept ((Upd.refl _ wc).drew))
    have C0 : (∀ ii, wc.drew.cell? ⟨xb, ii, none⟩ = (#[.int .i64 2, .int .i64 1, .int .i64 (n : Int), .int .i64 2, .int .i64 0, .int .i64 1, .int .i64 3, .int .i64 5, .int .i64 7, .int .i64 8, .int .i64 9, .int .i64 10, .int .i64 11, .int .i64 (s : Int), .pointer (some ⟨bb, 0, none⟩), .slice (some ⟨mb, 0, none⟩) n capn, .slice (some ⟨gb, 0, none⟩) n n, .slice (some ⟨db, 0, none⟩) n n, .slice la lk lc] : Array Value)[ii]?) := H0.out.box.cell
    go_upto_region 4 with (fail)
    go_region_held3 (fun w' => (∀ ii, w'.cell? ⟨xb, ii, none⟩ = (#[.int .i64 2, .int .i64 1, .int .i64 (n : Int), .int .i64 2, .int .i64 0, .int .i64 1, .int .i64 3, .int .i64 5, .int .i64 7, .int .i64 8, .int .i64 9, .int .i64 10, .int .i64 11, .int .i64 (s : Int), .pointer (some ⟨bb, 0, none⟩), .slice (some ⟨mb, 0, none⟩) n capn, .slice (some ⟨gb, 0, none⟩) n n, .slice (some ⟨db, 0, none⟩) n n, .slice la lk lc] : Array Value)[ii]?))
      (first | with_reducible exact C0 | with_reducible exact C1)
      ((first
        | (go_at_call 15; refine (HST _ ((Upd.refl _ wc).drew)).out.mono ?_; rintro e w5 hs; have H5 := Lib.hid (CW.stepped H0.out hs HML.out); have C1 : (∀ ii, w5.cell? ⟨xb, ii, none⟩ = (#[.int .i64 2, .int .i64 1, .int .i64 (n : Int), .int .i64 2, .int .i64 0, .int .i64 1, .int .i64 3, .int .i64 5, .int .i64 7, .int .i64 8, .int .i64 9, .int .i64 10, .int .i64 11, .int .i64 (s : Int), .pointer (some ⟨bb, 0, none⟩), .slice (some ⟨mb, 0, none⟩) n capn, .slice (some ⟨gb, 0, none⟩) n n, .slice (some ⟨db, 0, none⟩) n n, .slice la lk lc] : Array Value)[ii]?) := H5.out.box.cell; obtain ⟨rfl, -⟩ := hs)))
    clear C0 C1 H0 HC2 HST
    cases z with
    | false =>
      have HZ := Lib.hid (CrS.stay H5.out HWI.out HREL.out HO.out HGO.out)
      go_wp2_with fail
      go_ret
      exact ⟨rfl, m', false, w', C', p', la, lk, lc, HGO.out, HZ.out⟩
    | true =>
      obtain ⟨m0, o0, l0⟩ := m'
      have HPS : Hid (w'.st = 0 ∧ w'.d = w.d + 1 ∧ p' = w.d + 1 ∧ ((l0 = true ∧ p' = p + 1) ∨ (l0 = false ∧ p' = p))) := Lib.hid (by
        obtain ⟨q1, q2, q3⟩ := HGO.out.2.2 rfl
        rcases q3 with ⟨q4, q5, q6, q7⟩ | ⟨q4, q5, q6, q7⟩
        · exact ⟨q1, q2, by omega, .inl ⟨q7, q6⟩⟩
        · exact ⟨q1, q2, by omega, .inr ⟨q7, q5⟩⟩)
      have HDD : Hid (w.d = d) := Lib.hid HDB.out.1
      have hdc : w5.cell? ⟨db, i, none⟩ = some (.int .i64 (d : Nat)) := by
        rw [H5.out.dn.cell]
        simp only [List.getElem?_toArray, nv, List.getElem?_map, HWI.out, Option.map_some, HDD.out]
      have dfr := H5.out.dn.free i
      have bx := H5.out.box.cell
      have hd1000 : d ≤ 1000000 := by have := HDP.out; have := HDD.out; omega
      have hwd : wrap64 ((d : Int) + 1) = ((d + 1 : Nat) : Int) := wrap_upm d hd1000
      have H6 : Hid (CW w0 Sx xb bb g mb gb db B n s capn L (ms'.set i ⟨m0, o0, l0⟩) ((ws.map Wk.b).set i (w.d + 1)) ((ws.map (·.d)).set i (d + 1)) (List.replicate p 1 ++ List.replicate (lk - p) 0) C' ((p' % 2 : Nat) : Int) la lk lc (w5.setCell ⟨db, i, none⟩ (.int .i64 ((d : Int) + 1)))) := Lib.hid (by
        have := H5.out.ended i (d + 1)
        rwa [show List.replicate p 1 ++ List.replicate (lk - p) 0 = List.replicate p 1 by rw [HLK.out]; simp])
      have HLD : Hid (p ≤ lk ∧ lk ≤ d + 1) := Lib.hid (by
        have h1 := HLK.out
        have h2 := HPS.out
        have h3 := HDD.out
        omega)
      clear hd1000
      go_upto_region 7 with (fail)
      generalize (w5.setCell ⟨db, i, none⟩ (.int .i64 ((d : Int) + 1))) = w6 at H6 ⊢
      clear hdc dfr bx hwd H5
      obtain ⟨D, hD⟩ : ∃ D, d + 1 = D := ⟨_, rfl⟩
      rw [hD] at H6 HLD
      have HD := Lib.hid hD
      have hD1 : 1 ≤ D ∧ D ≤ 200000 := by have := HDP.out; have := HDD.out; omega
      clear hD
      have HIW : Hid (i < (ws.map (·.d)).length) := Lib.hid (by have := (List.getElem?_eq_some_iff.1 HWI.out).1; simpa using this)
      go_loopg [] (D - lk) (fun k wr => ∃ (la : Option Addr) (lk lc : Nat), Hid (lk + k = D ∧ p ≤ lk) ∧ Hid (CW w0 Sx xb bb g mb gb db B n s capn L (ms'.set i ⟨m0, o0, l0⟩) ((ws.map Wk.b).set i (w.d + 1)) ((ws.map (·.d)).set i D) (List.replicate p 1 ++ List.replicate (lk - p) 0) C' ((p' % 2 : Nat) : Int) la lk lc wr))
      case atStart => exact ⟨la, lk, lc, Lib.hid (by have := HLD.out; omega), H6⟩
      case round =>
        clear H6
        obtain ⟨la, lk, lc, HK, H6⟩ := hrel
        have hdc : wr.cell? ⟨db, i, none⟩ = some (.int .i64 (D : Nat)) := by
          rw [H6.out.dn.cell]
          simp only [List.getElem?_toArray, nv, List.map_set]
          rw [List.getElem?_set_self (by simpa using HIW.out)]
        have bx := H6.out.box.cell
        by_cases hlt : lk < D
        · have z1 : decide ((lk : Int) < (D : Int)) = true := by simpa using hlt
          have z1' : (lk : Int) < (D : Int) := by omega
          have HLT := Lib.hid hlt
          obtain ⟨i0', hi0, hz0, hz1, hz2⟩ := info_parts infoInt
          have hxl : lk ≤ 2000000 := by omega
          have hbs : B ≤ wr.heap.size := H6.out.up
          have ho := H6.out.lt
          have HQ := Lib.hid (H6.out.up)
          go_upto_region 7 with (fail)
          refine wp_region_kept (by kernel_rfl) (by kernel_rfl) ?_
          repeat (go_big_quiet_step (fail))
          refine wpQuiet_nil ?_
          intro wk hkk
          have H7 := Lib.hid (H6.out.kept hkk)
          clear hkk hdc bx hbs ho HQ H6
          have bx := H7.out.box.cell
          have ho := H7.out.lt
          have hbs := H7.out.up
          go_wp2_with (first | (at_builtin; refine wpList_push rfl _ _ 31 rfl B 3 i0' (.int .i64 0) 8 Try.underlying31 hi0 hz0 hz1 hz2 rfl (by decide) _ _ _ rfl ho (.int .i64 0) rfl rfl hxl hbs ?_; intro gg cap' w7 hown hg2; clear hi0 hz0 hz1 hz2 hxl hbs ho bx; have HP := H7.out.push hown hg2; have bx := HP.1.cell; have bf := HP.1.free 18; have H8 := Lib.hid HP.2; clear hown hg2 HP H7) | fail)
          have H9 : Hid (CW w0 Sx xb bb g mb gb db B n s capn L (ms'.set i ⟨m0, o0, l0⟩) ((ws.map Wk.b).set i (w.d + 1)) ((ws.map (·.d)).set i D) (List.replicate p 1 ++ List.replicate (lk + 1 - p) 0) C' ((p' % 2 : Nat) : Int) (some ⟨gg, 0, none⟩) (lk + 1) cap' (w7.setCell ⟨xb, 18, none⟩ (.slice (some ⟨gg, 0, none⟩) (lk + 1) cap'))) := Lib.hid (by
            have := H8.out
            rwa [List.append_assoc, show List.replicate (lk - p) 0 ++ [0] = List.replicate (lk + 1 - p) 0 by rw [show lk + 1 - p = (lk - p) + 1 by have := HK.out; omega, List.replicate_succ']] at this)
          go_roundg (D - (lk + 1))
          case rel => exact ⟨_, lk + 1, _, Lib.hid (by have := HK.out; have := HLT.out; omega), H9⟩
          case measure => have := HK.out; have := HLT.out; omega
        · have z1 : decide ((lk : Int) < (D : Int)) = false := by simp; omega
          have z1' : ¬ (lk : Int) < (D : Int) := by omega
          have HLE : Hid (lk = D) := Lib.hid (by have := HK.out; omega)
          clear hlt
          go_upto_region 7 with (fail)
          refine wp_region_kept (by kernel_rfl) (by kernel_rfl) ?_
          repeat (go_big_quiet_step (fail))
          refine wpQuiet_nil ?_
          intro wk hkk
          have H7 := Lib.hid (H6.out.kept hkk)
          clear hkk hdc bx H6
          have bx := H7.out.box.cell
          have HMI : Hid ((ms'.set i ⟨m0, o0, l0⟩)[i]? = some ⟨m0, o0, l0⟩) := Lib.hid (by
            obtain ⟨h1, -⟩ := List.getElem?_eq_some_iff.1 HM.out
            rw [List.getElem?_set_self h1])
          have HLA := fun (wx : World) (k : Kept wk wx) => Lib.hid (last_any i (i * 17) rfl HMI.out (H7.out.mach.kept k))
          have HLP : Hid (lk = p' ∧ 0 < lk) := Lib.hid (by have h1 := HLE.out; have h2 := HPS.out; have h3 := HD.out; have h4 := HDD.out; omega)
          go_wp2_with fail
          refine (HLA _ (Upd.refl _ _)).out.mono ?_
          rintro e w8 ⟨rfl, hww⟩
          rw [← hww]
          clear hww HLA HMI bx
          have HFIN : Hid (∀ wz, CW w0 Sx xb bb g mb gb db B n s capn L (ms'.set i ⟨m0, o0, l0⟩) ((ws.map Wk.b).set i (w.d + 1)) ((ws.map (·.d)).set i D) (List.replicate p' 1) C' ((p' % 2 : Nat) : Int) la lk lc wz → CrS w0 Sx xb bb g mb gb db B n s capn L p' C' (ws.set i w') la lk lc wz) := Lib.hid (fun wz hC => CrS.passed (by rw [show w.d + 1 = D by rw [HDD.out]; exact HD.out] at hC ⊢; exact hC) HWI.out HREL.out HO.out HGO.out)
          cases l0 with
          | true =>
            have hpp : p' = p + 1 := by have h2 := HPS.out.2.2.2; simpa using h2
            obtain ⟨gl, rfl, hlc, hls⟩ := H7.out.last HLP.out.2
            have hlkp : p < lk := by have := HLP.out; omega
            have lcell : wk.cell? ⟨gl, p, none⟩ = some (.int .i64 0) := by
              have := (hlc p hlkp).1
              have e0 : (List.replicate p 1 ++ List.replicate (lk - p) 0 : List Nat).getD p 0 = 0 := by
                rw [List.getD_eq_getElem?_getD, List.getElem?_append_right (by simp), List.getElem?_replicate]
                split <;> rfl
              rw [e0] at this
              exact this
            have lcd : wk.drew.cell? ⟨gl, p, none⟩ = some (.int .i64 0) := lcell
            have lfree := (hlc p hlkp).2
            have lfd : wk.drew.frozen? ⟨gl, p, none⟩ = false := lfree
            have HLS : Hid (CW w0 Sx xb bb g mb gb db B n s capn L (ms'.set i ⟨m0, o0, true⟩) ((ws.map Wk.b).set i (w.d + 1)) ((ws.map (·.d)).set i D) ((List.replicate p 1 ++ List.replicate (lk - p) 0).set p 1) C' ((p' % 2 : Nat) : Int) (some ⟨gl, 0, none⟩) lk lc (wk.drew.setCell ⟨gl, p, none⟩ (.int .i64 1))) := Lib.hid (by
              obtain ⟨gl', e, -, h⟩ := (H7.out.kept ((Upd.refl _ wk).drew)).last HLP.out.2
              cases e
              exact h p 1 hlkp)
            have hdc : wk.cell? ⟨db, i, none⟩ = some (.int .i64 (D : Nat)) := by
              rw [H7.out.dn.cell]
              simp only [List.getElem?_toArray, nv, List.map_set]
              rw [List.getElem?_set_self (by simpa using HIW.out)]
            have bx := H7.out.box.cell
            have hDp : D = p + 1 := by have := HLP.out; have := HLE.out; omega
            have s1 : IntKind.i64.wrap ((D : Int) - 1) = (p : Int) := by rw [hDp]; exact wrap_dnm p (by omega)
            have s2 : IntKind.i64.wrap (0 + 1) = 1 := by decide
            have s3 : IntKind.i64.wrap 1 = 1 := by decide
            have p1 : (0 : Int) ≤ (p : Int) := by omega
            have p2 : (p : Int) < (lk : Int) := by omega
            have H9 : Hid (CW w0 Sx xb bb g mb gb db B n s capn L (ms'.set i ⟨m0, o0, true⟩) ((ws.map Wk.b).set i (w.d + 1)) ((ws.map (·.d)).set i D) (List.replicate p' 1) C' ((p' % 2 : Nat) : Int) (some ⟨gl, 0, none⟩) lk lc ((wk.setCell ⟨gl, p, none⟩ (.int .i64 1)).drew)) := Lib.hid (by
              have := HLS.out
              have e1 : (List.replicate p 1 ++ List.replicate (lk - p) 0 : List Nat).set p 1 = List.replicate p' 1 := by
                rw [show lk - p = 1 by have := HLP.out; omega, hpp, List.set_append_right _ _ (by simp)]
                simp
                exact List.replicate_succ'.symm
              rw [e1] at this
              exact this)
            have HH := Lib.hid hDp
            clear hpp hlc hls hlkp hDp HLS
            go_upto_region 10 with (fail)
            refine wp_region_quiet_tail 16 (by kernel_rfl) (by kernel_rfl) ?_
            simp only [List.take_succ_cons, List.take_zero, List.drop_succ_cons, List.drop_zero]
            repeat (go_big_quiet_step (fail))
            refine wpQuiet_nil ?_
            go_upto_region 11 with (fail)
            generalize ((wk.setCell ⟨gl, p, none⟩ (.int .i64 1)).drew) = w9 at H9 ⊢
            clear lcell lcd lfree lfd hdc bx s1 s2 s3
            have bx := H9.out.box.cell
            have HDC : Hid (w9.cell? ⟨db, i, none⟩ = some (.int .i64 (D : Nat))) := Lib.hid (by
              rw [H9.out.dn.cell]
              simp only [List.getElem?_toArray, nv, List.map_set]
              rw [List.getElem?_set_self (by simpa using HIW.out)])
            have HGC : Hid (∀ j, j < n → ∃ y : Nat, w9.cell? ⟨gb, j, none⟩ = some (.int .i64 (y : Nat)) ∧ D ≤ y) := Lib.hid (fun j hj => by
              have hl := H9.out.len.2.2.1
              refine ⟨_, by rw [H9.out.bg.cell]; simp only [List.getElem?_toArray]; exact nv_get (by rw [hl]; exact hj), ?_⟩
              have hx : (ws.map Wk.b).set i (w.d + 1) = (ws.set i w').map Wk.b := by
                rw [List.map_set, show w'.b = w.d + 1 by unfold Wk.b; rw [if_pos HPS.out.1, HPS.out.2.1]]
              rw [hx] at hl ⊢
              have hl2 : j < (ws.set i w').length := by rw [List.length_map] at hl; omega
              have h1 := HGO.out.1.began _ (List.getElem_mem hl2)
              have h2 : ((ws.set i w').map Wk.b).getD j 0 = ((ws.set i w')[j]).b := by rw [List.getD_eq_getElem?_getD, List.getElem?_map, List.getElem?_eq_getElem hl2]; rfl
              rw [h2]
              have h3 := HLP.out
              have h4 := HLE.out
              omega)
            go_upto_region 12 with (fail)
            clear bx
            go_loopw [113] (fun jx wx => ∃ j : Nat, jx = .int .i64 j ∧ j ≤ n ∧ wx = w9) (fun jx _ => n - (intOf jx).toNat)
            case atStart => exact ⟨0, rfl, by omega, rfl⟩
            case round =>
              obtain ⟨j, rfl, hj, hwe⟩ := hrel
              rw [hwe]
              clear hwe
              by_cases hjn : j < n
              · obtain ⟨y, hyc, hyD⟩ := HGC.out j hjn
                have hdc := HDC.out
                have bx := H9.out.box.cell
                have y1 : decide ((y : Int) < (D : Int)) = false := by simp; omega
                have y2 : ¬ (y : Int) < (D : Int) := by omega
                have y3 : (j : Int) < (n : Int) := by omega
                have y4 : (0 : Int) ≤ (j : Int) := by omega
                have y5 : (j : Int) ≤ 100 := by have := HN.out; omega
                clear hyD
                go_wp2_with fail
                go_roundw
                case rel => exact ⟨j + 1, by go_num, by omega, by first | rfl | trivial⟩
                case measure => simp [intOf]; omega
              · have y3 : ¬ (j : Int) < (n : Int) := by omega
                go_wp2_with fail
                go_ret
                exact ⟨rfl, _, true, w', C', p', _, lk, lc, HGO.out, HFIN.out _ H9.out⟩
          | false =>
            have hpp : p' = p := by have h2 := HPS.out.2.2.2; simpa using h2
            obtain ⟨w9, rfl⟩ : ∃ w9 : World, w9 = wk := ⟨_, rfl⟩
            have H9 : Hid (CW w0 Sx xb bb g mb gb db B n s capn L (ms'.set i ⟨m0, o0, false⟩) ((ws.map Wk.b).set i (w.d + 1)) ((ws.map (·.d)).set i D) (List.replicate p' 1) C' ((p' % 2 : Nat) : Int) la lk lc w9) := Lib.hid (by
              have := H7.out
              rwa [show lk - p = 0 by have := HLP.out; omega, List.replicate_zero, List.append_nil, ← hpp] at this)
            clear hpp
            go_upto_region 11 with (fail)
            have bx := H9.out.box.cell
            have HDC : Hid (w9.cell? ⟨db, i, none⟩ = some (.int .i64 (D : Nat))) := Lib.hid (by
              rw [H9.out.dn.cell]
              simp only [List.getElem?_toArray, nv, List.map_set]
              rw [List.getElem?_set_self (by simpa using HIW.out)])
            have HGC : Hid (∀ j, j < n → ∃ y : Nat, w9.cell? ⟨gb, j, none⟩ = some (.int .i64 (y : Nat)) ∧ D ≤ y) := Lib.hid (fun j hj => by
              have hl := H9.out.len.2.2.1
              refine ⟨_, by rw [H9.out.bg.cell]; simp only [List.getElem?_toArray]; exact nv_get (by rw [hl]; exact hj), ?_⟩
              have hx : (ws.map Wk.b).set i (w.d + 1) = (ws.set i w').map Wk.b := by
                rw [List.map_set, show w'.b = w.d + 1 by unfold Wk.b; rw [if_pos HPS.out.1, HPS.out.2.1]]
              rw [hx] at hl ⊢
              have hl2 : j < (ws.set i w').length := by rw [List.length_map] at hl; omega
              have h1 := HGO.out.1.began _ (List.getElem_mem hl2)
              have h2 : ((ws.set i w').map Wk.b).getD j 0 = ((ws.set i w')[j]).b := by rw [List.getD_eq_getElem?_getD, List.getElem?_map, List.getElem?_eq_getElem hl2]; rfl
              rw [h2]
              have h3 := HLP.out
              have h4 := HLE.out
              omega)
            go_upto_region 12 with (fail)
            clear bx
            go_loopw [113] (fun jx wx => ∃ j : Nat, jx = .int .i64 j ∧ j ≤ n ∧ wx = w9) (fun jx _ => n - (intOf jx).toNat)
            case atStart => exact ⟨0, rfl, by omega, rfl⟩
            case round =>
              obtain ⟨j, rfl, hj, hwe⟩ := hrel
              rw [hwe]
              clear hwe
              by_cases hjn : j < n
              · obtain ⟨y, hyc, hyD⟩ := HGC.out j hjn
                have hdc := HDC.out
                have bx := H9.out.box.cell
                have y1 : decide ((y : Int) < (D : Int)) = false := by simp; omega
                have y2 : ¬ (y : Int) < (D : Int) := by omega
                have y3 : (j : Int) < (n : Int) := by omega
                have y4 : (0 : Int) ≤ (j : Int) := by omega
                have y5 : (j : Int) ≤ 100 := by have := HN.out; omega
                clear hyD
                go_wp2_with fail
                go_roundw
                case rel => exact ⟨j + 1, by go_num, by omega, by first | rfl | trivial⟩
                case measure => simp [intOf]; omega
              · have y3 : ¬ (j : Int) < (n : Int) := by omega
                go_wp2_with fail
                go_ret
                exact ⟨rfl, _, true, w', C', p', _, lk, lc, HGO.out, HFIN.out _ H9.out⟩
end Go.Proofs.Ytghlpapljjcaeaa
