/- relaxed.Legal (printed by gen_rellegal2.py) -/
import Derived.Test.YtdhimfkmgcfohaaRelLegal
import Derived.Test.YtdhimfkmgcfohaaBlkR
import Derived.Deep.CutRange
import Derived.Deep.RegionHeld3
import Derived.Deep.MidRow
import Derived.Deep.Onto
import Derived.MapKept
import Derived.Maps.OwnSet
namespace Go.Proofs.Ytdhimfkmgcfohaa
set_option linter.unusedVariables false
set_option linter.unusedSimpArgs false
open Go.RowKit Go.Maps Go.WideMaps Go.WideElems Go.ChangeMaps
attribute [local go_sem] cell?_ext

theorem upd_setBlock (w : World) (b : Nat) (o : Obj) : Upd (fun k => k = b) w (setBlock w b o) :=
  ⟨rfl, rfl, rfl, by simp [setBlock], fun k hk hne => by simp [setBlock, Array.getElem?_setIfInBounds, Ne.symm hne]⟩
theorem lawU8 : Go.Maps.Keyed Try.prog 5 := Go.Maps.int_keyed Try.underlying5
theorem u8_find {w : World} {x : Int} {es : List MapEntry} {r : Option (Nat × Value)} (h : Instr.findNow (.int .u8) (.int .u8 x) es 0 = some r) : (Instr.findKey 5 (.int .u8 x) es).run Try.prog w = .ok r w := by
  simp [Instr.findKey, run_underlying Try.underlying5, h]
/-- The table of what may be asked: made, filled, looked into. -/
theorem ask_first (w : World) (f : Value) : ∃ w', (Instr.mapUpdate 80 (.map (some w.heap.size)) (.int .u8 1) f).run Try.prog (w.alloc (.map #[] 0)) = .ok () w' ∧ Kept w w' ∧ w'.heap[w.heap.size]? = some (.map #[{ key := .int .u8 1, val := f, born := 0 }] 1) := by
  have hb : (w.alloc (.map #[] 0)).heap[w.heap.size]? = some (.map #[] 0) := by unfold World.alloc; simp
  have h1 : (Instr.findKey 5 (.int .u8 1) (#[] : Array MapEntry).toList).run Try.prog (w.alloc (.map #[] 0)) = .ok none (w.alloc (.map #[] 0)) := u8_find rfl
  have hkey := Go.Maps.keyOf_int_mk Try.underlying5 (a := 1) (show (Lit.int .u8 1).wf = true by decide)
  refine ⟨setBlock (w.alloc (.map #[] 0)) w.heap.size (.map #[{ key := .int .u8 1, val := f, born := 0 }] 1), ?_, ?_, heap_setBlock_same hb _⟩
  · simp [Instr.mapUpdate, run_underlying Try.underlying80, MapKept.run_getObj_map hb, lawU8.check _ false hkey, h1, MapKept.run_setObj_map _ hb, Result.andThen, setBlock]
  · exact ((Upd.refl (fun _ => False) w).alloc (.map #[] 0)).then (upd_setBlock _ _ _) (fun i hi e => by omega)
theorem ask_next {w : World} {b : Nat} {f g : Value} (hb : w.heap[b]? = some (.map #[{ key := .int .u8 1, val := f, born := 0 }] 1)) : ∃ w', (Instr.mapUpdate 80 (.map (some b)) (.int .u8 2) g).run Try.prog w = .ok () w' ∧ Upd (fun k => k = b) w w' ∧ w'.heap[b]? = some (.map #[{ key := .int .u8 1, val := f, born := 0 }, { key := .int .u8 2, val := g, born := 1 }] 2) := by
  have h1 : (Instr.findKey 5 (.int .u8 2) (#[{ key := .int .u8 1, val := f, born := 0 }] : Array MapEntry).toList).run Try.prog w = .ok none w := u8_find (by simp [Instr.findNow, Instr.sameNow])
  have hkey := Go.Maps.keyOf_int_mk Try.underlying5 (a := 2) (show (Lit.int .u8 2).wf = true by decide)
  refine ⟨setBlock w b (.map #[{ key := .int .u8 1, val := f, born := 0 }, { key := .int .u8 2, val := g, born := 1 }] 2), ?_, ?_, heap_setBlock_same hb _⟩
  · simp [Instr.mapUpdate, run_underlying Try.underlying80, MapKept.run_getObj_map hb, lawU8.check _ false hkey, h1, MapKept.run_setObj_map _ hb, Result.andThen, setBlock]
  · exact upd_setBlock _ _ _
theorem ask_look {w : World} {b : Nat} {f g : Value} {x : Int} (hx : (Lit.int .u8 x).wf = true) (hb : w.heap[b]? = some (.map #[{ key := .int .u8 1, val := f, born := 0 }, { key := .int .u8 2, val := g, born := 1 }] 2)) :
    (Instr.lookup 80 (.map (some b)) (.int .u8 x) true).run Try.prog w = .ok (.tuple (if x = 1 then #[f, .bool true] else if x = 2 then #[g, .bool true] else #[.nilFunc, .bool false])) w := by
  have hkey := Go.Maps.keyOf_int_mk Try.underlying5 (a := x) hx
  by_cases h1 : x = 1
  · subst h1
    have hf : (Instr.findKey 5 (.int .u8 1) (#[{ key := .int .u8 1, val := f, born := 0 }, { key := .int .u8 2, val := g, born := 1 }] : Array MapEntry).toList).run Try.prog w = .ok (some (0, f)) w := u8_find (by simp [Instr.findNow, Instr.sameNow])
    simp [Instr.lookup, run_underlying Try.underlying80, MapKept.run_getObj_map hb, lawU8.check _ false hkey, hf, Result.andThen]
  · by_cases h2 : x = 2
    · subst h2
      have hf : (Instr.findKey 5 (.int .u8 2) (#[{ key := .int .u8 1, val := f, born := 0 }, { key := .int .u8 2, val := g, born := 1 }] : Array MapEntry).toList).run Try.prog w = .ok (some (1, g)) w := u8_find (by simp [Instr.findNow, Instr.sameNow])
      simp [Instr.lookup, run_underlying Try.underlying80, MapKept.run_getObj_map hb, lawU8.check _ false hkey, hf, Result.andThen]
    · have hf : (Instr.findKey 5 (.int .u8 x) (#[{ key := .int .u8 1, val := f, born := 0 }, { key := .int .u8 2, val := g, born := 1 }] : Array MapEntry).toList).run Try.prog w = .ok none w := u8_find (by
        have e1 : (x == 1) = false := by simpa using h1
        have e2 : (x == 2) = false := by simpa using h2
        simp [Instr.findNow, Instr.sameNow, e1, e2])
      have hz : ∀ w, (zeroValue 78).run Try.prog w = .ok .nilFunc w := fun w => by kernel_rfl
      simp [Instr.lookup, run_underlying Try.underlying80, MapKept.run_getObj_map hb, lawU8.check _ false hkey, hf, hz, h1, h2, Result.andThen]
set_option maxRecDepth 100000 in
set_option maxHeartbeats 4000000 in
theorem legal_any (N S T : Int) (n m : Nat) (a3 a4 a5 a6 a7 a8 : Option Addr) (c3 c4 c5 c6 c7 c8 : Nat) (ys : List Ar) (p : PS) (ra : Option Addr) (rc : Nat) (ea : Option Addr) (ec : Nat) (za : Option Addr) (zc : Nat) (who wt u ar d h lo : Int) (w : World) (hg : Gr N S T n m ys) (hcr : CsrR w n ys a3 a4 a5 a6 a7 a8) (hok : p.ok n m) (hr : Rd w ra (lv p.rs)) (he : Rd w ea (lv p.es)) (hz : Rd w za (lv p.hs)) (hwt : (Lit.int .u8 wt).wf = true) :
    Calls Try.prog 16 #[.agg #[.int .i64 N, .int .i64 S, .int .i64 T, .slice a3 (n + 1) c3, .slice a4 m c4, .slice a5 m c5, .slice a6 m c6, .slice a7 m c7, .slice a8 m c8], .agg #[.slice ra m rc, .slice ea n ec, .slice za n zc], .agg #[.int .i64 who, .int .u8 wt, .int .i64 u, .int .i64 ar, .int .i64 d, .int .i64 h, .int .i64 lo]] w fun e w' => e = .returned (.int .i64 (legalP N S T ys p ⟨who, wt, u, ar, d, h, lo⟩)) ∧ Kept w w' := by
  have hs1 : (w.alloc (.cells #[.int .i64 N, .int .i64 S, .int .i64 T, .slice a3 (n + 1) c3, .slice a4 m c4, .slice a5 m c5, .slice a6 m c6, .slice a7 m c7, .slice a8 m c8] 32)).heap.size = w.heap.size + 1 := World.size_alloc _ _
  have hs2 : ((w.alloc (.cells #[.int .i64 N, .int .i64 S, .int .i64 T, .slice a3 (n + 1) c3, .slice a4 m c4, .slice a5 m c5, .slice a6 m c6, .slice a7 m c7, .slice a8 m c8] 32)).alloc (.cells #[.slice ra m rc, .slice ea n ec, .slice za n zc] 29)).heap.size = w.heap.size + 1 + 1 := by rw [← hs1]; exact World.size_alloc _ _
  have HK := Lib.hid ((((Upd.refl (fun _ => False) w).alloc (.cells #[.int .i64 N, .int .i64 S, .int .i64 T, .slice a3 (n + 1) c3, .slice a4 m c4, .slice a5 m c5, .slice a6 m c6, .slice a7 m c7, .slice a8 m c8] 32)).alloc (.cells #[.slice ra m rc, .slice ea n ec, .slice za n zc] 29)).alloc (.cells #[.int .i64 who, .int .u8 wt, .int .i64 u, .int .i64 ar, .int .i64 d, .int .i64 h, .int .i64 lo] 39))
  have HB := Lib.hid (((Blk.new w #[.int .i64 N, .int .i64 S, .int .i64 T, .slice a3 (n + 1) c3, .slice a4 m c4, .slice a5 m c5, .slice a6 m c6, .slice a7 m c7, .slice a8 m c8] 32).alloc (.cells #[.slice ra m rc, .slice ea n ec, .slice za n zc] 29)).alloc (.cells #[.int .i64 who, .int .u8 wt, .int .i64 u, .int .i64 ar, .int .i64 d, .int .i64 h, .int .i64 lo] 39))
  have HP := Lib.hid ((Blk.new (w.alloc (.cells #[.int .i64 N, .int .i64 S, .int .i64 T, .slice a3 (n + 1) c3, .slice a4 m c4, .slice a5 m c5, .slice a6 m c6, .slice a7 m c7, .slice a8 m c8] 32)) #[.slice ra m rc, .slice ea n ec, .slice za n zc] 29).alloc (.cells #[.int .i64 who, .int .u8 wt, .int .i64 u, .int .i64 ar, .int .i64 d, .int .i64 h, .int .i64 lo] 39))
  have HE := Lib.hid (Blk.new ((w.alloc (.cells #[.int .i64 N, .int .i64 S, .int .i64 T, .slice a3 (n + 1) c3, .slice a4 m c4, .slice a5 m c5, .slice a6 m c6, .slice a7 m c7, .slice a8 m c8] 32)).alloc (.cells #[.slice ra m rc, .slice ea n ec, .slice za n zc] 29)) #[.int .i64 who, .int .u8 wt, .int .i64 u, .int .i64 ar, .int .i64 d, .int .i64 h, .int .i64 lo] 39)
  rw [hs1] at HP
  rw [hs2] at HE
  obtain ⟨V, hV⟩ : ∃ V, legalP N S T ys p ⟨who, wt, u, ar, d, h, lo⟩ = V := ⟨_, rfl⟩
  rw [hV]
  have HV : Hid (V = if (wt ≠ 1 ∧ wt ≠ 2) ∨ u < 0 ∨ N ≤ u ∨ u = S ∨ u = T then 2 else if wt = 2 then liftP N p ⟨who, wt, u, ar, d, h, lo⟩ else pushP ys p ⟨who, wt, u, ar, d, h, lo⟩) := Lib.hid (by rw [← hV]; rfl)
  clear hV
  have HPU : Hid (∀ W, Kept w W → 0 ≤ u ∧ u < N → Calls Try.prog 39 #[.agg #[.int .i64 N, .int .i64 S, .int .i64 T, .slice a3 (n + 1) c3, .slice a4 m c4, .slice a5 m c5, .slice a6 m c6, .slice a7 m c7, .slice a8 m c8, .slice ra m rc, .slice ea n ec, .slice za n zc], .agg #[.int .i64 who, .int .u8 wt, .int .i64 u, .int .i64 ar, .int .i64 d, .int .i64 h, .int .i64 lo]] W fun e w' => e = .returned (.int .i64 (pushP ys p ⟨who, wt, u, ar, d, h, lo⟩)) ∧ Kept W w') := Lib.hid (fun W k hu => push_any N S T n m a3 a4 a5 a6 a7 a8 c3 c4 c5 c6 c7 c8 ys p ra rc ea ec za zc who wt u ar d h lo W hg (hcr.kept k) hok (hr.kept k) (he.kept k) (hz.kept k) hu.1 hu.2)
  have HLI : Hid (∀ W, Kept w W → 0 ≤ u ∧ u < N → Calls Try.prog 40 #[.agg #[.int .i64 N, .int .i64 S, .int .i64 T, .slice a3 (n + 1) c3, .slice a4 m c4, .slice a5 m c5, .slice a6 m c6, .slice a7 m c7, .slice a8 m c8, .slice ra m rc, .slice ea n ec, .slice za n zc], .agg #[.int .i64 who, .int .u8 wt, .int .i64 u, .int .i64 ar, .int .i64 d, .int .i64 h, .int .i64 lo]] W fun e w' => e = .returned (.int .i64 (liftP N p ⟨who, wt, u, ar, d, h, lo⟩)) ∧ Kept W w') := Lib.hid (fun W k hu => lift_any N S T n m a3 a4 a5 a6 a7 a8 c3 c4 c5 c6 c7 c8 ys p ra rc ea ec za zc who wt u ar d h lo W hg (hcr.kept k) hok (hr.kept k) (he.kept k) (hz.kept k) hu.1 hu.2)
  clear hg hcr hok hr he hz
  go_enter Try.func16, Try.ntmps16
  go_upto_region 1 with (fail)
  try rw [hs2]
  try rw [hs1]
  clear hs1 hs2
  generalize (((w.alloc (.cells #[.int .i64 N, .int .i64 S, .int .i64 T, .slice a3 (n + 1) c3, .slice a4 m c4, .slice a5 m c5, .slice a6 m c6, .slice a7 m c7, .slice a8 m c8] 32)).alloc (.cells #[.slice ra m rc, .slice ea n ec, .slice za n zc] 29)).alloc (.cells #[.int .i64 who, .int .u8 wt, .int .i64 u, .int .i64 ar, .int .i64 d, .int .i64 h, .int .i64 lo] 39)) = W3 at HK HB HP HE ⊢
  generalize w.heap.size + 1 + 1 = eb at HE ⊢
  generalize w.heap.size + 1 = pb at HP ⊢
  generalize w.heap.size = cb at HB ⊢
  have hra9 := Blk.range HB.out
  have px := HP.out.cell
  have hZ := Blk.new W3 #[.int .i64 0, .int .i64 0, .int .i64 0, .slice none 0 0, .slice none 0 0, .slice none 0 0, .slice none 0 0, .slice none 0 0, .slice none 0 0, .slice none 0 0, .slice none 0 0, .slice none 0 0] 73
  have hth := Blk.there hZ 12 rfl
  obtain ⟨W4, hW4⟩ : ∃ W4, (W3.alloc (.cells #[.int .i64 0, .int .i64 0, .int .i64 0, .slice none 0 0, .slice none 0 0, .slice none 0 0, .slice none 0 0, .slice none 0 0, .slice none 0 0, .slice none 0 0, .slice none 0 0, .slice none 0 0] 73)).setCells W3.heap.size 0 [.int .i64 N, .int .i64 S, .int .i64 T, .slice a3 (n + 1) c3, .slice a4 m c4, .slice a5 m c5, .slice a6 m c6, .slice a7 m c7, .slice a8 m c8, .slice ra m rc, .slice ea n ec, .slice za n zc] = W4 := ⟨_, rfl⟩
  have hB4 : Blk W4 W3.heap.size #[.int .i64 N, .int .i64 S, .int .i64 T, .slice a3 (n + 1) c3, .slice a4 m c4, .slice a5 m c5, .slice a6 m c6, .slice a7 m c7, .slice a8 m c8, .slice ra m rc, .slice ea n ec, .slice za n zc] 73 ∧ Upd (fun k => k = W3.heap.size) (W3.alloc (.cells #[.int .i64 0, .int .i64 0, .int .i64 0, .slice none 0 0, .slice none 0 0, .slice none 0 0, .slice none 0 0, .slice none 0 0, .slice none 0 0, .slice none 0 0, .slice none 0 0, .slice none 0 0] 73)) W4 := by rw [← hW4]; exact Blk.alls hZ [.int .i64 N, .int .i64 S, .int .i64 T, .slice a3 (n + 1) c3, .slice a4 m c4, .slice a5 m c5, .slice a6 m c6, .slice a7 m c7, .slice a8 m c8, .slice ra m rc, .slice ea n ec, .slice za n zc] rfl
  have HSB := Lib.hid hB4.1
  have KW := Lib.hid (show Kept W3 W4 from ((Upd.refl (fun _ => False) W3).alloc _).then hB4.2 (fun i hi e => by omega))
  have hz12 : (Try.prog.info? 73).map (·.size) = some 12 := by kernel_rfl
  have hz9 : (Try.prog.info? 32).map (·.size) = some 9 := by kernel_rfl
  clear hB4 hZ
  go_upto_region 2 with (first | (refine wpList_load_mid rfl _ _ rfl cb 0 rfl [.int .i64 N, .int .i64 S, .int .i64 T, .slice a3 (n + 1) c3, .slice a4 m c4, .slice a5 m c5, .slice a6 m c6, .slice a7 m c7, .slice a8 m c8] _ hra9 Try.underlying32 rfl hz9 ?_) | (refine wpList_store_mid rfl _ _ _ rfl W3.heap.size 0 #[.int .i64 N, .int .i64 S, .int .i64 T, .slice a3 (n + 1) c3, .slice a4 m c4, .slice a5 m c5, .slice a6 m c6, .slice a7 m c7, .slice a8 m c8, .slice ra m rc, .slice ea n ec, .slice za n zc] rfl rfl hth hz12 (all_oneCell_toArray (cs := [.int .i64 N, .int .i64 S, .int .i64 T, .slice a3 (n + 1) c3, .slice a4 m c4, .slice a5 m c5, .slice a6 m c6, .slice a7 m c7, .slice a8 m c8, .slice ra m rc, .slice ea n ec, .slice za n zc]) (by simp [Value.oneCell'])) ?_; simp only [hW4]) | fail)
  clear hth hW4 hz9 px hra9
  generalize W3.heap.size = sb at HSB ⊢
  have HB4 := Lib.hid (HB.out.kept KW.out)
  have HP4 := Lib.hid (HP.out.kept KW.out)
  have HE4 := Lib.hid (HE.out.kept KW.out)
  have HK4 := Lib.hid (HK.out.trans KW.out)
  clear HB HP HE HK KW
  obtain ⟨W5, hu1, hk5, hm5⟩ := ask_first W4 (.func (.func 39) #[.agg #[.int .i64 N, .int .i64 S, .int .i64 T, .slice a3 (n + 1) c3, .slice a4 m c4, .slice a5 m c5, .slice a6 m c6, .slice a7 m c7, .slice a8 m c8, .slice ra m rc, .slice ea n ec, .slice za n zc]] #[])
  obtain ⟨W6, hu2, hU6, hm6⟩ := ask_next (g := (.func (.func 40) #[.agg #[.int .i64 N, .int .i64 S, .int .i64 T, .slice a3 (n + 1) c3, .slice a4 m c4, .slice a5 m c5, .slice a6 m c6, .slice a7 m c7, .slice a8 m c8, .slice ra m rc, .slice ea n ec, .slice za n zc]] #[])) hm5
  have hlk := ask_look hwt hm6
  have hmm := @run_makeMap Try.prog
  have hka := (Upd.refl (fun _ => False) W4).alloc (.map #[] 0)
  have hraA := Blk.range (HSB.out.kept hka)
  have hraB := Blk.range (HSB.out.kept hk5)
  have HK6 : Hid (Kept w W6) := Lib.hid (HK4.out.trans (hk5.then hU6 (fun i hi e => by omega)))
  have hk6 : Kept W4 W6 := hk5.then hU6 (fun i hi e => by omega)
  have HB6 := Lib.hid (HB4.out.kept hk6)
  have HE6 := Lib.hid (HE4.out.kept hk6)
  have ex := HE6.out.cell
  clear hk6 hU6 hm5 hm6 hk5 hka HB4 HP4 HE4 HK4
  by_cases h1 : wt = 1
  · subst h1
    simp only [if_true] at hlk
    go_upto_region 3 with (first | (refine wpList_load_mid rfl _ _ rfl sb 0 rfl [.int .i64 N, .int .i64 S, .int .i64 T, .slice a3 (n + 1) c3, .slice a4 m c4, .slice a5 m c5, .slice a6 m c6, .slice a7 m c7, .slice a8 m c8, .slice ra m rc, .slice ea n ec, .slice za n zc] _ hraA Try.underlying73 rfl hz12 ?_) | (refine wpList_load_mid rfl _ _ rfl sb 0 rfl [.int .i64 N, .int .i64 S, .int .i64 T, .slice a3 (n + 1) c3, .slice a4 m c4, .slice a5 m c5, .slice a6 m c6, .slice a7 m c7, .slice a8 m c8, .slice ra m rc, .slice ea n ec, .slice za n zc] _ hraB Try.underlying73 rfl hz12 ?_) | fail)
    clear hlk hu1 hu2 hmm hraA hraB
    have bx := HB6.out.cell
    by_cases q0 : u < 0
    · have b0 : decide (u < 0) = true := by simpa using q0
      as_aux_lemma =>
      go_wp2_with fail
      go_ret
      exact ⟨by rw [HV.out, if_pos (by omega)]; rfl, HK6.out⟩
    · have b0 : decide (u < 0) = false := by simpa using q0
      by_cases q1 : N ≤ u
      · have b1 : decide (N ≤ u) = true := by simpa using q1
        as_aux_lemma =>
        go_wp2_with fail
        go_ret
        exact ⟨by rw [HV.out, if_pos (by omega)]; rfl, HK6.out⟩
      · have b1 : decide (N ≤ u) = false := by simpa using q1
        by_cases q2 : u = S
        · have b2 : (u == S) = true := by simpa using q2
          as_aux_lemma =>
          go_wp2_with fail
          go_ret
          exact ⟨by rw [HV.out, if_pos (by omega)]; rfl, HK6.out⟩
        · have b2 : (u == S) = false := by simpa using q2
          by_cases q3 : u = T
          · have b3 : (u == T) = true := by simpa using q3
            as_aux_lemma =>
            go_wp2_with fail
            go_ret
            exact ⟨by rw [HV.out, if_pos (by omega)]; rfl, HK6.out⟩
          · have b3 : (u == T) = false := by simpa using q3
            have HC := Lib.hid (HPU.out W6 HK6.out ⟨by omega, by omega⟩)
            have HVF : Hid (V = pushP ys p ⟨who, 1, u, ar, d, h, lo⟩) := Lib.hid (by rw [HV.out, if_neg (by omega)]; simp)
            clear HPU
            go_wp2_with fail
            refine HC.out.mono ?_
            rintro e w7 ⟨rfl, hk7⟩
            rw [← HVF.out]
            have HK7 := Lib.hid (HK6.out.trans hk7)
            clear hk7 HC
            go_wp2_with fail
            go_ret
            exact ⟨rfl, HK7.out⟩
  · by_cases h2 : wt = 2
    · subst h2
      simp only [if_true, show ¬ (2 : Int) = 1 by omega, if_false] at hlk
      go_upto_region 3 with (first | (refine wpList_load_mid rfl _ _ rfl sb 0 rfl [.int .i64 N, .int .i64 S, .int .i64 T, .slice a3 (n + 1) c3, .slice a4 m c4, .slice a5 m c5, .slice a6 m c6, .slice a7 m c7, .slice a8 m c8, .slice ra m rc, .slice ea n ec, .slice za n zc] _ hraA Try.underlying73 rfl hz12 ?_) | (refine wpList_load_mid rfl _ _ rfl sb 0 rfl [.int .i64 N, .int .i64 S, .int .i64 T, .slice a3 (n + 1) c3, .slice a4 m c4, .slice a5 m c5, .slice a6 m c6, .slice a7 m c7, .slice a8 m c8, .slice ra m rc, .slice ea n ec, .slice za n zc] _ hraB Try.underlying73 rfl hz12 ?_) | fail)
      clear hlk hu1 hu2 hmm hraA hraB
      have bx := HB6.out.cell
      by_cases q0 : u < 0
      · have b0 : decide (u < 0) = true := by simpa using q0
        as_aux_lemma =>
        go_wp2_with fail
        go_ret
        exact ⟨by rw [HV.out, if_pos (by omega)]; rfl, HK6.out⟩
      · have b0 : decide (u < 0) = false := by simpa using q0
        by_cases q1 : N ≤ u
        · have b1 : decide (N ≤ u) = true := by simpa using q1
          as_aux_lemma =>
          go_wp2_with fail
          go_ret
          exact ⟨by rw [HV.out, if_pos (by omega)]; rfl, HK6.out⟩
        · have b1 : decide (N ≤ u) = false := by simpa using q1
          by_cases q2 : u = S
          · have b2 : (u == S) = true := by simpa using q2
            as_aux_lemma =>
            go_wp2_with fail
            go_ret
            exact ⟨by rw [HV.out, if_pos (by omega)]; rfl, HK6.out⟩
          · have b2 : (u == S) = false := by simpa using q2
            by_cases q3 : u = T
            · have b3 : (u == T) = true := by simpa using q3
              as_aux_lemma =>
              go_wp2_with fail
              go_ret
              exact ⟨by rw [HV.out, if_pos (by omega)]; rfl, HK6.out⟩
            · have b3 : (u == T) = false := by simpa using q3
              have HC := Lib.hid (HLI.out W6 HK6.out ⟨by omega, by omega⟩)
              have HVF : Hid (V = liftP N p ⟨who, 2, u, ar, d, h, lo⟩) := Lib.hid (by rw [HV.out, if_neg (by omega)]; simp)
              clear HLI
              go_wp2_with fail
              refine HC.out.mono ?_
              rintro e w7 ⟨rfl, hk7⟩
              rw [← HVF.out]
              have HK7 := Lib.hid (HK6.out.trans hk7)
              clear hk7 HC
              go_wp2_with fail
              go_ret
              exact ⟨rfl, HK7.out⟩
    · rw [if_neg h1, if_neg h2] at hlk
      have HV2 : Hid (V = 2) := Lib.hid (by rw [HV.out, if_pos (Or.inl ⟨h1, h2⟩)])
      clear h1 h2 HV HPU HLI
      go_upto_region 3 with (first | (refine wpList_load_mid rfl _ _ rfl sb 0 rfl [.int .i64 N, .int .i64 S, .int .i64 T, .slice a3 (n + 1) c3, .slice a4 m c4, .slice a5 m c5, .slice a6 m c6, .slice a7 m c7, .slice a8 m c8, .slice ra m rc, .slice ea n ec, .slice za n zc] _ hraA Try.underlying73 rfl hz12 ?_) | (refine wpList_load_mid rfl _ _ rfl sb 0 rfl [.int .i64 N, .int .i64 S, .int .i64 T, .slice a3 (n + 1) c3, .slice a4 m c4, .slice a5 m c5, .slice a6 m c6, .slice a7 m c7, .slice a8 m c8, .slice ra m rc, .slice ea n ec, .slice za n zc] _ hraB Try.underlying73 rfl hz12 ?_) | fail)
      clear hlk hu1 hu2 hmm hraA hraB
      go_wp2_with fail
      go_ret
      exact ⟨by rw [HV2.out]; rfl, HK6.out⟩
end Go.Proofs.Ytdhimfkmgcfohaa
