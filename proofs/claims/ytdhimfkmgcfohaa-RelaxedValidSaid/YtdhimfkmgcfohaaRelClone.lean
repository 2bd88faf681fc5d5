/- slices.Clone; relaxed.own (printed by gen_relclone.py) -/
import Derived.Test.YtdhimfkmgcfohaaCopyRow
import Derived.Test.YtdhimfkmgcfohaaCsrState
import Derived.Test.YtdhimfkmgcfohaaGst
import Derived.Test.YtdhimfkmgcfohaaRelP
import Derived.Deep.CutRange
import Derived.Deep.RegionHeld3
import Derived.Deep.MidRow
import Derived.Deep.Onto
namespace Go.Proofs.Ytdhimfkmgcfohaa
set_option linter.unusedVariables false
set_option linter.unusedSimpArgs false
open Go.RowKit
attribute [local go_sem] cell?_ext

theorem relNil {P : Program} {t e : TypeId} (ht : P.underlying t = some (.slice e)) (a : Option Addr) (l c : Nat) (w : World) : (binOp .eql t (.slice a l c) (.slice none 0 0)).run P w = .ok (.bool a.isNone) w := by
  simp [binOp, run_equal_slice_nil w t e a l c ht]
theorem lv_one (xs : List Int) : ∀ u ∈ lv xs, u.oneCell' = true := by
  intro u hu
  obtain ⟨x, -, rfl⟩ := List.mem_map.1 hu
  rfl
set_option maxHeartbeats 1000000 in
theorem clone64 (a : Option Addr) (m c : Nat) (xs : List Int) (w : World) (h : Rd w a (lv xs)) (hl : xs.length = m) (hso : SomeOr a m c) (hn : m ≤ 2000000) :
    Calls Try.prog 46 #[.slice a m c] w fun e w' => ∃ a' c', e = .returned (.slice a' m c') ∧ w'.ownsRow w.heap.size 2 1 (.slice a' m c') m (lv xs) ∧ Kept w w' := by
  obtain ⟨i0, hi, hz0, hz1, hz2⟩ := info_parts infoLong
  rcases hso with ⟨ad, rfl⟩ | ⟨rfl, rfl, rfl⟩
  · have hnil := relNil (P := Try.prog) Try.underlying26 (some ad) m c
    simp only [Option.isNone_some] at hnil
    have hl2 : (lv xs).length = m := by rw [lv_len]; exact hl
    go_enter Try.func46, Try.ntmps46
    go_wp2_with (first | (at_builtin; refine wpList_copied rfl _ _ 26 rfl 2 i0 (.int .i64 0) 8 Try.underlying26 hi hz0 hz1 hz2 rfl (by decide) (some ad) m c (lv xs) rfl rfl h hl2 (.inl ⟨ad, rfl⟩) (lv_one xs) hn ?_; intro a' c' w' hown hgrow) | fail)
    go_ret
    exact ⟨a', c', rfl, hown, hgrow⟩
  · have hnil := relNil (P := Try.prog) Try.underlying26 none 0 0
    simp only [Option.isNone_none] at hnil
    have hx : xs = [] := List.eq_nil_of_length_eq_zero hl
    subst hx
    go_enter Try.func46, Try.ntmps46
    go_wp2_with fail
    go_ret
    exact ⟨none, 0, rfl, World.ownsRow_nil _ _ _ _, Upd.refl _ _⟩
set_option maxHeartbeats 1000000 in
theorem cloneI (a : Option Addr) (m c : Nat) (xs : List Int) (w : World) (h : Rd w a (lv xs)) (hl : xs.length = m) (hso : SomeOr a m c) (hn : m ≤ 2000000) :
    Calls Try.prog 63 #[.slice a m c] w fun e w' => ∃ a' c', e = .returned (.slice a' m c') ∧ w'.ownsRow w.heap.size 3 1 (.slice a' m c') m (lv xs) ∧ Kept w w' := by
  obtain ⟨i0, hi, hz0, hz1, hz2⟩ := info_parts infoInt
  rcases hso with ⟨ad, rfl⟩ | ⟨rfl, rfl, rfl⟩
  · have hnil := relNil (P := Try.prog) Try.underlying27 (some ad) m c
    simp only [Option.isNone_some] at hnil
    have hl2 : (lv xs).length = m := by rw [lv_len]; exact hl
    go_enter Try.func63, Try.ntmps63
    go_wp2_with (first | (at_builtin; refine wpList_copied rfl _ _ 27 rfl 3 i0 (.int .i64 0) 8 Try.underlying27 hi hz0 hz1 hz2 rfl (by decide) (some ad) m c (lv xs) rfl rfl h hl2 (.inl ⟨ad, rfl⟩) (lv_one xs) hn ?_; intro a' c' w' hown hgrow) | fail)
    go_ret
    exact ⟨a', c', rfl, hown, hgrow⟩
  · have hnil := relNil (P := Try.prog) Try.underlying27 none 0 0
    simp only [Option.isNone_none] at hnil
    have hx : xs = [] := List.eq_nil_of_length_eq_zero hl
    subst hx
    go_enter Try.func63, Try.ntmps63
    go_wp2_with fail
    go_ret
    exact ⟨none, 0, rfl, World.ownsRow_nil _ _ _ _, Upd.refl _ _⟩
/-- A state's rows, as one's own. -/
structure OwnP (w : World) (base : Nat) (p : PS) (n m : Nat) (ra : Option Addr) (rc : Nat) (ea : Option Addr) (ec : Nat) (za : Option Addr) (zc : Nat) : Prop where
  r : w.ownsRow base 2 1 (.slice ra m rc) m (lv p.rs)
  e : w.ownsRow base 2 1 (.slice ea n ec) n (lv p.es)
  z : w.ownsRow base 3 1 (.slice za n zc) n (lv p.hs)
  ok : p.ok n m
  far : ∀ k, (Value.slice ra m rc).ownBlock = some k → (Value.slice ea n ec).ownBlock = some k → False
theorem OwnP.kept {w w' : World} {base : Nat} {p : PS} {n m : Nat} {ra : Option Addr} {rc : Nat} {ea : Option Addr} {ec : Nat} {za : Option Addr} {zc : Nat} (h : OwnP w base p n m ra rc ea ec za zc) (k : Kept w w') : OwnP w' base p n m ra rc ea ec za zc :=
  ⟨ownsRow_far h.r k (fun _ _ f => f), ownsRow_far h.e k (fun _ _ f => f), ownsRow_far h.z k (fun _ _ f => f), h.ok, h.far⟩
set_option maxRecDepth 100000 in
set_option maxHeartbeats 4000000 in
theorem own_any (p : PS) (n m : Nat) (ra : Option Addr) (rc : Nat) (ea : Option Addr) (ec : Nat) (za : Option Addr) (zc : Nat) (w : World) (hr : Rd w ra (lv p.rs)) (he : Rd w ea (lv p.es)) (hz : Rd w za (lv p.hs)) (hok : p.ok n m) (s1 : SomeOr ra m rc) (s2 : SomeOr ea n ec) (s3 : SomeOr za n zc) (hn : n ≤ 2000000) (hm : m ≤ 2000000) :
    Calls Try.prog 42 #[.agg #[.slice ra m rc, .slice ea n ec, .slice za n zc]] w fun e w' => ∃ ra rc ea ec za zc, e = .returned (.agg #[.slice ra m rc, .slice ea n ec, .slice za n zc]) ∧ OwnP w' w.heap.size p n m ra rc ea ec za zc ∧ Kept w w' := by
  have HRR := Lib.hid hr
  have HEE := Lib.hid he
  have HZZ := Lib.hid hz
  have HOK : Hid (p.rs.length = m ∧ p.es.length = n ∧ p.hs.length = n) := Lib.hid hok
  have HS1 := Lib.hid s1
  have HS2 := Lib.hid s2
  have HS3 := Lib.hid s3
  have HNM := Lib.hid (And.intro hn hm)
  have HPB := Lib.hid ((Blk.new w #[.slice ra m rc, .slice ea n ec, .slice za n zc] 29).alloc (.cells #[.slice none 0 0, .slice none 0 0, .slice none 0 0] 29))
  have HRB := Lib.hid (Blk.new (w.alloc (.cells #[.slice ra m rc, .slice ea n ec, .slice za n zc] 29)) #[.slice none 0 0, .slice none 0 0, .slice none 0 0] 29)
  have HK0 := Lib.hid (((Upd.refl (fun _ => False) w).alloc (.cells #[.slice ra m rc, .slice ea n ec, .slice za n zc] 29)).alloc (.cells #[.slice none 0 0, .slice none 0 0, .slice none 0 0] 29))
  have hs1 : (w.alloc (.cells #[.slice ra m rc, .slice ea n ec, .slice za n zc] 29)).heap.size = w.heap.size + 1 := World.size_alloc _ _
  rw [hs1] at HRB
  clear hr he hz hok s1 s2 s3 hn hm
  go_enter Try.func42, Try.ntmps42
  go_upto_region 1 with (fail)
  try rw [hs1]
  clear hs1
  generalize ((w.alloc (.cells #[.slice ra m rc, .slice ea n ec, .slice za n zc] 29)).alloc (.cells #[.slice none 0 0, .slice none 0 0, .slice none 0 0] 29)) = W0 at HPB HRB HK0 ⊢
  obtain ⟨pb, hpb⟩ : ∃ pb, w.heap.size = pb := ⟨_, rfl⟩
  have HB : Hid (w.heap.size = pb) := Lib.hid hpb
  rw [hpb] at HPB HRB
  rw [hpb]
  clear hpb
  have X0 := Lib.hid (show Kept w W0.drew ∧ Blk W0.drew pb #[.slice ra m rc, .slice ea n ec, .slice za n zc] 29 ∧ Blk W0.drew (pb + 1) #[.slice none 0 0, .slice none 0 0, .slice none 0 0] 29 from ⟨HK0.out.drew, HPB.out.kept (Upd.refl _ _).drew, HRB.out.kept (Upd.refl _ _).drew⟩)
  have C0 : ∀ i, W0.drew.cell? ⟨pb, i, none⟩ = (#[.slice ra m rc, .slice ea n ec, .slice za n zc] : Array Value)[i]? := X0.out.2.1.cell
  clear HPB HRB HK0
  go_region_held3 (fun w' => ∀ i, w'.cell? ⟨pb, i, none⟩ = (#[.slice ra m rc, .slice ea n ec, .slice za n zc] : Array Value)[i]?)
    (first | with_reducible exact C0 | with_reducible exact C1 | with_reducible exact C2 | with_reducible exact C3 | with_reducible exact C4)
    ((first
      | (go_at_call 63; with_reducible refine (cloneI za n zc p.hs _ (HZZ.out.kept X2.out.1) HOK.out.2.2 HS3.out HNM.out.1).mono ?_; rintro e x3 ⟨a3, c3, rfl, ho, hk⟩; have X3 := Lib.hid (show Kept w x3 ∧ Blk x3 pb #[.slice ra m rc, .slice ea n ec, .slice za n zc] 29 ∧ Blk x3 (pb + 1) #[.slice none 0 0, .slice none 0 0, .slice none 0 0] 29 from ⟨X2.out.1.trans hk, X2.out.2.1.kept hk, X2.out.2.2.kept hk⟩); have O3 := Lib.hid ho; have K3 := Lib.hid hk; have C3 : ∀ i, x3.cell? ⟨pb, i, none⟩ = (#[.slice ra m rc, .slice ea n ec, .slice za n zc] : Array Value)[i]? := X3.out.2.1.cell; have r3 : ∀ i, x3.cell? ⟨pb + 1, i, none⟩ = (#[.slice none 0 0, .slice none 0 0, .slice none 0 0] : Array Value)[i]? := X3.out.2.2.cell; have f3 : ∀ i, x3.frozen? ⟨pb + 1, i, none⟩ = false := X3.out.2.2.free; have C4 : ∀ i, (((x3.setCell ⟨pb + 1, 0, none⟩ (.slice a1 m c1)).setCell ⟨pb + 1, 1, none⟩ (.slice a2 n c2)).setCell ⟨pb + 1, 2, none⟩ (.slice a3 n c3)).cell? ⟨pb, i, none⟩ = (#[.slice ra m rc, .slice ea n ec, .slice za n zc] : Array Value)[i]? := (X3.out.2.1.upd (S := fun k => k = pb + 1) ((((Upd.refl (fun k => k = pb + 1) x3).setCell (p := ⟨pb + 1, 0, none⟩) (.inl rfl) (.slice a1 m c1)).setCell (p := ⟨pb + 1, 1, none⟩) (.inl rfl) (.slice a2 n c2)).setCell (p := ⟨pb + 1, 2, none⟩) (.inl rfl) (.slice a3 n c3)) (by omega)).cell; clear ho hk)
      | (go_at_call 46; with_reducible refine (clone64 ea n ec p.es _ (HEE.out.kept X1.out.1) HOK.out.2.1 HS2.out HNM.out.1).mono ?_; rintro e x2 ⟨a2, c2, rfl, ho, hk⟩; have X2 := Lib.hid (show Kept w x2 ∧ Blk x2 pb #[.slice ra m rc, .slice ea n ec, .slice za n zc] 29 ∧ Blk x2 (pb + 1) #[.slice none 0 0, .slice none 0 0, .slice none 0 0] 29 from ⟨X1.out.1.trans hk, X1.out.2.1.kept hk, X1.out.2.2.kept hk⟩); have O2 := Lib.hid ho; have K2 := Lib.hid hk; have C2 : ∀ i, x2.cell? ⟨pb, i, none⟩ = (#[.slice ra m rc, .slice ea n ec, .slice za n zc] : Array Value)[i]? := X2.out.2.1.cell; clear ho hk)
      | (go_at_call 46; with_reducible refine (clone64 ra m rc p.rs _ (HRR.out.kept X0.out.1) HOK.out.1 HS1.out HNM.out.2).mono ?_; rintro e x1 ⟨a1, c1, rfl, ho, hk⟩; have X1 := Lib.hid (show Kept w x1 ∧ Blk x1 pb #[.slice ra m rc, .slice ea n ec, .slice za n zc] 29 ∧ Blk x1 (pb + 1) #[.slice none 0 0, .slice none 0 0, .slice none 0 0] 29 from ⟨X0.out.1.trans hk, X0.out.2.1.kept hk, X0.out.2.2.kept hk⟩); have O1 := Lib.hid ho; have C1 : ∀ i, x1.cell? ⟨pb, i, none⟩ = (#[.slice ra m rc, .slice ea n ec, .slice za n zc] : Array Value)[i]? := X1.out.2.1.cell; clear ho hk)))
  have HU := Lib.hid (show Upd (fun k => k = pb + 1) x3 (((x3.setCell ⟨pb + 1, 0, none⟩ (.slice a1 m c1)).setCell ⟨pb + 1, 1, none⟩ (.slice a2 n c2)).setCell ⟨pb + 1, 2, none⟩ (.slice a3 n c3)) from ((((Upd.refl (fun k => k = pb + 1) x3).setCell (p := ⟨pb + 1, 0, none⟩) (.inl rfl) (.slice a1 m c1)).setCell (p := ⟨pb + 1, 1, none⟩) (.inl rfl) (.slice a2 n c2)).setCell (p := ⟨pb + 1, 2, none⟩) (.inl rfl) (.slice a3 n c3)))
  have e0 : (((x3.setCell ⟨pb + 1, 0, none⟩ (.slice a1 m c1)).setCell ⟨pb + 1, 1, none⟩ (.slice a2 n c2)).setCell ⟨pb + 1, 2, none⟩ (.slice a3 n c3)).cell? ⟨pb + 1, 0, none⟩ = some (.slice a1 m c1) := by have h := (((X3.out.2.2.set 0 (.slice a1 m c1)).set 1 (.slice a2 n c2)).set 2 (.slice a3 n c3)).cell 0; exact h
  have e1 : (((x3.setCell ⟨pb + 1, 0, none⟩ (.slice a1 m c1)).setCell ⟨pb + 1, 1, none⟩ (.slice a2 n c2)).setCell ⟨pb + 1, 2, none⟩ (.slice a3 n c3)).cell? ⟨pb + 1, 1, none⟩ = some (.slice a2 n c2) := by have h := (((X3.out.2.2.set 0 (.slice a1 m c1)).set 1 (.slice a2 n c2)).set 2 (.slice a3 n c3)).cell 1; exact h
  have e2 : (((x3.setCell ⟨pb + 1, 0, none⟩ (.slice a1 m c1)).setCell ⟨pb + 1, 1, none⟩ (.slice a2 n c2)).setCell ⟨pb + 1, 2, none⟩ (.slice a3 n c3)).cell? ⟨pb + 1, 2, none⟩ = some (.slice a3 n c3) := by have h := (((X3.out.2.2.set 0 (.slice a1 m c1)).set 1 (.slice a2 n c2)).set 2 (.slice a3 n c3)).cell 2; exact h
  have hz1 := X1.out.1.size
  have hz2 := X2.out.1.size
  have hz3 := X3.out.2.2.lt
  have q2 : pb + 1 < x1.heap.size := X1.out.2.2.lt
  have q0 : pb + 1 < W0.drew.heap.size := X0.out.2.2.lt
  have hb := HB.out
  have o1 := ownsRow_far (ownsRow_far (ownsRow_far O1.out K2.out (fun _ _ f => f)) K3.out (fun _ _ f => f)) HU.out (fun k hk e => by have := (World.ownsRow.lt O1.out k hk).1; omega)
  have o2 := ownsRow_far (ownsRow_far O2.out K3.out (fun _ _ f => f)) HU.out (fun k hk e => by have := (World.ownsRow.lt O2.out k hk).1; omega)
  have q3 : pb + 1 < x2.heap.size := X2.out.2.2.lt
  have o3 := ownsRow_far O3.out HU.out (fun k hk e => by have := (World.ownsRow.lt O3.out k hk).1; omega)
  have HOW := Lib.hid (show OwnP (((x3.setCell ⟨pb + 1, 0, none⟩ (.slice a1 m c1)).setCell ⟨pb + 1, 1, none⟩ (.slice a2 n c2)).setCell ⟨pb + 1, 2, none⟩ (.slice a3 n c3)) pb p n m a1 c1 a2 c2 a3 c3 from ⟨o1.mono (by omega), o2.mono (by omega), o3.mono (by omega), HOK.out, fun k h1 h2 => by have h3 := (World.ownsRow.lt O1.out k h1).2; have h4 := (World.ownsRow.lt O2.out k h2).1; omega⟩)
  have HKF := Lib.hid (show Kept w (((x3.setCell ⟨pb + 1, 0, none⟩ (.slice a1 m c1)).setCell ⟨pb + 1, 1, none⟩ (.slice a2 n c2)).setCell ⟨pb + 1, 2, none⟩ (.slice a3 n c3)) from X3.out.1.then HU.out (fun i hi e => by omega))
  clear o1 o2 o3 C0 C1 C2 C3 C4 r3 f3 X0 X1 X2 X3 O1 O2 O3 K2 K3 HU hz1 hz2 hz3 q0 q2 q3
  generalize (((x3.setCell ⟨pb + 1, 0, none⟩ (.slice a1 m c1)).setCell ⟨pb + 1, 1, none⟩ (.slice a2 n c2)).setCell ⟨pb + 1, 2, none⟩ (.slice a3 n c3)) = WF at e0 e1 e2 HOW HKF ⊢
  go_wp2_with fail
  refine bodyPost_ret (v := .agg #[.slice a1 m c1, .slice a2 n c2, .slice a3 n c3]) (by simp [results, Try.results42, go_sem, e0, e1, e2]) rfl ?_
  exact ⟨a1, c1, a2, c2, a3, c3, rfl, by rw [HB.out]; exact HOW.out, HKF.out⟩
end Go.Proofs.Ytdhimfkmgcfohaa
