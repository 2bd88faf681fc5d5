/- Package barrier: a step, by what is next. -/
import Derived.Test.YtghlpapljjcaeaaArrive
namespace Go.Proofs.Ytghlpapljjcaeaa
set_option linter.unusedVariables false
open Go.RowKit

/-- What a step leaves, and tells. -/
def Stp (mb bb g : Nat) (n s : Int) (ms : List MS) (xs : List Int) (z : Bool) (w : World) (e : Ending) (w' : World) : Prop := e = .returned (.bool z) ∧ Mach w' mb n s ms ∧ Bnk w' bb g xs ∧ Upd (fun k => k = g ∨ k = mb) w w'

set_option maxRecDepth 100000 in
set_option maxHeartbeats 1000000 in
theorem step_0 {w : World} {mb bb g : Nat} {n s : Int} {ms : List MS} {xs : List Int} {own : Int} {last : Bool} (i o : Nat) (ho : o = i * 17) (hi : ms[i]? = some ⟨0, own, last⟩) (hm : Mach w mb n s ms) (hb : Bnk w bb g xs) (hne : ¬ mb = g ∧ ¬ mb = bb) (r : Int) (hr : (if bget xs 10 = 0 then (1 : Int) else 0) = r) :
    Calls Try.prog 15 #[.pointer (some ⟨mb, o, none⟩), .pointer (some ⟨bb, 0, none⟩)] w (Stp mb bb g n s (ms.set i ⟨1, r, last⟩) (xs) false w) := by
  have c14 : w.cell? ⟨mb, o + 14, none⟩ = some (.int .u8 0) := by rw [hm.cell hi ho 14 (by omega)]; rfl
  have lm := hm.lt
  have HM := Lib.hid hm
  have HI := Lib.hid hi
  have HN := Lib.hid hne
  have HO := Lib.hid ho
  have HC := fun (w' : World) (hk : Kept w w') => Lib.hid (look_any i o ho hi (hm.kept hk) (hb.kept hk) hne r hr)
  clear hm hb ho hi hne
  go_enter Try.func15, Try.ntmps15
  go_wp2_with fail
  refine (HC _ ((Upd.refl _ _).alloc _)).out.mono ?_
  rintro e w1 ⟨rfl, hM, hB, hU⟩
  have d14 : w1.cell? ⟨mb, o + 14, none⟩ = some (.int .u8 0) := by rw [hM.cell (set_at HI.out (⟨0, r, last⟩ : MS)) HO.out 14 (by omega)]; rfl
  have f14 := hM.free (o + 14)
  have h1 := hM.set (set_at HI.out (⟨0, r, last⟩ : MS)) HO.out 14 (by omega) (.int .u8 1) ⟨1, r, last⟩ rfl
  rw [List.set_set] at h1
  have e14 : (w1.setCell ⟨mb, o + 14, none⟩ (.int .u8 1)).cell? ⟨mb, o + 14, none⟩ = some (.int .u8 1) := by rw [h1.cell (set_at HI.out (⟨1, r, last⟩ : MS)) HO.out 14 (by omega)]; rfl
  have HF : Hid (Stp mb bb g n s (ms.set i ⟨1, r, last⟩) (xs) false w (.returned (.bool false)) (w1.setCell ⟨mb, o + 14, none⟩ (.int .u8 1))) :=
    Lib.hid ⟨rfl, h1, hB.upd (updCell _ mb (o + 14) _) (fun e => HN.out.2 e.symm) (fun e => HN.out.1 e.symm), upd2 (((Upd.refl _ _).alloc _).trans hU) _⟩
  clear hM hB hU h1 HM HC HI HO HN
  go_wp2
  exact bodyPost_ret (v := .bool false) (by simp [results, Try.results15, go_sem]) rfl HF.out

set_option maxRecDepth 100000 in
set_option maxHeartbeats 1000000 in
theorem step_1t {w : World} {mb bb g : Nat} {n s : Int} {ms : List MS} {xs : List Int} {own : Int} {last : Bool} (i o : Nat) (ho : o = i * 17) (hi : ms[i]? = some ⟨1, own, last⟩) (hm : Mach w mb n s ms) (hb : Bnk w bb g xs) (hne : ¬ mb = g ∧ ¬ mb = bb) (hlen : 9 < xs.length) (r : Int) (hr : wrap64 (bget xs 9 + -1) = r) (hz : (r == 0) = true) :
    Calls Try.prog 15 #[.pointer (some ⟨mb, o, none⟩), .pointer (some ⟨bb, 0, none⟩)] w (Stp mb bb g n s (ms.set i ⟨2, own, true⟩) (bput xs 9 r) false w) := by
  have c14 : w.cell? ⟨mb, o + 14, none⟩ = some (.int .u8 1) := by rw [hm.cell hi ho 14 (by omega)]; rfl
  have lm := hm.lt
  have HM := Lib.hid hm
  have HI := Lib.hid hi
  have HN := Lib.hid hne
  have HO := Lib.hid ho
  have HC := fun (w' : World) (hk : Kept w w') => Lib.hid (come_any i o ho hi (hm.kept hk) (hb.kept hk) hlen hne r true hr hz 2 rfl)
  clear hm hb ho hi hne
  go_enter Try.func15, Try.ntmps15
  go_wp2_with fail
  refine (HC _ ((Upd.refl _ _).alloc _)).out.mono ?_
  rintro e w1 ⟨rfl, hM, hB, hU⟩
  have d14 : w1.cell? ⟨mb, o + 14, none⟩ = some (.int .u8 1) := by rw [hM.cell (set_at HI.out (⟨1, own, true⟩ : MS)) HO.out 14 (by omega)]; rfl
  have f14 := hM.free (o + 14)
  have h1 := hM.set (set_at HI.out (⟨1, own, true⟩ : MS)) HO.out 14 (by omega) (.int .u8 2) ⟨2, own, true⟩ rfl
  rw [List.set_set] at h1
  have e14 : (w1.setCell ⟨mb, o + 14, none⟩ (.int .u8 2)).cell? ⟨mb, o + 14, none⟩ = some (.int .u8 2) := by rw [h1.cell (set_at HI.out (⟨2, own, true⟩ : MS)) HO.out 14 (by omega)]; rfl
  have HF : Hid (Stp mb bb g n s (ms.set i ⟨2, own, true⟩) (bput xs 9 r) false w (.returned (.bool false)) (w1.setCell ⟨mb, o + 14, none⟩ (.int .u8 2))) :=
    Lib.hid ⟨rfl, h1, hB.upd (updCell _ mb (o + 14) _) (fun e => HN.out.2 e.symm) (fun e => HN.out.1 e.symm), upd2 (((Upd.refl _ _).alloc _).trans hU) _⟩
  clear hM hB hU h1 HM HC HI HO HN
  go_wp2
  exact bodyPost_ret (v := .bool false) (by simp [results, Try.results15, go_sem]) rfl HF.out

set_option maxRecDepth 100000 in
set_option maxHeartbeats 1000000 in
theorem step_1f {w : World} {mb bb g : Nat} {n s : Int} {ms : List MS} {xs : List Int} {own : Int} {last : Bool} (i o : Nat) (ho : o = i * 17) (hi : ms[i]? = some ⟨1, own, last⟩) (hm : Mach w mb n s ms) (hb : Bnk w bb g xs) (hne : ¬ mb = g ∧ ¬ mb = bb) (hlen : 9 < xs.length) (r : Int) (hr : wrap64 (bget xs 9 + -1) = r) (hz : (r == 0) = false) :
    Calls Try.prog 15 #[.pointer (some ⟨mb, o, none⟩), .pointer (some ⟨bb, 0, none⟩)] w (Stp mb bb g n s (ms.set i ⟨4, own, false⟩) (bput xs 9 r) false w) := by
  have c14 : w.cell? ⟨mb, o + 14, none⟩ = some (.int .u8 1) := by rw [hm.cell hi ho 14 (by omega)]; rfl
  have lm := hm.lt
  have HM := Lib.hid hm
  have HI := Lib.hid hi
  have HN := Lib.hid hne
  have HO := Lib.hid ho
  have HC := fun (w' : World) (hk : Kept w w') => Lib.hid (come_any i o ho hi (hm.kept hk) (hb.kept hk) hlen hne r false hr hz 4 rfl)
  clear hm hb ho hi hne
  go_enter Try.func15, Try.ntmps15
  go_wp2_with fail
  refine (HC _ ((Upd.refl _ _).alloc _)).out.mono ?_
  rintro e w1 ⟨rfl, hM, hB, hU⟩
  have d14 : w1.cell? ⟨mb, o + 14, none⟩ = some (.int .u8 1) := by rw [hM.cell (set_at HI.out (⟨1, own, false⟩ : MS)) HO.out 14 (by omega)]; rfl
  have f14 := hM.free (o + 14)
  have h1 := hM.set (set_at HI.out (⟨1, own, false⟩ : MS)) HO.out 14 (by omega) (.int .u8 4) ⟨4, own, false⟩ rfl
  rw [List.set_set] at h1
  have e14 : (w1.setCell ⟨mb, o + 14, none⟩ (.int .u8 4)).cell? ⟨mb, o + 14, none⟩ = some (.int .u8 4) := by rw [h1.cell (set_at HI.out (⟨4, own, false⟩ : MS)) HO.out 14 (by omega)]; rfl
  have HF : Hid (Stp mb bb g n s (ms.set i ⟨4, own, false⟩) (bput xs 9 r) false w (.returned (.bool false)) (w1.setCell ⟨mb, o + 14, none⟩ (.int .u8 4))) :=
    Lib.hid ⟨rfl, h1, hB.upd (updCell _ mb (o + 14) _) (fun e => HN.out.2 e.symm) (fun e => HN.out.1 e.symm), upd2 (((Upd.refl _ _).alloc _).trans hU) _⟩
  clear hM hB hU h1 HM HC HI HO HN
  go_wp2
  exact bodyPost_ret (v := .bool false) (by simp [results, Try.results15, go_sem]) rfl HF.out

set_option maxRecDepth 100000 in
set_option maxHeartbeats 1000000 in
theorem step_2 {w : World} {mb bb g : Nat} {n s : Int} {ms : List MS} {xs : List Int} {own : Int} {last : Bool} (i o : Nat) (ho : o = i * 17) (hi : ms[i]? = some ⟨2, own, last⟩) (hm : Mach w mb n s ms) (hb : Bnk w bb g xs) (hne : ¬ mb = g ∧ ¬ mb = bb) :
    Calls Try.prog 15 #[.pointer (some ⟨mb, o, none⟩), .pointer (some ⟨bb, 0, none⟩)] w (Stp mb bb g n s (ms.set i ⟨3, own, last⟩) (bput xs 9 n) false w) := by
  have c14 : w.cell? ⟨mb, o + 14, none⟩ = some (.int .u8 2) := by rw [hm.cell hi ho 14 (by omega)]; rfl
  have lm := hm.lt
  have HM := Lib.hid hm
  have HI := Lib.hid hi
  have HN := Lib.hid hne
  have HO := Lib.hid ho
  have HC := fun (w' : World) (hk : Kept w w') => Lib.hid (reset_any i o ho hi (hm.kept hk) (hb.kept hk) hne)
  clear hm hb ho hi hne
  go_enter Try.func15, Try.ntmps15
  go_wp2_with fail
  refine (HC _ ((Upd.refl _ _).alloc _)).out.mono ?_
  rintro e w1 ⟨rfl, hM, hB, hU⟩
  have d14 : w1.cell? ⟨mb, o + 14, none⟩ = some (.int .u8 2) := by rw [hM.cell HI.out HO.out 14 (by omega)]; rfl
  have f14 := hM.free (o + 14)
  have h1 := hM.set HI.out HO.out 14 (by omega) (.int .u8 3) ⟨3, own, last⟩ rfl
  skip
  have e14 : (w1.setCell ⟨mb, o + 14, none⟩ (.int .u8 3)).cell? ⟨mb, o + 14, none⟩ = some (.int .u8 3) := by rw [h1.cell (set_at HI.out (⟨3, own, last⟩ : MS)) HO.out 14 (by omega)]; rfl
  have HF : Hid (Stp mb bb g n s (ms.set i ⟨3, own, last⟩) (bput xs 9 n) false w (.returned (.bool false)) (w1.setCell ⟨mb, o + 14, none⟩ (.int .u8 3))) :=
    Lib.hid ⟨rfl, h1, hB.upd (updCell _ mb (o + 14) _) (fun e => HN.out.2 e.symm) (fun e => HN.out.1 e.symm), upd2 (((Upd.refl _ _).alloc _).trans hU) _⟩
  clear hM hB hU h1 HM HC HI HO HN
  go_wp2
  exact bodyPost_ret (v := .bool false) (by simp [results, Try.results15, go_sem]) rfl HF.out

set_option maxRecDepth 100000 in
set_option maxHeartbeats 1000000 in
theorem step_3 {w : World} {mb bb g : Nat} {n s : Int} {ms : List MS} {xs : List Int} {own : Int} {last : Bool} (i o : Nat) (ho : o = i * 17) (hi : ms[i]? = some ⟨3, own, last⟩) (hm : Mach w mb n s ms) (hb : Bnk w bb g xs) (hne : ¬ mb = g ∧ ¬ mb = bb) :
    Calls Try.prog 15 #[.pointer (some ⟨mb, o, none⟩), .pointer (some ⟨bb, 0, none⟩)] w (Stp mb bb g n s (ms.set i ⟨5, own, last⟩) (bput xs 10 own) true w) := by
  have c14 : w.cell? ⟨mb, o + 14, none⟩ = some (.int .u8 3) := by rw [hm.cell hi ho 14 (by omega)]; rfl
  have lm := hm.lt
  have HM := Lib.hid hm
  have HI := Lib.hid hi
  have HN := Lib.hid hne
  have HO := Lib.hid ho
  have HC := fun (w' : World) (hk : Kept w w') => Lib.hid (turn_any i o ho hi (hm.kept hk) (hb.kept hk) hne)
  clear hm hb ho hi hne
  go_enter Try.func15, Try.ntmps15
  go_wp2_with fail
  refine (HC _ ((Upd.refl _ _).alloc _)).out.mono ?_
  rintro e w1 ⟨rfl, hM, hB, hU⟩
  have d14 : w1.cell? ⟨mb, o + 14, none⟩ = some (.int .u8 3) := by rw [hM.cell HI.out HO.out 14 (by omega)]; rfl
  have f14 := hM.free (o + 14)
  have h1 := hM.set HI.out HO.out 14 (by omega) (.int .u8 5) ⟨5, own, last⟩ rfl
  skip
  have e14 : (w1.setCell ⟨mb, o + 14, none⟩ (.int .u8 5)).cell? ⟨mb, o + 14, none⟩ = some (.int .u8 5) := by rw [h1.cell (set_at HI.out (⟨5, own, last⟩ : MS)) HO.out 14 (by omega)]; rfl
  have HF : Hid (Stp mb bb g n s (ms.set i ⟨5, own, last⟩) (bput xs 10 own) true w (.returned (.bool true)) (w1.setCell ⟨mb, o + 14, none⟩ (.int .u8 5))) :=
    Lib.hid ⟨rfl, h1, hB.upd (updCell _ mb (o + 14) _) (fun e => HN.out.2 e.symm) (fun e => HN.out.1 e.symm), upd2 (((Upd.refl _ _).alloc _).trans hU) _⟩
  clear hM hB hU h1 HM HC HI HO HN
  go_wp2
  exact bodyPost_ret (v := .bool true) (by simp [results, Try.results15, go_sem]) rfl HF.out

set_option maxRecDepth 100000 in
set_option maxHeartbeats 1000000 in
theorem step_4t {w : World} {mb bb g : Nat} {n s : Int} {ms : List MS} {xs : List Int} {own : Int} {last : Bool} (i o : Nat) (ho : o = i * 17) (hi : ms[i]? = some ⟨4, own, last⟩) (hm : Mach w mb n s ms) (hb : Bnk w bb g xs) (hne : ¬ mb = g ∧ ¬ mb = bb) (hx : bget xs 10 = own) :
    Calls Try.prog 15 #[.pointer (some ⟨mb, o, none⟩), .pointer (some ⟨bb, 0, none⟩)] w (Stp mb bb g n s (ms.set i ⟨5, own, last⟩) (xs) true w) := by
  have c14 : w.cell? ⟨mb, o + 14, none⟩ = some (.int .u8 4) := by rw [hm.cell hi ho 14 (by omega)]; rfl
  have lm := hm.lt
  have HM := Lib.hid hm
  have HI := Lib.hid hi
  have HN := Lib.hid hne
  have HO := Lib.hid ho
  have HC := fun (w' : World) (hk : Kept w w') => Lib.hid (wait_any i o ho hi (hm.kept hk) (hb.kept hk) 5 (if_pos hx))
  clear hm hb ho hi hne
  go_enter Try.func15, Try.ntmps15
  go_wp2_with fail
  refine (HC _ ((Upd.refl _ _).alloc _)).out.mono ?_
  rintro e w1 ⟨rfl, hM, hB, hU⟩
  have d14 : w1.cell? ⟨mb, o + 14, none⟩ = some (.int .u8 4) := by rw [hM.cell HI.out HO.out 14 (by omega)]; rfl
  have f14 := hM.free (o + 14)
  have h1 := hM.set HI.out HO.out 14 (by omega) (.int .u8 5) ⟨5, own, last⟩ rfl
  skip
  have e14 : (w1.setCell ⟨mb, o + 14, none⟩ (.int .u8 5)).cell? ⟨mb, o + 14, none⟩ = some (.int .u8 5) := by rw [h1.cell (set_at HI.out (⟨5, own, last⟩ : MS)) HO.out 14 (by omega)]; rfl
  have HF : Hid (Stp mb bb g n s (ms.set i ⟨5, own, last⟩) (xs) true w (.returned (.bool true)) (w1.setCell ⟨mb, o + 14, none⟩ (.int .u8 5))) :=
    Lib.hid ⟨rfl, h1, hB.upd (updCell _ mb (o + 14) _) (fun e => HN.out.2 e.symm) (fun e => HN.out.1 e.symm), upd2 (((Upd.refl _ _).alloc _).trans hU) _⟩
  clear hM hB hU h1 HM HC HI HO HN
  go_wp2
  exact bodyPost_ret (v := .bool true) (by simp [results, Try.results15, go_sem]) rfl HF.out

set_option maxRecDepth 100000 in
set_option maxHeartbeats 1000000 in
theorem step_4f {w : World} {mb bb g : Nat} {n s : Int} {ms : List MS} {xs : List Int} {own : Int} {last : Bool} (i o : Nat) (ho : o = i * 17) (hi : ms[i]? = some ⟨4, own, last⟩) (hm : Mach w mb n s ms) (hb : Bnk w bb g xs) (hne : ¬ mb = g ∧ ¬ mb = bb) (hx : ¬ bget xs 10 = own) :
    Calls Try.prog 15 #[.pointer (some ⟨mb, o, none⟩), .pointer (some ⟨bb, 0, none⟩)] w (Stp mb bb g n s (ms.set i ⟨4, own, last⟩) (xs) false w) := by
  have c14 : w.cell? ⟨mb, o + 14, none⟩ = some (.int .u8 4) := by rw [hm.cell hi ho 14 (by omega)]; rfl
  have lm := hm.lt
  have HM := Lib.hid hm
  have HI := Lib.hid hi
  have HN := Lib.hid hne
  have HO := Lib.hid ho
  have HC := fun (w' : World) (hk : Kept w w') => Lib.hid (wait_any i o ho hi (hm.kept hk) (hb.kept hk) 4 (if_neg hx))
  clear hm hb ho hi hne
  go_enter Try.func15, Try.ntmps15
  go_wp2_with fail
  refine (HC _ ((Upd.refl _ _).alloc _)).out.mono ?_
  rintro e w1 ⟨rfl, hM, hB, hU⟩
  have d14 : w1.cell? ⟨mb, o + 14, none⟩ = some (.int .u8 4) := by rw [hM.cell HI.out HO.out 14 (by omega)]; rfl
  have f14 := hM.free (o + 14)
  have h1 := hM.set HI.out HO.out 14 (by omega) (.int .u8 4) ⟨4, own, last⟩ rfl
  skip
  have e14 : (w1.setCell ⟨mb, o + 14, none⟩ (.int .u8 4)).cell? ⟨mb, o + 14, none⟩ = some (.int .u8 4) := by rw [h1.cell (set_at HI.out (⟨4, own, last⟩ : MS)) HO.out 14 (by omega)]; rfl
  have HF : Hid (Stp mb bb g n s (ms.set i ⟨4, own, last⟩) (xs) false w (.returned (.bool false)) (w1.setCell ⟨mb, o + 14, none⟩ (.int .u8 4))) :=
    Lib.hid ⟨rfl, h1, hB.upd (updCell _ mb (o + 14) _) (fun e => HN.out.2 e.symm) (fun e => HN.out.1 e.symm), upd2 (((Upd.refl _ _).alloc _).trans hU) _⟩
  clear hM hB hU h1 HM HC HI HO HN
  go_wp2
  exact bodyPost_ret (v := .bool false) (by simp [results, Try.results15, go_sem]) rfl HF.out

set_option maxRecDepth 100000 in
theorem step_5 {w : World} {mb bb g : Nat} {n s : Int} {ms : List MS} {xs : List Int} {own : Int} {last : Bool} (i o : Nat) (ho : o = i * 17) (hi : ms[i]? = some ⟨5, own, last⟩) (hm : Mach w mb n s ms) (hb : Bnk w bb g xs) :
    Calls Try.prog 15 #[.pointer (some ⟨mb, o, none⟩), .pointer (some ⟨bb, 0, none⟩)] w (Stp mb bb g n s ms xs true w) := by
  have c14 : w.cell? ⟨mb, o + 14, none⟩ = some (.int .u8 5) := by rw [hm.cell hi ho 14 (by omega)]; rfl
  have HF : Hid (Stp mb bb g n s ms xs true w (.returned (.bool true)) w) := Lib.hid ⟨rfl, hm, hb, Upd.refl _ _⟩
  clear hm hb ho hi
  go_enter Try.func15, Try.ntmps15
  go_wp2
  exact bodyPost_ret (v := .bool true) (by simp [results, Try.results15, go_sem]) rfl HF.out
set_option maxRecDepth 100000 in
theorem last_any {w : World} {mb : Nat} {n s : Int} {ms : List MS} {nx own : Int} {last : Bool} (i o : Nat) (ho : o = i * 17) (hi : ms[i]? = some ⟨nx, own, last⟩) (hm : Mach w mb n s ms) :
    Calls Try.prog 16 #[.pointer (some ⟨mb, o, none⟩)] w fun e w' => e = .returned (.bool last) ∧ w = w' := by
  have c16 : w.cell? ⟨mb, o + 16, none⟩ = some (.bool last) := by rw [hm.cell hi ho 16 (by omega)]; rfl
  clear hm ho hi
  go_enter Try.func16, Try.ntmps16
  go_wp2
  go_ret
  exact ⟨rfl, rfl⟩
end Go.Proofs.Ytghlpapljjcaeaa
