/- The law SchedNone. -/
import Derived.Test.YtacacnjpfflbnaaAwake15
import Derived.Test.YtacacnjpfflbnaaOpen
namespace Go.Proofs.Ytacacnjpfflbnaa
set_option linter.unusedVariables false
open Go.RowKit

theorem BoolRow.rd {w : World} {a : Option Addr} {cap : Nat} {zs : List Bool} (h : BoolRow w a cap zs) : Rd w a (zs.map Value.bool) := by
  rcases h.cells with h0 | ⟨b, off, rfl, hc⟩
  · exact .inl (by rw [List.eq_nil_of_length_eq_zero h0]; rfl)
  · refine .inr ⟨b, off, rfl, fun i u hu => ?_⟩
    rw [List.getElem?_map] at hu
    obtain ⟨x, hx, rfl⟩ := Option.map_eq_some_iff.1 hu
    obtain ⟨hi, rfl⟩ := List.getElem?_eq_some_iff.1 hx
    exact hc i hi
theorem IntRow.rd {k : IntKind} {w : World} {a : Option Addr} {cap : Nat} {zs : List Int} (h : IntRow k w a cap zs) : Rd w a (zs.map (Value.int k)) := by
  rcases h.cells with h0 | ⟨b, off, rfl, hc⟩
  · exact .inl (by rw [List.eq_nil_of_length_eq_zero h0]; rfl)
  · refine .inr ⟨b, off, rfl, fun i u hu => ?_⟩
    rw [List.getElem?_map] at hu
    obtain ⟨x, hx, rfl⟩ := Option.map_eq_some_iff.1 hu
    obtain ⟨hi, rfl⟩ := List.getElem?_eq_some_iff.1 hx
    exact hc i hi

/-- No script: nil, or one that New did not answer. -/
def NoS (w : World) (p : Option Addr) : Prop := p = none ∨ ∃ b a c, p = some ⟨b, 0, none⟩ ∧ w.cell? ⟨b, 2, none⟩ = some (.slice a 0 c)
theorem NoS.kept {w w' : World} {p : Option Addr} (h : NoS w p) (hk : Kept w w') : NoS w' p := by
  rcases h with h | ⟨b, a, c, e, hc⟩
  · exact .inl h
  · exact .inr ⟨b, a, c, e, (keptCells hk _ (by rw [hc]; rfl)).trans hc⟩
theorem NoS.none {w : World} {p : Option Addr} (h : NoS w p) : Calls Try.prog 16 #[.pointer p] w fun e w' => e = .returned (.bool true) ∧ w = w' := by
  rcases h with rfl | ⟨b, a, c, rfl, hc⟩
  · exact none_nil w
  · exact none_empty w b a c hc
set_option maxRecDepth 100000 in
theorem Next_nos {w : World} {p : Option Addr} (h : NoS w p) (a : Option Addr) (n c : Nat) :
    Calls Try.prog 10 #[.pointer p, .slice a n c] w fun e w' => e = .returned (.tuple #[.int .i64 0, .bool false]) ∧ Kept w w' := by
  have H := Lib.hid h
  clear h
  go_enter Try.func10, Try.ntmps10
  go_wp2_with fail
  refine (NoS.none (H.out.kept (((((Upd.refl _ _).alloc _).alloc _).alloc _).alloc _))).mono ?_
  rintro e w1 ⟨rfl, rfl⟩
  go_wp2
  exact bodyPost_ret (v := .tuple #[.int .i64 0, .bool false]) (by simp [results, Try.results10, go_sem]) rfl ⟨rfl, ((((Upd.refl _ _).alloc _).alloc _).alloc _).alloc _⟩

set_option maxRecDepth 100000 in
set_option maxHeartbeats 2000000 in
theorem schedNone_walk (a : Option Addr) (cap : Nat) (zs : List Bool) (w : World) (h : BoolRow w a cap zs) :
    Calls Try.prog 7 #[.slice a zs.length cap] w fun e w' => e = .returned (.bool true) ∧ Kept w w' := by
  clear h
  go_enter Try.func7, Try.ntmps7
  go_wp2_with fail
  go_loopw [11] (fun j wr => ∃ k : Nat, j = .int .i64 k ∧ k ≤ 2 ∧ Hid (Blk wr (w.heap.size + 1) #[.pointer none, .pointer (some ⟨w.heap.size, 0, none⟩)] 24) ∧
      Hid (Blk wr w.heap.size #[.slice none 0 0, .int .i64 0, .slice none 0 0, .int .i64 0] 49) ∧ Hid (Kept w wr)) (fun j _ => 2 - (intOf j).toNat)
  case atStart =>
    refine ⟨0, rfl, by omega, Lib.hid ?_, Lib.hid ((Blk.new _ _ _).alloc _), Lib.hid (((Upd.refl _ _).alloc _).alloc _)⟩
    have := Blk.new (w.alloc (.cells #[.slice none 0 0, .int .i64 0, .slice none 0 0, .int .i64 0] 49)) #[.pointer none, .pointer (some ⟨w.heap.size, 0, none⟩)] 24
    simpa using this
  case round =>
    obtain ⟨k, rfl, hk3, HL, HE, HK⟩ := hrel
    by_cases hlt : k < 2
    · have hp : ∃ p, wr.cell? ⟨w.heap.size + 1, k, none⟩ = some (.pointer p) ∧ NoS wr p := by
        match k, hlt with
        | 0, _ => exact ⟨none, by rw [HL.out.cell]; rfl, .inl rfl⟩
        | 1, _ => exact ⟨some ⟨w.heap.size, 0, none⟩, by rw [HL.out.cell]; rfl, .inr ⟨_, none, 0, rfl, by rw [HE.out.cell]; rfl⟩⟩
      obtain ⟨p, hc, hn⟩ := hp
      have HN := Lib.hid hn
      have k3 : (k : Int) < 2 := by omega
      clear hn
      go_wp2_with fail
      refine (Next_nos HN.out _ _ _).mono ?_
      rintro e w2 ⟨rfl, hk⟩
      have HN2 := Lib.hid (HN.out.kept hk)
      have HL2 := Lib.hid (HL.out.kept hk)
      have HE2 := Lib.hid (HE.out.kept hk)
      have HK2 := Lib.hid (HK.out.trans hk)
      clear hk HN HL HE HK hc
      go_wp2_with fail
      refine (Left_none _ _ (Lib.hid HN2.out.none)).mono ?_
      rintro e w' ⟨rfl, rfl⟩
      go_wp2_with fail
      refine (Rounds_none _ _ (Lib.hid HN2.out.none)).mono ?_
      rintro e w' ⟨rfl, rfl⟩
      go_wp2_with fail
      go_roundw
      case rel => exact ⟨k + 1, by go_num, by omega, HL2, HE2, HK2⟩
      case measure => simp [intOf]; omega
    · go_wp2_with fail
      refine (awake_any _).mono ?_
      rintro e w5 ⟨rfl, hk5⟩
      go_wp2
      go_ret
      exact ⟨rfl, HK.out.trans hk5⟩
end Go.Proofs.Ytacacnjpfflbnaa
