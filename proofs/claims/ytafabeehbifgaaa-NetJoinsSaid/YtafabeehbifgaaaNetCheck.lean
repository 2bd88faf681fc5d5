/- net.Check: what is asked of all arcs; the rules; all together. -/
import Derived.Test.YtafabeehbifgaaaNetRules
namespace Go.Proofs.Ytafabeehbifgaaa
set_option linter.unusedVariables false
open Go.RowKit

/-- What is asked of an arc. -/
def so (q : Bool) (N : Int) (x : Ar) : Bool := if q then inN N x.f && inN N x.t else decide (0 ≤ x.c)
def soV (q : Bool) : Value := .func (.func (if q then 28 else 29)) #[] #[]
theorem soCall (q : Bool) (N S T : Int) (x : Ar) (a : Option Addr) (l c : Nat) (w : World) :
    Calls Try.prog (if q then 28 else 29) #[.agg #[.int .i64 N, .int .i64 S, .int .i64 T, .slice a l c], .agg #[.int .i64 x.f, .int .i64 x.t, .int .i64 x.c]] w fun e w' => e = .returned (.bool (so q N x)) ∧ Kept w w' := by
  cases q
  · exact rule4 N S T x.f x.t x.c a l c w
  · exact rule3 N S T x.f x.t x.c a l c w
theorem notSo (q : Bool) (N S T : Int) (x : Ar) (a : Option Addr) (l c bs bn : Nat) (w : World) (hs : Blk w bs #[soV q] 56) (hn : Blk w bn #[.int .i64 N, .int .i64 S, .int .i64 T, .slice a l c] 24) :
    Calls Try.prog 33 #[.agg #[.int .i64 x.f, .int .i64 x.t, .int .i64 x.c], .pointer (some ⟨bs, 0, none⟩), .pointer (some ⟨bn, 0, none⟩)] w fun e w' => e = .returned (.bool (!so q N x)) ∧ Kept w w' := by
  have H := fun w => Lib.hid (soCall q N S T x a l c w)
  have hk := (Upd.refl (fun _ => False) w).alloc (.cells #[.int .i64 x.f, .int .i64 x.t, .int .i64 x.c] 31)
  have c1 := (hs.kept hk).cell
  have c2 := (hn.kept hk).cell
  have HK := Lib.hid hk
  clear hk hs hn
  unfold soV at c1
  generalize so q N x = z at H ⊢
  cases q
  · simp only [Bool.false_eq_true, if_false] at c1 H
    go_enter Try.func33, Try.ntmps33
    go_wp2_with fail
    refine (H _).out.mono ?_
    rintro e w1 ⟨rfl, hk1⟩
    have HK2 := Lib.hid (HK.out.trans hk1)
    clear hk1
    go_wp2
    go_ret
    exact ⟨rfl, HK2.out⟩
  · simp only [if_true] at c1 H
    go_enter Try.func33, Try.ntmps33
    go_wp2_with fail
    refine (H _).out.mono ?_
    rintro e w1 ⟨rfl, hk1⟩
    have HK2 := Lib.hid (HK.out.trans hk1)
    clear hk1
    go_wp2
    go_ret
    exact ⟨rfl, HK2.out⟩
set_option maxHeartbeats 1000000 in
theorem index_any (q : Bool) (N S T : Int) (a : Option Addr) (c : Nat) (ys : List Ar) (bs bn : Nat) (w : World) (hs : Blk w bs #[soV q] 56) (hn : Blk w bn #[.int .i64 N, .int .i64 S, .int .i64 T, .slice a ys.length c] 24)
    (h : Ars w a ys) (hm : ys.length ≤ 1000000000) :
    Calls Try.prog 34 #[.slice a ys.length c, .func (.func 33) #[] #[.pointer (some ⟨bs, 0, none⟩), .pointer (some ⟨bn, 0, none⟩)]] w fun e w' => ∃ r : Int, e = .returned (.int .i64 r) ∧ decide (0 ≤ r) = !(ys.all (so q N)) ∧ Kept w w' := by
  have HX := Lib.hid h
  have HS := Lib.hid hs
  have HN := Lib.hid hn
  clear h hs hn
  go_enter Try.func34, Try.ntmps34
  go_wp2_with fail
  go_loopw [8] (fun i wr => ∃ k : Nat, i = .int .i64 k ∧ k ≤ ys.length ∧ Hid ((ys.take k).all (so q N) = true) ∧ Hid (Kept w wr)) (fun i _ => ys.length - (intOf i).toNat)
  case atStart => exact ⟨0, rfl, by omega, Lib.hid (by simp), Lib.hid (Upd.refl _ _)⟩
  case round =>
    obtain ⟨k, rfl, hk, HA, HK⟩ := hrel
    by_cases hlt : k < ys.length
    · have HC := Lib.hid (notSo q N S T ys[k] a ys.length c bs bn wr (HS.out.kept HK.out) (HN.out.kept HK.out))
      obtain ⟨b, off, rfl, c0, c1, c2⟩ := (HX.out.kept HK.out).at k hlt
      obtain ⟨z, hz⟩ : ∃ z, so q N ys[k] = z := ⟨_, rfl⟩
      rw [hz] at HC
      have HZ : Hid ((ys.take (k + 1)).all (so q N) = z) := Lib.hid (by rw [List.take_succ_eq_append_getElem hlt, List.all_append, HA.out]; simp [hz])
      have HZ2 : Hid (z = false → ys.all (so q N) = false) := Lib.hid (by
        intro h0
        rw [List.all_eq_false]
        exact ⟨ys[k], List.getElem_mem _, by rw [hz, h0]; simp⟩)
      clear hz HA
      generalize ys[k].f = x at c0 HC
      generalize ys[k].t = y at c1 HC
      generalize ys[k].c = cc at c2 HC
      have j0 : (0 : Int) ≤ (k : Int) := by omega
      have j1 : (k : Int) < (ys.length : Int) := by omega
      cases z
      · simp only [Bool.not_false] at HC
        have HZ3 := Lib.hid (HZ2.out rfl)
        clear HZ2
        go_wp2_with fail
        refine HC.out.mono ?_
        rintro e w1 ⟨rfl, hk1⟩
        have HK2 := Lib.hid (HK.out.trans hk1)
        clear hk1 HC HK
        go_wp2_with fail
        go_ret
        exact ⟨k, rfl, by rw [HZ3.out]; simp, HK2.out⟩
      · simp only [Bool.not_true] at HC
        go_wp2_with fail
        refine HC.out.mono ?_
        rintro e w1 ⟨rfl, hk1⟩
        have HK2 := Lib.hid (HK.out.trans hk1)
        clear hk1 HC HK HZ2
        go_wp2_with fail
        go_roundw
        case rel => exact ⟨k + 1, by go_num, by omega, HZ, HK2⟩
        case measure => simp [intOf]; omega
    · have HE : Hid (ys.all (so q N) = true) := Lib.hid (by have := HA.out; rwa [List.take_of_length_le (by omega)] at this)
      go_wp2_with fail
      go_ret
      exact ⟨-1, rfl, by rw [HE.out]; simp, HK.out⟩
theorem contains_any (q : Bool) (N S T : Int) (a : Option Addr) (c : Nat) (ys : List Ar) (bs bn : Nat) (w : World) (hs : Blk w bs #[soV q] 56) (hn : Blk w bn #[.int .i64 N, .int .i64 S, .int .i64 T, .slice a ys.length c] 24)
    (h : Ars w a ys) (hm : ys.length ≤ 1000000000) :
    Calls Try.prog 32 #[.slice a ys.length c, .func (.func 33) #[] #[.pointer (some ⟨bs, 0, none⟩), .pointer (some ⟨bn, 0, none⟩)]] w fun e w' => e = .returned (.bool (!(ys.all (so q N)))) ∧ Kept w w' := by
  have H := Lib.hid (index_any q N S T a c ys bs bn w hs hn h hm)
  clear hs hn h
  go_enter Try.func32, Try.ntmps32
  go_wp2_with fail
  refine H.out.mono ?_
  rintro e w1 ⟨r, rfl, hr, hk1⟩
  have HR := Lib.hid hr
  have HK := Lib.hid hk1
  clear hr hk1
  go_wp2
  go_ret
  exact ⟨ret_bool HR.out, HK.out⟩
theorem ofCall (q : Bool) (N S T : Int) (a : Option Addr) (c : Nat) (ys : List Ar) (bs : Nat) (w : World) (hs : Blk w bs #[soV q] 56) (h : Ars w a ys) (hm : ys.length ≤ 1000000000) :
    Calls Try.prog 31 #[.agg #[.int .i64 N, .int .i64 S, .int .i64 T, .slice a ys.length c], .pointer (some ⟨bs, 0, none⟩)] w fun e w' => e = .returned (.bool (ys.all (so q N))) ∧ Kept w w' := by
  have hk := (Upd.refl (fun _ => False) w).alloc (.cells #[.int .i64 N, .int .i64 S, .int .i64 T, .slice a ys.length c] 24)
  have H := Lib.hid (contains_any q N S T a c ys bs w.heap.size _ (hs.kept hk) (Blk.new _ _ _) (h.kept hk) hm)
  have HK := Lib.hid hk
  clear hk hs h
  go_enter Try.func31, Try.ntmps31
  go_wp2_with fail
  refine H.out.mono ?_
  rintro e w1 ⟨rfl, hk1⟩
  have HK2 := Lib.hid (HK.out.trans hk1)
  clear hk1
  go_wp2
  go_ret
  exact ⟨ret_bool (by simp), HK2.out⟩
end Go.Proofs.Ytafabeehbifgaaa
