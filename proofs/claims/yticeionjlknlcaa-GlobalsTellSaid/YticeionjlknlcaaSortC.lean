/- Numbers sorted, and each of them once: slices.Sort, slices.Compact at a row of one's own. -/
import Derived.Shelf.Sort.Plain
import Derived.Shelf.Slices.CompactI
import Derived.Shelf.Slices.In.SortNone
import Derived.Test.YticeionjlknlcaaProg
import Derived.Test.YticeionjlknlcaaLabAt
import Derived.Test.YticeionjlknlcaaCopyRow
import Derived.Sort.OwnSortedInts
namespace Go.Proofs.Yticeionjlknlcaa
open Go.Shelf
def shLays189_ren : Go.Shelf.Ren := ⟨fun | 189 => 70 | 125 => 82 | 257 => 81 | 128 => 92 | 129 => 93 | 294 => 83 | 295 => 84 | 296 => 85 | 297 => 86 | 298 => 87 | 299 => 88 | 216 => 89 | 300 => 90 | 301 => 91 | 328 => 94 | 329 => 95 | 330 => 96 | 331 => 97 | 332 => 98 | 215 => 73 | 343 => 99 | n => n, fun | 28 => 26 | 3 => 3 | 46 => 103 | 0 => 0 | 51 => 118 | 53 => 121 | 4 => 4 | 183 => 129 | 182 => 128 | 131 => 40 | 5 => 5 | 9 => 9 | 218 => 136 | 222 => 140 | 228 => 142 | 229 => 143 | n => n, fun | n => n⟩
theorem shLays189 : Go.Proofs.Lays.n189 Try.prog shLays189_ren := {
  mixed := by kernel_rfl
  f125 := Try.func82.trans (congrArg some (by kernel_rfl))
  f128 := Try.func92.trans (congrArg some (by kernel_rfl))
  f129 := Try.func93.trans (congrArg some (by kernel_rfl))
  f189 := Try.func70.trans (congrArg some (by kernel_rfl))
  f215 := Try.func73.trans (congrArg some (by kernel_rfl))
  f216 := Try.func89.trans (congrArg some (by kernel_rfl))
  f257 := Try.func81.trans (congrArg some (by kernel_rfl))
  f294 := Try.func83.trans (congrArg some (by kernel_rfl))
  f295 := Try.func84.trans (congrArg some (by kernel_rfl))
  f296 := Try.func85.trans (congrArg some (by kernel_rfl))
  f297 := Try.func86.trans (congrArg some (by kernel_rfl))
  f298 := Try.func87.trans (congrArg some (by kernel_rfl))
  f299 := Try.func88.trans (congrArg some (by kernel_rfl))
  f300 := Try.func90.trans (congrArg some (by kernel_rfl))
  f301 := Try.func91.trans (congrArg some (by kernel_rfl))
  f328 := Try.func94.trans (congrArg some (by kernel_rfl))
  f329 := Try.func95.trans (congrArg some (by kernel_rfl))
  f330 := Try.func96.trans (congrArg some (by kernel_rfl))
  f331 := Try.func97.trans (congrArg some (by kernel_rfl))
  f332 := Try.func98.trans (congrArg some (by kernel_rfl))
  f343 := Try.func99.trans (congrArg some (by kernel_rfl))
  t0 := Try.underlying0
  a0 := Try.isAgg0
  z0 := Try.sizeOf0
  v0 := Try.zeroValue0
  t3 := Try.underlying3
  a3 := Try.isAgg3
  z3 := Try.sizeOf3
  v3 := Try.zeroValue3
  t4 := Try.underlying4
  a4 := Try.isAgg4
  z4 := Try.sizeOf4
  v4 := Try.zeroValue4
  t5 := Try.underlying5
  a5 := Try.isAgg5
  z5 := Try.sizeOf5
  v5 := Try.zeroValue5
  t9 := Try.underlying9
  a9 := Try.isAgg9
  z9 := Try.sizeOf9
  v9 := Try.zeroValue9
  t28 := Try.underlying26
  a28 := Try.isAgg26
  z28 := Try.sizeOf26
  v28 := Try.zeroValue26
  t46 := Try.underlying103
  a46 := Try.isAgg103
  z46 := Try.sizeOf103
  v46 := Try.zeroValue103
  t51 := Try.underlying118
  a51 := Try.isAgg118
  z51 := Try.sizeOf118
  v51 := Try.zeroValue118
  t53 := Try.underlying121
  a53 := Try.isAgg121
  z53 := Try.sizeOf121
  v53 := Try.zeroValue121
  t131 := Try.underlying40
  a131 := Try.isAgg40
  z131 := Try.sizeOf40
  v131 := Try.zeroValue40
  t182 := Try.underlying128
  a182 := Try.isAgg128
  z182 := Try.sizeOf128
  v182 := Try.zeroValue128
  t183 := Try.underlying129
  a183 := Try.isAgg129
  z183 := Try.sizeOf129
  v183 := Try.zeroValue129
  t218 := Try.underlying136
  a218 := Try.isAgg136
  z218 := Try.sizeOf136
  v218 := Try.zeroValue136
  t222 := Try.underlying140
  a222 := Try.isAgg140
  z222 := Try.sizeOf140
  v222 := Try.zeroValue140
  t228 := Try.underlying142
  a228 := Try.isAgg142
  z228 := Try.sizeOf142
  v228 := Try.zeroValue142
  t229 := Try.underlying143
  a229 := Try.isAgg143
  z229 := Try.sizeOf143
  v229 := Try.zeroValue143 }
open Go.Sort Go.RowKit in
theorem sh_slices_Sort_int (blk off cap : Nat) (zs : List Int) (w : World) (hH : Holds (Value.int .i64) w blk off zs.toArray) (hblk : blk < w.heap.size) (hsz : zs.length < 4611686018427387904) :
    Calls Try.prog 70 #[.slice (some ⟨blk, off, none⟩) zs.length cap] w fun e w' =>
      e = .returned (.tuple #[]) ∧ ∃ n os, w' = grow (putRow (Value.int .i64) (Sort.ahead w n) blk off (zs.mergeSort fun x y => decide (x ≤ y)).toArray) os := Any.slices_Sort_int shLays189 blk off cap zs w hH hblk hsz
def shLaysNm220_ren : Go.Shelf.Ren := ⟨fun | 20 => 71 | n => n, fun | 22 => 26 | 3 => 3 | 4 => 4 | 0 => 0 | n => n, fun | n => n⟩
theorem shLaysNm220 : Go.Proofs.Lays2.n20 Try.prog shLaysNm220_ren := {
  mixed := by kernel_rfl
  f20 := Try.func71.trans (congrArg some (by kernel_rfl))
  t0 := Try.underlying0
  a0 := Try.isAgg0
  z0 := Try.sizeOf0
  v0 := Try.zeroValue0
  t3 := Try.underlying3
  a3 := Try.isAgg3
  z3 := Try.sizeOf3
  v3 := Try.zeroValue3
  t4 := Try.underlying4
  a4 := Try.isAgg4
  z4 := Try.sizeOf4
  v4 := Try.zeroValue4
  t22 := Try.underlying26
  a22 := Try.isAgg26
  z22 := Try.sizeOf26
  v22 := Try.zeroValue26
  i3 := by kernel_rfl }
open Go.RowKit Go.Lib Go.Sort in
/-- slices.Compact at []int, over an array: the library's two loops are walked. (LAID: no walk: one application.) -/
theorem sh_slices_Compact_int_arr (blk off cap : Nat) (d : Array Int) (w : World) (hH : Holds encI w blk off d) (hsz : d.size ≤ 9223372036854775807) (hcap : d.size ≤ cap) :
    Calls Try.prog 71 #[.slice (some ⟨blk, off, none⟩) d.size cap] w fun e w' => e = .returned (.slice (some ⟨blk, off, none⟩) (compactUpTo d d.size).length cap) ∧ ∃ q, w' = putRow encI (Sort.ahead w q) blk off (compactUpTo d d.size ++ List.replicate (d.size - (compactUpTo d d.size).length) 0).toArray := Any.slices_Compact_int_arr shLaysNm220 blk off cap d w hH hsz hcap
open Go.RowKit Go.Lib Go.Sort in
/-- slices.Compact at []int: "Compact replaces consecutive runs of equal elements with a single copy. This is like the uniq command found on Unix. Compact modifies the contents of the slice s and returns the modified slice, which may have a smaller length. Compact zeroes the elements between the new length and the original length. The result preserves the nilness of s.": IT RETURNS THE SLICE CUT TO 'Lib.compact zs'; ITS CELLS HOLD 'Lib.compact zs', THEN ZERO VALUES up to the old length; all else is as it was, but for the count of draws. IN THE WORDS OF slices.Sort's CONTRACT ('Holds', 'putRow'): so the everyday 'slices.Sort(xs); xs = slices.Compact(xs)' goes from the one contract to the other. It asks 'zs.length ≤ cap' (every slice's: the reslicing 's[:k]' looks at it). Length 0, nil: '.._empty'. (LAID: no walk: one application.) -/
theorem sh_slices_Compact_int (blk off cap : Nat) (zs : List Int) (w : World) (hH : Holds (Value.int .i64) w blk off zs.toArray) (hsz : zs.length ≤ 9223372036854775807) (hcap : zs.length ≤ cap) :
    Calls Try.prog 71 #[.slice (some ⟨blk, off, none⟩) zs.length cap] w fun e w' => e = .returned (.slice (some ⟨blk, off, none⟩) (Lib.compact zs).length cap) ∧ ∃ q, w' = putRow (Value.int .i64) (Sort.ahead w q) blk off (Lib.compact zs ++ List.replicate (zs.length - (Lib.compact zs).length) 0).toArray := Any.slices_Compact_int shLaysNm220 blk off cap zs w hH hsz hcap
open Go.RowKit Go.Lib Go.Sort in
/-- The same at a slice of length 0, a nil one too: it comes back as it is. (LAID: no walk: one application.) -/
theorem sh_slices_Compact_int_empty (a : Option Addr) (cap : Nat) (w : World) :
    Calls Try.prog 71 #[.slice a 0 cap] w fun e w' => e = .returned (.slice a 0 cap) ∧ w' = w := Any.slices_Compact_int_empty shLaysNm220 a cap w
open Go.RowKit Go.Sort in
theorem sh_slices_Sort_int_none (p : Option Addr) (cap : Nat) (w : World) :
    Calls Try.prog 70 #[.slice p 0 cap] w fun e w' => e = .returned (.tuple #[]) ∧ w' = w := Any.slices_Sort_int_none shLays189 p cap w
end Go.Proofs.Yticeionjlknlcaa
namespace Go.Proofs.Yticeionjlknlcaa
set_option linter.unusedVariables false
set_option linter.unusedSimpArgs false
open Go.RowKit Go.Sort Go.Lib

def ints (P : List Nat) : List Int := P.map fun (n : Nat) => (n : Int)
theorem ints_nv (P : List Nat) : (ints P).map (Value.int .i64) = nv P := by simp [ints, nv]
theorem ints_back {Z : List Int} (h : ∀ z ∈ Z, 0 ≤ z) : Z = ints (Z.map Int.toNat) := by
  unfold ints
  rw [List.map_map]
  refine (List.map_id' Z).symm.trans (List.map_congr_left fun z hz => ?_)
  have := h z hz
  show z = ((z.toNat : Nat) : Int)
  omega
theorem grown_own {w w' : World} {g : Nat} (h : w.grownBy w' (some g)) : Upd (fun k => k = g) w w' :=
  ⟨h.os, h.tape, h.output, h.size, fun k hk hn => h.block k hk (fun e => hn (by cases e; rfl))⟩
/-- In order. -/
def Srt (P : List Nat) : Prop := ∀ (i j : Nat), i ≤ j → j < P.length → P.getD i 0 ≤ P.getD j 0
theorem cmp_facts (P : List Nat) (hs : Srt P) : ∀ m, m ≤ P.length → (∀ z, z ∈ compactUpTo (ints P).toArray m ↔ ∃ j, j < m ∧ z = ((P.getD j 0 : Nat) : Int)) ∧ (compactUpTo (ints P).toArray m).Nodup
  | 0, _ => by simp [compactUpTo]
  | m + 1, hm => by
    obtain ⟨h1, h2⟩ := cmp_facts P hs m (by omega)
    have hget : ∀ j, j < P.length → (ints P).toArray[j]! = ((P.getD j 0 : Nat) : Int) := fun j hj => by
      simp [ints, hj]
    rw [compactUpTo_succ]
    by_cases hk : m = 0
    · subst hk
      rw [keeps_lt_one _ 0 (by omega), if_pos rfl, hget 0 (by omega)]
      refine ⟨fun z => ?_, by simp [compactUpTo]⟩
      simp only [compactUpTo, List.range_zero, List.filter_nil, List.map_nil, List.nil_append, List.mem_singleton]
      constructor
      · rintro rfl; exact ⟨0, by omega, rfl⟩
      · rintro ⟨j, hj, rfl⟩
        obtain rfl : j = 0 := by omega
        rfl
    · by_cases he : P.getD m 0 = P.getD (m - 1) 0
      · rw [keeps_neg (by omega) (by rw [hget m (by omega), hget (m - 1) (by omega), he]), if_neg (by simp), List.append_nil]
        refine ⟨fun z => ?_, h2⟩
        rw [h1]
        constructor
        · rintro ⟨j, hj, e⟩; exact ⟨j, by omega, e⟩
        · rintro ⟨j, hj, e⟩
          by_cases hj2 : j = m
          · subst hj2; exact ⟨j - 1, by omega, by rw [e, he]⟩
          · exact ⟨j, by omega, e⟩
      · have hne : (ints P).toArray[m]! ≠ (ints P).toArray[m - 1]! := by rw [hget m (by omega), hget (m - 1) (by omega)]; omega
        rw [keeps_pos hne, if_pos rfl, hget m (by omega)]
        refine ⟨fun z => ?_, ?_⟩
        · rw [List.mem_append, h1, List.mem_singleton]
          constructor
          · rintro (⟨j, hj, e⟩ | e)
            · exact ⟨j, by omega, e⟩
            · exact ⟨m, by omega, e⟩
          · rintro ⟨j, hj, e⟩
            by_cases hj2 : j = m
            · subst hj2; exact .inr e
            · exact .inl ⟨j, by omega, e⟩
        · rw [List.nodup_append]
          refine ⟨h2, by simp, fun z hz y hy e => ?_⟩
          obtain ⟨j, hj, e2⟩ := (h1 z).1 hz
          have h3 := hs j (m - 1) (by omega) (by omega)
          have h4 := hs (m - 1) m (by omega) (by omega)
          simp only [List.mem_singleton] at hy
          omega
/-- Sorted. -/
def SortEnd (P : List Nat) (a : Option Addr) (t c base : Nat) (w : World) (e : Ending) (w' : World) : Prop :=
  e = .returned (.tuple #[]) ∧ ∃ P', P'.Perm P ∧ Srt P' ∧ w'.ownsRow base 3 1 (.slice a t c) t (nv P') ∧ Upd (fun k => (Value.slice a t c).ownBlock = some k) w w'
theorem sort_any (P : List Nat) (a : Option Addr) (t c base : Nat) (w : World) (ho : w.ownsRow base 3 1 (.slice a t c) t (nv P)) (ht : t ≤ 1000000) :
    Calls Try.prog 70 #[.slice a t c] w (SortEnd P a t c base w) := by
  have hl : P.length = t := by have := ho.1; simpa [nv] using this
  rcases ho.2 with ⟨h1, h2⟩ | ⟨g, cap, cur, h1, h2, h3, h4, h5, h6, h7⟩
  · cases h1
    refine (sh_slices_Sort_int_none none 0 w).mono ?_
    rintro e w' ⟨rfl, rfl⟩
    have hP : P = [] := List.eq_nil_of_length_eq_zero hl
    subst hP
    exact ⟨rfl, [], List.Perm.refl _, fun i j _ h => by simp at h, ho, Upd.refl _ _⟩
  · cases h1
    subst hl
    have hlen : (ints P).length = P.length := by simp [ints]
    have hH : Holds (Value.int .i64) w g 0 (ints P).toArray := holds_of_blockI h3 (by rw [hlen, ints_nv]; simpa using h7)
    have h := sh_slices_Sort_int g 0 c (ints P) w hH (Array.getElem?_eq_some_iff.1 h3).1 (by omega)
    rw [hlen] at h
    refine h.mono ?_
    rintro e w' ⟨rfl, n, os, rfl⟩
    obtain ⟨Z, hZ⟩ : ∃ Z, (ints P).mergeSort (fun x y => decide (x ≤ y)) = Z := ⟨_, rfl⟩
    have hperm : Z.Perm (ints P) := by rw [← hZ]; exact List.mergeSort_perm _ _
    have hsort : Z.Pairwise fun x y => x ≤ y := by
      rw [← hZ]
      have := List.pairwise_mergeSort (le := fun (x y : Int) => decide (x ≤ y)) (fun x y z h1 h2 => by simp at *; omega) (fun x y => by simp; omega) (ints P)
      exact this.imp (fun h => by simpa using h)
    rw [hZ]
    have hzb : Z = ints (Z.map Int.toNat) := ints_back fun z hz => by
      have := hperm.mem_iff.1 hz
      obtain ⟨x, -, rfl⟩ := List.mem_map.1 this
      omega
    have hzl : Z.length = (ints P).length := hperm.length_eq
    have hown := ownsRow_sortedI (w := w) (base := base) (g := g) (cap := c) (n := n) (e := 3) (os := os) (cur := cur) (ss := ints P) (ts := Z) hzl h2 h3 (by rw [hlen]; exact h4) h5 h6
    rw [hlen, hzb, ints_nv, ← hzb] at hown
    refine ⟨rfl, Z.map Int.toNat, ?_, fun i j hij hj => ?_, hown, (grown_own (grownBy_sortedI _)).wide (fun k _ e => by subst e; rfl)⟩
    · have h1 : (Z.map Int.toNat).Perm ((ints P).map Int.toNat) := hperm.map _
      rwa [show (ints P).map Int.toNat = P by simp [ints, Function.comp_def]] at h1
    · rcases Nat.lt_or_ge i j with hlt | hge
      · rw [List.length_map] at hj
        have h1 := List.pairwise_iff_getElem.1 hsort i j (by omega) hj hlt
        have e1 : (Z.map Int.toNat).getD i 0 = (Z[i]'(by omega)).toNat := by simp [List.getD, List.getElem?_map, List.getElem?_eq_getElem (show i < Z.length by omega)]
        have e2 : (Z.map Int.toNat).getD j 0 = (Z[j]).toNat := by simp [List.getD, List.getElem?_map, List.getElem?_eq_getElem hj]
        rw [e1, e2]
        omega
      · obtain rfl : i = j := by omega
        exact Nat.le_refl _
/-- Each once. -/
def CompactEnd (P : List Nat) (a : Option Addr) (t c : Nat) (w : World) (e : Ending) (w' : World) : Prop :=
  ∃ q F, e = .returned (.slice a q c) ∧ F.length = q ∧ (∀ u, u ∈ F ↔ u ∈ P) ∧ F.Nodup ∧ q ≤ t ∧ Rd w' a (nv F) ∧ Upd (fun k => (Value.slice a t c).ownBlock = some k) w w'
theorem compact_any (P : List Nat) (hs : Srt P) (a : Option Addr) (t c base : Nat) (w : World) (ho : w.ownsRow base 3 1 (.slice a t c) t (nv P)) (ht : t ≤ 1000000) :
    Calls Try.prog 71 #[.slice a t c] w (CompactEnd P a t c w) := by
  have hl : P.length = t := by have := ho.1; simpa [nv] using this
  rcases ho.2 with ⟨h1, h2⟩ | ⟨g, cap, cur, h1, h2, h3, h4, h5, h6, h7⟩
  · cases h1
    refine (sh_slices_Compact_int_empty none 0 w).mono ?_
    rintro e w' ⟨rfl, rfl⟩
    have hP : P = [] := List.eq_nil_of_length_eq_zero hl
    subst hP
    exact ⟨0, [], rfl, rfl, fun u => Iff.rfl, List.nodup_nil, Nat.le_refl _, .inl rfl, Upd.refl _ _⟩
  · cases h1
    subst hl
    have hlen : (ints P).length = P.length := by simp [ints]
    have hH : Holds (Value.int .i64) w g 0 (ints P).toArray := holds_of_blockI h3 (by rw [hlen, ints_nv]; simpa using h7)
    have h := sh_slices_Compact_int g 0 c (ints P) w hH (by omega) (by rw [hlen]; exact h4)
    rw [hlen] at h
    refine h.mono ?_
    rintro e w' ⟨rfl, n, rfl⟩
    obtain ⟨f1, f2⟩ := cmp_facts P hs P.length (Nat.le_refl _)
    have hce : Lib.compact (ints P) = compactUpTo (ints P).toArray P.length := by unfold Lib.compact; rw [hlen]
    have hcl : (Lib.compact (ints P)).length ≤ P.length := by
      rw [hce]
      unfold compactUpTo
      rw [List.length_map]
      exact Nat.le_trans (List.length_filter_le _ _) (by simp)
    rw [← hce] at f1 f2
    obtain ⟨Z, hZ⟩ : ∃ Z, Lib.compact (ints P) = Z := ⟨_, rfl⟩
    rw [hZ] at f1 f2 hcl ⊢
    have hzb : Z = ints (Z.map Int.toNat) := ints_back fun z hz => by
      obtain ⟨j, -, rfl⟩ := (f1 z).1 hz
      omega
    have hown := ownsRow_sortedI (w := w) (base := base) (g := g) (cap := c) (n := n) (e := 3) (os := #[]) (cur := cur) (ss := ints P) (ts := Z ++ List.replicate (P.length - Z.length) 0) (by rw [hlen]; simp; omega) h2 h3 (by rw [hlen]; exact h4) h5 h6
    rw [grow_empty] at hown
    obtain ⟨a', c', e1, hr⟩ := Rd.owns hown
    cases e1
    have hr2 := Rd.take (rs := Z ++ List.replicate (P.length - Z.length) 0) (by simpa [lv] using hr) Z.length
    rw [List.take_left] at hr2
    refine ⟨Z.length, Z.map Int.toNat, rfl, by simp, fun u => ?_, ?_, hcl, ?_, (grown_own (w := w) (by have := grownBy_sortedI (w := w) (g := g) (n := n) (os := #[]) (Z ++ List.replicate (P.length - Z.length) 0).toArray; rwa [grow_empty] at this)).wide (fun k _ e => by subst e; rfl)⟩
    · constructor
      · intro hu
        obtain ⟨z, hz, rfl⟩ := List.mem_map.1 hu
        obtain ⟨j, hj, rfl⟩ := (f1 z).1 hz
        rw [Int.toNat_natCast]
        simp [List.getD, List.getElem?_eq_getElem hj]
      · intro hu
        obtain ⟨j, hj, rfl⟩ := List.mem_iff_getElem.1 hu
        exact List.mem_map.2 ⟨((P[j] : Nat) : Int), (f1 _).2 ⟨j, hj, by simp [List.getD, List.getElem?_eq_getElem hj]⟩, by simp⟩
    · rw [hzb] at f2
      unfold ints at f2
      exact List.Pairwise.of_map _ (fun a b h e => h (by rw [e])) f2
    · rw [← ints_nv, ← hzb]
      simpa [lv] using hr2
end Go.Proofs.Yticeionjlknlcaa
