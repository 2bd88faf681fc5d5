/- What a slice that came in holds: numbers, bools, structs of plain fields; a net. No program in sight. -/
import Derived.Test.YtdhimfkmgcfohaaBase2
import Derived.Deep.Slices
import Derived.ChangeSlices
import Derived.ProofKit
namespace Go.Proofs.Ytdhimfkmgcfohaa
set_option linter.unusedVariables false
open Go.RowKit Go.ChangeShapes Go.WideShapes Go.ChangeAt Go.Deep

/-- A list of values of these kinds (none: a bool). -/
def fits : List (Option IntKind) → List Value → Prop
  | [], [] => True
  | some k :: ks, v :: vs => (∃ n, v = .int k n ∧ (Lit.int k n).wf = true) ∧ fits ks vs
  | none :: ks, v :: vs => (∃ b, v = .bool b) ∧ fits ks vs
  | _, _ => False
theorem fits_length : ∀ {ks : List (Option IntKind)} {vs : List Value}, fits ks vs → vs.length = ks.length
  | [], [], _ => rfl
  | some _ :: _, _ :: _, h => by simp [fits_length h.2]
  | none :: _, _ :: _, h => by simp [fits_length h.2]
  | [], _ :: _, h => h.elim
  | some _ :: _, [], h => h.elim
  | none :: _, [], h => h.elim
theorem fits_of {ks : List (Option IntKind)} : ∀ {vs : List Value}, vs.length = ks.length →
    (∀ (i : Nat) (v : Value), vs[i]? = some v → match ks[i]? with | some (some k) => ∃ n : Int, v = Value.int k n ∧ (Lit.int k n).wf = true | some none => ∃ b : Bool, v = Value.bool b | none => False) → fits ks vs := by
  induction ks with
  | nil => intro vs hl h; cases vs with | nil => trivial | cons _ _ => simp at hl
  | cons k ks ih =>
    intro vs hl h
    cases vs with
    | nil => simp at hl
    | cons v vs =>
      have h0 := h 0 v rfl
      have hr : fits ks vs := ih (by simpa using hl) (fun i u hu => h (i + 1) u hu)
      cases k with
      | none => exact ⟨h0, hr⟩
      | some k => exact ⟨h0, hr⟩

theorem fits_int {k : IntKind} {ks : List (Option IntKind)} {vs : List Value} (h : fits (some k :: ks) vs) : ∃ n us, vs = .int k n :: us ∧ (Lit.int k n).wf = true ∧ fits ks us := by
  cases vs with
  | nil => exact h.elim
  | cons v us => obtain ⟨⟨n, rfl, hn⟩, hr⟩ := h; exact ⟨n, us, rfl, hn, hr⟩
theorem fits_bool {ks : List (Option IntKind)} {vs : List Value} (h : fits (none :: ks) vs) : ∃ b us, vs = .bool b :: us ∧ fits ks us := by
  cases vs with
  | nil => exact h.elim
  | cons v us => obtain ⟨⟨b, rfl⟩, hr⟩ := h; exact ⟨b, us, rfl, hr⟩
theorem fits_nil {vs : List Value} (h : fits [] vs) : vs = [] := by
  cases vs with
  | nil => rfl
  | cons v us => exact h.elim

/-- A struct's fields are these kinds, one cell each: a closed fact. -/
def flatB (P : Program) (t : TypeId) (ks : List (Option IntKind)) : Bool :=
  match P.underlying t with
  | some (.struct fs) => fs.size == ks.length && P.cellsOf t == ks.length && (List.range ks.length).all fun i =>
      match fs[i]?, ks[i]? with
      | some f, some k => f.offset == i && P.cellsOf f.type == 1 && (match P.underlying f.type, k with | some (.int j), some k => j == k | some .bool, none => true | _, _ => false)
      | _, _ => false
  | _ => false

section
variable {H : Type} {enc : TypeId × Value → H} {P : Program} {w : World}

theorem fits_trod {t : TypeId} {ks : List (Option IntKind)} (hB : flatB P t ks = true) {base : Nat} {spare : Nat → Bool} {held : Bool} {fuel : Nat} {cs : List Value} {x : DataW H × List MemPlace}
    (h : DataW.trod enc P w base spare held fuel t cs = some x) : fits ks cs := by
  unfold flatB at hB
  split at hB
  · rename_i fs hu
    simp only [Bool.and_eq_true, beq_iff_eq] at hB
    obtain ⟨⟨hsz, hc⟩, hall⟩ := hB
    obtain ⟨xs, n, _, _, hl, hxl, hf⟩ := DataW.trod_struct hu h
    refine fits_of (by omega) fun i v hv => ?_
    have hi : i < ks.length := by have := (List.getElem?_eq_some_iff.1 hv).1; omega
    have h1 := List.all_eq_true.1 hall i (List.mem_range.2 hi)
    have hks : ks[i]? = some ks[i] := by simp [hi]
    have hfs : fs[i]? = some fs[i] := by simp [hsz, hi]
    rw [hks, hfs] at h1
    simp only [Bool.and_eq_true, beq_iff_eq] at h1
    obtain ⟨⟨ho, h1c⟩, hk⟩ := h1
    have h2 := hf i fs[i] hfs
    have hxi : xs[i]? = some xs[i] := by simp
    rw [ho, h1c, hxi] at h2
    have hd : (cs.drop i).take 1 = [v] := by
      have : cs[i]? = some v := hv
      obtain ⟨hlt, rfl⟩ := List.getElem?_eq_some_iff.1 this
      rw [List.drop_eq_getElem_cons hlt]
      rfl
    rw [hd] at h2
    rw [hks]
    cases hk' : ks[i] with
    | none =>
      rw [hk'] at hk
      split at hk
      · rename_i j k e1 e2; cases e2
      · rename_i e1 e2; obtain ⟨b, hb, _⟩ := DataW.trod_bool e1 h2; exact ⟨b, by simpa using hb⟩
      · cases hk
    | some k =>
      rw [hk'] at hk
      split at hk
      · rename_i j k' e1 e2
        cases e2
        have : j = k := by simpa using hk
        subst this
        obtain ⟨n, hn, _, hw⟩ := DataW.trod_int e1 h2
        exact ⟨n, by simpa using hn, hw⟩
      · rename_i e1 e2; cases e2
      · cases hk
  · cases hB

/-- A slice of numbers that came in. -/
structure IntRow (k : IntKind) (w : World) (a : Option Addr) (cap : Nat) (zs : List Int) : Prop where
  le : zs.length ≤ cap
  most : cap ≤ maxLen
  cells : zs.length = 0 ∨ ∃ b off, a = some ⟨b, off, none⟩ ∧ ∀ i (h : i < zs.length), w.cell? ⟨b, off + i, none⟩ = some (.int k zs[i])
  wf : ∀ n ∈ zs, (Lit.int k n).wf = true
/-- A slice of bools that came in. -/
structure BoolRow (w : World) (a : Option Addr) (cap : Nat) (zs : List Bool) : Prop where
  le : zs.length ≤ cap
  most : cap ≤ maxLen
  cells : zs.length = 0 ∨ ∃ b off, a = some ⟨b, off, none⟩ ∧ ∀ i (h : i < zs.length), w.cell? ⟨b, off + i, none⟩ = some (.bool zs[i])
/-- A slice of structs of plain fields that came in. -/
structure FlatRow (ks : List (Option IntKind)) (w : World) (a : Option Addr) (cap : Nat) (els : List (List Value)) : Prop where
  le : els.length ≤ cap
  most : cap ≤ maxLen
  cells : els.length = 0 ∨ ∃ b off, a = some ⟨b, off, none⟩ ∧ ∀ i (h : i < els.length) j v, els[i][j]? = some v → w.cell? ⟨b, off + i * ks.length + j, none⟩ = some v
  fit : ∀ e ∈ els, fits ks e

theorem spotless {w : World} {a : Addr} {v : Value} (h : w.cell? (a.add 0) = some v) : a = ⟨a.block, a.off, none⟩ := by
  obtain ⟨b, off, spot⟩ := a
  have : spot = none := by
    have h1 := World.cell?_spot h
    simpa [Addr.add] using h1
  subst this
  rfl

theorem cells?_get {w : World} {base n : Nat} {a : Addr} {cs : List Value} (h : w.cells? base a n = some cs) : cs.length = n ∧ ∀ j v, cs[j]? = some v → w.cell? (a.add j) = some v := by
  unfold World.cells? at h
  split at h
  · have hl : cs.length = n := by
      have := mapM_some_length h
      simpa using this
    refine ⟨hl, fun j v hv => ?_⟩
    have hj : j < n := by have := (List.getElem?_eq_some_iff.1 hv).1; omega
    have := mapM_some_get h j j (by simp [hj])
    rw [this]; exact hv
  · cases h

theorem intRow_of {t e : TypeId} {k : IntKind} (ht : P.underlying t = some (.slice e)) (he : P.underlying e = some (.int k)) (hc : P.cellsOf e = 1) {a : Option Addr} {len cap : Nat} {d : DataW H} {p : List MemPlace}
    (h : DataW.Trod enc P w 0 (fun _ => true) true t (.slice a len cap) d p) : ∃ zs : List Int, len = zs.length ∧ IntRow k w a cap zs ∧ (∀ n ∈ zs, (Lit.int k n).wf = true) := by
  obtain ⟨fuel, hf⟩ := h
  rcases open_ints ht he hc hf with ⟨hcs, _⟩ | ⟨x, l, c, zs, hcs, _, hl, hm, hz, _, hcell, hwz⟩
  · simp [Value.cells] at hcs
    obtain ⟨rfl, rfl, rfl⟩ := hcs
    exact ⟨[], rfl, ⟨Nat.le_refl _, Nat.zero_le _, .inl rfl, fun _ h => by cases h⟩, fun _ h => by cases h⟩
  · simp [Value.cells] at hcs
    obtain ⟨rfl, rfl, rfl⟩ := hcs
    have hz' : zs.length = cap := by simpa using hz
    have hlen : (zs.take len).length = len := by simp; omega
    have hw : ∀ n ∈ zs.take len, (Lit.int k n).wf = true := fun n hn => hwz n (List.mem_of_mem_take hn)
    refine ⟨zs.take len, hlen.symm, ⟨by omega, hm, ?_, hw⟩, hw⟩
    by_cases h0 : len = 0
    · exact .inl (by omega)
    · have hx0 := spotless (hcell 0 (by omega))
      refine .inr ⟨x.block, x.off, ?_, fun i hi => ?_⟩
      · exact congrArg some hx0
      · have h1 := hcell i (by omega)
        rw [hx0, Addr.add_lit] at h1
        rw [h1]
        have h2 : i < zs.length := by omega
        simp [h2]

theorem boolRow_of {t e : TypeId} (ht : P.underlying t = some (.slice e)) (he : P.underlying e = some .bool) (hc : P.cellsOf e = 1) {a : Option Addr} {len cap : Nat} {d : DataW H} {p : List MemPlace}
    (h : DataW.Trod enc P w 0 (fun _ => true) true t (.slice a len cap) d p) : ∃ zs : List Bool, len = zs.length ∧ BoolRow w a cap zs := by
  obtain ⟨fuel, hf⟩ := h
  rcases open_slice1 ht hc hf with ⟨hcs, _⟩ | ⟨x, l, c, m, n, V, D, Pl, hcs, _, hl, hm, hmm, _, hx⟩
  · simp [Value.cells] at hcs
    obtain ⟨rfl, rfl, rfl⟩ := hcs
    exact ⟨[], rfl, ⟨Nat.le_refl _, Nat.zero_le _, .inl rfl⟩⟩
  · simp [Value.cells] at hcs
    obtain ⟨rfl, rfl, rfl⟩ := hcs
    have hm' : m = cap := by simpa using hmm
    have hb : ∀ i, i < len → ∃ b, V i = .bool b := fun i hi => by
      obtain ⟨b, hb, _⟩ := DataW.trod_bool he (hx i (by omega)).2
      exact ⟨b, by simpa using hb⟩
    refine ⟨(List.range len).map fun i => (match V i with | .bool b => b | _ => false), by simp, by simpa using hl, hm, ?_⟩
    by_cases h0 : len = 0
    · exact .inl (by simpa using h0)
    · have hx0 := spotless (hx 0 (by omega)).1
      refine .inr ⟨x.block, x.off, congrArg some hx0, fun i hi => ?_⟩
      have hi' : i < len := by simpa using hi
      have h1 := (hx i (by omega)).1
      rw [hx0, Addr.add_lit] at h1
      rw [h1]
      obtain ⟨b, hb⟩ := hb i hi'
      simp [hb]

theorem flatRow_of {t e : TypeId} {ks : List (Option IntKind)} (ht : P.underlying t = some (.slice e)) (he : flatB P e ks = true) (hk0 : 0 < ks.length) {a : Option Addr} {len cap : Nat} {d : DataW H} {p : List MemPlace}
    (h : DataW.Trod enc P w 0 (fun _ => true) true t (.slice a len cap) d p) : ∃ els : List (List Value), len = els.length ∧ FlatRow ks w a cap els ∧ (∀ x ∈ els, fits ks x) := by
  have hsz : P.cellsOf e = ks.length := by
    have he' := he
    unfold flatB at he'
    split at he'
    · simp only [Bool.and_eq_true, beq_iff_eq] at he'; exact he'.1.2
    · cases he'
  obtain ⟨fuel, hf⟩ := h
  rcases open_slice ht hf with ⟨hcs, _⟩ | ⟨x, l, c, m, n, D, Pl, hcs, _, hl, hm, hmm, _, hx⟩
  · simp [Value.cells] at hcs
    obtain ⟨rfl, rfl, rfl⟩ := hcs
    exact ⟨[], rfl, ⟨Nat.le_refl _, Nat.zero_le _, .inl rfl, fun _ h => by cases h⟩, fun _ h => by cases h⟩
  · simp [Value.cells] at hcs
    obtain ⟨rfl, rfl, rfl⟩ := hcs
    have hm' : m = cap := by simpa using hmm
    rw [hsz] at hx
    have hall : ∃ f : Nat → List Value, ∀ i, i < len → w.cells? 0 (x.add (i * ks.length)) ks.length = some (f i) ∧ fits ks (f i) := by
      refine ⟨fun i => (w.cells? 0 (x.add (i * ks.length)) ks.length).getD [], fun i hi => ?_⟩
      obtain ⟨cs', h1, h2⟩ := hx i (by omega)
      refine ⟨?_, ?_⟩
      · simp only [h1, Option.getD_some]
      · simp only [h1, Option.getD_some]
        exact fits_trod he h2
    obtain ⟨f, hf'⟩ := hall
    have hfit : ∀ y ∈ (List.range len).map f, fits ks y := by
      intro y hy
      obtain ⟨i, hi, rfl⟩ := List.mem_map.1 hy
      exact (hf' i (List.mem_range.1 hi)).2
    refine ⟨(List.range len).map f, by simp, ⟨by simpa using hl, hm, ?_, hfit⟩, hfit⟩
    by_cases h0 : len = 0
    · exact .inl (by simpa using h0)
    · have hl0 : 0 < len := by omega
      have hx0 : x = ⟨x.block, x.off, none⟩ := by
        obtain ⟨h1, h2⟩ := hf' 0 hl0
        obtain ⟨h3, h4⟩ := cells?_get h1
        have h5 := h4 0 ((f 0)[0]'(by omega)) (by simp)
        rw [Nat.zero_mul] at h5
        have h6 : (x.add 0).add 0 = x.add 0 := by unfold Addr.add; split <;> simp_all
        rw [h6] at h5
        exact spotless h5
      refine .inr ⟨x.block, x.off, congrArg some hx0, fun i hi j v hv => ?_⟩
      have hi' : i < len := by simpa using hi
      obtain ⟨h1, _⟩ := hf' i hi'
      have h2 := (cells?_get h1).2 j v (by simpa using hv)
      rw [hx0, Addr.add_lit, Addr.add_lit] at h2
      exact h2
end
end Go.Proofs.Ytdhimfkmgcfohaa
