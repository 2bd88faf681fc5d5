/- 'm[k]++' at a key that the map has not: look-up, entry, store by the way back. -/
import Derived.Test.YtafabeehbifgaaaMapJ
import Derived.MapKept
namespace Go.Proofs.Ytafabeehbifgaaa
set_option linter.unusedVariables false
open Go.RowKit Go.Maps Go.WideMaps Go.WideElems Go.ChangeMaps

theorem findIdx_last {es : Array MapEntry} {clock : Nat} (hb : ∀ x ∈ es.toList, x.born < clock) (key z : Value) : (es.push { key := key, val := z, born := clock }).findIdx? (fun e => (e.born : Int) == (clock : Int)) = some es.size := by
  rw [Array.findIdx?_eq_some_iff_findIdx_eq]
  refine ⟨by simp, ?_⟩
  rw [Array.findIdx_push]
  have : es.findIdx (fun e => (e.born : Int) == (clock : Int)) = es.size := by
    rw [Array.findIdx_eq_size]
    intro x hx
    have := hb x (by simpa using hx)
    simp; omega
  rw [this]
  simp
theorem store_way {w1 : World} {b cl st j : Nat} {E1 : Array MapEntry} {e0 : MapEntry} {f t : Int} (hf : wfi f) (ht : wfi t) (hb1 : w1.heap[b]? = some (.map E1 cl))
    (k1 : (Instr.findKey 41 (.agg #[.int .i64 f, .int .i64 t]) E1.toList).run Try.prog w1 = .ok (some (j, e0.val)) w1) (hj2 : E1[j]? = some e0) (k3 : e0.key = .agg #[.int .i64 f, .int .i64 t])
    (hfi : E1.findIdx? (fun e => (e.born : Int) == (st : Int)) = some j) {w2 : World}
    (h : (Instr.mapUpdate 40 (.map (some b)) (.agg #[.int .i64 f, .int .i64 t]) (.int .i64 1)).run Try.prog w1 = .ok () w2) :
    (Instr.entryStore 40 (.map (some b)) (goInt st) (.int .i64 1)).run Try.prog w1 = .ok () w2 := by
  have hu := Try.underlying40
  have hkey := kl_key hf ht
  have harr : E1.modify j (fun e' => { e' with key := .agg #[.int .i64 f, .int .i64 t], val := .int .i64 1 }) = E1.modify j (fun e' => { e' with val := .int .i64 1 }) := by
    apply Array.toList_inj.1
    have k2 : E1.toList[j]? = some e0 := by simpa using hj2
    rw [Array.toList_modify, Array.toList_modify, ChangeMaps.modify_eq_set _ _ _ _ k2, ChangeMaps.modify_eq_set _ _ _ _ k2, ← k3]
  have r1 : (Instr.mapUpdate 40 (.map (some b)) (.agg #[.int .i64 f, .int .i64 t]) (.int .i64 1)).run Try.prog w1 = .ok () (setBlock w1 b (.map (E1.modify j (fun e' => { e' with key := .agg #[.int .i64 f, .int .i64 t], val := .int .i64 1 })) cl)) := by
    simp [Instr.mapUpdate, run_underlying hu, MapKept.run_getObj_map hb1, lawP.check w1 false hkey, k1, hj2, k3, lawP.stays w1 hkey, MapKept.run_setObj_map _ hb1, Result.andThen, setBlock]
  have r2 : (Instr.entryStore 40 (.map (some b)) (goInt st) (.int .i64 1)).run Try.prog w1 = .ok () (setBlock w1 b (.map (E1.modify j (fun e' => { e' with val := .int .i64 1 })) cl)) := by
    simp [Instr.entryStore, MapKept.run_getObj_map hb1, goInt, asInt, asIntOf, hfi, MapKept.run_setObj_map _ hb1, Result.andThen, setBlock]
  rw [r1, harr] at h
  rw [r2]
  exact h
theorem MK.bump {w : World} {b m : Nat} {g : Int → Int → Option Int} (hm : MK w b m g) {f t : Int} (hf : wfi f) (ht : wfi t) (hg : g f t = none) (hmx : m + 1 < maxLen) :
    ∃ st w1 w2, (Instr.lookup 40 (.map (some b)) (.agg #[.int .i64 f, .int .i64 t]) false).run Try.prog w = .ok (.int .i64 0) w ∧
      (Instr.mapEntry 40 (.map (some b)) (.agg #[.int .i64 f, .int .i64 t])).run Try.prog w = .ok (.tuple #[.int .i64 0, st]) w1 ∧
      (Instr.lookup 40 (.map (some b)) (.agg #[.int .i64 f, .int .i64 t]) false).run Try.prog w1 = .ok (.int .i64 0) w1 ∧
      (Instr.entryStore 40 (.map (some b)) st (.int .i64 1)).run Try.prog w1 = .ok () w2 ∧
      MK w2 b (m + 2) (fun f' t' => if f' = f ∧ t' = t then some 1 else g f' t') ∧ Upd (fun k => k = b) w w1 ∧ Upd (fun k => k = b) w w2 := by
  have hlook := hm.look hf ht (c := 0) (by rw [hg]; rfl)
  obtain ⟨D, ⟨es, clock, hb, F, hs, hD⟩, hd⟩ := hm
  have hkey := kl_key hf ht
  have habs : Maps.has D (kl f t) = false := by rw [(hd f t hf ht).1, hg]; rfl
  rcases lawP.find w hkey es.toList F.keys with ⟨h1, h2⟩ | ⟨j, e0, h1, h2, h3⟩
  · have ho : w.ownsMap Try.prog 41 (plainElem (H := Unit) Try.prog 3) b m D := ⟨es, clock, hb, F, hs, hD⟩
    have hu := Try.underlying40
    have hz := zeroP w
    obtain ⟨w', hrun', ho', hg'⟩ := ho.update (key := .agg #[.int .i64 f, .int .i64 t]) (val := .int .i64 0) lawP hu (by omega) hkey (plainElem_int (H := Unit) Try.underlying3 (by decide))
    have e1 : (Instr.mapUpdate 40 (.map (some b)) (.agg #[.int .i64 f, .int .i64 t]) (.int .i64 0)).run Try.prog w = .ok () (setBlock w b (.map (es.push { key := .agg #[.int .i64 f, .int .i64 t], val := .int .i64 0, born := clock }) (clock + 1))) := by
      simp [Instr.mapUpdate, run_underlying hu, MapKept.run_getObj_map hb, lawP.check w false hkey, h1, MapKept.run_setObj_map _ hb, Result.andThen, setBlock]
    have e2 : (Instr.mapEntry 40 (.map (some b)) (.agg #[.int .i64 f, .int .i64 t])).run Try.prog w = .ok (.tuple #[.int .i64 0, goInt clock]) (setBlock w b (.map (es.push { key := .agg #[.int .i64 f, .int .i64 t], val := .int .i64 0, born := clock }) (clock + 1))) := by
      simp [Instr.mapEntry, run_underlying hu, MapKept.run_getObj_map hb, lawP.check w false hkey, h1, hz, MapKept.run_setObj_map _ hb, Result.andThen, setBlock]
    rw [e1] at hrun'
    cases hrun'
    have hb1 : (setBlock w b (.map (es.push { key := .agg #[.int .i64 f, .int .i64 t], val := .int .i64 0, born := clock }) (clock + 1))).heap[b]? = some (.map (es.push { key := .agg #[.int .i64 f, .int .i64 t], val := .int .i64 0, born := clock }) (clock + 1)) := heap_setBlock_same hb _
    generalize hw1 : (setBlock w b (.map (es.push { key := .agg #[.int .i64 f, .int .i64 t], val := .int .i64 0, born := clock }) (clock + 1))) = w1 at *
    have hm1 : MK w1 b (m + 1) (fun f' t' => if f' = f ∧ t' = t then some 0 else g f' t') := by
      refine ⟨_, ho', fun f' t' hf' ht' => ?_⟩
      by_cases e : f' = f ∧ t' = t
      · obtain ⟨rfl, rfl⟩ := e
        simp only [and_self, if_true, Option.isSome_some, Option.getD_some]
        exact ⟨has_put_same (ho.tidy lawP).isMap (kl_lit hf ht) _, atKey_put_same (ho.tidy lawP).isMap (kl_lit hf ht) _ _⟩
      · show _ = (if f' = f ∧ t' = t then some 0 else g f' t').isSome ∧ _ = DataW.lit (Lit.int IntKind.i64 ((if f' = f ∧ t' = t then some 0 else g f' t').getD 0))
        rw [if_neg e, has_put_other (kl_ne hf' ht' hf ht e), atKey_put_other (kl_ne hf' ht' hf ht e)]
        exact hd f' t' hf' ht'
    have hlook1 := hm1.look hf ht (c := 0) (by simp)
    obtain ⟨w2, hrun2, ho2, hg2⟩ := ho'.update (key := .agg #[.int .i64 f, .int .i64 t]) (val := .int .i64 1) lawP hu (by omega) hkey (plainElem_int (H := Unit) Try.underlying3 (by decide))
    have hborn : ∀ x ∈ es.toList, x.born < clock := ((MapKept.stamped_iff es clock).1 F.stamped).1
    have e3 : (Instr.entryStore 40 (.map (some b)) (goInt clock) (.int .i64 1)).run Try.prog w1 = .ok () w2 := by
      have hfi := findIdx_last hborn (.agg #[.int .i64 f, .int .i64 t]) (.int .i64 0)
      obtain ⟨es1, clock1, hb1', F1, _, _⟩ := ho'
      have hee := hb1.symm.trans hb1'
      simp at hee
      obtain ⟨rfl, rfl⟩ := hee
      rcases lawP.find w1 hkey _ F1.keys with ⟨_, k2⟩ | ⟨j, e0, k1, k2, k3⟩
      · exact absurd rfl (k2 { key := .agg #[.int .i64 f, .int .i64 t], val := .int .i64 0, born := clock } (by simp))
      · have hj : j = es.size := by
          have hjl := (List.getElem?_eq_some_iff.1 k2).1
          simp at hjl
          by_cases hlt : j < es.size
          · exfalso
            rw [Array.toList_push, List.getElem?_append_left (by simpa using hlt)] at k2
            exact h2 e0 (List.mem_of_getElem? k2) k3
          · omega
        subst hj
        have hj2 : (es.push { key := Value.agg #[.int .i64 f, .int .i64 t], val := Value.int .i64 0, born := clock })[es.size]? = some e0 := by simpa using k2
        exact store_way hf ht hb1 k1 hj2 k3 hfi hrun2
    have hm2 : ∀ f' t', wfi f' → wfi t' → Maps.has ((D.put (kl f t) (.lit (.int .i64 0))).put (kl f t) (.lit (.int .i64 1))) (kl f' t') = ((fun f' t' => if f' = f ∧ t' = t then some (1 : Int) else g f' t') f' t').isSome ∧ ((D.put (kl f t) (.lit (.int .i64 0))).put (kl f t) (.lit (.int .i64 1))).atKey (kl f' t') (.lit (.int .i64 0)) = .lit (.int .i64 (((fun f' t' => if f' = f ∧ t' = t then some (1 : Int) else g f' t') f' t').getD 0)) := by
      intro f' t' hf' ht'
      by_cases e : f' = f ∧ t' = t
      · obtain ⟨rfl, rfl⟩ := e
        simp only [and_self, if_true, Option.isSome_some, Option.getD_some]
        exact ⟨has_put_same (ho'.tidy lawP).isMap (kl_lit hf ht) _, atKey_put_same (ho'.tidy lawP).isMap (kl_lit hf ht) _ _⟩
      · show _ = (if f' = f ∧ t' = t then some 1 else g f' t').isSome ∧ _ = DataW.lit (Lit.int IntKind.i64 ((if f' = f ∧ t' = t then some 1 else g f' t').getD 0))
        rw [if_neg e, has_put_other (kl_ne hf' ht' hf ht e), atKey_put_other (kl_ne hf' ht' hf ht e), has_put_other (kl_ne hf' ht' hf ht e), atKey_put_other (kl_ne hf' ht' hf ht e)]
        exact hd f' t' hf' ht'
    exact ⟨goInt clock, w1, w2, hlook, e2, hlook1, e3, ⟨_, ho2, hm2⟩, grown_upd hg', (grown_upd hg').trans (grown_upd hg2)⟩
  · exfalso
    rcases fit_look (H := Unit) true lawP Try.underlying40 (zeroP w) hb F hkey with ⟨_, hno, _⟩ | ⟨e1, y, _, _, _, _, hat, _⟩
    · exact hno e0 (List.mem_of_getElem? h2) h3
    · rw [hD] at habs
      rw [has_true_of_atKey hat] at habs
      cases habs
end Go.Proofs.Ytafabeehbifgaaa
