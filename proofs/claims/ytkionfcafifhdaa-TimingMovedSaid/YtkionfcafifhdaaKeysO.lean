/- Maps of the call's own with strings as keys, as the kit's laws name them; new memory of strings. -/
import Derived.Test.YtkionfcafifhdaaSortO
import Derived.Test.YtkionfcafifhdaaStrSet
import Derived.Shelf.SlIter.Nil
namespace Go.Proofs.Ytkionfcafifhdaa
set_option linter.unusedSimpArgs false
set_option linter.unusedVariables false
set_option linter.unnecessarySimpa false
set_option linter.unusedSectionVars false
open Go.RowKit Go.Maps Go.Sort Go.Shelf
variable [Glob]
set_option maxRecDepth 100000
section
variable {P : Program} {w0 w : World} {X : Nat → Prop} {φ : Nat → Option Nat} {G : List Blk}
def anyR : Value → Option (DataW Unit × List MemPlace) := fun _ => some (.nil, [])
theorem key_str {t : TypeId} (ht : P.underlying t = some .string) {s : ByteArray} (h : s.size ≤ maxLen) : keyOf P t (.string s) = some (.string s.data.toList) := by
  simp [keyOf, ht, mapKey, h]
/-- A map of the call's own with strings as keys, as the kit's laws name it. -/
theorem owns_strs {t : TypeId} (ht : P.underlying t = some .string) {es : List (AV × AV)} {ks : List ByteArray} {c : Nat} (hb : BlkOk P w X φ G c (.map es)) (hk : es.map (·.1) = ks.map .str) (hnd : ks.Nodup) (hsz : ∀ k ∈ ks, k.size ≤ maxLen) (hlen : ks.length ≤ 1000000) :
    ∃ D0 : DataW Unit, w.ownsMap P t anyR c ks.length D0 ∧ Maps.size D0 = ks.length ∧ (strKeys D0).Perm (ks.map (·.data.toList)) := by
  obtain ⟨ents, clock, h1, h2, h3, h4, h5⟩ := hb
  have hel : es.length = ks.length := by have := congrArg List.length hk; simpa using this
  have hkeys : ents.toList.map (·.key) = ks.map .string := by
    refine List.ext_getElem? fun i => ?_
    by_cases hi : i < ks.length
    · have he : i < es.length := by omega
      have hi2 : i < ents.size := by omega
      have hki := congrArg (fun z : List AV => z[i]?) hk
      simp only [List.getElem?_map, List.getElem?_eq_getElem he, List.getElem?_eq_getElem hi, Option.map_some, Option.some.injEq] at hki
      have h6 := (h5 i es[i].1 es[i].2 ents[i] (List.getElem?_eq_getElem he) (by simp [hi2])).1
      rw [hki] at h6
      have := h6.str_inv
      simp [hi, hi2, this]
    · rw [List.getElem?_eq_none (by simp; omega), List.getElem?_eq_none (by simp; omega)]
  have hrd : ∀ x ∈ ents.toList, ∃ s : ByteArray, x.key = .string s ∧ s ∈ ks := fun x hx => by
    have : x.key ∈ ks.map Value.string := by rw [← hkeys]; exact List.mem_map_of_mem hx
    obtain ⟨s, h6, h7⟩ := List.mem_map.1 this
    exact ⟨s, h7.symm, h6⟩
  have hF : WideElems.Fit P t anyR ents clock := by
    refine ⟨by rw [h2, hel]; simp [maxLen]; omega, ⟨h3, h4, ?_⟩, fun x hx => ?_⟩
    · rw [hkeys]
      exact List.Pairwise.map _ (fun a b h e => h (by simpa using e)) hnd
    · obtain ⟨s, h6, h7⟩ := hrd x hx
      exact ⟨_, by simp [WideElems.rd, h6, key_str ht (hsz s h7), anyR]; rfl⟩
  refine ⟨_, ⟨ents, clock, h1, hF, by omega, rfl⟩, ?_, ?_⟩
  · simp only [Maps.size]
    rw [(WideShapes.sorted_perm _).length_eq]; simp [h2, hel]
  · simp only [strKeys]
    refine ((WideShapes.sorted_perm _).map _).trans (List.Perm.of_eq ?_)
    rw [List.map_map]
    have : ents.toList.map ((fun p : Lit × DataW Unit => strOf p.1) ∘ WideElems.rg P t anyR) = (ents.toList.map (·.key)).map fun v => match v with | .string s => s.data.toList | _ => [] := by
      rw [List.map_map]
      refine List.map_congr_left fun x hx => ?_
      obtain ⟨s, h6, h7⟩ := hrd x hx
      simp [WideElems.rg, WideElems.rd, h6, key_str ht (hsz s h7), anyR, strOf]
    rw [this, hkeys, List.map_map]
    rfl
/-- New memory of strings reads as these. -/
theorem rv_strs {w1 w' : World} {t : TypeId} {v : Value} {l : List ByteArray} (hr : HR P w0 X w1 φ G) (h : w'.ownsRow w1.heap.size t 1 v l.length (l.map .string)) : RV P w' X φ G (.rs (rowsOf strC l)) v := by
  refine .ro ?_
  rcases h.2 with ⟨rfl, hz⟩ | ⟨g, cap, cur, rfl, hg, hh, hn, hc, hsz, htk⟩
  · have : l = [] := List.eq_nil_of_length_eq_zero hz
    subst this
    exact .rs 0 (fun _ _ => undef) rfl (Nat.le_refl _) (by simp [rowsOf]) (by simp [rowsOf])
  · have hcell : ∀ i, i < l.length → cur[i]? = l[i]?.map .string := fun i hi => by
      have := congrArg (fun z : List Value => z[i]?) htk
      simp only [List.getElem?_map] at this
      rw [List.getElem?_take_of_lt (by omega)] at this
      rw [← this]; simp
    refine .rs 1 (fun i _ => (l[i]?.map .string).getD undef) (by simp [rowsOf]) hn (fun i row hi => ?_) fun i j row x hi hj => ?_
    · simp only [rowsOf, List.getElem?_map, Option.map_eq_some_iff] at hi
      obtain ⟨s, hs, rfl⟩ := hi
      have hil := (List.getElem?_eq_some_iff.1 hs).1
      refine ⟨rfl, _, rfl, (Array.getElem?_eq_some_iff.1 hh).1, fun hx => ?_, fun j hj => ?_⟩
      · rcases hx with hx | ⟨id, hx⟩
        · have := (hr.ext _ hx).1; simp only at this; omega
        · have := (hr.own _ _ hx).2.1; simp only at this; omega
      · have hj0 : j = 0 := by omega
        subst hj0
        have := hcell i hil
        rw [hs] at this ⊢
        by_cases h0 : i = 0
        · subst h0; simp [World.cell?, Addr.add, hh, this]; rfl
        · simp [World.cell?, Addr.add, h0, hh, this]; rfl
    · simp only [rowsOf, List.getElem?_map, Option.map_eq_some_iff] at hi
      obtain ⟨s, hs, rfl⟩ := hi
      have hj0 : j = 0 := by
        have := (List.getElem?_eq_some_iff.1 hj).1
        simp [strC] at this; omega
      subst hj0
      simp [strC] at hj
      subst hj
      rw [hs]
      exact .str
end
/-- Sorted keys are the ascending list. -/
theorem keys_set {ks : List ByteArray} {ss : List (List UInt8)} (hp : ss.Perm (ks.map (·.data.toList))) (hnd : ks.Nodup) : (ss.mergeSort fun x y => decide (x ≤ y)) = (setB ks).map (·.data.toList) := by
  have hn : (ss.mergeSort fun x y => decide (x ≤ y)).Nodup := ((List.mergeSort_perm ss _).trans hp).nodup_iff.2 (List.Pairwise.map _ (fun a b h e => h (ba_eq e)) hnd)
  have h1 := sort_sorted ss
  have key : (ss.mergeSort fun x y => decide (x ≤ y)).map (fun x => (⟨x.toArray⟩ : ByteArray)) = setB ks := by
    refine asc_uniq ?_ (setB_asc ks) fun x => ?_
    · unfold ascB
      rw [List.pairwise_map]
      refine (h1.and hn).imp fun {a b} ⟨h, g⟩ => ?_
      simp only [ltB]
      rcases bl_tri a b with q | q | q
      · exact q
      · exact absurd q g
      · rw [(le_bl a b).1 h] at q; cases q
    · rw [setB_mem]
      simp only [List.mem_map, List.mem_mergeSort]
      constructor
      · rintro ⟨y, hy, rfl⟩
        rw [hp.mem_iff, List.mem_map] at hy
        obtain ⟨z, hz, rfl⟩ := hy
        have : (⟨z.data.toList.toArray⟩ : ByteArray) = z := ba_eq (by simp)
        rw [this]; exact hz
      · intro hx
        exact ⟨x.data.toList, by rw [hp.mem_iff]; exact List.mem_map_of_mem hx, ba_eq (by simp)⟩
  rw [← key, List.map_map]
  conv => lhs; rw [← List.map_id (ss.mergeSort _)]
  exact List.map_congr_left fun x _ => by simp
end Go.Proofs.Ytkionfcafifhdaa
