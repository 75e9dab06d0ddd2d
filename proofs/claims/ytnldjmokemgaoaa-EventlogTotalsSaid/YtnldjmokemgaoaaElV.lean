/- Sorting traces by their words. -/
import Derived.Test.YtnldjmokemgaoaaEl2
import Derived.Test.YtnldjmokemgaoaaElP
import Derived.Test.YtnldjmokemgaoaaSrtF
import Derived.Test.YtnldjmokemgaoaaLayT
namespace Go.Proofs.Ytnldjmokemgaoaa
set_option linter.unusedSimpArgs false
set_option linter.unusedVariables false
set_option linter.unnecessarySimpa false
set_option linter.unusedSectionVars false
open Go.RowKit Go.Sort Go.Shelf
variable [Glob]
set_option maxRecDepth 100000
/-- The word of a case in the map. -/
def wd (al : Al) (c : ByteArray) : List ByteArray := (alook al c).getD []
theorem vcmp_calls (s1 s2 : ByteArray) (A A' : Option Addr) (n c n' c' : Nat) (a b : List ByteArray) (W : World) (h : StrsS W A n a) (h' : StrsS W A' n' b) :
    Calls Try.prog 55 #[.agg #[.string s1, .slice A n c], .agg #[.string s2, .slice A' n' c']] W fun e w' => e = .returned (.int .i64 (cmpL a b)) ∧ Grown W w' := by
  have hcon : ∀ W', Grown W W' → Calls Try.prog 47 #[.slice A n c, .slice A' n' c'] W' fun e w' => e = .returned (.int .i64 (cmpL a b)) ∧ Grown W' w' := fun W' hW => ncompare_calls A A' n c n' c' a b W' (h.below mono_strS hW.below) (h'.below mono_strS hW.below)
  have hcon := Lib.hid hcon
  clear h h'
  go_enter Try.func55, Try.ntmps55
  go_wp2_with (go_at_call 47; refine (hcon.out _ (by repeat (first | exact Grown.refl _ | refine Grown.alloc ?_ _ | refine Grown.drew ?_ | refine Grown.drewN ?_ _))).mono ?_; rintro e w' ⟨rfl, hg⟩)
  go_ret
  exact ⟨rfl, Grown.trans (by repeat (first | exact Grown.refl _ | refine Grown.alloc ?_ _ | refine Grown.drew ?_ | refine Grown.drewN ?_ _)) hg⟩
theorem refO_strs {w0 w : World} {X : Nat → Prop} {φ : Nat → Option Nat} {b b' : Blk} {al : Al} {c : ByteArray} {v : Value} (hr : HR Try.prog w0 X w φ (b :: b' :: al.map rowS)) (hv : RV Try.prog w X φ (b :: b' :: al.map rowS) (refO 2 al c) v) :
    ∃ A n cap, v = .slice A n cap ∧ StrsS w A n (wd al c) ∧ ∀ ad, A = some ad → ∃ id, 2 ≤ id ∧ φ id = some ad.block := by
  unfold refO at hv
  unfold wd alook
  cases hq : afind c al 0 with
  | none =>
    rw [hq] at hv
    exact ⟨none, 0, 0, hv.nils_inv, Sl.nil, fun ad h => by cases h⟩
  | some e =>
    obtain ⟨j, l⟩ := e
    rw [hq] at hv
    have hj := afind_eq hq
    have hb : (b :: b' :: al.map rowS)[j + 2]? = some (.row 9 false (rowsOf strC l)) := by simp [hj, rowS]
    cases hv with
    | ro h => cases h
    | os h0 hid h =>
      rcases (h _ _ _ hb).2 (by rw [rowsOf_length]) with ⟨hnb, _⟩ | ⟨c', cap, cur, hφ, rfl, hheap, hsz, hcap, hncap⟩
      · cases hnb
      · obtain ⟨hle, htk⟩ := row_strs hr hb hφ hheap (by kernel_rfl)
        have hmx : l.length ≤ 9223372036854775807 := by
          have : maxLen = 9223372036854775807 := by decide
          simp only at hncap; omega
        refine ⟨_, _, _, rfl, ⟨rfl, hmx, fun k hk => ⟨_, rfl, ?_⟩⟩, fun ad h => ⟨j + 2, by omega, by cases h; exact hφ⟩⟩
        have hk' : k < l.length := hk
        have hcell : cur[k]? = some (.string l[k]) := by
          have := congrArg (fun z : List Value => z[k]?) htk
          simp only [List.getElem?_map] at this
          rw [List.getElem?_take_of_lt hk'] at this
          simpa [hk', encStr] using this
        show w.cell? _ = _
        by_cases h0 : k = 0
        · subst h0; simp [World.cell?, Addr.add, hheap, hcell]
        · simp [World.cell?, Addr.add, h0, hheap, hcell]
theorem kept_strs {w W : World} {c : Nat} {A : Option Addr} {n : Nat} {l : List ByteArray} (hk : Kept w W c) (h : StrsS w A n l) (hA : ∀ ad, A = some ad → ad.block < w.heap.size ∧ ad.block ≠ c) : StrsS W A n l :=
  ⟨h.1, h.2.1, fun k hk' => by
    obtain ⟨ad, h1, h2⟩ := h.2.2 k hk'
    refine ⟨ad, h1, ?_⟩
    obtain ⟨h3, h4⟩ := hA ad h1
    have hb : (ad.add (k * 1)).block = ad.block := add_block _ _
    have h5 := hk.2 ad.block h3 h4
    unfold rdS World.cell? at h2 ⊢
    rw [hb] at h2 ⊢
    rw [h5]
    exact h2⟩
theorem tsort_G {b : Blk} {al : Al} {cs : List ByteArray} {n : Nat} {nb : Bool} {K : AV → List Blk → Prop} (hn : n = cs.length) (h0 : 0 < n) (hlen : n ≤ 1073741824)
    (hK : ∀ cs' : List ByteArray, cs'.Perm cs → (cs'.map (wd al)).Pairwise (fun a b => cmpL a b ≤ 0) → K (.tup []) (b :: .row 37 nb (rowsOf (trRow 2 al) cs') :: al.map rowS)) :
    CallG Try.prog 54 [.os 1 n, .fn 55 []] (b :: .row 37 nb (rowsOf (trRow 2 al) cs) :: al.map rowS) K := by
  subst hn
  have hce : Try.prog.cellsOf 37 = 2 := by kernel_rfl
  have hget : ∀ i : Fin cs.length, (rowsOf (trRow 2 al) cs).getD i.val [] = trRow 2 al cs[i] := fun i => by simp [rowsOf, List.getD]
  refine sortF_G Try.sortTrL Try.isAgg37 Try.sizeOf37 (by kernel_rfl) hce (by omega) (enters_of Try.func55 (by kernel_rfl) rfl) (rows := rowsOf (trRow 2 al) cs) (nb := nb) (e := 37) rfl (by rw [rowsOf_length]) h0 hlen
    (fun r hr => by simp only [rowsOf, List.mem_map] at hr; obtain ⟨x, _, rfl⟩ := hr; rfl) (fun i j => cmpL (wd al cs[i]) (wd al cs[j])) ?_ ?_ ?_
  · refine ⟨fun x => by simp [ltOf, cmpL_self], fun x y z h1 h2 => ?_, fun x y z h1 h2 => ?_⟩
    · simp only [ltOf, decide_eq_true_eq] at h1 h2 ⊢
      exact cmpL_lt_trans h1 h2
    · simp only [ltOf, decide_eq_false_iff_not] at h1 h2 ⊢
      rw [cmpL_anti] at h1 h2 ⊢
      have := (cmpL_trans (wd al cs[z]) (wd al cs[y]) (wd al cs[x]) (by omega) (by omega)).1
      omega
  · intro w0 w X φ c cur hr hφ hrv W hW x y
    have one : ∀ i : Fin cs.length, ∃ A n cap, (encF cur 2 i).toArray = #[.string cs[i], .slice A n cap] ∧ StrsS W A n (wd al cs[i]) := fun i => by
      obtain ⟨u, v, huv⟩ : ∃ u v, encF cur 2 i = [u, v] := by
        have hl : (encF cur 2 i).length = 2 := encF_len i
        match hq : encF cur 2 i, hl with
        | [u, v], _ => exact ⟨u, v, rfl⟩
      have h1 := hrv i 0 (.str cs[i]) u (by rw [hget]; rfl) (by rw [huv]; rfl)
      have h2 := hrv i 1 (refO 2 al cs[i]) v (by rw [hget]; rfl) (by rw [huv]; rfl)
      obtain ⟨A, n, cap, e2, hs, hA⟩ := refO_strs hr h2
      refine ⟨A, n, cap, by rw [huv, h1.str_inv, e2], kept_strs hW hs fun ad had => ?_⟩
      · obtain ⟨id, h3, h4⟩ := hA ad had
        refine ⟨(hr.own id _ h4).2.1, fun e => ?_⟩
        rw [e] at h4
        have := hr.inj _ _ _ h4 hφ
        omega
    obtain ⟨A, n, cap, e1, s1⟩ := one x
    obtain ⟨A', n', cap', e2, s2⟩ := one y
    rw [e1, e2]
    exact vcmp_calls _ _ _ _ _ _ _ _ _ _ W s1 s2
  · intro p hp hs
    have e1 : (p.map fun i => (rowsOf (trRow 2 al) cs).getD i.val []) = rowsOf (trRow 2 al) (p.map fun i => cs[i]) := by
      show _ = (p.map fun i => cs[i]).map (trRow 2 al)
      rw [List.map_map]
      exact List.map_congr_left fun i _ => hget i
    rw [e1]
    refine hK (p.map fun i => cs[i]) ?_ ?_
    · have := hp.map fun i : Fin cs.length => cs[i]
      have e2 : (List.finRange cs.length).map (fun i : Fin cs.length => cs[i]) = cs := by
        refine List.ext_getElem (by simp) fun i h1 h2 => by simp
      rwa [e2] at this
    · rw [List.map_map, List.pairwise_map]
      refine hs.imp fun {a b} h => ?_
      simp only [ltOf, decide_eq_false_iff_not] at h
      simp only [Function.comp]
      rw [cmpL_anti]
      omega
end Go.Proofs.Ytnldjmokemgaoaa
