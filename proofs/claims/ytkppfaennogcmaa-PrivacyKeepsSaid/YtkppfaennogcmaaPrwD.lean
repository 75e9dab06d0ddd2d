/- Sorting entries by their words. -/
import Derived.Test.YtkppfaennogcmaaM5
import Derived.Test.YtkppfaennogcmaaOrdL
import Derived.Test.YtkppfaennogcmaaBr
import Derived.Test.YtkppfaennogcmaaSrtF
import Derived.Test.YtkppfaennogcmaaLayP
namespace Go.Proofs.Ytkppfaennogcmaa
set_option linter.unusedSimpArgs false
set_option linter.unusedVariables false
set_option linter.unnecessarySimpa false
set_option linter.unusedSectionVars false
open Go.RowKit Go.Sort Go.Shelf
variable [Glob]
set_option maxRecDepth 100000
theorem strs_of_ro {w W : World} {Y : Nat → Prop} {c : Nat} {l : List ByteArray} {v : Value} (hl : l.length ≤ 9223372036854775807) (hk : Kept w W c) (hc : Y c) (h : RO w Y (.rs (rowsOf strC l)) v) : ∃ A n cap, v = .slice A n cap ∧ StrsS W A n l := by
  cases h with
  | @rs _ A n cap sz f hn hcap hA hx =>
    refine ⟨A, n, cap, rfl, by rw [← hn, rowsOf_length], by rw [← hn, rowsOf_length]; exact hl, fun k hk' => ?_⟩
    have hr : (rowsOf strC l)[k]? = some [.str l[k]] := by rw [rowsOf_get]; simp [hk', strC]
    obtain ⟨h1, a, h2, h6, h7, h3⟩ := hA k _ hr
    have hsz : sz = 1 := by simpa using h1.symm
    subst hsz
    have h4 := (h3 0 (by omega)).1
    have h5 := hx k 0 _ (.str l[k]) hr (by simp)
    refine ⟨a, h2, ?_⟩
    have hne : a.block ≠ c := fun e => h7 (e ▸ hc)
    have hb : (a.add (k * 1)).block = a.block := add_block _ _
    have h8 := hk.2 a.block h6 hne
    generalize f k 0 = u at h4 h5
    cases h5
    unfold rdS World.cell?
    unfold World.cell? at h4
    rw [hb, h8]
    simpa [hb, add_block] using h4
theorem ecmp_calls (A A' : Option Addr) (n c n' c' : Nat) (v1 v2 : Value) (a b : List ByteArray) (W : World) (h : StrsS W A n a) (h' : StrsS W A' n' b) :
    Calls Try.prog 91 #[.agg #[.slice A n c, v1], .agg #[.slice A' n' c', v2]] W fun e w' => e = .returned (.int .i64 (cmpL a b)) ∧ Grown W w' := by
  have hcon : ∀ W', Grown W W' → Calls Try.prog 87 #[.slice A n c, .slice A' n' c'] W' fun e w' => e = .returned (.int .i64 (cmpL a b)) ∧ Grown W' w' := fun W' hW => ncompare_calls A A' n c n' c' a b W' (h.below mono_strS hW.below) (h'.below mono_strS hW.below)
  have hcon := Lib.hid hcon
  clear h h'
  go_enter Try.func91, Try.ntmps91
  go_wp2_with (go_at_call 87; refine (hcon.out _ (by repeat (first | exact Grown.refl _ | refine Grown.alloc ?_ _ | refine Grown.drew ?_ | refine Grown.drewN ?_ _))).mono ?_; rintro e w' ⟨rfl, hg⟩)
  go_ret
  exact ⟨rfl, Grown.trans (by repeat (first | exact Grown.refl _ | refine Grown.alloc ?_ _ | refine Grown.drew ?_ | refine Grown.drewN ?_ _)) hg⟩
theorem esort_G {nb : Bool} {o : List Wd} {id n : Nat} {H : List Blk} {K : AV → List Blk → Prop} (hb : H[id]? = some (.row 97 nb (rowsOf wdC o))) (hn : n = o.length) (h0 : 0 < n) (hlen : n ≤ 1073741824) (hw : ∀ v ∈ o, v.acts.length ≤ 1000)
    (hK : ∀ q : List Wd, q.Perm o → q.Pairwise (fun a b => cmpL a.acts b.acts ≤ 0) → K (.tup []) (H.set id (.row 97 nb (rowsOf wdC q)))) :
    CallG Try.prog 90 [.os id n, .fn 91 []] H K := by
  subst hn
  have hce : Try.prog.cellsOf 97 = 2 := by kernel_rfl
  have hget : ∀ i : Fin o.length, (rowsOf wdC o).getD i.val [] = wdC o[i] := fun i => by simp [rowsOf, List.getD]
  refine sortF_G Try.sortEnL Try.isAgg97 Try.sizeOf97 (by kernel_rfl) hce (by omega) (enters_of Try.func91 (by kernel_rfl) rfl) (rows := rowsOf wdC o) (nb := nb) (e := 97) hb (by rw [rowsOf_length]) h0 hlen
    (fun r hr => by simp only [rowsOf, List.mem_map] at hr; obtain ⟨x, _, rfl⟩ := hr; rfl) (fun i j => cmpL (o[i]).acts (o[j]).acts) ?_ ?_ ?_
  · refine ⟨fun x => by simp [ltOf, cmpL_self], fun x y z h1 h2 => ?_, fun x y z h1 h2 => ?_⟩
    · simp only [ltOf, decide_eq_true_eq] at h1 h2 ⊢
      exact (cmpL_trans _ _ _ (by omega) (by omega)).2 (.inl h1)
    · simp only [ltOf, decide_eq_false_iff_not] at h1 h2 ⊢
      rw [cmpL_anti] at h1 h2 ⊢
      have := (cmpL_trans (o[z]).acts (o[y]).acts (o[x]).acts (by omega) (by omega)).1
      omega
  · intro w0 w X φ c cur hr hφ hrv W hW x y
    have one : ∀ i : Fin o.length, ∃ A n cap v, (encF cur 2 i).toArray = #[.slice A n cap, v] ∧ StrsS W A n (o[i]).acts := fun i => by
      obtain ⟨u, v, huv⟩ : ∃ u v, encF cur 2 i = [u, v] := by
        have hl : (encF cur 2 i).length = 2 := encF_len i
        match hq : encF cur 2 i, hl with
        | [u, v], _ => exact ⟨u, v, rfl⟩
      have h1 := hrv i 0 (.rs (rowsOf strC (o[i]).acts)) u (by rw [hget]; rfl) (by rw [huv]; rfl)
      have hln := hw (o[i]) (List.getElem_mem _)
      have h2 : RO w (fun b => X b ∨ ∃ i, φ i = some b) (.rs (rowsOf strC (o[i]).acts)) u := by
        cases h1 with
        | ro h => exact h
      obtain ⟨A, n, cap, e2, hs⟩ := strs_of_ro (by omega) hW (.inr ⟨_, hφ⟩) h2
      exact ⟨A, n, cap, v, by rw [huv, e2], hs⟩
    obtain ⟨A, n, cap, v1, e1, s1⟩ := one x
    obtain ⟨A', n', cap', v2, e2, s2⟩ := one y
    rw [e1, e2]
    exact ecmp_calls _ _ _ _ _ _ _ _ _ _ W s1 s2
  · intro p hp hs
    have e1 : (p.map fun i => (rowsOf wdC o).getD i.val []) = rowsOf wdC (p.map fun i => o[i]) := by
      show _ = (p.map fun i => o[i]).map wdC
      rw [List.map_map]
      exact List.map_congr_left fun i _ => hget i
    rw [e1]
    refine hK (p.map fun i => o[i]) ?_ ?_
    · have := hp.map fun i : Fin o.length => o[i]
      have e2 : (List.finRange o.length).map (fun i : Fin o.length => o[i]) = o := by
        refine List.ext_getElem (by simp) fun i h1 h2 => by simp
      rwa [e2] at this
    · rw [List.pairwise_map]
      refine hs.imp fun {a b} h => ?_
      simp only [ltOf, decide_eq_false_iff_not] at h
      rw [cmpL_anti]
      omega
end Go.Proofs.Ytkppfaennogcmaa
