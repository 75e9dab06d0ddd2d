/- The publication of entries. -/
import Derived.Test.YtkppfaennogcmaaPrwD
import Derived.Test.YtkppfaennogcmaaCloS
import Derived.Test.YtkppfaennogcmaaAbEx2
namespace Go.Proofs.Ytkppfaennogcmaa
set_option linter.unusedSimpArgs false
set_option linter.unusedVariables false
set_option linter.unnecessarySimpa false
set_option linter.unusedSectionVars false
open Go.RowKit Go.Sort Go.Shelf
variable [Glob]
set_option maxRecDepth 100000
def PubK (o : List Wd) (r : AV) (H' : List Blk) : Prop := ∃ (q : List Wd) (nb nb' : Bool), q.Perm o ∧ q.Pairwise (fun a b => cmpL a.acts b.acts ≤ 0) ∧ r = .os 1 q.length ∧ H' = [.row 97 nb (rowsOf wdC q), .row 54 nb' (rowsOf wdC q)]
set_option maxHeartbeats 8000000 in
theorem pub_G0 {nb : Bool} {o : List Wd} (h0 : o ≠ []) (hlen : o.length ≤ 300) (hw : lnW o) : CallG Try.prog 54 [.os 0 o.length] [.row 97 nb (rowsOf wdC o)] (PubK o) := by
  have hpos : 0 < o.length := List.length_pos_iff.2 h0
  refine inl_G mixed Try.func54 rfl (by kernel_rfl) (of_decide_eq_true rfl) (by kernel_rfl) (vc_run ?_)
  ((try simp -implicitDefEqProofs [-loopQ_n]) <;> (repeat' (first | (refine condD_dec ?_ ?_ <;> (intro hc; (try simp -implicitDefEqProofs [-loopQ_n, hc]))) | (refine guardD_dec ?_ ?_ <;> (intro hc; (try simp -implicitDefEqProofs [-loopQ_n, hc]))) | (refine condD_intro ?_ ?_ <;> (intro hd; have hc := hd; (try simp at hc) <;> (try simp -implicitDefEqProofs [-loopQ_n, hd, hc]))) | (refine guardD_intro ?_ ?_ <;> (intro hd; have hc := hd; (try simp at hc) <;> (try simp -implicitDefEqProofs [-loopQ_n, hd, hc]))) | (refine ldD_ep ?_ ?_; (focus kernel_rfl); (try simp -implicitDefEqProofs [-loopQ_n])))))
  refine callG_intro (esort_G rfl rfl hpos (by omega) (fun v hv => by have := (hw v hv).2; omega) fun q hp hs => ?_)
  have hql := hp.length_eq
  have hqw : lnW q := fun v hv => hw v (hp.mem_iff.1 hv)
  rw [← hql]
  rw [← hql] at hlen hpos
  ((try simp -implicitDefEqProofs [-loopQ_n]) <;> (repeat' (first | (refine condD_dec ?_ ?_ <;> (intro hc; (try simp -implicitDefEqProofs [-loopQ_n, hc]))) | (refine guardD_dec ?_ ?_ <;> (intro hc; (try simp -implicitDefEqProofs [-loopQ_n, hc]))) | (refine condD_intro ?_ ?_ <;> (intro hd; have hc := hd; (try simp at hc) <;> (try simp -implicitDefEqProofs [-loopQ_n, hd, hc]))) | (refine guardD_intro ?_ ?_ <;> (intro hd; have hc := hd; (try simp at hc) <;> (try simp -implicitDefEqProofs [-loopQ_n, hd, hc]))) | (refine ldD_ep ?_ ?_; (focus kernel_rfl); (try simp -implicitDefEqProofs [-loopQ_n])))))
  refine loop_intro (σ := Nat × List Wd) (fun x => ⟨[(3, .os 1 x.2.length), (8, .os 0 q.length), (9, .int .i64 q.length), (10, .int .i64 x.1)], [.row 97 nb (rowsOf wdC q), .row 54 true (rowsOf wdC x.2)]⟩)
    (fun x => x.1 ≤ q.length ∧ x.2.length = x.1 ∧ x.2 ++ q.drop x.1 = q) (fun x => q.length - x.1) (0, []) ⟨by simp, by simp, by simp⟩ ?_ ?_
  · refine weak_ofL 1 1 rfl (by simp) rfl ?_ ?_ <;> simp [wd_refs]
  rintro ⟨i, p⟩ ⟨hi, ho, hR⟩
  simp only at hi ho hR
  by_cases h : i < q.length
  · have w1 : wrapI .i64 ((i : Int) + 1) = (i : Int) + 1 := wrap_in (by omega) (by omega)
    obtain ⟨⟨A, n⟩, hx⟩ : ∃ x, q[i] = x := ⟨_, rfl⟩
    have hA := (hqw q[i] (by simp)).2
    rw [hx] at hA
    simp only at hA
    have hC := cloneT_pure A (by omega)
    have hln : p.length + 1 ≤ 1073741824 := by omega
    have hsn : rowsOf wdC p ++ [[.rs (rowsOf strC A), .int .i64 n]] = rowsOf wdC (p ++ [⟨A, n⟩]) := wd_snoc (v := ⟨A, n⟩)
    ((try simp -implicitDefEqProofs [-loopQ_n, h, hx, wdC, hln, hsn]) <;> (repeat' (first | (refine condD_dec ?_ ?_ <;> (intro hc; (try simp -implicitDefEqProofs [-loopQ_n, hc, h, hx, wdC, hln, hsn]))) | (refine guardD_dec ?_ ?_ <;> (intro hc; (try simp -implicitDefEqProofs [-loopQ_n, hc, h, hx, wdC, hln, hsn]))) | (refine condD_intro ?_ ?_ <;> (intro hd; have hc := hd; (try simp at hc) <;> (try simp -implicitDefEqProofs [-loopQ_n, hd, hc, h, hx, wdC, hln, hsn]))) | (refine guardD_intro ?_ ?_ <;> (intro hd; have hc := hd; (try simp at hc) <;> (try simp -implicitDefEqProofs [-loopQ_n, hd, hc, h, hx, wdC, hln, hsn]))) | (refine ldD_ep ?_ ?_; (focus kernel_rfl); (try simp -implicitDefEqProofs [-loopQ_n, h, hx, wdC, hln, hsn])) | (refine callS_mk ?_; (try simp -implicitDefEqProofs [-loopQ_n, h, hx, wdC, hln, hsn]); (first | refine callS_intro (hC) (.inr ⟨rfl, rfl⟩) ?_); (try simp -implicitDefEqProofs [-loopQ_n, h, hx, wdC, hln, hsn])))))
    refine loop_next (i + 1, p ++ [⟨A, n⟩]) ⟨by simp only; omega, by simp; omega, ?_⟩ (by simp only; omega) (weak_ofL 2 0 rfl (by simp) rfl ?_ ?_)
    · rw [← hR, List.append_assoc, List.singleton_append]
      simp only
      conv => rhs; rw [List.drop_eq_getElem_cons h, hx]
      rw [hR]
    · simp [w1]
    · simp [wd_refs, hsn]
  · rw [List.drop_eq_nil_of_le (by omega), List.append_nil] at hR
    subst hR
    ((try simp -implicitDefEqProofs [-loopQ_n, h]) <;> (repeat' (first | (refine condD_dec ?_ ?_ <;> (intro hc; (try simp -implicitDefEqProofs [-loopQ_n, hc, h]))) | (refine guardD_dec ?_ ?_ <;> (intro hc; (try simp -implicitDefEqProofs [-loopQ_n, hc, h]))) | (refine condD_intro ?_ ?_ <;> (intro hd; have hc := hd; (try simp at hc) <;> (try simp -implicitDefEqProofs [-loopQ_n, hd, hc, h]))) | (refine guardD_intro ?_ ?_ <;> (intro hd; have hc := hd; (try simp at hc) <;> (try simp -implicitDefEqProofs [-loopQ_n, hd, hc, h]))) | (refine ldD_ep ?_ ?_; (focus kernel_rfl); (try simp -implicitDefEqProofs [-loopQ_n, h])))))
    all_goals exact endG_r (.os 1 p.length) rfl ⟨p, nb, true, hp, hs, rfl, rfl⟩
/-- Nothing is published of no entries. -/
theorem esort_nil : Pure Try.prog 90 [.rs [], .fn 91 []] (.tup []) := exFC_pure (m := 64) (n := 20) mixed noHook noRow noBase (by kernel_rfl)
theorem pub_nil : Pure Try.prog 54 [.nils] (.rs []) := exFC_pure (m := 64) (n := 20) mixed noHook noRow noBase (by kernel_rfl)
theorem wd_mB {ρ : Nat → Nat} {e : TypeId} {nb : Bool} {l : List Wd} : mB ρ (.row e nb (rowsOf wdC l)) = .row e nb (rowsOf wdC l) := by
  simp only [mB, rowsOf, List.map_map]
  congr 1
theorem reify_os {H : List Blk} {id n : Nat} {e : TypeId} {nb : Bool} {rows : List (List AV)} (hb : H[id]? = some (.row e nb rows)) (hn : rows.length = n) {m : Nat} : reify H (m + 1) (.os id n) = (rows.mapM fun row : List AV => row.mapM (reify H m)).map AV.rs := by
  rw [reify]
  simp only [hb, if_pos hn]
theorem pub_G {nb : Bool} {o : List Wd} {id : Nat} {H : List Blk} {K : AV → List Blk → Prop} (hb : H[id]? = some (.row 97 nb (rowsOf wdC o))) (h0 : o ≠ []) (hlen : o.length ≤ 300) (hw : lnW o)
    (hK : ∀ (q : List Wd) (r : AV) (H' : List Blk), q.Perm o → q.Pairwise (fun a b => cmpL a.acts b.acts ≤ 0) → (∀ m, reify H' (m + 3) r = some (.rs (rowsOf wdC q))) → K r H') :
    CallG Try.prog 54 [.os id o.length] H K := by
  have hid : id < H.length := (List.getElem?_eq_some_iff.1 hb).1
  refine foot_G (pub_G0 (nb := nb) h0 hlen hw) [id] rfl (by simp) (by simpa using hid) (fun j i b hj hbb => ?_) (by simp [rn]) fun r H' _ hk => ?_
  · cases j with
    | zero => simp at hj hbb; subst hj; subst hbb; rw [hb, wd_mB]
    | succ j => simp at hj
  · obtain ⟨q, nb1, nb2, hp, hs, rfl, rfl⟩ := hk
    refine hK q _ _ hp hs fun m => ?_
    simp only [List.map_cons, List.map_nil, wd_mB, putB]
    have e1 : mA (rn [id] H.length) (.os 1 q.length) = .os H.length q.length := by simp [rn]
    rw [e1, reify_os (by simp; exact ⟨rfl, rfl, rfl⟩) (by simp [rowsOf]), wd_reify]
    rfl
end Go.Proofs.Ytkppfaennogcmaa
