/- Divergence: the walks. -/
import Derived.Test.YtdkcmfafganhhaaDoorObj8
namespace Go.Proofs.YtdkcmfafganhhaaDoor
set_option linter.unusedSimpArgs false
set_option linter.unusedVariables false
set_option linter.unnecessarySimpa false
set_option linter.unusedSectionVars false
open Go.RowKit
variable [Glob]
set_option maxRecDepth 100000
def lastM (l : List Obj) (t : ByteArray) (i : Nat) (seen : List Rf) (es : List (Rf × Int)) : Prop := ∀ r, r.a.toList = t.toList → alook es r = if r ∈ seen then some (i : Int) else Option.map (fun j : Nat => (j : Int)) (prevR l r i)
set_option maxHeartbeats 8000000 in
theorem odiv_pure (l : List Obj) (t : ByteArray) : Pure Tryd.prog 21 [.agg [.rs (rowsOf objC l)], .str t] (.tup [.int .i64 (divOut l t).1, .int .i64 (divOut l t).2]) := by
  refine pure_of mixed Tryd.func21 rfl (by kernel_rfl) (of_decide_eq_true rfl) (by kernel_rfl) (vc_run ?_)
  ((try simp -implicitDefEqProofs [-loopQ_n, divOut]) <;> (repeat' (first | (refine condD_dec ?_ ?_ <;> (intro hc; (try simp -implicitDefEqProofs [-loopQ_n, hc, divOut]))) | (refine guardD_dec ?_ ?_ <;> (intro hc; (try simp -implicitDefEqProofs [-loopQ_n, hc, divOut]))) | (refine condD_intro ?_ ?_ <;> (intro hd; have hc := hd; (try simp at hc) <;> (try simp -implicitDefEqProofs [-loopQ_n, hd, hc, divOut]))) | (refine guardD_intro ?_ ?_ <;> (intro hd; have hc := hd; (try simp at hc) <;> (try simp -implicitDefEqProofs [-loopQ_n, hd, hc, divOut]))) | (refine ldD_ep ?_ ?_; (focus kernel_rfl); (try simp -implicitDefEqProofs [-loopQ_n, divOut])) | (refine callS_mk ?_; (try simp -implicitDefEqProofs [-loopQ_n, divOut]); (first | refine callS_intro (ovalid_pure _) (.inl rfl) ?_ | refine callS_intro (isName_pure _) (.inl rfl) ?_); (try simp -implicitDefEqProofs [-loopQ_n, divOut])))))
  have hV := ‹objV l = true›
  have hsm := objV_small hV
  have hbd := divS_le hsm t
  have hln := hsm.1
  refine loop_intro (σ := Nat × Nat × List (Rf × Int)) (fun x => ⟨[(1, .str t), (2, .op 0 0), (6, .int .i64 x.2.1), (7, .mp 1), (24, .rs (rowsOf objC l)), (25, .int .i64 l.length), (26, .int .i64 x.1)], [.box 24 [.rs (rowsOf objC l)], .map (mE rfK iV x.2.2)]⟩)
    (fun x => x.1 ≤ l.length ∧ x.2.1 = divS l t x.1 ∧ lastM l t x.1 [] x.2.2) (fun x => l.length - x.1) (0, 0, []) ⟨by simp, by simp [divS], fun r _ => by simp [alook_nil, prevR]⟩ ?_ ?_
  · refine weak_of 2 0 rfl rfl ?_ ?_ <;> simp [mE, refsM]
  · rintro ⟨i, n, es⟩ ⟨hi, hn, hM⟩
    simp only at hi hn hM
    by_cases h : i < l.length
    · have w1 := w_succ h (by omega)
      have hgo : l[i]? = some l[i] := List.getElem?_eq_getElem h
      obtain ⟨⟨act, time, refs⟩, hf⟩ : ∃ e, l[i] = e := ⟨_, rfl⟩
      have hl : refs.length ≤ 20 := by have := hsm.2 _ (List.getElem_mem h); rw [hf] at this; exact this
      have hat : refsAt l i = refs := by simp [refsAt, hgo, hf]
      have hbi := hbd (i + 1)
      have hdi : divS l t (i + 1) = divS l t i + divE l i refs (ofL refs t) := by simp [divS, hat]
      have hnd : (ofL refs t).Nodup := (refsB_nodup (by rw [← hat]; exact objV_refs hV i)).filter _
      have hol : (ofL refs t).length ≤ refs.length := List.length_filter_le _ _
      ((try simp -implicitDefEqProofs [-loopQ_n, h, hf, objC]) <;> (repeat' (first | (refine condD_dec ?_ ?_ <;> (intro hc; (try simp -implicitDefEqProofs [-loopQ_n, hc, h, hf, objC]))) | (refine guardD_dec ?_ ?_ <;> (intro hc; (try simp -implicitDefEqProofs [-loopQ_n, hc, h, hf, objC]))) | (refine condD_intro ?_ ?_ <;> (intro hd; have hc := hd; (try simp at hc) <;> (try simp -implicitDefEqProofs [-loopQ_n, hd, hc, h, hf, objC]))) | (refine guardD_intro ?_ ?_ <;> (intro hd; have hc := hd; (try simp at hc) <;> (try simp -implicitDefEqProofs [-loopQ_n, hd, hc, h, hf, objC]))) | (refine ldD_ep ?_ ?_; (focus kernel_rfl); (try simp -implicitDefEqProofs [-loopQ_n, h, hf, objC])) | (refine callS_mk ?_; (try simp -implicitDefEqProofs [-loopQ_n, h, hf, objC]); (first | refine callS_intro (oof_pure _ _ _ _ hl) (.inr ⟨rfl, rfl⟩) ?_); (try simp -implicitDefEqProofs [-loopQ_n, h, hf, objC])))))
      refine loop_intro (σ := Nat × Nat × List (Rf × Int)) (fun x => ⟨[(1, .str t), (2, .op 0 0), (6, .int .i64 x.2.1), (7, .mp 1), (8, .int .i64 i), (9, .op 2 0), (24, .rs (rowsOf objC l)), (25, .int .i64 l.length), (26, .int .i64 i), (33, .rs (rowsOf refC (ofL refs t))), (34, .int .i64 (ofL refs t).length), (35, .int .i64 x.1)], [.box 24 [.rs (rowsOf objC l)], .map (mE rfK iV x.2.2), .box 48 [.str act, .int .i64 time, .rs (rowsOf refC refs)]]⟩)
        (fun x => x.1 ≤ (ofL refs t).length ∧ x.2.1 + divE l i refs ((ofL refs t).drop x.1) = divS l t (i + 1) ∧ lastM l t i ((ofL refs t).take x.1) x.2.2) (fun x => (ofL refs t).length - x.1) (0, n, es) ⟨by simp, by simp [hdi, hn], by simpa using hM⟩ ?_ ?_
      · refine weak_of 3 0 rfl rfl ?_ ?_ <;> simp [-refsM, rf_refs, refs_refsR]
      · rintro ⟨k, n, es⟩ ⟨hk, hn, hM⟩
        simp only at hk hn hM
        by_cases g : k < (ofL refs t).length
        · have w2 := w_succ g (by omega)
          obtain ⟨⟨a, b⟩, hr⟩ : ∃ e, (ofL refs t)[k] = e := ⟨_, rfl⟩
          have hmem : (⟨a, b⟩ : Rf) ∈ ofL refs t := by rw [← hr]; exact List.getElem_mem g
          have hat2 := (ofL_mem.1 hmem).2
          have hnew : (⟨a, b⟩ : Rf) ∉ (ofL refs t).take k := fun q => by
            obtain ⟨j, hj, he⟩ := List.mem_take_iff_getElem.1 q
            have := (List.getElem_inj hnd).1 (he.trans hr.symm)
            omega
          have hlk := hM ⟨a, b⟩ hat2
          rw [if_neg hnew] at hlk
          rw [List.drop_eq_getElem_cons g, hr, divE] at hn
          have hM2 : lastM l t i ((ofL refs t).take (k + 1)) (aput es ⟨a, b⟩ i) := fun r hrt => by
            rw [alook_put, hM r hrt, List.take_succ_eq_append_getElem g, hr]
            by_cases q : (⟨a, b⟩ : Rf) = r
            · subst q; simp
            · have q' : ¬ r = ⟨a, b⟩ := fun e => q e.symm
              simp [q, q']
          cases hfd : afind ⟨a, b⟩ es 0 with
          | none =>
            have hpn : prevR l ⟨a, b⟩ i = none := by
              cases hp : prevR l ⟨a, b⟩ i with
              | none => rfl
              | some j => rw [hp] at hlk; simp [alook, hfd] at hlk
            have hd0 : divN l i refs ⟨a, b⟩ = 0 := by simp [divN, hpn]
            ((try simp -implicitDefEqProofs [-loopQ_n, g, hr, refC, mf_rf, hfd]) <;> (repeat' (first | (refine condD_dec ?_ ?_ <;> (intro hc; (try simp -implicitDefEqProofs [-loopQ_n, hc, g, hr, refC, mf_rf, hfd]))) | (refine guardD_dec ?_ ?_ <;> (intro hc; (try simp -implicitDefEqProofs [-loopQ_n, hc, g, hr, refC, mf_rf, hfd]))) | (refine condD_intro ?_ ?_ <;> (intro hd; have hc := hd; (try simp at hc) <;> (try simp -implicitDefEqProofs [-loopQ_n, hd, hc, g, hr, refC, mf_rf, hfd]))) | (refine guardD_intro ?_ ?_ <;> (intro hd; have hc := hd; (try simp at hc) <;> (try simp -implicitDefEqProofs [-loopQ_n, hd, hc, g, hr, refC, mf_rf, hfd]))) | (refine ldD_ep ?_ ?_; (focus kernel_rfl); (try simp -implicitDefEqProofs [-loopQ_n, g, hr, refC, mf_rf, hfd])))))
            refine loop_next (k + 1, n, aput es ⟨a, b⟩ i) ⟨by simp only; omega, by simp only; omega, hM2⟩ (by simp only; omega) (weak_of 3 0 rfl rfl ?_ ?_) <;> simp [-refsM, rf_refs, w2, mp_none hfd, refs_refsR]
          | some e =>
            obtain ⟨p, v⟩ := e
            obtain ⟨j, hp, rfl⟩ : ∃ j, prevR l ⟨a, b⟩ i = some j ∧ v = (j : Int) := by
              cases hp : prevR l ⟨a, b⟩ i with
              | none => rw [hp] at hlk; simp [alook, hfd] at hlk
              | some j => rw [hp] at hlk; simp [alook, hfd] at hlk; exact ⟨j, rfl, hlk⟩
            obtain ⟨hji, ⟨act2, time2, refs2⟩, hj, -⟩ := prevR_lt l _ i j hp
            have hl2 : refs2.length ≤ 20 := hsm.2 _ (List.mem_of_getElem? hj)
            have hatj : refsAt l j = refs2 := by simp [refsAt, hj]
            have hdv : divN l i refs ⟨a, b⟩ = if refs2.any (othR refs ⟨a, b⟩) = true then 0 else 1 := by simp [divN, hp, hatj]
            ((try simp -implicitDefEqProofs [-loopQ_n, g, hr, refC, mf_rf, hfd, iV, hj, objC]) <;> (repeat' (first | (refine condD_dec ?_ ?_ <;> (intro hc; (try simp -implicitDefEqProofs [-loopQ_n, hc, g, hr, refC, mf_rf, hfd, iV, hj, objC]))) | (refine guardD_dec ?_ ?_ <;> (intro hc; (try simp -implicitDefEqProofs [-loopQ_n, hc, g, hr, refC, mf_rf, hfd, iV, hj, objC]))) | (refine condD_intro ?_ ?_ <;> (intro hd; have hc := hd; (try simp at hc) <;> (try simp -implicitDefEqProofs [-loopQ_n, hd, hc, g, hr, refC, mf_rf, hfd, iV, hj, objC]))) | (refine guardD_intro ?_ ?_ <;> (intro hd; have hc := hd; (try simp at hc) <;> (try simp -implicitDefEqProofs [-loopQ_n, hd, hc, g, hr, refC, mf_rf, hfd, iV, hj, objC]))) | (refine ldD_ep ?_ ?_; (focus kernel_rfl); (try simp -implicitDefEqProofs [-loopQ_n, g, hr, refC, mf_rf, hfd, iV, hj, objC])) | (refine callS_mk ?_; (try simp -implicitDefEqProofs [-loopQ_n, g, hr, refC, mf_rf, hfd, iV, hj, objC]); (first | refine callS_intro (ocommon_pure _ _ _ _ _ _ _ _ hl2 hl) (.inl rfl) ?_); (try simp -implicitDefEqProofs [-loopQ_n, g, hr, refC, mf_rf, hfd, iV, hj, objC])))))
            · have hd0 : divN l i refs ⟨a, b⟩ = 0 := by rw [hdv, if_pos ‹_›]
              refine loop_next (k + 1, n, aput es ⟨a, b⟩ i) ⟨by simp only; omega, by simp only; omega, hM2⟩ (by simp only; omega) (weak_of 3 0 rfl rfl ?_ ?_) <;> simp [-refsM, rf_refs, w2, mp_some hfd, refs_refsR]
            · have hd1 : divN l i refs ⟨a, b⟩ = 1 := by rw [hdv, if_neg (by rw [‹List.any _ _ = false›]; simp)]
              have w3 : wrapI .i64 ((n : Int) + 1) = ((n + 1 : Nat) : Int) := by rw [wrap_in (by omega) (by omega)]; omega
              refine loop_next (k + 1, n + 1, aput es ⟨a, b⟩ i) ⟨by simp only; omega, by simp only; omega, hM2⟩ (by simp only; omega) (weak_of 3 0 rfl rfl ?_ ?_) <;> simp [-refsM, rf_refs, w2, w3, mp_some hfd, refs_refsR]
        · rw [List.drop_eq_nil_of_le (by omega), divE] at hn
          ((try simp -implicitDefEqProofs [-loopQ_n, g]) <;> (repeat' (first | (refine condD_dec ?_ ?_ <;> (intro hc; (try simp -implicitDefEqProofs [-loopQ_n, hc, g]))) | (refine guardD_dec ?_ ?_ <;> (intro hc; (try simp -implicitDefEqProofs [-loopQ_n, hc, g]))) | (refine condD_intro ?_ ?_ <;> (intro hd; have hc := hd; (try simp at hc) <;> (try simp -implicitDefEqProofs [-loopQ_n, hd, hc, g]))) | (refine guardD_intro ?_ ?_ <;> (intro hd; have hc := hd; (try simp at hc) <;> (try simp -implicitDefEqProofs [-loopQ_n, hd, hc, g]))) | (refine ldD_ep ?_ ?_; (focus kernel_rfl); (try simp -implicitDefEqProofs [-loopQ_n, g])))))
          refine loop_next (i + 1, n, es) ⟨by simp only; omega, by simp only; omega, ?_⟩ (by simp only; omega) (weak_of 2 0 rfl rfl ?_ ?_)
          · intro r hrt
            have := hM r hrt
            rw [List.take_of_length_le (by omega)] at this
            simp only [this, List.not_mem_nil, if_false, prevR, hgo, hf, ofL_mem, hrt, and_true]
            by_cases q : r ∈ refs <;> simp [q]
          · simp [w1]
          · simp [-refsM, rf_refs]
    · ((try simp -implicitDefEqProofs [-loopQ_n, h]) <;> (repeat' (first | (refine condD_dec ?_ ?_ <;> (intro hc; (try simp -implicitDefEqProofs [-loopQ_n, hc, h]))) | (refine guardD_dec ?_ ?_ <;> (intro hc; (try simp -implicitDefEqProofs [-loopQ_n, hc, h]))) | (refine condD_intro ?_ ?_ <;> (intro hd; have hc := hd; (try simp at hc) <;> (try simp -implicitDefEqProofs [-loopQ_n, hd, hc, h]))) | (refine guardD_intro ?_ ?_ <;> (intro hd; have hc := hd; (try simp at hc) <;> (try simp -implicitDefEqProofs [-loopQ_n, hd, hc, h]))) | (refine ldD_ep ?_ ?_; (focus kernel_rfl); (try simp -implicitDefEqProofs [-loopQ_n, h])))))
      have : i = l.length := by omega
      rw [hn, this]
end Go.Proofs.YtdkcmfafganhhaaDoor
