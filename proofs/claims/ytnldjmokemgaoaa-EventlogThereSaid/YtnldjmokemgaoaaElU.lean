/- Traces one by one; strings in lists. -/
import Derived.Test.YtnldjmokemgaoaaElT
import Derived.Test.YtnldjmokemgaoaaElW
import Derived.Test.YtnldjmokemgaoaaAbFrz
namespace Go.Proofs.Ytnldjmokemgaoaa
set_option linter.unusedSimpArgs false
set_option linter.unusedVariables false
set_option linter.unnecessarySimpa false
set_option linter.unusedSectionVars false
open Go.RowKit
variable [Glob]
set_option maxRecDepth 100000
def trC (l : List Evt) (c : ByteArray) : List AV := [.str c, .rs (rowsOf strC (wordL l c))]
theorem trC_eq (l : List Evt) : (fun c => [.str c, .rs (rowsOf strC ((alook (trL l) c).getD []))]) = trC l := by
  funext c
  have := wd_word l c
  unfold wd at this
  rw [this]; rfl
theorem contains_pure (l : List ByteArray) (x : ByteArray) (hl : l.length ≤ 9223372036854775807) : Pure Try.prog 29 [.rs (rowsOf strC l), .str x] (.bool (hasB l x)) := by
  refine pure_of mixed Try.func29 rfl (by kernel_rfl) (of_decide_eq_true rfl) (by kernel_rfl) (vc_run ?_)
  by_cases h : x ∈ l
  · have h1 := idxS_yes h
    have h2 : 0 ≤ idxS l x := by omega
    rw [hasB_iff.2 h]
    ((try simp -implicitDefEqProofs [-loopQ_n, h2]) <;> (repeat' (first | (refine condD_dec ?_ ?_ <;> (intro hc; (try simp -implicitDefEqProofs [-loopQ_n, hc, h2]))) | (refine guardD_dec ?_ ?_ <;> (intro hc; (try simp -implicitDefEqProofs [-loopQ_n, hc, h2]))) | (refine condD_intro ?_ ?_ <;> (intro hd; have hc := hd; (try simp at hc) <;> (try simp -implicitDefEqProofs [-loopQ_n, hd, hc, h2]))) | (refine guardD_intro ?_ ?_ <;> (intro hd; have hc := hd; (try simp at hc) <;> (try simp -implicitDefEqProofs [-loopQ_n, hd, hc, h2]))) | (refine ldD_ep ?_ ?_; (focus kernel_rfl); (try simp -implicitDefEqProofs [-loopQ_n, h2])) | (refine callS_mk ?_; (try simp -implicitDefEqProofs [-loopQ_n, h2]); (first | refine callS_intro (index_pure l x hl) (.inl rfl) ?_); (try simp -implicitDefEqProofs [-loopQ_n, h2])))))
  · have h1 := idxS_no h
    have h2 : hasB l x = false := by
      cases q : hasB l x with
      | false => rfl
      | true => exact absurd (hasB_iff.1 q) h
    rw [h2]
    ((try simp -implicitDefEqProofs [-loopQ_n, h1]) <;> (repeat' (first | (refine condD_dec ?_ ?_ <;> (intro hc; (try simp -implicitDefEqProofs [-loopQ_n, hc, h1]))) | (refine guardD_dec ?_ ?_ <;> (intro hc; (try simp -implicitDefEqProofs [-loopQ_n, hc, h1]))) | (refine condD_intro ?_ ?_ <;> (intro hd; have hc := hd; (try simp at hc) <;> (try simp -implicitDefEqProofs [-loopQ_n, hd, hc, h1]))) | (refine guardD_intro ?_ ?_ <;> (intro hd; have hc := hd; (try simp at hc) <;> (try simp -implicitDefEqProofs [-loopQ_n, hd, hc, h1]))) | (refine ldD_ep ?_ ?_; (focus kernel_rfl); (try simp -implicitDefEqProofs [-loopQ_n, h1])) | (refine callS_mk ?_; (try simp -implicitDefEqProofs [-loopQ_n, h1]); (first | refine callS_intro (index_pure l x hl) (.inl rfl) ?_); (try simp -implicitDefEqProofs [-loopQ_n, h1])))))
/-- Traces that are the same, one by one. -/
theorem thsame_pure (l : List Evt) (c : ByteArray) (hl : l.length ≤ 2000) : Pure Try.prog 24 [.agg (trC l c), .agg (trC l c)] (.bool true) := by
  have hw := word_len l c
  have hE := eqS_pure (wordL l c) (wordL l c) (by omega) (by omega)
  rw [decide_eq_true rfl] at hE
  refine pure_of mixed Try.func24 rfl (by kernel_rfl) (of_decide_eq_true rfl) (by kernel_rfl) (vc_run ?_)
  ((try simp -implicitDefEqProofs [-loopQ_n, trC]) <;> (repeat' (first | (refine condD_dec ?_ ?_ <;> (intro hc; (try simp -implicitDefEqProofs [-loopQ_n, hc, trC]))) | (refine guardD_dec ?_ ?_ <;> (intro hc; (try simp -implicitDefEqProofs [-loopQ_n, hc, trC]))) | (refine condD_intro ?_ ?_ <;> (intro hd; have hc := hd; (try simp at hc) <;> (try simp -implicitDefEqProofs [-loopQ_n, hd, hc, trC]))) | (refine guardD_intro ?_ ?_ <;> (intro hd; have hc := hd; (try simp at hc) <;> (try simp -implicitDefEqProofs [-loopQ_n, hd, hc, trC]))) | (refine ldD_ep ?_ ?_; (focus kernel_rfl); (try simp -implicitDefEqProofs [-loopQ_n, trC])) | (refine callS_mk ?_; (try simp -implicitDefEqProofs [-loopQ_n, trC]); (first | refine callS_intro (hE) (.inl rfl) ?_); (try simp -implicitDefEqProofs [-loopQ_n, trC])))))
theorem theq_pure (l : List Evt) (cs : List ByteArray) (hl : l.length ≤ 2000) (hc : cs.length ≤ 9223372036854775807) : Pure Try.prog 23 [.rs (rowsOf (trC l) cs), .rs (rowsOf (trC l) cs), .fn 24 []] (.bool true) := by
  refine pure_of mixed Try.func23 rfl (by kernel_rfl) (of_decide_eq_true rfl) (by kernel_rfl) (vc_run ?_)
  ((try simp -implicitDefEqProofs [-loopQ_n]) <;> (repeat' (first | (refine condD_dec ?_ ?_ <;> (intro hc; (try simp -implicitDefEqProofs [-loopQ_n, hc]))) | (refine guardD_dec ?_ ?_ <;> (intro hc; (try simp -implicitDefEqProofs [-loopQ_n, hc]))) | (refine condD_intro ?_ ?_ <;> (intro hd; have hc := hd; (try simp at hc) <;> (try simp -implicitDefEqProofs [-loopQ_n, hd, hc]))) | (refine guardD_intro ?_ ?_ <;> (intro hd; have hc := hd; (try simp at hc) <;> (try simp -implicitDefEqProofs [-loopQ_n, hd, hc]))) | (refine ldD_ep ?_ ?_; (focus kernel_rfl); (try simp -implicitDefEqProofs [-loopQ_n])))))
  refine loop_intro (σ := Nat) (fun i => ⟨[(1, .rs (rowsOf (trC l) cs)), (2, .fn 24 []), (15, .rs (rowsOf (trC l) cs)), (16, .int .i64 cs.length), (17, .int .i64 i)], []⟩) (fun i => i ≤ cs.length) (fun i => cs.length - i) 0 (by omega) ?_ ?_
  · refine weak_of 0 0 rfl rfl ?_ ?_ <;> simp
  rintro i hi
  by_cases h : i < cs.length
  · have w1 := sw_suc h (by omega)
    ((try simp -implicitDefEqProofs [-loopQ_n, h, w1, trC]) <;> (repeat' (first | (refine condD_dec ?_ ?_ <;> (intro hc; (try simp -implicitDefEqProofs [-loopQ_n, hc, h, w1, trC]))) | (refine guardD_dec ?_ ?_ <;> (intro hc; (try simp -implicitDefEqProofs [-loopQ_n, hc, h, w1, trC]))) | (refine condD_intro ?_ ?_ <;> (intro hd; have hc := hd; (try simp at hc) <;> (try simp -implicitDefEqProofs [-loopQ_n, hd, hc, h, w1, trC]))) | (refine guardD_intro ?_ ?_ <;> (intro hd; have hc := hd; (try simp at hc) <;> (try simp -implicitDefEqProofs [-loopQ_n, hd, hc, h, w1, trC]))) | (refine ldD_ep ?_ ?_; (focus kernel_rfl); (try simp -implicitDefEqProofs [-loopQ_n, h, w1, trC])) | (refine callS_mk ?_; (try simp -implicitDefEqProofs [-loopQ_n, h, w1, trC]); (first | refine callS_intro (thsame_pure l cs[i] hl) (.inl rfl) ?_); (try simp -implicitDefEqProofs [-loopQ_n, h, w1, trC])))))
    refine loop_next (i + 1) h (by omega) (weak_of 0 0 rfl rfl ?_ ?_) <;> simp
  · ((try simp -implicitDefEqProofs [-loopQ_n, h]) <;> (repeat' (first | (refine condD_dec ?_ ?_ <;> (intro hc; (try simp -implicitDefEqProofs [-loopQ_n, hc, h]))) | (refine guardD_dec ?_ ?_ <;> (intro hc; (try simp -implicitDefEqProofs [-loopQ_n, hc, h]))) | (refine condD_intro ?_ ?_ <;> (intro hd; have hc := hd; (try simp at hc) <;> (try simp -implicitDefEqProofs [-loopQ_n, hd, hc, h]))) | (refine guardD_intro ?_ ?_ <;> (intro hd; have hc := hd; (try simp at hc) <;> (try simp -implicitDefEqProofs [-loopQ_n, hd, hc, h]))) | (refine ldD_ep ?_ ?_; (focus kernel_rfl); (try simp -implicitDefEqProofs [-loopQ_n, h])))))
theorem th2_pure (fr : List ByteArray) (e : Evt) (hl : fr.length ≤ 9223372036854775807) : Pure Try.prog 28 [.agg (evtC e), .rp [.rs (rowsOf strC fr)]] (.bool (hasB fr e.act)) := by
  obtain ⟨c, a, r, life, time, data⟩ := e
  refine pure_of mixed Try.func28 rfl (by kernel_rfl) (of_decide_eq_true rfl) (by kernel_rfl) (vc_run ?_)
  ((try simp -implicitDefEqProofs [-loopQ_n, evtC]) <;> (repeat' (first | (refine condD_dec ?_ ?_ <;> (intro hc; (try simp -implicitDefEqProofs [-loopQ_n, hc, evtC]))) | (refine guardD_dec ?_ ?_ <;> (intro hc; (try simp -implicitDefEqProofs [-loopQ_n, hc, evtC]))) | (refine condD_intro ?_ ?_ <;> (intro hd; have hc := hd; (try simp at hc) <;> (try simp -implicitDefEqProofs [-loopQ_n, hd, hc, evtC]))) | (refine guardD_intro ?_ ?_ <;> (intro hd; have hc := hd; (try simp at hc) <;> (try simp -implicitDefEqProofs [-loopQ_n, hd, hc, evtC]))) | (refine ldD_ep ?_ ?_; (focus kernel_rfl); (try simp -implicitDefEqProofs [-loopQ_n, evtC])) | (refine callS_mk ?_; (try simp -implicitDefEqProofs [-loopQ_n, evtC]); (first | refine callS_intro (contains_pure fr a hl) (.inl rfl) ?_); (try simp -implicitDefEqProofs [-loopQ_n, evtC])))))
end Go.Proofs.Ytnldjmokemgaoaa
