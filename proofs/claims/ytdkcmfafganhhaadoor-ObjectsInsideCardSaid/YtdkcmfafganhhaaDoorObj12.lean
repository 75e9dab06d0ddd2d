/- A log without data is the same as itself (the reference's Same). -/
import Derived.Test.YtdkcmfafganhhaaDoorObj11
namespace Go.Proofs.YtdkcmfafganhhaaDoor
set_option linter.unusedSimpArgs false
set_option linter.unusedVariables false
set_option linter.unnecessarySimpa false
set_option linter.unusedSectionVars false
open Go.RowKit
variable [Glob]
set_option maxRecDepth 100000
set_option maxHeartbeats 8000000 in
theorem same11_refl (e : Evt) (h : e.data = []) : Pure Tryd.prog 36 [.agg (evtC e), .agg (evtC e)] (.bool true) := by
  obtain ⟨c, a, r, life, time, data⟩ := e
  subst h
  refine pure_of mixed Tryd.func36 rfl (by kernel_rfl) (of_decide_eq_true rfl) (by kernel_rfl) (vc_run ?_)
  ((try simp -implicitDefEqProofs [-loopQ_n, evtC]) <;> (repeat' (first | (refine condD_dec ?_ ?_ <;> (intro hc; (try simp -implicitDefEqProofs [-loopQ_n, hc, evtC]))) | (refine guardD_dec ?_ ?_ <;> (intro hc; (try simp -implicitDefEqProofs [-loopQ_n, hc, evtC]))) | (refine condD_intro ?_ ?_ <;> (intro hd; have hc := hd; (try simp at hc) <;> (try simp -implicitDefEqProofs [-loopQ_n, hd, hc, evtC]))) | (refine guardD_intro ?_ ?_ <;> (intro hd; have hc := hd; (try simp at hc) <;> (try simp -implicitDefEqProofs [-loopQ_n, hd, hc, evtC]))) | (refine ldD_ep ?_ ?_; (focus kernel_rfl); (try simp -implicitDefEqProofs [-loopQ_n, evtC])))))
  refine loop_intro (σ := Unit) (fun i => ⟨[(2, .op 0 0), (3, .op 1 0), (5, .int .i64 0)], [.box 51 [.str c, .str a, .str r, .int .i64 life, .int .i64 time, .rs []], .box 51 [.str c, .str a, .str r, .int .i64 life, .int .i64 time, .rs []]]⟩)
    (fun _ => True) (fun _ => 0) () trivial ?_ ?_
  · refine weak_of 2 0 rfl rfl ?_ ?_ <;> simp [rowsOf]
  · rintro ⟨⟩ _
    ((try simp -implicitDefEqProofs [-loopQ_n]) <;> (repeat' (first | (refine condD_dec ?_ ?_ <;> (intro hc; (try simp -implicitDefEqProofs [-loopQ_n, hc]))) | (refine guardD_dec ?_ ?_ <;> (intro hc; (try simp -implicitDefEqProofs [-loopQ_n, hc]))) | (refine condD_intro ?_ ?_ <;> (intro hd; have hc := hd; (try simp at hc) <;> (try simp -implicitDefEqProofs [-loopQ_n, hd, hc]))) | (refine guardD_intro ?_ ?_ <;> (intro hd; have hc := hd; (try simp at hc) <;> (try simp -implicitDefEqProofs [-loopQ_n, hd, hc]))) | (refine ldD_ep ?_ ?_; (focus kernel_rfl); (try simp -implicitDefEqProofs [-loopQ_n])))))
set_option maxHeartbeats 8000000 in
theorem same12_refl (l : List Evt) (hl : l.length ≤ 9223372036854775807) (h : ∀ e ∈ l, e.data = []) : Pure Tryd.prog 12 [.agg [.rs (rowsOf evtC l)], .agg [.rs (rowsOf evtC l)]] (.bool true) := by
  refine pure_of mixed Tryd.func12 rfl (by kernel_rfl) (of_decide_eq_true rfl) (by kernel_rfl) (vc_run ?_)
  ((try simp -implicitDefEqProofs [-loopQ_n]) <;> (repeat' (first | (refine condD_dec ?_ ?_ <;> (intro hc; (try simp -implicitDefEqProofs [-loopQ_n, hc]))) | (refine guardD_dec ?_ ?_ <;> (intro hc; (try simp -implicitDefEqProofs [-loopQ_n, hc]))) | (refine condD_intro ?_ ?_ <;> (intro hd; have hc := hd; (try simp at hc) <;> (try simp -implicitDefEqProofs [-loopQ_n, hd, hc]))) | (refine guardD_intro ?_ ?_ <;> (intro hd; have hc := hd; (try simp at hc) <;> (try simp -implicitDefEqProofs [-loopQ_n, hd, hc]))) | (refine ldD_ep ?_ ?_; (focus kernel_rfl); (try simp -implicitDefEqProofs [-loopQ_n])))))
  refine loop_intro (σ := Nat) (fun i => ⟨[(2, .op 0 0), (3, .op 1 0), (5, .int .i64 i)], [.box 33 [.rs (rowsOf evtC l)], .box 33 [.rs (rowsOf evtC l)]]⟩)
    (fun i => i ≤ l.length) (fun i => l.length - i) 0 (by simp) ?_ ?_
  · refine weak_of 2 0 rfl rfl ?_ ?_ <;> simp
  · rintro i hi
    by_cases g : i < l.length
    · have w1 := w_succ g (by omega)
      have hd := h _ (List.getElem_mem g)
      obtain ⟨e, he⟩ : ∃ e, l[i] = e := ⟨_, rfl⟩
      rw [he] at hd
      ((try simp -implicitDefEqProofs [-loopQ_n, g, he, evtC_len]) <;> (repeat' (first | (refine condD_dec ?_ ?_ <;> (intro hc; (try simp -implicitDefEqProofs [-loopQ_n, hc, g, he, evtC_len]))) | (refine guardD_dec ?_ ?_ <;> (intro hc; (try simp -implicitDefEqProofs [-loopQ_n, hc, g, he, evtC_len]))) | (refine condD_intro ?_ ?_ <;> (intro hd; have hc := hd; (try simp at hc) <;> (try simp -implicitDefEqProofs [-loopQ_n, hd, hc, g, he, evtC_len]))) | (refine guardD_intro ?_ ?_ <;> (intro hd; have hc := hd; (try simp at hc) <;> (try simp -implicitDefEqProofs [-loopQ_n, hd, hc, g, he, evtC_len]))) | (refine ldD_ep ?_ ?_; (focus kernel_rfl); (try simp -implicitDefEqProofs [-loopQ_n, g, he, evtC_len])) | (refine callS_mk ?_; (try simp -implicitDefEqProofs [-loopQ_n, g, he, evtC_len]); (first | refine callS_intro (same11_refl _ hd) (.inl rfl) ?_); (try simp -implicitDefEqProofs [-loopQ_n, g, he, evtC_len])))))
      refine loop_next (i + 1) (by omega) (by omega) (weak_of 2 0 rfl rfl ?_ ?_) <;> simp [w1]
    · ((try simp -implicitDefEqProofs [-loopQ_n, g]) <;> (repeat' (first | (refine condD_dec ?_ ?_ <;> (intro hc; (try simp -implicitDefEqProofs [-loopQ_n, hc, g]))) | (refine guardD_dec ?_ ?_ <;> (intro hc; (try simp -implicitDefEqProofs [-loopQ_n, hc, g]))) | (refine condD_intro ?_ ?_ <;> (intro hd; have hc := hd; (try simp at hc) <;> (try simp -implicitDefEqProofs [-loopQ_n, hd, hc, g]))) | (refine guardD_intro ?_ ?_ <;> (intro hd; have hc := hd; (try simp at hc) <;> (try simp -implicitDefEqProofs [-loopQ_n, hd, hc, g]))) | (refine ldD_ep ?_ ?_; (focus kernel_rfl); (try simp -implicitDefEqProofs [-loopQ_n, g])))))
end Go.Proofs.YtdkcmfafganhhaaDoor
