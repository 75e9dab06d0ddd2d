/- Spans: copies, equality, the other way round; whether a minute is in some span. -/
import Derived.Test.YtfbpjlabhckoeaaSpnY
namespace Go.Proofs.Ytfbpjlabhckoeaa
set_option linter.unusedSimpArgs false
set_option linter.unusedVariables false
set_option linter.unnecessarySimpa false
set_option linter.unusedSectionVars false
open Go.RowKit
variable [Glob]
set_option maxRecDepth 100000
instance decSp : DecidableEq Sp := fun a b => decidable_of_iff (a.f = b.f ∧ a.t = b.t) ⟨fun h => by cases a; cases b; simp at h; simp [h], fun h => by rw [h]; exact ⟨rfl, rfl⟩⟩
theorem cloneSp_G (l : List Sp) (hl : l.length ≤ 1073741824) {H : List Blk} {K : AV → List Blk → Prop} (hK : ∀ nb, K (.os H.length l.length) (H ++ [.row 62 nb (rowsOf spC l)])) : CallG Try.prog 35 [.rs (rowsOf spC l)] H K := by
  by_cases h0 : l = []
  · subst h0; exact cloneSp0_G hK
  · have hlf : ((rowsOf spC l).all fun r => r.all flat) = true := rowsOf_flat fun x => by simp [spC, flat]
    have := fresh_callE («as» := [.rs (rowsOf spC l)]) (H := H) (cloneSp_fresh l h0 hl) (by simp) (.inl hlf)
    rw [rowsOf_length] at this
    exact callE_G this (hK false)
set_option maxHeartbeats 8000000 in
theorem eqSp_pure (a b : List Sp) (ha : a.length ≤ 9223372036854775807) (hb : b.length ≤ 9223372036854775807) : Pure Try.prog 37 [.rs (rowsOf spC a), .rs (rowsOf spC b)] (.bool (decide (a = b))) := by
  by_cases hlen : a.length = b.length
  rotate_left
  · have hne : ¬ a = b := fun e => hlen (by rw [e])
    have hl2 : ¬ (a.length : Int) = b.length := by omega
    rw [decide_eq_false hne]
    refine pure_of mixed Try.func37 rfl (by kernel_rfl) (of_decide_eq_true rfl) (by kernel_rfl) (vc_run ?_)
    ((try simp -implicitDefEqProofs [-loopQ_n, hl2]) <;> (repeat' (first | (refine condD_dec ?_ ?_ <;> (intro hc; (try simp -implicitDefEqProofs [-loopQ_n, hc, hl2]))) | (refine guardD_dec ?_ ?_ <;> (intro hc; (try simp -implicitDefEqProofs [-loopQ_n, hc, hl2]))) | (refine condD_intro ?_ ?_ <;> (intro hd; have hc := hd; (try simp at hc) <;> (try simp -implicitDefEqProofs [-loopQ_n, hd, hc, hl2]))) | (refine guardD_intro ?_ ?_ <;> (intro hd; have hc := hd; (try simp at hc) <;> (try simp -implicitDefEqProofs [-loopQ_n, hd, hc, hl2]))) | (refine ldD_ep ?_ ?_; (focus kernel_rfl); (try simp -implicitDefEqProofs [-loopQ_n, hl2])))))
  have hl2 : (a.length : Int) = b.length := by omega
  refine pure_of mixed Try.func37 rfl (by kernel_rfl) (of_decide_eq_true rfl) (by kernel_rfl) (vc_run ?_)
  ((try simp -implicitDefEqProofs [-loopQ_n, hl2]) <;> (repeat' (first | (refine condD_dec ?_ ?_ <;> (intro hc; (try simp -implicitDefEqProofs [-loopQ_n, hc, hl2]))) | (refine guardD_dec ?_ ?_ <;> (intro hc; (try simp -implicitDefEqProofs [-loopQ_n, hc, hl2]))) | (refine condD_intro ?_ ?_ <;> (intro hd; have hc := hd; (try simp at hc) <;> (try simp -implicitDefEqProofs [-loopQ_n, hd, hc, hl2]))) | (refine guardD_intro ?_ ?_ <;> (intro hd; have hc := hd; (try simp at hc) <;> (try simp -implicitDefEqProofs [-loopQ_n, hd, hc, hl2]))) | (refine ldD_ep ?_ ?_; (focus kernel_rfl); (try simp -implicitDefEqProofs [-loopQ_n, hl2])))))
  refine loop_intro (σ := Nat) (fun i => ⟨[(0, .rs (rowsOf spC a)), (1, .rs (rowsOf spC b)), (12, .int .i64 b.length), (13, .int .i64 i)], []⟩) (fun i => i ≤ b.length ∧ a.take i = b.take i) (fun i => b.length - i) 0 ⟨by simp, by simp⟩ ?_ ?_
  · refine weak_of 0 0 rfl rfl ?_ ?_ <;> simp [sp_refs]
  rintro i ⟨hi, ht⟩
  by_cases h : i < b.length
  · have h2 : i < a.length := by omega
    have w1 := w_succ' h (by omega)
    have hts : a[i] = b[i] → a.take (i + 1) = b.take (i + 1) := fun e => by rw [List.take_succ_eq_append_getElem h, List.take_succ_eq_append_getElem h2, ht, e]
    have hne : a[i] ≠ b[i] → a ≠ b := fun e q => e (by subst q; rfl)
    obtain ⟨⟨f, t⟩, hf⟩ : ∃ e, a[i] = e := ⟨_, rfl⟩
    obtain ⟨⟨f2, t2⟩, hf2⟩ : ∃ e, b[i] = e := ⟨_, rfl⟩
    rw [hf, hf2] at hts hne
    by_cases c1 : f = f2
    · subst c1
      by_cases c2 : t = t2
      · subst c2
        ((try simp -implicitDefEqProofs [-loopQ_n, h, h2, hf, hf2, spC, w1]) <;> (repeat' (first | (refine condD_dec ?_ ?_ <;> (intro hc; (try simp -implicitDefEqProofs [-loopQ_n, hc, h, h2, hf, hf2, spC, w1]))) | (refine guardD_dec ?_ ?_ <;> (intro hc; (try simp -implicitDefEqProofs [-loopQ_n, hc, h, h2, hf, hf2, spC, w1]))) | (refine condD_intro ?_ ?_ <;> (intro hd; have hc := hd; (try simp at hc) <;> (try simp -implicitDefEqProofs [-loopQ_n, hd, hc, h, h2, hf, hf2, spC, w1]))) | (refine guardD_intro ?_ ?_ <;> (intro hd; have hc := hd; (try simp at hc) <;> (try simp -implicitDefEqProofs [-loopQ_n, hd, hc, h, h2, hf, hf2, spC, w1]))) | (refine ldD_ep ?_ ?_; (focus kernel_rfl); (try simp -implicitDefEqProofs [-loopQ_n, h, h2, hf, hf2, spC, w1])))))
        refine loop_next (i + 1) ⟨h, hts rfl⟩ (by omega) (weak_of 0 0 rfl rfl ?_ ?_) <;> simp [sp_refs]
      · have hne := hne (by simp [c2])
        rw [decide_eq_false hne]
        ((try simp -implicitDefEqProofs [-loopQ_n, h, h2, hf, hf2, spC, w1, c2]) <;> (repeat' (first | (refine condD_dec ?_ ?_ <;> (intro hc; (try simp -implicitDefEqProofs [-loopQ_n, hc, h, h2, hf, hf2, spC, w1, c2]))) | (refine guardD_dec ?_ ?_ <;> (intro hc; (try simp -implicitDefEqProofs [-loopQ_n, hc, h, h2, hf, hf2, spC, w1, c2]))) | (refine condD_intro ?_ ?_ <;> (intro hd; have hc := hd; (try simp at hc) <;> (try simp -implicitDefEqProofs [-loopQ_n, hd, hc, h, h2, hf, hf2, spC, w1, c2]))) | (refine guardD_intro ?_ ?_ <;> (intro hd; have hc := hd; (try simp at hc) <;> (try simp -implicitDefEqProofs [-loopQ_n, hd, hc, h, h2, hf, hf2, spC, w1, c2]))) | (refine ldD_ep ?_ ?_; (focus kernel_rfl); (try simp -implicitDefEqProofs [-loopQ_n, h, h2, hf, hf2, spC, w1, c2])))))
    · have hne := hne (by simp [c1])
      have c1' : (f == f2) = false := by simpa using c1
      rw [decide_eq_false hne]
      ((try simp -implicitDefEqProofs [-loopQ_n, h, h2, hf, hf2, spC, w1, c1']) <;> (repeat' (first | (refine condD_dec ?_ ?_ <;> (intro hc; (try simp -implicitDefEqProofs [-loopQ_n, hc, h, h2, hf, hf2, spC, w1, c1']))) | (refine guardD_dec ?_ ?_ <;> (intro hc; (try simp -implicitDefEqProofs [-loopQ_n, hc, h, h2, hf, hf2, spC, w1, c1']))) | (refine condD_intro ?_ ?_ <;> (intro hd; have hc := hd; (try simp at hc) <;> (try simp -implicitDefEqProofs [-loopQ_n, hd, hc, h, h2, hf, hf2, spC, w1, c1']))) | (refine guardD_intro ?_ ?_ <;> (intro hd; have hc := hd; (try simp at hc) <;> (try simp -implicitDefEqProofs [-loopQ_n, hd, hc, h, h2, hf, hf2, spC, w1, c1']))) | (refine ldD_ep ?_ ?_; (focus kernel_rfl); (try simp -implicitDefEqProofs [-loopQ_n, h, h2, hf, hf2, spC, w1, c1'])))))
  · have hab : a = b := by rw [List.take_of_length_le (by omega), List.take_of_length_le (by omega)] at ht; exact ht
    rw [decide_eq_true hab]
    ((try simp -implicitDefEqProofs [-loopQ_n, h]) <;> (repeat' (first | (refine condD_dec ?_ ?_ <;> (intro hc; (try simp -implicitDefEqProofs [-loopQ_n, hc, h]))) | (refine guardD_dec ?_ ?_ <;> (intro hc; (try simp -implicitDefEqProofs [-loopQ_n, hc, h]))) | (refine condD_intro ?_ ?_ <;> (intro hd; have hc := hd; (try simp at hc) <;> (try simp -implicitDefEqProofs [-loopQ_n, hd, hc, h]))) | (refine guardD_intro ?_ ?_ <;> (intro hd; have hc := hd; (try simp at hc) <;> (try simp -implicitDefEqProofs [-loopQ_n, hd, hc, h]))) | (refine ldD_ep ?_ ?_; (focus kernel_rfl); (try simp -implicitDefEqProofs [-loopQ_n, h])))))
/-- Half turned. -/
def RevI (l M : List Sp) (i : Nat) : Prop := M.length = l.length ∧ ∀ k, k < l.length → M[k]? = if k < i ∨ l.length - i ≤ k then l[l.length - 1 - k]? else l[k]?
theorem rev_end {l M : List Sp} {i : Nat} (h : RevI l M i) (hi : l.length ≤ 2 * i + 1) : M = l.reverse := by
  refine List.ext_getElem? fun k => ?_
  by_cases hk : k < l.length
  · rw [h.2 k hk, List.getElem?_reverse hk]
    split
    · rfl
    · rename_i q
      rw [show l.length - 1 - k = k by omega]
  · rw [List.getElem?_eq_none (by rw [h.1]; omega), List.getElem?_eq_none (by simp; omega)]
theorem rev_step {l M : List Sp} {i : Nat} {x y : Sp} (h : RevI l M i) (hi : 2 * i + 1 < l.length) (hx : M[i]? = some x) (hy : M[l.length - 1 - i]? = some y) : RevI l ((M.set i y).set (l.length - 1 - i) x) (i + 1) := by
  have hxl := h.2 i (by omega)
  have hyl := h.2 (l.length - 1 - i) (by omega)
  rw [if_neg (by omega), hx] at hxl
  rw [if_neg (by omega), hy] at hyl
  refine ⟨by simp [h.1], fun k hk => ?_⟩
  rw [List.getElem?_set, List.getElem?_set]
  have hM := h.1
  by_cases e1 : l.length - 1 - i = k
  · subst e1
    rw [if_pos rfl, if_pos (by simp; omega), if_pos (by omega), show l.length - 1 - (l.length - 1 - i) = i by omega, hxl]
  · rw [if_neg e1]
    by_cases e2 : i = k
    · subst e2
      rw [if_pos rfl, if_pos (by omega), if_pos (by omega), hyl]
    · rw [if_neg e2, h.2 k hk]
      by_cases q : k < i ∨ l.length - i ≤ k
      · rw [if_pos q, if_pos (by omega)]
      · rw [if_neg q, if_neg (by omega)]
set_option maxHeartbeats 8000000 in
theorem rev_G (nb : Bool) (l : List Sp) (hl : l.length ≤ 1000000) : CallG Try.prog 36 [.os 0 l.length] [.row 62 nb (rowsOf spC l)] fun r H => r = .tup [] ∧ H = [.row 62 nb (rowsOf spC l.reverse)] := by
  have w0 : wrapI .i64 ((l.length : Int) - 1) = (l.length : Int) - 1 := wrap_in (by omega) (by omega)
  refine inl_G mixed Try.func36 rfl (by kernel_rfl) (of_decide_eq_true rfl) (by kernel_rfl) (vc_run ?_)
  ((try simp -implicitDefEqProofs [-loopQ_n, w0]) <;> (repeat' (first | (refine condD_dec ?_ ?_ <;> (intro hc; (try simp -implicitDefEqProofs [-loopQ_n, hc, w0]))) | (refine guardD_dec ?_ ?_ <;> (intro hc; (try simp -implicitDefEqProofs [-loopQ_n, hc, w0]))) | (refine condD_intro ?_ ?_ <;> (intro hd; have hc := hd; (try simp at hc) <;> (try simp -implicitDefEqProofs [-loopQ_n, hd, hc, w0]))) | (refine guardD_intro ?_ ?_ <;> (intro hd; have hc := hd; (try simp at hc) <;> (try simp -implicitDefEqProofs [-loopQ_n, hd, hc, w0]))) | (refine ldD_ep ?_ ?_; (focus kernel_rfl); (try simp -implicitDefEqProofs [-loopQ_n, w0])))))
  refine loop_intro (σ := Nat × List Sp) (fun x => ⟨[(0, .os 0 l.length), (2, .int .i64 x.1), (3, .int .i64 ((l.length : Int) - 1 - x.1))], [.row 62 nb (rowsOf spC x.2)]⟩) (fun x => 2 * x.1 ≤ l.length + 1 ∧ RevI l x.2 x.1) (fun x => l.length - x.1) (0, l) ⟨by simp, rfl, fun k hk => by rw [if_neg (by omega)]⟩ ?_ ?_
  · refine weak_ofL 1 0 (by simp) (by simp) rfl ?_ ?_ <;> simp [sp_refs]
  rintro ⟨i, M⟩ ⟨hi, hM⟩
  simp only at hi hM
  by_cases h : 2 * i + 1 < l.length
  · have c1 : (i : Int) < (l.length : Int) - 1 - i := by omega
    have hMl := hM.1
    obtain ⟨j, hj⟩ : ∃ j, l.length - 1 - i = j := ⟨_, rfl⟩
    have hji : (l.length : Int) - 1 - i = j := by omega
    have hil : i < M.length := by omega
    have hjl : j < M.length := by omega
    obtain ⟨⟨f, t⟩, hx⟩ : ∃ e, M[i] = e := ⟨_, rfl⟩
    obtain ⟨⟨f2, t2⟩, hy⟩ : ∃ e, M[j] = e := ⟨_, rfl⟩
    have hst := rev_step hM h (x := ⟨f, t⟩) (y := ⟨f2, t2⟩) (by rw [List.getElem?_eq_getElem hil, hx]) (by rw [hj, List.getElem?_eq_getElem hjl, hy])
    rw [hj] at hst
    have hil2 : i < l.length := by omega
    have hjl2 : j < l.length := by omega
    have w1 : wrapI .i64 ((i : Int) + 1) = ((i + 1 : Nat) : Int) := by rw [wrap_in (by omega) (by omega)]; omega
    have w2 : wrapI .i64 ((j : Int) - 1) = (l.length : Int) - 1 - ((i + 1 : Nat) : Int) := by rw [wrap_in (by omega) (by omega)]; omega
    rw [hji] at c1
    rw [hji]
    ((try simp -implicitDefEqProofs [-loopQ_n, c1, hMl, hil, hjl, hil2, hjl2, hx, hy, spC, w1, w2, spU_set]) <;> (repeat' (first | (refine condD_dec ?_ ?_ <;> (intro hc; (try simp -implicitDefEqProofs [-loopQ_n, hc, c1, hMl, hil, hjl, hil2, hjl2, hx, hy, spC, w1, w2, spU_set]))) | (refine guardD_dec ?_ ?_ <;> (intro hc; (try simp -implicitDefEqProofs [-loopQ_n, hc, c1, hMl, hil, hjl, hil2, hjl2, hx, hy, spC, w1, w2, spU_set]))) | (refine condD_intro ?_ ?_ <;> (intro hd; have hc := hd; (try simp at hc) <;> (try simp -implicitDefEqProofs [-loopQ_n, hd, hc, c1, hMl, hil, hjl, hil2, hjl2, hx, hy, spC, w1, w2, spU_set]))) | (refine guardD_intro ?_ ?_ <;> (intro hd; have hc := hd; (try simp at hc) <;> (try simp -implicitDefEqProofs [-loopQ_n, hd, hc, c1, hMl, hil, hjl, hil2, hjl2, hx, hy, spC, w1, w2, spU_set]))) | (refine ldD_ep ?_ ?_; (focus kernel_rfl); (try simp -implicitDefEqProofs [-loopQ_n, c1, hMl, hil, hjl, hil2, hjl2, hx, hy, spC, w1, w2, spU_set])))))
    refine loop_next (i + 1, (M.set i ⟨f2, t2⟩).set j ⟨f, t⟩) ⟨by simp only; omega, hst⟩ (by simp only; omega) (weak_ofL 1 0 (by simp) (by simp) rfl ?_ ?_) <;> simp [sp_refs]
  · have c1 : ¬ (i : Int) < (l.length : Int) - 1 - i := by omega
    have he := rev_end hM (by omega)
    ((try simp -implicitDefEqProofs [-loopQ_n, c1]) <;> (repeat' (first | (refine condD_dec ?_ ?_ <;> (intro hc; (try simp -implicitDefEqProofs [-loopQ_n, hc, c1]))) | (refine guardD_dec ?_ ?_ <;> (intro hc; (try simp -implicitDefEqProofs [-loopQ_n, hc, c1]))) | (refine condD_intro ?_ ?_ <;> (intro hd; have hc := hd; (try simp at hc) <;> (try simp -implicitDefEqProofs [-loopQ_n, hd, hc, c1]))) | (refine guardD_intro ?_ ?_ <;> (intro hd; have hc := hd; (try simp at hc) <;> (try simp -implicitDefEqProofs [-loopQ_n, hd, hc, c1]))) | (refine ldD_ep ?_ ?_; (focus kernel_rfl); (try simp -implicitDefEqProofs [-loopQ_n, c1])))))
    exact endG_n (.tup []) (by simp) ⟨rfl, by rw [he]⟩
theorem in1_pure (s : Sp) (t : Int) : Pure Try.prog 40 [.agg (spC s), .rp [.int .i64 t]] (.bool (inS t s)) := by
  obtain ⟨f, u⟩ := s
  refine pure_of mixed Try.func40 rfl (by kernel_rfl) (of_decide_eq_true rfl) (by kernel_rfl) (vc_run ?_)
  ((try simp -implicitDefEqProofs [-loopQ_n, spC]) <;> (repeat' (first | (refine condD_dec ?_ ?_ <;> (intro hc; (try simp -implicitDefEqProofs [-loopQ_n, hc, spC]))) | (refine guardD_dec ?_ ?_ <;> (intro hc; (try simp -implicitDefEqProofs [-loopQ_n, hc, spC]))) | (refine condD_intro ?_ ?_ <;> (intro hd; have hc := hd; (try simp at hc) <;> (try simp -implicitDefEqProofs [-loopQ_n, hd, hc, spC]))) | (refine guardD_intro ?_ ?_ <;> (intro hd; have hc := hd; (try simp at hc) <;> (try simp -implicitDefEqProofs [-loopQ_n, hd, hc, spC]))) | (refine ldD_ep ?_ ?_; (focus kernel_rfl); (try simp -implicitDefEqProofs [-loopQ_n, spC])))))
  all_goals simp [inS, *]
theorem inU_pure (l : List Sp) (t : Int) (hl : l.length ≤ 9223372036854775807) : Pure Try.prog 38 [.rs (rowsOf spC l), .int .i64 t] (.bool (openW t l)) := by
  have hA := spu_any (p := inS t) (l := l) (g := 40) (caps := [.rp [.int .i64 t]]) (fun x _ => in1_pure x t) (fun H k => by simp) (by simp [refs]) hl
  refine pure_of mixed Try.func38 rfl (by kernel_rfl) (of_decide_eq_true rfl) (by kernel_rfl) (vc_run ?_)
  ((try simp -implicitDefEqProofs [-loopQ_n]) <;> (repeat' (first | (refine condD_dec ?_ ?_ <;> (intro hc; (try simp -implicitDefEqProofs [-loopQ_n, hc]))) | (refine guardD_dec ?_ ?_ <;> (intro hc; (try simp -implicitDefEqProofs [-loopQ_n, hc]))) | (refine condD_intro ?_ ?_ <;> (intro hd; have hc := hd; (try simp at hc) <;> (try simp -implicitDefEqProofs [-loopQ_n, hd, hc]))) | (refine guardD_intro ?_ ?_ <;> (intro hd; have hc := hd; (try simp at hc) <;> (try simp -implicitDefEqProofs [-loopQ_n, hd, hc]))) | (refine ldD_ep ?_ ?_; (focus kernel_rfl); (try simp -implicitDefEqProofs [-loopQ_n])) | (refine callS_mk ?_; (try simp -implicitDefEqProofs [-loopQ_n]); (first | refine callS_intro (hA) (.inl rfl) ?_); (try simp -implicitDefEqProofs [-loopQ_n])))))
  simp [openW]
end Go.Proofs.Ytfbpjlabhckoeaa
