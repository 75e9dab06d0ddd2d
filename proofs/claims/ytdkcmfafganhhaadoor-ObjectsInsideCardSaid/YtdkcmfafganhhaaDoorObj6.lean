/- Relations and convergence: the program's answers and the reference's. -/
import Derived.Test.YtdkcmfafganhhaaDoorObj5
namespace Go.Proofs.YtdkcmfafganhhaaDoor
set_option linter.unusedSimpArgs false
set_option linter.unusedVariables false
set_option linter.unnecessarySimpa false
set_option linter.unusedSectionVars false
open Go.RowKit
variable [Glob]
set_option maxRecDepth 100000
/-- The bounds so far, after one more event. -/
def relStep (act t : ByteArray) (s : Bool × Int × Int) (o : Obj) : Bool × Int × Int :=
  if o.act.toList = act.toList then
    (true, (if s.1 = false ∨ ((ofL o.refs t).length : Int) < s.2.1 then ((ofL o.refs t).length : Int) else s.2.1), (if ((ofL o.refs t).length : Int) > s.2.2 then ((ofL o.refs t).length : Int) else s.2.2))
  else s
def relR (l : List Obj) (act t : ByteArray) : Bool × Int × Int := l.foldl (relStep act t) (false, 0, 0)
def relOut (l : List Obj) (act t : ByteArray) : (Int × Int) × Int :=
  if objV l = true ∧ isNameS act = true ∧ isNameS t = true then (if (relR l act t).1 = true then ((relR l act t).2, 0) else ((0, 0), 10)) else ((0, 0), 1)
theorem w_succ {i n : Nat} (h : i < n) (hn : n ≤ 9223372036854775807) : wrapI .i64 ((i : Int) + 1) = ((i + 1 : Nat) : Int) := by rw [wrap_in (by omega) (by omega)]; omega
theorem foldl_at {α β : Type} {f : β → α → β} {l : List α} {i : Nat} {b r : β} (h : i < l.length) (hr : (l.drop i).foldl f b = r) : (l.drop (i + 1)).foldl f (f b l[i]) = r := by
  rw [List.drop_eq_getElem_cons h] at hr; exact hr
theorem foldl_end {α β : Type} {f : β → α → β} {l : List α} {i : Nat} {b r : β} (h : ¬ i < l.length) (hr : (l.drop i).foldl f b = r) : b = r := by
  rw [List.drop_eq_nil_of_le (by omega)] at hr; exact hr
set_option maxHeartbeats 8000000 in
theorem orel_pure (l : List Obj) (act t : ByteArray) : Pure Tryd.prog 17 [.agg [.rs (rowsOf objC l)], .str act, .str t] (.tup [.agg [.int .i64 (relOut l act t).1.1, .int .i64 (relOut l act t).1.2, .bool false], .int .i64 (relOut l act t).2]) := by
  refine pure_of mixed Tryd.func17 rfl (by kernel_rfl) (of_decide_eq_true rfl) (by kernel_rfl) (vc_run ?_)
  ((try simp -implicitDefEqProofs [-loopQ_n, relOut]) <;> (repeat' (first | (refine condD_dec ?_ ?_ <;> (intro hc; (try simp -implicitDefEqProofs [-loopQ_n, hc, relOut]))) | (refine guardD_dec ?_ ?_ <;> (intro hc; (try simp -implicitDefEqProofs [-loopQ_n, hc, relOut]))) | (refine condD_intro ?_ ?_ <;> (intro hd; have hc := hd; (try simp at hc) <;> (try simp -implicitDefEqProofs [-loopQ_n, hd, hc, relOut]))) | (refine guardD_intro ?_ ?_ <;> (intro hd; have hc := hd; (try simp at hc) <;> (try simp -implicitDefEqProofs [-loopQ_n, hd, hc, relOut]))) | (refine ldD_ep ?_ ?_; (focus kernel_rfl); (try simp -implicitDefEqProofs [-loopQ_n, relOut])) | (refine callS_mk ?_; (try simp -implicitDefEqProofs [-loopQ_n, relOut]); (first | refine callS_intro (ovalid_pure _) (.inl rfl) ?_ | refine callS_intro (isName_pure _) (.inl rfl) ?_); (try simp -implicitDefEqProofs [-loopQ_n, relOut])))))
  have hsm := objV_small ‹objV l = true›
  refine loop_intro (σ := Nat × Bool × Int × Int) (fun x => ⟨[(1, .str act), (2, .str t), (6, .op 1 0), (8, .op 2 0), (9, .bool x.2.1), (28, .rs (rowsOf objC l)), (29, .int .i64 l.length), (30, .int .i64 x.1)], [.gone, .box 57 [.int .i64 0, .int .i64 0, .bool false], .box 57 [.int .i64 x.2.2.1, .int .i64 x.2.2.2, .bool false]]⟩)
    (fun x => x.1 ≤ l.length ∧ (x.2.1 = false → x.2.2.2 = 0) ∧ (l.drop x.1).foldl (relStep act t) x.2 = relR l act t) (fun x => l.length - x.1) (0, false, 0, 0) ⟨by simp, by simp, rfl⟩ ?_ ?_
  · refine weak_of 3 0 rfl rfl ?_ ?_ <;> simp
  · rintro ⟨i, b, lo, hg⟩ ⟨hi, hz, hR⟩
    simp only at hi hz hR
    by_cases h : i < l.length
    · have hR := foldl_at h hR
      have w1 := w_succ h (by have := hsm.1; omega)
      obtain ⟨⟨act', time, refs⟩, hf⟩ : ∃ e, l[i] = e := ⟨_, rfl⟩
      have hl := hsm.2 _ (List.getElem_mem h)
      rw [hf] at hR hl
      ((try simp -implicitDefEqProofs [-loopQ_n, h, hf, objC, w1]) <;> (repeat' (first | (refine condD_dec ?_ ?_ <;> (intro hc; (try simp -implicitDefEqProofs [-loopQ_n, hc, h, hf, objC, w1]))) | (refine guardD_dec ?_ ?_ <;> (intro hc; (try simp -implicitDefEqProofs [-loopQ_n, hc, h, hf, objC, w1]))) | (refine condD_intro ?_ ?_ <;> (intro hd; have hc := hd; (try simp at hc) <;> (try simp -implicitDefEqProofs [-loopQ_n, hd, hc, h, hf, objC, w1]))) | (refine guardD_intro ?_ ?_ <;> (intro hd; have hc := hd; (try simp at hc) <;> (try simp -implicitDefEqProofs [-loopQ_n, hd, hc, h, hf, objC, w1]))) | (refine ldD_ep ?_ ?_; (focus kernel_rfl); (try simp -implicitDefEqProofs [-loopQ_n, h, hf, objC, w1])) | (refine callS_mk ?_; (try simp -implicitDefEqProofs [-loopQ_n, h, hf, objC, w1]); (first | refine callS_intro (oof_pure _ _ _ _ hl) (.inr ⟨rfl, rfl⟩) ?_); (try simp -implicitDefEqProofs [-loopQ_n, h, hf, objC, w1])))))
      all_goals refine loop_next ⟨i + 1, relStep act t (b, lo, hg) ⟨act', time, refs⟩⟩ ⟨by omega, by (clear hR; simp_all [relStep]), hR⟩ (by simp only; omega) (weak_of 3 0 rfl rfl ?_ ?_)
      all_goals (clear hR; simp [relStep, *]; try (intro q; simp [q]))
    · have hR := foldl_end h hR
      ((try simp -implicitDefEqProofs [-loopQ_n, h]) <;> (repeat' (first | (refine condD_dec ?_ ?_ <;> (intro hc; (try simp -implicitDefEqProofs [-loopQ_n, hc, h]))) | (refine guardD_dec ?_ ?_ <;> (intro hc; (try simp -implicitDefEqProofs [-loopQ_n, hc, h]))) | (refine condD_intro ?_ ?_ <;> (intro hd; have hc := hd; (try simp at hc) <;> (try simp -implicitDefEqProofs [-loopQ_n, hd, hc, h]))) | (refine guardD_intro ?_ ?_ <;> (intro hd; have hc := hd; (try simp at hc) <;> (try simp -implicitDefEqProofs [-loopQ_n, hd, hc, h]))) | (refine ldD_ep ?_ ?_; (focus kernel_rfl); (try simp -implicitDefEqProofs [-loopQ_n, h]))))) <;> rw [← hR] <;> simp_all
/-- How much the events converge. -/
def conL (t : ByteArray) : List Obj → Nat
  | [] => 0
  | o :: r => ((ofL o.refs t).length - 1) + conL t r
theorem conL_bd (t : ByteArray) : ∀ l : List Obj, (∀ o ∈ l, o.refs.length ≤ 20) → conL t l ≤ l.length * 20 := by
  intro l
  induction l with
  | nil => intro _; simp [conL]
  | cons o r ih =>
    intro h
    have h1 := h o (by simp)
    have h2 : (ofL o.refs t).length ≤ o.refs.length := List.length_filter_le _ _
    have h3 := ih fun q hq => h q (by simp [hq])
    simp only [conL, List.length_cons]
    omega
def conOut (l : List Obj) (t : ByteArray) : Int × Int := if objV l = true ∧ isNameS t = true then ((conL t l : Nat), 0) else (0, 1)
set_option maxHeartbeats 8000000 in
theorem ocon_pure (l : List Obj) (t : ByteArray) : Pure Tryd.prog 20 [.agg [.rs (rowsOf objC l)], .str t] (.tup [.int .i64 (conOut l t).1, .int .i64 (conOut l t).2]) := by
  refine pure_of mixed Tryd.func20 rfl (by kernel_rfl) (of_decide_eq_true rfl) (by kernel_rfl) (vc_run ?_)
  ((try simp -implicitDefEqProofs [-loopQ_n, conOut]) <;> (repeat' (first | (refine condD_dec ?_ ?_ <;> (intro hc; (try simp -implicitDefEqProofs [-loopQ_n, hc, conOut]))) | (refine guardD_dec ?_ ?_ <;> (intro hc; (try simp -implicitDefEqProofs [-loopQ_n, hc, conOut]))) | (refine condD_intro ?_ ?_ <;> (intro hd; have hc := hd; (try simp at hc) <;> (try simp -implicitDefEqProofs [-loopQ_n, hd, hc, conOut]))) | (refine guardD_intro ?_ ?_ <;> (intro hd; have hc := hd; (try simp at hc) <;> (try simp -implicitDefEqProofs [-loopQ_n, hd, hc, conOut]))) | (refine ldD_ep ?_ ?_; (focus kernel_rfl); (try simp -implicitDefEqProofs [-loopQ_n, conOut])) | (refine callS_mk ?_; (try simp -implicitDefEqProofs [-loopQ_n, conOut]); (first | refine callS_intro (ovalid_pure _) (.inl rfl) ?_ | refine callS_intro (isName_pure _) (.inl rfl) ?_); (try simp -implicitDefEqProofs [-loopQ_n, conOut])))))
  have hsm := objV_small ‹objV l = true›
  have hbd := conL_bd t l hsm.2
  have hln := hsm.1
  refine loop_intro (σ := Nat × Nat) (fun x => ⟨[(1, .str t), (6, .int .i64 x.2), (18, .rs (rowsOf objC l)), (19, .int .i64 l.length), (20, .int .i64 x.1)], []⟩)
    (fun x => x.1 ≤ l.length ∧ x.2 + conL t (l.drop x.1) = conL t l) (fun x => l.length - x.1) (0, 0) ⟨by simp, by simp⟩ ?_ ?_
  · refine weak_of 0 0 rfl rfl ?_ ?_ <;> simp
  · rintro ⟨i, n⟩ ⟨hi, hR⟩
    simp only at hi hR
    by_cases h : i < l.length
    · rw [List.drop_eq_getElem_cons h, conL] at hR
      have w1 := w_succ h (by omega)
      obtain ⟨⟨act', time, refs⟩, hf⟩ : ∃ e, l[i] = e := ⟨_, rfl⟩
      have hl := hsm.2 _ (List.getElem_mem h)
      rw [hf] at hR hl
      simp only at hR hl
      have w2 : wrapI .i64 (((ofL refs t).length : Int) - 1) = ((ofL refs t).length : Int) - 1 := wrap_in (by omega) (by have : (ofL refs t).length ≤ refs.length := List.length_filter_le _ _; omega)
      have w3 : wrapI .i64 ((n : Int) + if 1 < ((ofL refs t).length : Int) then ((ofL refs t).length : Int) - 1 else 0) = ((n + ((ofL refs t).length - 1) : Nat) : Int) := by rw [wrap_in (by split <;> omega) (by split <;> omega)]; split <;> omega
      ((try simp -implicitDefEqProofs [-loopQ_n, h, hf, objC, w1, w2, w3]) <;> (repeat' (first | (refine condD_dec ?_ ?_ <;> (intro hc; (try simp -implicitDefEqProofs [-loopQ_n, hc, h, hf, objC, w1, w2, w3]))) | (refine guardD_dec ?_ ?_ <;> (intro hc; (try simp -implicitDefEqProofs [-loopQ_n, hc, h, hf, objC, w1, w2, w3]))) | (refine condD_intro ?_ ?_ <;> (intro hd; have hc := hd; (try simp at hc) <;> (try simp -implicitDefEqProofs [-loopQ_n, hd, hc, h, hf, objC, w1, w2, w3]))) | (refine guardD_intro ?_ ?_ <;> (intro hd; have hc := hd; (try simp at hc) <;> (try simp -implicitDefEqProofs [-loopQ_n, hd, hc, h, hf, objC, w1, w2, w3]))) | (refine ldD_ep ?_ ?_; (focus kernel_rfl); (try simp -implicitDefEqProofs [-loopQ_n, h, hf, objC, w1, w2, w3])) | (refine callS_mk ?_; (try simp -implicitDefEqProofs [-loopQ_n, h, hf, objC, w1, w2, w3]); (first | refine callS_intro (oof_pure _ _ _ _ hl) (.inr ⟨rfl, rfl⟩) ?_); (try simp -implicitDefEqProofs [-loopQ_n, h, hf, objC, w1, w2, w3])))))
      refine loop_next ⟨i + 1, n + ((ofL refs t).length - 1)⟩ ⟨by simp only; omega, by simp only; omega⟩ (by simp only; omega) (weak_of 0 0 rfl rfl ?_ ?_) <;> simp
    · rw [List.drop_eq_nil_of_le (by omega)] at hR
      ((try simp -implicitDefEqProofs [-loopQ_n, h]) <;> (repeat' (first | (refine condD_dec ?_ ?_ <;> (intro hc; (try simp -implicitDefEqProofs [-loopQ_n, hc, h]))) | (refine guardD_dec ?_ ?_ <;> (intro hc; (try simp -implicitDefEqProofs [-loopQ_n, hc, h]))) | (refine condD_intro ?_ ?_ <;> (intro hd; have hc := hd; (try simp at hc) <;> (try simp -implicitDefEqProofs [-loopQ_n, hd, hc, h]))) | (refine guardD_intro ?_ ?_ <;> (intro hd; have hc := hd; (try simp at hc) <;> (try simp -implicitDefEqProofs [-loopQ_n, hd, hc, h]))) | (refine ldD_ep ?_ ?_; (focus kernel_rfl); (try simp -implicitDefEqProofs [-loopQ_n, h])))))
      simp [conL] at hR
      simp [hR, *]
end Go.Proofs.YtdkcmfafganhhaaDoor
