/- The reference's Merge, Select, Rename, Shift. -/
import Derived.Test.YtnldjmokemgaoaaGreatMrg
import Derived.Test.YtnldjmokemgaoaaGreatEl3
namespace Go.Proofs.YtnldjmokemgaoaaGreat
set_option linter.unusedSimpArgs false
set_option linter.unusedVariables false
set_option linter.unnecessarySimpa false
set_option linter.unusedSectionVars false
open Go.RowKit
variable [Glob]
open Stab
set_option maxRecDepth 100000
theorem evt_snoc {acc : List Evt} {c a r : ByteArray} {life time : Int} {data : List Fld} : rowsOf evtC acc ++ [[.str c, .str a, .str r, .int .i64 life, .int .i64 time, .rs (rowsOf fldC data)]] = rowsOf evtC (acc ++ [⟨c, a, r, life, time, data⟩]) := by simp only [rowsOf, List.map_append, List.map_cons, List.map_nil, evtC]
set_option maxHeartbeats 16000000 in
theorem rmerge_pure (a b : List Evt) (ha : a.length ≤ 9223372036854775807) (hb : b.length ≤ 9223372036854775807) : Pure Tryz.prog 19 [.agg [.rs (rowsOf evtC a)], .agg [.rs (rowsOf evtC b)]] (logO (mergeR a b)) := by
  refine pure_of mixed Tryz.func19 rfl (by kernel_rfl) (of_decide_eq_true rfl) (by kernel_rfl) (vc_run ?_)
  by_cases hV : logV a = true
  rotate_left
  · rw [mergeR, if_neg (fun q => hV q.1)]
    have hV : logV a = false := by simpa using hV
    ((try simp -implicitDefEqProofs [-loopQ_n, hV, logO, rowsOf_nil]) <;> (repeat' (first | (refine condD_dec ?_ ?_ <;> (intro hc; (try simp -implicitDefEqProofs [-loopQ_n, hc, hV, logO, rowsOf_nil]))) | (refine guardD_dec ?_ ?_ <;> (intro hc; (try simp -implicitDefEqProofs [-loopQ_n, hc, hV, logO, rowsOf_nil]))) | (refine condD_intro ?_ ?_ <;> (intro hd; have hc := hd; (try simp at hc) <;> (try simp -implicitDefEqProofs [-loopQ_n, hd, hc, hV, logO, rowsOf_nil]))) | (refine guardD_intro ?_ ?_ <;> (intro hd; have hc := hd; (try simp at hc) <;> (try simp -implicitDefEqProofs [-loopQ_n, hd, hc, hV, logO, rowsOf_nil]))) | (refine ldD_ep ?_ ?_; (focus kernel_rfl); (try simp -implicitDefEqProofs [-loopQ_n, hV, logO, rowsOf_nil])) | (refine callS_mk ?_; (try simp -implicitDefEqProofs [-loopQ_n, hV, logO, rowsOf_nil]); (first | refine callS_intro (rlog_pure a) (.inl rfl) ?_); (try simp -implicitDefEqProofs [-loopQ_n, hV, logO, rowsOf_nil])))))
  by_cases hW : logV b = true
  rotate_left
  · rw [mergeR, if_neg (fun q => hW q.2)]
    have hW : logV b = false := by simpa using hW
    ((try simp -implicitDefEqProofs [-loopQ_n, hV, hW, logO, rowsOf_nil]) <;> (repeat' (first | (refine condD_dec ?_ ?_ <;> (intro hc; (try simp -implicitDefEqProofs [-loopQ_n, hc, hV, hW, logO, rowsOf_nil]))) | (refine guardD_dec ?_ ?_ <;> (intro hc; (try simp -implicitDefEqProofs [-loopQ_n, hc, hV, hW, logO, rowsOf_nil]))) | (refine condD_intro ?_ ?_ <;> (intro hd; have hc := hd; (try simp at hc) <;> (try simp -implicitDefEqProofs [-loopQ_n, hd, hc, hV, hW, logO, rowsOf_nil]))) | (refine guardD_intro ?_ ?_ <;> (intro hd; have hc := hd; (try simp at hc) <;> (try simp -implicitDefEqProofs [-loopQ_n, hd, hc, hV, hW, logO, rowsOf_nil]))) | (refine ldD_ep ?_ ?_; (focus kernel_rfl); (try simp -implicitDefEqProofs [-loopQ_n, hV, hW, logO, rowsOf_nil])) | (refine callS_mk ?_; (try simp -implicitDefEqProofs [-loopQ_n, hV, hW, logO, rowsOf_nil]); (first | refine callS_intro (rlog_pure a) (.inl rfl) ?_ | refine callS_intro (rlog_pure b) (.inl rfl) ?_); (try simp -implicitDefEqProofs [-loopQ_n, hV, hW, logO, rowsOf_nil])))))
  rw [mergeR, if_pos ⟨hV, hW⟩]
  have hla := log_lenE hV
  have hlb := log_lenE hW
  obtain ⟨n, hn⟩ : ∃ n, a.length + b.length = n := ⟨_, rfl⟩
  have w0 : wrapI .i64 ((a.length : Int) + b.length) = (n : Nat) := by rw [wrap_in (by omega) (by omega)]; omega
  rw [hn]
  by_cases h1 : 2000 < n
  · rw [if_pos h1]
    have h1' : (2000 : Int) < (n : Int) := by omega
    ((try simp -implicitDefEqProofs [-loopQ_n, hV, hW, logO, rowsOf_nil, w0, h1']) <;> (repeat' (first | (refine condD_dec ?_ ?_ <;> (intro hc; (try simp -implicitDefEqProofs [-loopQ_n, hc, hV, hW, logO, rowsOf_nil, w0, h1']))) | (refine guardD_dec ?_ ?_ <;> (intro hc; (try simp -implicitDefEqProofs [-loopQ_n, hc, hV, hW, logO, rowsOf_nil, w0, h1']))) | (refine condD_intro ?_ ?_ <;> (intro hd; have hc := hd; (try simp at hc) <;> (try simp -implicitDefEqProofs [-loopQ_n, hd, hc, hV, hW, logO, rowsOf_nil, w0, h1']))) | (refine guardD_intro ?_ ?_ <;> (intro hd; have hc := hd; (try simp at hc) <;> (try simp -implicitDefEqProofs [-loopQ_n, hd, hc, hV, hW, logO, rowsOf_nil, w0, h1']))) | (refine ldD_ep ?_ ?_; (focus kernel_rfl); (try simp -implicitDefEqProofs [-loopQ_n, hV, hW, logO, rowsOf_nil, w0, h1'])) | (refine callS_mk ?_; (try simp -implicitDefEqProofs [-loopQ_n, hV, hW, logO, rowsOf_nil, w0, h1']); (first | refine callS_intro (rlog_pure a) (.inl rfl) ?_ | refine callS_intro (rlog_pure b) (.inl rfl) ?_); (try simp -implicitDefEqProofs [-loopQ_n, hV, hW, logO, rowsOf_nil, w0, h1'])))))
  rw [if_neg h1]
  have h1' : ¬ (2000 : Int) < (n : Int) := by omega
  obtain ⟨R, hRR⟩ : ∃ R, mrgG ltE a b = R := ⟨_, rfl⟩
  rw [hRR]
  ((try simp -implicitDefEqProofs [-loopQ_n, hV, hW, w0, h1']) <;> (repeat' (first | (refine condD_dec ?_ ?_ <;> (intro hc; (try simp -implicitDefEqProofs [-loopQ_n, hc, hV, hW, w0, h1']))) | (refine guardD_dec ?_ ?_ <;> (intro hc; (try simp -implicitDefEqProofs [-loopQ_n, hc, hV, hW, w0, h1']))) | (refine condD_intro ?_ ?_ <;> (intro hd; have hc := hd; (try simp at hc) <;> (try simp -implicitDefEqProofs [-loopQ_n, hd, hc, hV, hW, w0, h1']))) | (refine guardD_intro ?_ ?_ <;> (intro hd; have hc := hd; (try simp at hc) <;> (try simp -implicitDefEqProofs [-loopQ_n, hd, hc, hV, hW, w0, h1']))) | (refine ldD_ep ?_ ?_; (focus kernel_rfl); (try simp -implicitDefEqProofs [-loopQ_n, hV, hW, w0, h1'])) | (refine callS_mk ?_; (try simp -implicitDefEqProofs [-loopQ_n, hV, hW, w0, h1']); (first | refine callS_intro (rlog_pure a) (.inl rfl) ?_ | refine callS_intro (rlog_pure b) (.inl rfl) ?_); (try simp -implicitDefEqProofs [-loopQ_n, hV, hW, w0, h1'])))))
  refine loop_intro (σ := Nat × Nat × List Evt) (fun x => ⟨[(2, .op 0 0), (3, .op 1 0), (4, .op 2 0), (6, .op 3 0), (7, .int .i64 x.1), (8, .int .i64 x.2.1)], [.box 24 [.rs (rowsOf evtC a)], .box 24 [.rs (rowsOf evtC b)], .box 24 [.nils], .box 24 [.os 4 x.2.2.length], .row 57 true (rowsOf evtC x.2.2)]⟩)
    (fun x => x.1 ≤ a.length ∧ x.2.1 ≤ b.length ∧ x.2.2.length ≤ n ∧ x.2.2 ++ mrgG ltE (a.drop x.1) (b.drop x.2.1) = R) (fun x => (a.length - x.1) + (b.length - x.2.1)) (0, 0, []) ⟨by simp, by simp, by simp, by simpa using hRR⟩ ?_ ?_
  · refine weak_of 4 1 rfl rfl ?_ ?_ <;> simp
  rintro ⟨i, k, acc⟩ ⟨hi, hk, hal, hR⟩
  simp only at hi hk hal hR
  have hlR : acc.length + ((a.length - i) + (b.length - k)) = R.length := by rw [← hR, List.length_append, mrgG_len, List.length_drop, List.length_drop]
  have hRn : R.length = n := by rw [← hRR, mrgG_len, hn]
  have w1 : wrapI .i64 ((i : Int) + 1) = (i : Int) + 1 := wrap_in (by omega) (by omega)
  have w2 : wrapI .i64 ((k : Int) + 1) = (k : Int) + 1 := wrap_in (by omega) (by omega)
  have hlen : acc.length ≤ 1073741823 := by omega
  by_cases h : i < a.length
  · obtain ⟨⟨c, ac, r, life, time, data⟩, hf⟩ : ∃ e, a[i] = e := ⟨_, rfl⟩
    by_cases g : k < b.length
    · have g' : ¬ (k : Int) = (b.length : Int) := by omega
      obtain ⟨⟨c', ac', r', life', time', data'⟩, hf'⟩ : ∃ e, b[k] = e := ⟨_, rfl⟩
      rw [List.drop_eq_getElem_cons h, List.drop_eq_getElem_cons g, hf, hf', mrgG] at hR
      by_cases hle : time ≤ time'
      · have hlt : ltE ⟨c', ac', r', life', time', data'⟩ ⟨c, ac, r, life, time, data⟩ = false := by simp only [ltE, decide_eq_false_iff_not]; omega
        rw [hlt, if_neg (by simp)] at hR
        rw [← hf', ← List.drop_eq_getElem_cons g] at hR
        ((try simp -implicitDefEqProofs [-loopQ_n, h, g, g', hf, hf', evtC, hle, hlen, w1, evt_snoc]) <;> (repeat' (first | (refine condD_dec ?_ ?_ <;> (intro hc; (try simp -implicitDefEqProofs [-loopQ_n, hc, h, g, g', hf, hf', evtC, hle, hlen, w1, evt_snoc]))) | (refine guardD_dec ?_ ?_ <;> (intro hc; (try simp -implicitDefEqProofs [-loopQ_n, hc, h, g, g', hf, hf', evtC, hle, hlen, w1, evt_snoc]))) | (refine condD_intro ?_ ?_ <;> (intro hd; have hc := hd; (try simp at hc) <;> (try simp -implicitDefEqProofs [-loopQ_n, hd, hc, h, g, g', hf, hf', evtC, hle, hlen, w1, evt_snoc]))) | (refine guardD_intro ?_ ?_ <;> (intro hd; have hc := hd; (try simp at hc) <;> (try simp -implicitDefEqProofs [-loopQ_n, hd, hc, h, g, g', hf, hf', evtC, hle, hlen, w1, evt_snoc]))) | (refine ldD_ep ?_ ?_; (focus kernel_rfl); (try simp -implicitDefEqProofs [-loopQ_n, h, g, g', hf, hf', evtC, hle, hlen, w1, evt_snoc])))))
        refine loop_next (i + 1, k, acc ++ [⟨c, ac, r, life, time, data⟩]) ⟨by simp only; omega, hk, by simp; omega, by simp only; rw [← hR]; simp⟩ (by simp only; omega) (weak_of 5 0 rfl rfl ?_ ?_) <;> simp [w1, evt_refs]
      · have hlt : ltE ⟨c', ac', r', life', time', data'⟩ ⟨c, ac, r, life, time, data⟩ = true := by simp only [ltE, decide_eq_true_eq]; omega
        rw [hlt, if_pos rfl] at hR
        rw [← hf, ← List.drop_eq_getElem_cons h] at hR
        ((try simp -implicitDefEqProofs [-loopQ_n, h, g, g', hf, hf', evtC, hle, hlen, w2, evt_snoc]) <;> (repeat' (first | (refine condD_dec ?_ ?_ <;> (intro hc; (try simp -implicitDefEqProofs [-loopQ_n, hc, h, g, g', hf, hf', evtC, hle, hlen, w2, evt_snoc]))) | (refine guardD_dec ?_ ?_ <;> (intro hc; (try simp -implicitDefEqProofs [-loopQ_n, hc, h, g, g', hf, hf', evtC, hle, hlen, w2, evt_snoc]))) | (refine condD_intro ?_ ?_ <;> (intro hd; have hc := hd; (try simp at hc) <;> (try simp -implicitDefEqProofs [-loopQ_n, hd, hc, h, g, g', hf, hf', evtC, hle, hlen, w2, evt_snoc]))) | (refine guardD_intro ?_ ?_ <;> (intro hd; have hc := hd; (try simp at hc) <;> (try simp -implicitDefEqProofs [-loopQ_n, hd, hc, h, g, g', hf, hf', evtC, hle, hlen, w2, evt_snoc]))) | (refine ldD_ep ?_ ?_; (focus kernel_rfl); (try simp -implicitDefEqProofs [-loopQ_n, h, g, g', hf, hf', evtC, hle, hlen, w2, evt_snoc])))))
        refine loop_next (i, k + 1, acc ++ [⟨c', ac', r', life', time', data'⟩]) ⟨hi, by simp only; omega, by simp; omega, by simp only; rw [← hR]; simp⟩ (by simp only; omega) (weak_of 5 0 rfl rfl ?_ ?_) <;> simp [w2, evt_refs]
    · have g' : k = b.length := by omega
      subst g'
      rw [List.drop_length, mrgG_nil, List.drop_eq_getElem_cons h, hf] at hR
      ((try simp -implicitDefEqProofs [-loopQ_n, h, g, hf, evtC, hlen, w1, evt_snoc]) <;> (repeat' (first | (refine condD_dec ?_ ?_ <;> (intro hc; (try simp -implicitDefEqProofs [-loopQ_n, hc, h, g, hf, evtC, hlen, w1, evt_snoc]))) | (refine guardD_dec ?_ ?_ <;> (intro hc; (try simp -implicitDefEqProofs [-loopQ_n, hc, h, g, hf, evtC, hlen, w1, evt_snoc]))) | (refine condD_intro ?_ ?_ <;> (intro hd; have hc := hd; (try simp at hc) <;> (try simp -implicitDefEqProofs [-loopQ_n, hd, hc, h, g, hf, evtC, hlen, w1, evt_snoc]))) | (refine guardD_intro ?_ ?_ <;> (intro hd; have hc := hd; (try simp at hc) <;> (try simp -implicitDefEqProofs [-loopQ_n, hd, hc, h, g, hf, evtC, hlen, w1, evt_snoc]))) | (refine ldD_ep ?_ ?_; (focus kernel_rfl); (try simp -implicitDefEqProofs [-loopQ_n, h, g, hf, evtC, hlen, w1, evt_snoc])))))
      refine loop_next (i + 1, b.length, acc ++ [⟨c, ac, r, life, time, data⟩]) ⟨by simp only; omega, hk, by simp; omega, by simp only; rw [List.drop_length, mrgG_nil, ← hR]; simp⟩ (by simp only; omega) (weak_of 5 0 rfl rfl ?_ ?_) <;> simp [w1, evt_refs]
  · have h' : i = a.length := by omega
    subst h'
    rw [List.drop_length] at hR
    by_cases g : k < b.length
    · have g' : ¬ (k : Int) = (b.length : Int) := by omega
      obtain ⟨⟨c', ac', r', life', time', data'⟩, hf'⟩ : ∃ e, b[k] = e := ⟨_, rfl⟩
      rw [List.drop_eq_getElem_cons g, hf', mrgG] at hR
      ((try simp -implicitDefEqProofs [-loopQ_n, h, g, g', hf', evtC, hlen, w2, evt_snoc]) <;> (repeat' (first | (refine condD_dec ?_ ?_ <;> (intro hc; (try simp -implicitDefEqProofs [-loopQ_n, hc, h, g, g', hf', evtC, hlen, w2, evt_snoc]))) | (refine guardD_dec ?_ ?_ <;> (intro hc; (try simp -implicitDefEqProofs [-loopQ_n, hc, h, g, g', hf', evtC, hlen, w2, evt_snoc]))) | (refine condD_intro ?_ ?_ <;> (intro hd; have hc := hd; (try simp at hc) <;> (try simp -implicitDefEqProofs [-loopQ_n, hd, hc, h, g, g', hf', evtC, hlen, w2, evt_snoc]))) | (refine guardD_intro ?_ ?_ <;> (intro hd; have hc := hd; (try simp at hc) <;> (try simp -implicitDefEqProofs [-loopQ_n, hd, hc, h, g, g', hf', evtC, hlen, w2, evt_snoc]))) | (refine ldD_ep ?_ ?_; (focus kernel_rfl); (try simp -implicitDefEqProofs [-loopQ_n, h, g, g', hf', evtC, hlen, w2, evt_snoc])))))
      refine loop_next (a.length, k + 1, acc ++ [⟨c', ac', r', life', time', data'⟩]) ⟨hi, by simp only; omega, by simp; omega, by simp only; rw [List.drop_length, mrgG, ← hR]; simp⟩ (by simp only; omega) (weak_of 5 0 rfl rfl ?_ ?_) <;> simp [w2, evt_refs]
    · have g' : k = b.length := by omega
      subst g'
      rw [List.drop_length, mrgG, List.append_nil] at hR
      subst hR
      ((try simp -implicitDefEqProofs [-loopQ_n, h, g, logO, evt_reify]) <;> (repeat' (first | (refine condD_dec ?_ ?_ <;> (intro hc; (try simp -implicitDefEqProofs [-loopQ_n, hc, h, g, logO, evt_reify]))) | (refine guardD_dec ?_ ?_ <;> (intro hc; (try simp -implicitDefEqProofs [-loopQ_n, hc, h, g, logO, evt_reify]))) | (refine condD_intro ?_ ?_ <;> (intro hd; have hc := hd; (try simp at hc) <;> (try simp -implicitDefEqProofs [-loopQ_n, hd, hc, h, g, logO, evt_reify]))) | (refine guardD_intro ?_ ?_ <;> (intro hd; have hc := hd; (try simp at hc) <;> (try simp -implicitDefEqProofs [-loopQ_n, hd, hc, h, g, logO, evt_reify]))) | (refine ldD_ep ?_ ?_; (focus kernel_rfl); (try simp -implicitDefEqProofs [-loopQ_n, h, g, logO, evt_reify])))))
/-! Where a string stands. -/
theorem idxA_spec (x : ByteArray) : ∀ (l : List ByteArray) (j : Int), (x ∉ l ∧ idxA l x j = -1) ∨ ∃ k : Nat, l[k]? = some x ∧ idxA l x j = j + (k : Nat) ∧ ∀ i : Nat, i < k → l[i]? ≠ some x := by
  intro l
  induction l with
  | nil => intro j; exact .inl ⟨by simp, rfl⟩
  | cons y l ih =>
    intro j
    unfold idxA
    by_cases e : y = x
    · rw [if_pos e]
      exact .inr ⟨0, by simp [e], by simp, fun i hi => absurd hi (by omega)⟩
    · rw [if_neg e]
      rcases ih (j + 1) with ⟨h1, h2⟩ | ⟨k, h1, h2, h3⟩
      · exact .inl ⟨by simp [h1, Ne.symm e], h2⟩
      · refine .inr ⟨k + 1, by simpa using h1, by rw [h2]; omega, fun i hi => ?_⟩
        cases i with
        | zero => simpa using e
        | succ i => simpa using h3 i (by omega)
theorem idxS_none {l : List ByteArray} {x : ByteArray} (h : x ∉ l) : idxS l x = -1 := by
  rcases idxA_spec x l 0 with ⟨_, h2⟩ | ⟨k, h1, _, _⟩
  · exact h2
  · exact absurd (List.mem_of_getElem? h1) h
theorem idxS_some {l : List ByteArray} {x : ByteArray} (h : x ∈ l) : ∃ k : Nat, l[k]? = some x ∧ idxS l x = (k : Int) ∧ ∀ i, i < k → l[i]? ≠ some x := by
  rcases idxA_spec x l 0 with ⟨h1, _⟩ | ⟨k, h1, h2, h3⟩
  · exact absurd h h1
  · exact ⟨k, h1, by unfold idxS; rw [h2]; omega, h3⟩
theorem alook_zip {β : Type} (x : ByteArray) : ∀ (l : List ByteArray) (t : List β), l.length = t.length → (x ∉ l → alook (l.zip t) x = none) ∧ ∀ k : Nat, l[k]? = some x → (∀ i : Nat, i < k → l[i]? ≠ some x) → alook (l.zip t) x = t[k]? := by
  intro l
  induction l with
  | nil => intro t _; exact ⟨fun _ => by simp [alook, afind], fun k h => by simp at h⟩
  | cons y l ih =>
    intro t ht
    cases t with
    | nil => simp at ht
    | cons z t =>
      obtain ⟨i1, i2⟩ := ih t (by simpa using ht)
      rw [List.zip_cons_cons, alook_cons]
      refine ⟨fun h => ?_, fun k h1 h2 => ?_⟩
      · rw [if_neg (fun e => h (by simp at e; simp [e]))]
        exact i1 (fun q => h (by simp [q]))
      · cases k with
        | zero =>
          simp at h1
          rw [if_pos (by simpa using h1)]; rfl
        | succ k =>
          have := h2 0 (by omega)
          simp at this
          rw [if_neg (by simpa using this)]
          rw [i2 k (by simpa using h1) fun i hi => by have := h2 (i + 1) (by omega); simpa using this]
          simp
set_option maxHeartbeats 8000000 in
theorem rselect_pure (l : List Evt) (cs : List ByteArray) (hcs : cs.length ≤ 9223372036854775807) : Pure Tryz.prog 20 [.agg [.rs (rowsOf evtC l)], .rs (rowsOf strC cs)] (logO (selectR l cs)) := by
  refine pure_of mixed Tryz.func20 rfl (by kernel_rfl) (of_decide_eq_true rfl) (by kernel_rfl) (vc_run ?_)
  by_cases hV : logV l = true
  rotate_left
  · rw [selectR, if_neg (fun q => hV q.1)]
    have hV : logV l = false := by simpa using hV
    ((try simp -implicitDefEqProofs [-loopQ_n, hV, logO, rowsOf_nil]) <;> (repeat' (first | (refine condD_dec ?_ ?_ <;> (intro hc; (try simp -implicitDefEqProofs [-loopQ_n, hc, hV, logO, rowsOf_nil]))) | (refine guardD_dec ?_ ?_ <;> (intro hc; (try simp -implicitDefEqProofs [-loopQ_n, hc, hV, logO, rowsOf_nil]))) | (refine condD_intro ?_ ?_ <;> (intro hd; have hc := hd; (try simp at hc) <;> (try simp -implicitDefEqProofs [-loopQ_n, hd, hc, hV, logO, rowsOf_nil]))) | (refine guardD_intro ?_ ?_ <;> (intro hd; have hc := hd; (try simp at hc) <;> (try simp -implicitDefEqProofs [-loopQ_n, hd, hc, hV, logO, rowsOf_nil]))) | (refine ldD_ep ?_ ?_; (focus kernel_rfl); (try simp -implicitDefEqProofs [-loopQ_n, hV, logO, rowsOf_nil])) | (refine callS_mk ?_; (try simp -implicitDefEqProofs [-loopQ_n, hV, logO, rowsOf_nil]); (first | refine callS_intro (rlog_pure l) (.inl rfl) ?_); (try simp -implicitDefEqProofs [-loopQ_n, hV, logO, rowsOf_nil])))))
  by_cases hf : namesL cs = true
  rotate_left
  · rw [selectR, if_neg (fun q => hf q.2)]
    have hf : namesL cs = false := by simpa using hf
    ((try simp -implicitDefEqProofs [-loopQ_n, hV, hf, logO, rowsOf_nil]) <;> (repeat' (first | (refine condD_dec ?_ ?_ <;> (intro hc; (try simp -implicitDefEqProofs [-loopQ_n, hc, hV, hf, logO, rowsOf_nil]))) | (refine guardD_dec ?_ ?_ <;> (intro hc; (try simp -implicitDefEqProofs [-loopQ_n, hc, hV, hf, logO, rowsOf_nil]))) | (refine condD_intro ?_ ?_ <;> (intro hd; have hc := hd; (try simp at hc) <;> (try simp -implicitDefEqProofs [-loopQ_n, hd, hc, hV, hf, logO, rowsOf_nil]))) | (refine guardD_intro ?_ ?_ <;> (intro hd; have hc := hd; (try simp at hc) <;> (try simp -implicitDefEqProofs [-loopQ_n, hd, hc, hV, hf, logO, rowsOf_nil]))) | (refine ldD_ep ?_ ?_; (focus kernel_rfl); (try simp -implicitDefEqProofs [-loopQ_n, hV, hf, logO, rowsOf_nil])) | (refine callS_mk ?_; (try simp -implicitDefEqProofs [-loopQ_n, hV, hf, logO, rowsOf_nil]); (first | refine callS_intro (rlog_pure l) (.inl rfl) ?_ | refine callS_intro (rnames_pure cs hcs) (.inl rfl) ?_); (try simp -implicitDefEqProofs [-loopQ_n, hV, hf, logO, rowsOf_nil])))))
  rw [selectR, if_pos ⟨hV, hf⟩]
  by_cases h1 : 1000 < cs.length
  · rw [if_pos h1]
    have h1' : (1000 : Int) < (cs.length : Int) := by omega
    ((try simp -implicitDefEqProofs [-loopQ_n, hV, hf, h1', logO, rowsOf_nil]) <;> (repeat' (first | (refine condD_dec ?_ ?_ <;> (intro hc; (try simp -implicitDefEqProofs [-loopQ_n, hc, hV, hf, h1', logO, rowsOf_nil]))) | (refine guardD_dec ?_ ?_ <;> (intro hc; (try simp -implicitDefEqProofs [-loopQ_n, hc, hV, hf, h1', logO, rowsOf_nil]))) | (refine condD_intro ?_ ?_ <;> (intro hd; have hc := hd; (try simp at hc) <;> (try simp -implicitDefEqProofs [-loopQ_n, hd, hc, hV, hf, h1', logO, rowsOf_nil]))) | (refine guardD_intro ?_ ?_ <;> (intro hd; have hc := hd; (try simp at hc) <;> (try simp -implicitDefEqProofs [-loopQ_n, hd, hc, hV, hf, h1', logO, rowsOf_nil]))) | (refine ldD_ep ?_ ?_; (focus kernel_rfl); (try simp -implicitDefEqProofs [-loopQ_n, hV, hf, h1', logO, rowsOf_nil])) | (refine callS_mk ?_; (try simp -implicitDefEqProofs [-loopQ_n, hV, hf, h1', logO, rowsOf_nil]); (first | refine callS_intro (rlog_pure l) (.inl rfl) ?_ | refine callS_intro (rnames_pure cs hcs) (.inl rfl) ?_); (try simp -implicitDefEqProofs [-loopQ_n, hV, hf, h1', logO, rowsOf_nil])))))
  rw [if_neg h1]
  have h1' : ¬ (1000 : Int) < (cs.length : Int) := by omega
  have hll := log_lenE hV
  obtain ⟨R, hRR⟩ : ∃ R, l.filter (fun e => hasB cs e.case_) = R := ⟨_, rfl⟩
  rw [hRR]
  ((try simp -implicitDefEqProofs [-loopQ_n, hV, hf, h1']) <;> (repeat' (first | (refine condD_dec ?_ ?_ <;> (intro hc; (try simp -implicitDefEqProofs [-loopQ_n, hc, hV, hf, h1']))) | (refine guardD_dec ?_ ?_ <;> (intro hc; (try simp -implicitDefEqProofs [-loopQ_n, hc, hV, hf, h1']))) | (refine condD_intro ?_ ?_ <;> (intro hd; have hc := hd; (try simp at hc) <;> (try simp -implicitDefEqProofs [-loopQ_n, hd, hc, hV, hf, h1']))) | (refine guardD_intro ?_ ?_ <;> (intro hd; have hc := hd; (try simp at hc) <;> (try simp -implicitDefEqProofs [-loopQ_n, hd, hc, hV, hf, h1']))) | (refine ldD_ep ?_ ?_; (focus kernel_rfl); (try simp -implicitDefEqProofs [-loopQ_n, hV, hf, h1'])) | (refine callS_mk ?_; (try simp -implicitDefEqProofs [-loopQ_n, hV, hf, h1']); (first | refine callS_intro (rlog_pure l) (.inl rfl) ?_ | refine callS_intro (rnames_pure cs hcs) (.inl rfl) ?_); (try simp -implicitDefEqProofs [-loopQ_n, hV, hf, h1'])))))
  refine loop_intro (σ := Nat × List Evt) (fun x => ⟨[(1, .rs (rowsOf strC cs)), (2, .op 0 0), (4, .op 1 0), (6, .op 2 0), (7, .int .i64 x.1)], [.box 24 [.rs (rowsOf evtC l)], .box 24 [.nils], .box 24 [.os 3 x.2.length], .row 57 true (rowsOf evtC x.2)]⟩)
    (fun x => x.1 ≤ l.length ∧ x.2.length ≤ x.1 ∧ x.2 ++ (l.drop x.1).filter (fun e => hasB cs e.case_) = R) (fun x => l.length - x.1) (0, []) ⟨by simp, by simp, by simpa using hRR⟩ ?_ ?_
  · refine weak_of 3 1 rfl rfl ?_ ?_ <;> simp
  rintro ⟨i, acc⟩ ⟨hi, hal, hR⟩
  simp only at hi hal hR
  by_cases h : i < l.length
  · have w1 : wrapI .i64 ((i : Int) + 1) = (i : Int) + 1 := wrap_in (by omega) (by omega)
    obtain ⟨⟨c, a, r, life, time, data⟩, hff⟩ : ∃ e, l[i] = e := ⟨_, rfl⟩
    have hlen : acc.length ≤ 1073741823 := by omega
    rw [List.drop_eq_getElem_cons h, hff, List.filter_cons] at hR
    simp only at hR
    have hix := rindex_pure cs c hcs
    by_cases hc : c ∈ cs
    · obtain ⟨k, k1, k2, k3⟩ := idxS_some hc
      rw [k2] at hix
      rw [if_pos (hasB_iff.2 hc)] at hR
      have hk0 : (0 : Int) ≤ (k : Int) := by omega
      ((try simp -implicitDefEqProofs [-loopQ_n, h, hff, evtC, w1, hlen, evt_snoc, hk0]) <;> (repeat' (first | (refine condD_dec ?_ ?_ <;> (intro hc; (try simp -implicitDefEqProofs [-loopQ_n, hc, h, hff, evtC, w1, hlen, evt_snoc, hk0]))) | (refine guardD_dec ?_ ?_ <;> (intro hc; (try simp -implicitDefEqProofs [-loopQ_n, hc, h, hff, evtC, w1, hlen, evt_snoc, hk0]))) | (refine condD_intro ?_ ?_ <;> (intro hd; have hc := hd; (try simp at hc) <;> (try simp -implicitDefEqProofs [-loopQ_n, hd, hc, h, hff, evtC, w1, hlen, evt_snoc, hk0]))) | (refine guardD_intro ?_ ?_ <;> (intro hd; have hc := hd; (try simp at hc) <;> (try simp -implicitDefEqProofs [-loopQ_n, hd, hc, h, hff, evtC, w1, hlen, evt_snoc, hk0]))) | (refine ldD_ep ?_ ?_; (focus kernel_rfl); (try simp -implicitDefEqProofs [-loopQ_n, h, hff, evtC, w1, hlen, evt_snoc, hk0])) | (refine callS_mk ?_; (try simp -implicitDefEqProofs [-loopQ_n, h, hff, evtC, w1, hlen, evt_snoc, hk0]); (first | refine callS_intro (hix) (.inl rfl) ?_); (try simp -implicitDefEqProofs [-loopQ_n, h, hff, evtC, w1, hlen, evt_snoc, hk0])))))
      refine loop_next (i + 1, acc ++ [⟨c, a, r, life, time, data⟩]) ⟨by simp only; omega, by simp; omega, by rw [← hR]; simp⟩ (by simp only; omega) (weak_of 4 0 rfl rfl ?_ ?_) <;> simp [w1, evt_refs]
    · rw [idxS_none hc] at hix
      rw [if_neg (fun q => hc (hasB_iff.1 q))] at hR
      ((try simp -implicitDefEqProofs [-loopQ_n, h, hff, evtC, w1, hlen]) <;> (repeat' (first | (refine condD_dec ?_ ?_ <;> (intro hc; (try simp -implicitDefEqProofs [-loopQ_n, hc, h, hff, evtC, w1, hlen]))) | (refine guardD_dec ?_ ?_ <;> (intro hc; (try simp -implicitDefEqProofs [-loopQ_n, hc, h, hff, evtC, w1, hlen]))) | (refine condD_intro ?_ ?_ <;> (intro hd; have hc := hd; (try simp at hc) <;> (try simp -implicitDefEqProofs [-loopQ_n, hd, hc, h, hff, evtC, w1, hlen]))) | (refine guardD_intro ?_ ?_ <;> (intro hd; have hc := hd; (try simp at hc) <;> (try simp -implicitDefEqProofs [-loopQ_n, hd, hc, h, hff, evtC, w1, hlen]))) | (refine ldD_ep ?_ ?_; (focus kernel_rfl); (try simp -implicitDefEqProofs [-loopQ_n, h, hff, evtC, w1, hlen])) | (refine callS_mk ?_; (try simp -implicitDefEqProofs [-loopQ_n, h, hff, evtC, w1, hlen]); (first | refine callS_intro (hix) (.inl rfl) ?_); (try simp -implicitDefEqProofs [-loopQ_n, h, hff, evtC, w1, hlen])))))
      refine loop_next (i + 1, acc) ⟨by simp only; omega, by simp only; omega, hR⟩ (by simp only; omega) (weak_of 4 0 rfl rfl ?_ ?_) <;> simp [w1, evt_refs]
  · rw [List.drop_eq_nil_of_le (by omega), List.filter_nil, List.append_nil] at hR
    rw [← hR]
    ((try simp -implicitDefEqProofs [-loopQ_n, h, logO, evt_reify]) <;> (repeat' (first | (refine condD_dec ?_ ?_ <;> (intro hc; (try simp -implicitDefEqProofs [-loopQ_n, hc, h, logO, evt_reify]))) | (refine guardD_dec ?_ ?_ <;> (intro hc; (try simp -implicitDefEqProofs [-loopQ_n, hc, h, logO, evt_reify]))) | (refine condD_intro ?_ ?_ <;> (intro hd; have hc := hd; (try simp at hc) <;> (try simp -implicitDefEqProofs [-loopQ_n, hd, hc, h, logO, evt_reify]))) | (refine guardD_intro ?_ ?_ <;> (intro hd; have hc := hd; (try simp at hc) <;> (try simp -implicitDefEqProofs [-loopQ_n, hd, hc, h, logO, evt_reify]))) | (refine ldD_ep ?_ ?_; (focus kernel_rfl); (try simp -implicitDefEqProofs [-loopQ_n, h, logO, evt_reify])))))
set_option maxHeartbeats 8000000 in
theorem rshift_pure (l : List Evt) (by_ : Int) : Pure Tryz.prog 22 [.agg [.rs (rowsOf evtC l)], .int .i64 by_] (logO (shiftR l by_)) := by
  refine pure_of mixed Tryz.func22 rfl (by kernel_rfl) (of_decide_eq_true rfl) (by kernel_rfl) (vc_run ?_)
  by_cases hV : logV l = true
  rotate_left
  · rw [shiftR, if_neg hV]
    have hV : logV l = false := by simpa using hV
    ((try simp -implicitDefEqProofs [-loopQ_n, hV, logO, rowsOf_nil]) <;> (repeat' (first | (refine condD_dec ?_ ?_ <;> (intro hc; (try simp -implicitDefEqProofs [-loopQ_n, hc, hV, logO, rowsOf_nil]))) | (refine guardD_dec ?_ ?_ <;> (intro hc; (try simp -implicitDefEqProofs [-loopQ_n, hc, hV, logO, rowsOf_nil]))) | (refine condD_intro ?_ ?_ <;> (intro hd; have hc := hd; (try simp at hc) <;> (try simp -implicitDefEqProofs [-loopQ_n, hd, hc, hV, logO, rowsOf_nil]))) | (refine guardD_intro ?_ ?_ <;> (intro hd; have hc := hd; (try simp at hc) <;> (try simp -implicitDefEqProofs [-loopQ_n, hd, hc, hV, logO, rowsOf_nil]))) | (refine ldD_ep ?_ ?_; (focus kernel_rfl); (try simp -implicitDefEqProofs [-loopQ_n, hV, logO, rowsOf_nil])) | (refine callS_mk ?_; (try simp -implicitDefEqProofs [-loopQ_n, hV, logO, rowsOf_nil]); (first | refine callS_intro (rlog_pure l) (.inl rfl) ?_); (try simp -implicitDefEqProofs [-loopQ_n, hV, logO, rowsOf_nil])))))
  rw [shiftR, if_pos hV]
  by_cases h1 : by_ < -1099511627776
  · rw [if_pos (.inl h1)]
    ((try simp -implicitDefEqProofs [-loopQ_n, hV, h1, logO, rowsOf_nil]) <;> (repeat' (first | (refine condD_dec ?_ ?_ <;> (intro hc; (try simp -implicitDefEqProofs [-loopQ_n, hc, hV, h1, logO, rowsOf_nil]))) | (refine guardD_dec ?_ ?_ <;> (intro hc; (try simp -implicitDefEqProofs [-loopQ_n, hc, hV, h1, logO, rowsOf_nil]))) | (refine condD_intro ?_ ?_ <;> (intro hd; have hc := hd; (try simp at hc) <;> (try simp -implicitDefEqProofs [-loopQ_n, hd, hc, hV, h1, logO, rowsOf_nil]))) | (refine guardD_intro ?_ ?_ <;> (intro hd; have hc := hd; (try simp at hc) <;> (try simp -implicitDefEqProofs [-loopQ_n, hd, hc, hV, h1, logO, rowsOf_nil]))) | (refine ldD_ep ?_ ?_; (focus kernel_rfl); (try simp -implicitDefEqProofs [-loopQ_n, hV, h1, logO, rowsOf_nil])) | (refine callS_mk ?_; (try simp -implicitDefEqProofs [-loopQ_n, hV, h1, logO, rowsOf_nil]); (first | refine callS_intro (rlog_pure l) (.inl rfl) ?_); (try simp -implicitDefEqProofs [-loopQ_n, hV, h1, logO, rowsOf_nil])))))
  by_cases h2 : 1099511627776 < by_
  · rw [if_pos (.inr h2)]
    ((try simp -implicitDefEqProofs [-loopQ_n, hV, h1, h2, logO, rowsOf_nil]) <;> (repeat' (first | (refine condD_dec ?_ ?_ <;> (intro hc; (try simp -implicitDefEqProofs [-loopQ_n, hc, hV, h1, h2, logO, rowsOf_nil]))) | (refine guardD_dec ?_ ?_ <;> (intro hc; (try simp -implicitDefEqProofs [-loopQ_n, hc, hV, h1, h2, logO, rowsOf_nil]))) | (refine condD_intro ?_ ?_ <;> (intro hd; have hc := hd; (try simp at hc) <;> (try simp -implicitDefEqProofs [-loopQ_n, hd, hc, hV, h1, h2, logO, rowsOf_nil]))) | (refine guardD_intro ?_ ?_ <;> (intro hd; have hc := hd; (try simp at hc) <;> (try simp -implicitDefEqProofs [-loopQ_n, hd, hc, hV, h1, h2, logO, rowsOf_nil]))) | (refine ldD_ep ?_ ?_; (focus kernel_rfl); (try simp -implicitDefEqProofs [-loopQ_n, hV, h1, h2, logO, rowsOf_nil])) | (refine callS_mk ?_; (try simp -implicitDefEqProofs [-loopQ_n, hV, h1, h2, logO, rowsOf_nil]); (first | refine callS_intro (rlog_pure l) (.inl rfl) ?_); (try simp -implicitDefEqProofs [-loopQ_n, hV, h1, h2, logO, rowsOf_nil])))))
  rw [if_neg (by omega)]
  have hll := log_lenE hV
  obtain ⟨R, hRR⟩ : ∃ R, shF by_ l [] = R := ⟨_, rfl⟩
  rw [hRR]
  ((try simp -implicitDefEqProofs [-loopQ_n, hV, h1, h2]) <;> (repeat' (first | (refine condD_dec ?_ ?_ <;> (intro hc; (try simp -implicitDefEqProofs [-loopQ_n, hc, hV, h1, h2]))) | (refine guardD_dec ?_ ?_ <;> (intro hc; (try simp -implicitDefEqProofs [-loopQ_n, hc, hV, h1, h2]))) | (refine condD_intro ?_ ?_ <;> (intro hd; have hc := hd; (try simp at hc) <;> (try simp -implicitDefEqProofs [-loopQ_n, hd, hc, hV, h1, h2]))) | (refine guardD_intro ?_ ?_ <;> (intro hd; have hc := hd; (try simp at hc) <;> (try simp -implicitDefEqProofs [-loopQ_n, hd, hc, hV, h1, h2]))) | (refine ldD_ep ?_ ?_; (focus kernel_rfl); (try simp -implicitDefEqProofs [-loopQ_n, hV, h1, h2])) | (refine callS_mk ?_; (try simp -implicitDefEqProofs [-loopQ_n, hV, h1, h2]); (first | refine callS_intro (rlog_pure l) (.inl rfl) ?_); (try simp -implicitDefEqProofs [-loopQ_n, hV, h1, h2])))))
  refine loop_intro (σ := Nat × List Evt) (fun x => ⟨[(1, .int .i64 by_), (2, .op 0 0), (4, .op 1 0), (6, .op 2 0), (7, .int .i64 x.1)], [.box 24 [.rs (rowsOf evtC l)], .box 24 [.nils], .box 24 [.os 3 x.2.length], .row 57 true (rowsOf evtC x.2)]⟩)
    (fun x => x.1 ≤ l.length ∧ x.2.length ≤ x.1 ∧ shF by_ (l.drop x.1) x.2 = R) (fun x => l.length - x.1) (0, []) ⟨by simp, by simp, by simpa using hRR⟩ ?_ ?_
  · refine weak_of 3 1 rfl rfl ?_ ?_ <;> simp
  rintro ⟨i, acc⟩ ⟨hi, hal, hR⟩
  simp only at hi hal hR
  by_cases h : i < l.length
  · have w1 : wrapI .i64 ((i : Int) + 1) = (i : Int) + 1 := wrap_in (by omega) (by omega)
    have hb := evt_bd (log_evt hV _ (List.getElem_mem h))
    obtain ⟨⟨c, a, r, life, time, data⟩, hf⟩ : ∃ e, l[i] = e := ⟨_, rfl⟩
    rw [hf] at hb
    simp only at hb
    have w2 : wrapI .i64 (time + by_) = time + by_ := wrap_in (by omega) (by omega)
    have hlen : acc.length ≤ 1073741823 := by omega
    rw [List.drop_eq_getElem_cons h, hf, shF] at hR
    simp only at hR
    by_cases g1 : time + by_ < 0
    · rw [if_pos (.inl g1)] at hR
      rw [← hR]
      ((try simp -implicitDefEqProofs [-loopQ_n, h, hf, evtC, w2, g1, logO, rowsOf_nil]) <;> (repeat' (first | (refine condD_dec ?_ ?_ <;> (intro hc; (try simp -implicitDefEqProofs [-loopQ_n, hc, h, hf, evtC, w2, g1, logO, rowsOf_nil]))) | (refine guardD_dec ?_ ?_ <;> (intro hc; (try simp -implicitDefEqProofs [-loopQ_n, hc, h, hf, evtC, w2, g1, logO, rowsOf_nil]))) | (refine condD_intro ?_ ?_ <;> (intro hd; have hc := hd; (try simp at hc) <;> (try simp -implicitDefEqProofs [-loopQ_n, hd, hc, h, hf, evtC, w2, g1, logO, rowsOf_nil]))) | (refine guardD_intro ?_ ?_ <;> (intro hd; have hc := hd; (try simp at hc) <;> (try simp -implicitDefEqProofs [-loopQ_n, hd, hc, h, hf, evtC, w2, g1, logO, rowsOf_nil]))) | (refine ldD_ep ?_ ?_; (focus kernel_rfl); (try simp -implicitDefEqProofs [-loopQ_n, h, hf, evtC, w2, g1, logO, rowsOf_nil])))))
    by_cases g2 : 1099511627776 < time + by_
    · rw [if_pos (.inr g2)] at hR
      rw [← hR]
      ((try simp -implicitDefEqProofs [-loopQ_n, h, hf, evtC, w2, g1, g2, logO, rowsOf_nil]) <;> (repeat' (first | (refine condD_dec ?_ ?_ <;> (intro hc; (try simp -implicitDefEqProofs [-loopQ_n, hc, h, hf, evtC, w2, g1, g2, logO, rowsOf_nil]))) | (refine guardD_dec ?_ ?_ <;> (intro hc; (try simp -implicitDefEqProofs [-loopQ_n, hc, h, hf, evtC, w2, g1, g2, logO, rowsOf_nil]))) | (refine condD_intro ?_ ?_ <;> (intro hd; have hc := hd; (try simp at hc) <;> (try simp -implicitDefEqProofs [-loopQ_n, hd, hc, h, hf, evtC, w2, g1, g2, logO, rowsOf_nil]))) | (refine guardD_intro ?_ ?_ <;> (intro hd; have hc := hd; (try simp at hc) <;> (try simp -implicitDefEqProofs [-loopQ_n, hd, hc, h, hf, evtC, w2, g1, g2, logO, rowsOf_nil]))) | (refine ldD_ep ?_ ?_; (focus kernel_rfl); (try simp -implicitDefEqProofs [-loopQ_n, h, hf, evtC, w2, g1, g2, logO, rowsOf_nil])))))
    rw [if_neg (by omega)] at hR
    ((try simp -implicitDefEqProofs [-loopQ_n, h, hf, evtC, w1, w2, g1, g2, hlen, evt_snoc]) <;> (repeat' (first | (refine condD_dec ?_ ?_ <;> (intro hc; (try simp -implicitDefEqProofs [-loopQ_n, hc, h, hf, evtC, w1, w2, g1, g2, hlen, evt_snoc]))) | (refine guardD_dec ?_ ?_ <;> (intro hc; (try simp -implicitDefEqProofs [-loopQ_n, hc, h, hf, evtC, w1, w2, g1, g2, hlen, evt_snoc]))) | (refine condD_intro ?_ ?_ <;> (intro hd; have hc := hd; (try simp at hc) <;> (try simp -implicitDefEqProofs [-loopQ_n, hd, hc, h, hf, evtC, w1, w2, g1, g2, hlen, evt_snoc]))) | (refine guardD_intro ?_ ?_ <;> (intro hd; have hc := hd; (try simp at hc) <;> (try simp -implicitDefEqProofs [-loopQ_n, hd, hc, h, hf, evtC, w1, w2, g1, g2, hlen, evt_snoc]))) | (refine ldD_ep ?_ ?_; (focus kernel_rfl); (try simp -implicitDefEqProofs [-loopQ_n, h, hf, evtC, w1, w2, g1, g2, hlen, evt_snoc])))))
    refine loop_next (i + 1, acc ++ [⟨c, a, r, life, time + by_, data⟩]) ⟨by simp only; omega, by simp; omega, hR⟩ (by simp only; omega) (weak_of 4 0 rfl rfl ?_ ?_) <;> simp [w1, evt_refs]
  · rw [List.drop_eq_nil_of_le (by omega), shF] at hR
    rw [← hR]
    ((try simp -implicitDefEqProofs [-loopQ_n, h, logO, evt_reify]) <;> (repeat' (first | (refine condD_dec ?_ ?_ <;> (intro hc; (try simp -implicitDefEqProofs [-loopQ_n, hc, h, logO, evt_reify]))) | (refine guardD_dec ?_ ?_ <;> (intro hc; (try simp -implicitDefEqProofs [-loopQ_n, hc, h, logO, evt_reify]))) | (refine condD_intro ?_ ?_ <;> (intro hd; have hc := hd; (try simp at hc) <;> (try simp -implicitDefEqProofs [-loopQ_n, hd, hc, h, logO, evt_reify]))) | (refine guardD_intro ?_ ?_ <;> (intro hd; have hc := hd; (try simp at hc) <;> (try simp -implicitDefEqProofs [-loopQ_n, hd, hc, h, logO, evt_reify]))) | (refine ldD_ep ?_ ?_; (focus kernel_rfl); (try simp -implicitDefEqProofs [-loopQ_n, h, logO, evt_reify])))))
set_option maxHeartbeats 8000000 in
theorem rrename_pure (l : List Evt) (fr to_ : List ByteArray) (hfr : fr.length ≤ 9223372036854775807) (hto : to_.length ≤ 9223372036854775807) : Pure Tryz.prog 21 [.agg [.rs (rowsOf evtC l)], .rs (rowsOf strC fr), .rs (rowsOf strC to_)] (logO (renameR l fr to_)) := by
  refine pure_of mixed Tryz.func21 rfl (by kernel_rfl) (of_decide_eq_true rfl) (by kernel_rfl) (vc_run ?_)
  by_cases hV : logV l = true
  rotate_left
  · rw [renameR, if_neg (fun q => hV q.1)]
    have hV : logV l = false := by simpa using hV
    ((try simp -implicitDefEqProofs [-loopQ_n, hV, logO, rowsOf_nil]) <;> (repeat' (first | (refine condD_dec ?_ ?_ <;> (intro hc; (try simp -implicitDefEqProofs [-loopQ_n, hc, hV, logO, rowsOf_nil]))) | (refine guardD_dec ?_ ?_ <;> (intro hc; (try simp -implicitDefEqProofs [-loopQ_n, hc, hV, logO, rowsOf_nil]))) | (refine condD_intro ?_ ?_ <;> (intro hd; have hc := hd; (try simp at hc) <;> (try simp -implicitDefEqProofs [-loopQ_n, hd, hc, hV, logO, rowsOf_nil]))) | (refine guardD_intro ?_ ?_ <;> (intro hd; have hc := hd; (try simp at hc) <;> (try simp -implicitDefEqProofs [-loopQ_n, hd, hc, hV, logO, rowsOf_nil]))) | (refine ldD_ep ?_ ?_; (focus kernel_rfl); (try simp -implicitDefEqProofs [-loopQ_n, hV, logO, rowsOf_nil])) | (refine callS_mk ?_; (try simp -implicitDefEqProofs [-loopQ_n, hV, logO, rowsOf_nil]); (first | refine callS_intro (rlog_pure l) (.inl rfl) ?_); (try simp -implicitDefEqProofs [-loopQ_n, hV, logO, rowsOf_nil])))))
  by_cases hf : namesL fr = true
  rotate_left
  · rw [renameR, if_neg (fun q => hf q.2.1)]
    have hf : namesL fr = false := by simpa using hf
    ((try simp -implicitDefEqProofs [-loopQ_n, hV, hf, logO, rowsOf_nil]) <;> (repeat' (first | (refine condD_dec ?_ ?_ <;> (intro hc; (try simp -implicitDefEqProofs [-loopQ_n, hc, hV, hf, logO, rowsOf_nil]))) | (refine guardD_dec ?_ ?_ <;> (intro hc; (try simp -implicitDefEqProofs [-loopQ_n, hc, hV, hf, logO, rowsOf_nil]))) | (refine condD_intro ?_ ?_ <;> (intro hd; have hc := hd; (try simp at hc) <;> (try simp -implicitDefEqProofs [-loopQ_n, hd, hc, hV, hf, logO, rowsOf_nil]))) | (refine guardD_intro ?_ ?_ <;> (intro hd; have hc := hd; (try simp at hc) <;> (try simp -implicitDefEqProofs [-loopQ_n, hd, hc, hV, hf, logO, rowsOf_nil]))) | (refine ldD_ep ?_ ?_; (focus kernel_rfl); (try simp -implicitDefEqProofs [-loopQ_n, hV, hf, logO, rowsOf_nil])) | (refine callS_mk ?_; (try simp -implicitDefEqProofs [-loopQ_n, hV, hf, logO, rowsOf_nil]); (first | refine callS_intro (rlog_pure l) (.inl rfl) ?_ | refine callS_intro (rnames_pure fr hfr) (.inl rfl) ?_); (try simp -implicitDefEqProofs [-loopQ_n, hV, hf, logO, rowsOf_nil])))))
  by_cases ht : namesL to_ = true
  rotate_left
  · rw [renameR, if_neg (fun q => ht q.2.2)]
    have ht : namesL to_ = false := by simpa using ht
    ((try simp -implicitDefEqProofs [-loopQ_n, hV, hf, ht, logO, rowsOf_nil]) <;> (repeat' (first | (refine condD_dec ?_ ?_ <;> (intro hc; (try simp -implicitDefEqProofs [-loopQ_n, hc, hV, hf, ht, logO, rowsOf_nil]))) | (refine guardD_dec ?_ ?_ <;> (intro hc; (try simp -implicitDefEqProofs [-loopQ_n, hc, hV, hf, ht, logO, rowsOf_nil]))) | (refine condD_intro ?_ ?_ <;> (intro hd; have hc := hd; (try simp at hc) <;> (try simp -implicitDefEqProofs [-loopQ_n, hd, hc, hV, hf, ht, logO, rowsOf_nil]))) | (refine guardD_intro ?_ ?_ <;> (intro hd; have hc := hd; (try simp at hc) <;> (try simp -implicitDefEqProofs [-loopQ_n, hd, hc, hV, hf, ht, logO, rowsOf_nil]))) | (refine ldD_ep ?_ ?_; (focus kernel_rfl); (try simp -implicitDefEqProofs [-loopQ_n, hV, hf, ht, logO, rowsOf_nil])) | (refine callS_mk ?_; (try simp -implicitDefEqProofs [-loopQ_n, hV, hf, ht, logO, rowsOf_nil]); (first | refine callS_intro (rlog_pure l) (.inl rfl) ?_ | refine callS_intro (rnames_pure fr hfr) (.inl rfl) ?_ | refine callS_intro (rnames_pure to_ hto) (.inl rfl) ?_); (try simp -implicitDefEqProofs [-loopQ_n, hV, hf, ht, logO, rowsOf_nil])))))
  rw [renameR, if_pos ⟨hV, hf, ht⟩]
  by_cases hl : fr.length = to_.length
  rotate_left
  · rw [if_pos hl]
    have hl' : ¬ (fr.length : Int) = to_.length := by omega
    ((try simp -implicitDefEqProofs [-loopQ_n, hV, hf, ht, hl', logO, rowsOf_nil]) <;> (repeat' (first | (refine condD_dec ?_ ?_ <;> (intro hc; (try simp -implicitDefEqProofs [-loopQ_n, hc, hV, hf, ht, hl', logO, rowsOf_nil]))) | (refine guardD_dec ?_ ?_ <;> (intro hc; (try simp -implicitDefEqProofs [-loopQ_n, hc, hV, hf, ht, hl', logO, rowsOf_nil]))) | (refine condD_intro ?_ ?_ <;> (intro hd; have hc := hd; (try simp at hc) <;> (try simp -implicitDefEqProofs [-loopQ_n, hd, hc, hV, hf, ht, hl', logO, rowsOf_nil]))) | (refine guardD_intro ?_ ?_ <;> (intro hd; have hc := hd; (try simp at hc) <;> (try simp -implicitDefEqProofs [-loopQ_n, hd, hc, hV, hf, ht, hl', logO, rowsOf_nil]))) | (refine ldD_ep ?_ ?_; (focus kernel_rfl); (try simp -implicitDefEqProofs [-loopQ_n, hV, hf, ht, hl', logO, rowsOf_nil])) | (refine callS_mk ?_; (try simp -implicitDefEqProofs [-loopQ_n, hV, hf, ht, hl', logO, rowsOf_nil]); (first | refine callS_intro (rlog_pure l) (.inl rfl) ?_ | refine callS_intro (rnames_pure fr hfr) (.inl rfl) ?_ | refine callS_intro (rnames_pure to_ hto) (.inl rfl) ?_); (try simp -implicitDefEqProofs [-loopQ_n, hV, hf, ht, hl', logO, rowsOf_nil])))))
  rw [if_neg (by simpa using hl)]
  have hl' : (fr.length : Int) = to_.length := by omega
  by_cases h1 : 1000 < fr.length
  · rw [if_pos h1]
    have h1' : (1000 : Int) < (to_.length : Int) := by omega
    ((try simp -implicitDefEqProofs [-loopQ_n, hV, hf, ht, hl', h1', logO, rowsOf_nil]) <;> (repeat' (first | (refine condD_dec ?_ ?_ <;> (intro hc; (try simp -implicitDefEqProofs [-loopQ_n, hc, hV, hf, ht, hl', h1', logO, rowsOf_nil]))) | (refine guardD_dec ?_ ?_ <;> (intro hc; (try simp -implicitDefEqProofs [-loopQ_n, hc, hV, hf, ht, hl', h1', logO, rowsOf_nil]))) | (refine condD_intro ?_ ?_ <;> (intro hd; have hc := hd; (try simp at hc) <;> (try simp -implicitDefEqProofs [-loopQ_n, hd, hc, hV, hf, ht, hl', h1', logO, rowsOf_nil]))) | (refine guardD_intro ?_ ?_ <;> (intro hd; have hc := hd; (try simp at hc) <;> (try simp -implicitDefEqProofs [-loopQ_n, hd, hc, hV, hf, ht, hl', h1', logO, rowsOf_nil]))) | (refine ldD_ep ?_ ?_; (focus kernel_rfl); (try simp -implicitDefEqProofs [-loopQ_n, hV, hf, ht, hl', h1', logO, rowsOf_nil])) | (refine callS_mk ?_; (try simp -implicitDefEqProofs [-loopQ_n, hV, hf, ht, hl', h1', logO, rowsOf_nil]); (first | refine callS_intro (rlog_pure l) (.inl rfl) ?_ | refine callS_intro (rnames_pure fr hfr) (.inl rfl) ?_ | refine callS_intro (rnames_pure to_ hto) (.inl rfl) ?_); (try simp -implicitDefEqProofs [-loopQ_n, hV, hf, ht, hl', h1', logO, rowsOf_nil])))))
  rw [if_neg h1]
  have h1' : ¬ (1000 : Int) < (to_.length : Int) := by omega
  have hll := log_lenE hV
  ((try simp -implicitDefEqProofs [-loopQ_n, hV, hf, ht, hl', h1']) <;> (repeat' (first | (refine condD_dec ?_ ?_ <;> (intro hc; (try simp -implicitDefEqProofs [-loopQ_n, hc, hV, hf, ht, hl', h1']))) | (refine guardD_dec ?_ ?_ <;> (intro hc; (try simp -implicitDefEqProofs [-loopQ_n, hc, hV, hf, ht, hl', h1']))) | (refine condD_intro ?_ ?_ <;> (intro hd; have hc := hd; (try simp at hc) <;> (try simp -implicitDefEqProofs [-loopQ_n, hd, hc, hV, hf, ht, hl', h1']))) | (refine guardD_intro ?_ ?_ <;> (intro hd; have hc := hd; (try simp at hc) <;> (try simp -implicitDefEqProofs [-loopQ_n, hd, hc, hV, hf, ht, hl', h1']))) | (refine ldD_ep ?_ ?_; (focus kernel_rfl); (try simp -implicitDefEqProofs [-loopQ_n, hV, hf, ht, hl', h1'])) | (refine callS_mk ?_; (try simp -implicitDefEqProofs [-loopQ_n, hV, hf, ht, hl', h1']); (first | refine callS_intro (rlog_pure l) (.inl rfl) ?_ | refine callS_intro (rnames_pure fr hfr) (.inl rfl) ?_ | refine callS_intro (rnames_pure to_ hto) (.inl rfl) ?_); (try simp -implicitDefEqProofs [-loopQ_n, hV, hf, ht, hl', h1'])))))
  refine loop_intro (σ := Nat) (fun i => ⟨[(1, .rs (rowsOf strC fr)), (2, .rs (rowsOf strC to_)), (3, .op 0 0), (6, .op 1 0), (8, .int .i64 i)], [.box 24 [.rs (rowsOf evtC l)], .box 24 [.nils]]⟩)
    (fun i => i ≤ fr.length ∧ (fr.take i).Nodup) (fun i => fr.length - i) 0 ⟨by simp, by simp⟩ ?_ ?_
  · refine weak_of 2 0 rfl rfl ?_ ?_ <;> simp
  rintro i ⟨hi, hnd⟩
  by_cases h : i < fr.length
  · have g' : (i : Int) < fr.length := by omega
    have w1 : wrapI .i64 ((i : Int) + 1) = (i : Int) + 1 := wrap_in (by omega) (by omega)
    have hix := rindex_pure fr fr[i] hfr
    obtain ⟨k, k1, k2, k3⟩ := idxS_some (List.getElem_mem h)
    rw [k2] at hix
    by_cases hc : fr[i] ∈ fr.take i
    · have hno := not_nodup h hc
      rw [if_neg hno]
      have hki : (k : Int) < (i : Int) := by
        obtain ⟨j, hj, he⟩ := List.getElem_of_mem hc
        simp only [List.length_take] at hj
        rw [List.getElem_take] at he
        by_cases hjk : j < k
        · exact absurd (by rw [List.getElem?_eq_getElem (by omega), he]) (k3 j hjk)
        · omega
      have hki' : k < i := by omega
      ((try simp -implicitDefEqProofs [-loopQ_n, h, strC, hki', logO, rowsOf_nil]) <;> (repeat' (first | (refine condD_dec ?_ ?_ <;> (intro hc; (try simp -implicitDefEqProofs [-loopQ_n, hc, h, strC, hki', logO, rowsOf_nil]))) | (refine guardD_dec ?_ ?_ <;> (intro hc; (try simp -implicitDefEqProofs [-loopQ_n, hc, h, strC, hki', logO, rowsOf_nil]))) | (refine condD_intro ?_ ?_ <;> (intro hd; have hc := hd; (try simp at hc) <;> (try simp -implicitDefEqProofs [-loopQ_n, hd, hc, h, strC, hki', logO, rowsOf_nil]))) | (refine guardD_intro ?_ ?_ <;> (intro hd; have hc := hd; (try simp at hc) <;> (try simp -implicitDefEqProofs [-loopQ_n, hd, hc, h, strC, hki', logO, rowsOf_nil]))) | (refine ldD_ep ?_ ?_; (focus kernel_rfl); (try simp -implicitDefEqProofs [-loopQ_n, h, strC, hki', logO, rowsOf_nil])) | (refine callS_mk ?_; (try simp -implicitDefEqProofs [-loopQ_n, h, strC, hki', logO, rowsOf_nil]); (first | refine callS_intro (hix) (.inl rfl) ?_); (try simp -implicitDefEqProofs [-loopQ_n, h, strC, hki', logO, rowsOf_nil])))))
    · have hki : ¬ (k : Int) < (i : Int) := fun q => hc (List.mem_of_getElem? (i := k) (by rw [List.getElem?_take, if_pos (by omega)]; exact k1))
      have hki' : ¬ k < i := by omega
      ((try simp -implicitDefEqProofs [-loopQ_n, h, strC, hki']) <;> (repeat' (first | (refine condD_dec ?_ ?_ <;> (intro hc; (try simp -implicitDefEqProofs [-loopQ_n, hc, h, strC, hki']))) | (refine guardD_dec ?_ ?_ <;> (intro hc; (try simp -implicitDefEqProofs [-loopQ_n, hc, h, strC, hki']))) | (refine condD_intro ?_ ?_ <;> (intro hd; have hc := hd; (try simp at hc) <;> (try simp -implicitDefEqProofs [-loopQ_n, hd, hc, h, strC, hki']))) | (refine guardD_intro ?_ ?_ <;> (intro hd; have hc := hd; (try simp at hc) <;> (try simp -implicitDefEqProofs [-loopQ_n, hd, hc, h, strC, hki']))) | (refine ldD_ep ?_ ?_; (focus kernel_rfl); (try simp -implicitDefEqProofs [-loopQ_n, h, strC, hki'])) | (refine callS_mk ?_; (try simp -implicitDefEqProofs [-loopQ_n, h, strC, hki']); (first | refine callS_intro (hix) (.inl rfl) ?_); (try simp -implicitDefEqProofs [-loopQ_n, h, strC, hki'])))))
      refine loop_next (i + 1) ⟨by omega, nodup_take h hnd hc⟩ (by omega) (weak_of 2 0 rfl rfl ?_ ?_) <;> simp [w1]
  · have hin : i = fr.length := by omega
    subst hin
    rw [List.take_length] at hnd
    rw [if_pos hnd]
    obtain ⟨R, hRR⟩ : ∃ R, l.map (renE (fr.zip to_)) = R := ⟨_, rfl⟩
    rw [hRR]
    ((try simp -implicitDefEqProofs [-loopQ_n, h]) <;> (repeat' (first | (refine condD_dec ?_ ?_ <;> (intro hc; (try simp -implicitDefEqProofs [-loopQ_n, hc, h]))) | (refine guardD_dec ?_ ?_ <;> (intro hc; (try simp -implicitDefEqProofs [-loopQ_n, hc, h]))) | (refine condD_intro ?_ ?_ <;> (intro hd; have hc := hd; (try simp at hc) <;> (try simp -implicitDefEqProofs [-loopQ_n, hd, hc, h]))) | (refine guardD_intro ?_ ?_ <;> (intro hd; have hc := hd; (try simp at hc) <;> (try simp -implicitDefEqProofs [-loopQ_n, hd, hc, h]))) | (refine ldD_ep ?_ ?_; (focus kernel_rfl); (try simp -implicitDefEqProofs [-loopQ_n, h])))))
    refine loop_intro (σ := Nat × List Evt) (fun x => ⟨[(1, .rs (rowsOf strC fr)), (2, .rs (rowsOf strC to_)), (3, .op 0 0), (6, .op 1 0), (9, .op 2 0), (10, .int .i64 x.1)], [.box 24 [.rs (rowsOf evtC l)], .box 24 [.nils], .box 24 [.os 3 x.2.length], .row 57 true (rowsOf evtC x.2)]⟩)
      (fun x => x.1 ≤ l.length ∧ x.2.length ≤ x.1 ∧ x.2 ++ (l.map (renE (fr.zip to_))).drop x.1 = R) (fun x => l.length - x.1) (0, []) ⟨by simp, by simp, by simpa using hRR⟩ ?_ ?_
    · refine weak_of 3 1 rfl rfl ?_ ?_ <;> simp
    rintro ⟨i, acc⟩ ⟨hi, hal, hR⟩
    simp only at hi hal hR
    by_cases h : i < l.length
    · have w1 : wrapI .i64 ((i : Int) + 1) = (i : Int) + 1 := wrap_in (by omega) (by omega)
      obtain ⟨⟨c, a, r, life, time, data⟩, hff⟩ : ∃ e, l[i] = e := ⟨_, rfl⟩
      have hlen : acc.length ≤ 1073741823 := by omega
      rw [← List.map_drop, List.drop_eq_getElem_cons h, hff, List.map_cons, List.map_drop] at hR
      have hix := rindex_pure fr a hfr
      obtain ⟨z1, z2⟩ := alook_zip a fr to_ hl
      by_cases hc : a ∈ fr
      · obtain ⟨k, k1, k2, k3⟩ := idxS_some hc
        rw [k2] at hix
        have hkl : k < to_.length := by have := (List.getElem?_eq_some_iff.1 k1).1; omega
        have hr : renE (fr.zip to_) ⟨c, a, r, life, time, data⟩ = ⟨c, to_[k], r, life, time, data⟩ := by
          simp only [renE, z2 k k1 k3, List.getElem?_eq_getElem hkl]
        rw [hr] at hR
        have hk0 : (0 : Int) ≤ (k : Int) := by omega
        ((try simp -implicitDefEqProofs [-loopQ_n, h, hff, evtC, w1, hlen, evt_snoc, hk0, hkl, strC]) <;> (repeat' (first | (refine condD_dec ?_ ?_ <;> (intro hc; (try simp -implicitDefEqProofs [-loopQ_n, hc, h, hff, evtC, w1, hlen, evt_snoc, hk0, hkl, strC]))) | (refine guardD_dec ?_ ?_ <;> (intro hc; (try simp -implicitDefEqProofs [-loopQ_n, hc, h, hff, evtC, w1, hlen, evt_snoc, hk0, hkl, strC]))) | (refine condD_intro ?_ ?_ <;> (intro hd; have hc := hd; (try simp at hc) <;> (try simp -implicitDefEqProofs [-loopQ_n, hd, hc, h, hff, evtC, w1, hlen, evt_snoc, hk0, hkl, strC]))) | (refine guardD_intro ?_ ?_ <;> (intro hd; have hc := hd; (try simp at hc) <;> (try simp -implicitDefEqProofs [-loopQ_n, hd, hc, h, hff, evtC, w1, hlen, evt_snoc, hk0, hkl, strC]))) | (refine ldD_ep ?_ ?_; (focus kernel_rfl); (try simp -implicitDefEqProofs [-loopQ_n, h, hff, evtC, w1, hlen, evt_snoc, hk0, hkl, strC])) | (refine callS_mk ?_; (try simp -implicitDefEqProofs [-loopQ_n, h, hff, evtC, w1, hlen, evt_snoc, hk0, hkl, strC]); (first | refine callS_intro (hix) (.inl rfl) ?_); (try simp -implicitDefEqProofs [-loopQ_n, h, hff, evtC, w1, hlen, evt_snoc, hk0, hkl, strC])))))
        refine loop_next (i + 1, acc ++ [⟨c, to_[k], r, life, time, data⟩]) ⟨by simp only; omega, by simp; omega, by rw [← hR]; simp⟩ (by simp only; omega) (weak_of 4 0 rfl rfl ?_ ?_) <;> simp [w1, evt_refs]
      · rw [idxS_none hc] at hix
        have hr : renE (fr.zip to_) ⟨c, a, r, life, time, data⟩ = ⟨c, a, r, life, time, data⟩ := by
          simp only [renE, z1 hc]
        rw [hr] at hR
        ((try simp -implicitDefEqProofs [-loopQ_n, h, hff, evtC, w1, hlen, evt_snoc]) <;> (repeat' (first | (refine condD_dec ?_ ?_ <;> (intro hc; (try simp -implicitDefEqProofs [-loopQ_n, hc, h, hff, evtC, w1, hlen, evt_snoc]))) | (refine guardD_dec ?_ ?_ <;> (intro hc; (try simp -implicitDefEqProofs [-loopQ_n, hc, h, hff, evtC, w1, hlen, evt_snoc]))) | (refine condD_intro ?_ ?_ <;> (intro hd; have hc := hd; (try simp at hc) <;> (try simp -implicitDefEqProofs [-loopQ_n, hd, hc, h, hff, evtC, w1, hlen, evt_snoc]))) | (refine guardD_intro ?_ ?_ <;> (intro hd; have hc := hd; (try simp at hc) <;> (try simp -implicitDefEqProofs [-loopQ_n, hd, hc, h, hff, evtC, w1, hlen, evt_snoc]))) | (refine ldD_ep ?_ ?_; (focus kernel_rfl); (try simp -implicitDefEqProofs [-loopQ_n, h, hff, evtC, w1, hlen, evt_snoc])) | (refine callS_mk ?_; (try simp -implicitDefEqProofs [-loopQ_n, h, hff, evtC, w1, hlen, evt_snoc]); (first | refine callS_intro (hix) (.inl rfl) ?_); (try simp -implicitDefEqProofs [-loopQ_n, h, hff, evtC, w1, hlen, evt_snoc])))))
        refine loop_next (i + 1, acc ++ [⟨c, a, r, life, time, data⟩]) ⟨by simp only; omega, by simp; omega, by rw [← hR]; simp⟩ (by simp only; omega) (weak_of 4 0 rfl rfl ?_ ?_) <;> simp [w1, evt_refs]
    · rw [List.drop_eq_nil_of_le (by simp; omega), List.append_nil] at hR
      rw [← hR]
      ((try simp -implicitDefEqProofs [-loopQ_n, h, logO, evt_reify]) <;> (repeat' (first | (refine condD_dec ?_ ?_ <;> (intro hc; (try simp -implicitDefEqProofs [-loopQ_n, hc, h, logO, evt_reify]))) | (refine guardD_dec ?_ ?_ <;> (intro hc; (try simp -implicitDefEqProofs [-loopQ_n, hc, h, logO, evt_reify]))) | (refine condD_intro ?_ ?_ <;> (intro hd; have hc := hd; (try simp at hc) <;> (try simp -implicitDefEqProofs [-loopQ_n, hd, hc, h, logO, evt_reify]))) | (refine guardD_intro ?_ ?_ <;> (intro hd; have hc := hd; (try simp at hc) <;> (try simp -implicitDefEqProofs [-loopQ_n, hd, hc, h, logO, evt_reify]))) | (refine ldD_ep ?_ ?_; (focus kernel_rfl); (try simp -implicitDefEqProofs [-loopQ_n, h, logO, evt_reify])))))
end Go.Proofs.YtnldjmokemgaoaaGreat
