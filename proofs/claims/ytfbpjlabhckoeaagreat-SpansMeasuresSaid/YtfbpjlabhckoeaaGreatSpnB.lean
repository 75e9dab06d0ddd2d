/- Busy times (program): what is active, slices.DeleteFunc of instances. -/
import Derived.Test.YtfbpjlabhckoeaaGreatSpnU
import Derived.Test.YtfbpjlabhckoeaaGreatAbMv
namespace Go.Proofs.YtfbpjlabhckoeaaGreat
set_option linter.unusedSimpArgs false
set_option linter.unusedVariables false
set_option linter.unnecessarySimpa false
set_option linter.unusedSectionVars false
open Go.RowKit
variable [Glob]
set_option maxRecDepth 100000
def actS (x : Ins) : Option Sp := if x.from_ < x.to_ then some ⟨x.from_, x.to_⟩ else none
def activeL (l : List Ins) : List Sp := l.filterMap actS
theorem activeL_len {l : List Ins} : (activeL l).length ≤ l.length := List.length_filterMap_le _ _
theorem activeL_mem {l : List Ins} {s : Sp} (h : s ∈ activeL l) : ∃ x ∈ l, x.from_ < x.to_ ∧ s = ⟨x.from_, x.to_⟩ := by
  obtain ⟨x, h1, h2⟩ := List.mem_filterMap.1 h
  unfold actS at h2
  split at h2
  · simp at h2; exact ⟨x, h1, by assumption, h2.symm⟩
  · cases h2
theorem active_ok {l : List Ins} (h : ∀ x ∈ l, insV x = true) : ∀ s ∈ activeL l, 0 ≤ s.f ∧ s.f < s.t ∧ s.t ≤ 1099511627776 := fun s hs => by
  obtain ⟨x, h1, h2, rfl⟩ := activeL_mem hs
  have := insV_bd (h x h1)
  simp only
  omega
set_option maxHeartbeats 8000000 in
theorem active_pure (l : List Ins) (hl : l.length ≤ 1000000) : Pure Tryz.prog 33 [.rs (rowsOf insC l)] (.rs (rowsOf spC (activeL l))) := by
  obtain ⟨R, hRR⟩ : ∃ R, activeL l = R := ⟨_, rfl⟩
  rw [hRR]
  refine pure_of mixed Tryz.func33 rfl (by kernel_rfl) (of_decide_eq_true rfl) (by kernel_rfl) (vc_run ?_)
  ((try simp -implicitDefEqProofs [-loopQ_n]) <;> (repeat' (first | (refine condD_dec ?_ ?_ <;> (intro hc; (try simp -implicitDefEqProofs [-loopQ_n, hc]))) | (refine guardD_dec ?_ ?_ <;> (intro hc; (try simp -implicitDefEqProofs [-loopQ_n, hc]))) | (refine condD_intro ?_ ?_ <;> (intro hd; have hc := hd; (try simp at hc) <;> (try simp -implicitDefEqProofs [-loopQ_n, hd, hc]))) | (refine guardD_intro ?_ ?_ <;> (intro hd; have hc := hd; (try simp at hc) <;> (try simp -implicitDefEqProofs [-loopQ_n, hd, hc]))) | (refine ldD_ep ?_ ?_; (focus kernel_rfl); (try simp -implicitDefEqProofs [-loopQ_n])))))
  refine loop_intro (σ := Nat × List Sp) (fun x => ⟨[(3, .os 0 x.2.length), (6, .rs (rowsOf insC l)), (7, .int .i64 l.length), (8, .int .i64 x.1)], [.row 48 true (rowsOf spC x.2)]⟩) (fun x => x.1 ≤ l.length ∧ x.2.length ≤ x.1 ∧ x.2 ++ activeL (l.drop x.1) = R) (fun x => l.length - x.1) (0, []) ⟨by simp, by simp, by simpa using hRR⟩ ?_ ?_
  · refine weak_of 0 1 rfl rfl ?_ ?_ <;> simp [ins_refs, rowsOf_nil]
  rintro ⟨i, acc⟩ ⟨hi, hal, hR⟩
  simp only at hi hal hR
  by_cases h : i < l.length
  · have w1 := w_succ' h (by omega)
    obtain ⟨⟨cs, a, r, t1, t2, t3⟩, hf⟩ : ∃ e, l[i] = e := ⟨_, rfl⟩
    rw [List.drop_eq_getElem_cons h, activeL, List.filterMap_cons, hf] at hR
    have hl1 : acc.length ≤ 1073741823 := by omega
    by_cases c1 : t2 < t3
    · have ha : actS ⟨cs, a, r, t1, t2, t3⟩ = some ⟨t2, t3⟩ := by simp [actS, c1]
      rw [ha] at hR
      simp only at hR
      ((try simp -implicitDefEqProofs [-loopQ_n, h, hf, insC, c1, w1, hl1, spU_snoc]) <;> (repeat' (first | (refine condD_dec ?_ ?_ <;> (intro hc; (try simp -implicitDefEqProofs [-loopQ_n, hc, h, hf, insC, c1, w1, hl1, spU_snoc]))) | (refine guardD_dec ?_ ?_ <;> (intro hc; (try simp -implicitDefEqProofs [-loopQ_n, hc, h, hf, insC, c1, w1, hl1, spU_snoc]))) | (refine condD_intro ?_ ?_ <;> (intro hd; have hc := hd; (try simp at hc) <;> (try simp -implicitDefEqProofs [-loopQ_n, hd, hc, h, hf, insC, c1, w1, hl1, spU_snoc]))) | (refine guardD_intro ?_ ?_ <;> (intro hd; have hc := hd; (try simp at hc) <;> (try simp -implicitDefEqProofs [-loopQ_n, hd, hc, h, hf, insC, c1, w1, hl1, spU_snoc]))) | (refine ldD_ep ?_ ?_; (focus kernel_rfl); (try simp -implicitDefEqProofs [-loopQ_n, h, hf, insC, c1, w1, hl1, spU_snoc])))))
      refine loop_next (i + 1, acc ++ [⟨t2, t3⟩]) ⟨h, by simp; omega, by rw [activeL]; simpa using hR⟩ (by simp only; omega) (weak_of 1 0 rfl rfl ?_ ?_) <;> simp [ins_refs, sp_refs]
    · have ha : actS ⟨cs, a, r, t1, t2, t3⟩ = none := by simp [actS, c1]
      rw [ha] at hR
      simp only at hR
      ((try simp -implicitDefEqProofs [-loopQ_n, h, hf, insC, c1, w1]) <;> (repeat' (first | (refine condD_dec ?_ ?_ <;> (intro hc; (try simp -implicitDefEqProofs [-loopQ_n, hc, h, hf, insC, c1, w1]))) | (refine guardD_dec ?_ ?_ <;> (intro hc; (try simp -implicitDefEqProofs [-loopQ_n, hc, h, hf, insC, c1, w1]))) | (refine condD_intro ?_ ?_ <;> (intro hd; have hc := hd; (try simp at hc) <;> (try simp -implicitDefEqProofs [-loopQ_n, hd, hc, h, hf, insC, c1, w1]))) | (refine guardD_intro ?_ ?_ <;> (intro hd; have hc := hd; (try simp at hc) <;> (try simp -implicitDefEqProofs [-loopQ_n, hd, hc, h, hf, insC, c1, w1]))) | (refine ldD_ep ?_ ?_; (focus kernel_rfl); (try simp -implicitDefEqProofs [-loopQ_n, h, hf, insC, c1, w1])))))
      refine loop_next (i + 1, acc) ⟨h, by simp only; omega, by rw [activeL]; exact hR⟩ (by simp only; omega) (weak_of 1 0 rfl rfl ?_ ?_) <;> simp [ins_refs, sp_refs]
  · rw [List.drop_eq_nil_of_le (by omega), activeL, List.filterMap_nil, List.append_nil] at hR
    subst hR
    ((try simp -implicitDefEqProofs [-loopQ_n, h, spU_reify]) <;> (repeat' (first | (refine condD_dec ?_ ?_ <;> (intro hc; (try simp -implicitDefEqProofs [-loopQ_n, hc, h, spU_reify]))) | (refine guardD_dec ?_ ?_ <;> (intro hc; (try simp -implicitDefEqProofs [-loopQ_n, hc, h, spU_reify]))) | (refine condD_intro ?_ ?_ <;> (intro hd; have hc := hd; (try simp at hc) <;> (try simp -implicitDefEqProofs [-loopQ_n, hd, hc, h, spU_reify]))) | (refine guardD_intro ?_ ?_ <;> (intro hd; have hc := hd; (try simp at hc) <;> (try simp -implicitDefEqProofs [-loopQ_n, hd, hc, h, spU_reify]))) | (refine ldD_ep ?_ ?_; (focus kernel_rfl); (try simp -implicitDefEqProofs [-loopQ_n, h, spU_reify])))))
theorem insI_set {M : List Ins} {i : Nat} {c a r : ByteArray} {t1 t2 t3 : Int} : (rowsOf insC M).set i [.str c, .str a, .str r, .int .i64 t1, .int .i64 t2, .int .i64 t3] = rowsOf insC (M.set i ⟨c, a, r, t1, t2, t3⟩) := by simp [rowsOf, insC, List.map_set]
def zIn : List AV := [.str ByteArray.empty, .str ByteArray.empty, .str ByteArray.empty, .int .i64 0, .int .i64 0, .int .i64 0]
theorem ins_mvL {id n m N : Nat} {l : List Ins} : (rowsOf insC l).map (mvL id n m N) = rowsOf insC l := by
  unfold rowsOf
  rw [List.map_map]
  exact List.map_congr_left fun x _ => rfl
theorem putR_take {rows ys : List (List AV)} {k : Nat} (h : k ≤ rows.length) : (putR rows k ys).take k = rows.take k := by
  unfold putR
  rw [List.append_assoc, List.take_append_of_le_length (by simp; omega), List.take_of_length_le (by simp; omega)]
theorem find_ofI {α : Type} {p : α → Bool} {l : List α} : (l.findIdx? p = none ∧ l.filter (fun x => !p x) = l) ∨ ∃ k, ∃ (h : k < l.length), l.findIdx? p = some k ∧ (∀ x ∈ l.take k, p x = false) ∧ p l[k] = true := by
  cases hk : l.findIdx? p with
  | none =>
    refine .inl ⟨rfl, ?_⟩
    rw [List.findIdx?_eq_none_iff] at hk
    exact List.filter_eq_self.2 fun x hx => by simp [hk x hx]
  | some k =>
    refine .inr ⟨k, ?_⟩
    rw [List.findIdx?_eq_some_iff_getElem] at hk
    obtain ⟨h1, h2, h3⟩ := hk
    refine ⟨h1, rfl, fun x hx => ?_, h2⟩
    obtain ⟨j, hj, rfl⟩ := List.getElem_of_mem hx
    have hjk : j < k := by simp at hj; omega
    rw [List.getElem_take]
    simpa using h3 j hjk
def DelK (b : Blk) (e : Nat) (nb : Bool) (l : List Ins) (p : Ins → Bool) (r : AV) (H : List Blk) : Prop :=
  (r = .os 1 l.length ∧ H = [b, .row e nb (rowsOf insC l)] ∧ l.filter (fun x => !p x) = l) ∨
  (∃ F, l.filter (fun x => !p x) = F ∧ r = .os 2 F.length ∧ H = [b, .gone, .row e nb (rowsOf insC F)])
set_option maxHeartbeats 16000000 in
/-- An own slice, of which those are left that p does not hold of. -/
theorem delB_G {g : Nat} {p : Ins → Bool} (res : ByteArray) (hp : ∀ x, Pure Tryz.prog g [.agg (insC x), .rp [.str res]] (.bool (p x))) (nb : Bool) (l : List Ins) (hl : l.length ≤ 2000) :
    CallG Tryz.prog 30 [.os 1 l.length, .fn g [.op 0 0]] [.box 9 [.str res], .row 61 nb (rowsOf insC l)] (DelK (.box 9 [.str res]) 61 nb l p) := by
  have hI := ins_idx (p := p) (l := l) (g := g) (caps := [.rp [.str res]]) (fun x _ => hp x) (fun H k => by simp) (by simp [refs]) (by omega)
  rcases find_ofI (p := p) (l := l) with ⟨f1, f2⟩ | ⟨k, hk, f1, f2, f3⟩
  · have hx : idxOf p l = -1 := by simp [idxOf, f1]
    rw [hx] at hI
    refine inl_G mixed Tryz.func30 rfl (by kernel_rfl) (of_decide_eq_true rfl) (by kernel_rfl) (vc_run ?_)
    ((try simp -implicitDefEqProofs [-loopQ_n, ins_reify]) <;> (repeat' (first | (refine condD_dec ?_ ?_ <;> (intro hc; (try simp -implicitDefEqProofs [-loopQ_n, hc, ins_reify]))) | (refine guardD_dec ?_ ?_ <;> (intro hc; (try simp -implicitDefEqProofs [-loopQ_n, hc, ins_reify]))) | (refine condD_intro ?_ ?_ <;> (intro hd; have hc := hd; (try simp at hc) <;> (try simp -implicitDefEqProofs [-loopQ_n, hd, hc, ins_reify]))) | (refine guardD_intro ?_ ?_ <;> (intro hd; have hc := hd; (try simp at hc) <;> (try simp -implicitDefEqProofs [-loopQ_n, hd, hc, ins_reify]))) | (refine ldD_ep ?_ ?_; (focus kernel_rfl); (try simp -implicitDefEqProofs [-loopQ_n, ins_reify])) | (refine callS_mk ?_; (try simp -implicitDefEqProofs [-loopQ_n, ins_reify]); (first | refine callS_intro (hI) (.inl rfl) ?_); (try simp -implicitDefEqProofs [-loopQ_n, ins_reify])))))
    exact endG_r (.os 1 l.length) (by simp) (.inl ⟨rfl, rfl, f2⟩)
  · have hx : idxOf p l = (k : Int) := by simp [idxOf, f1]
    rw [hx] at hI
    have n1 : ¬ (k : Int) = -1 := by omega
    have w0 := w_succ' (i := k) (n := l.length) hk (by omega)
    obtain ⟨n, hn⟩ : ∃ n, l.length = n := ⟨_, rfl⟩
    rw [hn] at hl hk
    refine inl_G mixed Tryz.func30 rfl (by kernel_rfl) (of_decide_eq_true rfl) (by kernel_rfl) (vc_run ?_)
    ((try simp -implicitDefEqProofs [-loopQ_n, n1, w0, hn, ins_reify]) <;> (repeat' (first | (refine condD_dec ?_ ?_ <;> (intro hc; (try simp -implicitDefEqProofs [-loopQ_n, hc, n1, w0, hn, ins_reify]))) | (refine guardD_dec ?_ ?_ <;> (intro hc; (try simp -implicitDefEqProofs [-loopQ_n, hc, n1, w0, hn, ins_reify]))) | (refine condD_intro ?_ ?_ <;> (intro hd; have hc := hd; (try simp at hc) <;> (try simp -implicitDefEqProofs [-loopQ_n, hd, hc, n1, w0, hn, ins_reify]))) | (refine guardD_intro ?_ ?_ <;> (intro hd; have hc := hd; (try simp at hc) <;> (try simp -implicitDefEqProofs [-loopQ_n, hd, hc, n1, w0, hn, ins_reify]))) | (refine ldD_ep ?_ ?_; (focus kernel_rfl); (try simp -implicitDefEqProofs [-loopQ_n, n1, w0, hn, ins_reify])) | (refine callS_mk ?_; (try simp -implicitDefEqProofs [-loopQ_n, n1, w0, hn, ins_reify]); (first | refine callS_intro (hI) (.inl rfl) ?_); (try simp -implicitDefEqProofs [-loopQ_n, n1, w0, hn, ins_reify])))))
    refine loop_intro (σ := Nat × Nat × List Ins) (fun x => ⟨[(0, .os 1 n), (1, .fn g [.op 0 0]), (5, .int .i64 x.2.1), (6, .int .i64 x.1)], [.box 9 [.str res], .row 61 nb (rowsOf insC x.2.2)]⟩)
      (fun x => x.1 ≤ n ∧ x.2.1 < x.1 ∧ x.2.2.length = n ∧ x.2.2.drop x.1 = l.drop x.1 ∧ x.2.2.take x.2.1 = (l.take x.1).filter (fun x => !p x) ∧ x.2.1 = ((l.take x.1).filter (fun x => !p x)).length) (fun x => n - x.1) (k + 1, k, l) ?_ ?_ ?_
    · have h3 : (l.take k).filter (fun x => !p x) = l.take k := List.filter_eq_self.2 fun x hx => by simpa using f2 x hx
      have h4 : (l.take (k + 1)).filter (fun x => !p x) = l.take k := by
        rw [List.take_succ_eq_append_getElem (by omega), List.filter_append, h3]
        simp [f3]
      exact ⟨by simp only; omega, by simp, hn, rfl, by rw [h4], by rw [h4]; simp; omega⟩
    · refine weak_ofL 2 0 (by simp) (by simp) rfl ?_ ?_ <;> simp [ins_refs]
    rintro ⟨j, i, M⟩ ⟨hj, hij, hM, hd, ht, hc⟩
    simp only at hj hij hM hd ht hc
    by_cases h : j < n
    · have h2 : j < M.length := by omega
      have h2' : j < l.length := by omega
      have w1 := w_succ' h (by omega)
      have w2 := w_succ' (i := i) (n := n) (by omega) (by omega)
      have he : M[j] = l[j] := by
        have := congrArg (fun z : List Ins => z[0]?) hd
        simp only [List.getElem?_drop, Nat.add_zero] at this
        rw [List.getElem?_eq_getElem h2, List.getElem?_eq_getElem h2'] at this
        simpa using this
      have hd1 : M.drop (j + 1) = l.drop (j + 1) := by
        have := congrArg (List.drop 1) hd
        simpa [List.drop_drop, Nat.add_comm] using this
      have hP := hp l[j]
      have hts : (l.take (j + 1)).filter (fun x => !p x) = (l.take j).filter (fun x => !p x) ++ [l[j]].filter (fun x => !p x) := by
        rw [List.take_succ_eq_append_getElem h2', List.filter_append]
      obtain ⟨⟨c, a, r, t1, t2, t3⟩, hf⟩ : ∃ e, l[j] = e := ⟨_, rfl⟩
      rw [hf] at he hP hts
      simp only [insC] at hP
      cases hv : p ⟨c, a, r, t1, t2, t3⟩ with
      | true =>
        rw [hv] at hP
        simp only [List.filter_cons, hv, Bool.not_true, Bool.false_eq_true, if_false, List.filter_nil, List.append_nil] at hts
        ((try simp -implicitDefEqProofs [-loopQ_n, h, h2, hM, he, insC, w1]) <;> (repeat' (first | (refine condD_dec ?_ ?_ <;> (intro hc; (try simp -implicitDefEqProofs [-loopQ_n, hc, h, h2, hM, he, insC, w1]))) | (refine guardD_dec ?_ ?_ <;> (intro hc; (try simp -implicitDefEqProofs [-loopQ_n, hc, h, h2, hM, he, insC, w1]))) | (refine condD_intro ?_ ?_ <;> (intro hd; have hc := hd; (try simp at hc) <;> (try simp -implicitDefEqProofs [-loopQ_n, hd, hc, h, h2, hM, he, insC, w1]))) | (refine guardD_intro ?_ ?_ <;> (intro hd; have hc := hd; (try simp at hc) <;> (try simp -implicitDefEqProofs [-loopQ_n, hd, hc, h, h2, hM, he, insC, w1]))) | (refine ldD_ep ?_ ?_; (focus kernel_rfl); (try simp -implicitDefEqProofs [-loopQ_n, h, h2, hM, he, insC, w1])) | (refine callS_mk ?_; (try simp -implicitDefEqProofs [-loopQ_n, h, h2, hM, he, insC, w1]); (first | refine callS_intro (hP) (.inl rfl) ?_); (try simp -implicitDefEqProofs [-loopQ_n, h, h2, hM, he, insC, w1])))))
        refine loop_next (j + 1, i, M) ⟨by simp only; omega, by simp only; omega, hM, hd1, by rw [hts]; exact ht, by rw [hts]; exact hc⟩ (by simp only; omega) (weak_ofL 2 0 (by simp) (by simp) rfl ?_ ?_) <;> simp [ins_refs]
      | false =>
        rw [hv] at hP
        simp only [List.filter_cons, hv, Bool.not_false, if_true, List.filter_nil] at hts
        have h3 : i < n := by omega
        ((try simp -implicitDefEqProofs [-loopQ_n, h, h2, h3, hM, he, insC, w1, w2, insI_set]) <;> (repeat' (first | (refine condD_dec ?_ ?_ <;> (intro hc; (try simp -implicitDefEqProofs [-loopQ_n, hc, h, h2, h3, hM, he, insC, w1, w2, insI_set]))) | (refine guardD_dec ?_ ?_ <;> (intro hc; (try simp -implicitDefEqProofs [-loopQ_n, hc, h, h2, h3, hM, he, insC, w1, w2, insI_set]))) | (refine condD_intro ?_ ?_ <;> (intro hd; have hc := hd; (try simp at hc) <;> (try simp -implicitDefEqProofs [-loopQ_n, hd, hc, h, h2, h3, hM, he, insC, w1, w2, insI_set]))) | (refine guardD_intro ?_ ?_ <;> (intro hd; have hc := hd; (try simp at hc) <;> (try simp -implicitDefEqProofs [-loopQ_n, hd, hc, h, h2, h3, hM, he, insC, w1, w2, insI_set]))) | (refine ldD_ep ?_ ?_; (focus kernel_rfl); (try simp -implicitDefEqProofs [-loopQ_n, h, h2, h3, hM, he, insC, w1, w2, insI_set])) | (refine callS_mk ?_; (try simp -implicitDefEqProofs [-loopQ_n, h, h2, h3, hM, he, insC, w1, w2, insI_set]); (first | refine callS_intro (hP) (.inl rfl) ?_); (try simp -implicitDefEqProofs [-loopQ_n, h, h2, h3, hM, he, insC, w1, w2, insI_set])))))
        refine loop_next (j + 1, i + 1, M.set i ⟨c, a, r, t1, t2, t3⟩) ⟨by simp only; omega, by simp only; omega, by simpa using hM, ?_, ?_, by rw [hts]; simp; omega⟩ (by simp only; omega) (weak_ofL 2 0 (by simp) (by simp) rfl ?_ ?_)
        · simp only
          rw [List.drop_set_of_lt (by omega)]; exact hd1
        · simp only
          rw [hts, ← ht]
          have hi2 : i < M.length := by omega
          rw [List.take_succ_eq_append_getElem (by simpa using hi2), List.take_set_of_le (Nat.le_refl _)]
          simp
        · simp
        · simp [ins_refs]
    · have hjn : j = n := by omega
      subst hjn
      have ht2 : M.take i = l.filter (fun x => !p x) := by rw [ht, List.take_of_length_le (by omega)]
      have q1 : (i : Int) ≤ j := by omega
      have q2 : 0 < j := by omega
      have q3 : i ≤ j := by omega
      have hil : (l.filter (fun x => !p x)).length = i := by rw [← ht2]; simp; omega
      have hP : (putR (rowsOf insC M) i (List.replicate (j - i) [AV.str ByteArray.empty, AV.str ByteArray.empty, AV.str ByteArray.empty, AV.int IntKind.i64 0, AV.int IntKind.i64 0, AV.int IntKind.i64 0])).length = j := by
        rw [putR_len (by simp [rowsOf]; omega), rowsOf_length, hM]
      have hT : (putR (rowsOf insC M) i (List.replicate (j - i) [AV.str ByteArray.empty, AV.str ByteArray.empty, AV.str ByteArray.empty, AV.int IntKind.i64 0, AV.int IntKind.i64 0, AV.int IntKind.i64 0])).take i = rowsOf insC (l.filter (fun x => !p x)) := by
        rw [putR_take (by rw [rowsOf_length]; omega), rowsOf_take, ht2]
      ((try simp -implicitDefEqProofs [-loopQ_n, h, hM, q1, q2, q3, hP]) <;> (repeat' (first | (refine condD_dec ?_ ?_ <;> (intro hc; (try simp -implicitDefEqProofs [-loopQ_n, hc, h, hM, q1, q2, q3, hP]))) | (refine guardD_dec ?_ ?_ <;> (intro hc; (try simp -implicitDefEqProofs [-loopQ_n, hc, h, hM, q1, q2, q3, hP]))) | (refine condD_intro ?_ ?_ <;> (intro hd; have hc := hd; (try simp at hc) <;> (try simp -implicitDefEqProofs [-loopQ_n, hd, hc, h, hM, q1, q2, q3, hP]))) | (refine guardD_intro ?_ ?_ <;> (intro hd; have hc := hd; (try simp at hc) <;> (try simp -implicitDefEqProofs [-loopQ_n, hd, hc, h, hM, q1, q2, q3, hP]))) | (refine ldD_ep ?_ ?_; (focus kernel_rfl); (try simp -implicitDefEqProofs [-loopQ_n, h, hM, q1, q2, q3, hP])))))
      generalize putR (rowsOf insC M) i (List.replicate (j - i) [AV.str ByteArray.empty, AV.str ByteArray.empty, AV.str ByteArray.empty, AV.int IntKind.i64 0, AV.int IntKind.i64 0, AV.int IntKind.i64 0]) = R at hP hT ⊢
      refine ⟨.ow 1 j 0 i, .os 2 i, [.box 9 [.str res], .gone, .row 61 nb (rowsOf insC (l.filter (fun x => !p x)))], by simp, ?_, .inr ⟨_, rfl, by rw [hil], rfl⟩⟩
      have := weak_mv (P := Tryz.prog) (L := 2) (s := ⟨[(0, .ow 1 j 0 i)], [.box 9 [.str res], .row 61 nb R]⟩) 1 j i 61 nb R rfl hP (by omega) (by omega)
      rw [hT] at this
      simpa [mvT, mvA, mvH, mvB, mvL, ins_mvL] using this
end Go.Proofs.YtfbpjlabhckoeaaGreat
