/- Lines: Join of both sides. -/
import Derived.Test.YtlcblpofikijmaaLin6
namespace Go.Proofs.Ytlcblpofikijmaa
set_option linter.unusedSimpArgs false
set_option linter.unusedVariables false
set_option linter.unnecessarySimpa false
set_option linter.unusedSectionVars false
open Go.RowKit
variable [Glob]
set_option maxRecDepth 100000
theorem strs_idx {p : ByteArray → Bool} {l : List ByteArray} {g : Nat} {caps : List AV} (hp : ∀ x ∈ l, Pure Try.prog g (.str x :: caps) (.bool (p x))) (hc : ∀ H k, caps.mapM (reify H (k + 5)) = some caps) (hf : refsL 0 caps = true) (hl : l.length ≤ 9223372036854775807) :
    Pure Try.prog 59 [.rs (rowsOf strC l), .fn g caps] (.int .i64 (idxOf p l)) := by
  refine pure_of mixed Try.func59 rfl (by kernel_rfl) (of_decide_eq_true rfl) (by kernel_rfl) (vc_run ?_)
  simp -implicitDefEqProofs
  refine loop_intro (σ := Nat) (fun i => ⟨[(0, .rs (rowsOf strC l)), (1, .fn g caps), (7, .int .i64 l.length), (8, .int .i64 i)], []⟩) (fun i => i ≤ l.length ∧ allF p (l.take i)) (fun i => l.length - i) 0 ⟨Nat.zero_le _, allF_nil⟩ ?_ ?_
  · refine weak_of 0 0 rfl rfl ?_ ?_ <;> simp [hf]
  · rintro i ⟨hi, hall⟩
    by_cases h : i < l.length
    · simp -implicitDefEqProofs [h, strC]
      have hc8 : ∀ H, caps.mapM (reify H 8) = some caps := fun H => hc H 3
      refine call_intro (hp l[i] (by simp)) (by simp -implicitDefEqProofs [hc8, strC]) (.inl rfl) ?_
      by_cases hpx : p l[i] = true
      · simp -implicitDefEqProofs [hpx]
        exact (idxOf_some p l i h hall hpx).symm
      · have hpx : p l[i] = false := by simpa using hpx
        simp -implicitDefEqProofs [hpx]
        refine ⟨i + 1, ⟨by omega, allF_succ hall h hpx⟩, by omega, weak_of 0 0 rfl rfl ?_ ?_⟩
        · simp [hf]
          exact (wrap_in (by omega) (by omega)).symm
        · simp
    · simp -implicitDefEqProofs [h]
      rw [idxOf_none p l (allF_all hall h)]
theorem strs_any {p : ByteArray → Bool} {l : List ByteArray} {g : Nat} {caps : List AV} (hp : ∀ x ∈ l, Pure Try.prog g (.str x :: caps) (.bool (p x))) (hc : ∀ H k, caps.mapM (reify H (k + 5)) = some caps) (hf : refsL 0 caps = true) (hl : l.length ≤ 9223372036854775807) :
    Pure Try.prog 33 [.rs (rowsOf strC l), .fn g caps] (.bool (l.any p)) := by
  refine pure_of mixed Try.func33 rfl (by kernel_rfl) (of_decide_eq_true rfl) (by kernel_rfl) (vc_run ?_)
  simp -implicitDefEqProofs
  have hc7 : ∀ H, caps.mapM (reify H 7) = some caps := fun H => hc H 2
  refine call_intro (strs_idx hp hc hf hl) (by simp -implicitDefEqProofs [hc7]) (.inl rfl) ?_
  simp -implicitDefEqProofs
  rw [← ge_idxOf]

def tokS (s : ByteArray) : ByteArray := if bareS s = true then s else litS s
def joinR (l : List ByteArray) : Except Int (List UInt8) := if 1000 < l.length then .error 5 else if l.all prS = true then (if 16384 < (jn (l.map fun s => bl (tokS s))).length then .error 5 else .ok (jn (l.map fun s => bl (tokS s)))) else .error 3
theorem esc_len (l : List UInt8) : (l.flatMap esc).length ≤ 2 * l.length := by
  induction l with
  | nil => simp
  | cons c r ih =>
    simp only [List.flatMap_cons, List.length_append, List.length_cons]
    have : (esc c).length ≤ 2 := by unfold esc; split <;> simp
    omega
theorem tok_size {s : ByteArray} (h : s.size ≤ 200) : (tokS s).size ≤ 402 := by
  unfold tokS
  split
  · omega
  · have := esc_len (bl s)
    rw [litS, baSize, litL]
    simp at this ⊢
    omega
theorem join1_pure (s : ByteArray) (hs : s.size ≤ 1000000) : Pure Try.prog 41 [.str s] (.bool (!prS s)) := by
  refine pure_of mixed Try.func41 rfl (by kernel_rfl) (of_decide_eq_true rfl) (by kernel_rfl) (vc_run ?_)
  ((try simp -implicitDefEqProofs [-loopQ_n]) <;> (repeat' (first | (refine condD_dec ?_ ?_ <;> (intro hc; (try simp -implicitDefEqProofs [-loopQ_n, hc]))) | (refine guardD_dec ?_ ?_ <;> (intro hc; (try simp -implicitDefEqProofs [-loopQ_n, hc]))) | (refine condD_intro ?_ ?_ <;> (intro hd; have hc := hd; (try simp at hc) <;> (try simp -implicitDefEqProofs [-loopQ_n, hd, hc]))) | (refine guardD_intro ?_ ?_ <;> (intro hd; have hc := hd; (try simp at hc) <;> (try simp -implicitDefEqProofs [-loopQ_n, hd, hc]))) | (refine ldD_ep ?_ ?_; (focus kernel_rfl); (try simp -implicitDefEqProofs [-loopQ_n])) | (refine callS_mk ?_; (try simp -implicitDefEqProofs [-loopQ_n]); (first | refine callS_intro (printable_pure s hs) (.inl rfl) ?_); (try simp -implicitDefEqProofs [-loopQ_n])))))
theorem anyN {l : List ByteArray} : (l.any fun s => !prS s) = !l.all prS := by simp [List.any_eq_not_all_not]
def tkL (l : List ByteArray) (i : Nat) : List ByteArray := (l.take i).map tokS
theorem tkL_len {l : List ByteArray} {i : Nat} (h : i ≤ l.length) : (tkL l i).length = i := by simp [tkL]; omega
theorem tkL_suc {l : List ByteArray} {i : Nat} (h : i < l.length) : tkL l (i + 1) = tkL l i ++ [tokS l[i]] := by
  unfold tkL
  rw [List.take_add_one, List.map_append]
  simp [h]
theorem tkL_all {l : List ByteArray} : tkL l l.length = l.map tokS := by simp [tkL]
set_option maxHeartbeats 8000000 in
theorem joinP_pure (l : List ByteArray) (hl : l.length ≤ 1000000) (hx : ∀ x ∈ l, x.size ≤ 200) : Pure Try.prog 14 [.rs (rowsOf strC l)] (exS (joinR l)) := by
  refine pure_of mixed Try.func14 rfl (by kernel_rfl) (of_decide_eq_true rfl) (by kernel_rfl) (vc_run ?_)
  by_cases h1 : 1000 < l.length
  · have h1' : (1000 : Int) < l.length := by omega
    ((try simp -implicitDefEqProofs [-loopQ_n, h1']) <;> (repeat' (first | (refine condD_dec ?_ ?_ <;> (intro hc; (try simp -implicitDefEqProofs [-loopQ_n, hc, h1']))) | (refine guardD_dec ?_ ?_ <;> (intro hc; (try simp -implicitDefEqProofs [-loopQ_n, hc, h1']))) | (refine condD_intro ?_ ?_ <;> (intro hd; have hc := hd; (try simp at hc) <;> (try simp -implicitDefEqProofs [-loopQ_n, hd, hc, h1']))) | (refine guardD_intro ?_ ?_ <;> (intro hd; have hc := hd; (try simp at hc) <;> (try simp -implicitDefEqProofs [-loopQ_n, hd, hc, h1']))) | (refine ldD_ep ?_ ?_; (focus kernel_rfl); (try simp -implicitDefEqProofs [-loopQ_n, h1'])))))
    simp [joinR, h1, exS]
  have h1' : ¬ (1000 : Int) < l.length := by omega
  have hA := strs_any (p := fun s => !prS s) (l := l) (g := 41) (caps := []) (fun x hm => join1_pure x (by have := hx x hm; omega)) (fun H k => rfl) rfl (by omega)
  rw [anyN] at hA
  by_cases h3 : l.all prS = true
  · rw [h3] at hA
    ((try simp -implicitDefEqProofs [-loopQ_n, h1']) <;> (repeat' (first | (refine condD_dec ?_ ?_ <;> (intro hc; (try simp -implicitDefEqProofs [-loopQ_n, hc, h1']))) | (refine guardD_dec ?_ ?_ <;> (intro hc; (try simp -implicitDefEqProofs [-loopQ_n, hc, h1']))) | (refine condD_intro ?_ ?_ <;> (intro hd; have hc := hd; (try simp at hc) <;> (try simp -implicitDefEqProofs [-loopQ_n, hd, hc, h1']))) | (refine guardD_intro ?_ ?_ <;> (intro hd; have hc := hd; (try simp at hc) <;> (try simp -implicitDefEqProofs [-loopQ_n, hd, hc, h1']))) | (refine ldD_ep ?_ ?_; (focus kernel_rfl); (try simp -implicitDefEqProofs [-loopQ_n, h1'])) | (refine callS_mk ?_; (try simp -implicitDefEqProofs [-loopQ_n, h1']); (first | refine callS_intro (hA) (.inl rfl) ?_); (try simp -implicitDefEqProofs [-loopQ_n, h1'])))))
    refine loop_intro (σ := Nat) (fun i => ⟨[(4, .os 0 i), (13, .rs (rowsOf strC l)), (14, .int .i64 l.length), (15, .int .i64 i)], [.row 9 true (rowsOf strC (tkL l i))]⟩) (fun i => i ≤ l.length) (fun i => l.length - i) 0 (by omega) ?_ ?_
    · refine weak_of 0 1 rfl rfl ?_ ?_ <;> simp [tkL, rowsOf]
    rintro i hi
    by_cases h : i < l.length
    · have w1 := w_suc h (by omega)
      have hi1 : i ≤ 1073741823 := by omega
      have hsz := hx l[i] (by simp)
      have htl := tkL_len hi
      have hts := tkL_suc h
      by_cases hb : bareS l[i] = true
      · have ht : tokS l[i] = l[i] := by simp [tokS, hb]
        rw [ht] at hts
        ((try simp -implicitDefEqProofs [-loopQ_n, h, w1, hi1, strC, hb, htl, strC_len, strC_snoc]) <;> (repeat' (first | (refine condD_dec ?_ ?_ <;> (intro hc; (try simp -implicitDefEqProofs [-loopQ_n, hc, h, w1, hi1, strC, hb, htl, strC_len, strC_snoc]))) | (refine guardD_dec ?_ ?_ <;> (intro hc; (try simp -implicitDefEqProofs [-loopQ_n, hc, h, w1, hi1, strC, hb, htl, strC_len, strC_snoc]))) | (refine condD_intro ?_ ?_ <;> (intro hd; have hc := hd; (try simp at hc) <;> (try simp -implicitDefEqProofs [-loopQ_n, hd, hc, h, w1, hi1, strC, hb, htl, strC_len, strC_snoc]))) | (refine guardD_intro ?_ ?_ <;> (intro hd; have hc := hd; (try simp at hc) <;> (try simp -implicitDefEqProofs [-loopQ_n, hd, hc, h, w1, hi1, strC, hb, htl, strC_len, strC_snoc]))) | (refine ldD_ep ?_ ?_; (focus kernel_rfl); (try simp -implicitDefEqProofs [-loopQ_n, h, w1, hi1, strC, hb, htl, strC_len, strC_snoc])) | (refine callS_mk ?_; (try simp -implicitDefEqProofs [-loopQ_n, h, w1, hi1, strC, hb, htl, strC_len, strC_snoc]); (first | refine callS_intro (bare_pure l[i]) (.inl rfl) ?_); (try simp -implicitDefEqProofs [-loopQ_n, h, w1, hi1, strC, hb, htl, strC_len, strC_snoc])))))
        rw [← hts]
        refine loop_next (i + 1) h (by omega) (weak_of 1 0 rfl rfl ?_ ?_) <;> simp [strC_refs]
      · have ht : tokS l[i] = litS l[i] := by simp [tokS, hb]
        have hb : bareS l[i] = false := by simpa using hb
        rw [ht] at hts
        ((try simp -implicitDefEqProofs [-loopQ_n, h, w1, hi1, strC, hb, htl, strC_len, strC_snoc]) <;> (repeat' (first | (refine condD_dec ?_ ?_ <;> (intro hc; (try simp -implicitDefEqProofs [-loopQ_n, hc, h, w1, hi1, strC, hb, htl, strC_len, strC_snoc]))) | (refine guardD_dec ?_ ?_ <;> (intro hc; (try simp -implicitDefEqProofs [-loopQ_n, hc, h, w1, hi1, strC, hb, htl, strC_len, strC_snoc]))) | (refine condD_intro ?_ ?_ <;> (intro hd; have hc := hd; (try simp at hc) <;> (try simp -implicitDefEqProofs [-loopQ_n, hd, hc, h, w1, hi1, strC, hb, htl, strC_len, strC_snoc]))) | (refine guardD_intro ?_ ?_ <;> (intro hd; have hc := hd; (try simp at hc) <;> (try simp -implicitDefEqProofs [-loopQ_n, hd, hc, h, w1, hi1, strC, hb, htl, strC_len, strC_snoc]))) | (refine ldD_ep ?_ ?_; (focus kernel_rfl); (try simp -implicitDefEqProofs [-loopQ_n, h, w1, hi1, strC, hb, htl, strC_len, strC_snoc])) | (refine callS_mk ?_; (try simp -implicitDefEqProofs [-loopQ_n, h, w1, hi1, strC, hb, htl, strC_len, strC_snoc]); (first | refine callS_intro (bare_pure l[i]) (.inl rfl) ?_ | refine callS_intro (literal_pure l[i] (by omega)) (.inl rfl) ?_); (try simp -implicitDefEqProofs [-loopQ_n, h, w1, hi1, strC, hb, htl, strC_len, strC_snoc])))))
        rw [← hts]
        refine loop_next (i + 1) h (by omega) (weak_of 1 0 rfl rfl ?_ ?_) <;> simp [strC_refs]
    · have hi2 : i = l.length := by omega
      subst hi2
      have hJ := join_pure (l.map tokS) " ".toByteArray sp_lit (by simp; omega) (fun x hm => by
        simp only [List.mem_map] at hm
        obtain ⟨y, hy, rfl⟩ := hm
        have := tok_size (hx y hy); omega)
      have hj : jnS (l.map tokS) = ⟨(jn (l.map fun s => bl (tokS s))).toArray⟩ := by simp [jnS, Function.comp_def]
      rw [hj] at hJ
      by_cases hc : 16384 < (jn (l.map fun s => bl (tokS s))).length
      · have hc' : (16384 : Int) < (jn (l.map fun s => bl (tokS s))).length := by omega
        ((try simp -implicitDefEqProofs [-loopQ_n, h, sl_reify, tkL_all, strC_len, hc', baSize]) <;> (repeat' (first | (refine condD_dec ?_ ?_ <;> (intro hc; (try simp -implicitDefEqProofs [-loopQ_n, hc, h, sl_reify, tkL_all, strC_len, hc', baSize]))) | (refine guardD_dec ?_ ?_ <;> (intro hc; (try simp -implicitDefEqProofs [-loopQ_n, hc, h, sl_reify, tkL_all, strC_len, hc', baSize]))) | (refine condD_intro ?_ ?_ <;> (intro hd; have hc := hd; (try simp at hc) <;> (try simp -implicitDefEqProofs [-loopQ_n, hd, hc, h, sl_reify, tkL_all, strC_len, hc', baSize]))) | (refine guardD_intro ?_ ?_ <;> (intro hd; have hc := hd; (try simp at hc) <;> (try simp -implicitDefEqProofs [-loopQ_n, hd, hc, h, sl_reify, tkL_all, strC_len, hc', baSize]))) | (refine ldD_ep ?_ ?_; (focus kernel_rfl); (try simp -implicitDefEqProofs [-loopQ_n, h, sl_reify, tkL_all, strC_len, hc', baSize])) | (refine callS_mk ?_; (try simp -implicitDefEqProofs [-loopQ_n, h, sl_reify, tkL_all, strC_len, hc', baSize]); (first | refine callS_intro (hJ) (.inl rfl) ?_); (try simp -implicitDefEqProofs [-loopQ_n, h, sl_reify, tkL_all, strC_len, hc', baSize])))))
        simp [joinR, h1, h3, hc, exS]
      · have hc' : ¬ (16384 : Int) < (jn (l.map fun s => bl (tokS s))).length := by omega
        ((try simp -implicitDefEqProofs [-loopQ_n, h, sl_reify, tkL_all, strC_len, hc', baSize]) <;> (repeat' (first | (refine condD_dec ?_ ?_ <;> (intro hc; (try simp -implicitDefEqProofs [-loopQ_n, hc, h, sl_reify, tkL_all, strC_len, hc', baSize]))) | (refine guardD_dec ?_ ?_ <;> (intro hc; (try simp -implicitDefEqProofs [-loopQ_n, hc, h, sl_reify, tkL_all, strC_len, hc', baSize]))) | (refine condD_intro ?_ ?_ <;> (intro hd; have hc := hd; (try simp at hc) <;> (try simp -implicitDefEqProofs [-loopQ_n, hd, hc, h, sl_reify, tkL_all, strC_len, hc', baSize]))) | (refine guardD_intro ?_ ?_ <;> (intro hd; have hc := hd; (try simp at hc) <;> (try simp -implicitDefEqProofs [-loopQ_n, hd, hc, h, sl_reify, tkL_all, strC_len, hc', baSize]))) | (refine ldD_ep ?_ ?_; (focus kernel_rfl); (try simp -implicitDefEqProofs [-loopQ_n, h, sl_reify, tkL_all, strC_len, hc', baSize])) | (refine callS_mk ?_; (try simp -implicitDefEqProofs [-loopQ_n, h, sl_reify, tkL_all, strC_len, hc', baSize]); (first | refine callS_intro (hJ) (.inl rfl) ?_); (try simp -implicitDefEqProofs [-loopQ_n, h, sl_reify, tkL_all, strC_len, hc', baSize])))))
        simp [joinR, h1, h3, hc, exS]
  · have h3 : l.all prS = false := by simpa using h3
    rw [h3] at hA
    ((try simp -implicitDefEqProofs [-loopQ_n, h1']) <;> (repeat' (first | (refine condD_dec ?_ ?_ <;> (intro hc; (try simp -implicitDefEqProofs [-loopQ_n, hc, h1']))) | (refine guardD_dec ?_ ?_ <;> (intro hc; (try simp -implicitDefEqProofs [-loopQ_n, hc, h1']))) | (refine condD_intro ?_ ?_ <;> (intro hd; have hc := hd; (try simp at hc) <;> (try simp -implicitDefEqProofs [-loopQ_n, hd, hc, h1']))) | (refine guardD_intro ?_ ?_ <;> (intro hd; have hc := hd; (try simp at hc) <;> (try simp -implicitDefEqProofs [-loopQ_n, hd, hc, h1']))) | (refine ldD_ep ?_ ?_; (focus kernel_rfl); (try simp -implicitDefEqProofs [-loopQ_n, h1'])) | (refine callS_mk ?_; (try simp -implicitDefEqProofs [-loopQ_n, h1']); (first | refine callS_intro (hA) (.inl rfl) ?_); (try simp -implicitDefEqProofs [-loopQ_n, h1'])))))
    simp [joinR, h1, h3, exS]
set_option maxHeartbeats 8000000 in
theorem rjoin_pure (l : List ByteArray) (hl : l.length ≤ 1000000) (hx : ∀ x ∈ l, x.size ≤ 200) : Pure Try.prog 15 [.rs (rowsOf strC l)] (exS (joinR l)) := by
  refine pure_of mixed Try.func15 rfl (by kernel_rfl) (of_decide_eq_true rfl) (by kernel_rfl) (vc_run ?_)
  by_cases h1 : 1000 < l.length
  · have h1' : (1000 : Int) < l.length := by omega
    ((try simp -implicitDefEqProofs [-loopQ_n, h1']) <;> (repeat' (first | (refine condD_dec ?_ ?_ <;> (intro hc; (try simp -implicitDefEqProofs [-loopQ_n, hc, h1']))) | (refine guardD_dec ?_ ?_ <;> (intro hc; (try simp -implicitDefEqProofs [-loopQ_n, hc, h1']))) | (refine condD_intro ?_ ?_ <;> (intro hd; have hc := hd; (try simp at hc) <;> (try simp -implicitDefEqProofs [-loopQ_n, hd, hc, h1']))) | (refine guardD_intro ?_ ?_ <;> (intro hd; have hc := hd; (try simp at hc) <;> (try simp -implicitDefEqProofs [-loopQ_n, hd, hc, h1']))) | (refine ldD_ep ?_ ?_; (focus kernel_rfl); (try simp -implicitDefEqProofs [-loopQ_n, h1'])))))
    simp [joinR, h1, exS]
  have h1' : ¬ (1000 : Int) < l.length := by omega
  ((try simp -implicitDefEqProofs [-loopQ_n, h1']) <;> (repeat' (first | (refine condD_dec ?_ ?_ <;> (intro hc; (try simp -implicitDefEqProofs [-loopQ_n, hc, h1']))) | (refine guardD_dec ?_ ?_ <;> (intro hc; (try simp -implicitDefEqProofs [-loopQ_n, hc, h1']))) | (refine condD_intro ?_ ?_ <;> (intro hd; have hc := hd; (try simp at hc) <;> (try simp -implicitDefEqProofs [-loopQ_n, hd, hc, h1']))) | (refine guardD_intro ?_ ?_ <;> (intro hd; have hc := hd; (try simp at hc) <;> (try simp -implicitDefEqProofs [-loopQ_n, hd, hc, h1']))) | (refine ldD_ep ?_ ?_; (focus kernel_rfl); (try simp -implicitDefEqProofs [-loopQ_n, h1'])))))
  refine loop_intro (σ := Nat) (fun i => ⟨[(0, .rs (rowsOf strC l)), (4, .int .i64 i)], []⟩) (fun i => i ≤ l.length ∧ ∀ (j : Nat) (h : j < l.length), j < i → prS l[j] = true) (fun i => l.length - i) 0 ⟨by omega, fun j h q => absurd q (by omega)⟩ ?_ ?_
  · refine weak_of 0 0 rfl rfl ?_ ?_ <;> simp
  rintro i ⟨hi, hall⟩
  by_cases h : i < l.length
  · have w1 := w_suc h (by omega)
    have hsz := hx l[i] (by simp)
    by_cases hp : prS l[i] = true
    · ((try simp -implicitDefEqProofs [-loopQ_n, h, w1, strC, hp]) <;> (repeat' (first | (refine condD_dec ?_ ?_ <;> (intro hc; (try simp -implicitDefEqProofs [-loopQ_n, hc, h, w1, strC, hp]))) | (refine guardD_dec ?_ ?_ <;> (intro hc; (try simp -implicitDefEqProofs [-loopQ_n, hc, h, w1, strC, hp]))) | (refine condD_intro ?_ ?_ <;> (intro hd; have hc := hd; (try simp at hc) <;> (try simp -implicitDefEqProofs [-loopQ_n, hd, hc, h, w1, strC, hp]))) | (refine guardD_intro ?_ ?_ <;> (intro hd; have hc := hd; (try simp at hc) <;> (try simp -implicitDefEqProofs [-loopQ_n, hd, hc, h, w1, strC, hp]))) | (refine ldD_ep ?_ ?_; (focus kernel_rfl); (try simp -implicitDefEqProofs [-loopQ_n, h, w1, strC, hp])) | (refine callS_mk ?_; (try simp -implicitDefEqProofs [-loopQ_n, h, w1, strC, hp]); (first | refine callS_intro (rPrintable_pure l[i] (by omega)) (.inl rfl) ?_); (try simp -implicitDefEqProofs [-loopQ_n, h, w1, strC, hp])))))
      refine loop_next (i + 1) ⟨h, fun j hj q => ?_⟩ (by omega) (weak_of 0 0 rfl rfl ?_ ?_)
      · by_cases e : j = i
        · subst e; exact hp
        · exact hall j hj (by omega)
      · simp
      · simp
    · have hp : prS l[i] = false := by simpa using hp
      have h3 : l.all prS = false := by
        rw [← Bool.not_eq_true, List.all_eq_true]
        intro q
        rw [q _ (List.getElem_mem h)] at hp
        cases hp
      ((try simp -implicitDefEqProofs [-loopQ_n, h, w1, strC, hp]) <;> (repeat' (first | (refine condD_dec ?_ ?_ <;> (intro hc; (try simp -implicitDefEqProofs [-loopQ_n, hc, h, w1, strC, hp]))) | (refine guardD_dec ?_ ?_ <;> (intro hc; (try simp -implicitDefEqProofs [-loopQ_n, hc, h, w1, strC, hp]))) | (refine condD_intro ?_ ?_ <;> (intro hd; have hc := hd; (try simp at hc) <;> (try simp -implicitDefEqProofs [-loopQ_n, hd, hc, h, w1, strC, hp]))) | (refine guardD_intro ?_ ?_ <;> (intro hd; have hc := hd; (try simp at hc) <;> (try simp -implicitDefEqProofs [-loopQ_n, hd, hc, h, w1, strC, hp]))) | (refine ldD_ep ?_ ?_; (focus kernel_rfl); (try simp -implicitDefEqProofs [-loopQ_n, h, w1, strC, hp])) | (refine callS_mk ?_; (try simp -implicitDefEqProofs [-loopQ_n, h, w1, strC, hp]); (first | refine callS_intro (rPrintable_pure l[i] (by omega)) (.inl rfl) ?_); (try simp -implicitDefEqProofs [-loopQ_n, h, w1, strC, hp])))))
      simp [joinR, h1, h3, exS]
  · have h3 : l.all prS = true := by
      rw [List.all_eq_true]
      intro x hm
      obtain ⟨j, hj, rfl⟩ := List.getElem_of_mem hm
      exact hall j hj (by omega)
    clear hall hi
    ((try simp -implicitDefEqProofs [-loopQ_n, h]) <;> (repeat' (first | (refine condD_dec ?_ ?_ <;> (intro hc; (try simp -implicitDefEqProofs [-loopQ_n, hc, h]))) | (refine guardD_dec ?_ ?_ <;> (intro hc; (try simp -implicitDefEqProofs [-loopQ_n, hc, h]))) | (refine condD_intro ?_ ?_ <;> (intro hd; have hc := hd; (try simp at hc) <;> (try simp -implicitDefEqProofs [-loopQ_n, hd, hc, h]))) | (refine guardD_intro ?_ ?_ <;> (intro hd; have hc := hd; (try simp at hc) <;> (try simp -implicitDefEqProofs [-loopQ_n, hd, hc, h]))) | (refine ldD_ep ?_ ?_; (focus kernel_rfl); (try simp -implicitDefEqProofs [-loopQ_n, h])))))
    refine loop_intro (σ := Nat × List UInt8) (fun z => ⟨[(0, .rs (rowsOf strC l)), (5, .os 0 z.2.length), (6, .int .i64 z.1)], [.row 5 true (bR z.2)]⟩)
      (fun z => z.1 ≤ l.length ∧ z.2.length ≤ 16384 ∧ (z.1 = 0 ∧ z.2 = [] ∨ 0 < z.1 ∧ jf z.2 ((l.drop z.1).map fun s => bl (tokS s)) = jn (l.map fun s => bl (tokS s)))) (fun z => l.length - z.1) (0, []) ⟨by simp, by simp, .inl ⟨rfl, rfl⟩⟩ ?_ ?_
    · refine weak_of 0 1 rfl rfl ?_ ?_ <;> simp [bR, rowsOf]
    rintro ⟨i, acc⟩ ⟨hi, hal, hR⟩
    simp only at hi hal hR
    by_cases h : i < l.length
    · have w1 := w_suc h (by omega)
      have hsz := hx l[i] (by simp)
      have hts := tok_size hsz
      have hb1 : acc.length ≤ 1073741823 := by omega
      -- what stands there after this part
      obtain ⟨acc2, ha2, hR2, hl2⟩ : ∃ acc2, (i = 0 ∧ acc = [] ∧ acc2 = bl (tokS l[i]) ∨ 0 < i ∧ acc2 = acc ++ 32 :: bl (tokS l[i])) ∧ jf acc2 ((l.drop (i + 1)).map fun s => bl (tokS s)) = jn (l.map fun s => bl (tokS s)) ∧ acc2.length ≤ 17000 := by
        rcases hR with ⟨rfl, rfl⟩ | ⟨h0, hR⟩
        · refine ⟨_, .inl ⟨rfl, rfl, rfl⟩, ?_, by rw [bl_len]; omega⟩
          cases l with
          | nil => simp at h
          | cons x r => simp [jn]
        · refine ⟨_, .inr ⟨h0, rfl⟩, ?_, by simp; omega⟩
          rw [List.drop_eq_getElem_cons h, List.map_cons, jf] at hR
          exact hR
      have hgt : 16384 < acc2.length → exS (joinR l) = .tup [.str ⟨#[]⟩, .int .i64 5] := fun q => by
        have : 16384 < (jn (l.map fun s => bl (tokS s))).length := by rw [← hR2, jf_eq]; simp; omega
        simp [joinR, h1, h3, this, exS]
      by_cases hb : bareS l[i] = true
      · have ht : tokS l[i] = l[i] := by simp [tokS, hb]
        rw [ht] at ha2
        rcases ha2 with ⟨rfl, rfl, rfl⟩ | ⟨h0, rfl⟩
        · have hb2 : (l[0]'h).size ≤ 1073741824 := by omega
          by_cases hk : 16384 < (l[0]'h).size
          · omega
          have hk' : ¬ (16384 : Int) < (l[0]'h).size := by omega
          ((try simp -implicitDefEqProofs [-loopQ_n, h, w1, strC, hb, hb2, hk', bR_len, bytesRows_len, bR_app]) <;> (repeat' (first | (refine condD_dec ?_ ?_ <;> (intro hc; (try simp -implicitDefEqProofs [-loopQ_n, hc, h, w1, strC, hb, hb2, hk', bR_len, bytesRows_len, bR_app]))) | (refine guardD_dec ?_ ?_ <;> (intro hc; (try simp -implicitDefEqProofs [-loopQ_n, hc, h, w1, strC, hb, hb2, hk', bR_len, bytesRows_len, bR_app]))) | (refine condD_intro ?_ ?_ <;> (intro hd; have hc := hd; (try simp at hc) <;> (try simp -implicitDefEqProofs [-loopQ_n, hd, hc, h, w1, strC, hb, hb2, hk', bR_len, bytesRows_len, bR_app]))) | (refine guardD_intro ?_ ?_ <;> (intro hd; have hc := hd; (try simp at hc) <;> (try simp -implicitDefEqProofs [-loopQ_n, hd, hc, h, w1, strC, hb, hb2, hk', bR_len, bytesRows_len, bR_app]))) | (refine ldD_ep ?_ ?_; (focus kernel_rfl); (try simp -implicitDefEqProofs [-loopQ_n, h, w1, strC, hb, hb2, hk', bR_len, bytesRows_len, bR_app])) | (refine callS_mk ?_; (try simp -implicitDefEqProofs [-loopQ_n, h, w1, strC, hb, hb2, hk', bR_len, bytesRows_len, bR_app]); (first | refine callS_intro (rbare_pure l[0] (by omega)) (.inl rfl) ?_); (try simp -implicitDefEqProofs [-loopQ_n, h, w1, strC, hb, hb2, hk', bR_len, bytesRows_len, bR_app])))))
          refine loop_next (1, bl l[0]) ⟨h, by show (bl _).length ≤ _; rw [bl_len]; omega, .inr ⟨by simp, by simpa using hR2⟩⟩ (by simp only; omega) (weak_of 1 0 rfl rfl ?_ ?_) <;> simp [bR_refs]
          exact (wrap_in (by omega) (by omega)).symm
        · have h0' : (0 : Int) < i := by omega
          have hb2 : acc.length + 1 + l[i].size ≤ 1073741824 := by omega
          have hln : (acc ++ 32 :: bl l[i]).length = acc.length + 1 + l[i].size := by simp; omega
          have hsum : acc.length + (l[i].size + 1) = acc.length + 1 + l[i].size := by omega
          by_cases hk : 16384 < acc.length + 1 + l[i].size
          · have hk' : (16384 : Int) < (acc.length : Int) + 1 + (l[i].size : Int) := by omega
            ((try simp -implicitDefEqProofs [-loopQ_n, h, h0, h0', w1, strC, hb, hb1, hb2, hk', hsum, bR_len, bytesRows_len, bR_app, bR_k32]) <;> (repeat' (first | (refine condD_dec ?_ ?_ <;> (intro hc; (try simp -implicitDefEqProofs [-loopQ_n, hc, h, h0, h0', w1, strC, hb, hb1, hb2, hk', hsum, bR_len, bytesRows_len, bR_app, bR_k32]))) | (refine guardD_dec ?_ ?_ <;> (intro hc; (try simp -implicitDefEqProofs [-loopQ_n, hc, h, h0, h0', w1, strC, hb, hb1, hb2, hk', hsum, bR_len, bytesRows_len, bR_app, bR_k32]))) | (refine condD_intro ?_ ?_ <;> (intro hd; have hc := hd; (try simp at hc) <;> (try simp -implicitDefEqProofs [-loopQ_n, hd, hc, h, h0, h0', w1, strC, hb, hb1, hb2, hk', hsum, bR_len, bytesRows_len, bR_app, bR_k32]))) | (refine guardD_intro ?_ ?_ <;> (intro hd; have hc := hd; (try simp at hc) <;> (try simp -implicitDefEqProofs [-loopQ_n, hd, hc, h, h0, h0', w1, strC, hb, hb1, hb2, hk', hsum, bR_len, bytesRows_len, bR_app, bR_k32]))) | (refine ldD_ep ?_ ?_; (focus kernel_rfl); (try simp -implicitDefEqProofs [-loopQ_n, h, h0, h0', w1, strC, hb, hb1, hb2, hk', hsum, bR_len, bytesRows_len, bR_app, bR_k32])) | (refine callS_mk ?_; (try simp -implicitDefEqProofs [-loopQ_n, h, h0, h0', w1, strC, hb, hb1, hb2, hk', hsum, bR_len, bytesRows_len, bR_app, bR_k32]); (first | refine callS_intro (rbare_pure l[i] (by omega)) (.inl rfl) ?_); (try simp -implicitDefEqProofs [-loopQ_n, h, h0, h0', w1, strC, hb, hb1, hb2, hk', hsum, bR_len, bytesRows_len, bR_app, bR_k32])))))
            exact (hgt (by omega)).symm
          · have hk' : ¬ (16384 : Int) < (acc.length : Int) + 1 + (l[i].size : Int) := by omega
            ((try simp -implicitDefEqProofs [-loopQ_n, h, h0, h0', w1, strC, hb, hb1, hb2, hk', hsum, bR_len, bytesRows_len, bR_app, bR_k32]) <;> (repeat' (first | (refine condD_dec ?_ ?_ <;> (intro hc; (try simp -implicitDefEqProofs [-loopQ_n, hc, h, h0, h0', w1, strC, hb, hb1, hb2, hk', hsum, bR_len, bytesRows_len, bR_app, bR_k32]))) | (refine guardD_dec ?_ ?_ <;> (intro hc; (try simp -implicitDefEqProofs [-loopQ_n, hc, h, h0, h0', w1, strC, hb, hb1, hb2, hk', hsum, bR_len, bytesRows_len, bR_app, bR_k32]))) | (refine condD_intro ?_ ?_ <;> (intro hd; have hc := hd; (try simp at hc) <;> (try simp -implicitDefEqProofs [-loopQ_n, hd, hc, h, h0, h0', w1, strC, hb, hb1, hb2, hk', hsum, bR_len, bytesRows_len, bR_app, bR_k32]))) | (refine guardD_intro ?_ ?_ <;> (intro hd; have hc := hd; (try simp at hc) <;> (try simp -implicitDefEqProofs [-loopQ_n, hd, hc, h, h0, h0', w1, strC, hb, hb1, hb2, hk', hsum, bR_len, bytesRows_len, bR_app, bR_k32]))) | (refine ldD_ep ?_ ?_; (focus kernel_rfl); (try simp -implicitDefEqProofs [-loopQ_n, h, h0, h0', w1, strC, hb, hb1, hb2, hk', hsum, bR_len, bytesRows_len, bR_app, bR_k32])) | (refine callS_mk ?_; (try simp -implicitDefEqProofs [-loopQ_n, h, h0, h0', w1, strC, hb, hb1, hb2, hk', hsum, bR_len, bytesRows_len, bR_app, bR_k32]); (first | refine callS_intro (rbare_pure l[i] (by omega)) (.inl rfl) ?_); (try simp -implicitDefEqProofs [-loopQ_n, h, h0, h0', w1, strC, hb, hb1, hb2, hk', hsum, bR_len, bytesRows_len, bR_app, bR_k32])))))
            refine loop_next (i + 1, acc ++ 32 :: bl l[i]) ⟨h, by show (acc ++ 32 :: bl _).length ≤ _; rw [hln]; omega, .inr ⟨by simp, by simpa using hR2⟩⟩ (by simp only; omega) (weak_of 1 0 rfl rfl ?_ ?_) <;> simp [bR_refs]
            all_goals omega
      · have ht : tokS l[i] = litS l[i] := by simp [tokS, hb]
        have hb : bareS l[i] = false := by simpa using hb
        rw [ht] at ha2
        have hls := rliteral_pure l[i] (by omega)
        rw [ht] at hts
        rcases ha2 with ⟨rfl, rfl, rfl⟩ | ⟨h0, rfl⟩
        · have hb2 : (litS (l[0]'h)).size ≤ 1073741824 := by omega
          have hk' : ¬ (16384 : Int) < (litS (l[0]'h)).size := by omega
          ((try simp -implicitDefEqProofs [-loopQ_n, h, w1, strC, hb, hb2, hk', bR_len, bytesRows_len, bR_app]) <;> (repeat' (first | (refine condD_dec ?_ ?_ <;> (intro hc; (try simp -implicitDefEqProofs [-loopQ_n, hc, h, w1, strC, hb, hb2, hk', bR_len, bytesRows_len, bR_app]))) | (refine guardD_dec ?_ ?_ <;> (intro hc; (try simp -implicitDefEqProofs [-loopQ_n, hc, h, w1, strC, hb, hb2, hk', bR_len, bytesRows_len, bR_app]))) | (refine condD_intro ?_ ?_ <;> (intro hd; have hc := hd; (try simp at hc) <;> (try simp -implicitDefEqProofs [-loopQ_n, hd, hc, h, w1, strC, hb, hb2, hk', bR_len, bytesRows_len, bR_app]))) | (refine guardD_intro ?_ ?_ <;> (intro hd; have hc := hd; (try simp at hc) <;> (try simp -implicitDefEqProofs [-loopQ_n, hd, hc, h, w1, strC, hb, hb2, hk', bR_len, bytesRows_len, bR_app]))) | (refine ldD_ep ?_ ?_; (focus kernel_rfl); (try simp -implicitDefEqProofs [-loopQ_n, h, w1, strC, hb, hb2, hk', bR_len, bytesRows_len, bR_app])) | (refine callS_mk ?_; (try simp -implicitDefEqProofs [-loopQ_n, h, w1, strC, hb, hb2, hk', bR_len, bytesRows_len, bR_app]); (first | refine callS_intro (rbare_pure l[0] (by omega)) (.inl rfl) ?_ | refine callS_intro (hls) (.inl rfl) ?_); (try simp -implicitDefEqProofs [-loopQ_n, h, w1, strC, hb, hb2, hk', bR_len, bytesRows_len, bR_app])))))
          refine loop_next (1, bl (litS l[0])) ⟨h, by show (bl _).length ≤ _; rw [bl_len]; omega, .inr ⟨by simp, by simpa using hR2⟩⟩ (by simp only; omega) (weak_of 1 0 rfl rfl ?_ ?_) <;> simp [bR_refs]
          exact (wrap_in (by omega) (by omega)).symm
        · have h0' : (0 : Int) < i := by omega
          have hb2 : acc.length + 1 + (litS l[i]).size ≤ 1073741824 := by omega
          have hln : (acc ++ 32 :: bl (litS l[i])).length = acc.length + 1 + (litS l[i]).size := by simp; omega
          have hsum : acc.length + ((litS l[i]).size + 1) = acc.length + 1 + (litS l[i]).size := by omega
          by_cases hk : 16384 < acc.length + 1 + (litS l[i]).size
          · have hk' : (16384 : Int) < (acc.length : Int) + 1 + ((litS l[i]).size : Int) := by omega
            ((try simp -implicitDefEqProofs [-loopQ_n, h, h0, h0', w1, strC, hb, hb1, hb2, hk', hsum, bR_len, bytesRows_len, bR_app, bR_k32]) <;> (repeat' (first | (refine condD_dec ?_ ?_ <;> (intro hc; (try simp -implicitDefEqProofs [-loopQ_n, hc, h, h0, h0', w1, strC, hb, hb1, hb2, hk', hsum, bR_len, bytesRows_len, bR_app, bR_k32]))) | (refine guardD_dec ?_ ?_ <;> (intro hc; (try simp -implicitDefEqProofs [-loopQ_n, hc, h, h0, h0', w1, strC, hb, hb1, hb2, hk', hsum, bR_len, bytesRows_len, bR_app, bR_k32]))) | (refine condD_intro ?_ ?_ <;> (intro hd; have hc := hd; (try simp at hc) <;> (try simp -implicitDefEqProofs [-loopQ_n, hd, hc, h, h0, h0', w1, strC, hb, hb1, hb2, hk', hsum, bR_len, bytesRows_len, bR_app, bR_k32]))) | (refine guardD_intro ?_ ?_ <;> (intro hd; have hc := hd; (try simp at hc) <;> (try simp -implicitDefEqProofs [-loopQ_n, hd, hc, h, h0, h0', w1, strC, hb, hb1, hb2, hk', hsum, bR_len, bytesRows_len, bR_app, bR_k32]))) | (refine ldD_ep ?_ ?_; (focus kernel_rfl); (try simp -implicitDefEqProofs [-loopQ_n, h, h0, h0', w1, strC, hb, hb1, hb2, hk', hsum, bR_len, bytesRows_len, bR_app, bR_k32])) | (refine callS_mk ?_; (try simp -implicitDefEqProofs [-loopQ_n, h, h0, h0', w1, strC, hb, hb1, hb2, hk', hsum, bR_len, bytesRows_len, bR_app, bR_k32]); (first | refine callS_intro (rbare_pure l[i] (by omega)) (.inl rfl) ?_ | refine callS_intro (hls) (.inl rfl) ?_); (try simp -implicitDefEqProofs [-loopQ_n, h, h0, h0', w1, strC, hb, hb1, hb2, hk', hsum, bR_len, bytesRows_len, bR_app, bR_k32])))))
            exact (hgt (by omega)).symm
          · have hk' : ¬ (16384 : Int) < (acc.length : Int) + 1 + ((litS l[i]).size : Int) := by omega
            ((try simp -implicitDefEqProofs [-loopQ_n, h, h0, h0', w1, strC, hb, hb1, hb2, hk', hsum, bR_len, bytesRows_len, bR_app, bR_k32]) <;> (repeat' (first | (refine condD_dec ?_ ?_ <;> (intro hc; (try simp -implicitDefEqProofs [-loopQ_n, hc, h, h0, h0', w1, strC, hb, hb1, hb2, hk', hsum, bR_len, bytesRows_len, bR_app, bR_k32]))) | (refine guardD_dec ?_ ?_ <;> (intro hc; (try simp -implicitDefEqProofs [-loopQ_n, hc, h, h0, h0', w1, strC, hb, hb1, hb2, hk', hsum, bR_len, bytesRows_len, bR_app, bR_k32]))) | (refine condD_intro ?_ ?_ <;> (intro hd; have hc := hd; (try simp at hc) <;> (try simp -implicitDefEqProofs [-loopQ_n, hd, hc, h, h0, h0', w1, strC, hb, hb1, hb2, hk', hsum, bR_len, bytesRows_len, bR_app, bR_k32]))) | (refine guardD_intro ?_ ?_ <;> (intro hd; have hc := hd; (try simp at hc) <;> (try simp -implicitDefEqProofs [-loopQ_n, hd, hc, h, h0, h0', w1, strC, hb, hb1, hb2, hk', hsum, bR_len, bytesRows_len, bR_app, bR_k32]))) | (refine ldD_ep ?_ ?_; (focus kernel_rfl); (try simp -implicitDefEqProofs [-loopQ_n, h, h0, h0', w1, strC, hb, hb1, hb2, hk', hsum, bR_len, bytesRows_len, bR_app, bR_k32])) | (refine callS_mk ?_; (try simp -implicitDefEqProofs [-loopQ_n, h, h0, h0', w1, strC, hb, hb1, hb2, hk', hsum, bR_len, bytesRows_len, bR_app, bR_k32]); (first | refine callS_intro (rbare_pure l[i] (by omega)) (.inl rfl) ?_ | refine callS_intro (hls) (.inl rfl) ?_); (try simp -implicitDefEqProofs [-loopQ_n, h, h0, h0', w1, strC, hb, hb1, hb2, hk', hsum, bR_len, bytesRows_len, bR_app, bR_k32])))))
            refine loop_next (i + 1, acc ++ 32 :: bl (litS l[i])) ⟨h, by show (acc ++ 32 :: bl _).length ≤ _; rw [hln]; omega, .inr ⟨by simp, by simpa using hR2⟩⟩ (by simp only; omega) (weak_of 1 0 rfl rfl ?_ ?_) <;> simp [bR_refs]
            all_goals omega
    · have hacc : acc = jn (l.map fun s => bl (tokS s)) := by
        rcases hR with ⟨rfl, rfl⟩ | ⟨h0, hR⟩
        · have : l = [] := List.eq_nil_of_length_eq_zero (by omega)
          subst this; rfl
        · rw [List.drop_eq_nil_of_le (by omega)] at hR; exact hR
      have hc : ¬ 16384 < (jn (l.map fun s => bl (tokS s))).length := by rw [← hacc]; omega
      ((try simp -implicitDefEqProofs [-loopQ_n, h, bR_len, bR_all1, unb_bR]) <;> (repeat' (first | (refine condD_dec ?_ ?_ <;> (intro hc; (try simp -implicitDefEqProofs [-loopQ_n, hc, h, bR_len, bR_all1, unb_bR]))) | (refine guardD_dec ?_ ?_ <;> (intro hc; (try simp -implicitDefEqProofs [-loopQ_n, hc, h, bR_len, bR_all1, unb_bR]))) | (refine condD_intro ?_ ?_ <;> (intro hd; have hc := hd; (try simp at hc) <;> (try simp -implicitDefEqProofs [-loopQ_n, hd, hc, h, bR_len, bR_all1, unb_bR]))) | (refine guardD_intro ?_ ?_ <;> (intro hd; have hc := hd; (try simp at hc) <;> (try simp -implicitDefEqProofs [-loopQ_n, hd, hc, h, bR_len, bR_all1, unb_bR]))) | (refine ldD_ep ?_ ?_; (focus kernel_rfl); (try simp -implicitDefEqProofs [-loopQ_n, h, bR_len, bR_all1, unb_bR])))))
      rw [hacc]
      simp [joinR, h1, h3, hc, exS]
end Go.Proofs.Ytlcblpofikijmaa
