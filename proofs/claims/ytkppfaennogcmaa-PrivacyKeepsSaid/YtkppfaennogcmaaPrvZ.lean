/- How many cases begin with each word (privacy.beginnings, as a contract of new memory). -/
import Derived.Test.YtkppfaennogcmaaPrvJ
import Derived.Test.YtkppfaennogcmaaPrvK
import Derived.Test.YtkppfaennogcmaaJn
namespace Go.Proofs.Ytkppfaennogcmaa
set_option linter.unusedSimpArgs false
set_option linter.unusedVariables false
set_option linter.unnecessarySimpa false
set_option linter.unusedSectionVars false
open Go.RowKit
variable [Glob]
set_option maxRecDepth 100000
set_option maxHeartbeats 16000000 in
theorem variants_pure (l : List Wd) (hl : l.length ≤ 300) : Pure Try.prog 48 [.rs (rowsOf wdC l)] (.rs (rowsOf wdC l)) := by
  refine pure_of mixed Try.func48 rfl (by kernel_rfl) (of_decide_eq_true rfl) (by kernel_rfl) (vc_run ?_)
  ((try simp -implicitDefEqProofs [-loopQ_n]) <;> (repeat' (first | (refine condD_dec ?_ ?_ <;> (intro hc; (try simp -implicitDefEqProofs [-loopQ_n, hc]))) | (refine guardD_dec ?_ ?_ <;> (intro hc; (try simp -implicitDefEqProofs [-loopQ_n, hc]))) | (refine condD_intro ?_ ?_ <;> (intro hd; have hc := hd; (try simp at hc) <;> (try simp -implicitDefEqProofs [-loopQ_n, hd, hc]))) | (refine guardD_intro ?_ ?_ <;> (intro hd; have hc := hd; (try simp at hc) <;> (try simp -implicitDefEqProofs [-loopQ_n, hd, hc]))) | (refine ldD_ep ?_ ?_; (focus kernel_rfl); (try simp -implicitDefEqProofs [-loopQ_n])))))
  refine loop_intro (σ := Nat × List Wd) (fun x => ⟨[(3, .os 0 x.2.length), (6, .rs (rowsOf wdC l)), (7, .int .i64 l.length), (8, .int .i64 x.1)], [.row 97 true (rowsOf wdC x.2)]⟩)
    (fun x => x.1 ≤ l.length ∧ x.2.length = x.1 ∧ x.2 ++ l.drop x.1 = l) (fun x => l.length - x.1) (0, []) ⟨by simp, by simp, by simp⟩ ?_ ?_
  · refine weak_of 0 1 rfl rfl ?_ ?_ <;> simp
  rintro ⟨i, o⟩ ⟨hi, ho, hR⟩
  simp only at hi ho hR
  by_cases h : i < l.length
  · have w1 : wrapI .i64 ((i : Int) + 1) = (i : Int) + 1 := wrap_in (by omega) (by omega)
    obtain ⟨⟨A, n⟩, hx⟩ : ∃ x, l[i] = x := ⟨_, rfl⟩
    have hlen : o.length + 1 ≤ 1073741824 := by omega
    have hsn : rowsOf wdC o ++ [[.rs (rowsOf strC A), .int .i64 n]] = rowsOf wdC (o ++ [⟨A, n⟩]) := wd_snoc (v := ⟨A, n⟩)
    ((try simp -implicitDefEqProofs [-loopQ_n, h, hx, wdC, hlen, hsn]) <;> (repeat' (first | (refine condD_dec ?_ ?_ <;> (intro hc; (try simp -implicitDefEqProofs [-loopQ_n, hc, h, hx, wdC, hlen, hsn]))) | (refine guardD_dec ?_ ?_ <;> (intro hc; (try simp -implicitDefEqProofs [-loopQ_n, hc, h, hx, wdC, hlen, hsn]))) | (refine condD_intro ?_ ?_ <;> (intro hd; have hc := hd; (try simp at hc) <;> (try simp -implicitDefEqProofs [-loopQ_n, hd, hc, h, hx, wdC, hlen, hsn]))) | (refine guardD_intro ?_ ?_ <;> (intro hd; have hc := hd; (try simp at hc) <;> (try simp -implicitDefEqProofs [-loopQ_n, hd, hc, h, hx, wdC, hlen, hsn]))) | (refine ldD_ep ?_ ?_; (focus kernel_rfl); (try simp -implicitDefEqProofs [-loopQ_n, h, hx, wdC, hlen, hsn])))))
    refine loop_next (i + 1, o ++ [⟨A, n⟩]) ⟨by simp only; omega, by simp; omega, ?_⟩ (by simp only; omega) (weak_of 1 0 rfl rfl ?_ ?_)
    · rw [← hR, List.append_assoc, List.singleton_append]
      simp only
      conv => rhs; rw [List.drop_eq_getElem_cons h, hx]
      rw [hR]
    · simp [w1]
    · simp [wd_refs, hsn]
  · rw [List.drop_eq_nil_of_le (by omega), List.append_nil] at hR
    subst hR
    ((try simp -implicitDefEqProofs [-loopQ_n, h, wd_reify]) <;> (repeat' (first | (refine condD_dec ?_ ?_ <;> (intro hc; (try simp -implicitDefEqProofs [-loopQ_n, hc, h, wd_reify]))) | (refine guardD_dec ?_ ?_ <;> (intro hc; (try simp -implicitDefEqProofs [-loopQ_n, hc, h, wd_reify]))) | (refine condD_intro ?_ ?_ <;> (intro hd; have hc := hd; (try simp at hc) <;> (try simp -implicitDefEqProofs [-loopQ_n, hd, hc, h, wd_reify]))) | (refine guardD_intro ?_ ?_ <;> (intro hd; have hc := hd; (try simp at hc) <;> (try simp -implicitDefEqProofs [-loopQ_n, hd, hc, h, wd_reify]))) | (refine ldD_ep ?_ ?_; (focus kernel_rfl); (try simp -implicitDefEqProofs [-loopQ_n, h, wd_reify])))))
theorem key_pure (w : List ByteArray) (hl : w.length ≤ 1000) (hx : ∀ x ∈ w, x.size ≤ 1000) : Pure Try.prog 51 [.rs (rowsOf strC w)] (.str (jnS w)) := by
  refine pure_of mixed Try.func51 rfl (by kernel_rfl) (of_decide_eq_true rfl) (by kernel_rfl) (vc_run ?_)
  ((try simp -implicitDefEqProofs [-loopQ_n]) <;> (repeat' (first | (refine condD_dec ?_ ?_ <;> (intro hc; (try simp -implicitDefEqProofs [-loopQ_n, hc]))) | (refine guardD_dec ?_ ?_ <;> (intro hc; (try simp -implicitDefEqProofs [-loopQ_n, hc]))) | (refine condD_intro ?_ ?_ <;> (intro hd; have hc := hd; (try simp at hc) <;> (try simp -implicitDefEqProofs [-loopQ_n, hd, hc]))) | (refine guardD_intro ?_ ?_ <;> (intro hd; have hc := hd; (try simp at hc) <;> (try simp -implicitDefEqProofs [-loopQ_n, hd, hc]))) | (refine ldD_ep ?_ ?_; (focus kernel_rfl); (try simp -implicitDefEqProofs [-loopQ_n])) | (refine callS_mk ?_; (try simp -implicitDefEqProofs [-loopQ_n]); (first | refine callS_intro (join_pure w _ rfl hl hx) (.inl rfl) ?_); (try simp -implicitDefEqProofs [-loopQ_n])))))
def piV (x : Int) : AV := .int .i64 x
abbrev Ms := List (ByteArray × Int)
def valM (es : Ms) (k : ByteArray) : Int := (alook es k).getD 0
def putM (es : Ms) (p : ByteArray × Int) : Ms := aput es p.1 (valM es p.1 + p.2)
def pfxAt (v : Wd) (j : Nat) : ByteArray × Int := (jnS (v.acts.take j), v.n)
/-- The beginnings of a word, from a length on. -/
def putW (v : Wd) : Nat → Nat → Ms → Ms
  | 0, _, es => es
  | m + 1, j, es => putW v m (j + 1) (putM es (pfxAt v j))
def putL : List Wd → Ms → Ms
  | [], es => es
  | v :: l, es => putL l (putW v (v.acts.length + 1) 0 es)
def begE (l : List Wd) : Ms := putL l []
def actsS : List Wd → Int
  | [] => 0
  | v :: l => v.n * v.acts.length + actsS l
def bdM (es : Ms) (N : Nat) : Prop := ∀ k, 0 ≤ valM es k ∧ valM es k ≤ (N : Int) * 1048576
theorem valM_put {es : Ms} {p : ByteArray × Int} {k : ByteArray} : valM (putM es p) k = if p.1 = k then valM es k + p.2 else valM es k := by
  unfold putM valM
  rw [alook_put]
  split
  · rename_i h; subst h; rfl
  · rfl
theorem bdM_put {es : Ms} {N : Nat} {p : ByteArray × Int} (h : bdM es N) (h0 : 0 ≤ p.2) (h1 : p.2 ≤ 1048576) : bdM (putM es p) (N + 1) := fun k => by
  have := h k
  rw [valM_put]
  split <;> omega
theorem pM_refs {m : Nat} {es : Ms} : refsM m (mE psK piV es) = true := mE_refs (fun x => by simp [psK, refs]) fun x => by simp [piV, refs]
theorem pM_none {k : ByteArray} {i : Int} {es : Ms} (h : afind k es 0 = none) : mE psK piV es ++ [(.str k, .int .i64 i)] = mE psK piV (putM es (k, i)) := by
  have h2 : valM es k = 0 := by simp [valM, alook, h]
  simp [putM, h2, aput, h, mE, psK, piV]
theorem pM_some {k : ByteArray} {i v : Int} {j : Nat} {es : Ms} (h : afind k es 0 = some (j, v)) : (mE psK piV es).set j (.str k, .int .i64 (v + i)) = mE psK piV (putM es (k, i)) := by
  have h2 : valM es k = v := by simp [valM, alook, h]
  simp [putM, h2, aput, h, mE, psK, piV]
/-- Words as they are published. -/
def wdG (v : Wd) : Prop := v.acts.length ≤ 200 ∧ 1 ≤ v.n ∧ v.n ≤ 1048576 ∧ ∀ s ∈ v.acts, isNameS s = true
theorem wdG_size {v : Wd} (h : wdG v) : ∀ s ∈ v.acts, s.size ≤ 1000 := fun s hs => by
  have := h.2.2.2 s hs
  unfold isNameS at this
  simp only [Bool.and_eq_true, decide_eq_true_eq] at this
  omega
theorem actsS_bd : ∀ l : List Wd, (∀ v ∈ l, wdG v) → 0 ≤ actsS l ∧ actsS l ≤ (l.length : Int) * 209715200 := by
  intro l
  induction l with
  | nil => intro _; simp [actsS]
  | cons v l ih =>
    intro h
    have h1 := ih fun x hx => h x (by simp [hx])
    have h2 := h v (by simp)
    have h3 : 0 ≤ v.n * v.acts.length := Int.mul_nonneg (by have := h2.2.1; omega) (by omega)
    have h4 : v.n * v.acts.length ≤ 1048576 * 200 := Int.mul_le_mul h2.2.2.1 (by have := h2.1; omega) (by omega) (by omega)
    simp only [actsS, List.length_cons]
    omega
def begI (l : List Wd) (i : Nat) (es : Ms) : Ms := putL (l.drop i) es
def actI (l : List Wd) (i : Nat) : Int := actsS (l.drop i)
set_option maxHeartbeats 16000000 in
theorem begin_new (l : List Wd) (hl : l.length ≤ 300) (hw : ∀ v ∈ l, wdG v) : New Try.prog 57 [.rs (rowsOf wdC l)] (.tup [.mp 0, .int .i64 (actsS l)]) [.map (mE psK piV (begE l))] := by
  obtain ⟨E, hE⟩ : ∃ E, begE l = E := ⟨_, rfl⟩
  obtain ⟨a, ha⟩ : ∃ a, actsS l = a := ⟨_, rfl⟩
  have hab := actsS_bd l hw
  rw [hE, ha]
  rw [ha] at hab
  refine new_of mixed Try.func57 rfl (by kernel_rfl) (of_decide_eq_true rfl) (by kernel_rfl) (vc_run ?_)
  ((try simp -implicitDefEqProofs [-loopQ_n]) <;> (repeat' (first | (refine condD_dec ?_ ?_ <;> (intro hc; (try simp -implicitDefEqProofs [-loopQ_n, hc]))) | (refine guardD_dec ?_ ?_ <;> (intro hc; (try simp -implicitDefEqProofs [-loopQ_n, hc]))) | (refine condD_intro ?_ ?_ <;> (intro hd; have hc := hd; (try simp at hc) <;> (try simp -implicitDefEqProofs [-loopQ_n, hd, hc]))) | (refine guardD_intro ?_ ?_ <;> (intro hd; have hc := hd; (try simp at hc) <;> (try simp -implicitDefEqProofs [-loopQ_n, hd, hc]))) | (refine ldD_ep ?_ ?_; (focus kernel_rfl); (try simp -implicitDefEqProofs [-loopQ_n])))))
  refine loop_intro (σ := Nat × Ms × Int) (fun x => ⟨[(4, .mp 0), (5, .int .i64 x.2.2), (10, .rs (rowsOf wdC l)), (11, .int .i64 l.length), (12, .int .i64 x.1)], [.map (mE psK piV x.2.1)]⟩)
    (fun x => x.1 ≤ l.length ∧ begI l x.1 x.2.1 = E ∧ x.2.2 + actI l x.1 = a ∧ 0 ≤ x.2.2 ∧ bdM x.2.1 (x.1 * 201)) (fun x => l.length - x.1) (0, [], 0) ⟨by simp, hE, by simp [actI, ha], by simp, fun k => by simp [valM, alook, afind]⟩ ?_ ?_
  · refine weak_of 1 0 rfl rfl ?_ ?_ <;> simp [-refsM, mE, refsM]
  rintro ⟨i, es, s⟩ ⟨hi, hP, hs, hs0, hb⟩
  simp only at hi hP hs hs0 hb
  by_cases h : i < l.length
  · have w1 : wrapI .i64 ((i : Int) + 1) = ((i + 1 : Nat) : Int) := by rw [wrap_in (by omega) (by omega)]; omega
    obtain ⟨v, hx⟩ : ∃ x, l[i] = x := ⟨_, rfl⟩
    have hv := hw l[i] (by simp)
    rw [hx] at hv
    unfold begI at hP
    unfold actI at hs
    rw [List.drop_eq_getElem_cons h, hx, putL] at hP
    rw [List.drop_eq_getElem_cons h, hx, actsS] at hs
    have hsz := wdG_size hv
    obtain ⟨A, n⟩ := v
    obtain ⟨hv1, hv2, hv3, hv4⟩ := hv
    simp only at hv1 hv2 hv3 hv4 hsz hP hs
    obtain ⟨M, hM⟩ : ∃ M, M = A.length + 1 := ⟨_, rfl⟩
    have w2 : wrapI .i64 ((A.length : Int) + 1) = (M : Int) := by rw [wrap_in (by omega) (by omega)]; omega
    have hp0 : 0 ≤ n * A.length := Int.mul_nonneg (by omega) (by omega)
    have hrest := (actsS_bd (l.drop (i + 1)) fun x hx => hw x (List.mem_of_mem_drop hx)).1
    have w3 : wrapI .i64 (n * (A.length : Int)) = n * A.length := wrap_in (by omega) (by omega)
    have w4 : wrapI .i64 (s + n * (A.length : Int)) = s + n * A.length := wrap_in (by omega) (by omega)
    obtain ⟨E1, hE1⟩ : ∃ E1, putW ⟨A, n⟩ (A.length + 1) 0 es = E1 := ⟨_, rfl⟩
    rw [hE1] at hP
    ((try simp -implicitDefEqProofs [-loopQ_n, h, hx, wdC, w2]) <;> (repeat' (first | (refine condD_dec ?_ ?_ <;> (intro hc; (try simp -implicitDefEqProofs [-loopQ_n, hc, h, hx, wdC, w2]))) | (refine guardD_dec ?_ ?_ <;> (intro hc; (try simp -implicitDefEqProofs [-loopQ_n, hc, h, hx, wdC, w2]))) | (refine condD_intro ?_ ?_ <;> (intro hd; have hc := hd; (try simp at hc) <;> (try simp -implicitDefEqProofs [-loopQ_n, hd, hc, h, hx, wdC, w2]))) | (refine guardD_intro ?_ ?_ <;> (intro hd; have hc := hd; (try simp at hc) <;> (try simp -implicitDefEqProofs [-loopQ_n, hd, hc, h, hx, wdC, w2]))) | (refine ldD_ep ?_ ?_; (focus kernel_rfl); (try simp -implicitDefEqProofs [-loopQ_n, h, hx, wdC, w2])))))
    refine loop_intro (σ := Nat × Ms) (fun x => ⟨[(4, .mp 0), (5, .int .i64 s), (7, .op 1 0), (10, .rs (rowsOf wdC l)), (11, .int .i64 l.length), (12, .int .i64 i), (19, .int .i64 M), (20, .int .i64 x.1)], [.map (mE psK piV x.2), .box 97 [.rs (rowsOf strC A), .int .i64 n]]⟩)
      (fun x => x.1 ≤ M ∧ putW ⟨A, n⟩ (M - x.1) x.1 x.2 = E1 ∧ bdM x.2 (i * 201 + x.1)) (fun x => M - x.1) (0, es) ⟨by simp, by simpa [hM] using hE1, by simpa using hb⟩ ?_ ?_
    · refine weak_of 2 0 rfl rfl ?_ ?_ <;> simp [-refsM, pM_refs, sw_refs]
    rintro ⟨j, es⟩ ⟨hj, hW, hb⟩
    simp only at hj hW hb
    by_cases hh : j < M
    · have w5 : wrapI .i64 ((j : Int) + 1) = ((j + 1 : Nat) : Int) := by rw [wrap_in (by omega) (by omega)]; omega
      rw [show M - j = (M - (j + 1)) + 1 by omega, putW] at hW
      obtain ⟨K, hK⟩ : ∃ K, jnS (A.take j) = K := ⟨_, rfl⟩
      have hkey := key_pure (A.take j) (by simp; omega) fun x hx => hsz x (List.mem_of_mem_take hx)
      rw [hK] at hkey
      have hpf : pfxAt ⟨A, n⟩ j = (K, n) := by simp [pfxAt, hK]
      rw [hpf] at hW
      have hbK := hb K
      have hjA : j ≤ A.length := by omega
      have e1 : (rowsOf strC A).take j = rowsOf strC (A.take j) := rowsOf_take
      have hb2 : bdM (putM es (K, n)) (i * 201 + (j + 1)) := bdM_put hb (by simp only; omega) hv3
      cases hf : afind K es 0 with
      | none =>
        have w6 : wrapI .i64 n = n := wrap_in (by omega) (by omega)
        ((try simp -implicitDefEqProofs [-loopQ_n, hh, hjA, e1, pmf_s, hf, w6]) <;> (repeat' (first | (refine condD_dec ?_ ?_ <;> (intro hc; (try simp -implicitDefEqProofs [-loopQ_n, hc, hh, hjA, e1, pmf_s, hf, w6]))) | (refine guardD_dec ?_ ?_ <;> (intro hc; (try simp -implicitDefEqProofs [-loopQ_n, hc, hh, hjA, e1, pmf_s, hf, w6]))) | (refine condD_intro ?_ ?_ <;> (intro hd; have hc := hd; (try simp at hc) <;> (try simp -implicitDefEqProofs [-loopQ_n, hd, hc, hh, hjA, e1, pmf_s, hf, w6]))) | (refine guardD_intro ?_ ?_ <;> (intro hd; have hc := hd; (try simp at hc) <;> (try simp -implicitDefEqProofs [-loopQ_n, hd, hc, hh, hjA, e1, pmf_s, hf, w6]))) | (refine ldD_ep ?_ ?_; (focus kernel_rfl); (try simp -implicitDefEqProofs [-loopQ_n, hh, hjA, e1, pmf_s, hf, w6])) | (refine callS_mk ?_; (try simp -implicitDefEqProofs [-loopQ_n, hh, hjA, e1, pmf_s, hf, w6]); (first | refine callS_intro (hkey) (.inl rfl) ?_); (try simp -implicitDefEqProofs [-loopQ_n, hh, hjA, e1, pmf_s, hf, w6])))))
        refine loop_next (j + 1, putM es (K, n)) ⟨by simp only; omega, hW, hb2⟩ (by simp only; omega) (weak_of 2 0 rfl rfl ?_ ?_) <;> simp [-refsM, pM_refs, sw_refs, w5, pM_none hf]
      | some q =>
        obtain ⟨q, x⟩ := q
        have hvx : valM es K = x := by simp [valM, alook, hf]
        rw [hvx] at hbK
        have w6 : wrapI .i64 (x + n) = x + n := wrap_in (by omega) (by omega)
        ((try simp -implicitDefEqProofs [-loopQ_n, hh, hjA, e1, pmf_s, hf, piV, w6]) <;> (repeat' (first | (refine condD_dec ?_ ?_ <;> (intro hc; (try simp -implicitDefEqProofs [-loopQ_n, hc, hh, hjA, e1, pmf_s, hf, piV, w6]))) | (refine guardD_dec ?_ ?_ <;> (intro hc; (try simp -implicitDefEqProofs [-loopQ_n, hc, hh, hjA, e1, pmf_s, hf, piV, w6]))) | (refine condD_intro ?_ ?_ <;> (intro hd; have hc := hd; (try simp at hc) <;> (try simp -implicitDefEqProofs [-loopQ_n, hd, hc, hh, hjA, e1, pmf_s, hf, piV, w6]))) | (refine guardD_intro ?_ ?_ <;> (intro hd; have hc := hd; (try simp at hc) <;> (try simp -implicitDefEqProofs [-loopQ_n, hd, hc, hh, hjA, e1, pmf_s, hf, piV, w6]))) | (refine ldD_ep ?_ ?_; (focus kernel_rfl); (try simp -implicitDefEqProofs [-loopQ_n, hh, hjA, e1, pmf_s, hf, piV, w6])) | (refine callS_mk ?_; (try simp -implicitDefEqProofs [-loopQ_n, hh, hjA, e1, pmf_s, hf, piV, w6]); (first | refine callS_intro (hkey) (.inl rfl) ?_); (try simp -implicitDefEqProofs [-loopQ_n, hh, hjA, e1, pmf_s, hf, piV, w6])))))
        refine loop_next (j + 1, putM es (K, n)) ⟨by simp only; omega, hW, hb2⟩ (by simp only; omega) (weak_of 2 0 rfl rfl ?_ ?_) <;> simp [-refsM, pM_refs, sw_refs, w5, pM_some hf]
    · obtain rfl : j = M := by omega
      rw [Nat.sub_self, putW] at hW
      subst hW
      ((try simp -implicitDefEqProofs [-loopQ_n, hh, w3, w4]) <;> (repeat' (first | (refine condD_dec ?_ ?_ <;> (intro hc; (try simp -implicitDefEqProofs [-loopQ_n, hc, hh, w3, w4]))) | (refine guardD_dec ?_ ?_ <;> (intro hc; (try simp -implicitDefEqProofs [-loopQ_n, hc, hh, w3, w4]))) | (refine condD_intro ?_ ?_ <;> (intro hd; have hc := hd; (try simp at hc) <;> (try simp -implicitDefEqProofs [-loopQ_n, hd, hc, hh, w3, w4]))) | (refine guardD_intro ?_ ?_ <;> (intro hd; have hc := hd; (try simp at hc) <;> (try simp -implicitDefEqProofs [-loopQ_n, hd, hc, hh, w3, w4]))) | (refine ldD_ep ?_ ?_; (focus kernel_rfl); (try simp -implicitDefEqProofs [-loopQ_n, hh, w3, w4])))))
      refine loop_next (i + 1, es, s + n * A.length) ⟨by simp only; omega, hP, by simp only [actI]; omega, by simp only; omega, ?_⟩ (by simp only; omega) (weak_of 1 0 rfl rfl ?_ ?_)
      · have : i * 201 + j ≤ (i + 1) * 201 := by omega
        intro k
        have := hb k
        simp only
        omega
      · simp [w1]
      · simp [-refsM, pM_refs]
  · unfold begI at hP
    unfold actI at hs
    rw [List.drop_eq_nil_of_le (by omega)] at hP hs
    simp only [putL, actsS, Int.add_zero] at hP hs
    subst hP hs
    ((try simp -implicitDefEqProofs [-loopQ_n, h]) <;> (repeat' (first | (refine condD_dec ?_ ?_ <;> (intro hc; (try simp -implicitDefEqProofs [-loopQ_n, hc, h]))) | (refine guardD_dec ?_ ?_ <;> (intro hc; (try simp -implicitDefEqProofs [-loopQ_n, hc, h]))) | (refine condD_intro ?_ ?_ <;> (intro hd; have hc := hd; (try simp at hc) <;> (try simp -implicitDefEqProofs [-loopQ_n, hd, hc, h]))) | (refine guardD_intro ?_ ?_ <;> (intro hd; have hc := hd; (try simp at hc) <;> (try simp -implicitDefEqProofs [-loopQ_n, hd, hc, h]))) | (refine ldD_ep ?_ ?_; (focus kernel_rfl); (try simp -implicitDefEqProofs [-loopQ_n, h])))))
    refine ⟨_, _, _, rfl, weak_of 1 0 rfl rfl ?_ ?_, rfl, rfl⟩ <;> simp [-refsM, pM_refs]
end Go.Proofs.Ytkppfaennogcmaa
