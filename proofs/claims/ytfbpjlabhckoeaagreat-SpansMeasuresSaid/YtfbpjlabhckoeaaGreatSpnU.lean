/- Unions of spans (program). -/
import Derived.Test.YtfbpjlabhckoeaaGreatSpnS
import Derived.Test.YtfbpjlabhckoeaaGreatSpnP
import Derived.Test.YtfbpjlabhckoeaaGreatSpnW
namespace Go.Proofs.YtfbpjlabhckoeaaGreat
set_option linter.unusedSimpArgs false
set_option linter.unusedVariables false
set_option linter.unnecessarySimpa false
set_option linter.unusedSectionVars false
open Go.RowKit
variable [Glob]
set_option maxRecDepth 100000
theorem spU_set {l : List Sp} {i : Nat} {f t : Int} : (rowsOf spC l).set i [.int .i64 f, .int .i64 t] = rowsOf spC (l.set i ⟨f, t⟩) := by simp [rowsOf, spC, List.map_set]
theorem spU_snoc {l : List Sp} {f t : Int} : rowsOf spC l ++ [[.int .i64 f, .int .i64 t]] = rowsOf spC (l ++ [⟨f, t⟩]) := by simp [rowsOf, spC]
theorem spU_one {f t : Int} : rowsOf spC [⟨f, t⟩] = [[.int .i64 f, .int .i64 t]] := rfl
theorem spU_reify {H : List Blk} {n : Nat} {l : List Sp} : (rowsOf spC l).mapM (fun row => row.mapM (reify H (n + 1))) = some (rowsOf spC l) := rowsOf_reify fun x => by simp [spC, reify]
theorem sortM_nil : Pure Tryz.prog 53 [.rs [], .fn 54 []] (.tup []) := exFC_pure (m := 64) (n := 20) mixed noHook noRow noBase (by kernel_rfl)
set_option maxHeartbeats 8000000 in
theorem merged_pure (l : List Sp) (hv : ∀ s ∈ l, 0 ≤ s.f ∧ s.f < s.t) (hl : l.length ≤ 1000000) : Pure Tryz.prog 26 [.rs (rowsOf spC l)] (.rs (rowsOf spC (unionL l))) := by
  refine pure_of mixed Tryz.func26 rfl (by kernel_rfl) (of_decide_eq_true rfl) (by kernel_rfl) (vc_run ?_)
  by_cases h0 : l = []
  · subst h0
    ((try simp -implicitDefEqProofs [-loopQ_n, rowsOf]) <;> (repeat' (first | (refine condD_dec ?_ ?_ <;> (intro hc; (try simp -implicitDefEqProofs [-loopQ_n, hc, rowsOf]))) | (refine guardD_dec ?_ ?_ <;> (intro hc; (try simp -implicitDefEqProofs [-loopQ_n, hc, rowsOf]))) | (refine condD_intro ?_ ?_ <;> (intro hd; have hc := hd; (try simp at hc) <;> (try simp -implicitDefEqProofs [-loopQ_n, hd, hc, rowsOf]))) | (refine guardD_intro ?_ ?_ <;> (intro hd; have hc := hd; (try simp at hc) <;> (try simp -implicitDefEqProofs [-loopQ_n, hd, hc, rowsOf]))) | (refine ldD_ep ?_ ?_; (focus kernel_rfl); (try simp -implicitDefEqProofs [-loopQ_n, rowsOf])))))
    refine callG_intro (cloneSp0_G fun nb => ?_)
    ((try simp -implicitDefEqProofs [-loopQ_n, rowsOf]) <;> (repeat' (first | (refine condD_dec ?_ ?_ <;> (intro hc; (try simp -implicitDefEqProofs [-loopQ_n, hc, rowsOf]))) | (refine guardD_dec ?_ ?_ <;> (intro hc; (try simp -implicitDefEqProofs [-loopQ_n, hc, rowsOf]))) | (refine condD_intro ?_ ?_ <;> (intro hd; have hc := hd; (try simp at hc) <;> (try simp -implicitDefEqProofs [-loopQ_n, hd, hc, rowsOf]))) | (refine guardD_intro ?_ ?_ <;> (intro hd; have hc := hd; (try simp at hc) <;> (try simp -implicitDefEqProofs [-loopQ_n, hd, hc, rowsOf]))) | (refine ldD_ep ?_ ?_; (focus kernel_rfl); (try simp -implicitDefEqProofs [-loopQ_n, rowsOf])) | (refine callS_mk ?_; (try simp -implicitDefEqProofs [-loopQ_n, rowsOf]); (first | refine callS_intro (sortM_nil) (.inl rfl) ?_); (try simp -implicitDefEqProofs [-loopQ_n, rowsOf])))))
    refine loop_intro (σ := Unit) (fun _ => ⟨[(3, .nils), (11, .os 0 0), (12, .int .i64 0), (13, .int .i64 0)], [.row 48 nb []]⟩) (fun _ => True) (fun _ => 0) () trivial ?_ ?_
    · refine weak_of 1 0 rfl rfl ?_ ?_ <;> simp
    rintro _ _
    ((try simp -implicitDefEqProofs [-loopQ_n, unionL, rowsOf]) <;> (repeat' (first | (refine condD_dec ?_ ?_ <;> (intro hc; (try simp -implicitDefEqProofs [-loopQ_n, hc, unionL, rowsOf]))) | (refine guardD_dec ?_ ?_ <;> (intro hc; (try simp -implicitDefEqProofs [-loopQ_n, hc, unionL, rowsOf]))) | (refine condD_intro ?_ ?_ <;> (intro hd; have hc := hd; (try simp at hc) <;> (try simp -implicitDefEqProofs [-loopQ_n, hd, hc, unionL, rowsOf]))) | (refine guardD_intro ?_ ?_ <;> (intro hd; have hc := hd; (try simp at hc) <;> (try simp -implicitDefEqProofs [-loopQ_n, hd, hc, unionL, rowsOf]))) | (refine ldD_ep ?_ ?_; (focus kernel_rfl); (try simp -implicitDefEqProofs [-loopQ_n, unionL, rowsOf])))))
  · have hcl := cloneSp_fresh l h0 (by omega)
    have hlf : ((rowsOf spC l).all fun r => r.all flat) = true := rowsOf_flat fun x => by simp [spC, flat]
    ((try simp -implicitDefEqProofs [-loopQ_n]) <;> (repeat' (first | (refine condD_dec ?_ ?_ <;> (intro hc; (try simp -implicitDefEqProofs [-loopQ_n, hc]))) | (refine guardD_dec ?_ ?_ <;> (intro hc; (try simp -implicitDefEqProofs [-loopQ_n, hc]))) | (refine condD_intro ?_ ?_ <;> (intro hd; have hc := hd; (try simp at hc) <;> (try simp -implicitDefEqProofs [-loopQ_n, hd, hc]))) | (refine guardD_intro ?_ ?_ <;> (intro hd; have hc := hd; (try simp at hc) <;> (try simp -implicitDefEqProofs [-loopQ_n, hd, hc]))) | (refine ldD_ep ?_ ?_; (focus kernel_rfl); (try simp -implicitDefEqProofs [-loopQ_n])))))
    refine fresh_intro hcl (by simp) (.inl hlf) ?_
    ((try simp -implicitDefEqProofs [-loopQ_n]) <;> (repeat' (first | (refine condD_dec ?_ ?_ <;> (intro hc; (try simp -implicitDefEqProofs [-loopQ_n, hc]))) | (refine guardD_dec ?_ ?_ <;> (intro hc; (try simp -implicitDefEqProofs [-loopQ_n, hc]))) | (refine condD_intro ?_ ?_ <;> (intro hd; have hc := hd; (try simp at hc) <;> (try simp -implicitDefEqProofs [-loopQ_n, hd, hc]))) | (refine guardD_intro ?_ ?_ <;> (intro hd; have hc := hd; (try simp at hc) <;> (try simp -implicitDefEqProofs [-loopQ_n, hd, hc]))) | (refine ldD_ep ?_ ?_; (focus kernel_rfl); (try simp -implicitDefEqProofs [-loopQ_n])))))
    refine callG_intro (sortM_G (nb := false) (l := l) (by simp) (by simp) h0 (by omega) fun l' hp hs => ?_)
    have hme := mrg_union hp hs hv
    have hlen : l'.length = l.length := hp.length_eq
    generalize unionL l = res at hme ⊢
    ((try simp -implicitDefEqProofs [-loopQ_n, hlen]) <;> (repeat' (first | (refine condD_dec ?_ ?_ <;> (intro hc; (try simp -implicitDefEqProofs [-loopQ_n, hc, hlen]))) | (refine guardD_dec ?_ ?_ <;> (intro hc; (try simp -implicitDefEqProofs [-loopQ_n, hc, hlen]))) | (refine condD_intro ?_ ?_ <;> (intro hd; have hc := hd; (try simp at hc) <;> (try simp -implicitDefEqProofs [-loopQ_n, hd, hc, hlen]))) | (refine guardD_intro ?_ ?_ <;> (intro hd; have hc := hd; (try simp at hc) <;> (try simp -implicitDefEqProofs [-loopQ_n, hd, hc, hlen]))) | (refine ldD_ep ?_ ?_; (focus kernel_rfl); (try simp -implicitDefEqProofs [-loopQ_n, hlen])))))
    refine loop_intro (σ := Nat × List Sp) (fun x => ⟨[(3, .os 1 x.2.length), (11, .os 0 l.length), (12, .int .i64 l.length), (13, .int .i64 x.1)], [.row 48 false (rowsOf spC l'), .row 48 true (rowsOf spC x.2)]⟩)
      (fun x => x.1 ≤ l.length ∧ x.2.length ≤ x.1 ∧ (l'.drop x.1).foldl mrg x.2 = res) (fun x => l.length - x.1) (0, []) ⟨by simp, by simp, by simpa using hme⟩ ?_ ?_
    · refine weak_of 1 1 rfl rfl ?_ ?_ <;> simp [sp_refs, rowsOf_nil]
    rintro ⟨i, acc⟩ ⟨hi, hal, hR⟩
    simp only at hi hal hR
    by_cases h : i < l.length
    · have h2 : i < l'.length := by omega
      have w1 := w_succ' h (by omega)
      obtain ⟨⟨f, t⟩, hf⟩ : ∃ e, l'[i] = e := ⟨_, rfl⟩
      rw [List.drop_eq_getElem_cons h2, hf, List.foldl_cons] at hR
      have hl1 : acc.length ≤ 1073741823 := by omega
      cases hk : acc.length with
      | zero =>
        have he : acc = [] := List.eq_nil_of_length_eq_zero hk
        subst he
        have hm : mrg [] ⟨f, t⟩ = [⟨f, t⟩] := rfl
        rw [hm] at hR
        ((try simp -implicitDefEqProofs [-loopQ_n, h, h2, hf, spC, w1, hlen, rowsOf_nil]) <;> (repeat' (first | (refine condD_dec ?_ ?_ <;> (intro hc; (try simp -implicitDefEqProofs [-loopQ_n, hc, h, h2, hf, spC, w1, hlen, rowsOf_nil]))) | (refine guardD_dec ?_ ?_ <;> (intro hc; (try simp -implicitDefEqProofs [-loopQ_n, hc, h, h2, hf, spC, w1, hlen, rowsOf_nil]))) | (refine condD_intro ?_ ?_ <;> (intro hd; have hc := hd; (try simp at hc) <;> (try simp -implicitDefEqProofs [-loopQ_n, hd, hc, h, h2, hf, spC, w1, hlen, rowsOf_nil]))) | (refine guardD_intro ?_ ?_ <;> (intro hd; have hc := hd; (try simp at hc) <;> (try simp -implicitDefEqProofs [-loopQ_n, hd, hc, h, h2, hf, spC, w1, hlen, rowsOf_nil]))) | (refine ldD_ep ?_ ?_; (focus kernel_rfl); (try simp -implicitDefEqProofs [-loopQ_n, h, h2, hf, spC, w1, hlen, rowsOf_nil])))))
        refine loop_next (i + 1, [⟨f, t⟩]) ⟨h, by simp, hR⟩ (by simp only; omega) (weak_of 2 0 rfl rfl ?_ ?_) <;> simp [sp_refs, spU_one]
      | succ j =>
        have hj : j < acc.length := by omega
        obtain ⟨⟨f2, t2⟩, hq⟩ : ∃ e, acc[j] = e := ⟨_, rfl⟩
        have hget : acc[j]? = some ⟨f2, t2⟩ := by rw [List.getElem?_eq_getElem hj, hq]
        have w3 : wrapI .i64 ((j : Int) + 1 - 1) = (j : Int) := by rw [wrap_in (by omega) (by omega)]; omega
        have w4 : wrapI .i64 (j : Int) = (j : Int) := wrap_in (by omega) (by omega)
        have p0 : (0 : Int) < (j : Int) + 1 := by omega
        have hb : j ≤ 1073741822 := by omega
        by_cases c1 : f ≤ t2
        · have hm : mrg acc ⟨f, t⟩ = acc.set j ⟨f2, if t2 < t then t else t2⟩ := by rw [mrg, hk]; simp [hget, c1]
          rw [hm] at hR
          ((try simp -implicitDefEqProofs [-loopQ_n, h, h2, hf, spC, w1, hlen, hk, hj, hget, hq, w3, w4, p0, c1]) <;> (repeat' (first | (refine condD_dec ?_ ?_ <;> (intro hc; (try simp -implicitDefEqProofs [-loopQ_n, hc, h, h2, hf, spC, w1, hlen, hk, hj, hget, hq, w3, w4, p0, c1]))) | (refine guardD_dec ?_ ?_ <;> (intro hc; (try simp -implicitDefEqProofs [-loopQ_n, hc, h, h2, hf, spC, w1, hlen, hk, hj, hget, hq, w3, w4, p0, c1]))) | (refine condD_intro ?_ ?_ <;> (intro hd; have hc := hd; (try simp at hc) <;> (try simp -implicitDefEqProofs [-loopQ_n, hd, hc, h, h2, hf, spC, w1, hlen, hk, hj, hget, hq, w3, w4, p0, c1]))) | (refine guardD_intro ?_ ?_ <;> (intro hd; have hc := hd; (try simp at hc) <;> (try simp -implicitDefEqProofs [-loopQ_n, hd, hc, h, h2, hf, spC, w1, hlen, hk, hj, hget, hq, w3, w4, p0, c1]))) | (refine ldD_ep ?_ ?_; (focus kernel_rfl); (try simp -implicitDefEqProofs [-loopQ_n, h, h2, hf, spC, w1, hlen, hk, hj, hget, hq, w3, w4, p0, c1])))))
          rw [spU_set]
          refine loop_next (i + 1, acc.set j ⟨f2, if t2 < t then t else t2⟩) ⟨h, by simp; omega, hR⟩ (by simp only; omega) (weak_of 2 0 rfl rfl ?_ ?_) <;> simp [hk, sp_refs]
        · have hm : mrg acc ⟨f, t⟩ = acc ++ [⟨f, t⟩] := by rw [mrg, hk]; simp [hget, c1]
          rw [hm] at hR
          ((try simp -implicitDefEqProofs [-loopQ_n, h, h2, hf, spC, w1, hlen, hk, hj, hget, hq, w3, w4, p0, c1, hb, spU_snoc]) <;> (repeat' (first | (refine condD_dec ?_ ?_ <;> (intro hc; (try simp -implicitDefEqProofs [-loopQ_n, hc, h, h2, hf, spC, w1, hlen, hk, hj, hget, hq, w3, w4, p0, c1, hb, spU_snoc]))) | (refine guardD_dec ?_ ?_ <;> (intro hc; (try simp -implicitDefEqProofs [-loopQ_n, hc, h, h2, hf, spC, w1, hlen, hk, hj, hget, hq, w3, w4, p0, c1, hb, spU_snoc]))) | (refine condD_intro ?_ ?_ <;> (intro hd; have hc := hd; (try simp at hc) <;> (try simp -implicitDefEqProofs [-loopQ_n, hd, hc, h, h2, hf, spC, w1, hlen, hk, hj, hget, hq, w3, w4, p0, c1, hb, spU_snoc]))) | (refine guardD_intro ?_ ?_ <;> (intro hd; have hc := hd; (try simp at hc) <;> (try simp -implicitDefEqProofs [-loopQ_n, hd, hc, h, h2, hf, spC, w1, hlen, hk, hj, hget, hq, w3, w4, p0, c1, hb, spU_snoc]))) | (refine ldD_ep ?_ ?_; (focus kernel_rfl); (try simp -implicitDefEqProofs [-loopQ_n, h, h2, hf, spC, w1, hlen, hk, hj, hget, hq, w3, w4, p0, c1, hb, spU_snoc])))))
          refine loop_next (i + 1, acc ++ [⟨f, t⟩]) ⟨h, by simp; omega, hR⟩ (by simp only; omega) (weak_of 2 0 rfl rfl ?_ ?_) <;> simp [hk, sp_refs]
    · rw [List.drop_eq_nil_of_le (by omega), List.foldl_nil] at hR
      subst hR
      ((try simp -implicitDefEqProofs [-loopQ_n, h, spU_reify]) <;> (repeat' (first | (refine condD_dec ?_ ?_ <;> (intro hc; (try simp -implicitDefEqProofs [-loopQ_n, hc, h, spU_reify]))) | (refine guardD_dec ?_ ?_ <;> (intro hc; (try simp -implicitDefEqProofs [-loopQ_n, hc, h, spU_reify]))) | (refine condD_intro ?_ ?_ <;> (intro hd; have hc := hd; (try simp at hc) <;> (try simp -implicitDefEqProofs [-loopQ_n, hd, hc, h, spU_reify]))) | (refine guardD_intro ?_ ?_ <;> (intro hd; have hc := hd; (try simp at hc) <;> (try simp -implicitDefEqProofs [-loopQ_n, hd, hc, h, spU_reify]))) | (refine ldD_ep ?_ ?_; (focus kernel_rfl); (try simp -implicitDefEqProofs [-loopQ_n, h, spU_reify])))))
theorem spu_idx {p : Sp → Bool} {l : List Sp} {g : Nat} {caps : List AV} (hp : ∀ x ∈ l, Pure Tryz.prog g (.agg (spC x) :: caps) (.bool (p x))) (hc : ∀ H k, caps.mapM (reify H (k + 5)) = some caps) (hf : refsL 0 caps = true) (hl : l.length ≤ 9223372036854775807) :
    Pure Tryz.prog 51 [.rs (rowsOf spC l), .fn g caps] (.int .i64 (idxOf p l)) := by
  refine pure_of mixed Tryz.func51 rfl (by kernel_rfl) (of_decide_eq_true rfl) (by kernel_rfl) (vc_run ?_)
  simp -implicitDefEqProofs
  refine loop_intro (σ := Nat) (fun i => ⟨[(0, .rs (rowsOf spC l)), (1, .fn g caps), (7, .int .i64 l.length), (8, .int .i64 i)], []⟩) (fun i => i ≤ l.length ∧ allF p (l.take i)) (fun i => l.length - i) 0 ⟨Nat.zero_le _, allF_nil⟩ ?_ ?_
  · refine weak_of 0 0 rfl rfl ?_ ?_ <;> simp [hf]
  · rintro i ⟨hi, hall⟩
    by_cases h : i < l.length
    · simp -implicitDefEqProofs [h, spC]
      have hc8 : ∀ H, caps.mapM (reify H 8) = some caps := fun H => hc H 3
      refine call_intro (hp l[i] (by simp)) (by simp -implicitDefEqProofs [hc8, spC]) (.inl rfl) ?_
      by_cases hpx : p l[i] = true
      · simp -implicitDefEqProofs [hpx]
        exact (idxOf_some p l i h hall hpx).symm
      · have hpx : p l[i] = false := by simpa using hpx
        simp -implicitDefEqProofs [hpx]
        refine ⟨i + 1, ⟨by omega, allF_succ hall h hpx⟩, by omega, weak_of 0 0 rfl rfl ?_ ?_⟩
        · simp [hf]
          exact (wrap_in (by omega) (by omega)).symm
        · simp
    · simp -implicitDefEqProofs [h]
      rw [idxOf_none p l (allF_all hall h)]
theorem spu_any {p : Sp → Bool} {l : List Sp} {g : Nat} {caps : List AV} (hp : ∀ x ∈ l, Pure Tryz.prog g (.agg (spC x) :: caps) (.bool (p x))) (hc : ∀ H k, caps.mapM (reify H (k + 5)) = some caps) (hf : refsL 0 caps = true) (hl : l.length ≤ 9223372036854775807) :
    Pure Tryz.prog 23 [.rs (rowsOf spC l), .fn g caps] (.bool (l.any p)) := by
  refine pure_of mixed Tryz.func23 rfl (by kernel_rfl) (of_decide_eq_true rfl) (by kernel_rfl) (vc_run ?_)
  simp -implicitDefEqProofs
  have hc7 : ∀ H, caps.mapM (reify H 7) = some caps := fun H => hc H 2
  refine call_intro (spu_idx hp hc hf hl) (by simp -implicitDefEqProofs [hc7]) (.inl rfl) ?_
  simp -implicitDefEqProofs
  rw [← ge_idxOf]

theorem uni1_pure (s : Sp) : Pure Tryz.prog 24 [.agg (spC s)] (.bool (!spV s)) := by
  refine pure_of mixed Tryz.func24 rfl (by kernel_rfl) (of_decide_eq_true rfl) (by kernel_rfl) (vc_run ?_)
  ((try simp -implicitDefEqProofs [-loopQ_n, spC]) <;> (repeat' (first | (refine condD_dec ?_ ?_ <;> (intro hc; (try simp -implicitDefEqProofs [-loopQ_n, hc, spC]))) | (refine guardD_dec ?_ ?_ <;> (intro hc; (try simp -implicitDefEqProofs [-loopQ_n, hc, spC]))) | (refine condD_intro ?_ ?_ <;> (intro hd; have hc := hd; (try simp at hc) <;> (try simp -implicitDefEqProofs [-loopQ_n, hd, hc, spC]))) | (refine guardD_intro ?_ ?_ <;> (intro hd; have hc := hd; (try simp at hc) <;> (try simp -implicitDefEqProofs [-loopQ_n, hd, hc, spC]))) | (refine ldD_ep ?_ ?_; (focus kernel_rfl); (try simp -implicitDefEqProofs [-loopQ_n, spC])) | (refine callS_mk ?_; (try simp -implicitDefEqProofs [-loopQ_n, spC]); (first | refine callS_intro (validSpan_pure s.f s.t) (.inl rfl) ?_); (try simp -implicitDefEqProofs [-loopQ_n, spC])))))
def uniR (l : List Sp) : List Sp × Int := if l.length ≤ 1000 ∧ l.all spV = true then (unionL l, 0) else ([], 1)
def spsO (r : List Sp × Int) : AV := .tup [.rs (rowsOf spC r.1), .int .i64 r.2]
theorem union_pure (l : List Sp) (hl : l.length ≤ 9223372036854775807) : Pure Tryz.prog 6 [.rs (rowsOf spC l)] (spsO (uniR l)) := by
  have hA := spu_any (p := fun s => !spV s) (l := l) (g := 24) (caps := []) (fun x _ => uni1_pure x) (fun H k => rfl) rfl hl
  rw [show (l.any fun s => !spV s) = !l.all spV by simp [List.any_eq_not_all_not]] at hA
  by_cases h1 : (1000 : Int) < l.length
  · rw [uniR, if_neg (by omega)]
    refine pure_of mixed Tryz.func6 rfl (by kernel_rfl) (of_decide_eq_true rfl) (by kernel_rfl) (vc_run ?_)
    ((try simp -implicitDefEqProofs [-loopQ_n, h1, spsO, rowsOf_nil]) <;> (repeat' (first | (refine condD_dec ?_ ?_ <;> (intro hc; (try simp -implicitDefEqProofs [-loopQ_n, hc, h1, spsO, rowsOf_nil]))) | (refine guardD_dec ?_ ?_ <;> (intro hc; (try simp -implicitDefEqProofs [-loopQ_n, hc, h1, spsO, rowsOf_nil]))) | (refine condD_intro ?_ ?_ <;> (intro hd; have hc := hd; (try simp at hc) <;> (try simp -implicitDefEqProofs [-loopQ_n, hd, hc, h1, spsO, rowsOf_nil]))) | (refine guardD_intro ?_ ?_ <;> (intro hd; have hc := hd; (try simp at hc) <;> (try simp -implicitDefEqProofs [-loopQ_n, hd, hc, h1, spsO, rowsOf_nil]))) | (refine ldD_ep ?_ ?_; (focus kernel_rfl); (try simp -implicitDefEqProofs [-loopQ_n, h1, spsO, rowsOf_nil])) | (refine callS_mk ?_; (try simp -implicitDefEqProofs [-loopQ_n, h1, spsO, rowsOf_nil]); (first | refine callS_intro (hA) (.inl rfl) ?_); (try simp -implicitDefEqProofs [-loopQ_n, h1, spsO, rowsOf_nil])))))
  by_cases h2 : l.all spV = true
  · rw [uniR, if_pos ⟨by omega, h2⟩]
    rw [h2] at hA
    have hm := merged_pure l (fun s hs => by have := List.all_eq_true.1 h2 s hs; rw [spV_iff] at this; omega) (by omega)
    refine pure_of mixed Tryz.func6 rfl (by kernel_rfl) (of_decide_eq_true rfl) (by kernel_rfl) (vc_run ?_)
    ((try simp -implicitDefEqProofs [-loopQ_n, h1, h2, spsO, rowsOf_nil]) <;> (repeat' (first | (refine condD_dec ?_ ?_ <;> (intro hc; (try simp -implicitDefEqProofs [-loopQ_n, hc, h1, h2, spsO, rowsOf_nil]))) | (refine guardD_dec ?_ ?_ <;> (intro hc; (try simp -implicitDefEqProofs [-loopQ_n, hc, h1, h2, spsO, rowsOf_nil]))) | (refine condD_intro ?_ ?_ <;> (intro hd; have hc := hd; (try simp at hc) <;> (try simp -implicitDefEqProofs [-loopQ_n, hd, hc, h1, h2, spsO, rowsOf_nil]))) | (refine guardD_intro ?_ ?_ <;> (intro hd; have hc := hd; (try simp at hc) <;> (try simp -implicitDefEqProofs [-loopQ_n, hd, hc, h1, h2, spsO, rowsOf_nil]))) | (refine ldD_ep ?_ ?_; (focus kernel_rfl); (try simp -implicitDefEqProofs [-loopQ_n, h1, h2, spsO, rowsOf_nil])) | (refine callS_mk ?_; (try simp -implicitDefEqProofs [-loopQ_n, h1, h2, spsO, rowsOf_nil]); (first | refine callS_intro (hA) (.inl rfl) ?_ | refine callS_intro (hm) (.inr ⟨rfl, rfl⟩) ?_); (try simp -implicitDefEqProofs [-loopQ_n, h1, h2, spsO, rowsOf_nil])))))
  · rw [uniR, if_neg (fun q => h2 q.2)]
    have h2 : l.all spV = false := by simpa using h2
    rw [h2] at hA
    refine pure_of mixed Tryz.func6 rfl (by kernel_rfl) (of_decide_eq_true rfl) (by kernel_rfl) (vc_run ?_)
    ((try simp -implicitDefEqProofs [-loopQ_n, h1, h2, spsO, rowsOf_nil]) <;> (repeat' (first | (refine condD_dec ?_ ?_ <;> (intro hc; (try simp -implicitDefEqProofs [-loopQ_n, hc, h1, h2, spsO, rowsOf_nil]))) | (refine guardD_dec ?_ ?_ <;> (intro hc; (try simp -implicitDefEqProofs [-loopQ_n, hc, h1, h2, spsO, rowsOf_nil]))) | (refine condD_intro ?_ ?_ <;> (intro hd; have hc := hd; (try simp at hc) <;> (try simp -implicitDefEqProofs [-loopQ_n, hd, hc, h1, h2, spsO, rowsOf_nil]))) | (refine guardD_intro ?_ ?_ <;> (intro hd; have hc := hd; (try simp at hc) <;> (try simp -implicitDefEqProofs [-loopQ_n, hd, hc, h1, h2, spsO, rowsOf_nil]))) | (refine ldD_ep ?_ ?_; (focus kernel_rfl); (try simp -implicitDefEqProofs [-loopQ_n, h1, h2, spsO, rowsOf_nil])) | (refine callS_mk ?_; (try simp -implicitDefEqProofs [-loopQ_n, h1, h2, spsO, rowsOf_nil]); (first | refine callS_intro (hA) (.inl rfl) ?_); (try simp -implicitDefEqProofs [-loopQ_n, h1, h2, spsO, rowsOf_nil])))))
end Go.Proofs.YtfbpjlabhckoeaaGreat
