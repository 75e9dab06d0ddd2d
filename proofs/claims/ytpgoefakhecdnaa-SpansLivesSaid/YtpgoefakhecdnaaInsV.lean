/- The reference's Instances, walked. -/
import Derived.Test.YtpgoefakhecdnaaInsU
import Derived.Test.YtpgoefakhecdnaaInsT
import Derived.Test.YtpgoefakhecdnaaAbFrb
namespace Go.Proofs.Ytpgoefakhecdnaa
set_option linter.unusedSimpArgs false
set_option linter.unusedVariables false
set_option linter.unnecessarySimpa false
set_option linter.unusedSectionVars false
open Go.RowKit
variable [Glob]
set_option maxRecDepth 100000
theorem fstR_get {k : Ky} {p : Xc → Bool} {l : List Op_} {n : Nat} (h : fstR k p l = some n) : ∃ (hn : n < l.length), l[n].k = k := by
  unfold fstR at h
  obtain ⟨hn, h1, _⟩ := List.findIdx?_eq_some_iff_getElem.1 h
  simp only [Bool.and_eq_true, decide_eq_true_eq] at h1
  exact ⟨hn, h1.1⟩
theorem rfirst_some {l : List Op_} {e : Evt} {a b : Int} {n : Nat} (hl : l.length ≤ 1000000) (p : Xc → Bool) (hp : ∀ x, p x = decide (a ≤ x.st ∧ x.st ≤ b)) (h : fstR (kyE e) p l = some n) : Pure Try.prog 35 [.rs (rowsOf opC l), .agg (evtC e), .int .i64 a, .int .i64 b] (.int .i64 (n : Int)) := by
  have h1 := rfirst_pure l e a b hl
  rw [show (fun x : Xc => decide (a ≤ x.st ∧ x.st ≤ b)) = p from funext fun x => (hp x).symm, h] at h1
  simpa [resI] using h1
theorem rfirst_none {l : List Op_} {e : Evt} {a b : Int} (hl : l.length ≤ 1000000) (p : Xc → Bool) (hp : ∀ x, p x = decide (a ≤ x.st ∧ x.st ≤ b)) (h : fstR (kyE e) p l = none) : Pure Try.prog 35 [.rs (rowsOf opC l), .agg (evtC e), .int .i64 a, .int .i64 b] (.int .i64 (-1)) := by
  have h1 := rfirst_pure l e a b hl
  rw [show (fun x : Xc => decide (a ≤ x.st ∧ x.st ≤ b)) = p from funext fun x => (hp x).symm, h] at h1
  simpa [resI] using h1
theorem isS_dec (s : Int) (x : Xc) : isS s x = decide (s ≤ x.st ∧ x.st ≤ s) := by
  unfold isS
  by_cases h : x.st = s
  · simp [h]
  · have : ¬ (s ≤ x.st ∧ x.st ≤ s) := by omega
    simp [h, this]
theorem op_set {l : List Op_} {n : Nat} {a b : ByteArray} {u v w : Int} : (rowsOf opC l).set n [.str a, .str b, .str ByteArray.empty, .int .i64 u, .int .i64 v, .int .i64 0, .int .i64 w] = rowsOf opC (l.set n ⟨(a, b), ⟨w, u, v⟩⟩) := by simp [rowsOf, opC, List.map_set]
theorem opA_get {l : List Op_} {n : Nat} {o : Op_} (h : n < l.length) (ho : l[n] = o) : opA l n = o.x := by unfold opA; rw [List.getElem?_eq_getElem h, ho]
theorem insV_snoc {l : List Ins} {a b r : ByteArray} {u v w : Int} : rowsOf insC l ++ [[.str a, .str b, .str r, .int .i64 u, .int .i64 v, .int .i64 w]] = rowsOf insC (l ++ [⟨a, b, r, u, v, w⟩]) := by simp [rowsOf, insC]
theorem insV_mB {ρ : Nat → Nat} {t : TypeId} {nb : Bool} {l : List Ins} : mB ρ (.row t nb (rowsOf insC l)) = .row t nb (rowsOf insC l) := by
  simp only [mB, rowsOf, List.map_map]
  congr 1
theorem op_mB {ρ : Nat → Nat} {t : TypeId} {nb : Bool} {l : List Op_} : mB ρ (.row t nb (rowsOf opC l)) = .row t nb (rowsOf opC l) := by
  simp only [mB, rowsOf, List.map_map]
  congr 1
theorem op_all {l : List Op_} : allLen 7 (rowsOf opC l) = true := rowsOf_allLen fun x => rfl
theorem op_sh {N : Nat} {l : List Op_} : (rowsOf opC l).map (shL N) = rowsOf opC l := by
  unfold rowsOf
  rw [List.map_map]
  exact List.map_congr_left fun x _ => rfl
theorem op_fb {N : Nat} {cs : List AV} {l : List Op_} : (rowsOf opC l).map (fbL N cs) = rowsOf opC l := by
  unfold rowsOf
  rw [List.map_map]
  exact List.map_congr_left fun x _ => rfl
theorem ins_fb {N : Nat} {cs : List AV} {l : List Ins} : (rowsOf insC l).map (fbL N cs) = rowsOf insC l := by
  unfold rowsOf
  rw [List.map_map]
  exact List.map_congr_left fun x _ => rfl
theorem op_flat {l : List Op_} : ((rowsOf opC l).all fun r => r.all flat) = true := rowsOf_flat fun x => by simp [opC, flat]
theorem op_flatB {t : TypeId} {nb : Bool} {l : List Op_} : flatB (.row t nb (rowsOf opC l)) = true := by
  simp only [flatB, List.all_eq_true, rowsOf, List.mem_map]
  rintro r ⟨x, _, rfl⟩ c hc
  simp only [opC, List.mem_cons, List.not_mem_nil, or_false] at hc
  rcases hc with rfl | rfl | rfl | rfl | rfl | rfl | rfl <;> rfl
theorem rdrop_at {l : List Op_} {n : Nat} (hl : l.length ≤ 1000000) : New Try.prog 36 [.rs (rowsOf opC l), .int .i64 (n : Int)] (.os 0 (l.eraseIdx n).length) [.row 69 true (rowsOf opC (l.eraseIdx n))] := by
  have h := rdrop_new l (n : Int) hl
  rwa [show dropF 0 l (n : Int) = l.eraseIdx n by have := dropF_in l 0 n; rwa [Nat.zero_add] at this] at h
theorem rdrop_no {l : List Op_} (hl : l.length ≤ 1000000) : New Try.prog 36 [.rs (rowsOf opC l), .int .i64 (-1)] (.os 0 l.length) [.row 69 true (rowsOf opC l)] := by
  have h := rdrop_new l (-1) hl
  rwa [dropF_out l 0 (-1) (by omega)] at h
noncomputable def instR (l : List Evt) : List Ins × Int := if logV l = true then runR [] [] l else ([], 1)
theorem instR_eq (l : List Evt) : instR l = instL l := by
  unfold instR instL
  rw [run_rel l [] (fun _ => []) [] (fun _ => rfl) (fun _ _ h => by cases h)]
theorem stepR_len {e : Evt} {l l' : List Op_} {x : Option Xc} (h : stepR e l = some (l', x)) : l'.length ≤ l.length + 1 := by
  unfold stepR at h
  have hE : ∀ i, (l.eraseIdx i).length ≤ l.length + 1 := fun i => by rw [List.length_eraseIdx]; split <;> omega
  (repeat' split at h) <;> simp only [Option.some.injEq, Prod.mk.injEq, reduceCtorEq] at h
  all_goals (obtain ⟨rfl, _⟩ := h)
  all_goals first | exact hE _ | omega | (simp only [List.length_append, List.length_set, List.length_cons, List.length_nil]; omega)
theorem evt_mB {ρ : Nat → Nat} {t : TypeId} {l : List Evt} : mB ρ (.box t [.rs (rowsOf evtC l)]) = .box t [.rs (rowsOf evtC l)] := rfl
set_option maxHeartbeats 32000000 in
theorem rinstances_pure (l : List Evt) : Pure Try.prog 9 [.agg [.rs (rowsOf evtC l)]] (insO (instR l)) := by
  have hP := rlog_pure l
  refine pure_W [39] [] mixed Try.func9 rfl (by kernel_rfl) (of_decide_eq_true rfl) (by kernel_rfl) (vc_run ?_)
  by_cases hV : logV l = true
  rotate_left
  · rw [instR, if_neg hV]
    have hV : logV l = false := by simpa using hV
    rw [hV] at hP
    ((try simp -implicitDefEqProofs [-loopQ_n, insO, rowsOf_nil]) <;> (repeat' (first | (refine condD_dec ?_ ?_ <;> (intro hc; (try simp -implicitDefEqProofs [-loopQ_n, hc, insO, rowsOf_nil]))) | (refine guardD_dec ?_ ?_ <;> (intro hc; (try simp -implicitDefEqProofs [-loopQ_n, hc, insO, rowsOf_nil]))) | (refine condD_intro ?_ ?_ <;> (intro hd; have hc := hd; (try simp at hc) <;> (try simp -implicitDefEqProofs [-loopQ_n, hd, hc, insO, rowsOf_nil]))) | (refine guardD_intro ?_ ?_ <;> (intro hd; have hc := hd; (try simp at hc) <;> (try simp -implicitDefEqProofs [-loopQ_n, hd, hc, insO, rowsOf_nil]))) | (refine ldD_ep ?_ ?_; (focus kernel_rfl); (try simp -implicitDefEqProofs [-loopQ_n, insO, rowsOf_nil])) | (refine callS_mk ?_; (try simp -implicitDefEqProofs [-loopQ_n, insO, rowsOf_nil]); (first | refine callS_intro (hP) (.inl rfl) ?_); (try simp -implicitDefEqProofs [-loopQ_n, insO, rowsOf_nil])))))
  rw [instR, if_pos hV]
  rw [hV] at hP
  have hl := log_len hV
  obtain ⟨R, hR⟩ : ∃ R, runR [] [] l = R := ⟨_, rfl⟩
  rw [hR]
  ((try simp -implicitDefEqProofs [-loopQ_n]) <;> (repeat' (first | (refine condD_dec ?_ ?_ <;> (intro hc; (try simp -implicitDefEqProofs [-loopQ_n, hc]))) | (refine guardD_dec ?_ ?_ <;> (intro hc; (try simp -implicitDefEqProofs [-loopQ_n, hc]))) | (refine condD_intro ?_ ?_ <;> (intro hd; have hc := hd; (try simp at hc) <;> (try simp -implicitDefEqProofs [-loopQ_n, hd, hc]))) | (refine guardD_intro ?_ ?_ <;> (intro hd; have hc := hd; (try simp at hc) <;> (try simp -implicitDefEqProofs [-loopQ_n, hd, hc]))) | (refine ldD_ep ?_ ?_; (focus kernel_rfl); (try simp -implicitDefEqProofs [-loopQ_n])) | (refine callS_mk ?_; (try simp -implicitDefEqProofs [-loopQ_n]); (first | refine callS_intro (hP) (.inl rfl) ?_); (try simp -implicitDefEqProofs [-loopQ_n])))))
  refine loop_intro (σ := Nat × List Op_ × Bool × List Ins × Bool) (fun x => ⟨[(1, .op 0 0), (4, .os 2 x.2.1.length), (5, .os 1 x.2.2.2.1.length), (6, .int .i64 x.1)], [.box 24 [.rs (rowsOf evtC l)], .row 26 x.2.2.2.2 (rowsOf insC x.2.2.2.1), .row 69 x.2.2.1 (rowsOf opC x.2.1)]⟩)
    (fun x => x.1 ≤ l.length ∧ x.2.1.length ≤ x.1 ∧ x.2.2.2.1.length ≤ x.1 ∧ runR x.2.1 x.2.2.2.1 (l.drop x.1) = R) (fun x => l.length - x.1) (0, [], true, [], true) ⟨by simp, by simp, by simp, by simpa using hR⟩ ?_ ?_
  · refine weak_of 1 2 rfl rfl ?_ ?_ <;> simp [evtI_refs, rowsOf_nil]
    exact ⟨1, by omega, rfl⟩
  clear hR
  rintro ⟨i, op, nb, out, nb2⟩ ⟨hi, hpl, hol, hR⟩
  simp only at hi hpl hol hR
  by_cases h : i < l.length
  rotate_left
  · rw [List.drop_eq_nil_of_le (by omega), runR] at hR
    subst hR
    ((try simp -implicitDefEqProofs [-loopQ_n, h, insO, ins_reify]) <;> (repeat' (first | (refine condD_dec ?_ ?_ <;> (intro hc; (try simp -implicitDefEqProofs [-loopQ_n, hc, h, insO, ins_reify]))) | (refine guardD_dec ?_ ?_ <;> (intro hc; (try simp -implicitDefEqProofs [-loopQ_n, hc, h, insO, ins_reify]))) | (refine condD_intro ?_ ?_ <;> (intro hd; have hc := hd; (try simp at hc) <;> (try simp -implicitDefEqProofs [-loopQ_n, hd, hc, h, insO, ins_reify]))) | (refine guardD_intro ?_ ?_ <;> (intro hd; have hc := hd; (try simp at hc) <;> (try simp -implicitDefEqProofs [-loopQ_n, hd, hc, h, insO, ins_reify]))) | (refine ldD_ep ?_ ?_; (focus kernel_rfl); (try simp -implicitDefEqProofs [-loopQ_n, h, insO, ins_reify])))))
  have w1 := w_succ' h (by omega)
  rw [List.drop_eq_getElem_cons h, runR] at hR
  obtain ⟨⟨ec, ea, er, el, et, ed⟩, hf⟩ : ∃ e, l[i] = e := ⟨_, rfl⟩
  rw [hf] at hR
  have hl1 : op.length ≤ 1073741823 := by omega
  have hl2 : out.length ≤ 1073741823 := by omega
  have hl3 : op.length ≤ 1000000 := by omega
  have hstl := fun l' x => stepR_len (e := ⟨ec, ea, er, el, et, ed⟩) (l := op) (l' := l') (x := x)
  by_cases c1 : el = 1
  · subst c1
    simp only [stepR, kyE, if_true, outE, List.append_nil] at hR
    ((try simp -implicitDefEqProofs [-loopQ_n, h, hf, evtC, w1, hl1, hl2, op_snoc, op_set, op_reify, insV_snoc, rowsOf_length]) <;> (repeat' (first | (refine condD_dec ?_ ?_ <;> (intro hc; (try simp -implicitDefEqProofs [-loopQ_n, hc, h, hf, evtC, w1, hl1, hl2, op_snoc, op_set, op_reify, insV_snoc, rowsOf_length]))) | (refine guardD_dec ?_ ?_ <;> (intro hc; (try simp -implicitDefEqProofs [-loopQ_n, hc, h, hf, evtC, w1, hl1, hl2, op_snoc, op_set, op_reify, insV_snoc, rowsOf_length]))) | (refine condD_intro ?_ ?_ <;> (intro hd; have hc := hd; (try simp at hc) <;> (try simp -implicitDefEqProofs [-loopQ_n, hd, hc, h, hf, evtC, w1, hl1, hl2, op_snoc, op_set, op_reify, insV_snoc, rowsOf_length]))) | (refine guardD_intro ?_ ?_ <;> (intro hd; have hc := hd; (try simp at hc) <;> (try simp -implicitDefEqProofs [-loopQ_n, hd, hc, h, hf, evtC, w1, hl1, hl2, op_snoc, op_set, op_reify, insV_snoc, rowsOf_length]))) | (refine ldD_ep ?_ ?_; (focus kernel_rfl); (try simp -implicitDefEqProofs [-loopQ_n, h, hf, evtC, w1, hl1, hl2, op_snoc, op_set, op_reify, insV_snoc, rowsOf_length])))))
    refine loop_next (i + 1, op ++ [⟨(ec, ea), ⟨1, et, et⟩⟩], nb, out, nb2) ⟨h, by simp only [List.length_append, List.length_set, List.length_singleton]; omega, by simp only [List.length_append, List.length_singleton]; omega, hR⟩ (by simp only; omega) (weak_of 3 0 rfl rfl ?_ ?_) <;> simp [op_refs, ins_refs, evtI_refs, w1]
  by_cases c2 : el = 2
  · subst c2
    cases hn : fstR (ec, ea) (isS 1) op with
    | none =>
      have hfst := rfirst_none (e := ⟨ec, ea, er, 2, et, ed⟩) hl3 (isS 1) (isS_dec 1) hn
      simp only [evtC] at hfst
      simp only [stepR, kyE, hn, if_true, show ¬ (2 : Int) = 1 by decide, if_false, outE, List.append_nil] at hR
      ((try simp -implicitDefEqProofs [-loopQ_n, h, hf, evtC, w1, hl1, hl2, op_snoc, op_set, op_reify, insV_snoc, rowsOf_length]) <;> (repeat' (first | (refine condD_dec ?_ ?_ <;> (intro hc; (try simp -implicitDefEqProofs [-loopQ_n, hc, h, hf, evtC, w1, hl1, hl2, op_snoc, op_set, op_reify, insV_snoc, rowsOf_length]))) | (refine guardD_dec ?_ ?_ <;> (intro hc; (try simp -implicitDefEqProofs [-loopQ_n, hc, h, hf, evtC, w1, hl1, hl2, op_snoc, op_set, op_reify, insV_snoc, rowsOf_length]))) | (refine condD_intro ?_ ?_ <;> (intro hd; have hc := hd; (try simp at hc) <;> (try simp -implicitDefEqProofs [-loopQ_n, hd, hc, h, hf, evtC, w1, hl1, hl2, op_snoc, op_set, op_reify, insV_snoc, rowsOf_length]))) | (refine guardD_intro ?_ ?_ <;> (intro hd; have hc := hd; (try simp at hc) <;> (try simp -implicitDefEqProofs [-loopQ_n, hd, hc, h, hf, evtC, w1, hl1, hl2, op_snoc, op_set, op_reify, insV_snoc, rowsOf_length]))) | (refine ldD_ep ?_ ?_; (focus kernel_rfl); (try simp -implicitDefEqProofs [-loopQ_n, h, hf, evtC, w1, hl1, hl2, op_snoc, op_set, op_reify, insV_snoc, rowsOf_length])) | (refine callS_mk ?_; (try simp -implicitDefEqProofs [-loopQ_n, h, hf, evtC, w1, hl1, hl2, op_snoc, op_set, op_reify, insV_snoc, rowsOf_length]); (first | refine callS_intro (hfst) (.inl rfl) ?_); (try simp -implicitDefEqProofs [-loopQ_n, h, hf, evtC, w1, hl1, hl2, op_snoc, op_set, op_reify, insV_snoc, rowsOf_length])))))
      refine loop_next (i + 1, op ++ [⟨(ec, ea), ⟨2, et, et⟩⟩], nb, out, nb2) ⟨h, by simp only [List.length_append, List.length_set, List.length_singleton]; omega, by simp only [List.length_append, List.length_singleton]; omega, hR⟩ (by simp only; omega) (weak_of 3 0 rfl rfl ?_ ?_) <;> simp [op_refs, ins_refs, evtI_refs, w1]
    | some n =>
      have hfst := rfirst_some (e := ⟨ec, ea, er, 2, et, ed⟩) hl3 (isS 1) (isS_dec 1) hn
      simp only [evtC] at hfst
      obtain ⟨hlt, hk⟩ := fstR_get hn
      obtain ⟨⟨⟨kc, ka⟩, ⟨xs, xr, xf⟩⟩, ho⟩ : ∃ o, op[n] = o := ⟨_, rfl⟩
      have hoA := opA_get hlt ho
      rw [ho] at hk
      simp only [Prod.mk.injEq] at hk
      obtain ⟨rfl, rfl⟩ := hk
      have hn0 : (0 : Int) ≤ n := by omega
      have hn1 : ¬ (n : Int) < 0 := by omega
      have hnl : (n : Int) < op.length := by omega
      simp only [stepR, kyE, hn, if_true, show ¬ (2 : Int) = 1 by decide, if_false, outE, List.append_nil, hoA] at hR
      ((try simp -implicitDefEqProofs [-loopQ_n, h, hf, evtC, w1, hl1, hl2, op_snoc, op_set, op_reify, insV_snoc, rowsOf_length, hlt, hn0, hn1, hnl, ho, opC]) <;> (repeat' (first | (refine condD_dec ?_ ?_ <;> (intro hc; (try simp -implicitDefEqProofs [-loopQ_n, hc, h, hf, evtC, w1, hl1, hl2, op_snoc, op_set, op_reify, insV_snoc, rowsOf_length, hlt, hn0, hn1, hnl, ho, opC]))) | (refine guardD_dec ?_ ?_ <;> (intro hc; (try simp -implicitDefEqProofs [-loopQ_n, hc, h, hf, evtC, w1, hl1, hl2, op_snoc, op_set, op_reify, insV_snoc, rowsOf_length, hlt, hn0, hn1, hnl, ho, opC]))) | (refine condD_intro ?_ ?_ <;> (intro hd; have hc := hd; (try simp at hc) <;> (try simp -implicitDefEqProofs [-loopQ_n, hd, hc, h, hf, evtC, w1, hl1, hl2, op_snoc, op_set, op_reify, insV_snoc, rowsOf_length, hlt, hn0, hn1, hnl, ho, opC]))) | (refine guardD_intro ?_ ?_ <;> (intro hd; have hc := hd; (try simp at hc) <;> (try simp -implicitDefEqProofs [-loopQ_n, hd, hc, h, hf, evtC, w1, hl1, hl2, op_snoc, op_set, op_reify, insV_snoc, rowsOf_length, hlt, hn0, hn1, hnl, ho, opC]))) | (refine ldD_ep ?_ ?_; (focus kernel_rfl); (try simp -implicitDefEqProofs [-loopQ_n, h, hf, evtC, w1, hl1, hl2, op_snoc, op_set, op_reify, insV_snoc, rowsOf_length, hlt, hn0, hn1, hnl, ho, opC])) | (refine callS_mk ?_; (try simp -implicitDefEqProofs [-loopQ_n, h, hf, evtC, w1, hl1, hl2, op_snoc, op_set, op_reify, insV_snoc, rowsOf_length, hlt, hn0, hn1, hnl, ho, opC]); (first | refine callS_intro (hfst) (.inl rfl) ?_); (try simp -implicitDefEqProofs [-loopQ_n, h, hf, evtC, w1, hl1, hl2, op_snoc, op_set, op_reify, insV_snoc, rowsOf_length, hlt, hn0, hn1, hnl, ho, opC])))))
      refine loop_next (i + 1, op.set n ⟨(kc, ka), ⟨2, xr, et⟩⟩, nb, out, nb2) ⟨h, by simp only [List.length_append, List.length_set, List.length_singleton]; omega, by simp only [List.length_append, List.length_singleton]; omega, hR⟩ (by simp only; omega) (weak_of 3 0 rfl rfl ?_ ?_) <;> simp [op_refs, ins_refs, evtI_refs, w1]
  by_cases c3 : el = 3
  · subst c3
    cases hn : fstR (ec, ea) (isS 2) op with
    | none =>
      have hfst := rfirst_none (e := ⟨ec, ea, er, 3, et, ed⟩) hl3 (isS 2) (isS_dec 2) hn
      simp only [evtC] at hfst
      simp only [stepR, kyE, hn, if_true, show ¬ (3 : Int) = 1 by decide, show ¬ (3 : Int) = 2 by decide, if_false, outE, List.append_nil] at hR
      subst hR
      ((try simp -implicitDefEqProofs [-loopQ_n, h, hf, evtC, w1, hl1, hl2, op_snoc, op_set, op_reify, insV_snoc, rowsOf_length, insO, rowsOf_nil]) <;> (repeat' (first | (refine condD_dec ?_ ?_ <;> (intro hc; (try simp -implicitDefEqProofs [-loopQ_n, hc, h, hf, evtC, w1, hl1, hl2, op_snoc, op_set, op_reify, insV_snoc, rowsOf_length, insO, rowsOf_nil]))) | (refine guardD_dec ?_ ?_ <;> (intro hc; (try simp -implicitDefEqProofs [-loopQ_n, hc, h, hf, evtC, w1, hl1, hl2, op_snoc, op_set, op_reify, insV_snoc, rowsOf_length, insO, rowsOf_nil]))) | (refine condD_intro ?_ ?_ <;> (intro hd; have hc := hd; (try simp at hc) <;> (try simp -implicitDefEqProofs [-loopQ_n, hd, hc, h, hf, evtC, w1, hl1, hl2, op_snoc, op_set, op_reify, insV_snoc, rowsOf_length, insO, rowsOf_nil]))) | (refine guardD_intro ?_ ?_ <;> (intro hd; have hc := hd; (try simp at hc) <;> (try simp -implicitDefEqProofs [-loopQ_n, hd, hc, h, hf, evtC, w1, hl1, hl2, op_snoc, op_set, op_reify, insV_snoc, rowsOf_length, insO, rowsOf_nil]))) | (refine ldD_ep ?_ ?_; (focus kernel_rfl); (try simp -implicitDefEqProofs [-loopQ_n, h, hf, evtC, w1, hl1, hl2, op_snoc, op_set, op_reify, insV_snoc, rowsOf_length, insO, rowsOf_nil])) | (refine callS_mk ?_; (try simp -implicitDefEqProofs [-loopQ_n, h, hf, evtC, w1, hl1, hl2, op_snoc, op_set, op_reify, insV_snoc, rowsOf_length, insO, rowsOf_nil]); (first | refine callS_intro (hfst) (.inl rfl) ?_); (try simp -implicitDefEqProofs [-loopQ_n, h, hf, evtC, w1, hl1, hl2, op_snoc, op_set, op_reify, insV_snoc, rowsOf_length, insO, rowsOf_nil])))))
    | some n =>
      have hfst := rfirst_some (e := ⟨ec, ea, er, 3, et, ed⟩) hl3 (isS 2) (isS_dec 2) hn
      simp only [evtC] at hfst
      obtain ⟨hlt, hk⟩ := fstR_get hn
      obtain ⟨⟨⟨kc, ka⟩, ⟨xs, xr, xf⟩⟩, ho⟩ : ∃ o, op[n] = o := ⟨_, rfl⟩
      have hoA := opA_get hlt ho
      rw [ho] at hk
      simp only [Prod.mk.injEq] at hk
      obtain ⟨rfl, rfl⟩ := hk
      have hn0 : (0 : Int) ≤ n := by omega
      have hn1 : ¬ (n : Int) < 0 := by omega
      have hnl : (n : Int) < op.length := by omega
      simp only [stepR, kyE, hn, if_true, show ¬ (3 : Int) = 1 by decide, show ¬ (3 : Int) = 2 by decide, if_false, outE, List.append_nil, hoA] at hR
      ((try simp -implicitDefEqProofs [-loopQ_n, h, hf, evtC, w1, hl1, hl2, op_snoc, op_set, op_reify, insV_snoc, rowsOf_length, hlt, hn0, hn1, hnl, ho, opC]) <;> (repeat' (first | (refine condD_dec ?_ ?_ <;> (intro hc; (try simp -implicitDefEqProofs [-loopQ_n, hc, h, hf, evtC, w1, hl1, hl2, op_snoc, op_set, op_reify, insV_snoc, rowsOf_length, hlt, hn0, hn1, hnl, ho, opC]))) | (refine guardD_dec ?_ ?_ <;> (intro hc; (try simp -implicitDefEqProofs [-loopQ_n, hc, h, hf, evtC, w1, hl1, hl2, op_snoc, op_set, op_reify, insV_snoc, rowsOf_length, hlt, hn0, hn1, hnl, ho, opC]))) | (refine condD_intro ?_ ?_ <;> (intro hd; have hc := hd; (try simp at hc) <;> (try simp -implicitDefEqProofs [-loopQ_n, hd, hc, h, hf, evtC, w1, hl1, hl2, op_snoc, op_set, op_reify, insV_snoc, rowsOf_length, hlt, hn0, hn1, hnl, ho, opC]))) | (refine guardD_intro ?_ ?_ <;> (intro hd; have hc := hd; (try simp at hc) <;> (try simp -implicitDefEqProofs [-loopQ_n, hd, hc, h, hf, evtC, w1, hl1, hl2, op_snoc, op_set, op_reify, insV_snoc, rowsOf_length, hlt, hn0, hn1, hnl, ho, opC]))) | (refine ldD_ep ?_ ?_; (focus kernel_rfl); (try simp -implicitDefEqProofs [-loopQ_n, h, hf, evtC, w1, hl1, hl2, op_snoc, op_set, op_reify, insV_snoc, rowsOf_length, hlt, hn0, hn1, hnl, ho, opC])) | (refine callS_mk ?_; (try simp -implicitDefEqProofs [-loopQ_n, h, hf, evtC, w1, hl1, hl2, op_snoc, op_set, op_reify, insV_snoc, rowsOf_length, hlt, hn0, hn1, hnl, ho, opC]); (first | refine callS_intro (hfst) (.inl rfl) ?_); (try simp -implicitDefEqProofs [-loopQ_n, h, hf, evtC, w1, hl1, hl2, op_snoc, op_set, op_reify, insV_snoc, rowsOf_length, hlt, hn0, hn1, hnl, ho, opC])))))
      refine loop_next (i + 1, op.set n ⟨(kc, ka), ⟨3, xr, xf⟩⟩, nb, out, nb2) ⟨h, by simp only [List.length_append, List.length_set, List.length_singleton]; omega, by simp only [List.length_append, List.length_singleton]; omega, hR⟩ (by simp only; omega) (weak_of 3 0 rfl rfl ?_ ?_) <;> simp [op_refs, ins_refs, evtI_refs, w1]
  by_cases c4 : el = 4
  · subst c4
    cases hn : fstR (ec, ea) (isS 3) op with
    | none =>
      have hfst := rfirst_none (e := ⟨ec, ea, er, 4, et, ed⟩) hl3 (isS 3) (isS_dec 3) hn
      simp only [evtC] at hfst
      simp only [stepR, kyE, hn, if_true, show ¬ (4 : Int) = 1 by decide, show ¬ (4 : Int) = 2 by decide, show ¬ (4 : Int) = 3 by decide, if_false, outE, List.append_nil] at hR
      subst hR
      ((try simp -implicitDefEqProofs [-loopQ_n, h, hf, evtC, w1, hl1, hl2, op_snoc, op_set, op_reify, insV_snoc, rowsOf_length, insO, rowsOf_nil]) <;> (repeat' (first | (refine condD_dec ?_ ?_ <;> (intro hc; (try simp -implicitDefEqProofs [-loopQ_n, hc, h, hf, evtC, w1, hl1, hl2, op_snoc, op_set, op_reify, insV_snoc, rowsOf_length, insO, rowsOf_nil]))) | (refine guardD_dec ?_ ?_ <;> (intro hc; (try simp -implicitDefEqProofs [-loopQ_n, hc, h, hf, evtC, w1, hl1, hl2, op_snoc, op_set, op_reify, insV_snoc, rowsOf_length, insO, rowsOf_nil]))) | (refine condD_intro ?_ ?_ <;> (intro hd; have hc := hd; (try simp at hc) <;> (try simp -implicitDefEqProofs [-loopQ_n, hd, hc, h, hf, evtC, w1, hl1, hl2, op_snoc, op_set, op_reify, insV_snoc, rowsOf_length, insO, rowsOf_nil]))) | (refine guardD_intro ?_ ?_ <;> (intro hd; have hc := hd; (try simp at hc) <;> (try simp -implicitDefEqProofs [-loopQ_n, hd, hc, h, hf, evtC, w1, hl1, hl2, op_snoc, op_set, op_reify, insV_snoc, rowsOf_length, insO, rowsOf_nil]))) | (refine ldD_ep ?_ ?_; (focus kernel_rfl); (try simp -implicitDefEqProofs [-loopQ_n, h, hf, evtC, w1, hl1, hl2, op_snoc, op_set, op_reify, insV_snoc, rowsOf_length, insO, rowsOf_nil])) | (refine callS_mk ?_; (try simp -implicitDefEqProofs [-loopQ_n, h, hf, evtC, w1, hl1, hl2, op_snoc, op_set, op_reify, insV_snoc, rowsOf_length, insO, rowsOf_nil]); (first | refine callS_intro (hfst) (.inl rfl) ?_); (try simp -implicitDefEqProofs [-loopQ_n, h, hf, evtC, w1, hl1, hl2, op_snoc, op_set, op_reify, insV_snoc, rowsOf_length, insO, rowsOf_nil])))))
    | some n =>
      have hfst := rfirst_some (e := ⟨ec, ea, er, 4, et, ed⟩) hl3 (isS 3) (isS_dec 3) hn
      simp only [evtC] at hfst
      obtain ⟨hlt, hk⟩ := fstR_get hn
      obtain ⟨⟨⟨kc, ka⟩, ⟨xs, xr, xf⟩⟩, ho⟩ : ∃ o, op[n] = o := ⟨_, rfl⟩
      have hoA := opA_get hlt ho
      rw [ho] at hk
      simp only [Prod.mk.injEq] at hk
      obtain ⟨rfl, rfl⟩ := hk
      have hn0 : (0 : Int) ≤ n := by omega
      have hn1 : ¬ (n : Int) < 0 := by omega
      have hnl : (n : Int) < op.length := by omega
      simp only [stepR, kyE, hn, if_true, show ¬ (4 : Int) = 1 by decide, show ¬ (4 : Int) = 2 by decide, show ¬ (4 : Int) = 3 by decide, if_false, outE, List.append_nil, hoA] at hR
      ((try simp -implicitDefEqProofs [-loopQ_n, h, hf, evtC, w1, hl1, hl2, op_snoc, op_set, op_reify, insV_snoc, rowsOf_length, hlt, hn0, hn1, hnl, ho, opC]) <;> (repeat' (first | (refine condD_dec ?_ ?_ <;> (intro hc; (try simp -implicitDefEqProofs [-loopQ_n, hc, h, hf, evtC, w1, hl1, hl2, op_snoc, op_set, op_reify, insV_snoc, rowsOf_length, hlt, hn0, hn1, hnl, ho, opC]))) | (refine guardD_dec ?_ ?_ <;> (intro hc; (try simp -implicitDefEqProofs [-loopQ_n, hc, h, hf, evtC, w1, hl1, hl2, op_snoc, op_set, op_reify, insV_snoc, rowsOf_length, hlt, hn0, hn1, hnl, ho, opC]))) | (refine condD_intro ?_ ?_ <;> (intro hd; have hc := hd; (try simp at hc) <;> (try simp -implicitDefEqProofs [-loopQ_n, hd, hc, h, hf, evtC, w1, hl1, hl2, op_snoc, op_set, op_reify, insV_snoc, rowsOf_length, hlt, hn0, hn1, hnl, ho, opC]))) | (refine guardD_intro ?_ ?_ <;> (intro hd; have hc := hd; (try simp at hc) <;> (try simp -implicitDefEqProofs [-loopQ_n, hd, hc, h, hf, evtC, w1, hl1, hl2, op_snoc, op_set, op_reify, insV_snoc, rowsOf_length, hlt, hn0, hn1, hnl, ho, opC]))) | (refine ldD_ep ?_ ?_; (focus kernel_rfl); (try simp -implicitDefEqProofs [-loopQ_n, h, hf, evtC, w1, hl1, hl2, op_snoc, op_set, op_reify, insV_snoc, rowsOf_length, hlt, hn0, hn1, hnl, ho, opC])) | (refine callS_mk ?_; (try simp -implicitDefEqProofs [-loopQ_n, h, hf, evtC, w1, hl1, hl2, op_snoc, op_set, op_reify, insV_snoc, rowsOf_length, hlt, hn0, hn1, hnl, ho, opC]); (first | refine callS_intro (hfst) (.inl rfl) ?_); (try simp -implicitDefEqProofs [-loopQ_n, h, hf, evtC, w1, hl1, hl2, op_snoc, op_set, op_reify, insV_snoc, rowsOf_length, hlt, hn0, hn1, hnl, ho, opC])))))
      refine loop_next (i + 1, op.set n ⟨(kc, ka), ⟨2, xr, xf⟩⟩, nb, out, nb2) ⟨h, by simp only [List.length_append, List.length_set, List.length_singleton]; omega, by simp only [List.length_append, List.length_singleton]; omega, hR⟩ (by simp only; omega) (weak_of 3 0 rfl rfl ?_ ?_) <;> simp [op_refs, ins_refs, evtI_refs, w1]
  by_cases c5 : el = 5
  · subst c5
    cases hn : fstR (ec, ea) (isS 2) op with
    | some n =>
      have hfst := rfirst_some (e := ⟨ec, ea, er, 5, et, ed⟩) hl3 (isS 2) (isS_dec 2) hn
      simp only [evtC] at hfst
      obtain ⟨hlt, hk⟩ := fstR_get hn
      obtain ⟨⟨⟨kc, ka⟩, ⟨xs, xr, xf⟩⟩, ho⟩ : ∃ o, op[n] = o := ⟨_, rfl⟩
      have hoA := opA_get hlt ho
      rw [ho] at hk
      simp only [Prod.mk.injEq] at hk
      obtain ⟨rfl, rfl⟩ := hk
      have hn0 : (0 : Int) ≤ n := by omega
      have hn1 : ¬ (n : Int) < 0 := by omega
      have hnl : (n : Int) < op.length := by omega
      simp only [stepR, kyE, hn, if_true, show ¬ (5 : Int) = 1 by decide, show ¬ (5 : Int) = 2 by decide, show ¬ (5 : Int) = 3 by decide, show ¬ (5 : Int) = 4 by decide, if_false, outE, hoA, insOf] at hR
      ((try simp -implicitDefEqProofs [-loopQ_n, h, hf, evtC, w1, hl1, hl2, op_snoc, op_set, op_reify, insV_snoc, rowsOf_length, hlt, hn0, hn1, hnl, ho, opC]) <;> (repeat' (first | (refine condD_dec ?_ ?_ <;> (intro hc; (try simp -implicitDefEqProofs [-loopQ_n, hc, h, hf, evtC, w1, hl1, hl2, op_snoc, op_set, op_reify, insV_snoc, rowsOf_length, hlt, hn0, hn1, hnl, ho, opC]))) | (refine guardD_dec ?_ ?_ <;> (intro hc; (try simp -implicitDefEqProofs [-loopQ_n, hc, h, hf, evtC, w1, hl1, hl2, op_snoc, op_set, op_reify, insV_snoc, rowsOf_length, hlt, hn0, hn1, hnl, ho, opC]))) | (refine condD_intro ?_ ?_ <;> (intro hd; have hc := hd; (try simp at hc) <;> (try simp -implicitDefEqProofs [-loopQ_n, hd, hc, h, hf, evtC, w1, hl1, hl2, op_snoc, op_set, op_reify, insV_snoc, rowsOf_length, hlt, hn0, hn1, hnl, ho, opC]))) | (refine guardD_intro ?_ ?_ <;> (intro hd; have hc := hd; (try simp at hc) <;> (try simp -implicitDefEqProofs [-loopQ_n, hd, hc, h, hf, evtC, w1, hl1, hl2, op_snoc, op_set, op_reify, insV_snoc, rowsOf_length, hlt, hn0, hn1, hnl, ho, opC]))) | (refine ldD_ep ?_ ?_; (focus kernel_rfl); (try simp -implicitDefEqProofs [-loopQ_n, h, hf, evtC, w1, hl1, hl2, op_snoc, op_set, op_reify, insV_snoc, rowsOf_length, hlt, hn0, hn1, hnl, ho, opC])) | (refine callS_mk ?_; (try simp -implicitDefEqProofs [-loopQ_n, h, hf, evtC, w1, hl1, hl2, op_snoc, op_set, op_reify, insV_snoc, rowsOf_length, hlt, hn0, hn1, hnl, ho, opC]); (first | refine callS_intro (hfst) (.inl rfl) ?_); (try simp -implicitDefEqProofs [-loopQ_n, h, hf, evtC, w1, hl1, hl2, op_snoc, op_set, op_reify, insV_snoc, rowsOf_length, hlt, hn0, hn1, hnl, ho, opC])))))
      refine weakD_intro (weak_frb 3 41 [.str kc, .str ka, .str er, .int .i64 5, .int .i64 et, .rs (rowsOf fldC ed)] rfl (by simp [owns])) ?_
      ((try simp -implicitDefEqProofs [-loopQ_n, fbA, fbH, fbB, fbL, op_fb, ins_fb, h, hf, evtC, w1, hl1, hl2, op_snoc, op_set, op_reify, insV_snoc, rowsOf_length, hlt, hn0, hn1, hnl, ho, opC]) <;> (repeat' (first | (refine condD_dec ?_ ?_ <;> (intro hc; (try simp -implicitDefEqProofs [-loopQ_n, hc, fbA, fbH, fbB, fbL, op_fb, ins_fb, h, hf, evtC, w1, hl1, hl2, op_snoc, op_set, op_reify, insV_snoc, rowsOf_length, hlt, hn0, hn1, hnl, ho, opC]))) | (refine guardD_dec ?_ ?_ <;> (intro hc; (try simp -implicitDefEqProofs [-loopQ_n, hc, fbA, fbH, fbB, fbL, op_fb, ins_fb, h, hf, evtC, w1, hl1, hl2, op_snoc, op_set, op_reify, insV_snoc, rowsOf_length, hlt, hn0, hn1, hnl, ho, opC]))) | (refine condD_intro ?_ ?_ <;> (intro hd; have hc := hd; (try simp at hc) <;> (try simp -implicitDefEqProofs [-loopQ_n, hd, hc, fbA, fbH, fbB, fbL, op_fb, ins_fb, h, hf, evtC, w1, hl1, hl2, op_snoc, op_set, op_reify, insV_snoc, rowsOf_length, hlt, hn0, hn1, hnl, ho, opC]))) | (refine guardD_intro ?_ ?_ <;> (intro hd; have hc := hd; (try simp at hc) <;> (try simp -implicitDefEqProofs [-loopQ_n, hd, hc, fbA, fbH, fbB, fbL, op_fb, ins_fb, h, hf, evtC, w1, hl1, hl2, op_snoc, op_set, op_reify, insV_snoc, rowsOf_length, hlt, hn0, hn1, hnl, ho, opC]))) | (refine ldD_ep ?_ ?_; (focus kernel_rfl); (try simp -implicitDefEqProofs [-loopQ_n, fbA, fbH, fbB, fbL, op_fb, ins_fb, h, hf, evtC, w1, hl1, hl2, op_snoc, op_set, op_reify, insV_snoc, rowsOf_length, hlt, hn0, hn1, hnl, ho, opC])) | ((first | (refine ld2_ep ?_ ?_; (focus kernel_rfl)) | (refine nbx_intro ?_ ?_; (focus kernel_rfl)) | (refine nbx_fin ?_; (focus kernel_rfl))); (try simp -implicitDefEqProofs [-loopQ_n, fbA, fbH, fbB, fbL, op_fb, ins_fb, h, hf, evtC, w1, hl1, hl2, op_snoc, op_set, op_reify, insV_snoc, rowsOf_length, hlt, hn0, hn1, hnl, ho, opC])))))
      refine new_intro (rdrop_at (n := n) hl3) (by simp [op_reify, rowsOf_length]) (.inl ⟨rfl, by simp [op_flatB]⟩) ?_
      ((try simp -implicitDefEqProofs [-loopQ_n, h, hf, evtC, w1, hl1, hl2, op_snoc, op_set, op_reify, insV_snoc, rowsOf_length, op_sh, shA, shL, shB]) <;> (repeat' (first | (refine condD_dec ?_ ?_ <;> (intro hc; (try simp -implicitDefEqProofs [-loopQ_n, hc, h, hf, evtC, w1, hl1, hl2, op_snoc, op_set, op_reify, insV_snoc, rowsOf_length, op_sh, shA, shL, shB]))) | (refine guardD_dec ?_ ?_ <;> (intro hc; (try simp -implicitDefEqProofs [-loopQ_n, hc, h, hf, evtC, w1, hl1, hl2, op_snoc, op_set, op_reify, insV_snoc, rowsOf_length, op_sh, shA, shL, shB]))) | (refine condD_intro ?_ ?_ <;> (intro hd; have hc := hd; (try simp at hc) <;> (try simp -implicitDefEqProofs [-loopQ_n, hd, hc, h, hf, evtC, w1, hl1, hl2, op_snoc, op_set, op_reify, insV_snoc, rowsOf_length, op_sh, shA, shL, shB]))) | (refine guardD_intro ?_ ?_ <;> (intro hd; have hc := hd; (try simp at hc) <;> (try simp -implicitDefEqProofs [-loopQ_n, hd, hc, h, hf, evtC, w1, hl1, hl2, op_snoc, op_set, op_reify, insV_snoc, rowsOf_length, op_sh, shA, shL, shB]))) | (refine ldD_ep ?_ ?_; (focus kernel_rfl); (try simp -implicitDefEqProofs [-loopQ_n, h, hf, evtC, w1, hl1, hl2, op_snoc, op_set, op_reify, insV_snoc, rowsOf_length, op_sh, shA, shL, shB])) | ((first | (refine ld2_ep ?_ ?_; (focus kernel_rfl)) | (refine nbx_intro ?_ ?_; (focus kernel_rfl)) | (refine nbx_fin ?_; (focus kernel_rfl))); (try simp -implicitDefEqProofs [-loopQ_n, h, hf, evtC, w1, hl1, hl2, op_snoc, op_set, op_reify, insV_snoc, rowsOf_length, op_sh, shA, shL, shB])))))
      have hlen : (op.eraseIdx n).length ≤ i + 1 := by rw [List.length_eraseIdx]; split <;> omega
      refine loop_next (i + 1, op.eraseIdx n, true, out ++ [⟨kc, ka, er, xr, xf, et⟩], nb2) ⟨h, by simp only; exact hlen, by simp only [List.length_append, List.length_singleton]; omega, hR⟩ (by simp only; omega) (weak_new 2 5 [.box 24 [.rs (rowsOf evtC l)], .row 26 nb2 (rowsOf insC (out ++ [⟨kc, ka, er, xr, xf, et⟩]))] (.row 69 true (rowsOf opC (op.eraseIdx n))) (by simp) (by simp) (by simp) fun ρ h1 h2 => ⟨?_, ?_, ?_⟩)
      · simp [-mB, insV_mB, evt_mB]
      · simp [-mB, op_mB]
      · simp [tEq, w1, mA, h1, h2]
    | none =>
      have hfst := rfirst_none (e := ⟨ec, ea, er, 5, et, ed⟩) hl3 (isS 2) (isS_dec 2) hn
      simp only [evtC] at hfst
      cases hn2 : fstR (ec, ea) (isS 1) op with
      | some n =>
        have hfst2 := rfirst_some (e := ⟨ec, ea, er, 5, et, ed⟩) hl3 (isS 1) (isS_dec 1) hn2
        simp only [evtC] at hfst2
        obtain ⟨hlt, hk⟩ := fstR_get hn2
        obtain ⟨⟨⟨kc, ka⟩, ⟨xs, xr, xf⟩⟩, ho⟩ : ∃ o, op[n] = o := ⟨_, rfl⟩
        have hoA := opA_get hlt ho
        rw [ho] at hk
        simp only [Prod.mk.injEq] at hk
        obtain ⟨rfl, rfl⟩ := hk
        have hn0 : (0 : Int) ≤ n := by omega
        have hn1 : ¬ (n : Int) < 0 := by omega
        have hnl : (n : Int) < op.length := by omega
        simp only [stepR, kyE, hn, hn2, if_true, show ¬ (5 : Int) = 1 by decide, show ¬ (5 : Int) = 2 by decide, show ¬ (5 : Int) = 3 by decide, show ¬ (5 : Int) = 4 by decide, if_false, outE, hoA, insOf] at hR
        ((try simp -implicitDefEqProofs [-loopQ_n, h, hf, evtC, w1, hl1, hl2, op_snoc, op_set, op_reify, insV_snoc, rowsOf_length, hlt, hn0, hn1, hnl, ho, opC]) <;> (repeat' (first | (refine condD_dec ?_ ?_ <;> (intro hc; (try simp -implicitDefEqProofs [-loopQ_n, hc, h, hf, evtC, w1, hl1, hl2, op_snoc, op_set, op_reify, insV_snoc, rowsOf_length, hlt, hn0, hn1, hnl, ho, opC]))) | (refine guardD_dec ?_ ?_ <;> (intro hc; (try simp -implicitDefEqProofs [-loopQ_n, hc, h, hf, evtC, w1, hl1, hl2, op_snoc, op_set, op_reify, insV_snoc, rowsOf_length, hlt, hn0, hn1, hnl, ho, opC]))) | (refine condD_intro ?_ ?_ <;> (intro hd; have hc := hd; (try simp at hc) <;> (try simp -implicitDefEqProofs [-loopQ_n, hd, hc, h, hf, evtC, w1, hl1, hl2, op_snoc, op_set, op_reify, insV_snoc, rowsOf_length, hlt, hn0, hn1, hnl, ho, opC]))) | (refine guardD_intro ?_ ?_ <;> (intro hd; have hc := hd; (try simp at hc) <;> (try simp -implicitDefEqProofs [-loopQ_n, hd, hc, h, hf, evtC, w1, hl1, hl2, op_snoc, op_set, op_reify, insV_snoc, rowsOf_length, hlt, hn0, hn1, hnl, ho, opC]))) | (refine ldD_ep ?_ ?_; (focus kernel_rfl); (try simp -implicitDefEqProofs [-loopQ_n, h, hf, evtC, w1, hl1, hl2, op_snoc, op_set, op_reify, insV_snoc, rowsOf_length, hlt, hn0, hn1, hnl, ho, opC])) | (refine callS_mk ?_; (try simp -implicitDefEqProofs [-loopQ_n, h, hf, evtC, w1, hl1, hl2, op_snoc, op_set, op_reify, insV_snoc, rowsOf_length, hlt, hn0, hn1, hnl, ho, opC]); (first | refine callS_intro (hfst) (.inl rfl) ?_ | refine callS_intro (hfst2) (.inl rfl) ?_); (try simp -implicitDefEqProofs [-loopQ_n, h, hf, evtC, w1, hl1, hl2, op_snoc, op_set, op_reify, insV_snoc, rowsOf_length, hlt, hn0, hn1, hnl, ho, opC])))))
        refine weakD_intro (weak_frb 3 41 [.str kc, .str ka, .str er, .int .i64 5, .int .i64 et, .rs (rowsOf fldC ed)] rfl (by simp [owns])) ?_
        ((try simp -implicitDefEqProofs [-loopQ_n, fbA, fbH, fbB, fbL, op_fb, ins_fb, h, hf, evtC, w1, hl1, hl2, op_snoc, op_set, op_reify, insV_snoc, rowsOf_length, hlt, hn0, hn1, hnl, ho, opC]) <;> (repeat' (first | (refine condD_dec ?_ ?_ <;> (intro hc; (try simp -implicitDefEqProofs [-loopQ_n, hc, fbA, fbH, fbB, fbL, op_fb, ins_fb, h, hf, evtC, w1, hl1, hl2, op_snoc, op_set, op_reify, insV_snoc, rowsOf_length, hlt, hn0, hn1, hnl, ho, opC]))) | (refine guardD_dec ?_ ?_ <;> (intro hc; (try simp -implicitDefEqProofs [-loopQ_n, hc, fbA, fbH, fbB, fbL, op_fb, ins_fb, h, hf, evtC, w1, hl1, hl2, op_snoc, op_set, op_reify, insV_snoc, rowsOf_length, hlt, hn0, hn1, hnl, ho, opC]))) | (refine condD_intro ?_ ?_ <;> (intro hd; have hc := hd; (try simp at hc) <;> (try simp -implicitDefEqProofs [-loopQ_n, hd, hc, fbA, fbH, fbB, fbL, op_fb, ins_fb, h, hf, evtC, w1, hl1, hl2, op_snoc, op_set, op_reify, insV_snoc, rowsOf_length, hlt, hn0, hn1, hnl, ho, opC]))) | (refine guardD_intro ?_ ?_ <;> (intro hd; have hc := hd; (try simp at hc) <;> (try simp -implicitDefEqProofs [-loopQ_n, hd, hc, fbA, fbH, fbB, fbL, op_fb, ins_fb, h, hf, evtC, w1, hl1, hl2, op_snoc, op_set, op_reify, insV_snoc, rowsOf_length, hlt, hn0, hn1, hnl, ho, opC]))) | (refine ldD_ep ?_ ?_; (focus kernel_rfl); (try simp -implicitDefEqProofs [-loopQ_n, fbA, fbH, fbB, fbL, op_fb, ins_fb, h, hf, evtC, w1, hl1, hl2, op_snoc, op_set, op_reify, insV_snoc, rowsOf_length, hlt, hn0, hn1, hnl, ho, opC])) | ((first | (refine ld2_ep ?_ ?_; (focus kernel_rfl)) | (refine nbx_intro ?_ ?_; (focus kernel_rfl)) | (refine nbx_fin ?_; (focus kernel_rfl))); (try simp -implicitDefEqProofs [-loopQ_n, fbA, fbH, fbB, fbL, op_fb, ins_fb, h, hf, evtC, w1, hl1, hl2, op_snoc, op_set, op_reify, insV_snoc, rowsOf_length, hlt, hn0, hn1, hnl, ho, opC])))))
        refine new_intro (rdrop_at (n := n) hl3) (by simp [op_reify, rowsOf_length]) (.inl ⟨rfl, by simp [op_flatB]⟩) ?_
        ((try simp -implicitDefEqProofs [-loopQ_n, h, hf, evtC, w1, hl1, hl2, op_snoc, op_set, op_reify, insV_snoc, rowsOf_length, op_sh, shA, shL, shB]) <;> (repeat' (first | (refine condD_dec ?_ ?_ <;> (intro hc; (try simp -implicitDefEqProofs [-loopQ_n, hc, h, hf, evtC, w1, hl1, hl2, op_snoc, op_set, op_reify, insV_snoc, rowsOf_length, op_sh, shA, shL, shB]))) | (refine guardD_dec ?_ ?_ <;> (intro hc; (try simp -implicitDefEqProofs [-loopQ_n, hc, h, hf, evtC, w1, hl1, hl2, op_snoc, op_set, op_reify, insV_snoc, rowsOf_length, op_sh, shA, shL, shB]))) | (refine condD_intro ?_ ?_ <;> (intro hd; have hc := hd; (try simp at hc) <;> (try simp -implicitDefEqProofs [-loopQ_n, hd, hc, h, hf, evtC, w1, hl1, hl2, op_snoc, op_set, op_reify, insV_snoc, rowsOf_length, op_sh, shA, shL, shB]))) | (refine guardD_intro ?_ ?_ <;> (intro hd; have hc := hd; (try simp at hc) <;> (try simp -implicitDefEqProofs [-loopQ_n, hd, hc, h, hf, evtC, w1, hl1, hl2, op_snoc, op_set, op_reify, insV_snoc, rowsOf_length, op_sh, shA, shL, shB]))) | (refine ldD_ep ?_ ?_; (focus kernel_rfl); (try simp -implicitDefEqProofs [-loopQ_n, h, hf, evtC, w1, hl1, hl2, op_snoc, op_set, op_reify, insV_snoc, rowsOf_length, op_sh, shA, shL, shB])) | ((first | (refine ld2_ep ?_ ?_; (focus kernel_rfl)) | (refine nbx_intro ?_ ?_; (focus kernel_rfl)) | (refine nbx_fin ?_; (focus kernel_rfl))); (try simp -implicitDefEqProofs [-loopQ_n, h, hf, evtC, w1, hl1, hl2, op_snoc, op_set, op_reify, insV_snoc, rowsOf_length, op_sh, shA, shL, shB])))))
        have hlen : (op.eraseIdx n).length ≤ i + 1 := by rw [List.length_eraseIdx]; split <;> omega
        refine loop_next (i + 1, op.eraseIdx n, true, out ++ [⟨kc, ka, er, xr, et, et⟩], nb2) ⟨h, by simp only; exact hlen, by simp only [List.length_append, List.length_singleton]; omega, hR⟩ (by simp only; omega) (weak_new 2 5 [.box 24 [.rs (rowsOf evtC l)], .row 26 nb2 (rowsOf insC (out ++ [⟨kc, ka, er, xr, et, et⟩]))] (.row 69 true (rowsOf opC (op.eraseIdx n))) (by simp) (by simp) (by simp) fun ρ h1 h2 => ⟨?_, ?_, ?_⟩)
        · simp [-mB, insV_mB, evt_mB]
        · simp [-mB, op_mB]
        · simp [tEq, w1, mA, h1, h2]
      | none =>
        have hfst2 := rfirst_none (e := ⟨ec, ea, er, 5, et, ed⟩) hl3 (isS 1) (isS_dec 1) hn2
        simp only [evtC] at hfst2
        simp only [stepR, kyE, hn, hn2, if_true, show ¬ (5 : Int) = 1 by decide, show ¬ (5 : Int) = 2 by decide, show ¬ (5 : Int) = 3 by decide, show ¬ (5 : Int) = 4 by decide, if_false, outE, insOf] at hR
        ((try simp -implicitDefEqProofs [-loopQ_n, h, hf, evtC, w1, hl1, hl2, op_snoc, op_set, op_reify, insV_snoc, rowsOf_length]) <;> (repeat' (first | (refine condD_dec ?_ ?_ <;> (intro hc; (try simp -implicitDefEqProofs [-loopQ_n, hc, h, hf, evtC, w1, hl1, hl2, op_snoc, op_set, op_reify, insV_snoc, rowsOf_length]))) | (refine guardD_dec ?_ ?_ <;> (intro hc; (try simp -implicitDefEqProofs [-loopQ_n, hc, h, hf, evtC, w1, hl1, hl2, op_snoc, op_set, op_reify, insV_snoc, rowsOf_length]))) | (refine condD_intro ?_ ?_ <;> (intro hd; have hc := hd; (try simp at hc) <;> (try simp -implicitDefEqProofs [-loopQ_n, hd, hc, h, hf, evtC, w1, hl1, hl2, op_snoc, op_set, op_reify, insV_snoc, rowsOf_length]))) | (refine guardD_intro ?_ ?_ <;> (intro hd; have hc := hd; (try simp at hc) <;> (try simp -implicitDefEqProofs [-loopQ_n, hd, hc, h, hf, evtC, w1, hl1, hl2, op_snoc, op_set, op_reify, insV_snoc, rowsOf_length]))) | (refine ldD_ep ?_ ?_; (focus kernel_rfl); (try simp -implicitDefEqProofs [-loopQ_n, h, hf, evtC, w1, hl1, hl2, op_snoc, op_set, op_reify, insV_snoc, rowsOf_length])) | (refine callS_mk ?_; (try simp -implicitDefEqProofs [-loopQ_n, h, hf, evtC, w1, hl1, hl2, op_snoc, op_set, op_reify, insV_snoc, rowsOf_length]); (first | refine callS_intro (hfst) (.inl rfl) ?_ | refine callS_intro (hfst2) (.inl rfl) ?_); (try simp -implicitDefEqProofs [-loopQ_n, h, hf, evtC, w1, hl1, hl2, op_snoc, op_set, op_reify, insV_snoc, rowsOf_length])))))
        refine weakD_intro (weak_frb 3 41 [.str ec, .str ea, .str er, .int .i64 5, .int .i64 et, .rs (rowsOf fldC ed)] rfl (by simp [owns])) ?_
        ((try simp -implicitDefEqProofs [-loopQ_n, fbA, fbH, fbB, fbL, op_fb, ins_fb, h, hf, evtC, w1, hl1, hl2, op_snoc, op_set, op_reify, insV_snoc, rowsOf_length]) <;> (repeat' (first | (refine condD_dec ?_ ?_ <;> (intro hc; (try simp -implicitDefEqProofs [-loopQ_n, hc, fbA, fbH, fbB, fbL, op_fb, ins_fb, h, hf, evtC, w1, hl1, hl2, op_snoc, op_set, op_reify, insV_snoc, rowsOf_length]))) | (refine guardD_dec ?_ ?_ <;> (intro hc; (try simp -implicitDefEqProofs [-loopQ_n, hc, fbA, fbH, fbB, fbL, op_fb, ins_fb, h, hf, evtC, w1, hl1, hl2, op_snoc, op_set, op_reify, insV_snoc, rowsOf_length]))) | (refine condD_intro ?_ ?_ <;> (intro hd; have hc := hd; (try simp at hc) <;> (try simp -implicitDefEqProofs [-loopQ_n, hd, hc, fbA, fbH, fbB, fbL, op_fb, ins_fb, h, hf, evtC, w1, hl1, hl2, op_snoc, op_set, op_reify, insV_snoc, rowsOf_length]))) | (refine guardD_intro ?_ ?_ <;> (intro hd; have hc := hd; (try simp at hc) <;> (try simp -implicitDefEqProofs [-loopQ_n, hd, hc, fbA, fbH, fbB, fbL, op_fb, ins_fb, h, hf, evtC, w1, hl1, hl2, op_snoc, op_set, op_reify, insV_snoc, rowsOf_length]))) | (refine ldD_ep ?_ ?_; (focus kernel_rfl); (try simp -implicitDefEqProofs [-loopQ_n, fbA, fbH, fbB, fbL, op_fb, ins_fb, h, hf, evtC, w1, hl1, hl2, op_snoc, op_set, op_reify, insV_snoc, rowsOf_length])) | ((first | (refine ld2_ep ?_ ?_; (focus kernel_rfl)) | (refine nbx_intro ?_ ?_; (focus kernel_rfl)) | (refine nbx_fin ?_; (focus kernel_rfl))); (try simp -implicitDefEqProofs [-loopQ_n, fbA, fbH, fbB, fbL, op_fb, ins_fb, h, hf, evtC, w1, hl1, hl2, op_snoc, op_set, op_reify, insV_snoc, rowsOf_length])))))
        refine new_intro (rdrop_no hl3) (by simp [op_reify, rowsOf_length]) (.inl ⟨rfl, by simp [op_flatB]⟩) ?_
        ((try simp -implicitDefEqProofs [-loopQ_n, h, hf, evtC, w1, hl1, hl2, op_snoc, op_set, op_reify, insV_snoc, rowsOf_length, op_sh, shA, shL, shB]) <;> (repeat' (first | (refine condD_dec ?_ ?_ <;> (intro hc; (try simp -implicitDefEqProofs [-loopQ_n, hc, h, hf, evtC, w1, hl1, hl2, op_snoc, op_set, op_reify, insV_snoc, rowsOf_length, op_sh, shA, shL, shB]))) | (refine guardD_dec ?_ ?_ <;> (intro hc; (try simp -implicitDefEqProofs [-loopQ_n, hc, h, hf, evtC, w1, hl1, hl2, op_snoc, op_set, op_reify, insV_snoc, rowsOf_length, op_sh, shA, shL, shB]))) | (refine condD_intro ?_ ?_ <;> (intro hd; have hc := hd; (try simp at hc) <;> (try simp -implicitDefEqProofs [-loopQ_n, hd, hc, h, hf, evtC, w1, hl1, hl2, op_snoc, op_set, op_reify, insV_snoc, rowsOf_length, op_sh, shA, shL, shB]))) | (refine guardD_intro ?_ ?_ <;> (intro hd; have hc := hd; (try simp at hc) <;> (try simp -implicitDefEqProofs [-loopQ_n, hd, hc, h, hf, evtC, w1, hl1, hl2, op_snoc, op_set, op_reify, insV_snoc, rowsOf_length, op_sh, shA, shL, shB]))) | (refine ldD_ep ?_ ?_; (focus kernel_rfl); (try simp -implicitDefEqProofs [-loopQ_n, h, hf, evtC, w1, hl1, hl2, op_snoc, op_set, op_reify, insV_snoc, rowsOf_length, op_sh, shA, shL, shB])) | ((first | (refine ld2_ep ?_ ?_; (focus kernel_rfl)) | (refine nbx_intro ?_ ?_; (focus kernel_rfl)) | (refine nbx_fin ?_; (focus kernel_rfl))); (try simp -implicitDefEqProofs [-loopQ_n, h, hf, evtC, w1, hl1, hl2, op_snoc, op_set, op_reify, insV_snoc, rowsOf_length, op_sh, shA, shL, shB])))))
        have hlen : op.length ≤ i + 1 := by omega
        refine loop_next (i + 1, op, true, out ++ [⟨ec, ea, er, et, et, et⟩], nb2) ⟨h, by simp only; exact hlen, by simp only [List.length_append, List.length_singleton]; omega, hR⟩ (by simp only; omega) (weak_new 2 5 [.box 24 [.rs (rowsOf evtC l)], .row 26 nb2 (rowsOf insC (out ++ [⟨ec, ea, er, et, et, et⟩]))] (.row 69 true (rowsOf opC (op))) (by simp) (by simp) (by simp) fun ρ h1 h2 => ⟨?_, ?_, ?_⟩)
        · simp [-mB, insV_mB, evt_mB]
        · simp [-mB, op_mB]
        · simp [tEq, w1, mA, h1, h2]
  by_cases c6 : el = 6
  · subst c6
    cases hn : fstR (ec, ea) (fun x => decide (1 ≤ x.st ∧ x.st ≤ 3)) op with
    | none =>
      have hfst := rfirst_none (e := ⟨ec, ea, er, 6, et, ed⟩) hl3 _ (fun _ => rfl) hn
      simp only [evtC] at hfst
      simp only [stepR, kyE, hn, if_true, show ¬ (6 : Int) = 1 by decide, show ¬ (6 : Int) = 2 by decide, show ¬ (6 : Int) = 3 by decide, show ¬ (6 : Int) = 4 by decide, show ¬ (6 : Int) = 5 by decide, if_false, outE, List.append_nil] at hR
      subst hR
      ((try simp -implicitDefEqProofs [-loopQ_n, h, hf, evtC, w1, hl1, hl2, op_snoc, op_set, op_reify, insV_snoc, rowsOf_length, insO, rowsOf_nil]) <;> (repeat' (first | (refine condD_dec ?_ ?_ <;> (intro hc; (try simp -implicitDefEqProofs [-loopQ_n, hc, h, hf, evtC, w1, hl1, hl2, op_snoc, op_set, op_reify, insV_snoc, rowsOf_length, insO, rowsOf_nil]))) | (refine guardD_dec ?_ ?_ <;> (intro hc; (try simp -implicitDefEqProofs [-loopQ_n, hc, h, hf, evtC, w1, hl1, hl2, op_snoc, op_set, op_reify, insV_snoc, rowsOf_length, insO, rowsOf_nil]))) | (refine condD_intro ?_ ?_ <;> (intro hd; have hc := hd; (try simp at hc) <;> (try simp -implicitDefEqProofs [-loopQ_n, hd, hc, h, hf, evtC, w1, hl1, hl2, op_snoc, op_set, op_reify, insV_snoc, rowsOf_length, insO, rowsOf_nil]))) | (refine guardD_intro ?_ ?_ <;> (intro hd; have hc := hd; (try simp at hc) <;> (try simp -implicitDefEqProofs [-loopQ_n, hd, hc, h, hf, evtC, w1, hl1, hl2, op_snoc, op_set, op_reify, insV_snoc, rowsOf_length, insO, rowsOf_nil]))) | (refine ldD_ep ?_ ?_; (focus kernel_rfl); (try simp -implicitDefEqProofs [-loopQ_n, h, hf, evtC, w1, hl1, hl2, op_snoc, op_set, op_reify, insV_snoc, rowsOf_length, insO, rowsOf_nil])) | (refine callS_mk ?_; (try simp -implicitDefEqProofs [-loopQ_n, h, hf, evtC, w1, hl1, hl2, op_snoc, op_set, op_reify, insV_snoc, rowsOf_length, insO, rowsOf_nil]); (first | refine callS_intro (hfst) (.inl rfl) ?_); (try simp -implicitDefEqProofs [-loopQ_n, h, hf, evtC, w1, hl1, hl2, op_snoc, op_set, op_reify, insV_snoc, rowsOf_length, insO, rowsOf_nil])))))
    | some n =>
      have hfst := rfirst_some (e := ⟨ec, ea, er, 6, et, ed⟩) hl3 _ (fun _ => rfl) hn
      simp only [evtC] at hfst
      obtain ⟨hlt, hk⟩ := fstR_get hn
      obtain ⟨⟨⟨kc, ka⟩, ⟨xs, xr, xf⟩⟩, ho⟩ : ∃ o, op[n] = o := ⟨_, rfl⟩
      have hoA := opA_get hlt ho
      rw [ho] at hk
      simp only [Prod.mk.injEq] at hk
      obtain ⟨rfl, rfl⟩ := hk
      have hn0 : (0 : Int) ≤ n := by omega
      have hn1 : ¬ (n : Int) < 0 := by omega
      have hnl : (n : Int) < op.length := by omega
      simp only [stepR, kyE, hn, if_true, show ¬ (6 : Int) = 1 by decide, show ¬ (6 : Int) = 2 by decide, show ¬ (6 : Int) = 3 by decide, show ¬ (6 : Int) = 4 by decide, show ¬ (6 : Int) = 5 by decide, if_false, outE, List.append_nil] at hR
      ((try simp -implicitDefEqProofs [-loopQ_n, h, hf, evtC, w1, hl1, hl2, op_snoc, op_set, op_reify, insV_snoc, rowsOf_length, hlt, hn0, hn1, hnl, ho, opC]) <;> (repeat' (first | (refine condD_dec ?_ ?_ <;> (intro hc; (try simp -implicitDefEqProofs [-loopQ_n, hc, h, hf, evtC, w1, hl1, hl2, op_snoc, op_set, op_reify, insV_snoc, rowsOf_length, hlt, hn0, hn1, hnl, ho, opC]))) | (refine guardD_dec ?_ ?_ <;> (intro hc; (try simp -implicitDefEqProofs [-loopQ_n, hc, h, hf, evtC, w1, hl1, hl2, op_snoc, op_set, op_reify, insV_snoc, rowsOf_length, hlt, hn0, hn1, hnl, ho, opC]))) | (refine condD_intro ?_ ?_ <;> (intro hd; have hc := hd; (try simp at hc) <;> (try simp -implicitDefEqProofs [-loopQ_n, hd, hc, h, hf, evtC, w1, hl1, hl2, op_snoc, op_set, op_reify, insV_snoc, rowsOf_length, hlt, hn0, hn1, hnl, ho, opC]))) | (refine guardD_intro ?_ ?_ <;> (intro hd; have hc := hd; (try simp at hc) <;> (try simp -implicitDefEqProofs [-loopQ_n, hd, hc, h, hf, evtC, w1, hl1, hl2, op_snoc, op_set, op_reify, insV_snoc, rowsOf_length, hlt, hn0, hn1, hnl, ho, opC]))) | (refine ldD_ep ?_ ?_; (focus kernel_rfl); (try simp -implicitDefEqProofs [-loopQ_n, h, hf, evtC, w1, hl1, hl2, op_snoc, op_set, op_reify, insV_snoc, rowsOf_length, hlt, hn0, hn1, hnl, ho, opC])) | (refine callS_mk ?_; (try simp -implicitDefEqProofs [-loopQ_n, h, hf, evtC, w1, hl1, hl2, op_snoc, op_set, op_reify, insV_snoc, rowsOf_length, hlt, hn0, hn1, hnl, ho, opC]); (first | refine callS_intro (hfst) (.inl rfl) ?_); (try simp -implicitDefEqProofs [-loopQ_n, h, hf, evtC, w1, hl1, hl2, op_snoc, op_set, op_reify, insV_snoc, rowsOf_length, hlt, hn0, hn1, hnl, ho, opC])))))
      refine new_intro (rdrop_at (n := n) hl3) (by simp [op_reify, rowsOf_length]) (.inl ⟨rfl, by simp [op_flatB]⟩) ?_
      ((try simp -implicitDefEqProofs [-loopQ_n, h, hf, evtC, w1, hl1, hl2, op_snoc, op_set, op_reify, insV_snoc, rowsOf_length, op_sh, shA, shL, shB]) <;> (repeat' (first | (refine condD_dec ?_ ?_ <;> (intro hc; (try simp -implicitDefEqProofs [-loopQ_n, hc, h, hf, evtC, w1, hl1, hl2, op_snoc, op_set, op_reify, insV_snoc, rowsOf_length, op_sh, shA, shL, shB]))) | (refine guardD_dec ?_ ?_ <;> (intro hc; (try simp -implicitDefEqProofs [-loopQ_n, hc, h, hf, evtC, w1, hl1, hl2, op_snoc, op_set, op_reify, insV_snoc, rowsOf_length, op_sh, shA, shL, shB]))) | (refine condD_intro ?_ ?_ <;> (intro hd; have hc := hd; (try simp at hc) <;> (try simp -implicitDefEqProofs [-loopQ_n, hd, hc, h, hf, evtC, w1, hl1, hl2, op_snoc, op_set, op_reify, insV_snoc, rowsOf_length, op_sh, shA, shL, shB]))) | (refine guardD_intro ?_ ?_ <;> (intro hd; have hc := hd; (try simp at hc) <;> (try simp -implicitDefEqProofs [-loopQ_n, hd, hc, h, hf, evtC, w1, hl1, hl2, op_snoc, op_set, op_reify, insV_snoc, rowsOf_length, op_sh, shA, shL, shB]))) | (refine ldD_ep ?_ ?_; (focus kernel_rfl); (try simp -implicitDefEqProofs [-loopQ_n, h, hf, evtC, w1, hl1, hl2, op_snoc, op_set, op_reify, insV_snoc, rowsOf_length, op_sh, shA, shL, shB])))))
      have hlen : (op.eraseIdx n).length ≤ i + 1 := by rw [List.length_eraseIdx]; split <;> omega
      refine loop_next (i + 1, op.eraseIdx n, true, out, nb2) ⟨h, by simp only; exact hlen, by simp only [List.length_append, List.length_singleton]; omega, hR⟩ (by simp only; omega) (weak_new 2 3 [.box 24 [.rs (rowsOf evtC l)], .row 26 nb2 (rowsOf insC (out))] (.row 69 true (rowsOf opC (op.eraseIdx n))) (by simp) (by simp) (by simp) fun ρ h1 h2 => ⟨?_, ?_, ?_⟩)
      · simp [-mB, insV_mB, evt_mB]
      · simp [-mB, op_mB]
      · simp [tEq, w1, mA, h1, h2]
  simp only [stepR, kyE, c1, c2, c3, c4, c5, c6, if_false, outE, List.append_nil] at hR
  ((try simp -implicitDefEqProofs [-loopQ_n, h, hf, evtC, w1, hl1, hl2, op_snoc, op_set, op_reify, insV_snoc, rowsOf_length, c1, c2, c3, c4, c5, c6]) <;> (repeat' (first | (refine condD_dec ?_ ?_ <;> (intro hc; (try simp -implicitDefEqProofs [-loopQ_n, hc, h, hf, evtC, w1, hl1, hl2, op_snoc, op_set, op_reify, insV_snoc, rowsOf_length, c1, c2, c3, c4, c5, c6]))) | (refine guardD_dec ?_ ?_ <;> (intro hc; (try simp -implicitDefEqProofs [-loopQ_n, hc, h, hf, evtC, w1, hl1, hl2, op_snoc, op_set, op_reify, insV_snoc, rowsOf_length, c1, c2, c3, c4, c5, c6]))) | (refine condD_intro ?_ ?_ <;> (intro hd; have hc := hd; (try simp at hc) <;> (try simp -implicitDefEqProofs [-loopQ_n, hd, hc, h, hf, evtC, w1, hl1, hl2, op_snoc, op_set, op_reify, insV_snoc, rowsOf_length, c1, c2, c3, c4, c5, c6]))) | (refine guardD_intro ?_ ?_ <;> (intro hd; have hc := hd; (try simp at hc) <;> (try simp -implicitDefEqProofs [-loopQ_n, hd, hc, h, hf, evtC, w1, hl1, hl2, op_snoc, op_set, op_reify, insV_snoc, rowsOf_length, c1, c2, c3, c4, c5, c6]))) | (refine ldD_ep ?_ ?_; (focus kernel_rfl); (try simp -implicitDefEqProofs [-loopQ_n, h, hf, evtC, w1, hl1, hl2, op_snoc, op_set, op_reify, insV_snoc, rowsOf_length, c1, c2, c3, c4, c5, c6])))))
  refine loop_next (i + 1, op, nb, out, nb2) ⟨h, by simp only [List.length_append, List.length_set, List.length_singleton]; omega, by simp only [List.length_append, List.length_singleton]; omega, hR⟩ (by simp only; omega) (weak_of 3 0 rfl rfl ?_ ?_) <;> simp [op_refs, ins_refs, evtI_refs, w1]
end Go.Proofs.Ytpgoefakhecdnaa
