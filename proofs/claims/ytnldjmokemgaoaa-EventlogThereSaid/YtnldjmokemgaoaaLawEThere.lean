/- Renaming and shifting there and back give the same log (the law EventlogThere holds for every input; no condition). -/
import Derived.Test.YtnldjmokemgaoaaRows
import Derived.Test.YtnldjmokemgaoaaElA
import Derived.Test.YtnldjmokemgaoaaElU
import Derived.Test.YtnldjmokemgaoaaDecV
namespace Go.Proofs.Ytnldjmokemgaoaa.lawEThere
set_option linter.unusedSimpArgs false
set_option linter.unusedVariables false
set_option linter.unnecessarySimpa false
set_option linter.unusedSectionVars false
open Go.ChangeShapes Go.WideShapes Go.ChangeAt Go.RowKit Go.Joins Go.Deep
section
variable [Glob]
set_option maxRecDepth 100000
open Classical in
noncomputable def sameL (a b : List Evt) : Bool := decide (a = b)
theorem sameL_self (a : List Evt) : sameL a a = true := by simp [sameL]
theorem same_pure (l : List Evt) (ll : l.length ≤ 9223372036854775807) (hl : ∀ e ∈ l, e.data.length ≤ 9223372036854775807) : Pure Try.prog 20 [.agg [.rs (rowsOf evtC l)], .agg [.rs (rowsOf evtC l)]] (.bool true) := by
  have e3 : Pure Try.prog 20 [.agg [.rs (rowsOf evtC l)], .agg [.rs (rowsOf evtC l)]] (.bool (sameL l l)) := elsame_pure l l hl hl ll ll
  rwa [sameL_self] at e3
theorem idx_at {F : List ByteArray} (hF : F.Nodup) {j : Nat} (h : j < F.length) : idxS F F[j] = (j : Int) := by
  have key : ∀ (F : List ByteArray) (i : Int) (j : Nat) (h : j < F.length), F.Nodup → idxA F F[j] i = i + j := by
    intro F
    induction F with
    | nil => intro i j h; simp at h
    | cons y r ih =>
      intro i j h hn
      cases j with
      | zero => simp [idxA]
      | succ j =>
        have hj : j < r.length := by simpa using h
        have hne : ¬ y = r[j] := fun e => (List.nodup_cons.1 hn).1 (e ▸ List.getElem_mem hj)
        simp only [List.getElem_cons_succ]
        rw [idxA, if_neg hne, ih (i + 1) j hj (List.nodup_cons.1 hn).2]
        omega
  have := key F 0 j h hF
  unfold idxS; omega
theorem fresh_snoc {i : Nat} : rowsOf strC (freshL i) ++ [[.str (freshN i)]] = rowsOf strC (freshL (i + 1)) := by
  simp only [freshL, List.range_succ, List.map_append, List.map_cons, List.map_nil, rowsOf, strC]
theorem fresh_cat {i : Nat} : (⟨#[122, 122, 122, 122]⟩ : ByteArray) ++ ⟨#[UInt8.ofNat (97 + (i : Int) / 26).toNat, UInt8.ofNat (97 + (i : Int) % 26).toNat]⟩ = freshN i := by
  have e1 : (97 + (i : Int) / 26).toNat = 97 + i / 26 := by omega
  have e2 : (97 + (i : Int) % 26).toNat = 97 + i % 26 := by omega
  rw [e1, e2]
  apply ba_eq
  simp [freshN]
theorem sz4 : (⟨#[122, 122, 122, 122]⟩ : ByteArray).size = 4 := rfl
theorem sz2 {x y : UInt8} : (⟨#[x, y]⟩ : ByteArray).size = 2 := rfl
theorem wrap_u8 {n : Int} (h1 : 0 ≤ n) (h2 : n < 256) : wrapI .u8 n = n := by
  rw [wrapI_eq]; simp [IntKind.wrap, IntKind.bits, IntKind.signed]; omega
set_option maxHeartbeats 16000000 in
theorem main (l : List Evt) (by_ : Int) (ll : l.length ≤ 9223372036854775807) (hd : ∀ e ∈ l, e.data.length ≤ 9223372036854775807) (hS : smallB l = true) (hV : logV l = true) : Pure Try.prog 5 [.agg [.rs (rowsOf evtC l)], .int .i64 by_] (.bool true) := by
  obtain ⟨hl40, hpl⟩ := small_spec hS
  have hsz : ∀ e ∈ l, e.case_.size ≤ maxLen := fun e he => by have := plain_case (hpl e he); rw [maxLen_eq]; omega
  obtain ⟨hvV, hvR, hvL⟩ := varL_valid hV hl40
  have hVar := variants_pure l (by omega) hsz hV
  rw [hvR] at hVar
  have hg := varL_good l
  have hact := acts_in (l := l)
  have hAn := acts_names hV
  have hAasc : ascB (actsL (varL l)) := setB_asc _
  have hvd : ∀ v ∈ varL l, v.acts.length ≤ 40 ∧ ∀ x ∈ v.acts, x ∈ actsL (varL l) := fun v hv => by
    obtain ⟨h1, _⟩ := (hg.2 v).1 hv
    obtain ⟨c, hc, hcw⟩ := List.mem_map.1 h1
    rw [← hcw]
    exact ⟨by have := word_len l c; omega, hact c hc⟩
  have hvs : ∀ v ∈ varL l, ∀ s ∈ v.acts, s.size ≤ maxLen := fun v hv s hs => by
    obtain ⟨h1, _⟩ := (hg.2 v).1 hv
    obtain ⟨c, hc, hcw⟩ := List.mem_map.1 h1
    rw [← hcw] at hs
    obtain ⟨e, he, rfl⟩ := List.mem_map.1 hs
    have hp := hpl e (List.mem_filter.1 he).1
    simp only [plainE, Bool.and_eq_true, decide_eq_true_eq] at hp
    rw [maxLen_eq]; omega
  have hAct := eacts_pure (varL l) (fun v hv => by have := hvd v hv; omega) hvs
  rw [actO, if_pos hvV] at hAct
  simp only [varO] at hVar
  have hren : ∀ F : List ByteArray, (actsL (varL l)).length = F.length → ascB F → varL (l.map (renE ((actsL (varL l)).zip F))) = (varL l).map (renV ((actsL (varL l)).zip F)) := fun F hl hF => varL_ren hl hAasc hF hact
  have hsh := shift_pure l by_
  obtain ⟨⟨s, e⟩, hr⟩ : ∃ r, shiftR l by_ = r := ⟨_, rfl⟩
  rw [hr] at hsh
  simp only [logO] at hsh
  generalize actsL (varL l) = A at hAct hact hAn hAasc hvd hren
  generalize hvl : varL l = v at hVar hAct hvd hvL hren
  have hA1 := asc_nodup hAasc
  have hvd1 : ∀ u ∈ v, u.acts.length ≤ 9223372036854775807 := fun u hu => by have := hvd u hu; omega
  refine pure_of mixed Try.func5 rfl (by kernel_rfl) (of_decide_eq_true rfl) (by kernel_rfl) (vc_run ?_)
  by_cases he : e = 0
  · subst he
    obtain ⟨_, hs1, hs2, hs3⟩ := shift_ok hr
    have hby : ¬ (by_ < -1099511627776 ∨ 1099511627776 < by_) := fun q => by
      rw [shiftR, if_pos hV, if_pos q] at hr
      cases hr
    have wneg : wrapI .i64 (-by_) = -by_ := wrap_in (by omega) (by omega)
    have hback := shift_pure s (-by_)
    rw [hs3] at hback
    simp only [logO] at hback
    have hT1 := traces_pure l (by omega) hsz hV
    rw [trC_eq] at hT1
    have hssz : ∀ e ∈ s, e.case_.size ≤ maxLen := fun e he => by
      rw [hs1] at he
      obtain ⟨x, hx, rfl⟩ := List.mem_map.1 he
      exact hsz x hx
    have hT2 := traces_pure s (by rw [hs1]; simp; omega) hssz hs2
    rw [trC_eq] at hT2
    have hcs : casesL s = casesL l := by rw [hs1]; exact cases_map fun e => rfl
    have htr : trC s = trC l := by
      funext c
      have := word_map (l := l) (f := shE by_) (σ := id) (fun e => ⟨rfl, rfl, rfl⟩) c
      rw [List.map_id] at this
      simp only [trC, hs1, this]
    rw [hcs, htr] at hT2
    have hcl := cases_len (l := l) (by omega)
    have hEq := theq_pure l (casesL l) (by omega) (by omega)
    have hSm := same_pure l ll hd
    by_cases h40 : 40 < A.length
    · rw [if_pos h40] at hAct
      ((try simp -implicitDefEqProofs [-loopQ_n, hS, hV, wneg]) <;> (repeat' (first | (refine condD_dec ?_ ?_ <;> (intro hc; (try simp -implicitDefEqProofs [-loopQ_n, hc, hS, hV, wneg]))) | (refine guardD_dec ?_ ?_ <;> (intro hc; (try simp -implicitDefEqProofs [-loopQ_n, hc, hS, hV, wneg]))) | (refine condD_intro ?_ ?_ <;> (intro hd; have hc := hd; (try simp at hc) <;> (try simp -implicitDefEqProofs [-loopQ_n, hd, hc, hS, hV, wneg]))) | (refine guardD_intro ?_ ?_ <;> (intro hd; have hc := hd; (try simp at hc) <;> (try simp -implicitDefEqProofs [-loopQ_n, hd, hc, hS, hV, wneg]))) | (refine ldD_ep ?_ ?_; (focus kernel_rfl); (try simp -implicitDefEqProofs [-loopQ_n, hS, hV, wneg])) | (refine callS_mk ?_; (try simp -implicitDefEqProofs [-loopQ_n, hS, hV, wneg]); (first | refine callS_intro (awake_pure) (.inl rfl) ?_ | refine callS_intro (small_pure l ll hd) (.inl rfl) ?_ | refine callS_intro (log_pure l) (.inl rfl) ?_ | refine callS_intro (hsh) (.inr ⟨rfl, rfl⟩) ?_ | refine callS_intro (hback) (.inr ⟨rfl, rfl⟩) ?_ | refine callS_intro (hT1) (.inr ⟨rfl, rfl⟩) ?_ | refine callS_intro (hT2) (.inr ⟨rfl, rfl⟩) ?_ | refine callS_intro (hSm) (.inl rfl) ?_ | refine callS_intro (hEq) (.inl rfl) ?_ | refine callS_intro (hVar) (.inr ⟨rfl, rfl⟩) ?_ | refine callS_intro (hAct) (.inr ⟨rfl, rfl⟩) ?_); (try simp -implicitDefEqProofs [-loopQ_n, hS, hV, wneg])))))
    rw [if_neg h40] at hAct
    ((try simp -implicitDefEqProofs [-loopQ_n, hS, hV, wneg]) <;> (repeat' (first | (refine condD_dec ?_ ?_ <;> (intro hc; (try simp -implicitDefEqProofs [-loopQ_n, hc, hS, hV, wneg]))) | (refine guardD_dec ?_ ?_ <;> (intro hc; (try simp -implicitDefEqProofs [-loopQ_n, hc, hS, hV, wneg]))) | (refine condD_intro ?_ ?_ <;> (intro hd; have hc := hd; (try simp at hc) <;> (try simp -implicitDefEqProofs [-loopQ_n, hd, hc, hS, hV, wneg]))) | (refine guardD_intro ?_ ?_ <;> (intro hd; have hc := hd; (try simp at hc) <;> (try simp -implicitDefEqProofs [-loopQ_n, hd, hc, hS, hV, wneg]))) | (refine ldD_ep ?_ ?_; (focus kernel_rfl); (try simp -implicitDefEqProofs [-loopQ_n, hS, hV, wneg])) | (refine callS_mk ?_; (try simp -implicitDefEqProofs [-loopQ_n, hS, hV, wneg]); (first | refine callS_intro (awake_pure) (.inl rfl) ?_ | refine callS_intro (small_pure l ll hd) (.inl rfl) ?_ | refine callS_intro (log_pure l) (.inl rfl) ?_ | refine callS_intro (hsh) (.inr ⟨rfl, rfl⟩) ?_ | refine callS_intro (hback) (.inr ⟨rfl, rfl⟩) ?_ | refine callS_intro (hT1) (.inr ⟨rfl, rfl⟩) ?_ | refine callS_intro (hT2) (.inr ⟨rfl, rfl⟩) ?_ | refine callS_intro (hSm) (.inl rfl) ?_ | refine callS_intro (hEq) (.inl rfl) ?_ | refine callS_intro (hVar) (.inr ⟨rfl, rfl⟩) ?_ | refine callS_intro (hAct) (.inr ⟨rfl, rfl⟩) ?_); (try simp -implicitDefEqProofs [-loopQ_n, hS, hV, wneg])))))
    refine loop_intro (σ := Nat) (fun i => ⟨[(2, .op 0 0), (13, .rs (rowsOf vrC v)), (15, .rs (rowsOf strC A)), (17, .op 3 0), (112, .int .i64 A.length), (113, .int .i64 i)], [.box 24 [.rs (rowsOf evtC l)], .gone, .gone, .box 27 [.os 4 i], .row 9 true (rowsOf strC (freshL i))]⟩) (fun i => i ≤ A.length) (fun i => A.length - i) 0 (by omega) ?_ ?_
    · refine weak_of 4 1 rfl rfl ?_ ?_ <;> simp [freshL, rowsOf]
    rintro i hi
    by_cases h : i < A.length
    · have w1 : wrapI .i64 ((i : Int) + 1) = (i : Int) + 1 := wrap_in (by omega) (by omega)
      have hfl := fresh_len i
      have hlen : i ≤ 1073741823 := by omega
      have hsn := fresh_snoc (i := i)
      have hr2 : [0, 1] = List.range 2 := by decide
      have q1 : wrapI .i64 ((i : Int) / 26) = (i : Int) / 26 := wrap_in (by omega) (by omega)
      have q2 : wrapI .i64 (97 + (i : Int) / 26) = 97 + (i : Int) / 26 := wrap_in (by omega) (by omega)
      have q3 : wrapI .u8 (97 + (i : Int) / 26) = 97 + (i : Int) / 26 := wrap_u8 (by omega) (by omega)
      have q4 : (i : Int).tmod 26 = (i : Int) % 26 := Int.tmod_eq_emod_of_nonneg (by omega)
      have q5 : wrapI .i64 (97 + (i : Int) % 26) = 97 + (i : Int) % 26 := wrap_in (by omega) (by omega)
      have q6 : wrapI .u8 (97 + (i : Int) % 26) = 97 + (i : Int) % 26 := wrap_u8 (by omega) (by omega)
      ((try simp -implicitDefEqProofs [-loopQ_n, h, w1, hfl, hlen, hr2, q1, q2, q3, q4, q5, q6, unbytes, fresh_cat, sz4, sz2, hsn]) <;> (repeat' (first | (refine condD_dec ?_ ?_ <;> (intro hc; (try simp -implicitDefEqProofs [-loopQ_n, hc, h, w1, hfl, hlen, hr2, q1, q2, q3, q4, q5, q6, unbytes, fresh_cat, sz4, sz2, hsn]))) | (refine guardD_dec ?_ ?_ <;> (intro hc; (try simp -implicitDefEqProofs [-loopQ_n, hc, h, w1, hfl, hlen, hr2, q1, q2, q3, q4, q5, q6, unbytes, fresh_cat, sz4, sz2, hsn]))) | (refine condD_intro ?_ ?_ <;> (intro hd; have hc := hd; (try simp at hc) <;> (try simp -implicitDefEqProofs [-loopQ_n, hd, hc, h, w1, hfl, hlen, hr2, q1, q2, q3, q4, q5, q6, unbytes, fresh_cat, sz4, sz2, hsn]))) | (refine guardD_intro ?_ ?_ <;> (intro hd; have hc := hd; (try simp at hc) <;> (try simp -implicitDefEqProofs [-loopQ_n, hd, hc, h, w1, hfl, hlen, hr2, q1, q2, q3, q4, q5, q6, unbytes, fresh_cat, sz4, sz2, hsn]))) | (refine ldD_ep ?_ ?_; (focus kernel_rfl); (try simp -implicitDefEqProofs [-loopQ_n, h, w1, hfl, hlen, hr2, q1, q2, q3, q4, q5, q6, unbytes, fresh_cat, sz4, sz2, hsn])))))
      refine loop_next (i + 1) (by omega) (by omega) (weak_of 5 0 rfl rfl ?_ ?_) <;> simp [sw_refs]
    · have hin : i = A.length := by omega
      subst hin
      have hFl := fresh_len A.length
      have hFa := fresh_asc (n := A.length) (by omega)
      have hFn := namesL_fresh (n := A.length) (by omega)
      have hren' := hren (freshL A.length) hFl.symm hFa
      generalize freshL A.length = F at hFl hFa hFn hren'
      have hF1 := asc_nodup hFa
      have hcf := cfEvt_any (p := fun e => hasB F e.act) (l := l) (g := 28) (caps := [.rp [.rs (rowsOf strC F)]]) (fun x _ => th2_pure F x (by omega)) (fun H k => rfl) rfl ll
      by_cases hno : l.any (fun e => hasB F e.act) = true
      · rw [hno] at hcf
        ((try simp -implicitDefEqProofs [-loopQ_n, h, hFl, sw_reify]) <;> (repeat' (first | (refine condD_dec ?_ ?_ <;> (intro hc; (try simp -implicitDefEqProofs [-loopQ_n, hc, h, hFl, sw_reify]))) | (refine guardD_dec ?_ ?_ <;> (intro hc; (try simp -implicitDefEqProofs [-loopQ_n, hc, h, hFl, sw_reify]))) | (refine condD_intro ?_ ?_ <;> (intro hd; have hc := hd; (try simp at hc) <;> (try simp -implicitDefEqProofs [-loopQ_n, hd, hc, h, hFl, sw_reify]))) | (refine guardD_intro ?_ ?_ <;> (intro hd; have hc := hd; (try simp at hc) <;> (try simp -implicitDefEqProofs [-loopQ_n, hd, hc, h, hFl, sw_reify]))) | (refine ldD_ep ?_ ?_; (focus kernel_rfl); (try simp -implicitDefEqProofs [-loopQ_n, h, hFl, sw_reify])) | (refine callS_mk ?_; (try simp -implicitDefEqProofs [-loopQ_n, h, hFl, sw_reify]); (first | refine callS_intro (hcf) (.inl rfl) ?_); (try simp -implicitDefEqProofs [-loopQ_n, h, hFl, sw_reify])))))
      have hno : l.any (fun e => hasB F e.act) = false := by simpa using hno
      rw [hno] at hcf
      have hno2 : ∀ e ∈ l, e.act ∉ F := fun e he q => by
        have := List.any_eq_false.1 hno e he
        rw [hasB_iff.2 q] at this
        simp at this
      obtain ⟨g1, g2, g3⟩ := rename_there hV hFl.symm (by omega) hA1 hF1 hAn hFn hno2
      have r1 := rename_pure l A F (by omega) (by omega)
      rw [g1] at r1
      have r2 := rename_pure (l.map (renE (A.zip F))) F A (by omega) (by omega)
      rw [g3] at r2
      simp only [logO] at r1 r2
      have hr40 : (l.map (renE (A.zip F))).length ≤ 40 := by simpa using hl40
      have hrsz : ∀ e ∈ l.map (renE (A.zip F)), e.case_.size ≤ maxLen := fun e he => by
        obtain ⟨x, hx, rfl⟩ := List.mem_map.1 he
        rw [renE_eq]; exact hsz x hx
      have hVar2 := variants_pure (l.map (renE (A.zip F))) (by omega) hrsz g2
      rw [(varL_valid g2 hr40).2.1, hren'] at hVar2
      simp only [varO] at hVar2
      have hSm := same_pure l ll hd
      generalize l.map (renE (A.zip F)) = r at r1 r2 hVar2
      ((try simp -implicitDefEqProofs [-loopQ_n, h, hFl, sw_reify]) <;> (repeat' (first | (refine condD_dec ?_ ?_ <;> (intro hc; (try simp -implicitDefEqProofs [-loopQ_n, hc, h, hFl, sw_reify]))) | (refine guardD_dec ?_ ?_ <;> (intro hc; (try simp -implicitDefEqProofs [-loopQ_n, hc, h, hFl, sw_reify]))) | (refine condD_intro ?_ ?_ <;> (intro hd; have hc := hd; (try simp at hc) <;> (try simp -implicitDefEqProofs [-loopQ_n, hd, hc, h, hFl, sw_reify]))) | (refine guardD_intro ?_ ?_ <;> (intro hd; have hc := hd; (try simp at hc) <;> (try simp -implicitDefEqProofs [-loopQ_n, hd, hc, h, hFl, sw_reify]))) | (refine ldD_ep ?_ ?_; (focus kernel_rfl); (try simp -implicitDefEqProofs [-loopQ_n, h, hFl, sw_reify])) | (refine callS_mk ?_; (try simp -implicitDefEqProofs [-loopQ_n, h, hFl, sw_reify]); (first | refine callS_intro (hcf) (.inl rfl) ?_); (try simp -implicitDefEqProofs [-loopQ_n, h, hFl, sw_reify])))))
      refine callG_intro (frz_G (id := 4) r1 rfl (fun x hx c hc => ?_) ?_ ?_ ?_)
      · obtain ⟨y, _, rfl⟩ := List.mem_map.1 hx
        simp [strC] at hc; subst hc; rfl
      · simp [frL, frA, hFl]
      · rfl
      ((try simp -implicitDefEqProofs [-loopQ_n, h, hFl, frH, frB, frL, frA]) <;> (repeat' (first | (refine condD_dec ?_ ?_ <;> (intro hc; (try simp -implicitDefEqProofs [-loopQ_n, hc, h, hFl, frH, frB, frL, frA]))) | (refine guardD_dec ?_ ?_ <;> (intro hc; (try simp -implicitDefEqProofs [-loopQ_n, hc, h, hFl, frH, frB, frL, frA]))) | (refine condD_intro ?_ ?_ <;> (intro hd; have hc := hd; (try simp at hc) <;> (try simp -implicitDefEqProofs [-loopQ_n, hd, hc, h, hFl, frH, frB, frL, frA]))) | (refine guardD_intro ?_ ?_ <;> (intro hd; have hc := hd; (try simp at hc) <;> (try simp -implicitDefEqProofs [-loopQ_n, hd, hc, h, hFl, frH, frB, frL, frA]))) | (refine ldD_ep ?_ ?_; (focus kernel_rfl); (try simp -implicitDefEqProofs [-loopQ_n, h, hFl, frH, frB, frL, frA])) | (refine callS_mk ?_; (try simp -implicitDefEqProofs [-loopQ_n, h, hFl, frH, frB, frL, frA]); (first | refine callS_intro (r2) (.inr ⟨rfl, rfl⟩) ?_ | refine callS_intro (hSm) (.inl rfl) ?_ | refine callS_intro (hVar2) (.inr ⟨rfl, rfl⟩) ?_); (try simp -implicitDefEqProofs [-loopQ_n, h, hFl, frH, frB, frL, frA])))))
      refine loop_intro (σ := Nat) (fun i => ⟨[(13, .rs (rowsOf vrC v)), (15, .rs (rowsOf strC A)), (17, .op 3 0), (175, .rs (rowsOf vrC (v.map (renV (A.zip F))))), (176, .int .i64 v.length), (177, .int .i64 i)], [.gone, .gone, .gone, .box 27 [.rs (rowsOf strC F)]]⟩) (fun i => i ≤ v.length) (fun i => v.length - i) 0 (by omega) ?_ ?_
      · refine weak_of 4 0 rfl rfl ?_ ?_ <;> simp
      rintro i hi
      by_cases hh : i < v.length
      · have w1 : wrapI .i64 ((i : Int) + 1) = (i : Int) + 1 := wrap_in (by omega) (by omega)
        obtain ⟨b1, b2⟩ := hvd _ (List.getElem_mem hh)
        obtain ⟨⟨ac, n⟩, hf⟩ : ∃ e, v[i] = e := ⟨_, rfl⟩
        rw [hf] at b1 b2
        simp only at b1 b2
        have hW : renV (A.zip F) ⟨ac, n⟩ = ⟨ac.map (renS (A.zip F)), n⟩ := rfl
        ((try simp -implicitDefEqProofs [-loopQ_n, hh, hf, hW, vrC]) <;> (repeat' (first | (refine condD_dec ?_ ?_ <;> (intro hc; (try simp -implicitDefEqProofs [-loopQ_n, hc, hh, hf, hW, vrC]))) | (refine guardD_dec ?_ ?_ <;> (intro hc; (try simp -implicitDefEqProofs [-loopQ_n, hc, hh, hf, hW, vrC]))) | (refine condD_intro ?_ ?_ <;> (intro hd; have hc := hd; (try simp at hc) <;> (try simp -implicitDefEqProofs [-loopQ_n, hd, hc, hh, hf, hW, vrC]))) | (refine guardD_intro ?_ ?_ <;> (intro hd; have hc := hd; (try simp at hc) <;> (try simp -implicitDefEqProofs [-loopQ_n, hd, hc, hh, hf, hW, vrC]))) | (refine ldD_ep ?_ ?_; (focus kernel_rfl); (try simp -implicitDefEqProofs [-loopQ_n, hh, hf, hW, vrC])))))
        refine loop_intro (σ := Nat) (fun j => ⟨[(13, .rs (rowsOf vrC v)), (15, .rs (rowsOf strC A)), (17, .op 3 0), (24, .int .i64 i), (175, .rs (rowsOf vrC (v.map (renV (A.zip F))))), (176, .int .i64 v.length), (177, .int .i64 i), (203, .rs (rowsOf strC (ac.map (renS (A.zip F))))), (204, .int .i64 ac.length), (205, .int .i64 j)], [.gone, .gone, .gone, .box 27 [.rs (rowsOf strC F)]]⟩) (fun j => j ≤ ac.length) (fun j => ac.length - j) 0 (by omega) ?_ ?_
        · refine weak_of 4 0 rfl rfl ?_ ?_ <;> simp
        rintro j hj
        by_cases hg : j < ac.length
        · have w2 : wrapI .i64 ((j : Int) + 1) = (j : Int) + 1 := wrap_in (by omega) (by omega)
          obtain ⟨q, hq, hAq⟩ := List.getElem_of_mem (b2 _ (List.getElem_mem hg))
          have hqF : q < F.length := by omega
          have hσ : renS (A.zip F) ac[j] = F[q] := by rw [← hAq]; exact renS_in hFl.symm hA1 hq
          have hix := rindex_pure F F[q] (by omega)
          rw [idx_at hF1 hqF] at hix
          have hq' : (q : Int) < A.length := by omega
          ((try simp -implicitDefEqProofs [-loopQ_n, hh, hf, hg, strC, vrC, hσ, hq, hq', hAq, w2]) <;> (repeat' (first | (refine condD_dec ?_ ?_ <;> (intro hc; (try simp -implicitDefEqProofs [-loopQ_n, hc, hh, hf, hg, strC, vrC, hσ, hq, hq', hAq, w2]))) | (refine guardD_dec ?_ ?_ <;> (intro hc; (try simp -implicitDefEqProofs [-loopQ_n, hc, hh, hf, hg, strC, vrC, hσ, hq, hq', hAq, w2]))) | (refine condD_intro ?_ ?_ <;> (intro hd; have hc := hd; (try simp at hc) <;> (try simp -implicitDefEqProofs [-loopQ_n, hd, hc, hh, hf, hg, strC, vrC, hσ, hq, hq', hAq, w2]))) | (refine guardD_intro ?_ ?_ <;> (intro hd; have hc := hd; (try simp at hc) <;> (try simp -implicitDefEqProofs [-loopQ_n, hd, hc, hh, hf, hg, strC, vrC, hσ, hq, hq', hAq, w2]))) | (refine ldD_ep ?_ ?_; (focus kernel_rfl); (try simp -implicitDefEqProofs [-loopQ_n, hh, hf, hg, strC, vrC, hσ, hq, hq', hAq, w2])) | (refine callS_mk ?_; (try simp -implicitDefEqProofs [-loopQ_n, hh, hf, hg, strC, vrC, hσ, hq, hq', hAq, w2]); (first | refine callS_intro (hix) (.inl rfl) ?_); (try simp -implicitDefEqProofs [-loopQ_n, hh, hf, hg, strC, vrC, hσ, hq, hq', hAq, w2])))))
          all_goals first | (exfalso; omega) | (refine loop_next (j + 1) (by omega) (by omega) (weak_of 4 0 rfl rfl ?_ ?_) <;> simp)
        · have hin : j = ac.length := by omega
          subst hin
          ((try simp -implicitDefEqProofs [-loopQ_n, hg, w1]) <;> (repeat' (first | (refine condD_dec ?_ ?_ <;> (intro hc; (try simp -implicitDefEqProofs [-loopQ_n, hc, hg, w1]))) | (refine guardD_dec ?_ ?_ <;> (intro hc; (try simp -implicitDefEqProofs [-loopQ_n, hc, hg, w1]))) | (refine condD_intro ?_ ?_ <;> (intro hd; have hc := hd; (try simp at hc) <;> (try simp -implicitDefEqProofs [-loopQ_n, hd, hc, hg, w1]))) | (refine guardD_intro ?_ ?_ <;> (intro hd; have hc := hd; (try simp at hc) <;> (try simp -implicitDefEqProofs [-loopQ_n, hd, hc, hg, w1]))) | (refine ldD_ep ?_ ?_; (focus kernel_rfl); (try simp -implicitDefEqProofs [-loopQ_n, hg, w1])))))
          refine loop_next (i + 1) (by omega) (by omega) (weak_of 4 0 rfl rfl ?_ ?_) <;> simp
      · ((try simp -implicitDefEqProofs [-loopQ_n, hh]) <;> (repeat' (first | (refine condD_dec ?_ ?_ <;> (intro hc; (try simp -implicitDefEqProofs [-loopQ_n, hc, hh]))) | (refine guardD_dec ?_ ?_ <;> (intro hc; (try simp -implicitDefEqProofs [-loopQ_n, hc, hh]))) | (refine condD_intro ?_ ?_ <;> (intro hd; have hc := hd; (try simp at hc) <;> (try simp -implicitDefEqProofs [-loopQ_n, hd, hc, hh]))) | (refine guardD_intro ?_ ?_ <;> (intro hd; have hc := hd; (try simp at hc) <;> (try simp -implicitDefEqProofs [-loopQ_n, hd, hc, hh]))) | (refine ldD_ep ?_ ?_; (focus kernel_rfl); (try simp -implicitDefEqProofs [-loopQ_n, hh])))))
  · by_cases h40 : 40 < A.length
    · rw [if_pos h40] at hAct
      ((try simp -implicitDefEqProofs [-loopQ_n, hS, hV, he]) <;> (repeat' (first | (refine condD_dec ?_ ?_ <;> (intro hc; (try simp -implicitDefEqProofs [-loopQ_n, hc, hS, hV, he]))) | (refine guardD_dec ?_ ?_ <;> (intro hc; (try simp -implicitDefEqProofs [-loopQ_n, hc, hS, hV, he]))) | (refine condD_intro ?_ ?_ <;> (intro hd; have hc := hd; (try simp at hc) <;> (try simp -implicitDefEqProofs [-loopQ_n, hd, hc, hS, hV, he]))) | (refine guardD_intro ?_ ?_ <;> (intro hd; have hc := hd; (try simp at hc) <;> (try simp -implicitDefEqProofs [-loopQ_n, hd, hc, hS, hV, he]))) | (refine ldD_ep ?_ ?_; (focus kernel_rfl); (try simp -implicitDefEqProofs [-loopQ_n, hS, hV, he])) | (refine callS_mk ?_; (try simp -implicitDefEqProofs [-loopQ_n, hS, hV, he]); (first | refine callS_intro (awake_pure) (.inl rfl) ?_ | refine callS_intro (small_pure l ll hd) (.inl rfl) ?_ | refine callS_intro (log_pure l) (.inl rfl) ?_ | refine callS_intro (hsh) (.inr ⟨rfl, rfl⟩) ?_ | refine callS_intro (hVar) (.inr ⟨rfl, rfl⟩) ?_ | refine callS_intro (hAct) (.inr ⟨rfl, rfl⟩) ?_); (try simp -implicitDefEqProofs [-loopQ_n, hS, hV, he])))))
    rw [if_neg h40] at hAct
    ((try simp -implicitDefEqProofs [-loopQ_n, hS, hV, he]) <;> (repeat' (first | (refine condD_dec ?_ ?_ <;> (intro hc; (try simp -implicitDefEqProofs [-loopQ_n, hc, hS, hV, he]))) | (refine guardD_dec ?_ ?_ <;> (intro hc; (try simp -implicitDefEqProofs [-loopQ_n, hc, hS, hV, he]))) | (refine condD_intro ?_ ?_ <;> (intro hd; have hc := hd; (try simp at hc) <;> (try simp -implicitDefEqProofs [-loopQ_n, hd, hc, hS, hV, he]))) | (refine guardD_intro ?_ ?_ <;> (intro hd; have hc := hd; (try simp at hc) <;> (try simp -implicitDefEqProofs [-loopQ_n, hd, hc, hS, hV, he]))) | (refine ldD_ep ?_ ?_; (focus kernel_rfl); (try simp -implicitDefEqProofs [-loopQ_n, hS, hV, he])) | (refine callS_mk ?_; (try simp -implicitDefEqProofs [-loopQ_n, hS, hV, he]); (first | refine callS_intro (awake_pure) (.inl rfl) ?_ | refine callS_intro (small_pure l ll hd) (.inl rfl) ?_ | refine callS_intro (log_pure l) (.inl rfl) ?_ | refine callS_intro (hsh) (.inr ⟨rfl, rfl⟩) ?_ | refine callS_intro (hVar) (.inr ⟨rfl, rfl⟩) ?_ | refine callS_intro (hAct) (.inr ⟨rfl, rfl⟩) ?_); (try simp -implicitDefEqProofs [-loopQ_n, hS, hV, he])))))
    refine loop_intro (σ := Nat) (fun i => ⟨[(2, .op 0 0), (13, .rs (rowsOf vrC v)), (15, .rs (rowsOf strC A)), (17, .op 2 0), (112, .int .i64 A.length), (113, .int .i64 i)], [.box 24 [.rs (rowsOf evtC l)], .gone, .box 27 [.os 3 i], .row 9 true (rowsOf strC (freshL i))]⟩) (fun i => i ≤ A.length) (fun i => A.length - i) 0 (by omega) ?_ ?_
    · refine weak_of 3 1 rfl rfl ?_ ?_ <;> simp [freshL, rowsOf]
    rintro i hi
    by_cases h : i < A.length
    · have w1 : wrapI .i64 ((i : Int) + 1) = (i : Int) + 1 := wrap_in (by omega) (by omega)
      have hfl := fresh_len i
      have hlen : i ≤ 1073741823 := by omega
      have hsn := fresh_snoc (i := i)
      have hr2 : [0, 1] = List.range 2 := by decide
      have q1 : wrapI .i64 ((i : Int) / 26) = (i : Int) / 26 := wrap_in (by omega) (by omega)
      have q2 : wrapI .i64 (97 + (i : Int) / 26) = 97 + (i : Int) / 26 := wrap_in (by omega) (by omega)
      have q3 : wrapI .u8 (97 + (i : Int) / 26) = 97 + (i : Int) / 26 := wrap_u8 (by omega) (by omega)
      have q4 : (i : Int).tmod 26 = (i : Int) % 26 := Int.tmod_eq_emod_of_nonneg (by omega)
      have q5 : wrapI .i64 (97 + (i : Int) % 26) = 97 + (i : Int) % 26 := wrap_in (by omega) (by omega)
      have q6 : wrapI .u8 (97 + (i : Int) % 26) = 97 + (i : Int) % 26 := wrap_u8 (by omega) (by omega)
      ((try simp -implicitDefEqProofs [-loopQ_n, h, w1, hfl, hlen, hr2, q1, q2, q3, q4, q5, q6, unbytes, fresh_cat, sz4, sz2, hsn]) <;> (repeat' (first | (refine condD_dec ?_ ?_ <;> (intro hc; (try simp -implicitDefEqProofs [-loopQ_n, hc, h, w1, hfl, hlen, hr2, q1, q2, q3, q4, q5, q6, unbytes, fresh_cat, sz4, sz2, hsn]))) | (refine guardD_dec ?_ ?_ <;> (intro hc; (try simp -implicitDefEqProofs [-loopQ_n, hc, h, w1, hfl, hlen, hr2, q1, q2, q3, q4, q5, q6, unbytes, fresh_cat, sz4, sz2, hsn]))) | (refine condD_intro ?_ ?_ <;> (intro hd; have hc := hd; (try simp at hc) <;> (try simp -implicitDefEqProofs [-loopQ_n, hd, hc, h, w1, hfl, hlen, hr2, q1, q2, q3, q4, q5, q6, unbytes, fresh_cat, sz4, sz2, hsn]))) | (refine guardD_intro ?_ ?_ <;> (intro hd; have hc := hd; (try simp at hc) <;> (try simp -implicitDefEqProofs [-loopQ_n, hd, hc, h, w1, hfl, hlen, hr2, q1, q2, q3, q4, q5, q6, unbytes, fresh_cat, sz4, sz2, hsn]))) | (refine ldD_ep ?_ ?_; (focus kernel_rfl); (try simp -implicitDefEqProofs [-loopQ_n, h, w1, hfl, hlen, hr2, q1, q2, q3, q4, q5, q6, unbytes, fresh_cat, sz4, sz2, hsn])))))
      refine loop_next (i + 1) (by omega) (by omega) (weak_of 4 0 rfl rfl ?_ ?_) <;> simp [sw_refs]
    · have hin : i = A.length := by omega
      subst hin
      have hFl := fresh_len A.length
      have hFa := fresh_asc (n := A.length) (by omega)
      have hFn := namesL_fresh (n := A.length) (by omega)
      have hren' := hren (freshL A.length) hFl.symm hFa
      generalize freshL A.length = F at hFl hFa hFn hren'
      have hF1 := asc_nodup hFa
      have hcf := cfEvt_any (p := fun e => hasB F e.act) (l := l) (g := 28) (caps := [.rp [.rs (rowsOf strC F)]]) (fun x _ => th2_pure F x (by omega)) (fun H k => rfl) rfl ll
      by_cases hno : l.any (fun e => hasB F e.act) = true
      · rw [hno] at hcf
        ((try simp -implicitDefEqProofs [-loopQ_n, h, hFl, sw_reify]) <;> (repeat' (first | (refine condD_dec ?_ ?_ <;> (intro hc; (try simp -implicitDefEqProofs [-loopQ_n, hc, h, hFl, sw_reify]))) | (refine guardD_dec ?_ ?_ <;> (intro hc; (try simp -implicitDefEqProofs [-loopQ_n, hc, h, hFl, sw_reify]))) | (refine condD_intro ?_ ?_ <;> (intro hd; have hc := hd; (try simp at hc) <;> (try simp -implicitDefEqProofs [-loopQ_n, hd, hc, h, hFl, sw_reify]))) | (refine guardD_intro ?_ ?_ <;> (intro hd; have hc := hd; (try simp at hc) <;> (try simp -implicitDefEqProofs [-loopQ_n, hd, hc, h, hFl, sw_reify]))) | (refine ldD_ep ?_ ?_; (focus kernel_rfl); (try simp -implicitDefEqProofs [-loopQ_n, h, hFl, sw_reify])) | (refine callS_mk ?_; (try simp -implicitDefEqProofs [-loopQ_n, h, hFl, sw_reify]); (first | refine callS_intro (hcf) (.inl rfl) ?_); (try simp -implicitDefEqProofs [-loopQ_n, h, hFl, sw_reify])))))
      have hno : l.any (fun e => hasB F e.act) = false := by simpa using hno
      rw [hno] at hcf
      have hno2 : ∀ e ∈ l, e.act ∉ F := fun e he q => by
        have := List.any_eq_false.1 hno e he
        rw [hasB_iff.2 q] at this
        simp at this
      obtain ⟨g1, g2, g3⟩ := rename_there hV hFl.symm (by omega) hA1 hF1 hAn hFn hno2
      have r1 := rename_pure l A F (by omega) (by omega)
      rw [g1] at r1
      have r2 := rename_pure (l.map (renE (A.zip F))) F A (by omega) (by omega)
      rw [g3] at r2
      simp only [logO] at r1 r2
      have hr40 : (l.map (renE (A.zip F))).length ≤ 40 := by simpa using hl40
      have hrsz : ∀ e ∈ l.map (renE (A.zip F)), e.case_.size ≤ maxLen := fun e he => by
        obtain ⟨x, hx, rfl⟩ := List.mem_map.1 he
        rw [renE_eq]; exact hsz x hx
      have hVar2 := variants_pure (l.map (renE (A.zip F))) (by omega) hrsz g2
      rw [(varL_valid g2 hr40).2.1, hren'] at hVar2
      simp only [varO] at hVar2
      have hSm := same_pure l ll hd
      generalize l.map (renE (A.zip F)) = r at r1 r2 hVar2
      ((try simp -implicitDefEqProofs [-loopQ_n, h, hFl, sw_reify]) <;> (repeat' (first | (refine condD_dec ?_ ?_ <;> (intro hc; (try simp -implicitDefEqProofs [-loopQ_n, hc, h, hFl, sw_reify]))) | (refine guardD_dec ?_ ?_ <;> (intro hc; (try simp -implicitDefEqProofs [-loopQ_n, hc, h, hFl, sw_reify]))) | (refine condD_intro ?_ ?_ <;> (intro hd; have hc := hd; (try simp at hc) <;> (try simp -implicitDefEqProofs [-loopQ_n, hd, hc, h, hFl, sw_reify]))) | (refine guardD_intro ?_ ?_ <;> (intro hd; have hc := hd; (try simp at hc) <;> (try simp -implicitDefEqProofs [-loopQ_n, hd, hc, h, hFl, sw_reify]))) | (refine ldD_ep ?_ ?_; (focus kernel_rfl); (try simp -implicitDefEqProofs [-loopQ_n, h, hFl, sw_reify])) | (refine callS_mk ?_; (try simp -implicitDefEqProofs [-loopQ_n, h, hFl, sw_reify]); (first | refine callS_intro (hcf) (.inl rfl) ?_); (try simp -implicitDefEqProofs [-loopQ_n, h, hFl, sw_reify])))))
      refine callG_intro (frz_G (id := 3) r1 rfl (fun x hx c hc => ?_) ?_ ?_ ?_)
      · obtain ⟨y, _, rfl⟩ := List.mem_map.1 hx
        simp [strC] at hc; subst hc; rfl
      · simp [frL, frA, hFl]
      · rfl
      ((try simp -implicitDefEqProofs [-loopQ_n, h, hFl, frH, frB, frL, frA]) <;> (repeat' (first | (refine condD_dec ?_ ?_ <;> (intro hc; (try simp -implicitDefEqProofs [-loopQ_n, hc, h, hFl, frH, frB, frL, frA]))) | (refine guardD_dec ?_ ?_ <;> (intro hc; (try simp -implicitDefEqProofs [-loopQ_n, hc, h, hFl, frH, frB, frL, frA]))) | (refine condD_intro ?_ ?_ <;> (intro hd; have hc := hd; (try simp at hc) <;> (try simp -implicitDefEqProofs [-loopQ_n, hd, hc, h, hFl, frH, frB, frL, frA]))) | (refine guardD_intro ?_ ?_ <;> (intro hd; have hc := hd; (try simp at hc) <;> (try simp -implicitDefEqProofs [-loopQ_n, hd, hc, h, hFl, frH, frB, frL, frA]))) | (refine ldD_ep ?_ ?_; (focus kernel_rfl); (try simp -implicitDefEqProofs [-loopQ_n, h, hFl, frH, frB, frL, frA])) | (refine callS_mk ?_; (try simp -implicitDefEqProofs [-loopQ_n, h, hFl, frH, frB, frL, frA]); (first | refine callS_intro (r2) (.inr ⟨rfl, rfl⟩) ?_ | refine callS_intro (hSm) (.inl rfl) ?_ | refine callS_intro (hVar2) (.inr ⟨rfl, rfl⟩) ?_); (try simp -implicitDefEqProofs [-loopQ_n, h, hFl, frH, frB, frL, frA])))))
      refine loop_intro (σ := Nat) (fun i => ⟨[(13, .rs (rowsOf vrC v)), (15, .rs (rowsOf strC A)), (17, .op 2 0), (175, .rs (rowsOf vrC (v.map (renV (A.zip F))))), (176, .int .i64 v.length), (177, .int .i64 i)], [.gone, .gone, .box 27 [.rs (rowsOf strC F)]]⟩) (fun i => i ≤ v.length) (fun i => v.length - i) 0 (by omega) ?_ ?_
      · refine weak_of 3 0 rfl rfl ?_ ?_ <;> simp
      rintro i hi
      by_cases hh : i < v.length
      · have w1 : wrapI .i64 ((i : Int) + 1) = (i : Int) + 1 := wrap_in (by omega) (by omega)
        obtain ⟨b1, b2⟩ := hvd _ (List.getElem_mem hh)
        obtain ⟨⟨ac, n⟩, hf⟩ : ∃ e, v[i] = e := ⟨_, rfl⟩
        rw [hf] at b1 b2
        simp only at b1 b2
        have hW : renV (A.zip F) ⟨ac, n⟩ = ⟨ac.map (renS (A.zip F)), n⟩ := rfl
        ((try simp -implicitDefEqProofs [-loopQ_n, hh, hf, hW, vrC]) <;> (repeat' (first | (refine condD_dec ?_ ?_ <;> (intro hc; (try simp -implicitDefEqProofs [-loopQ_n, hc, hh, hf, hW, vrC]))) | (refine guardD_dec ?_ ?_ <;> (intro hc; (try simp -implicitDefEqProofs [-loopQ_n, hc, hh, hf, hW, vrC]))) | (refine condD_intro ?_ ?_ <;> (intro hd; have hc := hd; (try simp at hc) <;> (try simp -implicitDefEqProofs [-loopQ_n, hd, hc, hh, hf, hW, vrC]))) | (refine guardD_intro ?_ ?_ <;> (intro hd; have hc := hd; (try simp at hc) <;> (try simp -implicitDefEqProofs [-loopQ_n, hd, hc, hh, hf, hW, vrC]))) | (refine ldD_ep ?_ ?_; (focus kernel_rfl); (try simp -implicitDefEqProofs [-loopQ_n, hh, hf, hW, vrC])))))
        refine loop_intro (σ := Nat) (fun j => ⟨[(13, .rs (rowsOf vrC v)), (15, .rs (rowsOf strC A)), (17, .op 2 0), (24, .int .i64 i), (175, .rs (rowsOf vrC (v.map (renV (A.zip F))))), (176, .int .i64 v.length), (177, .int .i64 i), (203, .rs (rowsOf strC (ac.map (renS (A.zip F))))), (204, .int .i64 ac.length), (205, .int .i64 j)], [.gone, .gone, .box 27 [.rs (rowsOf strC F)]]⟩) (fun j => j ≤ ac.length) (fun j => ac.length - j) 0 (by omega) ?_ ?_
        · refine weak_of 3 0 rfl rfl ?_ ?_ <;> simp
        rintro j hj
        by_cases hg : j < ac.length
        · have w2 : wrapI .i64 ((j : Int) + 1) = (j : Int) + 1 := wrap_in (by omega) (by omega)
          obtain ⟨q, hq, hAq⟩ := List.getElem_of_mem (b2 _ (List.getElem_mem hg))
          have hqF : q < F.length := by omega
          have hσ : renS (A.zip F) ac[j] = F[q] := by rw [← hAq]; exact renS_in hFl.symm hA1 hq
          have hix := rindex_pure F F[q] (by omega)
          rw [idx_at hF1 hqF] at hix
          have hq' : (q : Int) < A.length := by omega
          ((try simp -implicitDefEqProofs [-loopQ_n, hh, hf, hg, strC, vrC, hσ, hq, hq', hAq, w2]) <;> (repeat' (first | (refine condD_dec ?_ ?_ <;> (intro hc; (try simp -implicitDefEqProofs [-loopQ_n, hc, hh, hf, hg, strC, vrC, hσ, hq, hq', hAq, w2]))) | (refine guardD_dec ?_ ?_ <;> (intro hc; (try simp -implicitDefEqProofs [-loopQ_n, hc, hh, hf, hg, strC, vrC, hσ, hq, hq', hAq, w2]))) | (refine condD_intro ?_ ?_ <;> (intro hd; have hc := hd; (try simp at hc) <;> (try simp -implicitDefEqProofs [-loopQ_n, hd, hc, hh, hf, hg, strC, vrC, hσ, hq, hq', hAq, w2]))) | (refine guardD_intro ?_ ?_ <;> (intro hd; have hc := hd; (try simp at hc) <;> (try simp -implicitDefEqProofs [-loopQ_n, hd, hc, hh, hf, hg, strC, vrC, hσ, hq, hq', hAq, w2]))) | (refine ldD_ep ?_ ?_; (focus kernel_rfl); (try simp -implicitDefEqProofs [-loopQ_n, hh, hf, hg, strC, vrC, hσ, hq, hq', hAq, w2])) | (refine callS_mk ?_; (try simp -implicitDefEqProofs [-loopQ_n, hh, hf, hg, strC, vrC, hσ, hq, hq', hAq, w2]); (first | refine callS_intro (hix) (.inl rfl) ?_); (try simp -implicitDefEqProofs [-loopQ_n, hh, hf, hg, strC, vrC, hσ, hq, hq', hAq, w2])))))
          all_goals first | (exfalso; omega) | (refine loop_next (j + 1) (by omega) (by omega) (weak_of 3 0 rfl rfl ?_ ?_) <;> simp)
        · have hin : j = ac.length := by omega
          subst hin
          ((try simp -implicitDefEqProofs [-loopQ_n, hg, w1]) <;> (repeat' (first | (refine condD_dec ?_ ?_ <;> (intro hc; (try simp -implicitDefEqProofs [-loopQ_n, hc, hg, w1]))) | (refine guardD_dec ?_ ?_ <;> (intro hc; (try simp -implicitDefEqProofs [-loopQ_n, hc, hg, w1]))) | (refine condD_intro ?_ ?_ <;> (intro hd; have hc := hd; (try simp at hc) <;> (try simp -implicitDefEqProofs [-loopQ_n, hd, hc, hg, w1]))) | (refine guardD_intro ?_ ?_ <;> (intro hd; have hc := hd; (try simp at hc) <;> (try simp -implicitDefEqProofs [-loopQ_n, hd, hc, hg, w1]))) | (refine ldD_ep ?_ ?_; (focus kernel_rfl); (try simp -implicitDefEqProofs [-loopQ_n, hg, w1])))))
          refine loop_next (i + 1) (by omega) (by omega) (weak_of 3 0 rfl rfl ?_ ?_) <;> simp
      · ((try simp -implicitDefEqProofs [-loopQ_n, hh]) <;> (repeat' (first | (refine condD_dec ?_ ?_ <;> (intro hc; (try simp -implicitDefEqProofs [-loopQ_n, hc, hh]))) | (refine guardD_dec ?_ ?_ <;> (intro hc; (try simp -implicitDefEqProofs [-loopQ_n, hc, hh]))) | (refine condD_intro ?_ ?_ <;> (intro hd; have hc := hd; (try simp at hc) <;> (try simp -implicitDefEqProofs [-loopQ_n, hd, hc, hh]))) | (refine guardD_intro ?_ ?_ <;> (intro hd; have hc := hd; (try simp at hc) <;> (try simp -implicitDefEqProofs [-loopQ_n, hd, hc, hh]))) | (refine ldD_ep ?_ ?_; (focus kernel_rfl); (try simp -implicitDefEqProofs [-loopQ_n, hh])))))
theorem both (x0 : AV) (s0 : argS Try.prog 24 x0) (x1 : AV) (s1 : argS Try.prog 3 x1) : Pure Try.prog 5 [x0, x1] (.bool true) := by
  obtain ⟨l, rfl, ll, hd⟩ := log_dec2 s0
  obtain ⟨b, rfl, _⟩ := arg_int Try.underlying3 s1
  by_cases hS : smallB l = true
  rotate_left
  · have hS : smallB l = false := by simpa using hS
    refine pure_of mixed Try.func5 rfl (by kernel_rfl) (of_decide_eq_true rfl) (by kernel_rfl) (vc_run ?_)
    ((try simp -implicitDefEqProofs [-loopQ_n, hS]) <;> (repeat' (first | (refine condD_dec ?_ ?_ <;> (intro hc; (try simp -implicitDefEqProofs [-loopQ_n, hc, hS]))) | (refine guardD_dec ?_ ?_ <;> (intro hc; (try simp -implicitDefEqProofs [-loopQ_n, hc, hS]))) | (refine condD_intro ?_ ?_ <;> (intro hd; have hc := hd; (try simp at hc) <;> (try simp -implicitDefEqProofs [-loopQ_n, hd, hc, hS]))) | (refine guardD_intro ?_ ?_ <;> (intro hd; have hc := hd; (try simp at hc) <;> (try simp -implicitDefEqProofs [-loopQ_n, hd, hc, hS]))) | (refine ldD_ep ?_ ?_; (focus kernel_rfl); (try simp -implicitDefEqProofs [-loopQ_n, hS])) | (refine callS_mk ?_; (try simp -implicitDefEqProofs [-loopQ_n, hS]); (first | refine callS_intro (awake_pure) (.inl rfl) ?_ | refine callS_intro (small_pure l ll hd) (.inl rfl) ?_); (try simp -implicitDefEqProofs [-loopQ_n, hS])))))
  by_cases hV : logV l = true
  rotate_left
  · have hV : logV l = false := by simpa using hV
    refine pure_of mixed Try.func5 rfl (by kernel_rfl) (of_decide_eq_true rfl) (by kernel_rfl) (vc_run ?_)
    ((try simp -implicitDefEqProofs [-loopQ_n, hS, hV]) <;> (repeat' (first | (refine condD_dec ?_ ?_ <;> (intro hc; (try simp -implicitDefEqProofs [-loopQ_n, hc, hS, hV]))) | (refine guardD_dec ?_ ?_ <;> (intro hc; (try simp -implicitDefEqProofs [-loopQ_n, hc, hS, hV]))) | (refine condD_intro ?_ ?_ <;> (intro hd; have hc := hd; (try simp at hc) <;> (try simp -implicitDefEqProofs [-loopQ_n, hd, hc, hS, hV]))) | (refine guardD_intro ?_ ?_ <;> (intro hd; have hc := hd; (try simp at hc) <;> (try simp -implicitDefEqProofs [-loopQ_n, hd, hc, hS, hV]))) | (refine ldD_ep ?_ ?_; (focus kernel_rfl); (try simp -implicitDefEqProofs [-loopQ_n, hS, hV])) | (refine callS_mk ?_; (try simp -implicitDefEqProofs [-loopQ_n, hS, hV]); (first | refine callS_intro (awake_pure) (.inl rfl) ?_ | refine callS_intro (small_pure l ll hd) (.inl rfl) ?_ | refine callS_intro (log_pure l) (.inl rfl) ?_); (try simp -implicitDefEqProofs [-loopQ_n, hS, hV])))))
  exact main l b ll hd hS hV
theorem walk (W : World) (hvo : VarsOk W (fun _ => False)) (v0 : Value) (x0 : AV) (r0 : RO W (fun _ => False) x0 v0) (s0 : argS Try.prog 24 x0) (v1 : Value) (x1 : AV) (r1 : RO W (fun _ => False) x1 v1) (s1 : argS Try.prog 3 x1) :
    Calls Try.prog 5 #[v0, v1] W fun e w' => e = .returned (.bool true) ∧ Below W.heap.size W w' := by
  refine ((both x0 s0 x1 s1).2 W (fun _ => False) _ (fun _ h => h.elim) hvo rfl ?_).mono ?_
  · intro j x v hj hv
    match j with
    | 0 => simp at hj hv; subst hj hv; exact r0
    | 1 => simp at hj hv; subst hj hv; exact r1
    | j + 2 => simp at hj
  · rintro e w' ⟨v, rfl, hv, hb⟩
    rw [ro_tt hv]
    exact ⟨rfl, hb⟩
end
set_option maxRecDepth 100000 in
theorem lifted (os : Os) (started : os.Started) (H : Type) (enc : TypeId × Value → H) :
    ReturnsInHanded {} Try.checked os 5 .any (Rows.eventlogThereSpec.pre6 enc Try.prog Try.f5 Rows.eventlogThereRow.domain false) (Rows.eventlogThereSpec.post enc Try.prog Try.f5 false true false false) := by
  refine returnsInHanded_of_change (C := Try.checked) (@ownK ⟨fun _ => none⟩) started (by kernel_rfl) Try.func5
    (ChangeSpec.witness6 (enc := enc) (C := Try.checked) false ⟨#[], #[.agg #[.slice none 0 0], .int .i64 0], []⟩ 8 (by kernel_rfl) (by kernel_rfl) (by kernel_rfl) (by kernel_rfl)) ?_
  intro W base args ds gs before hval0 hW hcnd _
  have hval : ∀ (j : Nat) t v, Try.f5.params[j]? = some t → args[j]? = some v → Value.okWide Try.prog W .any base t v := hval0
  have hW' := hW
  obtain ⟨p, q, hA0, hV, rfl, hfz, hnd⟩ := hW
  have hA : DataW.TrodAll enc Try.prog W 0 (fun _ => true) true Try.f5.params.toList args.toList ds p := hA0
  rw [Try.params5] at hA hval
  obtain ⟨v0, vs0, d0, ds0, p0, q0, hargs, rfl, rfl, h0, r0⟩ := trodAll_cons hA
  obtain ⟨v1, vs1, d1, ds1, p1, q1, rfl, rfl, rfl, h1, r1⟩ := trodAll_cons r0
  obtain ⟨rfl, rfl, rfl⟩ := trodAll_nil r1
  obtain rfl : args = #[v0, v1] := by cases args; simp_all
  obtain ⟨rfl, rfl⟩ := trodVars_none hV
  letI : Glob := ⟨fun _ => none⟩
  have k0 := h0
  have lt0 : ∀ x ∈ p0, x.block < W.heap.size := by obtain ⟨m, hm⟩ := k0; exact DataW.trod_lt m _ _ _ hm
  obtain ⟨x0, y0, s0⟩ := arg_open (P := Try.prog) (t := 24) (by kernel_rfl) (by kernel_rfl) (hval 0 24 v0 rfl rfl) h0
  have k1 := h1
  have lt1 : ∀ x ∈ p1, x.block < W.heap.size := by obtain ⟨m, hm⟩ := k1; exact DataW.trod_lt m _ _ _ hm
  obtain ⟨x1, y1, s1⟩ := arg_open (P := Try.prog) (t := 3) (by kernel_rfl) (by kernel_rfl) (hval 1 3 v1 rfl rfl) h1
  clear hA0 hval0
  refine (walk W (fun g row h => by cases h) v0 x0 y0 s0 v1 x1 y1 s1).mono fun e W' ⟨he, bel⟩ => ?_
  subst he
  exact ⟨_, rfl, _, _, _, [], _, [], hW', trodAll_mk1 (shut_bool Try.underlying4 _), (trodAll_cons_mk (Below.trod laidK (by kernel_rfl) (of_decide_eq_true (by kernel_rfl)) k0 bel lt0) (trodAll_cons_mk (Below.trod laidK (by kernel_rfl) (of_decide_eq_true (by kernel_rfl)) k1 bel lt1) trodAll_mk0)), rfl, bel.frame _, fun h => by cases h⟩

theorem over : Rows.eventlogThereRow.holds Try.pinned (OpenSpec.ofChange Rows.eventlogThereSpec) :=
  OpenClaim.holds_of_wide 5 Try.f5 rfl rfl rfl rfl rfl rfl rfl ⟨rfl, rfl, rfl, rfl, rfl⟩ rfl rfl rfl rfl rfl (by kernel_rfl) Try.func5 (by kernel_rfl)
    (of_decide_eq_true (by kernel_rfl)) (by unfold Func.isWrapper; first | (rw [if_pos (by decide +kernel)]; kernel_rfl) | (rw [if_neg (by decide +kernel)]; exact ⟨rfl, rfl⟩))
    (fun os started H enc _ => lifted os started H enc)

theorem proved : Rows.EventlogThereSaid := over
end Go.Proofs.Ytnldjmokemgaoaa.lawEThere
