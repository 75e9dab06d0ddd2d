/- What a publication has lost (the program). -/
import Derived.Test.YtkppfaennogcmaaPrvZ
namespace Go.Proofs.Ytkppfaennogcmaa
set_option linter.unusedSimpArgs false
set_option linter.unusedVariables false
set_option linter.unnecessarySimpa false
set_option linter.unusedSectionVars false
open Go.RowKit
variable [Glob]
set_option maxRecDepth 100000
theorem validW_good {l : List Wd} (h : validW l = true) : ∀ v ∈ l, wdG v := by
  intro v hv
  obtain ⟨i, hi, rfl⟩ := List.getElem_of_mem hv
  have := (List.all_eq_true.1 h) i (by simpa using hi)
  simp only [badW, wat_get hi, Bool.not_eq_true', Bool.or_eq_false_iff, Bool.not_eq_false', decide_eq_false_iff_not] at this
  obtain ⟨⟨⟨⟨h1, h2⟩, h3⟩, h4⟩, _⟩ := this
  refine ⟨by omega, by omega, by omega, fun s hs => ?_⟩
  unfold namesL at h4
  exact List.all_eq_true.1 h4 s hs
theorem pM_sha {N : Nat} {es : Ms} : (mE psK piV es).map (fun e => (shA N e.1, shA N e.2)) = mE psK piV es := by
  simp only [mE, List.map_map]
  congr 1
theorem pM_get {es : Ms} {i : Nat} {key y : AV} (h : (mE psK piV es)[i]? = some (key, y)) : ∃ k v, key = .str k ∧ y = .int .i64 v ∧ es[i]? = some (k, v) := by
  simp only [mE, List.getElem?_map, Option.map_eq_some_iff] at h
  obtain ⟨⟨k, v⟩, h1, h2⟩ := h
  simp only [psK, piV, Prod.mk.injEq] at h2
  exact ⟨k, v, h2.1.symm, h2.2.symm, h1⟩
def overE (have_ : Ms) (e : ByteArray × Int) : Bool := decide (valM have_ e.1 < e.2)
def lossR (L P : List Wd) : Int × Int := if validW L = false then (0, 1) else if validW P = false then (0, 1) else if (begE P).any (overE (begE L)) = true then (0, 28) else (actsS L - actsS P, 0)
def lossT (R : Int × Int) : AV := .tup [.int .i64 R.1, .int .i64 R.2]
def seenOk (W Hv : Ms) (l : List Nat) : Prop := l.Nodup ∧ ∀ i ∈ l, i < W.length ∧ ∀ e, W[i]? = some e → overE Hv e = false
theorem seenOk.len {W Hv : Ms} {l : List Nat} (h : seenOk W Hv l) : l.length ≤ W.length := by
  have := List.Nodup.length_le_of_subset h.1 (l₂ := List.range W.length) fun i hi => List.mem_range.2 (h.2 i hi).1
  simpa using this
theorem seenOk.snoc {W Hv : Ms} {l : List Nat} (h : seenOk W Hv l) {i : Nat} {e : ByteArray × Int} (hi : i ∉ l) (he : W[i]? = some e) (ho : overE Hv e = false) : seenOk W Hv (l ++ [i]) := by
  refine ⟨List.nodup_append.2 ⟨h.1, by simp, fun a ha b hb => by simp at hb; subst hb; exact fun q => hi (q ▸ ha)⟩, fun j hj => ?_⟩
  rcases List.mem_append.1 hj with hj | hj
  · exact h.2 j hj
  · simp at hj
    subst hj
    exact ⟨(List.getElem?_eq_some_iff.1 he).1, fun e' he' => by rw [he] at he'; cases he'; exact ho⟩
set_option maxHeartbeats 16000000 in
theorem loss_pure (L P : List Wd) (hL : L.length ≤ 300) (hP : P.length ≤ 300) (hLw : ∀ v ∈ L, wdI v) (hPw : ∀ v ∈ P, wdI v) : Pure Try.prog 17 [.rs (rowsOf wdC L), .rs (rowsOf wdC P)] (lossT (lossR L P)) := by
  have h1 := variants_pure L hL
  have h2 := right_pure L hL hLw
  have h3 := valid_pure P hP hPw
  have h4 := published_pure P hP
  cases v1 : validW L with
  | false =>
    have hR : lossR L P = (0, 1) := by unfold lossR; rw [if_pos v1]
    rw [hR]
    rw [v1] at h2
    refine pure_of mixed Try.func17 rfl (by kernel_rfl) (of_decide_eq_true rfl) (by kernel_rfl) (vc_run ?_)
    ((try simp -implicitDefEqProofs [-loopQ_n, lossT]) <;> (repeat' (first | (refine condD_dec ?_ ?_ <;> (intro hc; (try simp -implicitDefEqProofs [-loopQ_n, hc, lossT]))) | (refine guardD_dec ?_ ?_ <;> (intro hc; (try simp -implicitDefEqProofs [-loopQ_n, hc, lossT]))) | (refine condD_intro ?_ ?_ <;> (intro hd; have hc := hd; (try simp at hc) <;> (try simp -implicitDefEqProofs [-loopQ_n, hd, hc, lossT]))) | (refine guardD_intro ?_ ?_ <;> (intro hd; have hc := hd; (try simp at hc) <;> (try simp -implicitDefEqProofs [-loopQ_n, hd, hc, lossT]))) | (refine ldD_ep ?_ ?_; (focus kernel_rfl); (try simp -implicitDefEqProofs [-loopQ_n, lossT])) | (refine callS_mk ?_; (try simp -implicitDefEqProofs [-loopQ_n, lossT]); (first | refine callS_intro (h1) (.inr ⟨rfl, rfl⟩) ?_ | refine callS_intro (h2) (.inl rfl) ?_); (try simp -implicitDefEqProofs [-loopQ_n, lossT])))))
  | true =>
  cases v2 : validW P with
  | false =>
    have hR : lossR L P = (0, 1) := by unfold lossR; rw [if_neg (by rw [v1]; simp), if_pos v2]
    rw [hR]
    rw [v1] at h2
    rw [v2] at h3
    refine pure_of mixed Try.func17 rfl (by kernel_rfl) (of_decide_eq_true rfl) (by kernel_rfl) (vc_run ?_)
    ((try simp -implicitDefEqProofs [-loopQ_n, lossT]) <;> (repeat' (first | (refine condD_dec ?_ ?_ <;> (intro hc; (try simp -implicitDefEqProofs [-loopQ_n, hc, lossT]))) | (refine guardD_dec ?_ ?_ <;> (intro hc; (try simp -implicitDefEqProofs [-loopQ_n, hc, lossT]))) | (refine condD_intro ?_ ?_ <;> (intro hd; have hc := hd; (try simp at hc) <;> (try simp -implicitDefEqProofs [-loopQ_n, hd, hc, lossT]))) | (refine guardD_intro ?_ ?_ <;> (intro hd; have hc := hd; (try simp at hc) <;> (try simp -implicitDefEqProofs [-loopQ_n, hd, hc, lossT]))) | (refine ldD_ep ?_ ?_; (focus kernel_rfl); (try simp -implicitDefEqProofs [-loopQ_n, lossT])) | (refine callS_mk ?_; (try simp -implicitDefEqProofs [-loopQ_n, lossT]); (first | refine callS_intro (h1) (.inr ⟨rfl, rfl⟩) ?_ | refine callS_intro (h2) (.inl rfl) ?_ | refine callS_intro (h3) (.inl rfl) ?_); (try simp -implicitDefEqProofs [-loopQ_n, lossT])))))
  | true =>
  have b1 := begin_new L hL (validW_good v1)
  have b2 := begin_new P hP (validW_good v2)
  have n1 := actsS_bd L (validW_good v1)
  have n2 := actsS_bd P (validW_good v2)
  have hR : lossR L P = if (begE P).any (overE (begE L)) = true then (0, 28) else (actsS L - actsS P, 0) := by unfold lossR; rw [if_neg (by rw [v1]; simp), if_neg (by rw [v2]; simp)]
  rw [hR]
  clear hR
  rw [v1] at h2
  rw [v2] at h3
  generalize begE L = hv at *
  generalize begE P = W at *
  generalize actsS L = a at *
  generalize actsS P = b at *
  have w1 : wrapI .i64 (a - b) = a - b := wrap_in (by omega) (by omega)
  obtain ⟨R, hR⟩ : ∃ R, (if W.any (overE hv) = true then ((0, 28) : Int × Int) else (a - b, 0)) = R := ⟨_, rfl⟩
  rw [hR]
  have r1 : ∀ i e, W[i]? = some e → overE hv e = true → R = (0, 28) := fun i e h1 h2 => by
    rw [← hR, if_pos]
    rw [List.any_eq_true]
    exact ⟨e, List.mem_of_getElem? h1, h2⟩
  have r2 : (∀ i e, W[i]? = some e → overE hv e = false) → R = (a - b, 0) := fun h => by
    rw [← hR, if_neg]
    rw [List.any_eq_true]
    rintro ⟨e, h1, h2⟩
    obtain ⟨i, hi, rfl⟩ := List.getElem_of_mem h1
    rw [h i _ (List.getElem?_eq_getElem hi)] at h2
    cases h2
  clear hR
  refine pure_of mixed Try.func17 rfl (by kernel_rfl) (of_decide_eq_true rfl) (by kernel_rfl) (vc_run ?_)
  ((try simp -implicitDefEqProofs [-loopQ_n]) <;> (repeat' (first | (refine condD_dec ?_ ?_ <;> (intro hc; (try simp -implicitDefEqProofs [-loopQ_n, hc]))) | (refine guardD_dec ?_ ?_ <;> (intro hc; (try simp -implicitDefEqProofs [-loopQ_n, hc]))) | (refine condD_intro ?_ ?_ <;> (intro hd; have hc := hd; (try simp at hc) <;> (try simp -implicitDefEqProofs [-loopQ_n, hd, hc]))) | (refine guardD_intro ?_ ?_ <;> (intro hd; have hc := hd; (try simp at hc) <;> (try simp -implicitDefEqProofs [-loopQ_n, hd, hc]))) | (refine ldD_ep ?_ ?_; (focus kernel_rfl); (try simp -implicitDefEqProofs [-loopQ_n])) | (refine callS_mk ?_; (try simp -implicitDefEqProofs [-loopQ_n]); (first | refine callS_intro (h1) (.inr ⟨rfl, rfl⟩) ?_ | refine callS_intro (h2) (.inl rfl) ?_ | refine callS_intro (h3) (.inl rfl) ?_); (try simp -implicitDefEqProofs [-loopQ_n])))))
  refine new_intro b1 (by simp) (.inr ⟨rfl, rfl⟩) ?_
  ((try simp -implicitDefEqProofs [-loopQ_n, shA, pM_sha]) <;> (repeat' (first | (refine condD_dec ?_ ?_ <;> (intro hc; (try simp -implicitDefEqProofs [-loopQ_n, hc, shA, pM_sha]))) | (refine guardD_dec ?_ ?_ <;> (intro hc; (try simp -implicitDefEqProofs [-loopQ_n, hc, shA, pM_sha]))) | (refine condD_intro ?_ ?_ <;> (intro hd; have hc := hd; (try simp at hc) <;> (try simp -implicitDefEqProofs [-loopQ_n, hd, hc, shA, pM_sha]))) | (refine guardD_intro ?_ ?_ <;> (intro hd; have hc := hd; (try simp at hc) <;> (try simp -implicitDefEqProofs [-loopQ_n, hd, hc, shA, pM_sha]))) | (refine ldD_ep ?_ ?_; (focus kernel_rfl); (try simp -implicitDefEqProofs [-loopQ_n, shA, pM_sha])) | (refine callS_mk ?_; (try simp -implicitDefEqProofs [-loopQ_n, shA, pM_sha]); (first | refine callS_intro (h1) (.inr ⟨rfl, rfl⟩) ?_ | refine callS_intro (h2) (.inl rfl) ?_ | refine callS_intro (h3) (.inl rfl) ?_ | refine callS_intro (h4) (.inr ⟨rfl, rfl⟩) ?_); (try simp -implicitDefEqProofs [-loopQ_n, shA, pM_sha])))))
  refine new_intro b2 (by simp) (.inr ⟨rfl, rfl⟩) ?_
  ((try simp -implicitDefEqProofs [-loopQ_n, shA, pM_sha]) <;> (repeat' (first | (refine condD_dec ?_ ?_ <;> (intro hc; (try simp -implicitDefEqProofs [-loopQ_n, hc, shA, pM_sha]))) | (refine guardD_dec ?_ ?_ <;> (intro hc; (try simp -implicitDefEqProofs [-loopQ_n, hc, shA, pM_sha]))) | (refine condD_intro ?_ ?_ <;> (intro hd; have hc := hd; (try simp at hc) <;> (try simp -implicitDefEqProofs [-loopQ_n, hd, hc, shA, pM_sha]))) | (refine guardD_intro ?_ ?_ <;> (intro hd; have hc := hd; (try simp at hc) <;> (try simp -implicitDefEqProofs [-loopQ_n, hd, hc, shA, pM_sha]))) | (refine ldD_ep ?_ ?_; (focus kernel_rfl); (try simp -implicitDefEqProofs [-loopQ_n, shA, pM_sha])) | (refine callS_mk ?_; (try simp -implicitDefEqProofs [-loopQ_n, shA, pM_sha]); (first | refine callS_intro (h1) (.inr ⟨rfl, rfl⟩) ?_ | refine callS_intro (h2) (.inl rfl) ?_ | refine callS_intro (h3) (.inl rfl) ?_ | refine callS_intro (h4) (.inr ⟨rfl, rfl⟩) ?_); (try simp -implicitDefEqProofs [-loopQ_n, shA, pM_sha])))))
  refine loop_intro (σ := List Nat) (fun x => ⟨[(6, .mp 0), (7, .int .i64 a), (9, .int .i64 b), (34, .it 2)], [.map (mE psK piV hv), .map (mE psK piV W), .iter (some 1) W.length x]⟩)
    (fun x => seenOk W hv x) (fun x => W.length - x.length) [] ⟨by simp, by simp⟩ ?_ ?_
  · refine weak_of 3 0 rfl rfl ?_ ?_ <;> simp [-refsM, pM_refs, pM_sha, mE_len]
  intro x hx
  ((try simp -implicitDefEqProofs [-loopQ_n]) <;> (repeat' (first | (refine condD_dec ?_ ?_ <;> (intro hc; (try simp -implicitDefEqProofs [-loopQ_n, hc]))) | (refine guardD_dec ?_ ?_ <;> (intro hc; (try simp -implicitDefEqProofs [-loopQ_n, hc]))) | (refine condD_intro ?_ ?_ <;> (intro hd; have hc := hd; (try simp at hc) <;> (try simp -implicitDefEqProofs [-loopQ_n, hd, hc]))) | (refine guardD_intro ?_ ?_ <;> (intro hd; have hc := hd; (try simp at hc) <;> (try simp -implicitDefEqProofs [-loopQ_n, hd, hc]))) | (refine ldD_ep ?_ ?_; (focus kernel_rfl); (try simp -implicitDefEqProofs [-loopQ_n])))))
  refine nxt_map (id := 2) (mid := 1) (n := W.length) rfl rfl mE_len ?_ ?_
  · intro i key y hi hg
    have hgm := hg
    obtain ⟨k, v, rfl, rfl, he⟩ := pM_get hg
    have hil := (List.getElem?_eq_some_iff.1 he).1
    have hln : (mE psK piV W).length = W.length := mE_len
    obtain ⟨u, hu⟩ : ∃ u, valM hv k = u := ⟨_, rfl⟩
    have hov : overE hv (k, v) = decide (u < v) := by unfold overE; rw [hu]
    have hlast : (x ++ [i]).getLast? = some i := by simp
    cases hf : afind k hv 0 with
    | none =>
      have hu0 : u = 0 := by rw [← hu]; simp [valM, alook, hf]
      subst hu0
      by_cases c : 0 < v
      · have := r1 i _ he (by rw [hov]; simp [c])
        subst this
        ((try simp -implicitDefEqProofs [-loopQ_n, hgm, hln, hlast, pmf_s, hf, c, lossT]) <;> (repeat' (first | (refine condD_dec ?_ ?_ <;> (intro hc; (try simp -implicitDefEqProofs [-loopQ_n, hc, hgm, hln, hlast, pmf_s, hf, c, lossT]))) | (refine guardD_dec ?_ ?_ <;> (intro hc; (try simp -implicitDefEqProofs [-loopQ_n, hc, hgm, hln, hlast, pmf_s, hf, c, lossT]))) | (refine condD_intro ?_ ?_ <;> (intro hd; have hc := hd; (try simp at hc) <;> (try simp -implicitDefEqProofs [-loopQ_n, hd, hc, hgm, hln, hlast, pmf_s, hf, c, lossT]))) | (refine guardD_intro ?_ ?_ <;> (intro hd; have hc := hd; (try simp at hc) <;> (try simp -implicitDefEqProofs [-loopQ_n, hd, hc, hgm, hln, hlast, pmf_s, hf, c, lossT]))) | (refine ldD_ep ?_ ?_; (focus kernel_rfl); (try simp -implicitDefEqProofs [-loopQ_n, hgm, hln, hlast, pmf_s, hf, c, lossT])))))
      · have hs := hx.snoc hi he (by rw [hov]; simp [c])
        ((try simp -implicitDefEqProofs [-loopQ_n, hgm, hln, hlast, pmf_s, hf, c]) <;> (repeat' (first | (refine condD_dec ?_ ?_ <;> (intro hc; (try simp -implicitDefEqProofs [-loopQ_n, hc, hgm, hln, hlast, pmf_s, hf, c]))) | (refine guardD_dec ?_ ?_ <;> (intro hc; (try simp -implicitDefEqProofs [-loopQ_n, hc, hgm, hln, hlast, pmf_s, hf, c]))) | (refine condD_intro ?_ ?_ <;> (intro hd; have hc := hd; (try simp at hc) <;> (try simp -implicitDefEqProofs [-loopQ_n, hd, hc, hgm, hln, hlast, pmf_s, hf, c]))) | (refine guardD_intro ?_ ?_ <;> (intro hd; have hc := hd; (try simp at hc) <;> (try simp -implicitDefEqProofs [-loopQ_n, hd, hc, hgm, hln, hlast, pmf_s, hf, c]))) | (refine ldD_ep ?_ ?_; (focus kernel_rfl); (try simp -implicitDefEqProofs [-loopQ_n, hgm, hln, hlast, pmf_s, hf, c])))))
        refine loop_next (x ++ [i]) hs (by have := hs.len; simp at this ⊢; omega) (weak_of 3 0 rfl rfl ?_ ?_) <;> simp [-refsM, pM_refs]
    | some q =>
      obtain ⟨q, z⟩ := q
      have hz : z = u := by rw [← hu]; simp [valM, alook, hf]
      subst hz
      by_cases c : z < v
      · have := r1 i _ he (by rw [hov]; simp [c])
        subst this
        ((try simp -implicitDefEqProofs [-loopQ_n, hgm, hln, hlast, pmf_s, hf, piV, c, lossT]) <;> (repeat' (first | (refine condD_dec ?_ ?_ <;> (intro hc; (try simp -implicitDefEqProofs [-loopQ_n, hc, hgm, hln, hlast, pmf_s, hf, piV, c, lossT]))) | (refine guardD_dec ?_ ?_ <;> (intro hc; (try simp -implicitDefEqProofs [-loopQ_n, hc, hgm, hln, hlast, pmf_s, hf, piV, c, lossT]))) | (refine condD_intro ?_ ?_ <;> (intro hd; have hc := hd; (try simp at hc) <;> (try simp -implicitDefEqProofs [-loopQ_n, hd, hc, hgm, hln, hlast, pmf_s, hf, piV, c, lossT]))) | (refine guardD_intro ?_ ?_ <;> (intro hd; have hc := hd; (try simp at hc) <;> (try simp -implicitDefEqProofs [-loopQ_n, hd, hc, hgm, hln, hlast, pmf_s, hf, piV, c, lossT]))) | (refine ldD_ep ?_ ?_; (focus kernel_rfl); (try simp -implicitDefEqProofs [-loopQ_n, hgm, hln, hlast, pmf_s, hf, piV, c, lossT])))))
      · have hs := hx.snoc hi he (by rw [hov]; simp [c])
        ((try simp -implicitDefEqProofs [-loopQ_n, hgm, hln, hlast, pmf_s, hf, piV, c]) <;> (repeat' (first | (refine condD_dec ?_ ?_ <;> (intro hc; (try simp -implicitDefEqProofs [-loopQ_n, hc, hgm, hln, hlast, pmf_s, hf, piV, c]))) | (refine guardD_dec ?_ ?_ <;> (intro hc; (try simp -implicitDefEqProofs [-loopQ_n, hc, hgm, hln, hlast, pmf_s, hf, piV, c]))) | (refine condD_intro ?_ ?_ <;> (intro hd; have hc := hd; (try simp at hc) <;> (try simp -implicitDefEqProofs [-loopQ_n, hd, hc, hgm, hln, hlast, pmf_s, hf, piV, c]))) | (refine guardD_intro ?_ ?_ <;> (intro hd; have hc := hd; (try simp at hc) <;> (try simp -implicitDefEqProofs [-loopQ_n, hd, hc, hgm, hln, hlast, pmf_s, hf, piV, c]))) | (refine ldD_ep ?_ ?_; (focus kernel_rfl); (try simp -implicitDefEqProofs [-loopQ_n, hgm, hln, hlast, pmf_s, hf, piV, c])))))
        refine loop_next (x ++ [i]) hs (by have := hs.len; simp at this ⊢; omega) (weak_of 3 0 rfl rfl ?_ ?_) <;> simp [-refsM, pM_refs]
  · intro hall
    have := r2 fun i e he => (hx.2 i (hall i (List.getElem?_eq_some_iff.1 he).1)).2 e he
    subst this
    ((try simp -implicitDefEqProofs [-loopQ_n, w1, lossT]) <;> (repeat' (first | (refine condD_dec ?_ ?_ <;> (intro hc; (try simp -implicitDefEqProofs [-loopQ_n, hc, w1, lossT]))) | (refine guardD_dec ?_ ?_ <;> (intro hc; (try simp -implicitDefEqProofs [-loopQ_n, hc, w1, lossT]))) | (refine condD_intro ?_ ?_ <;> (intro hd; have hc := hd; (try simp at hc) <;> (try simp -implicitDefEqProofs [-loopQ_n, hd, hc, w1, lossT]))) | (refine guardD_intro ?_ ?_ <;> (intro hd; have hc := hd; (try simp at hc) <;> (try simp -implicitDefEqProofs [-loopQ_n, hd, hc, w1, lossT]))) | (refine ldD_ep ?_ ?_; (focus kernel_rfl); (try simp -implicitDefEqProofs [-loopQ_n, w1, lossT])))))
end Go.Proofs.Ytkppfaennogcmaa
