/- The reference's Union, Busy, Most, Waiting. -/
import Derived.Test.YtfbpjlabhckoeaaGreatSpnY
import Derived.Test.YtfbpjlabhckoeaaGreatSpnG
import Derived.Test.YtfbpjlabhckoeaaGreatClk3
import Derived.Test.YtfbpjlabhckoeaaGreatSpnW
namespace Go.Proofs.YtfbpjlabhckoeaaGreat
set_option linter.unusedSimpArgs false
set_option linter.unusedVariables false
set_option linter.unnecessarySimpa false
set_option linter.unusedSectionVars false
open Go.RowKit
variable [Glob]
set_option maxRecDepth 100000
theorem spR_mB {ρ : Nat → Nat} {t : TypeId} {nb : Bool} {l : List Sp} : mB ρ (.row t nb (rowsOf spC l)) = .row t nb (rowsOf spC l) := by
  simp only [mB, rowsOf, List.map_map]
  congr 1
theorem sp_own {l : List Sp} : ∀ r ∈ rowsOf spC l, ∀ c ∈ r, owns c = false := rowsOf_owns' fun s c hc => by simp [spC] at hc; rcases hc with rfl | rfl <;> rfl
/-- The spans that the reference's inner loop has put aside. -/
def UnI (out R : List Sp) (k : Nat) (next : List Sp) (done : Bool) (x : Sp) : Prop :=
  k ≤ out.length ∧ next.length ≤ k + 1 ∧ (done = false → next.length ≤ k) ∧ x.f < x.t ∧
  if done = true then next ++ out.drop k = R ∧ (∀ y ∈ out.drop k, x.t < y.f) else next ++ insU x (out.drop k) = R
set_option maxHeartbeats 16000000 in
theorem runion_pure (l : List Sp) (hv : ∀ s ∈ l, 0 ≤ s.f ∧ s.f < s.t) (hl : l.length ≤ 1000000) : Pure Tryz.prog 28 [.rs (rowsOf spC l)] (.rs (rowsOf spC (unionL l))) := by
  obtain ⟨U, hU⟩ : ∃ U, unionL l = U := ⟨_, rfl⟩
  rw [hU]
  rw [unionL] at hU
  refine pure_of mixed Tryz.func28 rfl (by kernel_rfl) (of_decide_eq_true rfl) (by kernel_rfl) (vc_run ?_)
  ((try simp -implicitDefEqProofs [-loopQ_n]) <;> (repeat' (first | (refine condD_dec ?_ ?_ <;> (intro hc; (try simp -implicitDefEqProofs [-loopQ_n, hc]))) | (refine guardD_dec ?_ ?_ <;> (intro hc; (try simp -implicitDefEqProofs [-loopQ_n, hc]))) | (refine condD_intro ?_ ?_ <;> (intro hd; have hc := hd; (try simp at hc) <;> (try simp -implicitDefEqProofs [-loopQ_n, hd, hc]))) | (refine guardD_intro ?_ ?_ <;> (intro hd; have hc := hd; (try simp at hc) <;> (try simp -implicitDefEqProofs [-loopQ_n, hd, hc]))) | (refine ldD_ep ?_ ?_; (focus kernel_rfl); (try simp -implicitDefEqProofs [-loopQ_n])))))
  refine loop_intro (σ := Nat × List Sp × Bool) (fun x => ⟨[(0, .rs (rowsOf spC l)), (3, .os 0 x.2.1.length), (4, .int .i64 x.1)], [.row 48 x.2.2 (rowsOf spC x.2.1)]⟩)
    (fun x => x.1 ≤ l.length ∧ x.2.1.length ≤ x.1 ∧ gapV (-1) x.2.1 = true ∧ (l.drop x.1).foldl (fun out x => insU x out) x.2.1 = U) (fun x => l.length - x.1) (0, [], true) ⟨by simp, by simp, rfl, by simpa using hU⟩ ?_ ?_
  · refine weak_of 0 1 rfl rfl ?_ ?_ <;> simp [sp_refs, rowsOf_nil]
  clear hU
  rintro ⟨i, out, nb⟩ ⟨hi, hol, hg, hR⟩
  simp only at hi hol hg hR
  by_cases h : i < l.length
  · have w1 := w_succ' h (by omega)
    rw [List.drop_eq_getElem_cons h, List.foldl_cons] at hR
    have hx := hv _ (List.getElem_mem h)
    obtain ⟨⟨f, t⟩, hf⟩ : ∃ e, l[i] = e := ⟨_, rfl⟩
    rw [hf] at hR hx
    simp only at hx
    have hg2 := (insU_spec hg (x := ⟨f, t⟩) (by simp only; omega) hx.2).1
    have hlen2 := insU_len (x := ⟨f, t⟩) (out := out)
    obtain ⟨V, hV⟩ : ∃ V, insU ⟨f, t⟩ out = V := ⟨_, rfl⟩
    rw [hV] at hR hg2 hlen2
    ((try simp -implicitDefEqProofs [-loopQ_n, h, hf, spC]) <;> (repeat' (first | (refine condD_dec ?_ ?_ <;> (intro hc; (try simp -implicitDefEqProofs [-loopQ_n, hc, h, hf, spC]))) | (refine guardD_dec ?_ ?_ <;> (intro hc; (try simp -implicitDefEqProofs [-loopQ_n, hc, h, hf, spC]))) | (refine condD_intro ?_ ?_ <;> (intro hd; have hc := hd; (try simp at hc) <;> (try simp -implicitDefEqProofs [-loopQ_n, hd, hc, h, hf, spC]))) | (refine guardD_intro ?_ ?_ <;> (intro hd; have hc := hd; (try simp at hc) <;> (try simp -implicitDefEqProofs [-loopQ_n, hd, hc, h, hf, spC]))) | (refine ldD_ep ?_ ?_; (focus kernel_rfl); (try simp -implicitDefEqProofs [-loopQ_n, h, hf, spC])))))
    refine loop_intro (σ := Nat × List Sp × Bool × Sp) (fun x => ⟨[(0, .rs (rowsOf spC l)), (3, .os 0 out.length), (4, .int .i64 i), (5, .op 1 0), (6, .os 2 x.2.1.length), (7, .bool x.2.2.1), (8, .int .i64 x.1)], [.row 48 nb (rowsOf spC out), .box 48 [.int .i64 x.2.2.2.f, .int .i64 x.2.2.2.t], .row 48 true (rowsOf spC x.2.1)]⟩)
      (fun x => UnI out V x.1 x.2.1 x.2.2.1 x.2.2.2) (fun x => out.length - x.1) (0, [], false, ⟨f, t⟩) ⟨by simp, by simp, by simp, hx.2, by simpa using hV⟩ ?_ ?_
    · refine weak_of 2 1 rfl rfl ?_ ?_ <;> simp [sp_refs, rowsOf_nil]
    rintro ⟨k, next, done, ⟨xf, xt⟩⟩ ⟨hk, hn, hn2, hxx, hI⟩
    simp only at hk hn hn2 hxx hI
    by_cases g : k < out.length
    · have w2 := w_succ' g (by omega)
      obtain ⟨p, hgp⟩ := gap_drop hg k
      rw [List.drop_eq_getElem_cons g] at hI hgp
      obtain ⟨⟨yf, yt⟩, hy⟩ : ∃ e, out[k] = e := ⟨_, rfl⟩
      rw [hy] at hI hgp
      rw [gapV_cons] at hgp
      simp only at hgp
      have hlt : ∀ z ∈ out.drop (k + 1), yt < z.f := fun z hz => (gapV_mem hgp.2.2 hz).1
      have hn3 : next.length ≤ 1073741822 := by omega
      have hn4 : next.length ≤ 1073741823 := by omega
      cases done with
      | true =>
        simp only [if_true] at hI
        have hxy := hI.2 ⟨yf, yt⟩ (by simp)
        simp only at hxy
        have c1 : ¬ yt < xf := by omega
        have hI2 : next ++ [⟨yf, yt⟩] ++ out.drop (k + 1) = V := by rw [← hI.1]; simp
        have hI3 : ∀ z ∈ out.drop (k + 1), xt < z.f := fun z hz => by have := hlt z hz; omega
        ((try simp -implicitDefEqProofs [-loopQ_n, g, hy, spC, c1, hxy, w2, hn3, hn4, spU_snoc]) <;> (repeat' (first | (refine condD_dec ?_ ?_ <;> (intro hc; (try simp -implicitDefEqProofs [-loopQ_n, hc, g, hy, spC, c1, hxy, w2, hn3, hn4, spU_snoc]))) | (refine guardD_dec ?_ ?_ <;> (intro hc; (try simp -implicitDefEqProofs [-loopQ_n, hc, g, hy, spC, c1, hxy, w2, hn3, hn4, spU_snoc]))) | (refine condD_intro ?_ ?_ <;> (intro hd; have hc := hd; (try simp at hc) <;> (try simp -implicitDefEqProofs [-loopQ_n, hd, hc, g, hy, spC, c1, hxy, w2, hn3, hn4, spU_snoc]))) | (refine guardD_intro ?_ ?_ <;> (intro hd; have hc := hd; (try simp at hc) <;> (try simp -implicitDefEqProofs [-loopQ_n, hd, hc, g, hy, spC, c1, hxy, w2, hn3, hn4, spU_snoc]))) | (refine ldD_ep ?_ ?_; (focus kernel_rfl); (try simp -implicitDefEqProofs [-loopQ_n, g, hy, spC, c1, hxy, w2, hn3, hn4, spU_snoc])))))
        refine loop_next (k + 1, next ++ [⟨yf, yt⟩], true, ⟨xf, xt⟩) ⟨g, by simp; omega, by simp, hxx, by simp only [if_true]; exact ⟨hI2, hI3⟩⟩ (by simp only; omega) (weak_of 3 0 rfl rfl ?_ ?_) <;> simp [sp_refs, w2]
      | false =>
        simp only [Bool.false_eq_true, if_false, insU] at hI
        have hn5 := hn2 rfl
        by_cases c1 : yt < xf
        · rw [if_pos c1] at hI
          ((try simp -implicitDefEqProofs [-loopQ_n, g, hy, spC, c1, w2, hn3, hn4, spU_snoc]) <;> (repeat' (first | (refine condD_dec ?_ ?_ <;> (intro hc; (try simp -implicitDefEqProofs [-loopQ_n, hc, g, hy, spC, c1, w2, hn3, hn4, spU_snoc]))) | (refine guardD_dec ?_ ?_ <;> (intro hc; (try simp -implicitDefEqProofs [-loopQ_n, hc, g, hy, spC, c1, w2, hn3, hn4, spU_snoc]))) | (refine condD_intro ?_ ?_ <;> (intro hd; have hc := hd; (try simp at hc) <;> (try simp -implicitDefEqProofs [-loopQ_n, hd, hc, g, hy, spC, c1, w2, hn3, hn4, spU_snoc]))) | (refine guardD_intro ?_ ?_ <;> (intro hd; have hc := hd; (try simp at hc) <;> (try simp -implicitDefEqProofs [-loopQ_n, hd, hc, g, hy, spC, c1, w2, hn3, hn4, spU_snoc]))) | (refine ldD_ep ?_ ?_; (focus kernel_rfl); (try simp -implicitDefEqProofs [-loopQ_n, g, hy, spC, c1, w2, hn3, hn4, spU_snoc])))))
          refine loop_next (k + 1, next ++ [⟨yf, yt⟩], false, ⟨xf, xt⟩) ⟨g, by simp; omega, by simp; omega, hxx, by simp only [Bool.false_eq_true, if_false]; rw [← hI]; simp⟩ (by simp only; omega) (weak_of 3 0 rfl rfl ?_ ?_) <;> simp [sp_refs, w2]
        · rw [if_neg c1] at hI
          by_cases c2 : xt < yf
          · rw [if_pos c2] at hI
            have hI2 : next ++ [⟨xf, xt⟩] ++ [⟨yf, yt⟩] ++ out.drop (k + 1) = V := by rw [← hI]; simp
            have hI3 : ∀ z ∈ out.drop (k + 1), xt < z.f := fun z hz => by have := hlt z hz; omega
            ((try simp -implicitDefEqProofs [-loopQ_n, g, hy, spC, c1, c2, w2, hn3, hn4, spU_snoc]) <;> (repeat' (first | (refine condD_dec ?_ ?_ <;> (intro hc; (try simp -implicitDefEqProofs [-loopQ_n, hc, g, hy, spC, c1, c2, w2, hn3, hn4, spU_snoc]))) | (refine guardD_dec ?_ ?_ <;> (intro hc; (try simp -implicitDefEqProofs [-loopQ_n, hc, g, hy, spC, c1, c2, w2, hn3, hn4, spU_snoc]))) | (refine condD_intro ?_ ?_ <;> (intro hd; have hc := hd; (try simp at hc) <;> (try simp -implicitDefEqProofs [-loopQ_n, hd, hc, g, hy, spC, c1, c2, w2, hn3, hn4, spU_snoc]))) | (refine guardD_intro ?_ ?_ <;> (intro hd; have hc := hd; (try simp at hc) <;> (try simp -implicitDefEqProofs [-loopQ_n, hd, hc, g, hy, spC, c1, c2, w2, hn3, hn4, spU_snoc]))) | (refine ldD_ep ?_ ?_; (focus kernel_rfl); (try simp -implicitDefEqProofs [-loopQ_n, g, hy, spC, c1, c2, w2, hn3, hn4, spU_snoc])))))
            refine loop_next (k + 1, next ++ [⟨xf, xt⟩, ⟨yf, yt⟩], true, ⟨xf, xt⟩) ⟨g, by simp; omega, by simp, hxx, by simp only [if_true]; exact ⟨by rw [← hI]; simp, hI3⟩⟩ (by simp only; omega) (weak_of 3 0 rfl rfl ?_ ?_) <;> simp [sp_refs, w2]
          · rw [if_neg c2] at hI
            ((try simp -implicitDefEqProofs [-loopQ_n, g, hy, spC, c1, c2, w2]) <;> (repeat' (first | (refine condD_dec ?_ ?_ <;> (intro hc; (try simp -implicitDefEqProofs [-loopQ_n, hc, g, hy, spC, c1, c2, w2]))) | (refine guardD_dec ?_ ?_ <;> (intro hc; (try simp -implicitDefEqProofs [-loopQ_n, hc, g, hy, spC, c1, c2, w2]))) | (refine condD_intro ?_ ?_ <;> (intro hd; have hc := hd; (try simp at hc) <;> (try simp -implicitDefEqProofs [-loopQ_n, hd, hc, g, hy, spC, c1, c2, w2]))) | (refine guardD_intro ?_ ?_ <;> (intro hd; have hc := hd; (try simp at hc) <;> (try simp -implicitDefEqProofs [-loopQ_n, hd, hc, g, hy, spC, c1, c2, w2]))) | (refine ldD_ep ?_ ?_; (focus kernel_rfl); (try simp -implicitDefEqProofs [-loopQ_n, g, hy, spC, c1, c2, w2])))))
            have hj : joinS ⟨xf, xt⟩ ⟨yf, yt⟩ = ⟨if yf < xf then yf else xf, if xt < yt then yt else xt⟩ := by
              have e : (if xf < yf then xf else yf) = if yf < xf then yf else xf := by split <;> split <;> omega
              simp only [joinS, e]
            rw [hj] at hI
            refine loop_next (k + 1, next, false, ⟨if yf < xf then yf else xf, if xt < yt then yt else xt⟩) ⟨g, by simp only; omega, fun _ => by simp only; omega, by simp only; split <;> split <;> omega, by simp only [Bool.false_eq_true, if_false]; exact hI⟩ (by simp only; omega) (weak_of 3 0 rfl rfl ?_ ?_) <;> simp [sp_refs, w2]
    · have hko : k = out.length := by omega
      rw [List.drop_eq_nil_of_le (by omega)] at hI
      have hn4 : next.length ≤ 1073741823 := by omega
      cases done with
      | true =>
        simp only [if_true, List.append_nil] at hI
        obtain ⟨rfl, _⟩ := hI
        ((try simp -implicitDefEqProofs [-loopQ_n, g, w1]) <;> (repeat' (first | (refine condD_dec ?_ ?_ <;> (intro hc; (try simp -implicitDefEqProofs [-loopQ_n, hc, g, w1]))) | (refine guardD_dec ?_ ?_ <;> (intro hc; (try simp -implicitDefEqProofs [-loopQ_n, hc, g, w1]))) | (refine condD_intro ?_ ?_ <;> (intro hd; have hc := hd; (try simp at hc) <;> (try simp -implicitDefEqProofs [-loopQ_n, hd, hc, g, w1]))) | (refine guardD_intro ?_ ?_ <;> (intro hd; have hc := hd; (try simp at hc) <;> (try simp -implicitDefEqProofs [-loopQ_n, hd, hc, g, w1]))) | (refine ldD_ep ?_ ?_; (focus kernel_rfl); (try simp -implicitDefEqProofs [-loopQ_n, g, w1])))))
        refine loop_next (i + 1, next, true) ⟨h, by simp only; omega, hg2, hR⟩ (by simp only; omega) (weak_new 0 2 [] (.row 48 true (rowsOf spC next)) (by simp) (by simp) (by simp) fun ρ h1 h2 => ⟨?_, ?_, ?_⟩)
        · rfl
        · simp [-mB, spR_mB]
        · simp [tEq, w1, mA, h2]
      | false =>
        simp only [Bool.false_eq_true, if_false, insU] at hI
        ((try simp -implicitDefEqProofs [-loopQ_n, g, w1, hn4, spU_snoc]) <;> (repeat' (first | (refine condD_dec ?_ ?_ <;> (intro hc; (try simp -implicitDefEqProofs [-loopQ_n, hc, g, w1, hn4, spU_snoc]))) | (refine guardD_dec ?_ ?_ <;> (intro hc; (try simp -implicitDefEqProofs [-loopQ_n, hc, g, w1, hn4, spU_snoc]))) | (refine condD_intro ?_ ?_ <;> (intro hd; have hc := hd; (try simp at hc) <;> (try simp -implicitDefEqProofs [-loopQ_n, hd, hc, g, w1, hn4, spU_snoc]))) | (refine guardD_intro ?_ ?_ <;> (intro hd; have hc := hd; (try simp at hc) <;> (try simp -implicitDefEqProofs [-loopQ_n, hd, hc, g, w1, hn4, spU_snoc]))) | (refine ldD_ep ?_ ?_; (focus kernel_rfl); (try simp -implicitDefEqProofs [-loopQ_n, g, w1, hn4, spU_snoc])))))
        rw [← hI] at hR hg2 hlen2
        refine loop_next (i + 1, next ++ [⟨xf, xt⟩], true) ⟨h, by simp only; simp only [List.length_append, List.length_singleton] at hlen2 ⊢; omega, hg2, hR⟩ (by simp only; omega) (weak_new 0 2 [] (.row 48 true (rowsOf spC (next ++ [⟨xf, xt⟩]))) (by simp) (by simp) (by simp) fun ρ h1 h2 => ⟨?_, ?_, ?_⟩)
        · rfl
        · simp [-mB, spR_mB]
        · simp [tEq, w1, mA, h2]
  · rw [List.drop_eq_nil_of_le (by omega), List.foldl_nil] at hR
    subst hR
    ((try simp -implicitDefEqProofs [-loopQ_n, h, spU_reify]) <;> (repeat' (first | (refine condD_dec ?_ ?_ <;> (intro hc; (try simp -implicitDefEqProofs [-loopQ_n, hc, h, spU_reify]))) | (refine guardD_dec ?_ ?_ <;> (intro hc; (try simp -implicitDefEqProofs [-loopQ_n, hc, h, spU_reify]))) | (refine condD_intro ?_ ?_ <;> (intro hd; have hc := hd; (try simp at hc) <;> (try simp -implicitDefEqProofs [-loopQ_n, hd, hc, h, spU_reify]))) | (refine guardD_intro ?_ ?_ <;> (intro hd; have hc := hd; (try simp at hc) <;> (try simp -implicitDefEqProofs [-loopQ_n, hd, hc, h, spU_reify]))) | (refine ldD_ep ?_ ?_; (focus kernel_rfl); (try simp -implicitDefEqProofs [-loopQ_n, h, spU_reify])))))
theorem rUnion_pure (l : List Sp) (hl : l.length ≤ 9223372036854775807) : Pure Tryz.prog 7 [.rs (rowsOf spC l)] (spsO (uniR l)) := by
  by_cases h1 : (1000 : Int) < l.length
  · have e : uniR l = ([], 1) := by rw [uniR, if_neg (fun q => by omega)]
    rw [e]
    refine pure_of mixed Tryz.func7 rfl (by kernel_rfl) (of_decide_eq_true rfl) (by kernel_rfl) (vc_run ?_)
    ((try simp -implicitDefEqProofs [-loopQ_n, h1, spsO, rowsOf_nil]) <;> (repeat' (first | (refine condD_dec ?_ ?_ <;> (intro hc; (try simp -implicitDefEqProofs [-loopQ_n, hc, h1, spsO, rowsOf_nil]))) | (refine guardD_dec ?_ ?_ <;> (intro hc; (try simp -implicitDefEqProofs [-loopQ_n, hc, h1, spsO, rowsOf_nil]))) | (refine condD_intro ?_ ?_ <;> (intro hd; have hc := hd; (try simp at hc) <;> (try simp -implicitDefEqProofs [-loopQ_n, hd, hc, h1, spsO, rowsOf_nil]))) | (refine guardD_intro ?_ ?_ <;> (intro hd; have hc := hd; (try simp at hc) <;> (try simp -implicitDefEqProofs [-loopQ_n, hd, hc, h1, spsO, rowsOf_nil]))) | (refine ldD_ep ?_ ?_; (focus kernel_rfl); (try simp -implicitDefEqProofs [-loopQ_n, h1, spsO, rowsOf_nil])))))
  have hl2 : l.length ≤ 1000 := by omega
  obtain ⟨R, hR⟩ : ∃ R, uniR l = R := ⟨_, rfl⟩
  rw [hR]
  rw [uniR] at hR
  refine pure_of mixed Tryz.func7 rfl (by kernel_rfl) (of_decide_eq_true rfl) (by kernel_rfl) (vc_run ?_)
  ((try simp -implicitDefEqProofs [-loopQ_n, h1]) <;> (repeat' (first | (refine condD_dec ?_ ?_ <;> (intro hc; (try simp -implicitDefEqProofs [-loopQ_n, hc, h1]))) | (refine guardD_dec ?_ ?_ <;> (intro hc; (try simp -implicitDefEqProofs [-loopQ_n, hc, h1]))) | (refine condD_intro ?_ ?_ <;> (intro hd; have hc := hd; (try simp at hc) <;> (try simp -implicitDefEqProofs [-loopQ_n, hd, hc, h1]))) | (refine guardD_intro ?_ ?_ <;> (intro hd; have hc := hd; (try simp at hc) <;> (try simp -implicitDefEqProofs [-loopQ_n, hd, hc, h1]))) | (refine ldD_ep ?_ ?_; (focus kernel_rfl); (try simp -implicitDefEqProofs [-loopQ_n, h1])))))
  refine loop_intro (σ := Nat) (fun i => ⟨[(0, .rs (rowsOf spC l)), (4, .int .i64 i)], []⟩) (fun i => i ≤ l.length ∧ ∀ k (hk : k < l.length), k < i → spV l[k] = true) (fun i => l.length - i) 0 ⟨by simp, fun _ _ h => absurd h (Nat.not_lt_zero _)⟩ ?_ ?_
  · refine weak_of 0 0 rfl rfl ?_ ?_ <;> simp [sp_refs]
  rintro i ⟨hi, ha⟩
  by_cases h : i < l.length
  · have w1 := w_succ' h (by omega)
    obtain ⟨⟨f, t⟩, hf⟩ : ∃ e, l[i] = e := ⟨_, rfl⟩
    have hS := rvalidSpan_pure f t
    cases hv : spV ⟨f, t⟩ with
    | true =>
      rw [hv] at hS
      ((try simp -implicitDefEqProofs [-loopQ_n, h, hf, spC, w1]) <;> (repeat' (first | (refine condD_dec ?_ ?_ <;> (intro hc; (try simp -implicitDefEqProofs [-loopQ_n, hc, h, hf, spC, w1]))) | (refine guardD_dec ?_ ?_ <;> (intro hc; (try simp -implicitDefEqProofs [-loopQ_n, hc, h, hf, spC, w1]))) | (refine condD_intro ?_ ?_ <;> (intro hd; have hc := hd; (try simp at hc) <;> (try simp -implicitDefEqProofs [-loopQ_n, hd, hc, h, hf, spC, w1]))) | (refine guardD_intro ?_ ?_ <;> (intro hd; have hc := hd; (try simp at hc) <;> (try simp -implicitDefEqProofs [-loopQ_n, hd, hc, h, hf, spC, w1]))) | (refine ldD_ep ?_ ?_; (focus kernel_rfl); (try simp -implicitDefEqProofs [-loopQ_n, h, hf, spC, w1])) | (refine callS_mk ?_; (try simp -implicitDefEqProofs [-loopQ_n, h, hf, spC, w1]); (first | refine callS_intro (hS) (.inl rfl) ?_); (try simp -implicitDefEqProofs [-loopQ_n, h, hf, spC, w1])))))
      refine loop_next (i + 1) ⟨h, fun k hk hki => ?_⟩ (by omega) (weak_of 0 0 rfl rfl ?_ ?_)
      · by_cases q : k = i
        · subst q; rw [hf]; exact hv
        · exact ha k hk (by omega)
      · simp [sp_refs]
      · simp
    | false =>
      rw [hv] at hS
      have e : R = ([], 1) := by
        rw [← hR, if_neg]
        rintro ⟨_, q⟩
        rw [List.all_eq_true] at q
        have := q l[i] (List.getElem_mem h)
        rw [hf, hv] at this
        cases this
      subst e
      ((try simp -implicitDefEqProofs [-loopQ_n, h, hf, spC, spsO, rowsOf_nil]) <;> (repeat' (first | (refine condD_dec ?_ ?_ <;> (intro hc; (try simp -implicitDefEqProofs [-loopQ_n, hc, h, hf, spC, spsO, rowsOf_nil]))) | (refine guardD_dec ?_ ?_ <;> (intro hc; (try simp -implicitDefEqProofs [-loopQ_n, hc, h, hf, spC, spsO, rowsOf_nil]))) | (refine condD_intro ?_ ?_ <;> (intro hd; have hc := hd; (try simp at hc) <;> (try simp -implicitDefEqProofs [-loopQ_n, hd, hc, h, hf, spC, spsO, rowsOf_nil]))) | (refine guardD_intro ?_ ?_ <;> (intro hd; have hc := hd; (try simp at hc) <;> (try simp -implicitDefEqProofs [-loopQ_n, hd, hc, h, hf, spC, spsO, rowsOf_nil]))) | (refine ldD_ep ?_ ?_; (focus kernel_rfl); (try simp -implicitDefEqProofs [-loopQ_n, h, hf, spC, spsO, rowsOf_nil])) | (refine callS_mk ?_; (try simp -implicitDefEqProofs [-loopQ_n, h, hf, spC, spsO, rowsOf_nil]); (first | refine callS_intro (hS) (.inl rfl) ?_); (try simp -implicitDefEqProofs [-loopQ_n, h, hf, spC, spsO, rowsOf_nil])))))
  · have hall : ∀ s ∈ l, spV s = true := fun s hs => by
      obtain ⟨k, hk, rfl⟩ := List.getElem_of_mem hs
      exact ha k hk (by omega)
    have e : R = (unionL l, 0) := by rw [← hR, if_pos ⟨hl2, List.all_eq_true.2 hall⟩]
    subst e
    have hU := runion_pure l (fun s hs => by have := hall s hs; simp [spV, inst] at this; omega) (by omega)
    ((try simp -implicitDefEqProofs [-loopQ_n, h, spsO]) <;> (repeat' (first | (refine condD_dec ?_ ?_ <;> (intro hc; (try simp -implicitDefEqProofs [-loopQ_n, hc, h, spsO]))) | (refine guardD_dec ?_ ?_ <;> (intro hc; (try simp -implicitDefEqProofs [-loopQ_n, hc, h, spsO]))) | (refine condD_intro ?_ ?_ <;> (intro hd; have hc := hd; (try simp at hc) <;> (try simp -implicitDefEqProofs [-loopQ_n, hd, hc, h, spsO]))) | (refine guardD_intro ?_ ?_ <;> (intro hd; have hc := hd; (try simp at hc) <;> (try simp -implicitDefEqProofs [-loopQ_n, hd, hc, h, spsO]))) | (refine ldD_ep ?_ ?_; (focus kernel_rfl); (try simp -implicitDefEqProofs [-loopQ_n, h, spsO])) | (refine callS_mk ?_; (try simp -implicitDefEqProofs [-loopQ_n, h, spsO]); (first | refine callS_intro (hU) (.inr ⟨rfl, rfl⟩) ?_); (try simp -implicitDefEqProofs [-loopQ_n, h, spsO])))))
theorem ractive_pure (l : List Ins) (t : Int) (hl : l.length ≤ 2000) : Pure Tryz.prog 39 [.rs (rowsOf insC l), .int .i64 t] (.int .i64 (actN (activeL l) t)) := by
  have hact : ∀ x : Ins, ∀ r : List Ins, actN (activeL (x :: r)) t = actN (activeL r) t + if x.from_ ≤ t ∧ t < x.to_ then 1 else 0 := fun x r => by
    unfold actN activeL
    rw [List.filterMap_cons]
    unfold actS
    by_cases h : x.from_ < x.to_
    · simp only [if_pos h, List.countP_cons]
      congr 1
      simp [inS]
    · simp only [if_neg h]
      rw [if_neg (by omega)]; omega
  obtain ⟨R, hRR⟩ : ∃ R, actN (activeL l) t = R := ⟨_, rfl⟩
  rw [hRR]
  refine pure_of mixed Tryz.func39 rfl (by kernel_rfl) (of_decide_eq_true rfl) (by kernel_rfl) (vc_run ?_)
  ((try simp -implicitDefEqProofs [-loopQ_n]) <;> (repeat' (first | (refine condD_dec ?_ ?_ <;> (intro hc; (try simp -implicitDefEqProofs [-loopQ_n, hc]))) | (refine guardD_dec ?_ ?_ <;> (intro hc; (try simp -implicitDefEqProofs [-loopQ_n, hc]))) | (refine condD_intro ?_ ?_ <;> (intro hd; have hc := hd; (try simp at hc) <;> (try simp -implicitDefEqProofs [-loopQ_n, hd, hc]))) | (refine guardD_intro ?_ ?_ <;> (intro hd; have hc := hd; (try simp at hc) <;> (try simp -implicitDefEqProofs [-loopQ_n, hd, hc]))) | (refine ldD_ep ?_ ?_; (focus kernel_rfl); (try simp -implicitDefEqProofs [-loopQ_n])))))
  refine loop_intro (σ := Nat × Nat) (fun x => ⟨[(0, .rs (rowsOf insC l)), (1, .int .i64 t), (5, .int .i64 x.2), (6, .int .i64 x.1)], []⟩) (fun x => x.1 ≤ l.length ∧ x.2 ≤ x.1 ∧ x.2 + actN (activeL (l.drop x.1)) t = R) (fun x => l.length - x.1) (0, 0) ⟨by simp, by simp, by simpa using hRR⟩ ?_ ?_
  · refine weak_of 0 0 rfl rfl ?_ ?_ <;> simp [ins_refs]
  rintro ⟨i, c⟩ ⟨hi, hc, hR⟩
  simp only at hi hc hR
  by_cases h : i < l.length
  · have w1 := w_succ' h (by omega)
    have w2 : wrapI .i64 ((c : Int) + 1) = ((c + 1 : Nat) : Int) := by rw [wrap_in (by omega) (by omega)]; omega
    obtain ⟨⟨cs, a, r, t1, t2, t3⟩, hf⟩ : ∃ e, l[i] = e := ⟨_, rfl⟩
    rw [List.drop_eq_getElem_cons h, hf, hact] at hR
    simp only at hR
    by_cases c1 : t2 ≤ t
    · by_cases c2 : t < t3
      · rw [if_pos ⟨c1, c2⟩] at hR
        ((try simp -implicitDefEqProofs [-loopQ_n, h, hf, insC, c1, c2, w1, w2]) <;> (repeat' (first | (refine condD_dec ?_ ?_ <;> (intro hc; (try simp -implicitDefEqProofs [-loopQ_n, hc, h, hf, insC, c1, c2, w1, w2]))) | (refine guardD_dec ?_ ?_ <;> (intro hc; (try simp -implicitDefEqProofs [-loopQ_n, hc, h, hf, insC, c1, c2, w1, w2]))) | (refine condD_intro ?_ ?_ <;> (intro hd; have hc := hd; (try simp at hc) <;> (try simp -implicitDefEqProofs [-loopQ_n, hd, hc, h, hf, insC, c1, c2, w1, w2]))) | (refine guardD_intro ?_ ?_ <;> (intro hd; have hc := hd; (try simp at hc) <;> (try simp -implicitDefEqProofs [-loopQ_n, hd, hc, h, hf, insC, c1, c2, w1, w2]))) | (refine ldD_ep ?_ ?_; (focus kernel_rfl); (try simp -implicitDefEqProofs [-loopQ_n, h, hf, insC, c1, c2, w1, w2])))))
        refine loop_next (i + 1, c + 1) ⟨h, by simp only; omega, by simp only; omega⟩ (by simp only; omega) (weak_of 0 0 rfl rfl ?_ ?_) <;> simp [ins_refs, w1, w2]
      · rw [if_neg (fun q => c2 q.2)] at hR
        ((try simp -implicitDefEqProofs [-loopQ_n, h, hf, insC, c1, c2, w1, w2]) <;> (repeat' (first | (refine condD_dec ?_ ?_ <;> (intro hc; (try simp -implicitDefEqProofs [-loopQ_n, hc, h, hf, insC, c1, c2, w1, w2]))) | (refine guardD_dec ?_ ?_ <;> (intro hc; (try simp -implicitDefEqProofs [-loopQ_n, hc, h, hf, insC, c1, c2, w1, w2]))) | (refine condD_intro ?_ ?_ <;> (intro hd; have hc := hd; (try simp at hc) <;> (try simp -implicitDefEqProofs [-loopQ_n, hd, hc, h, hf, insC, c1, c2, w1, w2]))) | (refine guardD_intro ?_ ?_ <;> (intro hd; have hc := hd; (try simp at hc) <;> (try simp -implicitDefEqProofs [-loopQ_n, hd, hc, h, hf, insC, c1, c2, w1, w2]))) | (refine ldD_ep ?_ ?_; (focus kernel_rfl); (try simp -implicitDefEqProofs [-loopQ_n, h, hf, insC, c1, c2, w1, w2])))))
        refine loop_next (i + 1, c) ⟨h, by simp only; omega, by simp only; omega⟩ (by simp only; omega) (weak_of 0 0 rfl rfl ?_ ?_) <;> simp [ins_refs, w1, w2]
    · rw [if_neg (fun q => c1 q.1)] at hR
      ((try simp -implicitDefEqProofs [-loopQ_n, h, hf, insC, c1, w1, w2]) <;> (repeat' (first | (refine condD_dec ?_ ?_ <;> (intro hc; (try simp -implicitDefEqProofs [-loopQ_n, hc, h, hf, insC, c1, w1, w2]))) | (refine guardD_dec ?_ ?_ <;> (intro hc; (try simp -implicitDefEqProofs [-loopQ_n, hc, h, hf, insC, c1, w1, w2]))) | (refine condD_intro ?_ ?_ <;> (intro hd; have hc := hd; (try simp at hc) <;> (try simp -implicitDefEqProofs [-loopQ_n, hd, hc, h, hf, insC, c1, w1, w2]))) | (refine guardD_intro ?_ ?_ <;> (intro hd; have hc := hd; (try simp at hc) <;> (try simp -implicitDefEqProofs [-loopQ_n, hd, hc, h, hf, insC, c1, w1, w2]))) | (refine ldD_ep ?_ ?_; (focus kernel_rfl); (try simp -implicitDefEqProofs [-loopQ_n, h, hf, insC, c1, w1, w2])))))
      refine loop_next (i + 1, c) ⟨h, by simp only; omega, by simp only; omega⟩ (by simp only; omega) (weak_of 0 0 rfl rfl ?_ ?_) <;> simp [ins_refs, w1, w2]
  · rw [List.drop_eq_nil_of_le (by omega)] at hR
    simp [activeL, actN] at hR
    subst hR
    ((try simp -implicitDefEqProofs [-loopQ_n, h]) <;> (repeat' (first | (refine condD_dec ?_ ?_ <;> (intro hc; (try simp -implicitDefEqProofs [-loopQ_n, hc, h]))) | (refine guardD_dec ?_ ?_ <;> (intro hc; (try simp -implicitDefEqProofs [-loopQ_n, hc, h]))) | (refine condD_intro ?_ ?_ <;> (intro hd; have hc := hd; (try simp at hc) <;> (try simp -implicitDefEqProofs [-loopQ_n, hd, hc, h]))) | (refine guardD_intro ?_ ?_ <;> (intro hd; have hc := hd; (try simp at hc) <;> (try simp -implicitDefEqProofs [-loopQ_n, hd, hc, h]))) | (refine ldD_ep ?_ ?_; (focus kernel_rfl); (try simp -implicitDefEqProofs [-loopQ_n, h])))))
/-- The reference looks at all instances, those never active too. -/
def lookL (l : List Ins) : Int × Int := (l.map Ins.from_).foldl (stepA (activeL l)) (0, 0)
theorem lookL_eq (l : List Ins) : lookL l = mostL (activeL l) := by
  obtain ⟨e1, e2⟩ := most_uniq (look_most (A := activeL l) (F := l.map Ins.from_) fun s hs => by
    obtain ⟨x, h1, _, rfl⟩ := activeL_mem hs
    exact List.mem_map.2 ⟨x, h1, rfl⟩) (mostL_ok (activeL l))
  exact Prod.ext e1 e2
set_option maxHeartbeats 8000000 in
theorem rmost_pure (l : List Ins) (hl : l.length ≤ 9223372036854775807) : Pure Tryz.prog 11 [.rs (rowsOf insC l)] (mostO (mostR l)) := by
  refine pure_of mixed Tryz.func11 rfl (by kernel_rfl) (of_decide_eq_true rfl) (by kernel_rfl) (vc_run ?_)
  by_cases hV : insL l = true
  rotate_left
  · rw [mostR, if_neg hV]
    have hV : insL l = false := by simpa using hV
    ((try simp -implicitDefEqProofs [-loopQ_n, hV, mostO]) <;> (repeat' (first | (refine condD_dec ?_ ?_ <;> (intro hc; (try simp -implicitDefEqProofs [-loopQ_n, hc, hV, mostO]))) | (refine guardD_dec ?_ ?_ <;> (intro hc; (try simp -implicitDefEqProofs [-loopQ_n, hc, hV, mostO]))) | (refine condD_intro ?_ ?_ <;> (intro hd; have hc := hd; (try simp at hc) <;> (try simp -implicitDefEqProofs [-loopQ_n, hd, hc, hV, mostO]))) | (refine guardD_intro ?_ ?_ <;> (intro hd; have hc := hd; (try simp at hc) <;> (try simp -implicitDefEqProofs [-loopQ_n, hd, hc, hV, mostO]))) | (refine ldD_ep ?_ ?_; (focus kernel_rfl); (try simp -implicitDefEqProofs [-loopQ_n, hV, mostO])) | (refine callS_mk ?_; (try simp -implicitDefEqProofs [-loopQ_n, hV, mostO]); (first | refine callS_intro (rsvalid_pure l hl) (.inl rfl) ?_); (try simp -implicitDefEqProofs [-loopQ_n, hV, mostO])))))
  rw [mostR, if_pos hV, ← lookL_eq]
  obtain ⟨hl2, hm⟩ := insL_mem hV
  obtain ⟨R, hRR⟩ : ∃ R, lookL l = R := ⟨_, rfl⟩
  rw [hRR]
  rw [lookL] at hRR
  have hA := fun t => ractive_pure l t hl2
  generalize activeL l = A at *
  ((try simp -implicitDefEqProofs [-loopQ_n, hV]) <;> (repeat' (first | (refine condD_dec ?_ ?_ <;> (intro hc; (try simp -implicitDefEqProofs [-loopQ_n, hc, hV]))) | (refine guardD_dec ?_ ?_ <;> (intro hc; (try simp -implicitDefEqProofs [-loopQ_n, hc, hV]))) | (refine condD_intro ?_ ?_ <;> (intro hd; have hc := hd; (try simp at hc) <;> (try simp -implicitDefEqProofs [-loopQ_n, hd, hc, hV]))) | (refine guardD_intro ?_ ?_ <;> (intro hd; have hc := hd; (try simp at hc) <;> (try simp -implicitDefEqProofs [-loopQ_n, hd, hc, hV]))) | (refine ldD_ep ?_ ?_; (focus kernel_rfl); (try simp -implicitDefEqProofs [-loopQ_n, hV])) | (refine callS_mk ?_; (try simp -implicitDefEqProofs [-loopQ_n, hV]); (first | refine callS_intro (rsvalid_pure l hl) (.inl rfl) ?_); (try simp -implicitDefEqProofs [-loopQ_n, hV])))))
  refine loop_intro (σ := Nat × Int × Int) (fun x => ⟨[(0, .rs (rowsOf insC l)), (5, .int .i64 x.2.1), (6, .int .i64 x.2.2), (7, .int .i64 x.1)], []⟩) (fun x => x.1 ≤ l.length ∧ ((l.drop x.1).map Ins.from_).foldl (stepA A) x.2 = R) (fun x => l.length - x.1) (0, 0, 0) ⟨by simp, by simpa using hRR⟩ ?_ ?_
  · refine weak_of 0 0 rfl rfl ?_ ?_ <;> simp [ins_refs]
  rintro ⟨i, n, a⟩ ⟨hi, hR⟩
  simp only at hi hR
  by_cases h : i < l.length
  · have w1 := w_succ' h (by omega)
    obtain ⟨⟨cs, ac, r, t1, t2, t3⟩, hf⟩ : ∃ e, l[i] = e := ⟨_, rfl⟩
    rw [List.drop_eq_getElem_cons h, hf, List.map_cons, List.foldl_cons] at hR
    simp only [stepA] at hR
    have hB := hA t2
    generalize (actN A t2 : Int) = v at *
    by_cases c1 : n < v
    · rw [if_pos (.inl c1)] at hR
      ((try simp -implicitDefEqProofs [-loopQ_n, h, hf, insC, c1, w1]) <;> (repeat' (first | (refine condD_dec ?_ ?_ <;> (intro hc; (try simp -implicitDefEqProofs [-loopQ_n, hc, h, hf, insC, c1, w1]))) | (refine guardD_dec ?_ ?_ <;> (intro hc; (try simp -implicitDefEqProofs [-loopQ_n, hc, h, hf, insC, c1, w1]))) | (refine condD_intro ?_ ?_ <;> (intro hd; have hc := hd; (try simp at hc) <;> (try simp -implicitDefEqProofs [-loopQ_n, hd, hc, h, hf, insC, c1, w1]))) | (refine guardD_intro ?_ ?_ <;> (intro hd; have hc := hd; (try simp at hc) <;> (try simp -implicitDefEqProofs [-loopQ_n, hd, hc, h, hf, insC, c1, w1]))) | (refine ldD_ep ?_ ?_; (focus kernel_rfl); (try simp -implicitDefEqProofs [-loopQ_n, h, hf, insC, c1, w1])) | (refine callS_mk ?_; (try simp -implicitDefEqProofs [-loopQ_n, h, hf, insC, c1, w1]); (first | refine callS_intro (hB) (.inl rfl) ?_); (try simp -implicitDefEqProofs [-loopQ_n, h, hf, insC, c1, w1])))))
      refine loop_next (i + 1, v, t2) ⟨h, by rw [List.map_drop] at hR; exact hR⟩ (by simp only; omega) (weak_of 0 0 rfl rfl ?_ ?_) <;> simp [ins_refs, w1]
    · by_cases c2 : v = n
      · subst c2
        by_cases c3 : 0 < v
        · by_cases c4 : t2 < a
          · rw [if_pos (.inr ⟨rfl, c3, c4⟩)] at hR
            ((try simp -implicitDefEqProofs [-loopQ_n, h, hf, insC, c1, c3, c4, w1]) <;> (repeat' (first | (refine condD_dec ?_ ?_ <;> (intro hc; (try simp -implicitDefEqProofs [-loopQ_n, hc, h, hf, insC, c1, c3, c4, w1]))) | (refine guardD_dec ?_ ?_ <;> (intro hc; (try simp -implicitDefEqProofs [-loopQ_n, hc, h, hf, insC, c1, c3, c4, w1]))) | (refine condD_intro ?_ ?_ <;> (intro hd; have hc := hd; (try simp at hc) <;> (try simp -implicitDefEqProofs [-loopQ_n, hd, hc, h, hf, insC, c1, c3, c4, w1]))) | (refine guardD_intro ?_ ?_ <;> (intro hd; have hc := hd; (try simp at hc) <;> (try simp -implicitDefEqProofs [-loopQ_n, hd, hc, h, hf, insC, c1, c3, c4, w1]))) | (refine ldD_ep ?_ ?_; (focus kernel_rfl); (try simp -implicitDefEqProofs [-loopQ_n, h, hf, insC, c1, c3, c4, w1])) | (refine callS_mk ?_; (try simp -implicitDefEqProofs [-loopQ_n, h, hf, insC, c1, c3, c4, w1]); (first | refine callS_intro (hB) (.inl rfl) ?_); (try simp -implicitDefEqProofs [-loopQ_n, h, hf, insC, c1, c3, c4, w1])))))
            refine loop_next (i + 1, v, t2) ⟨h, by rw [List.map_drop] at hR; exact hR⟩ (by simp only; omega) (weak_of 0 0 rfl rfl ?_ ?_) <;> simp [ins_refs, w1]
          · rw [if_neg (fun q => q.elim c1 fun q => c4 q.2.2)] at hR
            ((try simp -implicitDefEqProofs [-loopQ_n, h, hf, insC, c1, c3, c4, w1]) <;> (repeat' (first | (refine condD_dec ?_ ?_ <;> (intro hc; (try simp -implicitDefEqProofs [-loopQ_n, hc, h, hf, insC, c1, c3, c4, w1]))) | (refine guardD_dec ?_ ?_ <;> (intro hc; (try simp -implicitDefEqProofs [-loopQ_n, hc, h, hf, insC, c1, c3, c4, w1]))) | (refine condD_intro ?_ ?_ <;> (intro hd; have hc := hd; (try simp at hc) <;> (try simp -implicitDefEqProofs [-loopQ_n, hd, hc, h, hf, insC, c1, c3, c4, w1]))) | (refine guardD_intro ?_ ?_ <;> (intro hd; have hc := hd; (try simp at hc) <;> (try simp -implicitDefEqProofs [-loopQ_n, hd, hc, h, hf, insC, c1, c3, c4, w1]))) | (refine ldD_ep ?_ ?_; (focus kernel_rfl); (try simp -implicitDefEqProofs [-loopQ_n, h, hf, insC, c1, c3, c4, w1])) | (refine callS_mk ?_; (try simp -implicitDefEqProofs [-loopQ_n, h, hf, insC, c1, c3, c4, w1]); (first | refine callS_intro (hB) (.inl rfl) ?_); (try simp -implicitDefEqProofs [-loopQ_n, h, hf, insC, c1, c3, c4, w1])))))
            refine loop_next (i + 1, v, a) ⟨h, by rw [List.map_drop] at hR; exact hR⟩ (by simp only; omega) (weak_of 0 0 rfl rfl ?_ ?_) <;> simp [ins_refs, w1]
        · rw [if_neg (fun q => q.elim c1 fun q => c3 q.2.1)] at hR
          ((try simp -implicitDefEqProofs [-loopQ_n, h, hf, insC, c1, c3, w1]) <;> (repeat' (first | (refine condD_dec ?_ ?_ <;> (intro hc; (try simp -implicitDefEqProofs [-loopQ_n, hc, h, hf, insC, c1, c3, w1]))) | (refine guardD_dec ?_ ?_ <;> (intro hc; (try simp -implicitDefEqProofs [-loopQ_n, hc, h, hf, insC, c1, c3, w1]))) | (refine condD_intro ?_ ?_ <;> (intro hd; have hc := hd; (try simp at hc) <;> (try simp -implicitDefEqProofs [-loopQ_n, hd, hc, h, hf, insC, c1, c3, w1]))) | (refine guardD_intro ?_ ?_ <;> (intro hd; have hc := hd; (try simp at hc) <;> (try simp -implicitDefEqProofs [-loopQ_n, hd, hc, h, hf, insC, c1, c3, w1]))) | (refine ldD_ep ?_ ?_; (focus kernel_rfl); (try simp -implicitDefEqProofs [-loopQ_n, h, hf, insC, c1, c3, w1])) | (refine callS_mk ?_; (try simp -implicitDefEqProofs [-loopQ_n, h, hf, insC, c1, c3, w1]); (first | refine callS_intro (hB) (.inl rfl) ?_); (try simp -implicitDefEqProofs [-loopQ_n, h, hf, insC, c1, c3, w1])))))
          refine loop_next (i + 1, v, a) ⟨h, by rw [List.map_drop] at hR; exact hR⟩ (by simp only; omega) (weak_of 0 0 rfl rfl ?_ ?_) <;> simp [ins_refs, w1]
      · rw [if_neg (fun q => q.elim c1 fun q => c2 q.1)] at hR
        ((try simp -implicitDefEqProofs [-loopQ_n, h, hf, insC, c1, c2, w1]) <;> (repeat' (first | (refine condD_dec ?_ ?_ <;> (intro hc; (try simp -implicitDefEqProofs [-loopQ_n, hc, h, hf, insC, c1, c2, w1]))) | (refine guardD_dec ?_ ?_ <;> (intro hc; (try simp -implicitDefEqProofs [-loopQ_n, hc, h, hf, insC, c1, c2, w1]))) | (refine condD_intro ?_ ?_ <;> (intro hd; have hc := hd; (try simp at hc) <;> (try simp -implicitDefEqProofs [-loopQ_n, hd, hc, h, hf, insC, c1, c2, w1]))) | (refine guardD_intro ?_ ?_ <;> (intro hd; have hc := hd; (try simp at hc) <;> (try simp -implicitDefEqProofs [-loopQ_n, hd, hc, h, hf, insC, c1, c2, w1]))) | (refine ldD_ep ?_ ?_; (focus kernel_rfl); (try simp -implicitDefEqProofs [-loopQ_n, h, hf, insC, c1, c2, w1])) | (refine callS_mk ?_; (try simp -implicitDefEqProofs [-loopQ_n, h, hf, insC, c1, c2, w1]); (first | refine callS_intro (hB) (.inl rfl) ?_); (try simp -implicitDefEqProofs [-loopQ_n, h, hf, insC, c1, c2, w1])))))
        refine loop_next (i + 1, n, a) ⟨h, by rw [List.map_drop] at hR; exact hR⟩ (by simp only; omega) (weak_of 0 0 rfl rfl ?_ ?_) <;> simp [ins_refs, w1]
  · rw [List.drop_eq_nil_of_le (by omega), List.map_nil, List.foldl_nil] at hR
    subst hR
    ((try simp -implicitDefEqProofs [-loopQ_n, h, mostO]) <;> (repeat' (first | (refine condD_dec ?_ ?_ <;> (intro hc; (try simp -implicitDefEqProofs [-loopQ_n, hc, h, mostO]))) | (refine guardD_dec ?_ ?_ <;> (intro hc; (try simp -implicitDefEqProofs [-loopQ_n, hc, h, mostO]))) | (refine condD_intro ?_ ?_ <;> (intro hd; have hc := hd; (try simp at hc) <;> (try simp -implicitDefEqProofs [-loopQ_n, hd, hc, h, mostO]))) | (refine guardD_intro ?_ ?_ <;> (intro hd; have hc := hd; (try simp at hc) <;> (try simp -implicitDefEqProofs [-loopQ_n, hd, hc, h, mostO]))) | (refine ldD_ep ?_ ?_; (focus kernel_rfl); (try simp -implicitDefEqProofs [-loopQ_n, h, mostO])))))
set_option maxHeartbeats 8000000 in
theorem rwaiting_pure (l : List Ins) (c : List Sp) (hl : l.length ≤ 9223372036854775807) : Pure Tryz.prog 13 [.rs (rowsOf insC l), .agg [.rs (rowsOf spC c)]] (intsO (waitR l c)) := by
  refine pure_of mixed Tryz.func13 rfl (by kernel_rfl) (of_decide_eq_true rfl) (by kernel_rfl) (vc_run ?_)
  by_cases hV : insL l = true
  rotate_left
  · rw [waitR, if_neg (fun q => hV q.1)]
    have hV : insL l = false := by simpa using hV
    ((try simp -implicitDefEqProofs [-loopQ_n, hV, intsO, rowsOf_nil]) <;> (repeat' (first | (refine condD_dec ?_ ?_ <;> (intro hc; (try simp -implicitDefEqProofs [-loopQ_n, hc, hV, intsO, rowsOf_nil]))) | (refine guardD_dec ?_ ?_ <;> (intro hc; (try simp -implicitDefEqProofs [-loopQ_n, hc, hV, intsO, rowsOf_nil]))) | (refine condD_intro ?_ ?_ <;> (intro hd; have hc := hd; (try simp at hc) <;> (try simp -implicitDefEqProofs [-loopQ_n, hd, hc, hV, intsO, rowsOf_nil]))) | (refine guardD_intro ?_ ?_ <;> (intro hd; have hc := hd; (try simp at hc) <;> (try simp -implicitDefEqProofs [-loopQ_n, hd, hc, hV, intsO, rowsOf_nil]))) | (refine ldD_ep ?_ ?_; (focus kernel_rfl); (try simp -implicitDefEqProofs [-loopQ_n, hV, intsO, rowsOf_nil])) | (refine callS_mk ?_; (try simp -implicitDefEqProofs [-loopQ_n, hV, intsO, rowsOf_nil]); (first | refine callS_intro (rsvalid_pure l hl) (.inl rfl) ?_); (try simp -implicitDefEqProofs [-loopQ_n, hV, intsO, rowsOf_nil])))))
  by_cases hC : calOk c = true
  rotate_left
  · rw [waitR, if_neg (fun q => hC q.2)]
    have hC : calOk c = false := by simpa using hC
    ((try simp -implicitDefEqProofs [-loopQ_n, hV, hC, intsO, rowsOf_nil]) <;> (repeat' (first | (refine condD_dec ?_ ?_ <;> (intro hc; (try simp -implicitDefEqProofs [-loopQ_n, hc, hV, hC, intsO, rowsOf_nil]))) | (refine guardD_dec ?_ ?_ <;> (intro hc; (try simp -implicitDefEqProofs [-loopQ_n, hc, hV, hC, intsO, rowsOf_nil]))) | (refine condD_intro ?_ ?_ <;> (intro hd; have hc := hd; (try simp at hc) <;> (try simp -implicitDefEqProofs [-loopQ_n, hd, hc, hV, hC, intsO, rowsOf_nil]))) | (refine guardD_intro ?_ ?_ <;> (intro hd; have hc := hd; (try simp at hc) <;> (try simp -implicitDefEqProofs [-loopQ_n, hd, hc, hV, hC, intsO, rowsOf_nil]))) | (refine ldD_ep ?_ ?_; (focus kernel_rfl); (try simp -implicitDefEqProofs [-loopQ_n, hV, hC, intsO, rowsOf_nil])) | (refine callS_mk ?_; (try simp -implicitDefEqProofs [-loopQ_n, hV, hC, intsO, rowsOf_nil]); (first | refine callS_intro (rsvalid_pure l hl) (.inl rfl) ?_ | refine callS_intro (rvalid_pure c) (.inl rfl) ?_); (try simp -implicitDefEqProofs [-loopQ_n, hV, hC, intsO, rowsOf_nil])))))
  rw [waitR, if_pos ⟨hV, hC⟩]
  obtain ⟨hl2, hm⟩ := insL_mem hV
  obtain ⟨R, hRR⟩ : ∃ R, l.map (wtC c) = R := ⟨_, rfl⟩
  rw [hRR]
  ((try simp -implicitDefEqProofs [-loopQ_n, hV, hC]) <;> (repeat' (first | (refine condD_dec ?_ ?_ <;> (intro hc; (try simp -implicitDefEqProofs [-loopQ_n, hc, hV, hC]))) | (refine guardD_dec ?_ ?_ <;> (intro hc; (try simp -implicitDefEqProofs [-loopQ_n, hc, hV, hC]))) | (refine condD_intro ?_ ?_ <;> (intro hd; have hc := hd; (try simp at hc) <;> (try simp -implicitDefEqProofs [-loopQ_n, hd, hc, hV, hC]))) | (refine guardD_intro ?_ ?_ <;> (intro hd; have hc := hd; (try simp at hc) <;> (try simp -implicitDefEqProofs [-loopQ_n, hd, hc, hV, hC]))) | (refine ldD_ep ?_ ?_; (focus kernel_rfl); (try simp -implicitDefEqProofs [-loopQ_n, hV, hC])) | (refine callS_mk ?_; (try simp -implicitDefEqProofs [-loopQ_n, hV, hC]); (first | refine callS_intro (rsvalid_pure l hl) (.inl rfl) ?_ | refine callS_intro (rvalid_pure c) (.inl rfl) ?_); (try simp -implicitDefEqProofs [-loopQ_n, hV, hC])))))
  refine loop_intro (σ := Nat × List Int) (fun x => ⟨[(0, .rs (rowsOf insC l)), (3, .op 0 0), (6, .os 1 x.2.length), (7, .int .i64 x.1)], [.box 25 [.rs (rowsOf spC c)], .row 3 true (rowsOf intC x.2)]⟩) (fun x => x.1 ≤ l.length ∧ x.2.length = x.1 ∧ x.2 ++ (l.drop x.1).map (wtC c) = R) (fun x => l.length - x.1) (0, []) ⟨by simp, by simp, by simpa using hRR⟩ ?_ ?_
  · refine weak_of 1 1 rfl rfl ?_ ?_ <;> simp [sp_refs, ins_refs, rowsOf_nil]
  rintro ⟨i, acc⟩ ⟨hi, hal, hR⟩
  simp only at hi hal hR
  by_cases h : i < l.length
  · have w1 := w_succ' h (by omega)
    obtain ⟨⟨cs, a, r, t1, t2, t3⟩, hf⟩ : ∃ e, l[i] = e := ⟨_, rfl⟩
    rw [List.drop_eq_getElem_cons h, List.map_cons, hf] at hR
    have hl1 : acc.length ≤ 1073741823 := by omega
    by_cases c1 : t1 < t2
    · have hw : wtC c ⟨cs, a, r, t1, t2, t3⟩ = (workOut c ⟨t1, t2⟩).1 := if_pos c1
      rw [hw] at hR
      ((try simp -implicitDefEqProofs [-loopQ_n, h, hf, insC, c1, w1, hl1, int_snoc]) <;> (repeat' (first | (refine condD_dec ?_ ?_ <;> (intro hc; (try simp -implicitDefEqProofs [-loopQ_n, hc, h, hf, insC, c1, w1, hl1, int_snoc]))) | (refine guardD_dec ?_ ?_ <;> (intro hc; (try simp -implicitDefEqProofs [-loopQ_n, hc, h, hf, insC, c1, w1, hl1, int_snoc]))) | (refine condD_intro ?_ ?_ <;> (intro hd; have hc := hd; (try simp at hc) <;> (try simp -implicitDefEqProofs [-loopQ_n, hd, hc, h, hf, insC, c1, w1, hl1, int_snoc]))) | (refine guardD_intro ?_ ?_ <;> (intro hd; have hc := hd; (try simp at hc) <;> (try simp -implicitDefEqProofs [-loopQ_n, hd, hc, h, hf, insC, c1, w1, hl1, int_snoc]))) | (refine ldD_ep ?_ ?_; (focus kernel_rfl); (try simp -implicitDefEqProofs [-loopQ_n, h, hf, insC, c1, w1, hl1, int_snoc])) | (refine callS_mk ?_; (try simp -implicitDefEqProofs [-loopQ_n, h, hf, insC, c1, w1, hl1, int_snoc]); (first | refine callS_intro (rworking_pure c t1 t2) (.inl rfl) ?_); (try simp -implicitDefEqProofs [-loopQ_n, h, hf, insC, c1, w1, hl1, int_snoc])))))
      refine loop_next (i + 1, acc ++ [(workOut c ⟨t1, t2⟩).1]) ⟨h, by simp; omega, by simpa using hR⟩ (by simp only; omega) (weak_of 2 0 rfl rfl ?_ ?_) <;> simp [sp_refs, int_refs, ins_refs, w1]
    · have hw : wtC c ⟨cs, a, r, t1, t2, t3⟩ = 0 := if_neg c1
      rw [hw] at hR
      ((try simp -implicitDefEqProofs [-loopQ_n, h, hf, insC, c1, w1, hl1, int_snoc]) <;> (repeat' (first | (refine condD_dec ?_ ?_ <;> (intro hc; (try simp -implicitDefEqProofs [-loopQ_n, hc, h, hf, insC, c1, w1, hl1, int_snoc]))) | (refine guardD_dec ?_ ?_ <;> (intro hc; (try simp -implicitDefEqProofs [-loopQ_n, hc, h, hf, insC, c1, w1, hl1, int_snoc]))) | (refine condD_intro ?_ ?_ <;> (intro hd; have hc := hd; (try simp at hc) <;> (try simp -implicitDefEqProofs [-loopQ_n, hd, hc, h, hf, insC, c1, w1, hl1, int_snoc]))) | (refine guardD_intro ?_ ?_ <;> (intro hd; have hc := hd; (try simp at hc) <;> (try simp -implicitDefEqProofs [-loopQ_n, hd, hc, h, hf, insC, c1, w1, hl1, int_snoc]))) | (refine ldD_ep ?_ ?_; (focus kernel_rfl); (try simp -implicitDefEqProofs [-loopQ_n, h, hf, insC, c1, w1, hl1, int_snoc])))))
      refine loop_next (i + 1, acc ++ [0]) ⟨h, by simp; omega, by simpa using hR⟩ (by simp only; omega) (weak_of 2 0 rfl rfl ?_ ?_) <;> simp [sp_refs, int_refs, ins_refs, w1]
  · rw [List.drop_eq_nil_of_le (by omega), List.map_nil, List.append_nil] at hR
    subst hR
    ((try simp -implicitDefEqProofs [-loopQ_n, h, intsO, int_reify]) <;> (repeat' (first | (refine condD_dec ?_ ?_ <;> (intro hc; (try simp -implicitDefEqProofs [-loopQ_n, hc, h, intsO, int_reify]))) | (refine guardD_dec ?_ ?_ <;> (intro hc; (try simp -implicitDefEqProofs [-loopQ_n, hc, h, intsO, int_reify]))) | (refine condD_intro ?_ ?_ <;> (intro hd; have hc := hd; (try simp at hc) <;> (try simp -implicitDefEqProofs [-loopQ_n, hd, hc, h, intsO, int_reify]))) | (refine guardD_intro ?_ ?_ <;> (intro hd; have hc := hd; (try simp at hc) <;> (try simp -implicitDefEqProofs [-loopQ_n, hd, hc, h, intsO, int_reify]))) | (refine ldD_ep ?_ ?_; (focus kernel_rfl); (try simp -implicitDefEqProofs [-loopQ_n, h, intsO, int_reify])))))
set_option maxHeartbeats 16000000 in
theorem rbusy_pure (l : List Ins) (res : ByteArray) (hl : l.length ≤ 9223372036854775807) : Pure Tryz.prog 9 [.rs (rowsOf insC l), .str res] (.tup [.int .i64 (busyR l res).1, .int .i64 (busyR l res).2]) := by
  by_cases hV : insL l = true
  rotate_left
  · rw [busyR, if_neg hV]
    have hV : insL l = false := by simpa using hV
    refine pure_of mixed Tryz.func9 rfl (by kernel_rfl) (of_decide_eq_true rfl) (by kernel_rfl) (vc_run ?_)
    ((try simp -implicitDefEqProofs [-loopQ_n, hV]) <;> (repeat' (first | (refine condD_dec ?_ ?_ <;> (intro hc; (try simp -implicitDefEqProofs [-loopQ_n, hc, hV]))) | (refine guardD_dec ?_ ?_ <;> (intro hc; (try simp -implicitDefEqProofs [-loopQ_n, hc, hV]))) | (refine condD_intro ?_ ?_ <;> (intro hd; have hc := hd; (try simp at hc) <;> (try simp -implicitDefEqProofs [-loopQ_n, hd, hc, hV]))) | (refine guardD_intro ?_ ?_ <;> (intro hd; have hc := hd; (try simp at hc) <;> (try simp -implicitDefEqProofs [-loopQ_n, hd, hc, hV]))) | (refine ldD_ep ?_ ?_; (focus kernel_rfl); (try simp -implicitDefEqProofs [-loopQ_n, hV])) | (refine callS_mk ?_; (try simp -implicitDefEqProofs [-loopQ_n, hV]); (first | refine callS_intro (rsvalid_pure l hl) (.inl rfl) ?_); (try simp -implicitDefEqProofs [-loopQ_n, hV])))))
  rw [busyR, if_pos hV]
  obtain ⟨hl2, hm⟩ := insL_mem hV
  have hF : ∀ x ∈ ofRes res l, insV x = true := fun x hx => hm x (List.mem_filter.1 hx).1
  have hFl : (ofRes res l).length ≤ l.length := List.length_filter_le _ _
  have hok := active_ok hF
  have hM := runion_pure (activeL (ofRes res l)) (fun s hs => by have := hok s hs; omega) (by have := activeL_len (l := ofRes res l); omega)
  have hg := (unionL_spec (l := activeL (ofRes res l)) fun s hs => by have := hok s hs; omega).1
  have hte : ∀ s ∈ unionL (activeL (ofRes res l)), s.t ≤ 1099511627776 := union_end _ _ (fun s hs => (hok s hs).2.2) (by simp)
  have hbd := totL_bd hg hte (by omega)
  have hul : (unionL (activeL (ofRes res l))).length ≤ 2000 := by have := unionL_len (l := activeL (ofRes res l)); have := activeL_len (l := ofRes res l); omega
  obtain ⟨A, hAe⟩ : ∃ A, activeL (ofRes res l) = A := ⟨_, rfl⟩
  rw [hAe] at hM hg hte hbd hul hok ⊢
  generalize unionL A = u at *
  obtain ⟨T, hT⟩ : ∃ T, totL u = T := ⟨_, rfl⟩
  rw [hT] at hbd
  simp only [hT]
  have hstep : ∀ (x : Ins) (r : List Ins), activeL (ofRes res (x :: r)) = (if eqR x.res res = true ∧ x.from_ < x.to_ then [⟨x.from_, x.to_⟩] else []) ++ activeL (ofRes res r) := fun x r => by
    unfold ofRes activeL
    rw [List.filter_cons]
    by_cases e : eqR x.res res = true
    · rw [if_pos e, List.filterMap_cons]
      unfold actS
      by_cases c : x.from_ < x.to_ <;> simp [e, c]
    · rw [if_neg e]; simp [e]
  refine pure_of mixed Tryz.func9 rfl (by kernel_rfl) (of_decide_eq_true rfl) (by kernel_rfl) (vc_run ?_)
  ((try simp -implicitDefEqProofs [-loopQ_n, hV]) <;> (repeat' (first | (refine condD_dec ?_ ?_ <;> (intro hc; (try simp -implicitDefEqProofs [-loopQ_n, hc, hV]))) | (refine guardD_dec ?_ ?_ <;> (intro hc; (try simp -implicitDefEqProofs [-loopQ_n, hc, hV]))) | (refine condD_intro ?_ ?_ <;> (intro hd; have hc := hd; (try simp at hc) <;> (try simp -implicitDefEqProofs [-loopQ_n, hd, hc, hV]))) | (refine guardD_intro ?_ ?_ <;> (intro hd; have hc := hd; (try simp at hc) <;> (try simp -implicitDefEqProofs [-loopQ_n, hd, hc, hV]))) | (refine ldD_ep ?_ ?_; (focus kernel_rfl); (try simp -implicitDefEqProofs [-loopQ_n, hV])) | (refine callS_mk ?_; (try simp -implicitDefEqProofs [-loopQ_n, hV]); (first | refine callS_intro (rsvalid_pure l hl) (.inl rfl) ?_); (try simp -implicitDefEqProofs [-loopQ_n, hV])))))
  refine loop_intro (σ := Nat × List Sp) (fun x => ⟨[(0, .rs (rowsOf insC l)), (1, .str res), (6, .os 0 x.2.length), (7, .int .i64 x.1)], [.row 48 true (rowsOf spC x.2)]⟩) (fun x => x.1 ≤ l.length ∧ x.2.length ≤ x.1 ∧ x.2 ++ activeL (ofRes res (l.drop x.1)) = A) (fun x => l.length - x.1) (0, []) ⟨by simp, by simp, by simpa using hAe⟩ ?_ ?_
  · refine weak_of 0 1 rfl rfl ?_ ?_ <;> simp [ins_refs, sp_refs, rowsOf_nil]
  clear hAe
  rintro ⟨i, acc⟩ ⟨hi, hal, hR⟩
  simp only at hi hal hR
  by_cases h : i < l.length
  · have w1 := w_succ' h (by omega)
    obtain ⟨⟨cs, a, r, t1, t2, t3⟩, hf⟩ : ∃ e, l[i] = e := ⟨_, rfl⟩
    rw [List.drop_eq_getElem_cons h, hf, hstep] at hR
    simp only at hR
    have hl1 : acc.length ≤ 1073741823 := by omega
    by_cases c0 : r.toList = res.toList
    · by_cases c1 : t2 < t3
      · rw [if_pos ⟨by simp [eqR, c0], c1⟩] at hR
        ((try simp -implicitDefEqProofs [-loopQ_n, h, hf, insC, c0, c1, w1, hl1, spU_snoc]) <;> (repeat' (first | (refine condD_dec ?_ ?_ <;> (intro hc; (try simp -implicitDefEqProofs [-loopQ_n, hc, h, hf, insC, c0, c1, w1, hl1, spU_snoc]))) | (refine guardD_dec ?_ ?_ <;> (intro hc; (try simp -implicitDefEqProofs [-loopQ_n, hc, h, hf, insC, c0, c1, w1, hl1, spU_snoc]))) | (refine condD_intro ?_ ?_ <;> (intro hd; have hc := hd; (try simp at hc) <;> (try simp -implicitDefEqProofs [-loopQ_n, hd, hc, h, hf, insC, c0, c1, w1, hl1, spU_snoc]))) | (refine guardD_intro ?_ ?_ <;> (intro hd; have hc := hd; (try simp at hc) <;> (try simp -implicitDefEqProofs [-loopQ_n, hd, hc, h, hf, insC, c0, c1, w1, hl1, spU_snoc]))) | (refine ldD_ep ?_ ?_; (focus kernel_rfl); (try simp -implicitDefEqProofs [-loopQ_n, h, hf, insC, c0, c1, w1, hl1, spU_snoc])))))
        refine loop_next (i + 1, acc ++ [⟨t2, t3⟩]) ⟨h, by simp; omega, by simpa using hR⟩ (by simp only; omega) (weak_of 1 0 rfl rfl ?_ ?_) <;> simp [ins_refs, sp_refs, w1]
      · rw [if_neg (fun q => c1 q.2)] at hR
        ((try simp -implicitDefEqProofs [-loopQ_n, h, hf, insC, c0, c1, w1]) <;> (repeat' (first | (refine condD_dec ?_ ?_ <;> (intro hc; (try simp -implicitDefEqProofs [-loopQ_n, hc, h, hf, insC, c0, c1, w1]))) | (refine guardD_dec ?_ ?_ <;> (intro hc; (try simp -implicitDefEqProofs [-loopQ_n, hc, h, hf, insC, c0, c1, w1]))) | (refine condD_intro ?_ ?_ <;> (intro hd; have hc := hd; (try simp at hc) <;> (try simp -implicitDefEqProofs [-loopQ_n, hd, hc, h, hf, insC, c0, c1, w1]))) | (refine guardD_intro ?_ ?_ <;> (intro hd; have hc := hd; (try simp at hc) <;> (try simp -implicitDefEqProofs [-loopQ_n, hd, hc, h, hf, insC, c0, c1, w1]))) | (refine ldD_ep ?_ ?_; (focus kernel_rfl); (try simp -implicitDefEqProofs [-loopQ_n, h, hf, insC, c0, c1, w1])))))
        refine loop_next (i + 1, acc) ⟨h, by simp only; omega, by simpa using hR⟩ (by simp only; omega) (weak_of 1 0 rfl rfl ?_ ?_) <;> simp [ins_refs, sp_refs, w1]
    · rw [if_neg (fun q => c0 (by simpa [eqR] using q.1))] at hR
      ((try simp -implicitDefEqProofs [-loopQ_n, h, hf, insC, c0, w1]) <;> (repeat' (first | (refine condD_dec ?_ ?_ <;> (intro hc; (try simp -implicitDefEqProofs [-loopQ_n, hc, h, hf, insC, c0, w1]))) | (refine guardD_dec ?_ ?_ <;> (intro hc; (try simp -implicitDefEqProofs [-loopQ_n, hc, h, hf, insC, c0, w1]))) | (refine condD_intro ?_ ?_ <;> (intro hd; have hc := hd; (try simp at hc) <;> (try simp -implicitDefEqProofs [-loopQ_n, hd, hc, h, hf, insC, c0, w1]))) | (refine guardD_intro ?_ ?_ <;> (intro hd; have hc := hd; (try simp at hc) <;> (try simp -implicitDefEqProofs [-loopQ_n, hd, hc, h, hf, insC, c0, w1]))) | (refine ldD_ep ?_ ?_; (focus kernel_rfl); (try simp -implicitDefEqProofs [-loopQ_n, h, hf, insC, c0, w1])))))
      refine loop_next (i + 1, acc) ⟨h, by simp only; omega, by simpa using hR⟩ (by simp only; omega) (weak_of 1 0 rfl rfl ?_ ?_) <;> simp [ins_refs, sp_refs, w1]
  rw [List.drop_eq_nil_of_le (by omega)] at hR
  have hR : acc = A := by simpa [ofRes, activeL] using hR
  subst hR
  ((try simp -implicitDefEqProofs [-loopQ_n, h]) <;> (repeat' (first | (refine condD_dec ?_ ?_ <;> (intro hc; (try simp -implicitDefEqProofs [-loopQ_n, hc, h]))) | (refine guardD_dec ?_ ?_ <;> (intro hc; (try simp -implicitDefEqProofs [-loopQ_n, hc, h]))) | (refine condD_intro ?_ ?_ <;> (intro hd; have hc := hd; (try simp at hc) <;> (try simp -implicitDefEqProofs [-loopQ_n, hd, hc, h]))) | (refine guardD_intro ?_ ?_ <;> (intro hd; have hc := hd; (try simp at hc) <;> (try simp -implicitDefEqProofs [-loopQ_n, hd, hc, h]))) | (refine ldD_ep ?_ ?_; (focus kernel_rfl); (try simp -implicitDefEqProofs [-loopQ_n, h])))))
  refine callG_intro (frz_G (id := 0) hM rfl sp_own ?_ rfl ?_)
  · simp [frL, frA]
  ((try simp -implicitDefEqProofs [-loopQ_n, frH, frB, frL, frA]) <;> (repeat' (first | (refine condD_dec ?_ ?_ <;> (intro hc; (try simp -implicitDefEqProofs [-loopQ_n, hc, frH, frB, frL, frA]))) | (refine guardD_dec ?_ ?_ <;> (intro hc; (try simp -implicitDefEqProofs [-loopQ_n, hc, frH, frB, frL, frA]))) | (refine condD_intro ?_ ?_ <;> (intro hd; have hc := hd; (try simp at hc) <;> (try simp -implicitDefEqProofs [-loopQ_n, hd, hc, frH, frB, frL, frA]))) | (refine guardD_intro ?_ ?_ <;> (intro hd; have hc := hd; (try simp at hc) <;> (try simp -implicitDefEqProofs [-loopQ_n, hd, hc, frH, frB, frL, frA]))) | (refine ldD_ep ?_ ?_; (focus kernel_rfl); (try simp -implicitDefEqProofs [-loopQ_n, frH, frB, frL, frA])))))
  refine loop_intro (σ := Nat × Int) (fun x => ⟨[(8, .int .i64 x.2), (9, .rs (rowsOf spC u)), (10, .int .i64 x.1)], []⟩) (fun x => x.1 ≤ u.length ∧ 0 ≤ x.2 ∧ x.2 + totL (u.drop x.1) = T) (fun x => u.length - x.1) (0, 0) ⟨by simp, by simp, by simpa using hT⟩ ?_ ?_
  · refine weak_of 0 0 rfl rfl ?_ ?_ <;> simp [sp_refs]
  rintro ⟨i, n⟩ ⟨hi, hn, hR⟩
  simp only at hi hn hR
  by_cases h : i < u.length
  · have w1 := w_succ' h (by omega)
    obtain ⟨q, hgq⟩ := gap_drop hg i
    rw [List.drop_eq_getElem_cons h] at hR hgq
    have hm1 := hte u[i] (List.getElem_mem h)
    have hm2 := gapV_mem hg (List.getElem_mem h)
    obtain ⟨⟨f, t⟩, hf⟩ : ∃ e, u[i] = e := ⟨_, rfl⟩
    rw [hf] at hR hgq hm1 hm2
    rw [gapV_cons] at hgq
    have hnn := totL_nn hgq.2.2
    simp only [totL] at hR hm1 hm2
    have w2 : wrapI .i64 (n + t) = n + t := wrap_in (by omega) (by omega)
    have w3 : wrapI .i64 (n + t - f) = n + (t - f) := by rw [wrap_in (by omega) (by omega)]; omega
    ((try simp -implicitDefEqProofs [-loopQ_n, h, hf, spC, w1, w2, w3]) <;> (repeat' (first | (refine condD_dec ?_ ?_ <;> (intro hc; (try simp -implicitDefEqProofs [-loopQ_n, hc, h, hf, spC, w1, w2, w3]))) | (refine guardD_dec ?_ ?_ <;> (intro hc; (try simp -implicitDefEqProofs [-loopQ_n, hc, h, hf, spC, w1, w2, w3]))) | (refine condD_intro ?_ ?_ <;> (intro hd; have hc := hd; (try simp at hc) <;> (try simp -implicitDefEqProofs [-loopQ_n, hd, hc, h, hf, spC, w1, w2, w3]))) | (refine guardD_intro ?_ ?_ <;> (intro hd; have hc := hd; (try simp at hc) <;> (try simp -implicitDefEqProofs [-loopQ_n, hd, hc, h, hf, spC, w1, w2, w3]))) | (refine ldD_ep ?_ ?_; (focus kernel_rfl); (try simp -implicitDefEqProofs [-loopQ_n, h, hf, spC, w1, w2, w3])))))
    refine loop_next (i + 1, n + (t - f)) ⟨h, by simp only; omega, by simp only; omega⟩ (by simp only; omega) (weak_of 0 0 rfl rfl ?_ ?_) <;> simp [sp_refs, w1]
  · rw [List.drop_eq_nil_of_le (by omega), totL] at hR
    have hnT : n = T := by omega
    subst hnT
    ((try simp -implicitDefEqProofs [-loopQ_n, h]) <;> (repeat' (first | (refine condD_dec ?_ ?_ <;> (intro hc; (try simp -implicitDefEqProofs [-loopQ_n, hc, h]))) | (refine guardD_dec ?_ ?_ <;> (intro hc; (try simp -implicitDefEqProofs [-loopQ_n, hc, h]))) | (refine condD_intro ?_ ?_ <;> (intro hd; have hc := hd; (try simp at hc) <;> (try simp -implicitDefEqProofs [-loopQ_n, hd, hc, h]))) | (refine guardD_intro ?_ ?_ <;> (intro hd; have hc := hd; (try simp at hc) <;> (try simp -implicitDefEqProofs [-loopQ_n, hd, hc, h]))) | (refine ldD_ep ?_ ?_; (focus kernel_rfl); (try simp -implicitDefEqProofs [-loopQ_n, h])))))
end Go.Proofs.YtfbpjlabhckoeaaGreat
