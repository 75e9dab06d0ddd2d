/- A decision table without a gap never has ErrGap, one without an overlap has the same outcomes with HitUnique, HitAny and HitFirst, and HitCount counts the hits (the law DecisionComplete holds for every input; no condition). -/
import Derived.Test.YthemglpccpjokaaGreatRows
import Derived.Test.YthemglpccpjokaaGreatDwM
namespace Go.Proofs.YthemglpccpjokaaGreat.lawDCpl
set_option linter.unusedSimpArgs false
set_option linter.unusedVariables false
set_option linter.unnecessarySimpa false
set_option linter.unusedSectionVars false
open Go.ChangeShapes Go.WideShapes Go.ChangeAt Go.RowKit Go.Joins Go.Deep
section
variable [Glob]
set_option maxRecDepth 100000
theorem with_pure (d : Dec) (h : Int) : Pure Tryz.prog 23 [.int .i64 h, .rp (decC d)] (.agg (decC (wH d h))) := by
  refine pure_of mixed Tryz.func23 rfl (by kernel_rfl) (of_decide_eq_true rfl) (by kernel_rfl) (vc_run ?_)
  ((try simp -implicitDefEqProofs [-loopQ_n, decC, wH, rowsOf_nil]) <;> (repeat' (first | ((first | refine condD_dec ?_ ?_ | refine guardD_dec ?_ ?_) <;> (intro hc; (try simp -implicitDefEqProofs [-loopQ_n, hc, decC, wH, rowsOf_nil]))) | ((first | refine condD_intro ?_ ?_ | refine guardD_intro ?_ ?_) <;> (intro hd; have hc := hd; (try simp at hc) <;> (try simp -implicitDefEqProofs [-loopQ_n, hd, hc, decC, wH, rowsOf_nil]))) | (refine ldD_ep ?_ ?_; (focus kernel_rfl); (try simp -implicitDefEqProofs [-loopQ_n, decC, wH, rowsOf_nil])))))
theorem len_iff (l : List Int) : (l.length : Int) = 0 ↔ l.length = 0 := by omega
section
variable {P : Program} {L : Nat} {s : St} {Q : Ex → St → Prop} {k : List Item}
theorem run_q (h : ∀ Q', Q' = Q → run P L k s Q') : run P L k s Q := h Q rfl
end
def hitK (j : Nat) : Int := if j = 0 then 1 else 2
set_option maxHeartbeats 64000000 in
theorem main (d : Dec) (hb : BgD d) : Pure Tryz.prog 5 [.agg (decC d)] (.bool true) := by
  have hf := few_pure d hb
  have haw := awake_pure
  simp only [decC] at hf
  by_cases q : fewB d = true
  rotate_left
  · have q : fewB d = false := by simpa using q
    rw [q] at hf
    refine pure_of mixed Tryz.func5 rfl (by kernel_rfl) (of_decide_eq_true rfl) (by kernel_rfl) (vc_run ?_)
    ((try simp -implicitDefEqProofs [-loopQ_n, decC]) <;> (repeat' (first | ((first | refine condD_dec ?_ ?_ | refine guardD_dec ?_ ?_) <;> (intro hc; (try simp -implicitDefEqProofs [-loopQ_n, hc, decC]))) | ((first | refine condD_intro ?_ ?_ | refine guardD_intro ?_ ?_) <;> (intro hd; have hc := hd; (try simp at hc) <;> (try simp -implicitDefEqProofs [-loopQ_n, hd, hc, decC]))) | ((first | (refine ldD_ep ?_ ?_; (focus kernel_rfl)) | (refine callS_mk ?_; (try simp -implicitDefEqProofs [-loopQ_n, decC]); (first | refine callS_intro (haw) (.inl rfl) ?_ | refine callS_intro (hf) (.inl rfl) ?_))); (try simp -implicitDefEqProofs [-loopQ_n, decC])))))
  rw [q] at hf
  have hs := few_sz q
  have g1 := gap_pure d hs
  have o1 := over_pure d hs
  by_cases h : faultE d = 0
  rotate_left
  · rw [gapO, if_neg h] at g1
    rw [overO, if_neg h] at o1
    simp only [decC] at g1 o1
    refine pure_of mixed Tryz.func5 rfl (by kernel_rfl) (of_decide_eq_true rfl) (by kernel_rfl) (vc_run ?_)
    ((try simp -implicitDefEqProofs [-loopQ_n, decC, h]) <;> (repeat' (first | ((first | refine condD_dec ?_ ?_ | refine guardD_dec ?_ ?_) <;> (intro hc; (try simp -implicitDefEqProofs [-loopQ_n, hc, decC, h]))) | ((first | refine condD_intro ?_ ?_ | refine guardD_intro ?_ ?_) <;> (intro hd; have hc := hd; (try simp at hc) <;> (try simp -implicitDefEqProofs [-loopQ_n, hd, hc, decC, h]))) | ((first | (refine ldD_ep ?_ ?_; (focus kernel_rfl)) | (refine callS_mk ?_; (try simp -implicitDefEqProofs [-loopQ_n, decC, h]); (first | refine callS_intro (haw) (.inl rfl) ?_ | refine callS_intro (hf) (.inl rfl) ?_ | refine callS_intro (g1) (.inr ⟨rfl, rfl⟩) ?_ | refine callS_intro (o1) (.inr ⟨rfl, rfl⟩) ?_))); (try simp -implicitDefEqProofs [-loopQ_n, decC, h])))))
  obtain ⟨hd, _⟩ := faultE_ok h
  have hdm := doms_mem (dec_facts hd).1
  have hfi := rfirst_pure d.inputs hs.1 hdm
  obtain ⟨G, hG⟩ : ∃ G : List Val, gapO d = .tup [.rs (rowsOf valC G), .bool (gapF d).isSome, .int .i64 0] := by
    rw [gapO, if_pos h]
    cases gapF d with
    | none => exact ⟨[], rfl⟩
    | some v => exact ⟨v, rfl⟩
  obtain ⟨O, p1, p2, hO⟩ : ∃ (O : List Val) (p1 p2 : Int), overO d = .tup [.rs (rowsOf valC O), .agg [.int .i64 p1, .int .i64 p2], .bool (overF d).isSome, .int .i64 0] := by
    rw [overO, if_pos h]
    cases overF d with
    | none => exact ⟨[], 0, 0, rfl⟩
    | some v => exact ⟨v, _, _, rfl⟩
  have fa := fun (e : (gapF d).isSome = false) (k : Nat) (hk : k < (allA d.inputs).length) => flag_gap e hk
  have fc := fun (e : (overF d).isSome = false) (k : Nat) (hk : k < (allA d.inputs).length) => flag_over e hk
  have hse := sG_end (d := d)
  generalize (gapF d).isSome = a at hG fa hse
  generalize (overF d).isSome = c at hO fc
  rw [hG] at g1
  rw [hO] at o1
  simp only [decC] at g1 o1
  refine pure_of mixed Tryz.func5 rfl (by kernel_rfl) (of_decide_eq_true rfl) (by kernel_rfl) (vc_run ?_)
  ((try simp -implicitDefEqProofs [-loopQ_n, decC]) <;> (repeat' (first | ((first | refine condD_dec ?_ ?_ | refine guardD_dec ?_ ?_) <;> (intro hc; (try simp -implicitDefEqProofs [-loopQ_n, hc, decC]))) | ((first | refine condD_intro ?_ ?_ | refine guardD_intro ?_ ?_) <;> (intro hd; have hc := hd; (try simp at hc) <;> (try simp -implicitDefEqProofs [-loopQ_n, hd, hc, decC]))) | ((first | (refine ldD_ep ?_ ?_; (focus kernel_rfl)) | (refine callS_mk ?_; (try simp -implicitDefEqProofs [-loopQ_n, decC]); (first | refine callS_intro (haw) (.inl rfl) ?_ | refine callS_intro (hf) (.inl rfl) ?_ | refine callS_intro (g1) (.inr ⟨rfl, rfl⟩) ?_ | refine callS_intro (o1) (.inr ⟨rfl, rfl⟩) ?_ | refine callS_intro (hfi) (.inr ⟨rfl, rfl⟩) ?_))); (try simp -implicitDefEqProofs [-loopQ_n, decC])))))
  refine loop_intro (σ := Nat) (fun k => ⟨[(1, .rp (decC d)), (4, .bool a), (8, .bool c), (10, .fn 23 [.rp (decC d)]), (11, curA d.inputs k), (12, morA d.inputs k), (13, .bool (sG d k))], []⟩)
    (fun k => k ≤ (allA d.inputs).length) (fun k => (allA d.inputs).length - k) 0 (by simp) ?_ ?_
  · refine (weak_frb 0 29 (decC d) rfl (by simp [decC])).trans (weak_of 0 0 rfl rfl ?_ ?_) <;> simp [decC, fbA, fbL, fbH, fbB, cur0 hdm, sG_zero]
  rintro k hk
  by_cases hkl : k < (allA d.inputs).length
  rotate_left
  · rw [show k = (allA d.inputs).length by omega, hse]
    have hkl : ¬ (allA d.inputs).length < (allA d.inputs).length := by omega
    ((try simp -implicitDefEqProofs [-loopQ_n, curA_end hkl, morA_end hkl]) <;> (repeat' (first | ((first | refine condD_dec ?_ ?_ | refine guardD_dec ?_ ?_) <;> (intro hc; (try simp -implicitDefEqProofs [-loopQ_n, hc, curA_end hkl, morA_end hkl]))) | ((first | refine condD_intro ?_ ?_ | refine guardD_intro ?_ ?_) <;> (intro hd; have hc := hd; (try simp at hc) <;> (try simp -implicitDefEqProofs [-loopQ_n, hd, hc, curA_end hkl, morA_end hkl]))) | (refine ldD_ep ?_ ?_; (focus kernel_rfl); (try simp -implicitDefEqProofs [-loopQ_n, curA_end hkl, morA_end hkl])))))
  have fa := fun e => fa e k hkl
  have fc := fun e => fc e k hkl
  have hmem : (allA d.inputs)[k] ∈ allA d.inputs := List.getElem_mem hkl
  have hma := (allA_mem hdm _ hmem).1
  have hvl : (allA d.inputs)[k].length ≤ 1000000 := by have := ass_len hma; have := hs.1; omega
  have hnx := cur_next hs.1 hdm hkl
  have hsn := sG_next hkl
  have hsz : ∀ h : Int, szD (wH d h) := fun h => ⟨hs.1, by simp [wH], hs.2.2.1, hs.2.2.2⟩
  obtain ⟨y0, y9, X, i3, x3, xi, xl, yh⟩ := comp_case hd hmem
  have hh := Hits_pure d (allA d.inputs)[k] hs hvl
  have e9 := Eval_pure (wH d 9) (allA d.inputs)[k] (hsz 9) hvl
  have e3 := Eval_pure (wH d 3) (allA d.inputs)[k] (hsz 3) hvl
  have ehh := fun (h : Int) => Eval_pure (wH d h) (allA d.inputs)[k] (hsz h) hvl
  rw [hitsO, if_pos y0, y0] at hh
  rw [y9] at e9
  rw [x3] at e3
  rw [outA, num_rows] at e9
  simp only [outA] at e3
  have w9 := with_pure d 9
  have w3 := with_pure d 3
  have wh := fun h => with_pure d h
  obtain ⟨v, hv⟩ : ∃ v, (allA d.inputs)[k] = v := ⟨_, rfl⟩
  rw [hv] at hvl hnx hsn y9 x3 xi yh hh e9 e3 fa fc
  simp only [hv] at ehh
  obtain ⟨Hl, hHl⟩ : ∃ x, hitsL d v = x := ⟨_, rfl⟩
  rw [hHl] at hh e9 fa fc xi hsn
  simp only [hHl] at yh
  simp only [decC, wH] at hh e9 e3 w9 w3 wh
  have hn0 : (Hl.length : Int) = 0 ↔ Hl.length = 0 := len_iff Hl
  have hc1 : c = false → ¬ (1 : Int) < Hl.length := fun e => by have := fc e; omega
  have hX := veq_pure X X (by omega) (by omega)
  rw [decide_eq_true rfl] at hX
  have hck : curA d.inputs k = .rs (rowsOf valC v) := by rw [curA_at hkl, hv]
  have hmk := morA_at hkl
  have hstart : i3 = 25 ↔ (Hl.length : Int) = 0 := by rw [xi, hn0]
  have hin : ∀ j : Nat, j < 2 → ∃ (Y : List Val) (e : Int), evalO (wH d (hitK j)) v = (Y, e) ∧ Y.length ≤ 60 ∧ (Hl.length < 2 → e = i3 ∧ Y = X ∧ ¬ e = 26) ∧ (e = 25 → Hl.length = 0) := fun j hj => yh (hitK j) (by unfold hitK; split <;> simp)
  have hsd : sG d (k + 1) = (sG d k || decide ((Hl.length : Int) = 0)) := by rw [hsn]; congr 1; simp
  obtain ⟨s0, hs0⟩ : ∃ b, sG d k = b := ⟨_, rfl⟩
  obtain ⟨s1, hs1⟩ : ∃ b, sG d (k + 1) = b := ⟨_, rfl⟩
  rw [hs0, hs1] at hsd
  rw [hs0]
  refine run_q fun Q' hQ => ?_
  apply cutP
  · intro cont
    rcases Bool.eq_false_or_eq_true s0 with hs0' | hs0'
    · by_cases n0 : (Hl.length : Int) = 0
      · have i25 : i3 = 25 := hstart.2 n0
        have hs1' : s1 = true := by rw [hsd, hs0']; rfl
        rcases Bool.eq_false_or_eq_true c with hcc | hcc
        · skip
          ((try simp -implicitDefEqProofs [-loopQ_n, hck, hmk, decC, hs0', n0, i25, hcc, hn0]) <;> (repeat' (first | ((first | refine condD_dec ?_ ?_ | refine guardD_dec ?_ ?_) <;> (intro hc; (try simp -implicitDefEqProofs [-loopQ_n, hc, hck, hmk, decC, hs0', n0, i25, hcc, hn0]))) | ((first | refine condD_intro ?_ ?_ | refine guardD_intro ?_ ?_) <;> (intro hd; have hc := hd; (try simp at hc) <;> (try simp -implicitDefEqProofs [-loopQ_n, hd, hc, hck, hmk, decC, hs0', n0, i25, hcc, hn0]))) | ((first | (refine ldD_ep ?_ ?_; (focus kernel_rfl)) | (refine callS_mk ?_; (try simp -implicitDefEqProofs [-loopQ_n, hck, hmk, decC, hs0', n0, i25, hcc, hn0]); (first | refine callS_intro (hh) (.inr ⟨rfl, rfl⟩) ?_ | refine callS_intro (w9) (.inr ⟨rfl, rfl⟩) ?_ | refine callS_intro (e9) (.inr ⟨rfl, rfl⟩) ?_ | refine callS_intro (w3) (.inr ⟨rfl, rfl⟩) ?_ | refine callS_intro (e3) (.inr ⟨rfl, rfl⟩) ?_))); (try simp -implicitDefEqProofs [-loopQ_n, hck, hmk, decC, hs0', n0, i25, hcc, hn0])))))
          refine loop_weak (s' := ⟨[(1, .rp (decC d)), (4, .bool a), (8, .bool c), (10, .fn 23 [.rp (decC d)]), (11, .rs (rowsOf valC v)), (13, .bool s1), (14, .rs (rowsOf intC Hl)), (18, .rs (rowsOf valC X)), (19, .int .i64 i3), (113, .rs [[.int .i64 1], [.int .i64 2]]), (114, .int .i64 2), (115, .int .i64 0)], []⟩) ((weak_frz 0 3 false [[.int .i64 1], [.int .i64 2]] rfl (by simp)).trans (weak_of 0 0 rfl rfl ?_ ?_)) cont <;> simp [frH, frB, frL, frA, decC, hcc, hs1', i25]
        · have q1 := hc1 hcc
          ((try simp -implicitDefEqProofs [-loopQ_n, hck, hmk, decC, hs0', n0, i25, hcc, q1, hn0]) <;> (repeat' (first | ((first | refine condD_dec ?_ ?_ | refine guardD_dec ?_ ?_) <;> (intro hc; (try simp -implicitDefEqProofs [-loopQ_n, hc, hck, hmk, decC, hs0', n0, i25, hcc, q1, hn0]))) | ((first | refine condD_intro ?_ ?_ | refine guardD_intro ?_ ?_) <;> (intro hd; have hc := hd; (try simp at hc) <;> (try simp -implicitDefEqProofs [-loopQ_n, hd, hc, hck, hmk, decC, hs0', n0, i25, hcc, q1, hn0]))) | ((first | (refine ldD_ep ?_ ?_; (focus kernel_rfl)) | (refine callS_mk ?_; (try simp -implicitDefEqProofs [-loopQ_n, hck, hmk, decC, hs0', n0, i25, hcc, q1, hn0]); (first | refine callS_intro (hh) (.inr ⟨rfl, rfl⟩) ?_ | refine callS_intro (w9) (.inr ⟨rfl, rfl⟩) ?_ | refine callS_intro (e9) (.inr ⟨rfl, rfl⟩) ?_ | refine callS_intro (w3) (.inr ⟨rfl, rfl⟩) ?_ | refine callS_intro (e3) (.inr ⟨rfl, rfl⟩) ?_))); (try simp -implicitDefEqProofs [-loopQ_n, hck, hmk, decC, hs0', n0, i25, hcc, q1, hn0])))))
          refine loop_weak (s' := ⟨[(1, .rp (decC d)), (4, .bool a), (8, .bool c), (10, .fn 23 [.rp (decC d)]), (11, .rs (rowsOf valC v)), (13, .bool s1), (14, .rs (rowsOf intC Hl)), (18, .rs (rowsOf valC X)), (19, .int .i64 i3), (113, .rs [[.int .i64 1], [.int .i64 2]]), (114, .int .i64 2), (115, .int .i64 0)], []⟩) ((weak_frz 0 3 false [[.int .i64 1], [.int .i64 2]] rfl (by simp)).trans (weak_of 0 0 rfl rfl ?_ ?_)) cont <;> simp [frH, frB, frL, frA, decC, hcc, hs1', i25]
      · have i25 : ¬ i3 = 25 := fun e => n0 (hstart.1 e)
        have hnl : ¬ Hl = [] := fun e => n0 (by rw [e]; rfl)
        have hs1' : s1 = true := by rw [hsd, hs0']; rfl
        rcases Bool.eq_false_or_eq_true c with hcc | hcc
        · skip
          ((try simp -implicitDefEqProofs [-loopQ_n, hck, hmk, decC, hs0', n0, i25, hcc, hnl]) <;> (repeat' (first | ((first | refine condD_dec ?_ ?_ | refine guardD_dec ?_ ?_) <;> (intro hc; (try simp -implicitDefEqProofs [-loopQ_n, hc, hck, hmk, decC, hs0', n0, i25, hcc, hnl]))) | ((first | refine condD_intro ?_ ?_ | refine guardD_intro ?_ ?_) <;> (intro hd; have hc := hd; (try simp at hc) <;> (try simp -implicitDefEqProofs [-loopQ_n, hd, hc, hck, hmk, decC, hs0', n0, i25, hcc, hnl]))) | ((first | (refine ldD_ep ?_ ?_; (focus kernel_rfl)) | (refine callS_mk ?_; (try simp -implicitDefEqProofs [-loopQ_n, hck, hmk, decC, hs0', n0, i25, hcc, hnl]); (first | refine callS_intro (hh) (.inr ⟨rfl, rfl⟩) ?_ | refine callS_intro (w9) (.inr ⟨rfl, rfl⟩) ?_ | refine callS_intro (e9) (.inr ⟨rfl, rfl⟩) ?_ | refine callS_intro (w3) (.inr ⟨rfl, rfl⟩) ?_ | refine callS_intro (e3) (.inr ⟨rfl, rfl⟩) ?_))); (try simp -implicitDefEqProofs [-loopQ_n, hck, hmk, decC, hs0', n0, i25, hcc, hnl])))))
          refine loop_weak (s' := ⟨[(1, .rp (decC d)), (4, .bool a), (8, .bool c), (10, .fn 23 [.rp (decC d)]), (11, .rs (rowsOf valC v)), (13, .bool s1), (14, .rs (rowsOf intC Hl)), (18, .rs (rowsOf valC X)), (19, .int .i64 i3), (113, .rs [[.int .i64 1], [.int .i64 2]]), (114, .int .i64 2), (115, .int .i64 0)], []⟩) ((weak_frz 0 3 false [[.int .i64 1], [.int .i64 2]] rfl (by simp)).trans (weak_of 0 0 rfl rfl ?_ ?_)) cont <;> simp [frH, frB, frL, frA, decC, hcc, hs1', i25]
        · have q1 := hc1 hcc
          ((try simp -implicitDefEqProofs [-loopQ_n, hck, hmk, decC, hs0', n0, i25, hcc, q1, hnl]) <;> (repeat' (first | ((first | refine condD_dec ?_ ?_ | refine guardD_dec ?_ ?_) <;> (intro hc; (try simp -implicitDefEqProofs [-loopQ_n, hc, hck, hmk, decC, hs0', n0, i25, hcc, q1, hnl]))) | ((first | refine condD_intro ?_ ?_ | refine guardD_intro ?_ ?_) <;> (intro hd; have hc := hd; (try simp at hc) <;> (try simp -implicitDefEqProofs [-loopQ_n, hd, hc, hck, hmk, decC, hs0', n0, i25, hcc, q1, hnl]))) | ((first | (refine ldD_ep ?_ ?_; (focus kernel_rfl)) | (refine callS_mk ?_; (try simp -implicitDefEqProofs [-loopQ_n, hck, hmk, decC, hs0', n0, i25, hcc, q1, hnl]); (first | refine callS_intro (hh) (.inr ⟨rfl, rfl⟩) ?_ | refine callS_intro (w9) (.inr ⟨rfl, rfl⟩) ?_ | refine callS_intro (e9) (.inr ⟨rfl, rfl⟩) ?_ | refine callS_intro (w3) (.inr ⟨rfl, rfl⟩) ?_ | refine callS_intro (e3) (.inr ⟨rfl, rfl⟩) ?_))); (try simp -implicitDefEqProofs [-loopQ_n, hck, hmk, decC, hs0', n0, i25, hcc, q1, hnl])))))
          refine loop_weak (s' := ⟨[(1, .rp (decC d)), (4, .bool a), (8, .bool c), (10, .fn 23 [.rp (decC d)]), (11, .rs (rowsOf valC v)), (13, .bool s1), (14, .rs (rowsOf intC Hl)), (18, .rs (rowsOf valC X)), (19, .int .i64 i3), (113, .rs [[.int .i64 1], [.int .i64 2]]), (114, .int .i64 2), (115, .int .i64 0)], []⟩) ((weak_frz 0 3 false [[.int .i64 1], [.int .i64 2]] rfl (by simp)).trans (weak_of 0 0 rfl rfl ?_ ?_)) cont <;> simp [frH, frB, frL, frA, decC, hcc, hs1', i25]
    · by_cases n0 : (Hl.length : Int) = 0
      · have i25 : i3 = 25 := hstart.2 n0
        have hs1' : s1 = true := by rw [hsd, hs0', decide_eq_true n0]; rfl
        rcases Bool.eq_false_or_eq_true c with hcc | hcc
        · skip
          ((try simp -implicitDefEqProofs [-loopQ_n, hck, hmk, decC, hs0', n0, i25, hcc, hn0]) <;> (repeat' (first | ((first | refine condD_dec ?_ ?_ | refine guardD_dec ?_ ?_) <;> (intro hc; (try simp -implicitDefEqProofs [-loopQ_n, hc, hck, hmk, decC, hs0', n0, i25, hcc, hn0]))) | ((first | refine condD_intro ?_ ?_ | refine guardD_intro ?_ ?_) <;> (intro hd; have hc := hd; (try simp at hc) <;> (try simp -implicitDefEqProofs [-loopQ_n, hd, hc, hck, hmk, decC, hs0', n0, i25, hcc, hn0]))) | ((first | (refine ldD_ep ?_ ?_; (focus kernel_rfl)) | (refine callS_mk ?_; (try simp -implicitDefEqProofs [-loopQ_n, hck, hmk, decC, hs0', n0, i25, hcc, hn0]); (first | refine callS_intro (hh) (.inr ⟨rfl, rfl⟩) ?_ | refine callS_intro (w9) (.inr ⟨rfl, rfl⟩) ?_ | refine callS_intro (e9) (.inr ⟨rfl, rfl⟩) ?_ | refine callS_intro (w3) (.inr ⟨rfl, rfl⟩) ?_ | refine callS_intro (e3) (.inr ⟨rfl, rfl⟩) ?_))); (try simp -implicitDefEqProofs [-loopQ_n, hck, hmk, decC, hs0', n0, i25, hcc, hn0])))))
          refine loop_weak (s' := ⟨[(1, .rp (decC d)), (4, .bool a), (8, .bool c), (10, .fn 23 [.rp (decC d)]), (11, .rs (rowsOf valC v)), (13, .bool s1), (14, .rs (rowsOf intC Hl)), (18, .rs (rowsOf valC X)), (19, .int .i64 i3), (113, .rs [[.int .i64 1], [.int .i64 2]]), (114, .int .i64 2), (115, .int .i64 0)], []⟩) ((weak_frz 0 3 false [[.int .i64 1], [.int .i64 2]] rfl (by simp)).trans (weak_of 0 0 rfl rfl ?_ ?_)) cont <;> simp [frH, frB, frL, frA, decC, hcc, hs1', i25]
        · have q1 := hc1 hcc
          ((try simp -implicitDefEqProofs [-loopQ_n, hck, hmk, decC, hs0', n0, i25, hcc, q1, hn0]) <;> (repeat' (first | ((first | refine condD_dec ?_ ?_ | refine guardD_dec ?_ ?_) <;> (intro hc; (try simp -implicitDefEqProofs [-loopQ_n, hc, hck, hmk, decC, hs0', n0, i25, hcc, q1, hn0]))) | ((first | refine condD_intro ?_ ?_ | refine guardD_intro ?_ ?_) <;> (intro hd; have hc := hd; (try simp at hc) <;> (try simp -implicitDefEqProofs [-loopQ_n, hd, hc, hck, hmk, decC, hs0', n0, i25, hcc, q1, hn0]))) | ((first | (refine ldD_ep ?_ ?_; (focus kernel_rfl)) | (refine callS_mk ?_; (try simp -implicitDefEqProofs [-loopQ_n, hck, hmk, decC, hs0', n0, i25, hcc, q1, hn0]); (first | refine callS_intro (hh) (.inr ⟨rfl, rfl⟩) ?_ | refine callS_intro (w9) (.inr ⟨rfl, rfl⟩) ?_ | refine callS_intro (e9) (.inr ⟨rfl, rfl⟩) ?_ | refine callS_intro (w3) (.inr ⟨rfl, rfl⟩) ?_ | refine callS_intro (e3) (.inr ⟨rfl, rfl⟩) ?_))); (try simp -implicitDefEqProofs [-loopQ_n, hck, hmk, decC, hs0', n0, i25, hcc, q1, hn0])))))
          refine loop_weak (s' := ⟨[(1, .rp (decC d)), (4, .bool a), (8, .bool c), (10, .fn 23 [.rp (decC d)]), (11, .rs (rowsOf valC v)), (13, .bool s1), (14, .rs (rowsOf intC Hl)), (18, .rs (rowsOf valC X)), (19, .int .i64 i3), (113, .rs [[.int .i64 1], [.int .i64 2]]), (114, .int .i64 2), (115, .int .i64 0)], []⟩) ((weak_frz 0 3 false [[.int .i64 1], [.int .i64 2]] rfl (by simp)).trans (weak_of 0 0 rfl rfl ?_ ?_)) cont <;> simp [frH, frB, frL, frA, decC, hcc, hs1', i25]
      · have i25 : ¬ i3 = 25 := fun e => n0 (hstart.1 e)
        have hnl : ¬ Hl = [] := fun e => n0 (by rw [e]; rfl)
        have hs1' : s1 = false := by rw [hsd, hs0', decide_eq_false n0]; rfl
        rcases Bool.eq_false_or_eq_true c with hcc | hcc
        · skip
          ((try simp -implicitDefEqProofs [-loopQ_n, hck, hmk, decC, hs0', n0, i25, hcc, hnl]) <;> (repeat' (first | ((first | refine condD_dec ?_ ?_ | refine guardD_dec ?_ ?_) <;> (intro hc; (try simp -implicitDefEqProofs [-loopQ_n, hc, hck, hmk, decC, hs0', n0, i25, hcc, hnl]))) | ((first | refine condD_intro ?_ ?_ | refine guardD_intro ?_ ?_) <;> (intro hd; have hc := hd; (try simp at hc) <;> (try simp -implicitDefEqProofs [-loopQ_n, hd, hc, hck, hmk, decC, hs0', n0, i25, hcc, hnl]))) | ((first | (refine ldD_ep ?_ ?_; (focus kernel_rfl)) | (refine callS_mk ?_; (try simp -implicitDefEqProofs [-loopQ_n, hck, hmk, decC, hs0', n0, i25, hcc, hnl]); (first | refine callS_intro (hh) (.inr ⟨rfl, rfl⟩) ?_ | refine callS_intro (w9) (.inr ⟨rfl, rfl⟩) ?_ | refine callS_intro (e9) (.inr ⟨rfl, rfl⟩) ?_ | refine callS_intro (w3) (.inr ⟨rfl, rfl⟩) ?_ | refine callS_intro (e3) (.inr ⟨rfl, rfl⟩) ?_))); (try simp -implicitDefEqProofs [-loopQ_n, hck, hmk, decC, hs0', n0, i25, hcc, hnl])))))
          refine loop_weak (s' := ⟨[(1, .rp (decC d)), (4, .bool a), (8, .bool c), (10, .fn 23 [.rp (decC d)]), (11, .rs (rowsOf valC v)), (13, .bool s1), (14, .rs (rowsOf intC Hl)), (18, .rs (rowsOf valC X)), (19, .int .i64 i3), (113, .rs [[.int .i64 1], [.int .i64 2]]), (114, .int .i64 2), (115, .int .i64 0)], []⟩) ((weak_frz 0 3 false [[.int .i64 1], [.int .i64 2]] rfl (by simp)).trans (weak_of 0 0 rfl rfl ?_ ?_)) cont <;> simp [frH, frB, frL, frA, decC, hcc, hs1', i25]
        · have q1 := hc1 hcc
          ((try simp -implicitDefEqProofs [-loopQ_n, hck, hmk, decC, hs0', n0, i25, hcc, q1, hnl]) <;> (repeat' (first | ((first | refine condD_dec ?_ ?_ | refine guardD_dec ?_ ?_) <;> (intro hc; (try simp -implicitDefEqProofs [-loopQ_n, hc, hck, hmk, decC, hs0', n0, i25, hcc, q1, hnl]))) | ((first | refine condD_intro ?_ ?_ | refine guardD_intro ?_ ?_) <;> (intro hd; have hc := hd; (try simp at hc) <;> (try simp -implicitDefEqProofs [-loopQ_n, hd, hc, hck, hmk, decC, hs0', n0, i25, hcc, q1, hnl]))) | ((first | (refine ldD_ep ?_ ?_; (focus kernel_rfl)) | (refine callS_mk ?_; (try simp -implicitDefEqProofs [-loopQ_n, hck, hmk, decC, hs0', n0, i25, hcc, q1, hnl]); (first | refine callS_intro (hh) (.inr ⟨rfl, rfl⟩) ?_ | refine callS_intro (w9) (.inr ⟨rfl, rfl⟩) ?_ | refine callS_intro (e9) (.inr ⟨rfl, rfl⟩) ?_ | refine callS_intro (w3) (.inr ⟨rfl, rfl⟩) ?_ | refine callS_intro (e3) (.inr ⟨rfl, rfl⟩) ?_))); (try simp -implicitDefEqProofs [-loopQ_n, hck, hmk, decC, hs0', n0, i25, hcc, q1, hnl])))))
          refine loop_weak (s' := ⟨[(1, .rp (decC d)), (4, .bool a), (8, .bool c), (10, .fn 23 [.rp (decC d)]), (11, .rs (rowsOf valC v)), (13, .bool s1), (14, .rs (rowsOf intC Hl)), (18, .rs (rowsOf valC X)), (19, .int .i64 i3), (113, .rs [[.int .i64 1], [.int .i64 2]]), (114, .int .i64 2), (115, .int .i64 0)], []⟩) ((weak_frz 0 3 false [[.int .i64 1], [.int .i64 2]] rfl (by simp)).trans (weak_of 0 0 rfl rfl ?_ ?_)) cont <;> simp [frH, frB, frL, frA, decC, hcc, hs1', i25]
  refine loop_intro (σ := Nat) (fun j => ⟨[(1, .rp (decC d)), (4, .bool a), (8, .bool c), (10, .fn 23 [.rp (decC d)]), (11, .rs (rowsOf valC v)), (13, .bool s1), (14, .rs (rowsOf intC Hl)), (18, .rs (rowsOf valC X)), (19, .int .i64 i3), (113, .rs [[.int .i64 1], [.int .i64 2]]), (114, .int .i64 2), (115, .int .i64 j)], []⟩)
    (fun j => j ≤ 2) (fun j => 2 - j) 0 (by simp) ?_ ?_
  · refine weak_of 0 0 rfl rfl ?_ ?_ <;> simp [decC]
  rintro j hj
  by_cases g : j < 2
  rotate_left
  · have e2 : j = 2 := by omega
    subst e2
    ((try simp -implicitDefEqProofs [-loopQ_n, decC]) <;> (repeat' (first | ((first | refine condD_dec ?_ ?_ | refine guardD_dec ?_ ?_) <;> (intro hc; (try simp -implicitDefEqProofs [-loopQ_n, hc, decC]))) | ((first | refine condD_intro ?_ ?_ | refine guardD_intro ?_ ?_) <;> (intro hd; have hc := hd; (try simp at hc) <;> (try simp -implicitDefEqProofs [-loopQ_n, hd, hc, decC]))) | ((first | (refine ldD_ep ?_ ?_; (focus kernel_rfl)) | (refine callS_mk ?_; (try simp -implicitDefEqProofs [-loopQ_n, decC]); (first | refine callS_intro (hnx) (.inr ⟨rfl, rfl⟩) ?_))); (try simp -implicitDefEqProofs [-loopQ_n, decC])))))
    subst hQ
    refine loop_next (k + 1) (by omega) (by omega) (weak_of 0 0 rfl rfl ?_ ?_) <;> simp [decC, curA_refs, morA_refs, hs1]
  obtain ⟨Y, e, ye, yl, y2, y25⟩ := hin j g
  have eh := ehh (hitK j)
  have wj := wh (hitK j)
  rw [ye] at eh
  simp only [outA, decC, wH] at eh
  have hl2 : (Hl.length : Int) < 2 ↔ Hl.length < 2 := by omega
  have hj2 : j = 0 ∨ j = 1 := by omega
  rcases hj2 with rfl | rfl
  · have hk : hitK 0 = 1 := rfl
    rw [hk] at eh wj
    have w2 : wrapI .i64 (0 + 1) = 1 := wrap_in (by omega) (by omega)
    have w2' : wrapI .i64 1 = 1 := wrap_in (by omega) (by omega)
    rcases Bool.eq_false_or_eq_true c with hcc | hcc
    · rcases Bool.eq_false_or_eq_true a with haa | haa
      · skip
        by_cases n2 : (Hl.length : Int) < 2
        · have n26 := (y2 (hl2.1 n2)).2.2
          ((try simp -implicitDefEqProofs [-loopQ_n, decC, w2, w2', hcc, haa, n2, n26]) <;> (repeat' (first | ((first | refine condD_dec ?_ ?_ | refine guardD_dec ?_ ?_) <;> (intro hc; (try simp -implicitDefEqProofs [-loopQ_n, hc, decC, w2, w2', hcc, haa, n2, n26]))) | ((first | refine condD_intro ?_ ?_ | refine guardD_intro ?_ ?_) <;> (intro hd; have hc := hd; (try simp at hc) <;> (try simp -implicitDefEqProofs [-loopQ_n, hd, hc, decC, w2, w2', hcc, haa, n2, n26]))) | ((first | (refine ldD_ep ?_ ?_; (focus kernel_rfl)) | (refine callS_mk ?_; (try simp -implicitDefEqProofs [-loopQ_n, decC, w2, w2', hcc, haa, n2, n26]); (first | refine callS_intro (wj) (.inr ⟨rfl, rfl⟩) ?_ | refine callS_intro (eh) (.inr ⟨rfl, rfl⟩) ?_))); (try simp -implicitDefEqProofs [-loopQ_n, decC, w2, w2', hcc, haa, n2, n26])))))
          refine loop_next 1 (by omega) (by omega) (weak_of 0 0 rfl rfl ?_ ?_) <;> simp [w2, decC, hcc, haa]
        · skip
          ((try simp -implicitDefEqProofs [-loopQ_n, decC, w2, w2', hcc, haa, n2]) <;> (repeat' (first | ((first | refine condD_dec ?_ ?_ | refine guardD_dec ?_ ?_) <;> (intro hc; (try simp -implicitDefEqProofs [-loopQ_n, hc, decC, w2, w2', hcc, haa, n2]))) | ((first | refine condD_intro ?_ ?_ | refine guardD_intro ?_ ?_) <;> (intro hd; have hc := hd; (try simp at hc) <;> (try simp -implicitDefEqProofs [-loopQ_n, hd, hc, decC, w2, w2', hcc, haa, n2]))) | ((first | (refine ldD_ep ?_ ?_; (focus kernel_rfl)) | (refine callS_mk ?_; (try simp -implicitDefEqProofs [-loopQ_n, decC, w2, w2', hcc, haa, n2]); (first | refine callS_intro (wj) (.inr ⟨rfl, rfl⟩) ?_ | refine callS_intro (eh) (.inr ⟨rfl, rfl⟩) ?_))); (try simp -implicitDefEqProofs [-loopQ_n, decC, w2, w2', hcc, haa, n2])))))
          refine loop_next 1 (by omega) (by omega) (weak_of 0 0 rfl rfl ?_ ?_) <;> simp [w2, decC, hcc, haa]
      · have n25 : ¬ e = 25 := fun q => fa haa (y25 q)
        by_cases n2 : (Hl.length : Int) < 2
        · have n26 := (y2 (hl2.1 n2)).2.2
          ((try simp -implicitDefEqProofs [-loopQ_n, decC, w2, w2', hcc, haa, n2, n26, n25]) <;> (repeat' (first | ((first | refine condD_dec ?_ ?_ | refine guardD_dec ?_ ?_) <;> (intro hc; (try simp -implicitDefEqProofs [-loopQ_n, hc, decC, w2, w2', hcc, haa, n2, n26, n25]))) | ((first | refine condD_intro ?_ ?_ | refine guardD_intro ?_ ?_) <;> (intro hd; have hc := hd; (try simp at hc) <;> (try simp -implicitDefEqProofs [-loopQ_n, hd, hc, decC, w2, w2', hcc, haa, n2, n26, n25]))) | ((first | (refine ldD_ep ?_ ?_; (focus kernel_rfl)) | (refine callS_mk ?_; (try simp -implicitDefEqProofs [-loopQ_n, decC, w2, w2', hcc, haa, n2, n26, n25]); (first | refine callS_intro (wj) (.inr ⟨rfl, rfl⟩) ?_ | refine callS_intro (eh) (.inr ⟨rfl, rfl⟩) ?_))); (try simp -implicitDefEqProofs [-loopQ_n, decC, w2, w2', hcc, haa, n2, n26, n25])))))
          refine loop_next 1 (by omega) (by omega) (weak_of 0 0 rfl rfl ?_ ?_) <;> simp [w2, decC, hcc, haa]
        · skip
          ((try simp -implicitDefEqProofs [-loopQ_n, decC, w2, w2', hcc, haa, n2, n25]) <;> (repeat' (first | ((first | refine condD_dec ?_ ?_ | refine guardD_dec ?_ ?_) <;> (intro hc; (try simp -implicitDefEqProofs [-loopQ_n, hc, decC, w2, w2', hcc, haa, n2, n25]))) | ((first | refine condD_intro ?_ ?_ | refine guardD_intro ?_ ?_) <;> (intro hd; have hc := hd; (try simp at hc) <;> (try simp -implicitDefEqProofs [-loopQ_n, hd, hc, decC, w2, w2', hcc, haa, n2, n25]))) | ((first | (refine ldD_ep ?_ ?_; (focus kernel_rfl)) | (refine callS_mk ?_; (try simp -implicitDefEqProofs [-loopQ_n, decC, w2, w2', hcc, haa, n2, n25]); (first | refine callS_intro (wj) (.inr ⟨rfl, rfl⟩) ?_ | refine callS_intro (eh) (.inr ⟨rfl, rfl⟩) ?_))); (try simp -implicitDefEqProofs [-loopQ_n, decC, w2, w2', hcc, haa, n2, n25])))))
          refine loop_next 1 (by omega) (by omega) (weak_of 0 0 rfl rfl ?_ ?_) <;> simp [w2, decC, hcc, haa]
    · have n2' := fc hcc
      have n2 : (Hl.length : Int) < 2 := hl2.2 n2'
      obtain ⟨re, rY, n26⟩ := y2 n2'
      rw [re, rY] at eh
      rw [re] at n26 y25
      rcases Bool.eq_false_or_eq_true a with haa | haa
      · skip
        ((try simp -implicitDefEqProofs [-loopQ_n, decC, w2, w2', hcc, haa, n2, n26]) <;> (repeat' (first | ((first | refine condD_dec ?_ ?_ | refine guardD_dec ?_ ?_) <;> (intro hc; (try simp -implicitDefEqProofs [-loopQ_n, hc, decC, w2, w2', hcc, haa, n2, n26]))) | ((first | refine condD_intro ?_ ?_ | refine guardD_intro ?_ ?_) <;> (intro hd; have hc := hd; (try simp at hc) <;> (try simp -implicitDefEqProofs [-loopQ_n, hd, hc, decC, w2, w2', hcc, haa, n2, n26]))) | ((first | (refine ldD_ep ?_ ?_; (focus kernel_rfl)) | (refine callS_mk ?_; (try simp -implicitDefEqProofs [-loopQ_n, decC, w2, w2', hcc, haa, n2, n26]); (first | refine callS_intro (wj) (.inr ⟨rfl, rfl⟩) ?_ | refine callS_intro (eh) (.inr ⟨rfl, rfl⟩) ?_ | refine callS_intro (hX) (.inl rfl) ?_))); (try simp -implicitDefEqProofs [-loopQ_n, decC, w2, w2', hcc, haa, n2, n26])))))
        refine loop_next 1 (by omega) (by omega) (weak_of 0 0 rfl rfl ?_ ?_) <;> simp [w2, decC, hcc, haa]
      · have n25 : ¬ i3 = 25 := fun q => fa haa (y25 q)
        ((try simp -implicitDefEqProofs [-loopQ_n, decC, w2, w2', hcc, haa, n2, n26, n25]) <;> (repeat' (first | ((first | refine condD_dec ?_ ?_ | refine guardD_dec ?_ ?_) <;> (intro hc; (try simp -implicitDefEqProofs [-loopQ_n, hc, decC, w2, w2', hcc, haa, n2, n26, n25]))) | ((first | refine condD_intro ?_ ?_ | refine guardD_intro ?_ ?_) <;> (intro hd; have hc := hd; (try simp at hc) <;> (try simp -implicitDefEqProofs [-loopQ_n, hd, hc, decC, w2, w2', hcc, haa, n2, n26, n25]))) | ((first | (refine ldD_ep ?_ ?_; (focus kernel_rfl)) | (refine callS_mk ?_; (try simp -implicitDefEqProofs [-loopQ_n, decC, w2, w2', hcc, haa, n2, n26, n25]); (first | refine callS_intro (wj) (.inr ⟨rfl, rfl⟩) ?_ | refine callS_intro (eh) (.inr ⟨rfl, rfl⟩) ?_ | refine callS_intro (hX) (.inl rfl) ?_))); (try simp -implicitDefEqProofs [-loopQ_n, decC, w2, w2', hcc, haa, n2, n26, n25])))))
        refine loop_next 1 (by omega) (by omega) (weak_of 0 0 rfl rfl ?_ ?_) <;> simp [w2, decC, hcc, haa]
  · have hk : hitK 1 = 2 := rfl
    rw [hk] at eh wj
    have w2 : wrapI .i64 (1 + 1) = 2 := wrap_in (by omega) (by omega)
    have w2' : wrapI .i64 2 = 2 := wrap_in (by omega) (by omega)
    rcases Bool.eq_false_or_eq_true c with hcc | hcc
    · rcases Bool.eq_false_or_eq_true a with haa | haa
      · skip
        by_cases n2 : (Hl.length : Int) < 2
        · have n26 := (y2 (hl2.1 n2)).2.2
          ((try simp -implicitDefEqProofs [-loopQ_n, decC, w2, w2', hcc, haa, n2, n26]) <;> (repeat' (first | ((first | refine condD_dec ?_ ?_ | refine guardD_dec ?_ ?_) <;> (intro hc; (try simp -implicitDefEqProofs [-loopQ_n, hc, decC, w2, w2', hcc, haa, n2, n26]))) | ((first | refine condD_intro ?_ ?_ | refine guardD_intro ?_ ?_) <;> (intro hd; have hc := hd; (try simp at hc) <;> (try simp -implicitDefEqProofs [-loopQ_n, hd, hc, decC, w2, w2', hcc, haa, n2, n26]))) | ((first | (refine ldD_ep ?_ ?_; (focus kernel_rfl)) | (refine callS_mk ?_; (try simp -implicitDefEqProofs [-loopQ_n, decC, w2, w2', hcc, haa, n2, n26]); (first | refine callS_intro (wj) (.inr ⟨rfl, rfl⟩) ?_ | refine callS_intro (eh) (.inr ⟨rfl, rfl⟩) ?_))); (try simp -implicitDefEqProofs [-loopQ_n, decC, w2, w2', hcc, haa, n2, n26])))))
          refine loop_next 2 (by omega) (by omega) (weak_of 0 0 rfl rfl ?_ ?_) <;> simp [w2, decC, hcc, haa]
        · skip
          ((try simp -implicitDefEqProofs [-loopQ_n, decC, w2, w2', hcc, haa, n2]) <;> (repeat' (first | ((first | refine condD_dec ?_ ?_ | refine guardD_dec ?_ ?_) <;> (intro hc; (try simp -implicitDefEqProofs [-loopQ_n, hc, decC, w2, w2', hcc, haa, n2]))) | ((first | refine condD_intro ?_ ?_ | refine guardD_intro ?_ ?_) <;> (intro hd; have hc := hd; (try simp at hc) <;> (try simp -implicitDefEqProofs [-loopQ_n, hd, hc, decC, w2, w2', hcc, haa, n2]))) | ((first | (refine ldD_ep ?_ ?_; (focus kernel_rfl)) | (refine callS_mk ?_; (try simp -implicitDefEqProofs [-loopQ_n, decC, w2, w2', hcc, haa, n2]); (first | refine callS_intro (wj) (.inr ⟨rfl, rfl⟩) ?_ | refine callS_intro (eh) (.inr ⟨rfl, rfl⟩) ?_))); (try simp -implicitDefEqProofs [-loopQ_n, decC, w2, w2', hcc, haa, n2])))))
          refine loop_next 2 (by omega) (by omega) (weak_of 0 0 rfl rfl ?_ ?_) <;> simp [w2, decC, hcc, haa]
      · have n25 : ¬ e = 25 := fun q => fa haa (y25 q)
        by_cases n2 : (Hl.length : Int) < 2
        · have n26 := (y2 (hl2.1 n2)).2.2
          ((try simp -implicitDefEqProofs [-loopQ_n, decC, w2, w2', hcc, haa, n2, n26, n25]) <;> (repeat' (first | ((first | refine condD_dec ?_ ?_ | refine guardD_dec ?_ ?_) <;> (intro hc; (try simp -implicitDefEqProofs [-loopQ_n, hc, decC, w2, w2', hcc, haa, n2, n26, n25]))) | ((first | refine condD_intro ?_ ?_ | refine guardD_intro ?_ ?_) <;> (intro hd; have hc := hd; (try simp at hc) <;> (try simp -implicitDefEqProofs [-loopQ_n, hd, hc, decC, w2, w2', hcc, haa, n2, n26, n25]))) | ((first | (refine ldD_ep ?_ ?_; (focus kernel_rfl)) | (refine callS_mk ?_; (try simp -implicitDefEqProofs [-loopQ_n, decC, w2, w2', hcc, haa, n2, n26, n25]); (first | refine callS_intro (wj) (.inr ⟨rfl, rfl⟩) ?_ | refine callS_intro (eh) (.inr ⟨rfl, rfl⟩) ?_))); (try simp -implicitDefEqProofs [-loopQ_n, decC, w2, w2', hcc, haa, n2, n26, n25])))))
          refine loop_next 2 (by omega) (by omega) (weak_of 0 0 rfl rfl ?_ ?_) <;> simp [w2, decC, hcc, haa]
        · skip
          ((try simp -implicitDefEqProofs [-loopQ_n, decC, w2, w2', hcc, haa, n2, n25]) <;> (repeat' (first | ((first | refine condD_dec ?_ ?_ | refine guardD_dec ?_ ?_) <;> (intro hc; (try simp -implicitDefEqProofs [-loopQ_n, hc, decC, w2, w2', hcc, haa, n2, n25]))) | ((first | refine condD_intro ?_ ?_ | refine guardD_intro ?_ ?_) <;> (intro hd; have hc := hd; (try simp at hc) <;> (try simp -implicitDefEqProofs [-loopQ_n, hd, hc, decC, w2, w2', hcc, haa, n2, n25]))) | ((first | (refine ldD_ep ?_ ?_; (focus kernel_rfl)) | (refine callS_mk ?_; (try simp -implicitDefEqProofs [-loopQ_n, decC, w2, w2', hcc, haa, n2, n25]); (first | refine callS_intro (wj) (.inr ⟨rfl, rfl⟩) ?_ | refine callS_intro (eh) (.inr ⟨rfl, rfl⟩) ?_))); (try simp -implicitDefEqProofs [-loopQ_n, decC, w2, w2', hcc, haa, n2, n25])))))
          refine loop_next 2 (by omega) (by omega) (weak_of 0 0 rfl rfl ?_ ?_) <;> simp [w2, decC, hcc, haa]
    · have n2' := fc hcc
      have n2 : (Hl.length : Int) < 2 := hl2.2 n2'
      obtain ⟨re, rY, n26⟩ := y2 n2'
      rw [re, rY] at eh
      rw [re] at n26 y25
      rcases Bool.eq_false_or_eq_true a with haa | haa
      · skip
        ((try simp -implicitDefEqProofs [-loopQ_n, decC, w2, w2', hcc, haa, n2, n26]) <;> (repeat' (first | ((first | refine condD_dec ?_ ?_ | refine guardD_dec ?_ ?_) <;> (intro hc; (try simp -implicitDefEqProofs [-loopQ_n, hc, decC, w2, w2', hcc, haa, n2, n26]))) | ((first | refine condD_intro ?_ ?_ | refine guardD_intro ?_ ?_) <;> (intro hd; have hc := hd; (try simp at hc) <;> (try simp -implicitDefEqProofs [-loopQ_n, hd, hc, decC, w2, w2', hcc, haa, n2, n26]))) | ((first | (refine ldD_ep ?_ ?_; (focus kernel_rfl)) | (refine callS_mk ?_; (try simp -implicitDefEqProofs [-loopQ_n, decC, w2, w2', hcc, haa, n2, n26]); (first | refine callS_intro (wj) (.inr ⟨rfl, rfl⟩) ?_ | refine callS_intro (eh) (.inr ⟨rfl, rfl⟩) ?_ | refine callS_intro (hX) (.inl rfl) ?_))); (try simp -implicitDefEqProofs [-loopQ_n, decC, w2, w2', hcc, haa, n2, n26])))))
        refine loop_next 2 (by omega) (by omega) (weak_of 0 0 rfl rfl ?_ ?_) <;> simp [w2, decC, hcc, haa]
      · have n25 : ¬ i3 = 25 := fun q => fa haa (y25 q)
        ((try simp -implicitDefEqProofs [-loopQ_n, decC, w2, w2', hcc, haa, n2, n26, n25]) <;> (repeat' (first | ((first | refine condD_dec ?_ ?_ | refine guardD_dec ?_ ?_) <;> (intro hc; (try simp -implicitDefEqProofs [-loopQ_n, hc, decC, w2, w2', hcc, haa, n2, n26, n25]))) | ((first | refine condD_intro ?_ ?_ | refine guardD_intro ?_ ?_) <;> (intro hd; have hc := hd; (try simp at hc) <;> (try simp -implicitDefEqProofs [-loopQ_n, hd, hc, decC, w2, w2', hcc, haa, n2, n26, n25]))) | ((first | (refine ldD_ep ?_ ?_; (focus kernel_rfl)) | (refine callS_mk ?_; (try simp -implicitDefEqProofs [-loopQ_n, decC, w2, w2', hcc, haa, n2, n26, n25]); (first | refine callS_intro (wj) (.inr ⟨rfl, rfl⟩) ?_ | refine callS_intro (eh) (.inr ⟨rfl, rfl⟩) ?_ | refine callS_intro (hX) (.inl rfl) ?_))); (try simp -implicitDefEqProofs [-loopQ_n, decC, w2, w2', hcc, haa, n2, n26, n25])))))
        refine loop_next 2 (by omega) (by omega) (weak_of 0 0 rfl rfl ?_ ?_) <;> simp [w2, decC, hcc, haa]
theorem both (x0 : AV) (s0 : argS Tryz.prog 29 x0) : Pure Tryz.prog 5 [x0] (.bool true) := by
  obtain ⟨d, rfl, hb⟩ := ddec_dec s0
  exact main d hb
theorem walk (W : World) (hvo : VarsOk W (fun _ => False)) (v0 : Value) (x0 : AV) (r0 : RO W (fun _ => False) x0 v0) (s0 : argS Tryz.prog 29 x0) :
    Calls Tryz.prog 5 #[v0] W fun e w' => e = .returned (.bool true) ∧ Below W.heap.size W w' := by
  refine ((both x0 s0).2 W (fun _ => False) _ (fun _ h => h.elim) hvo rfl ?_).mono ?_
  · intro j x v hj hv
    match j with
    | 0 => simp at hj hv; subst hj hv; exact r0
    | j + 1 => simp at hj
  · rintro e w' ⟨v, rfl, hv, hb⟩
    rw [ro_tt hv]
    exact ⟨rfl, hb⟩
end
set_option maxRecDepth 100000 in
theorem lifted (os : Os) (started : os.Started) (H : Type) (enc : TypeId × Value → H) :
    ReturnsInHanded {} Tryz.checked os 5 .any (Rows.decisionCompleteSpec.pre6 enc Tryz.prog Tryz.f5 Rows.decisionCompleteRow.domain false) (Rows.decisionCompleteSpec.post enc Tryz.prog Tryz.f5 false true false false) := by
  refine returnsInHanded_of_change (C := Tryz.checked) (@ownK { row := fun _ => none }) started (by kernel_rfl) Tryz.func5
    (ChangeSpec.witness6 (enc := enc) (C := Tryz.checked) false ⟨#[], #[.agg #[.slice none 0 0, .string ByteArray.empty, .int .i64 0, .int .i64 0, .int .i64 0, .slice none 0 0, .int .i64 0, .slice none 0 0, .slice none 0 0]], []⟩ 8 (by kernel_rfl) (by kernel_rfl) (by kernel_rfl) (by kernel_rfl)) ?_
  intro W base args ds gs before hval0 hW hcnd _
  have hval : ∀ (j : Nat) t v, Tryz.f5.params[j]? = some t → args[j]? = some v → Value.okWide Tryz.prog W .any base t v := hval0
  have hW' := hW
  obtain ⟨p, q, hA0, hV, rfl, hfz, hnd⟩ := hW
  have hA : DataW.TrodAll enc Tryz.prog W 0 (fun _ => true) true Tryz.f5.params.toList args.toList ds p := hA0
  rw [Tryz.params5] at hA hval
  obtain ⟨v0, vs0, d0, ds0, p0, q0, hargs, rfl, rfl, h0, r0⟩ := trodAll_cons hA
  obtain ⟨rfl, rfl, rfl⟩ := trodAll_nil r0
  obtain rfl : args = #[v0] := by cases args; simp_all
  obtain ⟨rfl, rfl⟩ := trodVars_none hV
  letI : Glob := { row := fun _ => none }
  have k0 := h0
  have lt0 : ∀ x ∈ p0, x.block < W.heap.size := by obtain ⟨m, hm⟩ := k0; exact DataW.trod_lt m _ _ _ hm
  obtain ⟨x0, y0, s0⟩ := arg_open (P := Tryz.prog) (t := 29) (by kernel_rfl) (by kernel_rfl) (hval 0 29 v0 rfl rfl) h0
  clear hA0 hval0
  refine (walk W ⟨fun g row h => (by cases h), fun g cs h => (by cases h)⟩ v0 x0 y0 s0).mono fun e W' ⟨he, bel⟩ => ?_
  subst he
  exact ⟨_, rfl, _, _, _, [], _, [], hW', trodAll_mk1 (shut_bool Tryz.underlying4 _), (trodAll_cons_mk (Below.trod laidK (by kernel_rfl) (of_decide_eq_true (by kernel_rfl)) k0 bel lt0) trodAll_mk0), rfl, bel.frame _, fun h => by cases h⟩

theorem over : Rows.decisionCompleteRow.holds Tryz.pinned (OpenSpec.ofChange Rows.decisionCompleteSpec) :=
  OpenClaim.holds_of_wide 5 Tryz.f5 rfl rfl rfl rfl rfl rfl rfl ⟨rfl, rfl, rfl, rfl, rfl⟩ rfl rfl rfl rfl rfl (by kernel_rfl) Tryz.func5 (by kernel_rfl)
    (of_decide_eq_true (by kernel_rfl)) (by unfold Func.isWrapper; first | (rw [if_pos (by decide +kernel)]; kernel_rfl) | (rw [if_neg (by decide +kernel)]; exact ⟨rfl, rfl⟩))
    (fun os started H enc _ => lifted os started H enc)

theorem proved : Rows.DecisionCompleteSaid := over
end Go.Proofs.YthemglpccpjokaaGreat.lawDCpl
