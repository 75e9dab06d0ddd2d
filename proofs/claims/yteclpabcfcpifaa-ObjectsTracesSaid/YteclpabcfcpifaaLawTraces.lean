/- The trace of an object consists of the activities of the events that refer to it (the law ObjectsTraces holds for every input; no condition). -/
import Derived.Test.YteclpabcfcpifaaRows
import Derived.Test.YteclpabcfcpifaaObj3
import Derived.Test.YteclpabcfcpifaaObD
import Derived.Test.YteclpabcfcpifaaObT
namespace Go.Proofs.Yteclpabcfcpifaa.lawTraces
set_option linter.unusedSimpArgs false
set_option linter.unusedVariables false
set_option linter.unnecessarySimpa false
set_option linter.unusedSectionVars false
open Go.ChangeShapes Go.WideShapes Go.ChangeAt Go.RowKit Go.Joins Go.Deep
section
variable [Glob]
set_option maxRecDepth 100000
theorem tr1_pure (kind : ByteArray) (r : Rf) : Pure Try.prog 35 [.agg (refC r), .rp [.str kind]] (.bool (r.a.toList == kind.toList)) := by
  refine pure_of mixed Try.func35 rfl (by kernel_rfl) (of_decide_eq_true rfl) (by kernel_rfl) (vc_run ?_)
  obtain ⟨a, b⟩ := r
  ((try simp -implicitDefEqProofs [-loopQ_n, refC]) <;> (repeat' (first | (refine condD_dec ?_ ?_ <;> (intro hc; (try simp -implicitDefEqProofs [-loopQ_n, hc, refC]))) | (refine guardD_dec ?_ ?_ <;> (intro hc; (try simp -implicitDefEqProofs [-loopQ_n, hc, refC]))) | (refine condD_intro ?_ ?_ <;> (intro hd; have hc := hd; (try simp at hc) <;> (try simp -implicitDefEqProofs [-loopQ_n, hd, hc, refC]))) | (refine guardD_intro ?_ ?_ <;> (intro hd; have hc := hd; (try simp at hc) <;> (try simp -implicitDefEqProofs [-loopQ_n, hd, hc, refC]))) | (refine ldD_ep ?_ ?_; (focus kernel_rfl); (try simp -implicitDefEqProofs [-loopQ_n, refC])))))
theorem st_refs {m : Nat} {l : List ByteArray} : refsR m (rowsOf strC l) = true := rowsOf_refs fun x => by simp [strC, refs]
theorem st_snoc {l : List ByteArray} {s : ByteArray} : rowsOf strC l ++ [[.str s]] = rowsOf strC (l ++ [s]) := by simp [rowsOf, strC]
def trO (l : List Obj) (t c : ByteArray) : List AV := [.str c, .rs (rowsOf strC (actsO l ⟨t, c⟩))]
theorem trO_eq {l : List Obj} {t : ByteArray} (h : objV l = true) : (fun c => [.str c, .rs (rowsOf strC ((alook (trL (flatEv l t)) c).getD []))]) = trO l t := by
  rw [tr_wordF]
  funext c
  rw [word_flat t c l (objV_mem h)]
  rfl
set_option maxHeartbeats 8000000 in
theorem both (x0 : AV) (s0 : argS Try.prog 24 x0) (x1 : AV) (s1 : argS Try.prog 9 x1) :
    Pure Try.prog 6 [x0, x1] (.bool true) := by
  obtain ⟨l, rfl, hl, hd⟩ := log_dec s0
  obtain ⟨kind, rfl, _⟩ := arg_str Try.underlying9 s1
  rw [maxLen_eq] at hl
  have hdr : ∀ e ∈ l, e.refs.length ≤ 9223372036854775807 := fun e he => by have := hd e he; rwa [maxLen_eq] at this
  refine pure_of mixed Try.func6 rfl (by kernel_rfl) (of_decide_eq_true rfl) (by kernel_rfl) (vc_run ?_)
  by_cases hV : objV l = true ∧ isNameS kind = true ∧ flatEv l kind ≠ [] ∧ (flatEv l kind).length ≤ 2000
  rotate_left
  · obtain ⟨k, hk, hx⟩ : ∃ k : Int, k ≠ 0 ∧ flatOut l kind = ([], k) := by
      unfold flatOut
      split
      · split
        · exact ⟨10, by omega, rfl⟩
        · split
          · exact ⟨5, by omega, rfl⟩
          · exfalso; apply hV; rename_i h1 h2 h3; exact ⟨h1.1, h1.2, h2, by omega⟩
      · exact ⟨1, by omega, rfl⟩
    ((try simp -implicitDefEqProofs [-loopQ_n, hx, hk]) <;> (repeat' (first | (refine condD_dec ?_ ?_ <;> (intro hc; (try simp -implicitDefEqProofs [-loopQ_n, hc, hx, hk]))) | (refine guardD_dec ?_ ?_ <;> (intro hc; (try simp -implicitDefEqProofs [-loopQ_n, hc, hx, hk]))) | (refine condD_intro ?_ ?_ <;> (intro hd; have hc := hd; (try simp at hc) <;> (try simp -implicitDefEqProofs [-loopQ_n, hd, hc, hx, hk]))) | (refine guardD_intro ?_ ?_ <;> (intro hd; have hc := hd; (try simp at hc) <;> (try simp -implicitDefEqProofs [-loopQ_n, hd, hc, hx, hk]))) | (refine ldD_ep ?_ ?_; (focus kernel_rfl); (try simp -implicitDefEqProofs [-loopQ_n, hx, hk])) | (refine callS_mk ?_; (try simp -implicitDefEqProofs [-loopQ_n, hx, hk]); (first | refine callS_intro (awake_pure) (.inl rfl) ?_ | refine callS_intro (few_pure _ hl hdr) (.inl rfl) ?_ | refine callS_intro (oflat_pure _ _) (.inr ⟨rfl, rfl⟩) ?_); (try simp -implicitDefEqProofs [-loopQ_n, hx, hk])))))
  obtain ⟨hV, hN, hne, h2000⟩ := hV
  have hx : flatOut l kind = (flatEv l kind, 0) := by unfold flatOut; rw [if_pos ⟨hV, hN⟩, if_neg hne, if_neg (by omega)]
  have hcon : conOut l kind = (((conL kind l : Nat) : Int), (0 : Int)) := by unfold conOut; rw [if_pos ⟨hV, hN⟩]
  have hvl := flat_valid hV h2000
  have hct := flat_count kind l
  have hsm := objV_small hV
  have hln := hsm.1
  have hcb := conL_bd kind l hsm.2
  have hsz : ∀ e ∈ flatEv l kind, e.case_.size ≤ maxLen := fun e he => by
    obtain ⟨o, ho, r, hr, rfl, _⟩ := flat_mem he
    have := (refsB_name (objV_mem hV o ho).2.2.2 hr).2
    simp only [isNameS, Bool.and_eq_true, decide_eq_true_eq] at this
    rw [maxLen_eq]
    simp only [mkE]
    omega
  have hTr := traces_pure (flatEv l kind) h2000 hsz hvl
  rw [trO_eq hV] at hTr
  have hcl : (casesL (flatEv l kind)).length ≤ 2000 := by
    have := setB_lenB ((flatEv l kind).map (·.case_)) []
    simp only [List.length_nil, List.length_map] at this
    have h2 : (casesL (flatEv l kind)).length = (((flatEv l kind).map (·.case_)).foldl insB []).length := rfl
    omega
  have hsome : ∀ c ∈ casesL (flatEv l kind), actsO l ⟨kind, c⟩ ≠ [] := fun c hc => acts_some hV hc
  generalize flatEv l kind = ev at *
  generalize casesL ev = cs at *
  ((try simp -implicitDefEqProofs [-loopQ_n, hx, hcon, hvl]) <;> (repeat' (first | (refine condD_dec ?_ ?_ <;> (intro hc; (try simp -implicitDefEqProofs [-loopQ_n, hc, hx, hcon, hvl]))) | (refine guardD_dec ?_ ?_ <;> (intro hc; (try simp -implicitDefEqProofs [-loopQ_n, hc, hx, hcon, hvl]))) | (refine condD_intro ?_ ?_ <;> (intro hd; have hc := hd; (try simp at hc) <;> (try simp -implicitDefEqProofs [-loopQ_n, hd, hc, hx, hcon, hvl]))) | (refine guardD_intro ?_ ?_ <;> (intro hd; have hc := hd; (try simp at hc) <;> (try simp -implicitDefEqProofs [-loopQ_n, hd, hc, hx, hcon, hvl]))) | (refine ldD_ep ?_ ?_; (focus kernel_rfl); (try simp -implicitDefEqProofs [-loopQ_n, hx, hcon, hvl])) | (refine callS_mk ?_; (try simp -implicitDefEqProofs [-loopQ_n, hx, hcon, hvl]); (first | refine callS_intro (awake_pure) (.inl rfl) ?_ | refine callS_intro (few_pure _ hl hdr) (.inl rfl) ?_ | refine callS_intro (oflat_pure _ _) (.inr ⟨rfl, rfl⟩) ?_ | refine callS_intro (ocon_pure _ _) (.inl rfl) ?_ | refine callS_intro (log_pure _) (.inl rfl) ?_ | refine callS_intro (hTr) (.inr ⟨rfl, rfl⟩) ?_); (try simp -implicitDefEqProofs [-loopQ_n, hx, hcon, hvl])))))
  have hcnt := cntT_le kind l
  refine loop_intro (σ := Nat × Nat) (fun x => ⟨[(2, .op 0 0), (3, .op 1 0), (5, .op 2 0), (7, .int .i64 (conL kind l : Nat)), (9, .rs (rowsOf (trO l kind) cs)), (11, .int .i64 x.2), (68, .rs (rowsOf objC l)), (69, .int .i64 l.length), (70, .int .i64 x.1)], [.box 24 [.rs (rowsOf objC l)], .box 9 [.str kind], .box 62 [.rs (rowsOf evtC ev)]]⟩)
    (fun x => x.1 ≤ l.length ∧ x.2 + cntT kind (l.drop x.1) = cntT kind l) (fun x => l.length - x.1) (0, 0) ⟨by simp, by simp⟩ ?_ ?_
  · refine weak_of 3 0 rfl rfl ?_ ?_ <;> simp
  rintro ⟨i, n⟩ ⟨hi, hR⟩
  simp only at hi hR
  by_cases h : i < l.length
  · have w1 := w_succ h hl
    have w2 : wrapI .i64 ((n : Int) + 1) = ((n + 1 : Nat) : Int) := by rw [wrap_in (by omega) (by omega)]; omega
    rw [List.drop_eq_getElem_cons h, cntT_cons] at hR
    obtain ⟨⟨act, time, refs⟩, hf⟩ : ∃ e, l[i] = e := ⟨_, rfl⟩
    have hrl : refs.length ≤ 9223372036854775807 := by have := hdr _ (List.getElem_mem h); rw [hf] at this; exact this
    rw [hf] at hR
    ((try simp -implicitDefEqProofs [-loopQ_n, h, hf, objC]) <;> (repeat' (first | (refine condD_dec ?_ ?_ <;> (intro hc; (try simp -implicitDefEqProofs [-loopQ_n, hc, h, hf, objC]))) | (refine guardD_dec ?_ ?_ <;> (intro hc; (try simp -implicitDefEqProofs [-loopQ_n, hc, h, hf, objC]))) | (refine condD_intro ?_ ?_ <;> (intro hd; have hc := hd; (try simp at hc) <;> (try simp -implicitDefEqProofs [-loopQ_n, hd, hc, h, hf, objC]))) | (refine guardD_intro ?_ ?_ <;> (intro hd; have hc := hd; (try simp at hc) <;> (try simp -implicitDefEqProofs [-loopQ_n, hd, hc, h, hf, objC]))) | (refine ldD_ep ?_ ?_; (focus kernel_rfl); (try simp -implicitDefEqProofs [-loopQ_n, h, hf, objC])))))
    refine call_a (by simp -implicitDefEqProofs) (cfRef_any (p := fun r => r.a.toList == kind.toList) (l := refs) (g := 35) (caps := [.rp [.str kind]]) (fun x _ => tr1_pure kind x) (fun H k => by simp) (by simp) hrl) (.inl rfl) ?_
    by_cases ht : hasT kind ⟨act, time, refs⟩ = true
    · rw [if_pos ht] at hR
      have ht' : (refs.any fun r => r.a.toList == kind.toList) = true := ht
      rw [ht']
      ((try simp -implicitDefEqProofs [-loopQ_n, w1, w2]) <;> (repeat' (first | (refine condD_dec ?_ ?_ <;> (intro hc; (try simp -implicitDefEqProofs [-loopQ_n, hc, w1, w2]))) | (refine guardD_dec ?_ ?_ <;> (intro hc; (try simp -implicitDefEqProofs [-loopQ_n, hc, w1, w2]))) | (refine condD_intro ?_ ?_ <;> (intro hd; have hc := hd; (try simp at hc) <;> (try simp -implicitDefEqProofs [-loopQ_n, hd, hc, w1, w2]))) | (refine guardD_intro ?_ ?_ <;> (intro hd; have hc := hd; (try simp at hc) <;> (try simp -implicitDefEqProofs [-loopQ_n, hd, hc, w1, w2]))) | (refine ldD_ep ?_ ?_; (focus kernel_rfl); (try simp -implicitDefEqProofs [-loopQ_n, w1, w2])))))
      refine loop_next (i + 1, n + 1) ⟨by simp only; omega, by simp only; omega⟩ (by simp only; omega) (weak_of 3 0 rfl rfl ?_ ?_) <;> simp
    · rw [if_neg ht] at hR
      have ht' : (refs.any fun r => r.a.toList == kind.toList) = false := by simpa [hasT] using ht
      rw [ht']
      ((try simp -implicitDefEqProofs [-loopQ_n, w1, w2]) <;> (repeat' (first | (refine condD_dec ?_ ?_ <;> (intro hc; (try simp -implicitDefEqProofs [-loopQ_n, hc, w1, w2]))) | (refine guardD_dec ?_ ?_ <;> (intro hc; (try simp -implicitDefEqProofs [-loopQ_n, hc, w1, w2]))) | (refine condD_intro ?_ ?_ <;> (intro hd; have hc := hd; (try simp at hc) <;> (try simp -implicitDefEqProofs [-loopQ_n, hd, hc, w1, w2]))) | (refine guardD_intro ?_ ?_ <;> (intro hd; have hc := hd; (try simp at hc) <;> (try simp -implicitDefEqProofs [-loopQ_n, hd, hc, w1, w2]))) | (refine ldD_ep ?_ ?_; (focus kernel_rfl); (try simp -implicitDefEqProofs [-loopQ_n, w1, w2])))))
      refine loop_next (i + 1, n) ⟨by simp only; omega, by simp only; omega⟩ (by simp only; omega) (weak_of 3 0 rfl rfl ?_ ?_) <;> simp
  have hn : n = cntT kind l := by rw [List.drop_eq_nil_of_le (by omega)] at hR; simpa [cntT] using hR
  have w3 : wrapI .i64 ((n : Int) + (conL kind l : Nat)) = (ev.length : Int) := by rw [wrap_in (by omega) (by omega)]; omega
  ((try simp -implicitDefEqProofs [-loopQ_n, h, w3]) <;> (repeat' (first | (refine condD_dec ?_ ?_ <;> (intro hc; (try simp -implicitDefEqProofs [-loopQ_n, hc, h, w3]))) | (refine guardD_dec ?_ ?_ <;> (intro hc; (try simp -implicitDefEqProofs [-loopQ_n, hc, h, w3]))) | (refine condD_intro ?_ ?_ <;> (intro hd; have hc := hd; (try simp at hc) <;> (try simp -implicitDefEqProofs [-loopQ_n, hd, hc, h, w3]))) | (refine guardD_intro ?_ ?_ <;> (intro hd; have hc := hd; (try simp at hc) <;> (try simp -implicitDefEqProofs [-loopQ_n, hd, hc, h, w3]))) | (refine ldD_ep ?_ ?_; (focus kernel_rfl); (try simp -implicitDefEqProofs [-loopQ_n, h, w3])))))
  refine loop_intro (σ := Nat) (fun i => ⟨[(2, .op 0 0), (3, .op 1 0), (88, .rs (rowsOf (trO l kind) cs)), (89, .int .i64 cs.length), (90, .int .i64 i)], [.box 24 [.rs (rowsOf objC l)], .box 9 [.str kind], .gone]⟩)
    (fun i => i ≤ cs.length) (fun i => cs.length - i) 0 (by simp) ?_ ?_
  · refine weak_of 3 0 rfl rfl ?_ ?_ <;> simp
  rintro i hi
  by_cases h : i < cs.length
  · have w1 := w_succ h (by omega)
    obtain ⟨c, hf⟩ : ∃ c, cs[i] = c := ⟨_, rfl⟩
    have hcs := hsome c (by rw [← hf]; exact List.getElem_mem h)
    ((try simp -implicitDefEqProofs [-loopQ_n, h, hf, trO]) <;> (repeat' (first | (refine condD_dec ?_ ?_ <;> (intro hc; (try simp -implicitDefEqProofs [-loopQ_n, hc, h, hf, trO]))) | (refine guardD_dec ?_ ?_ <;> (intro hc; (try simp -implicitDefEqProofs [-loopQ_n, hc, h, hf, trO]))) | (refine condD_intro ?_ ?_ <;> (intro hd; have hc := hd; (try simp at hc) <;> (try simp -implicitDefEqProofs [-loopQ_n, hd, hc, h, hf, trO]))) | (refine guardD_intro ?_ ?_ <;> (intro hd; have hc := hd; (try simp at hc) <;> (try simp -implicitDefEqProofs [-loopQ_n, hd, hc, h, hf, trO]))) | (refine ldD_ep ?_ ?_; (focus kernel_rfl); (try simp -implicitDefEqProofs [-loopQ_n, h, hf, trO])))))
    refine loop_intro (σ := Nat × List ByteArray) (fun x => ⟨[(2, .op 0 0), (3, .op 1 0), (15, .op 3 0), (16, .os 4 x.2.length), (88, .rs (rowsOf (trO l kind) cs)), (89, .int .i64 cs.length), (90, .int .i64 i), (95, .rs (rowsOf objC l)), (96, .int .i64 l.length), (97, .int .i64 x.1)], [.box 24 [.rs (rowsOf objC l)], .box 9 [.str kind], .gone, .box 76 [.str c, .rs (rowsOf strC (actsO l ⟨kind, c⟩))], .row 9 true (rowsOf strC x.2)]⟩)
      (fun x => x.1 ≤ l.length ∧ x.2.length ≤ x.1 ∧ x.2 ++ actsO (l.drop x.1) ⟨kind, c⟩ = actsO l ⟨kind, c⟩) (fun x => l.length - x.1) (0, []) ⟨by simp, by simp, by simp⟩ ?_ ?_
    · refine weak_of 4 1 rfl rfl ?_ ?_ <;> simp
    rintro ⟨j, acc⟩ ⟨hj, hal, hR⟩
    simp only at hj hal hR
    by_cases g : j < l.length
    · have w2 := w_succ g hl
      rw [List.drop_eq_getElem_cons g, actsO_cons] at hR
      obtain ⟨⟨act, time, refs⟩, hg⟩ : ∃ e, l[j] = e := ⟨_, rfl⟩
      have hrl : refs.length ≤ 9223372036854775807 := by have := hdr _ (List.getElem_mem g); rw [hg] at this; exact this
      have hv : acc.length ≤ 1073741823 := by omega
      rw [hg] at hR
      by_cases ht : hasQ refs ⟨kind, c⟩ = true
      · simp only [ht, if_true] at hR
        have ht' : refs.any (eqR ⟨kind, c⟩) = true := ht
        ((try simp -implicitDefEqProofs [-loopQ_n, g, hg, objC, w2, ht', hv]) <;> (repeat' (first | (refine condD_dec ?_ ?_ <;> (intro hc; (try simp -implicitDefEqProofs [-loopQ_n, hc, g, hg, objC, w2, ht', hv]))) | (refine guardD_dec ?_ ?_ <;> (intro hc; (try simp -implicitDefEqProofs [-loopQ_n, hc, g, hg, objC, w2, ht', hv]))) | (refine condD_intro ?_ ?_ <;> (intro hd; have hc := hd; (try simp at hc) <;> (try simp -implicitDefEqProofs [-loopQ_n, hd, hc, g, hg, objC, w2, ht', hv]))) | (refine guardD_intro ?_ ?_ <;> (intro hd; have hc := hd; (try simp at hc) <;> (try simp -implicitDefEqProofs [-loopQ_n, hd, hc, g, hg, objC, w2, ht', hv]))) | (refine ldD_ep ?_ ?_; (focus kernel_rfl); (try simp -implicitDefEqProofs [-loopQ_n, g, hg, objC, w2, ht', hv])) | (refine callS_mk ?_; (try simp -implicitDefEqProofs [-loopQ_n, g, hg, objC, w2, ht', hv]); (first | refine callS_intro (rfContains_pure _ _ _ hrl) (.inl rfl) ?_); (try simp -implicitDefEqProofs [-loopQ_n, g, hg, objC, w2, ht', hv])))))
        refine loop_next (j + 1, acc ++ [act]) ⟨by simp only; omega, by simp; omega, by simp only; rw [List.append_assoc]; exact hR⟩ (by simp only; omega) (weak_of 5 0 rfl rfl ?_ ?_) <;> simp [st_snoc, st_refs]
      · simp only [ht, if_false] at hR
        have ht' : refs.any (eqR ⟨kind, c⟩) = false := by simpa [hasQ] using ht
        ((try simp -implicitDefEqProofs [-loopQ_n, g, hg, objC, w2, ht']) <;> (repeat' (first | (refine condD_dec ?_ ?_ <;> (intro hc; (try simp -implicitDefEqProofs [-loopQ_n, hc, g, hg, objC, w2, ht']))) | (refine guardD_dec ?_ ?_ <;> (intro hc; (try simp -implicitDefEqProofs [-loopQ_n, hc, g, hg, objC, w2, ht']))) | (refine condD_intro ?_ ?_ <;> (intro hd; have hc := hd; (try simp at hc) <;> (try simp -implicitDefEqProofs [-loopQ_n, hd, hc, g, hg, objC, w2, ht']))) | (refine guardD_intro ?_ ?_ <;> (intro hd; have hc := hd; (try simp at hc) <;> (try simp -implicitDefEqProofs [-loopQ_n, hd, hc, g, hg, objC, w2, ht']))) | (refine ldD_ep ?_ ?_; (focus kernel_rfl); (try simp -implicitDefEqProofs [-loopQ_n, g, hg, objC, w2, ht'])) | (refine callS_mk ?_; (try simp -implicitDefEqProofs [-loopQ_n, g, hg, objC, w2, ht']); (first | refine callS_intro (rfContains_pure _ _ _ hrl) (.inl rfl) ?_); (try simp -implicitDefEqProofs [-loopQ_n, g, hg, objC, w2, ht'])))))
        refine loop_next (j + 1, acc) ⟨by simp only; omega, by simp only; omega, by simpa using hR⟩ (by simp only; omega) (weak_of 5 0 rfl rfl ?_ ?_) <;> simp [st_snoc, st_refs]
    · have hR : acc = actsO l ⟨kind, c⟩ := by rw [List.drop_eq_nil_of_le (by omega)] at hR; simpa [actsO] using hR
      have hE := equalS_pure acc acc (by omega) (by omega)
      rw [decide_eq_true rfl] at hE
      rw [← hR] at hcs ⊢
      have hz : ¬ acc.length = 0 := fun q => hcs (List.eq_nil_of_length_eq_zero q)
      ((try simp -implicitDefEqProofs [-loopQ_n, g, w1, hz, hcs, sw_reify]) <;> (repeat' (first | (refine condD_dec ?_ ?_ <;> (intro hc; (try simp -implicitDefEqProofs [-loopQ_n, hc, g, w1, hz, hcs, sw_reify]))) | (refine guardD_dec ?_ ?_ <;> (intro hc; (try simp -implicitDefEqProofs [-loopQ_n, hc, g, w1, hz, hcs, sw_reify]))) | (refine condD_intro ?_ ?_ <;> (intro hd; have hc := hd; (try simp at hc) <;> (try simp -implicitDefEqProofs [-loopQ_n, hd, hc, g, w1, hz, hcs, sw_reify]))) | (refine guardD_intro ?_ ?_ <;> (intro hd; have hc := hd; (try simp at hc) <;> (try simp -implicitDefEqProofs [-loopQ_n, hd, hc, g, w1, hz, hcs, sw_reify]))) | (refine ldD_ep ?_ ?_; (focus kernel_rfl); (try simp -implicitDefEqProofs [-loopQ_n, g, w1, hz, hcs, sw_reify])) | (refine callS_mk ?_; (try simp -implicitDefEqProofs [-loopQ_n, g, w1, hz, hcs, sw_reify]); (first | refine callS_intro (hE) (.inl rfl) ?_); (try simp -implicitDefEqProofs [-loopQ_n, g, w1, hz, hcs, sw_reify])))))
      refine loop_next (i + 1) (by omega) (by omega) (weak_of 3 0 rfl rfl ?_ ?_) <;> simp
  · ((try simp -implicitDefEqProofs [-loopQ_n, h]) <;> (repeat' (first | (refine condD_dec ?_ ?_ <;> (intro hc; (try simp -implicitDefEqProofs [-loopQ_n, hc, h]))) | (refine guardD_dec ?_ ?_ <;> (intro hc; (try simp -implicitDefEqProofs [-loopQ_n, hc, h]))) | (refine condD_intro ?_ ?_ <;> (intro hd; have hc := hd; (try simp at hc) <;> (try simp -implicitDefEqProofs [-loopQ_n, hd, hc, h]))) | (refine guardD_intro ?_ ?_ <;> (intro hd; have hc := hd; (try simp at hc) <;> (try simp -implicitDefEqProofs [-loopQ_n, hd, hc, h]))) | (refine ldD_ep ?_ ?_; (focus kernel_rfl); (try simp -implicitDefEqProofs [-loopQ_n, h])))))
theorem walk (W : World) (hvo : VarsOk W (fun _ => False)) (v0 : Value) (x0 : AV) (r0 : RO W (fun _ => False) x0 v0) (s0 : argS Try.prog 24 x0) (v1 : Value) (x1 : AV) (r1 : RO W (fun _ => False) x1 v1) (s1 : argS Try.prog 9 x1) :
    Calls Try.prog 6 #[v0, v1] W fun e w' => e = .returned (.bool true) ∧ Below W.heap.size W w' := by
  refine ((both x0 s0 x1 s1).2 W (fun _ => False) _ (fun _ h => h.elim) hvo rfl ?_).mono ?_
  · intro j x v hj hv
    match j with
    | 0 => simp at hj hv; subst hj hv; exact r0
    | 1 => simp at hj hv; subst hj hv; exact r1
    | j + 2 => simp at hj
  · rintro e w' ⟨v, rfl, hv, hb⟩
    rw [ro_tt hv]
    exact ⟨rfl, hb⟩
end
set_option maxRecDepth 100000 in
theorem lifted (os : Os) (started : os.Started) (H : Type) (enc : TypeId × Value → H) :
    ReturnsInHanded {} Try.checked os 6 .any (Rows.objectsTracesSpec.pre6 enc Try.prog Try.f6 Rows.objectsTracesRow.domain false) (Rows.objectsTracesSpec.post enc Try.prog Try.f6 false true false false) := by
  refine returnsInHanded_of_change (C := Try.checked) (@ownK ⟨fun _ => none⟩) started (by kernel_rfl) Try.func6
    (ChangeSpec.witness6 (enc := enc) (C := Try.checked) false ⟨#[], #[.agg #[.slice none 0 0], .string ByteArray.empty], []⟩ 8 (by kernel_rfl) (by kernel_rfl) (by kernel_rfl) (by kernel_rfl)) ?_
  intro W base args ds gs before hval0 hW hcnd _
  have hval : ∀ (j : Nat) t v, Try.f6.params[j]? = some t → args[j]? = some v → Value.okWide Try.prog W .any base t v := hval0
  have hW' := hW
  obtain ⟨p, q, hA0, hV, rfl, hfz, hnd⟩ := hW
  have hA : DataW.TrodAll enc Try.prog W 0 (fun _ => true) true Try.f6.params.toList args.toList ds p := hA0
  rw [Try.params6] at hA hval
  obtain ⟨v0, vs0, d0, ds0, p0, q0, hargs, rfl, rfl, h0, r0⟩ := trodAll_cons hA
  obtain ⟨v1, vs1, d1, ds1, p1, q1, rfl, rfl, rfl, h1, r1⟩ := trodAll_cons r0
  obtain ⟨rfl, rfl, rfl⟩ := trodAll_nil r1
  obtain rfl : args = #[v0, v1] := by cases args; simp_all
  obtain ⟨rfl, rfl⟩ := trodVars_none hV
  letI : Glob := ⟨fun _ => none⟩
  have k0 := h0
  have lt0 : ∀ x ∈ p0, x.block < W.heap.size := by obtain ⟨m, hm⟩ := k0; exact DataW.trod_lt m _ _ _ hm
  obtain ⟨x0, y0, s0⟩ := arg_open (P := Try.prog) (t := 24) (by kernel_rfl) (by kernel_rfl) (hval 0 24 v0 rfl rfl) h0
  have k1 := h1
  have lt1 : ∀ x ∈ p1, x.block < W.heap.size := by obtain ⟨m, hm⟩ := k1; exact DataW.trod_lt m _ _ _ hm
  obtain ⟨x1, y1, s1⟩ := arg_open (P := Try.prog) (t := 9) (by kernel_rfl) (by kernel_rfl) (hval 1 9 v1 rfl rfl) h1
  clear hA0 hval0
  refine (walk W (fun g row h => by cases h) v0 x0 y0 s0 v1 x1 y1 s1).mono fun e W' ⟨he, bel⟩ => ?_
  subst he
  exact ⟨_, rfl, _, _, _, [], _, [], hW', trodAll_mk1 (shut_bool Try.underlying4 _), (trodAll_cons_mk (Below.trod laidK (by kernel_rfl) (of_decide_eq_true (by kernel_rfl)) k0 bel lt0) (trodAll_cons_mk (Below.trod laidK (by kernel_rfl) (of_decide_eq_true (by kernel_rfl)) k1 bel lt1) trodAll_mk0)), rfl, bel.frame _, fun h => by cases h⟩

theorem over : Rows.objectsTracesRow.holds Try.pinned (OpenSpec.ofChange Rows.objectsTracesSpec) :=
  OpenClaim.holds_of_wide 6 Try.f6 rfl rfl rfl rfl rfl rfl rfl ⟨rfl, rfl, rfl, rfl, rfl⟩ rfl rfl rfl rfl rfl (by kernel_rfl) Try.func6 (by kernel_rfl)
    (of_decide_eq_true (by kernel_rfl)) (by unfold Func.isWrapper; first | (rw [if_pos (by decide +kernel)]; kernel_rfl) | (rw [if_neg (by decide +kernel)]; exact ⟨rfl, rfl⟩))
    (fun os started H enc _ => lifted os started H enc)

theorem proved : Rows.ObjectsTracesSaid := over
end Go.Proofs.Yteclpabcfcpifaa.lawTraces
