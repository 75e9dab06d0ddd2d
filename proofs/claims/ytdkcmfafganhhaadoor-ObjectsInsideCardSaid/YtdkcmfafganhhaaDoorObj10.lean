/- The types of a log of objects: the program's answer and the reference's. -/
import Derived.Test.YtdkcmfafganhhaaDoorObj9
import Derived.Test.YtdkcmfafganhhaaDoorSortS
import Derived.Test.YtdkcmfafganhhaaDoorStrSet
namespace Go.Proofs.YtdkcmfafganhhaaDoor
set_option linter.unusedSimpArgs false
set_option linter.unusedVariables false
set_option linter.unnecessarySimpa false
set_option linter.unusedSectionVars false
open Go.RowKit
variable [Glob]
set_option maxRecDepth 100000
theorem comp_sort (l : List ByteArray) : compB (sortB l) = setB l := by
  have h1 : (sortB l).map (·.data.toList) = (l.map (·.data.toList)).mergeSort fun x y => decide (x ≤ y) := sortB_map l
  obtain ⟨a1, a2⟩ := compact_asc (sort_sorted (l.map (·.data.toList)))
  refine asc_uniq ?_ (setB_asc l) fun x => ?_
  · unfold compB ascB
    rw [h1, List.pairwise_map]
    exact a1.imp fun h => by simpa [ltB] using h
  · rw [setB_mem]
    unfold compB
    rw [h1]
    simp only [List.mem_map]
    constructor
    · rintro ⟨y, hy, rfl⟩
      rw [a2, List.mem_mergeSort, List.mem_map] at hy
      obtain ⟨z, hz, rfl⟩ := hy
      have : (⟨z.data.toList.toArray⟩ : ByteArray) = z := ba_eq (by simp)
      rw [this]; exact hz
    · intro hx
      refine ⟨x.data.toList, ?_, ba_eq (by simp)⟩
      rw [a2, List.mem_mergeSort, List.mem_map]
      exact ⟨x, hx, rfl⟩
theorem strs_reify {H : List Blk} {n : Nat} {l : List ByteArray} : (rowsOf strC l).mapM (fun row => row.mapM (reify H (n + 1))) = some (rowsOf strC l) := rowsOf_reify fun x => by simp [strC, reify]
theorem strs_refsR {m : Nat} {l : List ByteArray} : refsR m (rowsOf strC l) = true := rowsOf_refs fun x => by simp [strC, refs]
theorem strs_snoc {l : List ByteArray} {s : ByteArray} : rowsOf strC l ++ [[AV.str s]] = rowsOf strC (l ++ [s]) := by simp [rowsOf, strC]
theorem strs_snoc2 {l : List ByteArray} {s x : ByteArray} : rowsOf strC l ++ [[AV.str s], [AV.str x]] = rowsOf strC (l ++ [s, x]) := by simp [rowsOf, strC]
/-- The types of all references. -/
def allT (l : List Obj) : List ByteArray := l.flatMap fun o => o.refs.map (·.a)
theorem allT_len : ∀ {l : List Obj}, (∀ o ∈ l, o.refs.length ≤ 20) → (allT l).length ≤ 20 * l.length := by
  intro l
  induction l with
  | nil => intro _; simp [allT]
  | cons o r ih =>
    intro h
    have h1 := h o (by simp)
    have h2 := ih fun q hq => h q (by simp [hq])
    simp only [allT, List.flatMap_cons, List.length_append, List.length_map, List.length_cons] at *
    omega
def typesOut (l : List Obj) : List ByteArray × Int := if objV l = true then (setB (allT l), 0) else ([], 1)
theorem e_str : Tryd.prog.cellsOf 9 = 1 := by kernel_rfl
set_option maxHeartbeats 8000000 in
theorem otypes_pure (l : List Obj) : Pure Tryd.prog 14 [.agg [.rs (rowsOf objC l)]] (.tup [.rs (rowsOf strC (typesOut l).1), .int .i64 (typesOut l).2]) := by
  refine pure_of mixed Tryd.func14 rfl (by kernel_rfl) (of_decide_eq_true rfl) (by kernel_rfl) (vc_run ?_)
  ((try simp -implicitDefEqProofs [-loopQ_n, typesOut]) <;> (repeat' (first | (refine condD_dec ?_ ?_ <;> (intro hc; (try simp -implicitDefEqProofs [-loopQ_n, hc, typesOut]))) | (refine guardD_dec ?_ ?_ <;> (intro hc; (try simp -implicitDefEqProofs [-loopQ_n, hc, typesOut]))) | (refine condD_intro ?_ ?_ <;> (intro hd; have hc := hd; (try simp at hc) <;> (try simp -implicitDefEqProofs [-loopQ_n, hd, hc, typesOut]))) | (refine guardD_intro ?_ ?_ <;> (intro hd; have hc := hd; (try simp at hc) <;> (try simp -implicitDefEqProofs [-loopQ_n, hd, hc, typesOut]))) | (refine ldD_ep ?_ ?_; (focus kernel_rfl); (try simp -implicitDefEqProofs [-loopQ_n, typesOut])) | (refine callS_mk ?_; (try simp -implicitDefEqProofs [-loopQ_n, typesOut]); (first | refine callS_intro (ovalid_pure _) (.inl rfl) ?_); (try simp -implicitDefEqProofs [-loopQ_n, typesOut])))))
  have hV := ‹objV l = true›
  have hsm := objV_small hV
  have hln := hsm.1
  have hbd := allT_len hsm.2
  refine loop_intro (σ := Nat × List ByteArray) (fun x => ⟨[(4, .os 1 x.2.length), (13, .rs (rowsOf objC l)), (14, .int .i64 l.length), (15, .int .i64 x.1)], [.gone, .row 9 true (rowsOf strC x.2)]⟩)
    (fun x => x.1 ≤ l.length ∧ x.2 ++ allT (l.drop x.1) = allT l) (fun x => l.length - x.1) (0, []) ⟨by simp, by simp⟩ ?_ ?_
  · refine weak_of 1 1 rfl rfl ?_ ?_ <;> simp
  · rintro ⟨i, acc⟩ ⟨hi, hR⟩
    simp only at hi hR
    by_cases h : i < l.length
    · have w1 := w_succ h (by omega)
      obtain ⟨⟨act, time, refs⟩, hf⟩ : ∃ e, l[i] = e := ⟨_, rfl⟩
      have hl : refs.length ≤ 20 := by have := hsm.2 _ (List.getElem_mem h); rw [hf] at this; exact this
      have hR2 : acc ++ (refs.map (·.a) ++ allT (l.drop (i + 1))) = allT l := by rw [← hR, List.drop_eq_getElem_cons h, hf]; simp [allT]
      ((try simp -implicitDefEqProofs [-loopQ_n, h, hf, objC]) <;> (repeat' (first | (refine condD_dec ?_ ?_ <;> (intro hc; (try simp -implicitDefEqProofs [-loopQ_n, hc, h, hf, objC]))) | (refine guardD_dec ?_ ?_ <;> (intro hc; (try simp -implicitDefEqProofs [-loopQ_n, hc, h, hf, objC]))) | (refine condD_intro ?_ ?_ <;> (intro hd; have hc := hd; (try simp at hc) <;> (try simp -implicitDefEqProofs [-loopQ_n, hd, hc, h, hf, objC]))) | (refine guardD_intro ?_ ?_ <;> (intro hd; have hc := hd; (try simp at hc) <;> (try simp -implicitDefEqProofs [-loopQ_n, hd, hc, h, hf, objC]))) | (refine ldD_ep ?_ ?_; (focus kernel_rfl); (try simp -implicitDefEqProofs [-loopQ_n, h, hf, objC])))))
      refine loop_intro (σ := Nat × List ByteArray) (fun x => ⟨[(4, .os 1 x.2.length), (13, .rs (rowsOf objC l)), (14, .int .i64 l.length), (15, .int .i64 i), (20, .rs (rowsOf refC refs)), (21, .int .i64 refs.length), (22, .int .i64 x.1)], [.gone, .row 9 true (rowsOf strC x.2)]⟩)
        (fun x => x.1 ≤ refs.length ∧ x.2 ++ ((refs.drop x.1).map (·.a) ++ allT (l.drop (i + 1))) = allT l) (fun x => refs.length - x.1) (0, acc) ⟨by simp, by simpa using hR2⟩ ?_ ?_
      · refine weak_of 2 0 rfl rfl ?_ ?_ <;> simp [strs_refsR]
      · rintro ⟨j, acc⟩ ⟨hj, hR⟩
        simp only at hj hR
        by_cases g : j < refs.length
        · have w2 := w_succ g (by omega)
          obtain ⟨⟨a, b⟩, hr⟩ : ∃ e, refs[j] = e := ⟨_, rfl⟩
          rw [List.drop_eq_getElem_cons g, hr] at hR
          have hlen : acc.length + 1 ≤ 1073741824 := by
            have := congrArg List.length hR
            simp only [List.length_append, List.length_map, List.length_cons] at this
            omega
          ((try simp -implicitDefEqProofs [-loopQ_n, g, hr, refC, hlen]) <;> (repeat' (first | (refine condD_dec ?_ ?_ <;> (intro hc; (try simp -implicitDefEqProofs [-loopQ_n, hc, g, hr, refC, hlen]))) | (refine guardD_dec ?_ ?_ <;> (intro hc; (try simp -implicitDefEqProofs [-loopQ_n, hc, g, hr, refC, hlen]))) | (refine condD_intro ?_ ?_ <;> (intro hd; have hc := hd; (try simp at hc) <;> (try simp -implicitDefEqProofs [-loopQ_n, hd, hc, g, hr, refC, hlen]))) | (refine guardD_intro ?_ ?_ <;> (intro hd; have hc := hd; (try simp at hc) <;> (try simp -implicitDefEqProofs [-loopQ_n, hd, hc, g, hr, refC, hlen]))) | (refine ldD_ep ?_ ?_; (focus kernel_rfl); (try simp -implicitDefEqProofs [-loopQ_n, g, hr, refC, hlen])))))
          refine loop_next (j + 1, acc ++ [a]) ⟨by simp only; omega, by simp only; rw [← hR]; simp⟩ (by simp only; omega) (weak_of 2 0 rfl rfl ?_ ?_) <;> simp [w2, strs_refsR, strs_snoc]
        · rw [List.drop_eq_nil_of_le (by omega)] at hR
          ((try simp -implicitDefEqProofs [-loopQ_n, g]) <;> (repeat' (first | (refine condD_dec ?_ ?_ <;> (intro hc; (try simp -implicitDefEqProofs [-loopQ_n, hc, g]))) | (refine guardD_dec ?_ ?_ <;> (intro hc; (try simp -implicitDefEqProofs [-loopQ_n, hc, g]))) | (refine condD_intro ?_ ?_ <;> (intro hd; have hc := hd; (try simp at hc) <;> (try simp -implicitDefEqProofs [-loopQ_n, hd, hc, g]))) | (refine guardD_intro ?_ ?_ <;> (intro hd; have hc := hd; (try simp at hc) <;> (try simp -implicitDefEqProofs [-loopQ_n, hd, hc, g]))) | (refine ldD_ep ?_ ?_; (focus kernel_rfl); (try simp -implicitDefEqProofs [-loopQ_n, g])))))
          refine loop_next (i + 1, acc) ⟨by simp only; omega, by simp only; rw [← hR]; simp⟩ (by simp only; omega) (weak_of 2 0 rfl rfl ?_ ?_) <;> simp [w1, strs_refsR]
    · rw [List.drop_eq_nil_of_le (by omega)] at hR
      simp only [allT, List.flatMap_nil, List.append_nil] at hR
      have hR : acc = allT l := hR
      subst hR
      ((try simp -implicitDefEqProofs [-loopQ_n, h]) <;> (repeat' (first | (refine condD_dec ?_ ?_ <;> (intro hc; (try simp -implicitDefEqProofs [-loopQ_n, hc, h]))) | (refine guardD_dec ?_ ?_ <;> (intro hc; (try simp -implicitDefEqProofs [-loopQ_n, hc, h]))) | (refine condD_intro ?_ ?_ <;> (intro hd; have hc := hd; (try simp at hc) <;> (try simp -implicitDefEqProofs [-loopQ_n, hd, hc, h]))) | (refine guardD_intro ?_ ?_ <;> (intro hd; have hc := hd; (try simp at hc) <;> (try simp -implicitDefEqProofs [-loopQ_n, hd, hc, h]))) | (refine ldD_ep ?_ ?_; (focus kernel_rfl); (try simp -implicitDefEqProofs [-loopQ_n, h])))))
      refine callG_intro (sort_G (e := 9) (nb := true) (l := allT l) (by simp) rfl e_str (by omega) ?_)
      ((try simp -implicitDefEqProofs [-loopQ_n]) <;> (repeat' (first | (refine condD_dec ?_ ?_ <;> (intro hc; (try simp -implicitDefEqProofs [-loopQ_n, hc]))) | (refine guardD_dec ?_ ?_ <;> (intro hc; (try simp -implicitDefEqProofs [-loopQ_n, hc]))) | (refine condD_intro ?_ ?_ <;> (intro hd; have hc := hd; (try simp at hc) <;> (try simp -implicitDefEqProofs [-loopQ_n, hd, hc]))) | (refine guardD_intro ?_ ?_ <;> (intro hd; have hc := hd; (try simp at hc) <;> (try simp -implicitDefEqProofs [-loopQ_n, hd, hc]))) | (refine ldD_ep ?_ ?_; (focus kernel_rfl); (try simp -implicitDefEqProofs [-loopQ_n])))))
      refine callG_intro (comp_G (e := 9) (nb := true) (l := sortB (allT l)) (by simp) (sortB_len _).symm e_str (by rw [sortB_len]; omega) ?_)
      ((try simp -implicitDefEqProofs [-loopQ_n, comp_sort]) <;> (repeat' (first | (refine condD_dec ?_ ?_ <;> (intro hc; (try simp -implicitDefEqProofs [-loopQ_n, hc, comp_sort]))) | (refine guardD_dec ?_ ?_ <;> (intro hc; (try simp -implicitDefEqProofs [-loopQ_n, hc, comp_sort]))) | (refine condD_intro ?_ ?_ <;> (intro hd; have hc := hd; (try simp at hc) <;> (try simp -implicitDefEqProofs [-loopQ_n, hd, hc, comp_sort]))) | (refine guardD_intro ?_ ?_ <;> (intro hd; have hc := hd; (try simp at hc) <;> (try simp -implicitDefEqProofs [-loopQ_n, hd, hc, comp_sort]))) | (refine ldD_ep ?_ ?_; (focus kernel_rfl); (try simp -implicitDefEqProofs [-loopQ_n, comp_sort])))))
theorem setB_len_le (l : List ByteArray) : ∀ acc : List ByteArray, (l.foldl insB acc).length ≤ acc.length + l.length := by
  induction l with
  | nil => intro acc; simp
  | cons s r ih =>
    intro acc
    have h1 := ih (insB acc s)
    have h2 : (insB acc s).length ≤ acc.length + 1 := by
      unfold insB
      split
      · omega
      · have : ∀ l : List ByteArray, (insG s l).length = l.length + 1 := by
          intro l
          induction l with
          | nil => rfl
          | cons x q ih => simp only [insG]; split <;> simp [ih]
        rw [this]; omega
    simp only [List.foldl_cons, List.length_cons]; omega
end Go.Proofs.YtdkcmfafganhhaaDoor
