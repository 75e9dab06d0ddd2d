/- The references of a kind in an event. -/
import Derived.Test.YtdkcmfafganhhaaDoorObj2
namespace Go.Proofs.YtdkcmfafganhhaaDoor
set_option linter.unusedSimpArgs false
set_option linter.unusedVariables false
set_option linter.unnecessarySimpa false
set_option linter.unusedSectionVars false
open Go.RowKit
variable [Glob]
set_option maxRecDepth 100000
def ofL (l : List Rf) (t : ByteArray) : List Rf := l.filter fun r => r.a.toList == t.toList
theorem ofL_yes {l : List Rf} {t : ByteArray} {i : Nat} (h : i < l.length) (e : l[i].a.toList = t.toList) : ofL (l.take (i + 1)) t = ofL (l.take i) t ++ [l[i]] := by
  show List.filter _ (l.take (i + 1)) = _
  rw [List.take_succ_eq_append_getElem h, List.filter_append]
  simp [ofL, e]
theorem ofL_no {l : List Rf} {t : ByteArray} {i : Nat} (h : i < l.length) (e : ¬ l[i].a.toList = t.toList) : ofL (l.take (i + 1)) t = ofL (l.take i) t := by
  show List.filter _ (l.take (i + 1)) = _
  rw [List.take_succ_eq_append_getElem h, List.filter_append]
  simp [ofL, e]
theorem ofL_len (l : List Rf) (t : ByteArray) (i : Nat) : (ofL (l.take i) t).length ≤ i := Nat.le_trans (List.length_filter_le _ _) (List.length_take_le i l)
theorem refs_reify {H : List Blk} {n : Nat} {l : List Rf} : (rowsOf refC l).mapM (fun row => row.mapM (reify H (n + 1))) = some (rowsOf refC l) := rowsOf_reify fun x => by simp [refC, reify]
theorem refs_refsR {m : Nat} {l : List Rf} : refsR m (rowsOf refC l) = true := rowsOf_refs fun x => by simp [refC, refs]
set_option maxHeartbeats 8000000 in
theorem oof_pure (act : ByteArray) (time : Int) (refs : List Rf) (t : ByteArray) (hl : refs.length ≤ 20) :
    Pure Tryd.prog 44 [.agg [.str act, .int .i64 time, .rs (rowsOf refC refs)], .str t] (.rs (rowsOf refC (ofL refs t))) := by
  refine pure_of mixed Tryd.func44 rfl (by kernel_rfl) (of_decide_eq_true rfl) (by kernel_rfl) (vc_run ?_)
  simp -implicitDefEqProofs
  refine loop_intro (σ := Nat) (fun i => ⟨[(1, .str t), (5, .os 1 (ofL (refs.take i) t).length), (9, .rs (rowsOf refC refs)), (10, .int .i64 refs.length), (11, .int .i64 i)], [.box 48 [.str act, .int .i64 time, .rs (rowsOf refC refs)], .row 53 true (rowsOf refC (ofL (refs.take i) t))]⟩) (fun i => i ≤ refs.length) (fun i => refs.length - i) 0 (by omega) ?_ ?_
  · refine weak_of 1 1 rfl rfl ?_ ?_ <;> simp [ofL]
  · intro i hi
    by_cases h : i < refs.length
    · have hli := ofL_len refs t i
      have hli2 : (ofL (refs.take i) t).length + 1 ≤ 1073741824 := by omega
      have w1 : wrapI .i64 ((i : Int) + 1) = ((i + 1 : Nat) : Int) := by rw [wrap_in (by omega) (by omega)]; omega
      obtain ⟨⟨ra, rb⟩, hr⟩ : ∃ e, refs[i] = e := ⟨_, rfl⟩
      by_cases e : ra.toList = t.toList
      · have hs := ofL_yes (t := t) h (by rw [hr]; exact e)
        have hap : rowsOf refC (ofL (refs.take i) t) ++ [[AV.str ra, AV.str rb]] = rowsOf refC (ofL (refs.take (i + 1)) t) := by
          rw [hs, hr, ← rowsOf_snoc]; rfl
        have hln : (ofL (refs.take (i + 1)) t).length = (ofL (refs.take i) t).length + 1 := by rw [hs]; simp
        simp -implicitDefEqProofs [h, hr, refC, e, hli2, w1]
        refine ⟨i + 1, by omega, by omega, ?_⟩
        refine weak_of 2 0 rfl rfl ?_ ?_ <;> simp [hap, hln, refs_refsR]
      · have hs := ofL_no (t := t) h (by rw [hr]; exact e)
        simp -implicitDefEqProofs [h, hr, refC, e, w1]
        refine ⟨i + 1, by omega, by omega, ?_⟩
        refine weak_of 2 0 rfl rfl ?_ ?_ <;> simp [hs, refs_refsR]
    · have hil : i = refs.length := by omega
      subst hil
      simp -implicitDefEqProofs [refs_reify]
end Go.Proofs.YtdkcmfafganhhaaDoor
