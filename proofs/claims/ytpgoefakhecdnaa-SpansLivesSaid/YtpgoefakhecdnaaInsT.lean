/- The reference's open executions: first, drop. -/
import Derived.Test.YtpgoefakhecdnaaInsP
import Derived.Test.YtpgoefakhecdnaaAbMv
import Derived.Test.YtpgoefakhecdnaaAbExec
namespace Go.Proofs.Ytpgoefakhecdnaa
set_option linter.unusedSimpArgs false
set_option linter.unusedVariables false
set_option linter.unnecessarySimpa false
set_option linter.unusedSectionVars false
open Go.RowKit
variable [Glob]
set_option maxRecDepth 100000
def opC (o : Op_) : List AV := [.str o.k.1, .str o.k.2, .str ByteArray.empty, .int .i64 o.x.rd, .int .i64 o.x.fr, .int .i64 0, .int .i64 o.x.st]
theorem op_refs {m : Nat} {l : List Op_} : refsR m (rowsOf opC l) = true := rowsOf_refs fun x => by simp [opC, refs]
theorem op_reify {H : List Blk} {n : Nat} {l : List Op_} : (rowsOf opC l).mapM (fun row => row.mapM (reify H (n + 1))) = some (rowsOf opC l) := rowsOf_reify fun x => by simp [opC, reify]
theorem op_snoc {l : List Op_} {a b : ByteArray} {u v w : Int} : rowsOf opC l ++ [[.str a, .str b, .str ByteArray.empty, .int .i64 u, .int .i64 v, .int .i64 0, .int .i64 w]] = rowsOf opC (l ++ [⟨(a, b), ⟨w, u, v⟩⟩]) := by simp [rowsOf, opC]
theorem fldI_refs {m : Nat} {l : List Fld} : refsR m (rowsOf fldC l) = true := rowsOf_refs fun x => by simp [fldC, refs]
theorem baT_ne {u v : ByteArray} (h : ¬ u = v) : ¬ u.toList = v.toList := fun q => h (by rw [ba_toList, ba_toList] at q; cases u; cases v; simp at q; simp [q])
/-- The place of the first one, from a place on. -/
def resI (i : Nat) : Option Nat → Int
  | none => -1
  | some j => (i + j : Nat)
theorem resI_cons {p : Op_ → Bool} {o : Op_} {r : List Op_} {i : Nat} : resI i ((o :: r).findIdx? p) = if p o then (i : Int) else resI (i + 1) (r.findIdx? p) := by
  rw [List.findIdx?_cons]
  split
  · rename_i h; rfl
  · rename_i h
    cases r.findIdx? p with
    | none => rfl
    | some j => simp only [Option.map_some, resI]; omega
set_option maxHeartbeats 8000000 in
theorem rfirst_pure (l : List Op_) (e : Evt) (a b : Int) (hl : l.length ≤ 1000000) : Pure Try.prog 35 [.rs (rowsOf opC l), .agg (evtC e), .int .i64 a, .int .i64 b] (.int .i64 (resI 0 (fstR (kyE e) (fun x => decide (a ≤ x.st ∧ x.st ≤ b)) l))) := by
  obtain ⟨ec, ea, er, el, et, ed⟩ := e
  obtain ⟨R, hR⟩ : ∃ R, resI 0 (fstR (ec, ea) (fun x => decide (a ≤ x.st ∧ x.st ≤ b)) l) = R := ⟨_, rfl⟩
  simp only [kyE]
  rw [hR]
  unfold fstR at hR
  obtain ⟨q, hq⟩ : ∃ q : Op_ → Bool, (fun o : Op_ => decide (o.k = (ec, ea)) && decide (a ≤ o.x.st ∧ o.x.st ≤ b)) = q := ⟨_, rfl⟩
  rw [hq] at hR
  simp only [evtC]
  refine pure_of mixed Try.func35 rfl (by kernel_rfl) (of_decide_eq_true rfl) (by kernel_rfl) (vc_run ?_)
  ((try simp -implicitDefEqProofs [-loopQ_n]) <;> (repeat' (first | (refine condD_dec ?_ ?_ <;> (intro hc; (try simp -implicitDefEqProofs [-loopQ_n, hc]))) | (refine guardD_dec ?_ ?_ <;> (intro hc; (try simp -implicitDefEqProofs [-loopQ_n, hc]))) | (refine condD_intro ?_ ?_ <;> (intro hd; have hc := hd; (try simp at hc) <;> (try simp -implicitDefEqProofs [-loopQ_n, hd, hc]))) | (refine guardD_intro ?_ ?_ <;> (intro hd; have hc := hd; (try simp at hc) <;> (try simp -implicitDefEqProofs [-loopQ_n, hd, hc]))) | (refine ldD_ep ?_ ?_; (focus kernel_rfl); (try simp -implicitDefEqProofs [-loopQ_n])))))
  refine loop_intro (σ := Nat) (fun i => ⟨[(0, .rs (rowsOf opC l)), (2, .int .i64 a), (3, .int .i64 b), (5, .op 0 0), (9, .int .i64 i)], [.box 41 [.str ec, .str ea, .str er, .int .i64 el, .int .i64 et, .rs (rowsOf fldC ed)]]⟩)
    (fun i => i ≤ l.length ∧ resI i ((l.drop i).findIdx? q) = R) (fun i => l.length - i) 0 ⟨by simp, by simpa using hR⟩ ?_ ?_
  · refine weak_of 1 0 rfl rfl ?_ ?_ <;> simp [op_refs, fldI_refs]
  rintro i ⟨hi, hI⟩
  by_cases h : i < l.length
  · have w1 := w_succ' h (by omega)
    rw [List.drop_eq_getElem_cons h, resI_cons] at hI
    obtain ⟨⟨⟨kc, ka⟩, ⟨xs, xr, xf⟩⟩, hf⟩ : ∃ x, l[i] = x := ⟨_, rfl⟩
    rw [hf] at hI
    have hqv : q ⟨(kc, ka), ⟨xs, xr, xf⟩⟩ = (decide ((kc, ka) = (ec, ea)) && decide (a ≤ xs ∧ xs ≤ b)) := by rw [← hq]
    rw [hqv] at hI
    by_cases c1 : kc = ec
    · subst c1
      by_cases c2 : ka = ea
      · subst c2
        by_cases c3 : a ≤ xs
        · by_cases c4 : xs ≤ b
          · rw [if_pos (by simp [c3, c4])] at hI
            subst hI
            ((try simp -implicitDefEqProofs [-loopQ_n, h, hf, opC, c3, c4]) <;> (repeat' (first | (refine condD_dec ?_ ?_ <;> (intro hc; (try simp -implicitDefEqProofs [-loopQ_n, hc, h, hf, opC, c3, c4]))) | (refine guardD_dec ?_ ?_ <;> (intro hc; (try simp -implicitDefEqProofs [-loopQ_n, hc, h, hf, opC, c3, c4]))) | (refine condD_intro ?_ ?_ <;> (intro hd; have hc := hd; (try simp at hc) <;> (try simp -implicitDefEqProofs [-loopQ_n, hd, hc, h, hf, opC, c3, c4]))) | (refine guardD_intro ?_ ?_ <;> (intro hd; have hc := hd; (try simp at hc) <;> (try simp -implicitDefEqProofs [-loopQ_n, hd, hc, h, hf, opC, c3, c4]))) | (refine ldD_ep ?_ ?_; (focus kernel_rfl); (try simp -implicitDefEqProofs [-loopQ_n, h, hf, opC, c3, c4])))))
          · rw [if_neg (by simp [c3, c4])] at hI
            ((try simp -implicitDefEqProofs [-loopQ_n, h, hf, opC, c3, c4, w1]) <;> (repeat' (first | (refine condD_dec ?_ ?_ <;> (intro hc; (try simp -implicitDefEqProofs [-loopQ_n, hc, h, hf, opC, c3, c4, w1]))) | (refine guardD_dec ?_ ?_ <;> (intro hc; (try simp -implicitDefEqProofs [-loopQ_n, hc, h, hf, opC, c3, c4, w1]))) | (refine condD_intro ?_ ?_ <;> (intro hd; have hc := hd; (try simp at hc) <;> (try simp -implicitDefEqProofs [-loopQ_n, hd, hc, h, hf, opC, c3, c4, w1]))) | (refine guardD_intro ?_ ?_ <;> (intro hd; have hc := hd; (try simp at hc) <;> (try simp -implicitDefEqProofs [-loopQ_n, hd, hc, h, hf, opC, c3, c4, w1]))) | (refine ldD_ep ?_ ?_; (focus kernel_rfl); (try simp -implicitDefEqProofs [-loopQ_n, h, hf, opC, c3, c4, w1])))))
            refine loop_next (i + 1) ⟨h, hI⟩ (by omega) (weak_of 1 0 rfl rfl ?_ ?_) <;> simp [op_refs, fldI_refs, w1]
        · rw [if_neg (by simp [c3])] at hI
          ((try simp -implicitDefEqProofs [-loopQ_n, h, hf, opC, c3, w1]) <;> (repeat' (first | (refine condD_dec ?_ ?_ <;> (intro hc; (try simp -implicitDefEqProofs [-loopQ_n, hc, h, hf, opC, c3, w1]))) | (refine guardD_dec ?_ ?_ <;> (intro hc; (try simp -implicitDefEqProofs [-loopQ_n, hc, h, hf, opC, c3, w1]))) | (refine condD_intro ?_ ?_ <;> (intro hd; have hc := hd; (try simp at hc) <;> (try simp -implicitDefEqProofs [-loopQ_n, hd, hc, h, hf, opC, c3, w1]))) | (refine guardD_intro ?_ ?_ <;> (intro hd; have hc := hd; (try simp at hc) <;> (try simp -implicitDefEqProofs [-loopQ_n, hd, hc, h, hf, opC, c3, w1]))) | (refine ldD_ep ?_ ?_; (focus kernel_rfl); (try simp -implicitDefEqProofs [-loopQ_n, h, hf, opC, c3, w1])))))
          refine loop_next (i + 1) ⟨h, hI⟩ (by omega) (weak_of 1 0 rfl rfl ?_ ?_) <;> simp [op_refs, fldI_refs, w1]
      · rw [if_neg (by simp [c2])] at hI
        have c2' := baT_ne c2
        ((try simp -implicitDefEqProofs [-loopQ_n, h, hf, opC, c2', w1]) <;> (repeat' (first | (refine condD_dec ?_ ?_ <;> (intro hc; (try simp -implicitDefEqProofs [-loopQ_n, hc, h, hf, opC, c2', w1]))) | (refine guardD_dec ?_ ?_ <;> (intro hc; (try simp -implicitDefEqProofs [-loopQ_n, hc, h, hf, opC, c2', w1]))) | (refine condD_intro ?_ ?_ <;> (intro hd; have hc := hd; (try simp at hc) <;> (try simp -implicitDefEqProofs [-loopQ_n, hd, hc, h, hf, opC, c2', w1]))) | (refine guardD_intro ?_ ?_ <;> (intro hd; have hc := hd; (try simp at hc) <;> (try simp -implicitDefEqProofs [-loopQ_n, hd, hc, h, hf, opC, c2', w1]))) | (refine ldD_ep ?_ ?_; (focus kernel_rfl); (try simp -implicitDefEqProofs [-loopQ_n, h, hf, opC, c2', w1])))))
        refine loop_next (i + 1) ⟨h, hI⟩ (by omega) (weak_of 1 0 rfl rfl ?_ ?_) <;> simp [op_refs, fldI_refs, w1]
    · rw [if_neg (by simp [c1])] at hI
      have c1' := baT_ne c1
      ((try simp -implicitDefEqProofs [-loopQ_n, h, hf, opC, c1', w1]) <;> (repeat' (first | (refine condD_dec ?_ ?_ <;> (intro hc; (try simp -implicitDefEqProofs [-loopQ_n, hc, h, hf, opC, c1', w1]))) | (refine guardD_dec ?_ ?_ <;> (intro hc; (try simp -implicitDefEqProofs [-loopQ_n, hc, h, hf, opC, c1', w1]))) | (refine condD_intro ?_ ?_ <;> (intro hd; have hc := hd; (try simp at hc) <;> (try simp -implicitDefEqProofs [-loopQ_n, hd, hc, h, hf, opC, c1', w1]))) | (refine guardD_intro ?_ ?_ <;> (intro hd; have hc := hd; (try simp at hc) <;> (try simp -implicitDefEqProofs [-loopQ_n, hd, hc, h, hf, opC, c1', w1]))) | (refine ldD_ep ?_ ?_; (focus kernel_rfl); (try simp -implicitDefEqProofs [-loopQ_n, h, hf, opC, c1', w1])))))
      refine loop_next (i + 1) ⟨h, hI⟩ (by omega) (weak_of 1 0 rfl rfl ?_ ?_) <;> simp [op_refs, fldI_refs, w1]
  · rw [List.drop_eq_nil_of_le (by omega)] at hI
    simp only [List.findIdx?_nil, resI] at hI
    subst hI
    ((try simp -implicitDefEqProofs [-loopQ_n, h]) <;> (repeat' (first | (refine condD_dec ?_ ?_ <;> (intro hc; (try simp -implicitDefEqProofs [-loopQ_n, hc, h]))) | (refine guardD_dec ?_ ?_ <;> (intro hc; (try simp -implicitDefEqProofs [-loopQ_n, hc, h]))) | (refine condD_intro ?_ ?_ <;> (intro hd; have hc := hd; (try simp at hc) <;> (try simp -implicitDefEqProofs [-loopQ_n, hd, hc, h]))) | (refine guardD_intro ?_ ?_ <;> (intro hd; have hc := hd; (try simp at hc) <;> (try simp -implicitDefEqProofs [-loopQ_n, hd, hc, h]))) | (refine ldD_ep ?_ ?_; (focus kernel_rfl); (try simp -implicitDefEqProofs [-loopQ_n, h])))))
/-- A list without the element at a place. -/
def dropF : Nat → List Op_ → Int → List Op_
  | _, [], _ => []
  | i, o :: r, k => if (i : Int) = k then dropF (i + 1) r k else o :: dropF (i + 1) r k
theorem dropF_out : ∀ (l : List Op_) (i : Nat) (k : Int), k < i → dropF i l k = l := by
  intro l
  induction l with
  | nil => intro _ _ _; rfl
  | cons o r ih => intro i k h; rw [dropF, if_neg (by omega), ih (i + 1) k (by omega)]
theorem dropF_in : ∀ (l : List Op_) (i j : Nat), dropF i l ((i + j : Nat) : Int) = l.eraseIdx j := by
  intro l
  induction l with
  | nil => intro _ _; rfl
  | cons o r ih =>
    intro i j
    cases j with
    | zero => rw [dropF, if_pos (by omega), dropF_out _ _ _ (by omega)]; rfl
    | succ j =>
      rw [dropF, if_neg (by omega), show i + (j + 1) = (i + 1) + j by omega, ih]; rfl
set_option maxHeartbeats 8000000 in
theorem rdrop_new (l : List Op_) (k : Int) (hl : l.length ≤ 1000000) : New Try.prog 36 [.rs (rowsOf opC l), .int .i64 k] (.os 0 (dropF 0 l k).length) [.row 69 true (rowsOf opC (dropF 0 l k))] := by
  obtain ⟨R, hR⟩ : ∃ R, dropF 0 l k = R := ⟨_, rfl⟩
  rw [hR]
  refine new_of mixed Try.func36 rfl (by kernel_rfl) (of_decide_eq_true rfl) (by kernel_rfl) (vc_run ?_)
  ((try simp -implicitDefEqProofs [-loopQ_n]) <;> (repeat' (first | (refine condD_dec ?_ ?_ <;> (intro hc; (try simp -implicitDefEqProofs [-loopQ_n, hc]))) | (refine guardD_dec ?_ ?_ <;> (intro hc; (try simp -implicitDefEqProofs [-loopQ_n, hc]))) | (refine condD_intro ?_ ?_ <;> (intro hd; have hc := hd; (try simp at hc) <;> (try simp -implicitDefEqProofs [-loopQ_n, hd, hc]))) | (refine guardD_intro ?_ ?_ <;> (intro hd; have hc := hd; (try simp at hc) <;> (try simp -implicitDefEqProofs [-loopQ_n, hd, hc]))) | (refine ldD_ep ?_ ?_; (focus kernel_rfl); (try simp -implicitDefEqProofs [-loopQ_n])))))
  refine loop_intro (σ := Nat × List Op_) (fun x => ⟨[(0, .rs (rowsOf opC l)), (1, .int .i64 k), (5, .os 0 x.2.length), (6, .int .i64 x.1)], [.row 69 true (rowsOf opC x.2)]⟩)
    (fun x => x.1 ≤ l.length ∧ x.2.length ≤ x.1 ∧ x.2 ++ dropF x.1 (l.drop x.1) k = R) (fun x => l.length - x.1) (0, []) ⟨by simp, by simp, by simpa using hR⟩ ?_ ?_
  · refine weak_of 0 1 rfl rfl ?_ ?_ <;> simp [op_refs, rowsOf_nil]
  rintro ⟨i, acc⟩ ⟨hi, hal, hI⟩
  simp only at hi hal hI
  by_cases h : i < l.length
  · have w1 := w_succ' h (by omega)
    have hl1 : acc.length ≤ 1073741823 := by omega
    rw [List.drop_eq_getElem_cons h, dropF] at hI
    obtain ⟨⟨⟨kc, ka⟩, ⟨xs, xr, xf⟩⟩, hf⟩ : ∃ x, l[i] = x := ⟨_, rfl⟩
    rw [hf] at hI
    by_cases c1 : (i : Int) = k
    · rw [if_pos c1] at hI
      subst c1
      ((try simp -implicitDefEqProofs [-loopQ_n, h, hf, opC, w1]) <;> (repeat' (first | (refine condD_dec ?_ ?_ <;> (intro hc; (try simp -implicitDefEqProofs [-loopQ_n, hc, h, hf, opC, w1]))) | (refine guardD_dec ?_ ?_ <;> (intro hc; (try simp -implicitDefEqProofs [-loopQ_n, hc, h, hf, opC, w1]))) | (refine condD_intro ?_ ?_ <;> (intro hd; have hc := hd; (try simp at hc) <;> (try simp -implicitDefEqProofs [-loopQ_n, hd, hc, h, hf, opC, w1]))) | (refine guardD_intro ?_ ?_ <;> (intro hd; have hc := hd; (try simp at hc) <;> (try simp -implicitDefEqProofs [-loopQ_n, hd, hc, h, hf, opC, w1]))) | (refine ldD_ep ?_ ?_; (focus kernel_rfl); (try simp -implicitDefEqProofs [-loopQ_n, h, hf, opC, w1])))))
      refine loop_next (i + 1, acc) ⟨h, by simp only; omega, hI⟩ (by simp only; omega) (weak_of 1 0 rfl rfl ?_ ?_) <;> simp [op_refs, w1]
    · rw [if_neg c1] at hI
      ((try simp -implicitDefEqProofs [-loopQ_n, h, hf, opC, c1, w1, hl1, op_snoc]) <;> (repeat' (first | (refine condD_dec ?_ ?_ <;> (intro hc; (try simp -implicitDefEqProofs [-loopQ_n, hc, h, hf, opC, c1, w1, hl1, op_snoc]))) | (refine guardD_dec ?_ ?_ <;> (intro hc; (try simp -implicitDefEqProofs [-loopQ_n, hc, h, hf, opC, c1, w1, hl1, op_snoc]))) | (refine condD_intro ?_ ?_ <;> (intro hd; have hc := hd; (try simp at hc) <;> (try simp -implicitDefEqProofs [-loopQ_n, hd, hc, h, hf, opC, c1, w1, hl1, op_snoc]))) | (refine guardD_intro ?_ ?_ <;> (intro hd; have hc := hd; (try simp at hc) <;> (try simp -implicitDefEqProofs [-loopQ_n, hd, hc, h, hf, opC, c1, w1, hl1, op_snoc]))) | (refine ldD_ep ?_ ?_; (focus kernel_rfl); (try simp -implicitDefEqProofs [-loopQ_n, h, hf, opC, c1, w1, hl1, op_snoc])))))
      refine loop_next (i + 1, acc ++ [⟨(kc, ka), ⟨xs, xr, xf⟩⟩]) ⟨h, by simp; omega, by simpa using hI⟩ (by simp only; omega) (weak_of 1 0 rfl rfl ?_ ?_) <;> simp [op_refs, w1]
  · rw [List.drop_eq_nil_of_le (by omega), dropF, List.append_nil] at hI
    subst hI
    ((try simp -implicitDefEqProofs [-loopQ_n, h]) <;> (repeat' (first | (refine condD_dec ?_ ?_ <;> (intro hc; (try simp -implicitDefEqProofs [-loopQ_n, hc, h]))) | (refine guardD_dec ?_ ?_ <;> (intro hc; (try simp -implicitDefEqProofs [-loopQ_n, hc, h]))) | (refine condD_intro ?_ ?_ <;> (intro hd; have hc := hd; (try simp at hc) <;> (try simp -implicitDefEqProofs [-loopQ_n, hd, hc, h]))) | (refine guardD_intro ?_ ?_ <;> (intro hd; have hc := hd; (try simp at hc) <;> (try simp -implicitDefEqProofs [-loopQ_n, hd, hc, h]))) | (refine ldD_ep ?_ ?_; (focus kernel_rfl); (try simp -implicitDefEqProofs [-loopQ_n, h])))))
    refine ⟨_, _, _, rfl, weak_of 1 0 rfl rfl ?_ ?_, rfl, rfl⟩ <;> simp [op_refs]
end Go.Proofs.Ytpgoefakhecdnaa
