/- Calendars: the reference's Make, Both and Closed, minute by minute. -/
import Derived.Test.YtlobmblakilmiaaDoorClk5
import Derived.Test.YtlobmblakilmiaaDoorClk6
import Derived.Test.YtlobmblakilmiaaDoorAbRen
namespace Go.Proofs.YtlobmblakilmiaaDoor
set_option linter.unusedSimpArgs false
set_option linter.unusedVariables false
set_option linter.unnecessarySimpa false
set_option linter.unusedSectionVars false
open Go.RowKit
variable [Glob]
set_option maxRecDepth 100000
def boolC (b : Bool) : List AV := [.bool b]
/-- The week's minutes, marked. -/
def markL (p : Int → Bool) : List Bool := (List.range 10080).map fun (m : Nat) => p (m : Int)
theorem markL_len {p : Int → Bool} : (markL p).length = 10080 := by simp [markL]
theorem markL_get {p : Int → Bool} {m : Nat} (h : m < 10080) : (markL p)[m]? = some (p (m : Int)) := by simp [markL, h]
def setP (p : Int → Bool) (m : Nat) (b : Bool) : Int → Bool := fun w => if w = (m : Int) then b else p w
theorem markL_set {p : Int → Bool} {m : Nat} {b : Bool} : (rowsOf boolC (markL p)).set m [.bool b] = rowsOf boolC (markL (setP p m b)) := by
  apply List.ext_getElem?
  intro i
  by_cases hi : i < 10080
  · rw [rowsOf_get, markL_get hi, List.getElem?_set]
    by_cases e : m = i
    · subst e
      simp [boolC, rowsOf_length, markL_len, hi, setP]
    · rw [if_neg e, rowsOf_get, markL_get hi]
      have : ¬ ((i : Int) = (m : Int)) := by omega
      simp [this, setP]
  · rw [List.getElem?_eq_none (by simp [rowsOf_length, markL_len]; omega), List.getElem?_eq_none (by simp [rowsOf_length, markL_len]; omega)]
theorem markL_zero : List.replicate 10080 [AV.bool false] = rowsOf boolC (markL fun _ => false) := by
  apply List.ext_getElem?
  intro i
  by_cases hi : i < 10080
  · rw [rowsOf_get, markL_get hi, List.getElem?_replicate, if_pos hi]; rfl
  · rw [List.getElem?_eq_none (by rw [List.length_replicate]; omega), List.getElem?_eq_none (by simp [rowsOf_length, markL_len]; omega)]
theorem boolC_refs {m : Nat} {l : List Bool} : refsR m (rowsOf boolC l) = true := rowsOf_refs fun x => by simp [boolC, refs]
theorem spC_refs {m : Nat} {l : List Sp} : refsR m (rowsOf spC l) = true := rowsOf_refs fun x => by simp [spC, refs]
theorem spC_snoc {l : List Sp} {f t : Int} : rowsOf spC l ++ [[.int .i64 f, .int .i64 t]] = rowsOf spC (l ++ [⟨f, t⟩]) := by simp [rowsOf, spC]
theorem spC_set {l : List Sp} {j : Nat} {f t : Int} : (rowsOf spC l).set j [.int .i64 f, .int .i64 t] = rowsOf spC (l.set j ⟨f, t⟩) := by simp [rowsOf, spC, List.map_set]
theorem spC_len {l : List Sp} : (rowsOf spC l).length = l.length := rowsOf_length
theorem boolC_reify {H : List Blk} {n : Nat} {l : List Bool} : (rowsOf boolC l).mapM (fun row => row.mapM (reify H (n + 1))) = some (rowsOf boolC l) := rowsOf_reify fun x => by simp [boolC, reify]
theorem spC_sh {k : Nat} {l : List Sp} : (rowsOf spC l).map (shL k) = rowsOf spC l := by
  simp only [rowsOf, List.map_map]
  congr 1
theorem runs_len (p : Int → Bool) : ∀ n, (runsL p n).length ≤ n := by
  intro n
  induction n with
  | zero => simp [runsL]
  | succ n ih =>
    simp only [runsL]
    split
    · unfold addM
      split
      · split
        · simp; omega
        · simp; omega
      · simp
    · omega
def calOut (l : List Sp) : AV := if 100 < l.length then .tup [.agg [.rs []], .int .i64 5] else .tup [.agg [.rs (rowsOf spC l)], .int .i64 0]
def madeR (l : List Sp) : AV := if 100 < l.length then .tup [.agg [.nils], .int .i64 5] else .tup [.agg [.os 2 l.length], .int .i64 0]
def madeH (l : List Sp) : List Blk := [.box 24 [if 100 < l.length then .nils else .os 2 l.length], .box 24 [.os 2 l.length], .row 26 true (rowsOf spC l)]
set_option maxHeartbeats 8000000 in
theorem made_new (p : Int → Bool) : New Tryd.prog 58 [.rs (rowsOf boolC (markL p))] (madeR (runsL p 10080)) (madeH (runsL p 10080)) := by
  refine new_of mixed Tryd.func58 rfl (by kernel_rfl) (of_decide_eq_true rfl) (by kernel_rfl) (vc_run ?_)
  ((try simp -implicitDefEqProofs [-loopQ_n]) <;> (repeat' (first | (refine condD_dec ?_ ?_ <;> (intro hc; (try simp -implicitDefEqProofs [-loopQ_n, hc]))) | (refine guardD_dec ?_ ?_ <;> (intro hc; (try simp -implicitDefEqProofs [-loopQ_n, hc]))) | (refine condD_intro ?_ ?_ <;> (intro hd; have hc := hd; (try simp at hc) <;> (try simp -implicitDefEqProofs [-loopQ_n, hd, hc]))) | (refine guardD_intro ?_ ?_ <;> (intro hd; have hc := hd; (try simp at hc) <;> (try simp -implicitDefEqProofs [-loopQ_n, hd, hc]))) | (refine ldD_ep ?_ ?_; (focus kernel_rfl); (try simp -implicitDefEqProofs [-loopQ_n])))))
  refine loop_intro (σ := Nat) (fun m => ⟨[(0, .rs (rowsOf boolC (markL p))), (2, .op 0 0), (4, .op 1 0), (5, .int .i64 m)], [.box 24 [.nils], .box 24 [.os 2 (runsL p m).length], .row 26 true (rowsOf spC (runsL p m))]⟩) (fun m => m ≤ 10080) (fun m => 10080 - m) 0 (by omega) ?_ ?_
  · refine weak_of 2 1 rfl rfl ?_ ?_ <;> simp [runsL, rowsOf]
  rintro m hm
  by_cases h : m < 10080
  · have h' : (m : Int) < 10080 := by omega
    have w1 := w_succ h (by omega)
    have hg := markL_get (p := p) h
    by_cases hp : p (m : Int) = true
    · have hlen := runs_len p m
      obtain ⟨acc, hacc⟩ : ∃ acc, runsL p m = acc := ⟨_, rfl⟩
      have hs : runsL p (m + 1) = addM acc m := by simp only [runsL, hp, if_true, hacc]
      rw [hacc] at hlen
      cases hk : acc.length with
      | zero =>
        have he : acc = [] := List.eq_nil_of_length_eq_zero hk
        subst he
        have hs2 : runsL p (m + 1) = [⟨m, (m : Int) + 1⟩] := by rw [hs]; rfl
        ((try simp -implicitDefEqProofs [-loopQ_n, h, h', hg, hp, hacc, boolC, w1]) <;> (repeat' (first | (refine condD_dec ?_ ?_ <;> (intro hc; (try simp -implicitDefEqProofs [-loopQ_n, hc, h, h', hg, hp, hacc, boolC, w1]))) | (refine guardD_dec ?_ ?_ <;> (intro hc; (try simp -implicitDefEqProofs [-loopQ_n, hc, h, h', hg, hp, hacc, boolC, w1]))) | (refine condD_intro ?_ ?_ <;> (intro hd; have hc := hd; (try simp at hc) <;> (try simp -implicitDefEqProofs [-loopQ_n, hd, hc, h, h', hg, hp, hacc, boolC, w1]))) | (refine guardD_intro ?_ ?_ <;> (intro hd; have hc := hd; (try simp at hc) <;> (try simp -implicitDefEqProofs [-loopQ_n, hd, hc, h, h', hg, hp, hacc, boolC, w1]))) | (refine ldD_ep ?_ ?_; (focus kernel_rfl); (try simp -implicitDefEqProofs [-loopQ_n, h, h', hg, hp, hacc, boolC, w1])))))
        refine loop_next (m + 1) h (by omega) (weak_of 3 0 rfl rfl ?_ ?_) <;> simp [hs2, rowsOf, spC, refs]
      | succ j =>
        have hj : j < acc.length := by omega
        obtain ⟨⟨f, t⟩, hf⟩ : ∃ e, acc[j] = e := ⟨_, rfl⟩
        have hget : acc[j]? = some ⟨f, t⟩ := by rw [List.getElem?_eq_getElem hj, hf]
        have w3 : wrapI .i64 ((j : Int) + 1 - 1) = (j : Int) := by rw [wrap_in (by omega) (by omega)]; omega
        have w4 : wrapI .i64 (j : Int) = (j : Int) := wrap_in (by omega) (by omega)
        have p0 : (0 : Int) < (j : Int) + 1 := by omega
        by_cases ht : t = (m : Int)
        · have hs2 : runsL p (m + 1) = acc.set j ⟨f, (m : Int) + 1⟩ := by rw [hs, addM, hk]; simp [hget, ht]
          ((try simp -implicitDefEqProofs [-loopQ_n, h, h', hg, hp, hacc, hk, boolC, w1, hget, hf, ht, w3, w4, p0, hj, spC]) <;> (repeat' (first | (refine condD_dec ?_ ?_ <;> (intro hc; (try simp -implicitDefEqProofs [-loopQ_n, hc, h, h', hg, hp, hacc, hk, boolC, w1, hget, hf, ht, w3, w4, p0, hj, spC]))) | (refine guardD_dec ?_ ?_ <;> (intro hc; (try simp -implicitDefEqProofs [-loopQ_n, hc, h, h', hg, hp, hacc, hk, boolC, w1, hget, hf, ht, w3, w4, p0, hj, spC]))) | (refine condD_intro ?_ ?_ <;> (intro hd; have hc := hd; (try simp at hc) <;> (try simp -implicitDefEqProofs [-loopQ_n, hd, hc, h, h', hg, hp, hacc, hk, boolC, w1, hget, hf, ht, w3, w4, p0, hj, spC]))) | (refine guardD_intro ?_ ?_ <;> (intro hd; have hc := hd; (try simp at hc) <;> (try simp -implicitDefEqProofs [-loopQ_n, hd, hc, h, h', hg, hp, hacc, hk, boolC, w1, hget, hf, ht, w3, w4, p0, hj, spC]))) | (refine ldD_ep ?_ ?_; (focus kernel_rfl); (try simp -implicitDefEqProofs [-loopQ_n, h, h', hg, hp, hacc, hk, boolC, w1, hget, hf, ht, w3, w4, p0, hj, spC])))))
          rw [spC_set]
          refine loop_next (m + 1) h (by omega) (weak_of 3 0 rfl rfl ?_ ?_) <;> simp [hs2, hk, spC_refs]
        · have hs2 : runsL p (m + 1) = acc ++ [⟨m, (m : Int) + 1⟩] := by rw [hs, addM, hk]; simp [hget, ht]
          have hb : j ≤ 1073741822 := by omega
          ((try simp -implicitDefEqProofs [-loopQ_n, h, h', hg, hp, hacc, hk, boolC, w1, hget, hf, ht, w3, w4, p0, hj, spC, spC_snoc, hb]) <;> (repeat' (first | (refine condD_dec ?_ ?_ <;> (intro hc; (try simp -implicitDefEqProofs [-loopQ_n, hc, h, h', hg, hp, hacc, hk, boolC, w1, hget, hf, ht, w3, w4, p0, hj, spC, spC_snoc, hb]))) | (refine guardD_dec ?_ ?_ <;> (intro hc; (try simp -implicitDefEqProofs [-loopQ_n, hc, h, h', hg, hp, hacc, hk, boolC, w1, hget, hf, ht, w3, w4, p0, hj, spC, spC_snoc, hb]))) | (refine condD_intro ?_ ?_ <;> (intro hd; have hc := hd; (try simp at hc) <;> (try simp -implicitDefEqProofs [-loopQ_n, hd, hc, h, h', hg, hp, hacc, hk, boolC, w1, hget, hf, ht, w3, w4, p0, hj, spC, spC_snoc, hb]))) | (refine guardD_intro ?_ ?_ <;> (intro hd; have hc := hd; (try simp at hc) <;> (try simp -implicitDefEqProofs [-loopQ_n, hd, hc, h, h', hg, hp, hacc, hk, boolC, w1, hget, hf, ht, w3, w4, p0, hj, spC, spC_snoc, hb]))) | (refine ldD_ep ?_ ?_; (focus kernel_rfl); (try simp -implicitDefEqProofs [-loopQ_n, h, h', hg, hp, hacc, hk, boolC, w1, hget, hf, ht, w3, w4, p0, hj, spC, spC_snoc, hb])))))
          refine loop_next (m + 1) h (by omega) (weak_of 3 0 rfl rfl ?_ ?_) <;> simp [hs2, hk, spC_refs]
    · have hp : p (m : Int) = false := by simpa using hp
      have hs : runsL p (m + 1) = runsL p m := by simp only [runsL, hp, Bool.false_eq_true, if_false]
      ((try simp -implicitDefEqProofs [-loopQ_n, h, h', hg, hp, boolC, w1]) <;> (repeat' (first | (refine condD_dec ?_ ?_ <;> (intro hc; (try simp -implicitDefEqProofs [-loopQ_n, hc, h, h', hg, hp, boolC, w1]))) | (refine guardD_dec ?_ ?_ <;> (intro hc; (try simp -implicitDefEqProofs [-loopQ_n, hc, h, h', hg, hp, boolC, w1]))) | (refine condD_intro ?_ ?_ <;> (intro hd; have hc := hd; (try simp at hc) <;> (try simp -implicitDefEqProofs [-loopQ_n, hd, hc, h, h', hg, hp, boolC, w1]))) | (refine guardD_intro ?_ ?_ <;> (intro hd; have hc := hd; (try simp at hc) <;> (try simp -implicitDefEqProofs [-loopQ_n, hd, hc, h, h', hg, hp, boolC, w1]))) | (refine ldD_ep ?_ ?_; (focus kernel_rfl); (try simp -implicitDefEqProofs [-loopQ_n, h, h', hg, hp, boolC, w1])))))
      refine loop_next (m + 1) h (by omega) (weak_of 3 0 rfl rfl ?_ ?_) <;> simp [hs, spC_refs]
  · have h' : ¬ (m : Int) < 10080 := by omega
    have he : m = 10080 := by omega
    subst he
    clear hm h
    by_cases hk : 100 < (runsL p 10080).length
    · have hk' : (100 : Int) < (runsL p 10080).length := by omega
      ((try simp -implicitDefEqProofs [-loopQ_n, h', hk']) <;> (repeat' (first | (refine condD_dec ?_ ?_ <;> (intro hc; (try simp -implicitDefEqProofs [-loopQ_n, hc, h', hk']))) | (refine guardD_dec ?_ ?_ <;> (intro hc; (try simp -implicitDefEqProofs [-loopQ_n, hc, h', hk']))) | (refine condD_intro ?_ ?_ <;> (intro hd; have hc := hd; (try simp at hc) <;> (try simp -implicitDefEqProofs [-loopQ_n, hd, hc, h', hk']))) | (refine guardD_intro ?_ ?_ <;> (intro hd; have hc := hd; (try simp at hc) <;> (try simp -implicitDefEqProofs [-loopQ_n, hd, hc, h', hk']))) | (refine ldD_ep ?_ ?_; (focus kernel_rfl); (try simp -implicitDefEqProofs [-loopQ_n, h', hk'])))))
      exact endG_r (madeR (runsL p 10080)) (by simp -implicitDefEqProofs [madeR, hk]) ⟨rfl, by simp [madeH, hk]⟩
    · have hk' : ¬ (100 : Int) < (runsL p 10080).length := by omega
      ((try simp -implicitDefEqProofs [-loopQ_n, h', hk']) <;> (repeat' (first | (refine condD_dec ?_ ?_ <;> (intro hc; (try simp -implicitDefEqProofs [-loopQ_n, hc, h', hk']))) | (refine guardD_dec ?_ ?_ <;> (intro hc; (try simp -implicitDefEqProofs [-loopQ_n, hc, h', hk']))) | (refine condD_intro ?_ ?_ <;> (intro hd; have hc := hd; (try simp at hc) <;> (try simp -implicitDefEqProofs [-loopQ_n, hd, hc, h', hk']))) | (refine guardD_intro ?_ ?_ <;> (intro hd; have hc := hd; (try simp at hc) <;> (try simp -implicitDefEqProofs [-loopQ_n, hd, hc, h', hk']))) | (refine ldD_ep ?_ ?_; (focus kernel_rfl); (try simp -implicitDefEqProofs [-loopQ_n, h', hk'])))))
      exact endG_r (madeR (runsL p 10080)) (by simp -implicitDefEqProofs [madeR, hk]) ⟨rfl, by simp [madeH, hk]⟩
def partP (P : Int → Bool) (m : Nat) : Int → Bool := fun w => decide (w < (m : Int)) && P w
theorem part_zero (P : Int → Bool) : markL (partP P 0) = markL fun _ => false := by
  simp only [markL, List.map_inj_left]
  intro m _
  simp [partP]; intro h; omega
theorem part_succ (P : Int → Bool) (m : Nat) : setP (partP P m) m (P (m : Int)) = partP P (m + 1) := by
  funext w
  unfold setP partP
  by_cases h : w = (m : Int)
  · subst h; rw [if_pos rfl, decide_eq_true (by omega)]; simp
  · rw [if_neg h]; congr 1; rw [decide_eq_decide]; omega
theorem part_all (P : Int → Bool) : markL (partP P 10080) = markL P := by
  simp only [markL, List.map_inj_left]
  intro m hm
  rw [List.mem_range] at hm
  simp only [partP]
  rw [decide_eq_true (by omega)]; simp
theorem calOut_cases (l : List Sp) : calOut l = .tup [.agg [.rs []], .int .i64 5] ∨ calOut l = .tup [.agg [.rs (rowsOf spC l)], .int .i64 0] := by
  unfold calOut
  split
  · exact .inl rfl
  · exact .inr rfl
def bothP (a b : List Sp) : Int → Bool := fun w => openW (w % 10080) a && openW (w % 10080) b
set_option maxHeartbeats 8000000 in
theorem rboth_pure (a b : List Sp) : Pure Tryd.prog 30 [.agg [.rs (rowsOf spC a)], .agg [.rs (rowsOf spC b)]] (if calOk a = true ∧ calOk b = true then calOut (runsL (bothP a b) 10080) else .tup [.agg [.rs []], .int .i64 1]) := by
  refine pure_of mixed Tryd.func30 rfl (by kernel_rfl) (of_decide_eq_true rfl) (by kernel_rfl) (vc_run ?_)
  by_cases hab : calOk a = true ∧ calOk b = true
  · rw [if_pos hab]
    obtain ⟨ha, hb⟩ := hab
    have hla := (calOk_v ha).1
    have hlb := (calOk_v hb).1
    ((try simp -implicitDefEqProofs [-loopQ_n, ha, hb, markL_zero]) <;> (repeat' (first | (refine condD_dec ?_ ?_ <;> (intro hc; (try simp -implicitDefEqProofs [-loopQ_n, hc, ha, hb, markL_zero]))) | (refine guardD_dec ?_ ?_ <;> (intro hc; (try simp -implicitDefEqProofs [-loopQ_n, hc, ha, hb, markL_zero]))) | (refine condD_intro ?_ ?_ <;> (intro hd; have hc := hd; (try simp at hc) <;> (try simp -implicitDefEqProofs [-loopQ_n, hd, hc, ha, hb, markL_zero]))) | (refine guardD_intro ?_ ?_ <;> (intro hd; have hc := hd; (try simp at hc) <;> (try simp -implicitDefEqProofs [-loopQ_n, hd, hc, ha, hb, markL_zero]))) | (refine ldD_ep ?_ ?_; (focus kernel_rfl); (try simp -implicitDefEqProofs [-loopQ_n, ha, hb, markL_zero])) | (refine callS_mk ?_; (try simp -implicitDefEqProofs [-loopQ_n, ha, hb, markL_zero]); (first | refine callS_intro (rvalid_pure _) (.inl rfl) ?_); (try simp -implicitDefEqProofs [-loopQ_n, ha, hb, markL_zero])))))
    refine loop_intro (σ := Nat) (fun m => ⟨[(2, .op 0 0), (3, .op 1 0), (4, .op 2 0), (6, .os 3 10080), (7, .int .i64 m)], [.box 24 [.rs (rowsOf spC a)], .box 24 [.rs (rowsOf spC b)], .box 24 [.nils], .row 4 false (rowsOf boolC (markL (partP (bothP a b) m)))]⟩) (fun m => m ≤ 10080) (fun m => 10080 - m) 0 (by omega) ?_ ?_
    · refine weak_of 4 0 rfl rfl ?_ ?_ <;> simp [part_zero, boolC_refs]
    rintro m hm
    by_cases h : m < 10080
    · have h' : (m : Int) < 10080 := by omega
      have w1 := w_succ h (by omega)
      have hin : inst (m : Int) = true := by rw [inst_iff]; omega
      have hg : (markL (partP (bothP a b) m))[m]? = some (partP (bothP a b) m (m : Int)) := markL_get h
      have hsu := part_succ (bothP a b) m
      by_cases oa : openW ((m : Int) % 10080) a = true
      · by_cases ob : openW ((m : Int) % 10080) b = true
        · have hP : bothP a b (m : Int) = true := by simp [bothP, oa, ob]
          rw [hP] at hsu
          ((try simp -implicitDefEqProofs [-loopQ_n, h, h', w1, oa, ob, markL_len, hg, boolC, markL_set, hsu]) <;> (repeat' (first | (refine condD_dec ?_ ?_ <;> (intro hc; (try simp -implicitDefEqProofs [-loopQ_n, hc, h, h', w1, oa, ob, markL_len, hg, boolC, markL_set, hsu]))) | (refine guardD_dec ?_ ?_ <;> (intro hc; (try simp -implicitDefEqProofs [-loopQ_n, hc, h, h', w1, oa, ob, markL_len, hg, boolC, markL_set, hsu]))) | (refine condD_intro ?_ ?_ <;> (intro hd; have hc := hd; (try simp at hc) <;> (try simp -implicitDefEqProofs [-loopQ_n, hd, hc, h, h', w1, oa, ob, markL_len, hg, boolC, markL_set, hsu]))) | (refine guardD_intro ?_ ?_ <;> (intro hd; have hc := hd; (try simp at hc) <;> (try simp -implicitDefEqProofs [-loopQ_n, hd, hc, h, h', w1, oa, ob, markL_len, hg, boolC, markL_set, hsu]))) | (refine ldD_ep ?_ ?_; (focus kernel_rfl); (try simp -implicitDefEqProofs [-loopQ_n, h, h', w1, oa, ob, markL_len, hg, boolC, markL_set, hsu])) | (refine callS_mk ?_; (try simp -implicitDefEqProofs [-loopQ_n, h, h', w1, oa, ob, markL_len, hg, boolC, markL_set, hsu]); (first | refine callS_intro (ris_pure _ _ hla hin) (.inl rfl) ?_ | refine callS_intro (ris_pure _ _ hlb hin) (.inl rfl) ?_); (try simp -implicitDefEqProofs [-loopQ_n, h, h', w1, oa, ob, markL_len, hg, boolC, markL_set, hsu])))))
          refine loop_next (m + 1) h (by omega) (weak_of 4 0 rfl rfl ?_ ?_) <;> simp [boolC_refs]
        · have ob : openW ((m : Int) % 10080) b = false := by simpa using ob
          have hP : bothP a b (m : Int) = false := by simp [bothP, ob]
          rw [hP] at hsu
          ((try simp -implicitDefEqProofs [-loopQ_n, h, h', w1, oa, ob, markL_len, hg, boolC, markL_set, hsu]) <;> (repeat' (first | (refine condD_dec ?_ ?_ <;> (intro hc; (try simp -implicitDefEqProofs [-loopQ_n, hc, h, h', w1, oa, ob, markL_len, hg, boolC, markL_set, hsu]))) | (refine guardD_dec ?_ ?_ <;> (intro hc; (try simp -implicitDefEqProofs [-loopQ_n, hc, h, h', w1, oa, ob, markL_len, hg, boolC, markL_set, hsu]))) | (refine condD_intro ?_ ?_ <;> (intro hd; have hc := hd; (try simp at hc) <;> (try simp -implicitDefEqProofs [-loopQ_n, hd, hc, h, h', w1, oa, ob, markL_len, hg, boolC, markL_set, hsu]))) | (refine guardD_intro ?_ ?_ <;> (intro hd; have hc := hd; (try simp at hc) <;> (try simp -implicitDefEqProofs [-loopQ_n, hd, hc, h, h', w1, oa, ob, markL_len, hg, boolC, markL_set, hsu]))) | (refine ldD_ep ?_ ?_; (focus kernel_rfl); (try simp -implicitDefEqProofs [-loopQ_n, h, h', w1, oa, ob, markL_len, hg, boolC, markL_set, hsu])) | (refine callS_mk ?_; (try simp -implicitDefEqProofs [-loopQ_n, h, h', w1, oa, ob, markL_len, hg, boolC, markL_set, hsu]); (first | refine callS_intro (ris_pure _ _ hla hin) (.inl rfl) ?_ | refine callS_intro (ris_pure _ _ hlb hin) (.inl rfl) ?_); (try simp -implicitDefEqProofs [-loopQ_n, h, h', w1, oa, ob, markL_len, hg, boolC, markL_set, hsu])))))
          refine loop_next (m + 1) h (by omega) (weak_of 4 0 rfl rfl ?_ ?_) <;> simp [boolC_refs]
      · have oa : openW ((m : Int) % 10080) a = false := by simpa using oa
        have hP : bothP a b (m : Int) = false := by simp [bothP, oa]
        rw [hP] at hsu
        ((try simp -implicitDefEqProofs [-loopQ_n, h, h', w1, oa, markL_len, hg, boolC, markL_set, hsu]) <;> (repeat' (first | (refine condD_dec ?_ ?_ <;> (intro hc; (try simp -implicitDefEqProofs [-loopQ_n, hc, h, h', w1, oa, markL_len, hg, boolC, markL_set, hsu]))) | (refine guardD_dec ?_ ?_ <;> (intro hc; (try simp -implicitDefEqProofs [-loopQ_n, hc, h, h', w1, oa, markL_len, hg, boolC, markL_set, hsu]))) | (refine condD_intro ?_ ?_ <;> (intro hd; have hc := hd; (try simp at hc) <;> (try simp -implicitDefEqProofs [-loopQ_n, hd, hc, h, h', w1, oa, markL_len, hg, boolC, markL_set, hsu]))) | (refine guardD_intro ?_ ?_ <;> (intro hd; have hc := hd; (try simp at hc) <;> (try simp -implicitDefEqProofs [-loopQ_n, hd, hc, h, h', w1, oa, markL_len, hg, boolC, markL_set, hsu]))) | (refine ldD_ep ?_ ?_; (focus kernel_rfl); (try simp -implicitDefEqProofs [-loopQ_n, h, h', w1, oa, markL_len, hg, boolC, markL_set, hsu])) | (refine callS_mk ?_; (try simp -implicitDefEqProofs [-loopQ_n, h, h', w1, oa, markL_len, hg, boolC, markL_set, hsu]); (first | refine callS_intro (ris_pure _ _ hla hin) (.inl rfl) ?_); (try simp -implicitDefEqProofs [-loopQ_n, h, h', w1, oa, markL_len, hg, boolC, markL_set, hsu])))))
        refine loop_next (m + 1) h (by omega) (weak_of 4 0 rfl rfl ?_ ?_) <;> simp [boolC_refs]
    · have h' : ¬ (m : Int) < 10080 := by omega
      have he : m = 10080 := by omega
      subst he
      clear hm h
      have hM := made_new (bothP a b)
      have hx : ([AV.os 3 10080].mapM (reify [Blk.box 24 [.rs (rowsOf spC a)], .box 24 [.rs (rowsOf spC b)], .box 24 [.nils], .row 4 false (rowsOf boolC (markL (bothP a b)))] 8)) = some [.rs (rowsOf boolC (markL (bothP a b)))] := by simp [markL_len, boolC_reify]
      by_cases hk : 100 < (runsL (bothP a b) 10080).length
      · ((try simp -implicitDefEqProofs [-loopQ_n, h', part_all]) <;> (repeat' (first | (refine condD_dec ?_ ?_ <;> (intro hc; (try simp -implicitDefEqProofs [-loopQ_n, hc, h', part_all]))) | (refine guardD_dec ?_ ?_ <;> (intro hc; (try simp -implicitDefEqProofs [-loopQ_n, hc, h', part_all]))) | (refine condD_intro ?_ ?_ <;> (intro hd; have hc := hd; (try simp at hc) <;> (try simp -implicitDefEqProofs [-loopQ_n, hd, hc, h', part_all]))) | (refine guardD_intro ?_ ?_ <;> (intro hd; have hc := hd; (try simp at hc) <;> (try simp -implicitDefEqProofs [-loopQ_n, hd, hc, h', part_all]))) | (refine ldD_ep ?_ ?_; (focus kernel_rfl); (try simp -implicitDefEqProofs [-loopQ_n, h', part_all])))))
        refine new_intro hM hx (.inl ⟨by simp [madeR, hk, flatO, flatOL], by simp [madeH, hk, flatB, flatO, flatOL, rowsOf, spC]⟩) ?_
        ((try simp -implicitDefEqProofs [-loopQ_n, madeR, madeH, hk, shA, shL, shB, calOut]) <;> (repeat' (first | (refine condD_dec ?_ ?_ <;> (intro hc; (try simp -implicitDefEqProofs [-loopQ_n, hc, madeR, madeH, hk, shA, shL, shB, calOut]))) | (refine guardD_dec ?_ ?_ <;> (intro hc; (try simp -implicitDefEqProofs [-loopQ_n, hc, madeR, madeH, hk, shA, shL, shB, calOut]))) | (refine condD_intro ?_ ?_ <;> (intro hd; have hc := hd; (try simp at hc) <;> (try simp -implicitDefEqProofs [-loopQ_n, hd, hc, madeR, madeH, hk, shA, shL, shB, calOut]))) | (refine guardD_intro ?_ ?_ <;> (intro hd; have hc := hd; (try simp at hc) <;> (try simp -implicitDefEqProofs [-loopQ_n, hd, hc, madeR, madeH, hk, shA, shL, shB, calOut]))) | (refine ldD_ep ?_ ?_; (focus kernel_rfl); (try simp -implicitDefEqProofs [-loopQ_n, madeR, madeH, hk, shA, shL, shB, calOut])))))
      · ((try simp -implicitDefEqProofs [-loopQ_n, h', part_all]) <;> (repeat' (first | (refine condD_dec ?_ ?_ <;> (intro hc; (try simp -implicitDefEqProofs [-loopQ_n, hc, h', part_all]))) | (refine guardD_dec ?_ ?_ <;> (intro hc; (try simp -implicitDefEqProofs [-loopQ_n, hc, h', part_all]))) | (refine condD_intro ?_ ?_ <;> (intro hd; have hc := hd; (try simp at hc) <;> (try simp -implicitDefEqProofs [-loopQ_n, hd, hc, h', part_all]))) | (refine guardD_intro ?_ ?_ <;> (intro hd; have hc := hd; (try simp at hc) <;> (try simp -implicitDefEqProofs [-loopQ_n, hd, hc, h', part_all]))) | (refine ldD_ep ?_ ?_; (focus kernel_rfl); (try simp -implicitDefEqProofs [-loopQ_n, h', part_all])))))
        refine new_intro hM hx (.inl ⟨by simp [madeR, hk, flatO, flatOL], by simp [madeH, hk, flatB, flatO, flatOL, rowsOf, spC]⟩) ?_
        ((try simp -implicitDefEqProofs [-loopQ_n, madeR, madeH, hk, shA, shL, shB, calOut, spC_sh, spans_reify]) <;> (repeat' (first | (refine condD_dec ?_ ?_ <;> (intro hc; (try simp -implicitDefEqProofs [-loopQ_n, hc, madeR, madeH, hk, shA, shL, shB, calOut, spC_sh, spans_reify]))) | (refine guardD_dec ?_ ?_ <;> (intro hc; (try simp -implicitDefEqProofs [-loopQ_n, hc, madeR, madeH, hk, shA, shL, shB, calOut, spC_sh, spans_reify]))) | (refine condD_intro ?_ ?_ <;> (intro hd; have hc := hd; (try simp at hc) <;> (try simp -implicitDefEqProofs [-loopQ_n, hd, hc, madeR, madeH, hk, shA, shL, shB, calOut, spC_sh, spans_reify]))) | (refine guardD_intro ?_ ?_ <;> (intro hd; have hc := hd; (try simp at hc) <;> (try simp -implicitDefEqProofs [-loopQ_n, hd, hc, madeR, madeH, hk, shA, shL, shB, calOut, spC_sh, spans_reify]))) | (refine ldD_ep ?_ ?_; (focus kernel_rfl); (try simp -implicitDefEqProofs [-loopQ_n, madeR, madeH, hk, shA, shL, shB, calOut, spC_sh, spans_reify])))))
  · rw [if_neg hab]
    by_cases ha : calOk a = true
    · have hb : calOk b = false := by simpa [ha] using hab
      ((try simp -implicitDefEqProofs [-loopQ_n, ha, hb]) <;> (repeat' (first | (refine condD_dec ?_ ?_ <;> (intro hc; (try simp -implicitDefEqProofs [-loopQ_n, hc, ha, hb]))) | (refine guardD_dec ?_ ?_ <;> (intro hc; (try simp -implicitDefEqProofs [-loopQ_n, hc, ha, hb]))) | (refine condD_intro ?_ ?_ <;> (intro hd; have hc := hd; (try simp at hc) <;> (try simp -implicitDefEqProofs [-loopQ_n, hd, hc, ha, hb]))) | (refine guardD_intro ?_ ?_ <;> (intro hd; have hc := hd; (try simp at hc) <;> (try simp -implicitDefEqProofs [-loopQ_n, hd, hc, ha, hb]))) | (refine ldD_ep ?_ ?_; (focus kernel_rfl); (try simp -implicitDefEqProofs [-loopQ_n, ha, hb])) | (refine callS_mk ?_; (try simp -implicitDefEqProofs [-loopQ_n, ha, hb]); (first | refine callS_intro (rvalid_pure _) (.inl rfl) ?_); (try simp -implicitDefEqProofs [-loopQ_n, ha, hb])))))
    · have ha : calOk a = false := by simpa using ha
      ((try simp -implicitDefEqProofs [-loopQ_n, ha]) <;> (repeat' (first | (refine condD_dec ?_ ?_ <;> (intro hc; (try simp -implicitDefEqProofs [-loopQ_n, hc, ha]))) | (refine guardD_dec ?_ ?_ <;> (intro hc; (try simp -implicitDefEqProofs [-loopQ_n, hc, ha]))) | (refine condD_intro ?_ ?_ <;> (intro hd; have hc := hd; (try simp at hc) <;> (try simp -implicitDefEqProofs [-loopQ_n, hd, hc, ha]))) | (refine guardD_intro ?_ ?_ <;> (intro hd; have hc := hd; (try simp at hc) <;> (try simp -implicitDefEqProofs [-loopQ_n, hd, hc, ha]))) | (refine ldD_ep ?_ ?_; (focus kernel_rfl); (try simp -implicitDefEqProofs [-loopQ_n, ha])) | (refine callS_mk ?_; (try simp -implicitDefEqProofs [-loopQ_n, ha]); (first | refine callS_intro (rvalid_pure _) (.inl rfl) ?_); (try simp -implicitDefEqProofs [-loopQ_n, ha])))))
def closP (a : List Sp) : Int → Bool := fun w => !openW (w % 10080) a
set_option maxHeartbeats 8000000 in
theorem rclos_pure (a : List Sp) : Pure Tryd.prog 32 [.agg [.rs (rowsOf spC a)]] (if calOk a = true then calOut (runsL (closP a) 10080) else .tup [.agg [.rs []], .int .i64 1]) := by
  refine pure_of mixed Tryd.func32 rfl (by kernel_rfl) (of_decide_eq_true rfl) (by kernel_rfl) (vc_run ?_)
  by_cases ha : calOk a = true
  · rw [if_pos ha]
    have hla := (calOk_v ha).1
    ((try simp -implicitDefEqProofs [-loopQ_n, ha, markL_zero]) <;> (repeat' (first | (refine condD_dec ?_ ?_ <;> (intro hc; (try simp -implicitDefEqProofs [-loopQ_n, hc, ha, markL_zero]))) | (refine guardD_dec ?_ ?_ <;> (intro hc; (try simp -implicitDefEqProofs [-loopQ_n, hc, ha, markL_zero]))) | (refine condD_intro ?_ ?_ <;> (intro hd; have hc := hd; (try simp at hc) <;> (try simp -implicitDefEqProofs [-loopQ_n, hd, hc, ha, markL_zero]))) | (refine guardD_intro ?_ ?_ <;> (intro hd; have hc := hd; (try simp at hc) <;> (try simp -implicitDefEqProofs [-loopQ_n, hd, hc, ha, markL_zero]))) | (refine ldD_ep ?_ ?_; (focus kernel_rfl); (try simp -implicitDefEqProofs [-loopQ_n, ha, markL_zero])) | (refine callS_mk ?_; (try simp -implicitDefEqProofs [-loopQ_n, ha, markL_zero]); (first | refine callS_intro (rvalid_pure _) (.inl rfl) ?_); (try simp -implicitDefEqProofs [-loopQ_n, ha, markL_zero])))))
    refine loop_intro (σ := Nat) (fun m => ⟨[(1, .op 0 0), (2, .op 1 0), (4, .os 2 10080), (5, .int .i64 m)], [.box 24 [.rs (rowsOf spC a)], .box 24 [.nils], .row 4 false (rowsOf boolC (markL (partP (closP a) m)))]⟩) (fun m => m ≤ 10080) (fun m => 10080 - m) 0 (by omega) ?_ ?_
    · refine weak_of 3 0 rfl rfl ?_ ?_ <;> simp [part_zero, boolC_refs]
    rintro m hm
    by_cases h : m < 10080
    · have h' : (m : Int) < 10080 := by omega
      have w1 := w_succ h (by omega)
      have hin : inst (m : Int) = true := by rw [inst_iff]; omega
      have hg : (markL (partP (closP a) m))[m]? = some (partP (closP a) m (m : Int)) := markL_get h
      have hsu := part_succ (closP a) m
      have hP : closP a (m : Int) = !openW ((m : Int) % 10080) a := rfl
      rw [hP] at hsu
      ((try simp -implicitDefEqProofs [-loopQ_n, h, h', w1, markL_len, hg, boolC, markL_set, hsu]) <;> (repeat' (first | (refine condD_dec ?_ ?_ <;> (intro hc; (try simp -implicitDefEqProofs [-loopQ_n, hc, h, h', w1, markL_len, hg, boolC, markL_set, hsu]))) | (refine guardD_dec ?_ ?_ <;> (intro hc; (try simp -implicitDefEqProofs [-loopQ_n, hc, h, h', w1, markL_len, hg, boolC, markL_set, hsu]))) | (refine condD_intro ?_ ?_ <;> (intro hd; have hc := hd; (try simp at hc) <;> (try simp -implicitDefEqProofs [-loopQ_n, hd, hc, h, h', w1, markL_len, hg, boolC, markL_set, hsu]))) | (refine guardD_intro ?_ ?_ <;> (intro hd; have hc := hd; (try simp at hc) <;> (try simp -implicitDefEqProofs [-loopQ_n, hd, hc, h, h', w1, markL_len, hg, boolC, markL_set, hsu]))) | (refine ldD_ep ?_ ?_; (focus kernel_rfl); (try simp -implicitDefEqProofs [-loopQ_n, h, h', w1, markL_len, hg, boolC, markL_set, hsu])) | (refine callS_mk ?_; (try simp -implicitDefEqProofs [-loopQ_n, h, h', w1, markL_len, hg, boolC, markL_set, hsu]); (first | refine callS_intro (ris_pure _ _ hla hin) (.inl rfl) ?_); (try simp -implicitDefEqProofs [-loopQ_n, h, h', w1, markL_len, hg, boolC, markL_set, hsu])))))
      refine loop_next (m + 1) h (by omega) (weak_of 3 0 rfl rfl ?_ ?_) <;> simp [boolC_refs]
    · have h' : ¬ (m : Int) < 10080 := by omega
      have he : m = 10080 := by omega
      subst he
      clear hm h
      have hM := made_new (closP a)
      have hx : ([AV.os 2 10080].mapM (reify [Blk.box 24 [.rs (rowsOf spC a)], .box 24 [.nils], .row 4 false (rowsOf boolC (markL (closP a)))] 8)) = some [.rs (rowsOf boolC (markL (closP a)))] := by simp [markL_len, boolC_reify]
      by_cases hk : 100 < (runsL (closP a) 10080).length
      · ((try simp -implicitDefEqProofs [-loopQ_n, h', part_all]) <;> (repeat' (first | (refine condD_dec ?_ ?_ <;> (intro hc; (try simp -implicitDefEqProofs [-loopQ_n, hc, h', part_all]))) | (refine guardD_dec ?_ ?_ <;> (intro hc; (try simp -implicitDefEqProofs [-loopQ_n, hc, h', part_all]))) | (refine condD_intro ?_ ?_ <;> (intro hd; have hc := hd; (try simp at hc) <;> (try simp -implicitDefEqProofs [-loopQ_n, hd, hc, h', part_all]))) | (refine guardD_intro ?_ ?_ <;> (intro hd; have hc := hd; (try simp at hc) <;> (try simp -implicitDefEqProofs [-loopQ_n, hd, hc, h', part_all]))) | (refine ldD_ep ?_ ?_; (focus kernel_rfl); (try simp -implicitDefEqProofs [-loopQ_n, h', part_all])))))
        refine new_intro hM hx (.inl ⟨by simp [madeR, hk, flatO, flatOL], by simp [madeH, hk, flatB, flatO, flatOL, rowsOf, spC]⟩) ?_
        ((try simp -implicitDefEqProofs [-loopQ_n, madeR, madeH, hk, shA, shL, shB, calOut]) <;> (repeat' (first | (refine condD_dec ?_ ?_ <;> (intro hc; (try simp -implicitDefEqProofs [-loopQ_n, hc, madeR, madeH, hk, shA, shL, shB, calOut]))) | (refine guardD_dec ?_ ?_ <;> (intro hc; (try simp -implicitDefEqProofs [-loopQ_n, hc, madeR, madeH, hk, shA, shL, shB, calOut]))) | (refine condD_intro ?_ ?_ <;> (intro hd; have hc := hd; (try simp at hc) <;> (try simp -implicitDefEqProofs [-loopQ_n, hd, hc, madeR, madeH, hk, shA, shL, shB, calOut]))) | (refine guardD_intro ?_ ?_ <;> (intro hd; have hc := hd; (try simp at hc) <;> (try simp -implicitDefEqProofs [-loopQ_n, hd, hc, madeR, madeH, hk, shA, shL, shB, calOut]))) | (refine ldD_ep ?_ ?_; (focus kernel_rfl); (try simp -implicitDefEqProofs [-loopQ_n, madeR, madeH, hk, shA, shL, shB, calOut])))))
      · ((try simp -implicitDefEqProofs [-loopQ_n, h', part_all]) <;> (repeat' (first | (refine condD_dec ?_ ?_ <;> (intro hc; (try simp -implicitDefEqProofs [-loopQ_n, hc, h', part_all]))) | (refine guardD_dec ?_ ?_ <;> (intro hc; (try simp -implicitDefEqProofs [-loopQ_n, hc, h', part_all]))) | (refine condD_intro ?_ ?_ <;> (intro hd; have hc := hd; (try simp at hc) <;> (try simp -implicitDefEqProofs [-loopQ_n, hd, hc, h', part_all]))) | (refine guardD_intro ?_ ?_ <;> (intro hd; have hc := hd; (try simp at hc) <;> (try simp -implicitDefEqProofs [-loopQ_n, hd, hc, h', part_all]))) | (refine ldD_ep ?_ ?_; (focus kernel_rfl); (try simp -implicitDefEqProofs [-loopQ_n, h', part_all])))))
        refine new_intro hM hx (.inl ⟨by simp [madeR, hk, flatO, flatOL], by simp [madeH, hk, flatB, flatO, flatOL, rowsOf, spC]⟩) ?_
        ((try simp -implicitDefEqProofs [-loopQ_n, madeR, madeH, hk, shA, shL, shB, calOut, spC_sh, spans_reify]) <;> (repeat' (first | (refine condD_dec ?_ ?_ <;> (intro hc; (try simp -implicitDefEqProofs [-loopQ_n, hc, madeR, madeH, hk, shA, shL, shB, calOut, spC_sh, spans_reify]))) | (refine guardD_dec ?_ ?_ <;> (intro hc; (try simp -implicitDefEqProofs [-loopQ_n, hc, madeR, madeH, hk, shA, shL, shB, calOut, spC_sh, spans_reify]))) | (refine condD_intro ?_ ?_ <;> (intro hd; have hc := hd; (try simp at hc) <;> (try simp -implicitDefEqProofs [-loopQ_n, hd, hc, madeR, madeH, hk, shA, shL, shB, calOut, spC_sh, spans_reify]))) | (refine guardD_intro ?_ ?_ <;> (intro hd; have hc := hd; (try simp at hc) <;> (try simp -implicitDefEqProofs [-loopQ_n, hd, hc, madeR, madeH, hk, shA, shL, shB, calOut, spC_sh, spans_reify]))) | (refine ldD_ep ?_ ?_; (focus kernel_rfl); (try simp -implicitDefEqProofs [-loopQ_n, madeR, madeH, hk, shA, shL, shB, calOut, spC_sh, spans_reify])))))
  · rw [if_neg ha]
    have ha : calOk a = false := by simpa using ha
    ((try simp -implicitDefEqProofs [-loopQ_n, ha]) <;> (repeat' (first | (refine condD_dec ?_ ?_ <;> (intro hc; (try simp -implicitDefEqProofs [-loopQ_n, hc, ha]))) | (refine guardD_dec ?_ ?_ <;> (intro hc; (try simp -implicitDefEqProofs [-loopQ_n, hc, ha]))) | (refine condD_intro ?_ ?_ <;> (intro hd; have hc := hd; (try simp at hc) <;> (try simp -implicitDefEqProofs [-loopQ_n, hd, hc, ha]))) | (refine guardD_intro ?_ ?_ <;> (intro hd; have hc := hd; (try simp at hc) <;> (try simp -implicitDefEqProofs [-loopQ_n, hd, hc, ha]))) | (refine ldD_ep ?_ ?_; (focus kernel_rfl); (try simp -implicitDefEqProofs [-loopQ_n, ha])) | (refine callS_mk ?_; (try simp -implicitDefEqProofs [-loopQ_n, ha]); (first | refine callS_intro (rvalid_pure _) (.inl rfl) ?_); (try simp -implicitDefEqProofs [-loopQ_n, ha])))))
def makeP (l : List Sp) : Int → Bool := fun w => l.any (inS w)
def makeOk (l : List Sp) : Bool := decide (l.length ≤ 1000) && l.all wkV
def takeP (l : List Sp) (i : Nat) : Int → Bool := fun w => (l.take i).any (inS w)
def inP (q : Int → Bool) (f m : Int) : Int → Bool := fun w => q w || (decide (f ≤ w) && decide (w < m))
theorem inP_start (q : Int → Bool) (f : Int) : inP q f f = q := by
  funext w
  unfold inP
  have : (decide (f ≤ w) && decide (w < f)) = false := by simp
  rw [this, Bool.or_false]
theorem inP_next (q : Int → Bool) (f : Int) (k : Nat) (h : f ≤ (k : Int)) : setP (inP q f (k : Int)) k true = inP q f ((k : Int) + 1) := by
  funext w
  unfold setP inP
  by_cases e : w = (k : Int)
  · subst e; rw [if_pos rfl]; simp; right; omega
  · rw [if_neg e]
    congr 2
    rw [decide_eq_decide]; omega
theorem takeP_next {l : List Sp} {i : Nat} (h : i < l.length) : inP (takeP l i) l[i].f l[i].t = takeP l (i + 1) := by
  funext w
  unfold inP takeP
  rw [List.take_add_one, List.any_append]
  simp [h, inS]
theorem takeP_zero (l : List Sp) : markL (takeP l 0) = markL fun _ => false := by simp [markL, takeP]
theorem takeP_all (l : List Sp) : takeP l l.length = makeP l := by funext w; simp [takeP, makeP]
set_option maxHeartbeats 8000000 in
theorem rmake_pure (l : List Sp) (hl : l.length ≤ 1000000) : Pure Tryd.prog 28 [.rs (rowsOf spC l)] (if makeOk l = true then calOut (runsL (makeP l) 10080) else .tup [.agg [.rs []], .int .i64 1]) := by
  refine pure_of mixed Tryd.func28 rfl (by kernel_rfl) (of_decide_eq_true rfl) (by kernel_rfl) (vc_run ?_)
  by_cases h1 : 1000 < l.length
  · have h1' : (1000 : Int) < l.length := by omega
    have hno : makeOk l = false := by unfold makeOk; rw [decide_eq_false (by omega)]; rfl
    rw [hno]
    ((try simp -implicitDefEqProofs [-loopQ_n, h1']) <;> (repeat' (first | (refine condD_dec ?_ ?_ <;> (intro hc; (try simp -implicitDefEqProofs [-loopQ_n, hc, h1']))) | (refine guardD_dec ?_ ?_ <;> (intro hc; (try simp -implicitDefEqProofs [-loopQ_n, hc, h1']))) | (refine condD_intro ?_ ?_ <;> (intro hd; have hc := hd; (try simp at hc) <;> (try simp -implicitDefEqProofs [-loopQ_n, hd, hc, h1']))) | (refine guardD_intro ?_ ?_ <;> (intro hd; have hc := hd; (try simp at hc) <;> (try simp -implicitDefEqProofs [-loopQ_n, hd, hc, h1']))) | (refine ldD_ep ?_ ?_; (focus kernel_rfl); (try simp -implicitDefEqProofs [-loopQ_n, h1'])))))
  have h1' : ¬ (1000 : Int) < l.length := by omega
  have hl2 : l.length ≤ 1000 := by omega
  ((try simp -implicitDefEqProofs [-loopQ_n, h1', markL_zero]) <;> (repeat' (first | (refine condD_dec ?_ ?_ <;> (intro hc; (try simp -implicitDefEqProofs [-loopQ_n, hc, h1', markL_zero]))) | (refine guardD_dec ?_ ?_ <;> (intro hc; (try simp -implicitDefEqProofs [-loopQ_n, hc, h1', markL_zero]))) | (refine condD_intro ?_ ?_ <;> (intro hd; have hc := hd; (try simp at hc) <;> (try simp -implicitDefEqProofs [-loopQ_n, hd, hc, h1', markL_zero]))) | (refine guardD_intro ?_ ?_ <;> (intro hd; have hc := hd; (try simp at hc) <;> (try simp -implicitDefEqProofs [-loopQ_n, hd, hc, h1', markL_zero]))) | (refine ldD_ep ?_ ?_; (focus kernel_rfl); (try simp -implicitDefEqProofs [-loopQ_n, h1', markL_zero])))))
  refine loop_intro (σ := Nat) (fun i => ⟨[(0, .rs (rowsOf spC l)), (2, .op 0 0), (4, .os 1 10080), (5, .int .i64 i)], [.box 24 [.nils], .row 4 false (rowsOf boolC (markL fun _ => false))]⟩) (fun i => i ≤ l.length ∧ ∀ (j : Nat) (h : j < l.length), j < i → wkV l[j] = true) (fun i => l.length - i) 0 ⟨by omega, fun j h q => absurd q (by omega)⟩ ?_ ?_
  · refine weak_of 2 0 rfl rfl ?_ ?_ <;> simp [boolC_refs]
  rintro i ⟨hi, hall⟩
  by_cases h : i < l.length
  · have w1 := w_succ h (by omega)
    obtain ⟨⟨f, t⟩, hf⟩ : ∃ e, l[i] = e := ⟨_, rfl⟩
    by_cases hw : wkV ⟨f, t⟩ = true
    · ((try simp -implicitDefEqProofs [-loopQ_n, h, w1, hf, hw, spC]) <;> (repeat' (first | (refine condD_dec ?_ ?_ <;> (intro hc; (try simp -implicitDefEqProofs [-loopQ_n, hc, h, w1, hf, hw, spC]))) | (refine guardD_dec ?_ ?_ <;> (intro hc; (try simp -implicitDefEqProofs [-loopQ_n, hc, h, w1, hf, hw, spC]))) | (refine condD_intro ?_ ?_ <;> (intro hd; have hc := hd; (try simp at hc) <;> (try simp -implicitDefEqProofs [-loopQ_n, hd, hc, h, w1, hf, hw, spC]))) | (refine guardD_intro ?_ ?_ <;> (intro hd; have hc := hd; (try simp at hc) <;> (try simp -implicitDefEqProofs [-loopQ_n, hd, hc, h, w1, hf, hw, spC]))) | (refine ldD_ep ?_ ?_; (focus kernel_rfl); (try simp -implicitDefEqProofs [-loopQ_n, h, w1, hf, hw, spC])) | (refine callS_mk ?_; (try simp -implicitDefEqProofs [-loopQ_n, h, w1, hf, hw, spC]); (first | refine callS_intro (rweek_pure f t) (.inl rfl) ?_); (try simp -implicitDefEqProofs [-loopQ_n, h, w1, hf, hw, spC])))))
      refine loop_next (i + 1) ⟨h, fun j hj q => ?_⟩ (by omega) (weak_of 2 0 rfl rfl ?_ ?_)
      · by_cases e : j = i
        · subst e; rw [hf]; exact hw
        · exact hall j hj (by omega)
      · simp
      · simp [boolC_refs]
    · have hw : wkV ⟨f, t⟩ = false := by simpa using hw
      have hno : makeOk l = false := by
        rw [← Bool.not_eq_true]
        intro q
        simp only [makeOk, Bool.and_eq_true] at q
        have := (List.all_eq_true.1 q.2) l[i] (List.getElem_mem h)
        rw [hf, hw] at this; cases this
      rw [hno]
      ((try simp -implicitDefEqProofs [-loopQ_n, h, w1, hf, hw, spC]) <;> (repeat' (first | (refine condD_dec ?_ ?_ <;> (intro hc; (try simp -implicitDefEqProofs [-loopQ_n, hc, h, w1, hf, hw, spC]))) | (refine guardD_dec ?_ ?_ <;> (intro hc; (try simp -implicitDefEqProofs [-loopQ_n, hc, h, w1, hf, hw, spC]))) | (refine condD_intro ?_ ?_ <;> (intro hd; have hc := hd; (try simp at hc) <;> (try simp -implicitDefEqProofs [-loopQ_n, hd, hc, h, w1, hf, hw, spC]))) | (refine guardD_intro ?_ ?_ <;> (intro hd; have hc := hd; (try simp at hc) <;> (try simp -implicitDefEqProofs [-loopQ_n, hd, hc, h, w1, hf, hw, spC]))) | (refine ldD_ep ?_ ?_; (focus kernel_rfl); (try simp -implicitDefEqProofs [-loopQ_n, h, w1, hf, hw, spC])) | (refine callS_mk ?_; (try simp -implicitDefEqProofs [-loopQ_n, h, w1, hf, hw, spC]); (first | refine callS_intro (rweek_pure f t) (.inl rfl) ?_); (try simp -implicitDefEqProofs [-loopQ_n, h, w1, hf, hw, spC])))))
  · have hv : ∀ s ∈ l, wkV s = true := fun s hs => by
      obtain ⟨j, hj, rfl⟩ := List.getElem_of_mem hs
      exact hall j hj (by omega)
    have hyes : makeOk l = true := by simp only [makeOk, Bool.and_eq_true, decide_eq_true_eq, List.all_eq_true]; exact ⟨hl2, hv⟩
    rw [hyes]
    clear hall hi
    ((try simp -implicitDefEqProofs [-loopQ_n, h]) <;> (repeat' (first | (refine condD_dec ?_ ?_ <;> (intro hc; (try simp -implicitDefEqProofs [-loopQ_n, hc, h]))) | (refine guardD_dec ?_ ?_ <;> (intro hc; (try simp -implicitDefEqProofs [-loopQ_n, hc, h]))) | (refine condD_intro ?_ ?_ <;> (intro hd; have hc := hd; (try simp at hc) <;> (try simp -implicitDefEqProofs [-loopQ_n, hd, hc, h]))) | (refine guardD_intro ?_ ?_ <;> (intro hd; have hc := hd; (try simp at hc) <;> (try simp -implicitDefEqProofs [-loopQ_n, hd, hc, h]))) | (refine ldD_ep ?_ ?_; (focus kernel_rfl); (try simp -implicitDefEqProofs [-loopQ_n, h])))))
    refine loop_intro (σ := Nat) (fun i => ⟨[(0, .rs (rowsOf spC l)), (2, .op 0 0), (4, .os 1 10080), (6, .int .i64 i)], [.box 24 [.nils], .row 4 false (rowsOf boolC (markL (takeP l i)))]⟩) (fun i => i ≤ l.length) (fun i => l.length - i) 0 (by omega) ?_ ?_
    · refine weak_of 2 0 rfl rfl ?_ ?_ <;> simp [takeP_zero, boolC_refs]
    rintro i hi
    by_cases h : i < l.length
    · have w1 := w_succ h (by omega)
      have hnx := takeP_next h
      have hwk := hv _ (List.getElem_mem h)
      obtain ⟨⟨f, t⟩, hf⟩ : ∃ e, l[i] = e := ⟨_, rfl⟩
      rw [hf] at hnx hwk
      simp only [wkV, spV, Bool.and_eq_true, decide_eq_true_eq] at hwk
      simp only at hnx
      obtain ⟨k0, rfl⟩ := Int.eq_ofNat_of_zero_le hwk.1.1.1
      obtain ⟨k1, rfl⟩ := Int.eq_ofNat_of_zero_le (show 0 ≤ t by omega)
      ((try simp -implicitDefEqProofs [-loopQ_n, h, hf, spC]) <;> (repeat' (first | (refine condD_dec ?_ ?_ <;> (intro hc; (try simp -implicitDefEqProofs [-loopQ_n, hc, h, hf, spC]))) | (refine guardD_dec ?_ ?_ <;> (intro hc; (try simp -implicitDefEqProofs [-loopQ_n, hc, h, hf, spC]))) | (refine condD_intro ?_ ?_ <;> (intro hd; have hc := hd; (try simp at hc) <;> (try simp -implicitDefEqProofs [-loopQ_n, hd, hc, h, hf, spC]))) | (refine guardD_intro ?_ ?_ <;> (intro hd; have hc := hd; (try simp at hc) <;> (try simp -implicitDefEqProofs [-loopQ_n, hd, hc, h, hf, spC]))) | (refine ldD_ep ?_ ?_; (focus kernel_rfl); (try simp -implicitDefEqProofs [-loopQ_n, h, hf, spC])))))
      refine loop_intro (σ := Nat) (fun k => ⟨[(0, .rs (rowsOf spC l)), (2, .op 0 0), (4, .os 1 10080), (6, .int .i64 i), (7, .int .i64 k)], [.box 24 [.nils], .row 4 false (rowsOf boolC (markL (inP (takeP l i) (k0 : Int) (k : Int))))]⟩) (fun k => k0 ≤ k ∧ k ≤ k1) (fun k => k1 - k) k0 ⟨Nat.le_refl _, by omega⟩ ?_ ?_
      · refine weak_of 2 0 rfl rfl ?_ ?_ <;> simp [inP_start, boolC_refs]
      rintro k ⟨hk0, hk1⟩
      by_cases g : k < k1
      · have w2 := w_succ g (by omega)
        have hk2 : k < 10080 := by omega
        have hg : (markL (inP (takeP l i) (k0 : Int) (k : Int)))[k]? = some (inP (takeP l i) (k0 : Int) (k : Int) (k : Int)) := markL_get hk2
        have hs := inP_next (takeP l i) (k0 : Int) k (by omega)
        ((try simp -implicitDefEqProofs [-loopQ_n, h, hf, spC, g, w2, hk2, hg, markL_len, boolC, markL_set, hs]) <;> (repeat' (first | (refine condD_dec ?_ ?_ <;> (intro hc; (try simp -implicitDefEqProofs [-loopQ_n, hc, h, hf, spC, g, w2, hk2, hg, markL_len, boolC, markL_set, hs]))) | (refine guardD_dec ?_ ?_ <;> (intro hc; (try simp -implicitDefEqProofs [-loopQ_n, hc, h, hf, spC, g, w2, hk2, hg, markL_len, boolC, markL_set, hs]))) | (refine condD_intro ?_ ?_ <;> (intro hd; have hc := hd; (try simp at hc) <;> (try simp -implicitDefEqProofs [-loopQ_n, hd, hc, h, hf, spC, g, w2, hk2, hg, markL_len, boolC, markL_set, hs]))) | (refine guardD_intro ?_ ?_ <;> (intro hd; have hc := hd; (try simp at hc) <;> (try simp -implicitDefEqProofs [-loopQ_n, hd, hc, h, hf, spC, g, w2, hk2, hg, markL_len, boolC, markL_set, hs]))) | (refine ldD_ep ?_ ?_; (focus kernel_rfl); (try simp -implicitDefEqProofs [-loopQ_n, h, hf, spC, g, w2, hk2, hg, markL_len, boolC, markL_set, hs])))))
        refine loop_next (k + 1) ⟨by omega, g⟩ (by omega) (weak_of 2 0 rfl rfl ?_ ?_) <;> simp [boolC_refs]
      · have hk3 : k = k1 := by omega
        subst hk3
        ((try simp -implicitDefEqProofs [-loopQ_n, h, hf, spC, w1, hnx]) <;> (repeat' (first | (refine condD_dec ?_ ?_ <;> (intro hc; (try simp -implicitDefEqProofs [-loopQ_n, hc, h, hf, spC, w1, hnx]))) | (refine guardD_dec ?_ ?_ <;> (intro hc; (try simp -implicitDefEqProofs [-loopQ_n, hc, h, hf, spC, w1, hnx]))) | (refine condD_intro ?_ ?_ <;> (intro hd; have hc := hd; (try simp at hc) <;> (try simp -implicitDefEqProofs [-loopQ_n, hd, hc, h, hf, spC, w1, hnx]))) | (refine guardD_intro ?_ ?_ <;> (intro hd; have hc := hd; (try simp at hc) <;> (try simp -implicitDefEqProofs [-loopQ_n, hd, hc, h, hf, spC, w1, hnx]))) | (refine ldD_ep ?_ ?_; (focus kernel_rfl); (try simp -implicitDefEqProofs [-loopQ_n, h, hf, spC, w1, hnx])))))
        refine loop_next (i + 1) h (by omega) (weak_of 2 0 rfl rfl ?_ ?_) <;> simp [boolC_refs]
    · have hi2 : i = l.length := by omega
      subst hi2
      have hM := made_new (makeP l)
      have hx : ([AV.os 1 10080].mapM (reify [Blk.box 24 [.nils], .row 4 false (rowsOf boolC (markL (makeP l)))] 8)) = some [.rs (rowsOf boolC (markL (makeP l)))] := by simp [markL_len, boolC_reify]
      by_cases hk : 100 < (runsL (makeP l) 10080).length
      · ((try simp -implicitDefEqProofs [-loopQ_n, takeP_all]) <;> (repeat' (first | (refine condD_dec ?_ ?_ <;> (intro hc; (try simp -implicitDefEqProofs [-loopQ_n, hc, takeP_all]))) | (refine guardD_dec ?_ ?_ <;> (intro hc; (try simp -implicitDefEqProofs [-loopQ_n, hc, takeP_all]))) | (refine condD_intro ?_ ?_ <;> (intro hd; have hc := hd; (try simp at hc) <;> (try simp -implicitDefEqProofs [-loopQ_n, hd, hc, takeP_all]))) | (refine guardD_intro ?_ ?_ <;> (intro hd; have hc := hd; (try simp at hc) <;> (try simp -implicitDefEqProofs [-loopQ_n, hd, hc, takeP_all]))) | (refine ldD_ep ?_ ?_; (focus kernel_rfl); (try simp -implicitDefEqProofs [-loopQ_n, takeP_all])))))
        refine new_intro hM hx (.inl ⟨by simp [madeR, hk, flatO, flatOL], by simp [madeH, hk, flatB, flatO, flatOL, rowsOf, spC]⟩) ?_
        ((try simp -implicitDefEqProofs [-loopQ_n, madeR, madeH, hk, shA, shL, shB, calOut]) <;> (repeat' (first | (refine condD_dec ?_ ?_ <;> (intro hc; (try simp -implicitDefEqProofs [-loopQ_n, hc, madeR, madeH, hk, shA, shL, shB, calOut]))) | (refine guardD_dec ?_ ?_ <;> (intro hc; (try simp -implicitDefEqProofs [-loopQ_n, hc, madeR, madeH, hk, shA, shL, shB, calOut]))) | (refine condD_intro ?_ ?_ <;> (intro hd; have hc := hd; (try simp at hc) <;> (try simp -implicitDefEqProofs [-loopQ_n, hd, hc, madeR, madeH, hk, shA, shL, shB, calOut]))) | (refine guardD_intro ?_ ?_ <;> (intro hd; have hc := hd; (try simp at hc) <;> (try simp -implicitDefEqProofs [-loopQ_n, hd, hc, madeR, madeH, hk, shA, shL, shB, calOut]))) | (refine ldD_ep ?_ ?_; (focus kernel_rfl); (try simp -implicitDefEqProofs [-loopQ_n, madeR, madeH, hk, shA, shL, shB, calOut])))))
      · ((try simp -implicitDefEqProofs [-loopQ_n, takeP_all]) <;> (repeat' (first | (refine condD_dec ?_ ?_ <;> (intro hc; (try simp -implicitDefEqProofs [-loopQ_n, hc, takeP_all]))) | (refine guardD_dec ?_ ?_ <;> (intro hc; (try simp -implicitDefEqProofs [-loopQ_n, hc, takeP_all]))) | (refine condD_intro ?_ ?_ <;> (intro hd; have hc := hd; (try simp at hc) <;> (try simp -implicitDefEqProofs [-loopQ_n, hd, hc, takeP_all]))) | (refine guardD_intro ?_ ?_ <;> (intro hd; have hc := hd; (try simp at hc) <;> (try simp -implicitDefEqProofs [-loopQ_n, hd, hc, takeP_all]))) | (refine ldD_ep ?_ ?_; (focus kernel_rfl); (try simp -implicitDefEqProofs [-loopQ_n, takeP_all])))))
        refine new_intro hM hx (.inl ⟨by simp [madeR, hk, flatO, flatOL], by simp [madeH, hk, flatB, flatO, flatOL, rowsOf, spC]⟩) ?_
        ((try simp -implicitDefEqProofs [-loopQ_n, madeR, madeH, hk, shA, shL, shB, calOut, spC_sh, spans_reify]) <;> (repeat' (first | (refine condD_dec ?_ ?_ <;> (intro hc; (try simp -implicitDefEqProofs [-loopQ_n, hc, madeR, madeH, hk, shA, shL, shB, calOut, spC_sh, spans_reify]))) | (refine guardD_dec ?_ ?_ <;> (intro hc; (try simp -implicitDefEqProofs [-loopQ_n, hc, madeR, madeH, hk, shA, shL, shB, calOut, spC_sh, spans_reify]))) | (refine condD_intro ?_ ?_ <;> (intro hd; have hc := hd; (try simp at hc) <;> (try simp -implicitDefEqProofs [-loopQ_n, hd, hc, madeR, madeH, hk, shA, shL, shB, calOut, spC_sh, spans_reify]))) | (refine guardD_intro ?_ ?_ <;> (intro hd; have hc := hd; (try simp at hc) <;> (try simp -implicitDefEqProofs [-loopQ_n, hd, hc, madeR, madeH, hk, shA, shL, shB, calOut, spC_sh, spans_reify]))) | (refine ldD_ep ?_ ?_; (focus kernel_rfl); (try simp -implicitDefEqProofs [-loopQ_n, madeR, madeH, hk, shA, shL, shB, calOut, spC_sh, spans_reify])))))
end Go.Proofs.YtlobmblakilmiaaDoor
