/- strings.Join with a space between (as in chapter 02, without its other texts). -/
import Derived.Test.YtkppfaennogcmaaM7
namespace Go.Proofs.Ytkppfaennogcmaa
set_option linter.unusedSimpArgs false
set_option linter.unusedVariables false
set_option linter.unnecessarySimpa false
set_option linter.unusedSectionVars false
open Go.RowKit
variable [Glob]
set_option maxRecDepth 100000
abbrev bl (s : ByteArray) : List UInt8 := s.data.toList
theorem bl_len {s : ByteArray} : (bl s).length = s.size := by simp [bl]
theorem w_suc {i n : Nat} (h : i < n) (hn : n ≤ 9223372036854775807) : wrapI .i64 ((i : Int) + 1) = ((i + 1 : Nat) : Int) := by rw [wrap_in (by omega) (by omega)]; omega
/-- What stands ahead, and parts behind it, each behind a space. -/
def jf : List UInt8 → List (List UInt8) → List UInt8
  | a, [] => a
  | a, y :: r => jf (a ++ 32 :: y) r
def jn : List (List UInt8) → List UInt8
  | [] => []
  | x :: r => jf x r
theorem jf_eq : ∀ (r : List (List UInt8)) (a : List UInt8), jf a r = a ++ r.flatMap (fun y => 32 :: y)
  | [], a => by simp [jf]
  | y :: r, a => by rw [jf, jf_eq r]; simp
def jnS (l : List ByteArray) : ByteArray := ⟨(jn (l.map bl)).toArray⟩
theorem ba_eta (s : ByteArray) : (⟨(bl s).toArray⟩ : ByteArray) = s := by cases s; simp
set_option maxHeartbeats 8000000 in
theorem join_pure (l : List ByteArray) (sp : ByteArray) (hsp : sp = ⟨#[32]⟩) (hl : l.length ≤ 1000) (hx : ∀ x ∈ l, x.size ≤ 1000) : Pure Try.prog 88 [.rs (rowsOf strC l), .str sp] (.str (jnS l)) := by
  have hs1 : sp.size = 1 := by rw [hsp]; rfl
  have hs1' : (sp.size : Int) = 1 := by omega
  have hsb : sp.data.toList = [32] := by rw [hsp]
  clear hsp
  refine pure_of mixed Try.func88 rfl (by kernel_rfl) (of_decide_eq_true rfl) (by kernel_rfl) (vc_run ?_)
  match l, hl, hx with
  | [], _, _ =>
    ((try simp -implicitDefEqProofs [-loopQ_n, rowsOf]) <;> (repeat' (first | (refine condD_dec ?_ ?_ <;> (intro hc; (try simp -implicitDefEqProofs [-loopQ_n, hc, rowsOf]))) | (refine guardD_dec ?_ ?_ <;> (intro hc; (try simp -implicitDefEqProofs [-loopQ_n, hc, rowsOf]))) | (refine condD_intro ?_ ?_ <;> (intro hd; have hc := hd; (try simp at hc) <;> (try simp -implicitDefEqProofs [-loopQ_n, hd, hc, rowsOf]))) | (refine guardD_intro ?_ ?_ <;> (intro hd; have hc := hd; (try simp at hc) <;> (try simp -implicitDefEqProofs [-loopQ_n, hd, hc, rowsOf]))) | (refine ldD_ep ?_ ?_; (focus kernel_rfl); (try simp -implicitDefEqProofs [-loopQ_n, rowsOf])))))
    rfl
  | [x], _, _ =>
    ((try simp -implicitDefEqProofs [-loopQ_n, rowsOf, strC]) <;> (repeat' (first | (refine condD_dec ?_ ?_ <;> (intro hc; (try simp -implicitDefEqProofs [-loopQ_n, hc, rowsOf, strC]))) | (refine guardD_dec ?_ ?_ <;> (intro hc; (try simp -implicitDefEqProofs [-loopQ_n, hc, rowsOf, strC]))) | (refine condD_intro ?_ ?_ <;> (intro hd; have hc := hd; (try simp at hc) <;> (try simp -implicitDefEqProofs [-loopQ_n, hd, hc, rowsOf, strC]))) | (refine guardD_intro ?_ ?_ <;> (intro hd; have hc := hd; (try simp at hc) <;> (try simp -implicitDefEqProofs [-loopQ_n, hd, hc, rowsOf, strC]))) | (refine ldD_ep ?_ ?_; (focus kernel_rfl); (try simp -implicitDefEqProofs [-loopQ_n, rowsOf, strC])))))
    exact (ba_eta x).symm
  | x :: y :: r, hl, hx =>
    generalize hr : y :: r = t at *
    have ht : 1 ≤ t.length := by subst hr; simp
    clear hr
    have hxl : x.size ≤ 1000 := hx x (by simp)
    simp only [List.length_cons] at hl
    have c0 : ¬ (t.length : Int) + 1 = 0 := by omega
    have c1 : ¬ t.length = 0 := by omega
    have c1' : ¬ (t.length : Int) + 1 = 1 := by omega
    have c2 : ¬ (t.length : Int) = 0 := by omega
    have w1 : wrapI .i64 (t.length : Int) = t.length := wrap_in (by omega) (by omega)
    have hq : 9223372036854774 ≤ Int.tdiv 9223372036854775807 (t.length : Int) ∧ Int.tdiv 9223372036854775807 (t.length : Int) ≤ 9223372036854775807 := by
      rw [Int.tdiv_eq_ediv_of_nonneg (by omega)]
      constructor
      · exact Int.le_ediv_of_mul_le (by omega) (by omega)
      · exact Int.ediv_le_self _ (by omega)
    have w2 : wrapI .i64 (Int.tdiv 9223372036854775807 (t.length : Int)) = Int.tdiv 9223372036854775807 (t.length : Int) := wrap_in (by omega) (by omega)
    have c3 : ¬ Int.tdiv 9223372036854775807 (t.length : Int) ≤ 1 := by omega
    ((try simp -implicitDefEqProofs [-loopQ_n, c0, c1, c1', c2, w1, w2, c3, hs1, hs1']) <;> (repeat' (first | (refine condD_dec ?_ ?_ <;> (intro hc; (try simp -implicitDefEqProofs [-loopQ_n, hc, c0, c1, c1', c2, w1, w2, c3, hs1, hs1']))) | (refine guardD_dec ?_ ?_ <;> (intro hc; (try simp -implicitDefEqProofs [-loopQ_n, hc, c0, c1, c1', c2, w1, w2, c3, hs1, hs1']))) | (refine condD_intro ?_ ?_ <;> (intro hd; have hc := hd; (try simp at hc) <;> (try simp -implicitDefEqProofs [-loopQ_n, hd, hc, c0, c1, c1', c2, w1, w2, c3, hs1, hs1']))) | (refine guardD_intro ?_ ?_ <;> (intro hd; have hc := hd; (try simp at hc) <;> (try simp -implicitDefEqProofs [-loopQ_n, hd, hc, c0, c1, c1', c2, w1, w2, c3, hs1, hs1']))) | (refine ldD_ep ?_ ?_; (focus kernel_rfl); (try simp -implicitDefEqProofs [-loopQ_n, c0, c1, c1', c2, w1, w2, c3, hs1, hs1'])))))
    refine loop_intro (σ := Nat × Nat) (fun z => ⟨[(0, .rs (rowsOf strC (x :: t))), (1, .str sp), (5, .int .i64 z.2), (39, .rs (rowsOf strC (x :: t))), (40, .int .i64 ((t.length : Int) + 1)), (41, .int .i64 z.1)], []⟩)
      (fun z => z.1 ≤ t.length + 1 ∧ 1 ≤ z.2 ∧ z.2 ≤ 1000 + 1000 * z.1) (fun z => t.length + 1 - z.1) (0, t.length) ⟨by simp, ht, by simp only; omega⟩ ?_ ?_
    · refine weak_of 0 0 rfl rfl ?_ ?_ <;> simp
    rintro ⟨i, n⟩ ⟨hi, hn, hN⟩
    simp only at hi hn hN
    by_cases h : i < t.length + 1
    · have h' : (i : Int) < (t.length : Int) + 1 := by omega
      have hlt : i < (x :: t).length := by simpa using h
      have hsz : ((x :: t)[i]'hlt).size ≤ 1000 := hx _ (List.getElem_mem hlt)
      have w3 : wrapI .i64 (9223372036854775807 - (n : Int)) = 9223372036854775807 - (n : Int) := wrap_in (by omega) (by omega)
      have w4 : wrapI .i64 ((n : Int) + (((x :: t)[i]'hlt).size : Int)) = ((n + ((x :: t)[i]'hlt).size : Nat) : Int) := by rw [wrap_in (by omega) (by omega)]; omega
      have w5 := w_suc h (by omega)
      have c4 : ¬ (9223372036854775807 - (n : Int)) < (((x :: t)[i]'hlt).size : Int) := by omega
      ((try simp -implicitDefEqProofs [-loopQ_n, h, h', hlt, w3, w4, w5, c4, strC]) <;> (repeat' (first | (refine condD_dec ?_ ?_ <;> (intro hc; (try simp -implicitDefEqProofs [-loopQ_n, hc, h, h', hlt, w3, w4, w5, c4, strC]))) | (refine guardD_dec ?_ ?_ <;> (intro hc; (try simp -implicitDefEqProofs [-loopQ_n, hc, h, h', hlt, w3, w4, w5, c4, strC]))) | (refine condD_intro ?_ ?_ <;> (intro hd; have hc := hd; (try simp at hc) <;> (try simp -implicitDefEqProofs [-loopQ_n, hd, hc, h, h', hlt, w3, w4, w5, c4, strC]))) | (refine guardD_intro ?_ ?_ <;> (intro hd; have hc := hd; (try simp at hc) <;> (try simp -implicitDefEqProofs [-loopQ_n, hd, hc, h, h', hlt, w3, w4, w5, c4, strC]))) | (refine ldD_ep ?_ ?_; (focus kernel_rfl); (try simp -implicitDefEqProofs [-loopQ_n, h, h', hlt, w3, w4, w5, c4, strC])))))
      refine loop_next (i + 1, n + ((x :: t)[i]'hlt).size) ⟨h, by simp only; omega, by simp only; omega⟩ (by simp only; omega) (weak_of 0 0 rfl rfl ?_ ?_) <;> simp
    · have h' : ¬ (i : Int) < (t.length : Int) + 1 := by omega
      have hn0 : 0 < n := hn
      have hn1 : n ≤ 1073741824 := by omega
      have hb1 : (0 + x.size) ≤ 1073741824 := by omega
      have c6 : (1 : Int) ≤ (t.length : Int) + 1 := by omega
      have ht2 : List.take t.length (rowsOf strC (x :: t)).tail = rowsOf strC t := by simp only [rowsOf, List.map_cons, List.tail_cons]; exact List.take_of_length_le (by simp)
      ((try simp -implicitDefEqProofs [-loopQ_n, h, h', strC, c6, ht2]) <;> (repeat' (first | (refine condD_dec ?_ ?_ <;> (intro hc; (try simp -implicitDefEqProofs [-loopQ_n, hc, h, h', strC, c6, ht2]))) | (refine guardD_dec ?_ ?_ <;> (intro hc; (try simp -implicitDefEqProofs [-loopQ_n, hc, h, h', strC, c6, ht2]))) | (refine condD_intro ?_ ?_ <;> (intro hd; have hc := hd; (try simp at hc) <;> (try simp -implicitDefEqProofs [-loopQ_n, hd, hc, h, h', strC, c6, ht2]))) | (refine guardD_intro ?_ ?_ <;> (intro hd; have hc := hd; (try simp at hc) <;> (try simp -implicitDefEqProofs [-loopQ_n, hd, hc, h, h', strC, c6, ht2]))) | (refine ldD_ep ?_ ?_; (focus kernel_rfl); (try simp -implicitDefEqProofs [-loopQ_n, h, h', strC, c6, ht2])) | (refine grow_call rfl hn0 hn1 rfl ?_; (try simp -implicitDefEqProofs [-loopQ_n, h, h', strC, c6, ht2])) | (refine ws_call rfl rfl rfl hb1 ?_; (try simp -implicitDefEqProofs [-loopQ_n, h, h', strC, c6, ht2])))))
      refine loop_intro (σ := Nat × List UInt8) (fun z => ⟨[(1, .str sp), (8, .op 0 0), (63, .rs (rowsOf strC t)), (64, .int .i64 t.length), (65, .int .i64 z.1)], [.box bT [.op 0 0, .os 1 z.2.length], .row 5 false (bR z.2)]⟩)
        (fun z => z.1 ≤ t.length ∧ z.2.length ≤ 1001 * (z.1 + 1) ∧ (0 < z.1 → z.2 ≠ []) ∧ jf z.2 ((t.drop z.1).map bl) = jf (bl x) (t.map bl)) (fun z => t.length - z.1) (0, bl x) ⟨by simp, by simp; omega, fun h => absurd h (by simp), rfl⟩ ?_ ?_
      · refine weak_of 2 0 rfl rfl ?_ ?_ <;> simp [bR_refs, bl]
      rintro ⟨j, acc⟩ ⟨hj, hal, hac, hR⟩
      simp only at hj hal hac hR
      by_cases g : j < t.length
      · have hsz : (t[j]'g).size ≤ 1000 := hx _ (by simp)
        have w6 := w_suc g (by omega)
        have hb2 : acc.length + sp.size ≤ 1073741824 := by omega
        have hb3 : acc.length + sp.size + (t[j]'g).size ≤ 1073741824 := by omega
        have hln : (acc ++ sp.data.toList).length = acc.length + sp.size := by simp
        rw [List.drop_eq_getElem_cons g, List.map_cons, jf] at hR
        ((try simp -implicitDefEqProofs [-loopQ_n, g, w6, strC]) <;> (repeat' (first | (refine condD_dec ?_ ?_ <;> (intro hc; (try simp -implicitDefEqProofs [-loopQ_n, hc, g, w6, strC]))) | (refine guardD_dec ?_ ?_ <;> (intro hc; (try simp -implicitDefEqProofs [-loopQ_n, hc, g, w6, strC]))) | (refine condD_intro ?_ ?_ <;> (intro hd; have hc := hd; (try simp at hc) <;> (try simp -implicitDefEqProofs [-loopQ_n, hd, hc, g, w6, strC]))) | (refine guardD_intro ?_ ?_ <;> (intro hd; have hc := hd; (try simp at hc) <;> (try simp -implicitDefEqProofs [-loopQ_n, hd, hc, g, w6, strC]))) | (refine ldD_ep ?_ ?_; (focus kernel_rfl); (try simp -implicitDefEqProofs [-loopQ_n, g, w6, strC])) | (refine ws_call (l := acc ++ sp.data.toList) rfl rfl hln hb3 ?_; (try simp -implicitDefEqProofs [-loopQ_n, g, w6, strC])) | (refine ws_call (l := acc) rfl rfl rfl hb2 ?_; (try simp -implicitDefEqProofs [-loopQ_n, g, w6, strC])))))
        have hal2 : acc ++ (sp.data.toList ++ (t[j]'g).data.toList) = acc ++ 32 :: bl (t[j]'g) := by rw [hsb]; rfl
        have hal3 : (acc ++ 32 :: bl (t[j]'g)).length = acc.length + sp.size + (t[j]'g).size := by simp; omega
        rw [hal2]
        refine loop_next (j + 1, acc ++ 32 :: bl (t[j]'g)) ⟨g, by simp only; omega, fun _ => by simp, by simpa using hR⟩ (by simp only; omega) (weak_of 2 0 rfl rfl ?_ ?_) <;> simp [bR_refs]
        omega
      · have hne : acc ≠ [] := hac (by omega)
        ((try simp -implicitDefEqProofs [-loopQ_n, g]) <;> (repeat' (first | (refine condD_dec ?_ ?_ <;> (intro hc; (try simp -implicitDefEqProofs [-loopQ_n, hc, g]))) | (refine guardD_dec ?_ ?_ <;> (intro hc; (try simp -implicitDefEqProofs [-loopQ_n, hc, g]))) | (refine condD_intro ?_ ?_ <;> (intro hd; have hc := hd; (try simp at hc) <;> (try simp -implicitDefEqProofs [-loopQ_n, hd, hc, g]))) | (refine guardD_intro ?_ ?_ <;> (intro hd; have hc := hd; (try simp at hc) <;> (try simp -implicitDefEqProofs [-loopQ_n, hd, hc, g]))) | (refine ldD_ep ?_ ?_; (focus kernel_rfl); (try simp -implicitDefEqProofs [-loopQ_n, g])) | (refine str_call rfl rfl rfl hne ?_; (try simp -implicitDefEqProofs [-loopQ_n, g])))))
        rw [List.drop_eq_nil_of_le (by omega)] at hR
        simp only [List.map_nil, jf] at hR
        rw [jnS, List.map_cons, jn, ← hR]
end Go.Proofs.Ytkppfaennogcmaa
