/- strings.Builder: WriteByte, WriteString and Grow on the call's own blocks. -/
import Derived.Test.YtlcblpofikijmaaBld
namespace Go.Proofs.Ytlcblpofikijmaa
set_option linter.unusedSimpArgs false
set_option linter.unusedVariables false
set_option linter.unnecessarySimpa false
set_option linter.unusedSectionVars false
open Go.RowKit
variable [Glob]
set_option maxRecDepth 100000
theorem rows_refsR {m : Nat} {rows : List (List AV)} (h : ∀ r ∈ rows, ∀ x ∈ r, refs m x = true) : refsR m rows = true := by
  simp only [refsR, List.all_eq_true]
  exact h
/-- Rows of plain data: one byte each. -/
def bR (l : List UInt8) : List (List AV) := rowsOf byteC l
theorem bR_refs {m : Nat} {l : List UInt8} : refsR m (bR l) = true := rowsOf_refs fun x => by simp [byteC, refs]
theorem bR_len {l : List UInt8} : (bR l).length = l.length := by simp [bR]
theorem bR_snoc {l : List UInt8} {c : UInt8} : bR l ++ [[.int .u8 c.toNat]] = bR (l ++ [c]) := by simp [bR, rowsOf, byteC]
theorem bR_app {l : List UInt8} {s : ByteArray} : bR l ++ bytesRows s = bR (l ++ s.data.toList) := by simp [bR, rowsOf, bytesRows_eq]
theorem bR_all1 {l : List UInt8} : allLen 1 (bR l) = true := rowsOf_allLen fun x => rfl
theorem bytesRows_len {s : ByteArray} : (bytesRows s).length = s.size := by simp [bytesRows]
set_option maxHeartbeats 4000000 in
theorem wb_new (c : UInt8) : Foot Try.prog 61 [.op 0 0, .int .u8 c.toNat] [.box bT [.nilp, .nils]] .any [.box bT [.op 0 0, .os 1 1], .row 5 false (bR [c])] := by
  refine foot_of mixed Try.func61 rfl (by kernel_rfl) (of_decide_eq_true rfl) (by kernel_rfl) (vc_run ?_)
  ((try simp -implicitDefEqProofs [-loopQ_n]) <;> (repeat' (first | (refine condD_dec ?_ ?_ <;> (intro hc; (try simp -implicitDefEqProofs [-loopQ_n, hc]))) | (refine guardD_dec ?_ ?_ <;> (intro hc; (try simp -implicitDefEqProofs [-loopQ_n, hc]))) | (refine condD_intro ?_ ?_ <;> (intro hd; have hc := hd; (try simp at hc) <;> (try simp -implicitDefEqProofs [-loopQ_n, hd, hc]))) | (refine guardD_intro ?_ ?_ <;> (intro hd; have hc := hd; (try simp at hc) <;> (try simp -implicitDefEqProofs [-loopQ_n, hd, hc]))) | (refine ldD_ep ?_ ?_; (focus kernel_rfl); (try simp -implicitDefEqProofs [-loopQ_n])))))
  refine callG_intro (cc_G (id := 0) rfl (.inl rfl) ?_)
  ((try simp -implicitDefEqProofs [-loopQ_n]) <;> (repeat' (first | (refine condD_dec ?_ ?_ <;> (intro hc; (try simp -implicitDefEqProofs [-loopQ_n, hc]))) | (refine guardD_dec ?_ ?_ <;> (intro hc; (try simp -implicitDefEqProofs [-loopQ_n, hc]))) | (refine condD_intro ?_ ?_ <;> (intro hd; have hc := hd; (try simp at hc) <;> (try simp -implicitDefEqProofs [-loopQ_n, hd, hc]))) | (refine guardD_intro ?_ ?_ <;> (intro hd; have hc := hd; (try simp at hc) <;> (try simp -implicitDefEqProofs [-loopQ_n, hd, hc]))) | (refine ldD_ep ?_ ?_; (focus kernel_rfl); (try simp -implicitDefEqProofs [-loopQ_n])))))
  refine ⟨.any, .any, [.box bT [.op 0 0, .os 1 1], .row 5 false (bR [c])], rfl, weak_ren [0, 2] rfl (by simp) (by simp) (fun i h _ => ?_) (fun i j b h1 h2 => ?_) (fun k => ?_), rfl, rfl⟩
  · have : i = 0 := by simp at h; omega
    subst this; rfl
  · match i with
    | 0 => simp at h1 h2; subst h1 h2; simp [mB, mL, mA, rn]
    | 1 => simp at h1 h2; subst h1 h2; simp [mB, mL, mA, bR, rowsOf, byteC]
    | i + 2 => simp at h1
  · simp only [tget]; split <;> simp [mA]
set_option maxHeartbeats 4000000 in
theorem wb_more (c : UInt8) (nb : Bool) (l : List UInt8) (hl : l.length < 1073741824) : Foot Try.prog 61 [.op 0 0, .int .u8 c.toNat] [.box bT [.op 0 0, .os 1 l.length], .row 5 nb (bR l)] .any [.box bT [.op 0 0, .os 1 (l.length + 1)], .row 5 nb (bR (l ++ [c]))] := by
  refine foot_of mixed Try.func61 rfl (by kernel_rfl) (of_decide_eq_true rfl) (by kernel_rfl) (vc_run ?_)
  ((try simp -implicitDefEqProofs [-loopQ_n]) <;> (repeat' (first | (refine condD_dec ?_ ?_ <;> (intro hc; (try simp -implicitDefEqProofs [-loopQ_n, hc]))) | (refine guardD_dec ?_ ?_ <;> (intro hc; (try simp -implicitDefEqProofs [-loopQ_n, hc]))) | (refine condD_intro ?_ ?_ <;> (intro hd; have hc := hd; (try simp at hc) <;> (try simp -implicitDefEqProofs [-loopQ_n, hd, hc]))) | (refine guardD_intro ?_ ?_ <;> (intro hd; have hc := hd; (try simp at hc) <;> (try simp -implicitDefEqProofs [-loopQ_n, hd, hc]))) | (refine ldD_ep ?_ ?_; (focus kernel_rfl); (try simp -implicitDefEqProofs [-loopQ_n])))))
  refine callG_intro (cc_G (id := 0) rfl (.inr rfl) ?_)
  have h1 : l.length ≤ 1073741823 := by omega
  ((try simp -implicitDefEqProofs [-loopQ_n, bR_len, h1, bR_snoc]) <;> (repeat' (first | (refine condD_dec ?_ ?_ <;> (intro hc; (try simp -implicitDefEqProofs [-loopQ_n, hc, bR_len, h1, bR_snoc]))) | (refine guardD_dec ?_ ?_ <;> (intro hc; (try simp -implicitDefEqProofs [-loopQ_n, hc, bR_len, h1, bR_snoc]))) | (refine condD_intro ?_ ?_ <;> (intro hd; have hc := hd; (try simp at hc) <;> (try simp -implicitDefEqProofs [-loopQ_n, hd, hc, bR_len, h1, bR_snoc]))) | (refine guardD_intro ?_ ?_ <;> (intro hd; have hc := hd; (try simp at hc) <;> (try simp -implicitDefEqProofs [-loopQ_n, hd, hc, bR_len, h1, bR_snoc]))) | (refine ldD_ep ?_ ?_; (focus kernel_rfl); (try simp -implicitDefEqProofs [-loopQ_n, bR_len, h1, bR_snoc])))))
  exact ⟨.any, .any, _, rfl, weak_ofL 2 0 rfl (by simp) rfl ⟨.inr (.inl ⟨rfl, rfl⟩), trivial⟩ (by simp [bR_refs]), rfl, rfl⟩
set_option maxHeartbeats 4000000 in
theorem ws_more (s : ByteArray) (nb : Bool) (l : List UInt8) (hl : l.length + s.size ≤ 1073741824) : Foot Try.prog 64 [.op 0 0, .str s] [.box bT [.op 0 0, .os 1 l.length], .row 5 nb (bR l)] (.tup [.int .i64 s.size, .any]) [.box bT [.op 0 0, .os 1 (l.length + s.size)], .row 5 nb (bR (l ++ s.data.toList))] := by
  refine foot_of mixed Try.func64 rfl (by kernel_rfl) (of_decide_eq_true rfl) (by kernel_rfl) (vc_run ?_)
  ((try simp -implicitDefEqProofs [-loopQ_n]) <;> (repeat' (first | (refine condD_dec ?_ ?_ <;> (intro hc; (try simp -implicitDefEqProofs [-loopQ_n, hc]))) | (refine guardD_dec ?_ ?_ <;> (intro hc; (try simp -implicitDefEqProofs [-loopQ_n, hc]))) | (refine condD_intro ?_ ?_ <;> (intro hd; have hc := hd; (try simp at hc) <;> (try simp -implicitDefEqProofs [-loopQ_n, hd, hc]))) | (refine guardD_intro ?_ ?_ <;> (intro hd; have hc := hd; (try simp at hc) <;> (try simp -implicitDefEqProofs [-loopQ_n, hd, hc]))) | (refine ldD_ep ?_ ?_; (focus kernel_rfl); (try simp -implicitDefEqProofs [-loopQ_n])))))
  refine callG_intro (cc_G (id := 0) rfl (.inr rfl) ?_)
  ((try simp -implicitDefEqProofs [-loopQ_n, bR_len, hl, bytesRows_len, bR_app]) <;> (repeat' (first | (refine condD_dec ?_ ?_ <;> (intro hc; (try simp -implicitDefEqProofs [-loopQ_n, hc, bR_len, hl, bytesRows_len, bR_app]))) | (refine guardD_dec ?_ ?_ <;> (intro hc; (try simp -implicitDefEqProofs [-loopQ_n, hc, bR_len, hl, bytesRows_len, bR_app]))) | (refine condD_intro ?_ ?_ <;> (intro hd; have hc := hd; (try simp at hc) <;> (try simp -implicitDefEqProofs [-loopQ_n, hd, hc, bR_len, hl, bytesRows_len, bR_app]))) | (refine guardD_intro ?_ ?_ <;> (intro hd; have hc := hd; (try simp at hc) <;> (try simp -implicitDefEqProofs [-loopQ_n, hd, hc, bR_len, hl, bytesRows_len, bR_app]))) | (refine ldD_ep ?_ ?_; (focus kernel_rfl); (try simp -implicitDefEqProofs [-loopQ_n, bR_len, hl, bytesRows_len, bR_app])))))
  exact ⟨.tup [.int .i64 s.size, .any], .tup [.int .i64 s.size, .any], _, rfl, weak_ofL 2 0 rfl (by simp) rfl ⟨.inr (.inl ⟨rfl, rfl⟩), trivial⟩ (by simp [bR_refs]), rfl, rfl⟩
end Go.Proofs.Ytlcblpofikijmaa
