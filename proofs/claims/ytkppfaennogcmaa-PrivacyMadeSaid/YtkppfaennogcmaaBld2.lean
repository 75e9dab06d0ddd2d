/- strings.Builder: WriteByte, WriteString and Grow on the call's own blocks. -/
import Derived.Test.YtkppfaennogcmaaBld
namespace Go.Proofs.Ytkppfaennogcmaa
set_option linter.unusedSimpArgs false
set_option linter.unusedVariables false
set_option linter.unnecessarySimpa false
set_option linter.unusedSectionVars false
open Go.RowKit
variable [Glob]
set_option maxRecDepth 100000
theorem rows_refsR {m : Nat} {rows : List (List AV)} (h : ∀ r ∈ rows, ∀ x ∈ r, refs m x = true) : refsR m rows = true := by
  simp only [refsR, List.all_eq_true]
  exact h
/-- Rows of plain data: one byte each. -/
def bR (l : List UInt8) : List (List AV) := rowsOf byteC l
theorem bR_refs {m : Nat} {l : List UInt8} : refsR m (bR l) = true := rowsOf_refs fun x => by simp [byteC, refs]
theorem bR_len {l : List UInt8} : (bR l).length = l.length := by simp [bR]
theorem bR_snoc {l : List UInt8} {c : UInt8} : bR l ++ [[.int .u8 c.toNat]] = bR (l ++ [c]) := by simp [bR, rowsOf, byteC]
theorem bR_app {l : List UInt8} {s : ByteArray} : bR l ++ bytesRows s = bR (l ++ s.data.toList) := by simp [bR, rowsOf, bytesRows_eq]
theorem bR_all1 {l : List UInt8} : allLen 1 (bR l) = true := rowsOf_allLen fun x => rfl
theorem bytesRows_len {s : ByteArray} : (bytesRows s).length = s.size := by simp [bytesRows]
set_option maxHeartbeats 4000000 in
theorem ws_more (s : ByteArray) (nb : Bool) (l : List UInt8) (hl : l.length + s.size ≤ 1073741824) : Foot Try.prog 108 [.op 0 0, .str s] [.box bT [.op 0 0, .os 1 l.length], .row 5 nb (bR l)] (.tup [.int .i64 s.size, .any]) [.box bT [.op 0 0, .os 1 (l.length + s.size)], .row 5 nb (bR (l ++ s.data.toList))] := by
  refine foot_of mixed Try.func108 rfl (by kernel_rfl) (of_decide_eq_true rfl) (by kernel_rfl) (vc_run ?_)
  ((try simp -implicitDefEqProofs [-loopQ_n]) <;> (repeat' (first | (refine condD_dec ?_ ?_ <;> (intro hc; (try simp -implicitDefEqProofs [-loopQ_n, hc]))) | (refine guardD_dec ?_ ?_ <;> (intro hc; (try simp -implicitDefEqProofs [-loopQ_n, hc]))) | (refine condD_intro ?_ ?_ <;> (intro hd; have hc := hd; (try simp at hc) <;> (try simp -implicitDefEqProofs [-loopQ_n, hd, hc]))) | (refine guardD_intro ?_ ?_ <;> (intro hd; have hc := hd; (try simp at hc) <;> (try simp -implicitDefEqProofs [-loopQ_n, hd, hc]))) | (refine ldD_ep ?_ ?_; (focus kernel_rfl); (try simp -implicitDefEqProofs [-loopQ_n])))))
  refine callG_intro (cc_G (id := 0) rfl (.inr rfl) ?_)
  ((try simp -implicitDefEqProofs [-loopQ_n, bR_len, hl, bytesRows_len, bR_app]) <;> (repeat' (first | (refine condD_dec ?_ ?_ <;> (intro hc; (try simp -implicitDefEqProofs [-loopQ_n, hc, bR_len, hl, bytesRows_len, bR_app]))) | (refine guardD_dec ?_ ?_ <;> (intro hc; (try simp -implicitDefEqProofs [-loopQ_n, hc, bR_len, hl, bytesRows_len, bR_app]))) | (refine condD_intro ?_ ?_ <;> (intro hd; have hc := hd; (try simp at hc) <;> (try simp -implicitDefEqProofs [-loopQ_n, hd, hc, bR_len, hl, bytesRows_len, bR_app]))) | (refine guardD_intro ?_ ?_ <;> (intro hd; have hc := hd; (try simp at hc) <;> (try simp -implicitDefEqProofs [-loopQ_n, hd, hc, bR_len, hl, bytesRows_len, bR_app]))) | (refine ldD_ep ?_ ?_; (focus kernel_rfl); (try simp -implicitDefEqProofs [-loopQ_n, bR_len, hl, bytesRows_len, bR_app])))))
  exact ⟨.tup [.int .i64 s.size, .any], .tup [.int .i64 s.size, .any], _, rfl, weak_ofL 2 0 rfl (by simp) rfl ⟨.inr (.inl ⟨rfl, rfl⟩), trivial⟩ (by simp [bR_refs]), rfl, rfl⟩
end Go.Proofs.Ytkppfaennogcmaa
