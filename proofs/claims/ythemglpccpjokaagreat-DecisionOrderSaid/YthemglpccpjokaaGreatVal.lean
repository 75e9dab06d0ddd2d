/- Values of data: which are valid (the program's answer and the reference's). -/
import Derived.Test.YthemglpccpjokaaGreatNm2
import Derived.Test.YthemglpccpjokaaGreatM3
import Derived.Test.YthemglpccpjokaaGreatLib
import Derived.Test.YthemglpccpjokaaGreatEv0
set_option linter.unusedSimpArgs false
set_option linter.unusedVariables false
set_option linter.unnecessarySimpa false
set_option linter.unusedSectionVars false
set_option maxRecDepth 100000
namespace Go.Proofs.YthemglpccpjokaaGreat
open Go.RowKit
variable [Glob]
def byteC (c : UInt8) : List AV := [.int .u8 c.toNat]
theorem bytesRows_eq (s : ByteArray) : bytesRows s = rowsOf byteC s.data.toList := rfl
attribute [simp] bytesRows_eq byteC
theorem cfByte_idx {p : UInt8 → Bool} {l : List UInt8} {g : Nat} {caps : List AV} (hp : ∀ x ∈ l, Pure Tryz.prog g (byteV x :: caps) (.bool (p x))) (hc : ∀ H k, caps.mapM (reify H (k + 5)) = some caps) (hf : refsL 0 caps = true) (hl : l.length ≤ 9223372036854775807) :
    Pure Tryz.prog 141 [.rs (rowsOf byteC l), .fn g caps] (.int .i64 (idxOf p l)) := by
  refine pure_of mixed Tryz.func141 rfl (by kernel_rfl) (of_decide_eq_true rfl) (by kernel_rfl) (vc_run ?_)
  simp -implicitDefEqProofs
  refine loop_intro (σ := Nat) (fun i => ⟨[(0, .rs (rowsOf byteC l)), (1, .fn g caps), (7, .int .i64 l.length), (8, .int .i64 i)], []⟩) (fun i => i ≤ l.length ∧ allF p (l.take i)) (fun i => l.length - i) 0 ⟨Nat.zero_le _, allF_nil⟩ ?_ ?_
  · refine weak_of 0 0 rfl rfl ?_ ?_ <;> simp [hf]
  · rintro i ⟨hi, hall⟩
    by_cases h : i < l.length
    · simp -implicitDefEqProofs [h, byteC]
      have hc8 : ∀ H, caps.mapM (reify H 8) = some caps := fun H => hc H 3
      refine call_intro (hp l[i] (by simp)) (by simp -implicitDefEqProofs [hc8, byteC]) (.inl rfl) ?_
      by_cases hpx : p l[i] = true
      · simp -implicitDefEqProofs [hpx]
        exact (idxOf_some p l i h hall hpx).symm
      · have hpx : p l[i] = false := by simpa using hpx
        simp -implicitDefEqProofs [hpx]
        refine ⟨i + 1, ⟨by omega, allF_succ hall h hpx⟩, by omega, weak_of 0 0 rfl rfl ?_ ?_⟩
        · simp [hf]
          exact (wrap_in (by omega) (by omega)).symm
        · simp
    · simp -implicitDefEqProofs [h]
      rw [idxOf_none p l (allF_all hall h)]
theorem cfByte_any {p : UInt8 → Bool} {l : List UInt8} {g : Nat} {caps : List AV} (hp : ∀ x ∈ l, Pure Tryz.prog g (byteV x :: caps) (.bool (p x))) (hc : ∀ H k, caps.mapM (reify H (k + 5)) = some caps) (hf : refsL 0 caps = true) (hl : l.length ≤ 9223372036854775807) :
    Pure Tryz.prog 131 [.rs (rowsOf byteC l), .fn g caps] (.bool (l.any p)) := by
  refine pure_of mixed Tryz.func131 rfl (by kernel_rfl) (of_decide_eq_true rfl) (by kernel_rfl) (vc_run ?_)
  simp -implicitDefEqProofs
  have hc7 : ∀ H, caps.mapM (reify H 7) = some caps := fun H => hc H 2
  refine call_intro (cfByte_idx hp hc hf hl) (by simp -implicitDefEqProofs [hc7]) (.inl rfl) ?_
  simp -implicitDefEqProofs
  rw [← ge_idxOf]
def printC (c : UInt8) : Bool := !(decide ((c.toNat : Int) < 32) || decide ((126 : Int) < c.toNat))
theorem text1_pure (c : UInt8) : Pure Tryz.prog 132 [byteV c] (.bool (!printC c)) := by
  refine pure_of mixed Tryz.func132 rfl (by kernel_rfl) (of_decide_eq_true rfl) (by kernel_rfl) (vc_run ?_)
  by_cases h1 : (c.toNat : Int) < 32
  · simp -implicitDefEqProofs [h1, printC]
  · simp -implicitDefEqProofs [h1, printC]
def printS (s : ByteArray) : Bool := s.data.toList.all printC
def textV (s : ByteArray) : Bool := decide (s.size ≤ 200) && printS s
theorem any_not_print (s : ByteArray) : (s.data.toList.any fun c => !printC c) = !printS s := by simp [printS, List.any_eq_not_all_not]
theorem vtext_pure (s : ByteArray) : Pure Tryz.prog 110 [.str s] (.bool (textV s)) := by
  refine pure_of mixed Tryz.func110 rfl (by kernel_rfl) (of_decide_eq_true rfl) (by kernel_rfl) (vc_run ?_)
  by_cases h1 : (s.size : Int) ≤ 200
  · simp -implicitDefEqProofs [h1]
    refine call_intro (cfByte_any (p := fun c => !printC c) (l := s.data.toList) (g := 132) (caps := []) (fun x _ => text1_pure x) (fun H k => rfl) rfl (by simp; omega)) (by simp -implicitDefEqProofs) (.inl rfl) ?_
    have h2 : s.size ≤ 200 := by omega
    rw [any_not_print]
    simp -implicitDefEqProofs [textV, h2]
  · simp -implicitDefEqProofs [h1, textV]
    omega
theorem rprint_pure (s : ByteArray) (hs : s.size ≤ 9223372036854775807) : Pure Tryz.prog 137 [.str s] (.bool (printS s)) := by
  refine pure_of mixed Tryz.func137 rfl (by kernel_rfl) (of_decide_eq_true rfl) (by kernel_rfl) (vc_run ?_)
  simp -implicitDefEqProofs
  refine loop_intro (σ := Nat) (fun i => ⟨[(0, .str s), (3, .int .i64 i)], []⟩) (fun i => i ≤ s.size ∧ uptoB printC s i) (fun i => s.size - i) 0 ⟨by omega, uptoB_zero _ _⟩ ?_ ?_
  · refine weak_of 0 0 rfl rfl ?_ ?_ <;> simp
  · rintro i ⟨hi, hp⟩
    by_cases h : i < s.size
    · by_cases h1 : ((s.data[i]'h).toNat : Int) < 32
      · have h4 : printC (s.data[i]'h) = false := by simp [printC, h1]
        simp -implicitDefEqProofs [h, byte_at h, h1, printS, uptoB_not h h4]
      · by_cases h2 : (126 : Int) < (s.data[i]'h).toNat
        · have h4 : printC (s.data[i]'h) = false := by simp [printC, h1, h2]
          simp -implicitDefEqProofs [h, byte_at h, h1, h2, printS, uptoB_not h h4]
        · have h4 : printC (s.data[i]'h) = true := by simp [printC]; omega
          simp -implicitDefEqProofs [h, byte_at h, h1, h2]
          refine ⟨i + 1, ⟨by omega, uptoB_succ hp h h4⟩, by omega, ?_⟩
          refine weak_of 0 0 rfl rfl ?_ ?_ <;> simp
          exact (wrap_in (by omega) (by omega)).symm
    · simp -implicitDefEqProofs [h, printS, uptoB_all hp h]
theorem rvtext_pure (s : ByteArray) : Pure Tryz.prog 119 [.str s] (.bool (textV s)) := by
  refine pure_of mixed Tryz.func119 rfl (by kernel_rfl) (of_decide_eq_true rfl) (by kernel_rfl) (vc_run ?_)
  by_cases h1 : (s.size : Int) ≤ 200
  · simp -implicitDefEqProofs [h1]
    refine call_intro (rprint_pure s (by omega)) (by simp -implicitDefEqProofs) (.inl rfl) ?_
    have h2 : s.size ≤ 200 := by omega
    simp -implicitDefEqProofs [textV, h2]
  · simp -implicitDefEqProofs [h1, textV]
    omega
def numV (n : Int) : Bool := decide (-4503599627370496 ≤ n) && decide (n ≤ 4503599627370496)
theorem number_pure (n : Int) : Pure Tryz.prog 108 [.int .i64 n] (.bool (numV n)) := by
  refine pure_of mixed Tryz.func108 rfl (by kernel_rfl) (of_decide_eq_true rfl) (by kernel_rfl) (vc_run ?_)
  by_cases h1 : -4503599627370496 ≤ n <;> simp -implicitDefEqProofs [h1, numV]
theorem rnumber_pure (n : Int) : Pure Tryz.prog 118 [.int .i64 n] (.bool (numV n)) := by
  refine pure_of mixed Tryz.func118 rfl (by kernel_rfl) (of_decide_eq_true rfl) (by kernel_rfl) (vc_run ?_)
  by_cases h1 : -4503599627370496 ≤ n <;> simp -implicitDefEqProofs [h1, numV]
def valC (v : Val) : List AV := [.int .i64 v.kind, .int .i64 v.n, .str v.s]
def emptyS (s : ByteArray) : Bool := s.toList == []
def valueV (v : Val) : Bool := if v.kind = 1 then (v.n == 0 || v.n == 1) && emptyS v.s else if v.kind = 2 then numV v.n && emptyS v.s else if v.kind = 3 then v.n == 0 && textV v.s else false
theorem value_pure (v : Val) : Pure Tryz.prog 77 [.agg (valC v)] (.bool (valueV v)) := by
  refine pure_of mixed Tryz.func77 rfl (by kernel_rfl) (of_decide_eq_true rfl) (by kernel_rfl) (vc_run ?_)
  by_cases k1 : v.kind = 1
  · by_cases n0 : v.n = 0
    · simp -implicitDefEqProofs [valC, k1, n0, valueV, emptyS]
    · by_cases n1 : v.n = 1
      · simp -implicitDefEqProofs [valC, k1, n1, valueV, emptyS]
      · simp -implicitDefEqProofs [valC, k1, n0, n1, valueV, emptyS]
  by_cases k2 : v.kind = 2
  · simp -implicitDefEqProofs [valC, k2]
    refine call_intro (number_pure v.n) (by simp -implicitDefEqProofs) (.inl rfl) ?_
    by_cases h : numV v.n = true
    · simp -implicitDefEqProofs [h, valueV, k2, emptyS]
    · have h : numV v.n = false := by simpa using h
      simp -implicitDefEqProofs [h, valueV, k2]
  by_cases k3 : v.kind = 3
  · by_cases n0 : v.n = 0
    · simp -implicitDefEqProofs [valC, k3, n0]
      refine call_intro (vtext_pure v.s) (by simp -implicitDefEqProofs) (.inl rfl) ?_
      simp -implicitDefEqProofs [valueV, k3, n0]
    · simp -implicitDefEqProofs [valC, k3, n0, valueV]
  · simp -implicitDefEqProofs [valC, k1, k2, k3, valueV]
theorem rvalue_pure (v : Val) : Pure Tryz.prog 82 [.agg (valC v)] (.bool (valueV v)) := by
  refine pure_of mixed Tryz.func82 rfl (by kernel_rfl) (of_decide_eq_true rfl) (by kernel_rfl) (vc_run ?_)
  by_cases k1 : v.kind = 1
  · by_cases n0 : v.n = 0
    · simp -implicitDefEqProofs [valC, k1, n0, valueV, emptyS]
    · by_cases n1 : v.n = 1
      · simp -implicitDefEqProofs [valC, k1, n1, valueV, emptyS]
      · simp -implicitDefEqProofs [valC, k1, n0, n1, valueV, emptyS]
  by_cases k2 : v.kind = 2
  · simp -implicitDefEqProofs [valC, k2]
    refine call_intro (rnumber_pure v.n) (by simp -implicitDefEqProofs) (.inl rfl) ?_
    by_cases h : numV v.n = true
    · simp -implicitDefEqProofs [h, valueV, k2, emptyS]
    · have h : numV v.n = false := by simpa using h
      simp -implicitDefEqProofs [h, valueV, k2]
  by_cases k3 : v.kind = 3
  · by_cases n0 : v.n = 0
    · simp -implicitDefEqProofs [valC, k3, n0]
      refine call_intro (rvtext_pure v.s) (by simp -implicitDefEqProofs) (.inl rfl) ?_
      simp -implicitDefEqProofs [valueV, k3, n0]
    · simp -implicitDefEqProofs [valC, k3, n0, valueV]
  · simp -implicitDefEqProofs [valC, k1, k2, k3, valueV]
end Go.Proofs.YthemglpccpjokaaGreat
