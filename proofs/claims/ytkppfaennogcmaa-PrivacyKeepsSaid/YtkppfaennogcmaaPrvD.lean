/- Arguments of chapter 55's laws. -/
import Derived.Test.YtkppfaennogcmaaDec
import Derived.Test.YtkppfaennogcmaaPrvN
import Derived.Test.YtkppfaennogcmaaFracP
namespace Go.Proofs.Ytkppfaennogcmaa
set_option linter.unusedSimpArgs false
set_option linter.unusedVariables false
set_option linter.unnecessarySimpa false
set_option linter.unusedSectionVars false
open Go.RowKit
variable [Glob]
set_option maxRecDepth 100000
theorem c_int : Try.prog.cellsOf 3 = 1 := by kernel_rfl
theorem c_str : Try.prog.cellsOf 9 = 1 := by kernel_rfl
theorem c_strs : Try.prog.cellsOf 49 = 1 := by kernel_rfl
theorem c_u8 : Try.prog.cellsOf 5 = 1 := by kernel_rfl
theorem c_frac : Try.prog.cellsOf 61 = 2 := by kernel_rfl
theorem c_pub : Try.prog.cellsOf 54 = 2 := by kernel_rfl
theorem c_var : Try.prog.cellsOf 51 = 2 := by kernel_rfl
theorem u8_wf {x : Int} (h : (Lit.int .u8 x).wf = true) : 0 ≤ x ∧ x ≤ 255 := by
  simp [Lit.wf, IntKind.min, IntKind.max, IntKind.signed, IntKind.bits] at h
  omega
theorem byte_dec {n : Nat} {row : List AV} (h : shp Try.prog (n + 1) 5 row) : ∃ c, row = byC c ∧ True := by
  obtain ⟨x, rfl, hw⟩ := shp_int Try.underlying5 h
  have := u8_wf hw
  refine ⟨UInt8.ofNat x.toNat, ?_, trivial⟩
  simp only [byC, List.cons.injEq, and_true, AV.int.injEq, true_and]
  have : (UInt8.ofNat x.toNat).toNat = x.toNat % 256 := by simp
  rw [this]
  omega
theorem arg_bytes {x : AV} (h : argS Try.prog 68 x) : ∃ l : List UInt8, x = .rs (rowsOf byC l) ∧ l.length ≤ 9223372036854775807 := by
  obtain ⟨rows, rfl, hlen, hrows⟩ := arg_slice Try.underlying68 h
  obtain ⟨l, rfl, _⟩ := rows_dec (p := fun _ => True) rows fun row hr => byte_dec (n := 7) (hrows row hr)
  exact ⟨l, rfl, by rw [maxLen_eq] at hlen; simpa [rowsOf] using hlen⟩
def frI (a : Int × Int) : Prop := inI a.1 ∧ inI a.2
theorem frac_dec {n : Nat} {row : List AV} (h : shp Try.prog (n + 2) 61 row) : ∃ v, row = fracC v ∧ frI v := by
  obtain ⟨hl, hf⟩ := shp_struct Try.underlying61 h
  rw [c_frac] at hl
  match row, hl with
  | [a, b], _ =>
    simp only [List.mem_cons, List.not_mem_nil, or_false, forall_eq_or_imp, forall_eq, c_int] at hf
    obtain ⟨x, h1, w1⟩ := shp_int Try.underlying3 hf.1
    obtain ⟨y, h2, w2⟩ := shp_int Try.underlying3 hf.2
    simp at h1 h2
    exact ⟨(x, y), by rw [h1, h2]; rfl, inI_wf w1, inI_wf w2⟩
theorem arg_frac {x : AV} (h : argS Try.prog 61 x) : ∃ v : Int × Int, x = .agg [.int .i64 v.1, .int .i64 v.2] ∧ frI v := by
  obtain ⟨l, rfl, hl, hf⟩ := arg_struct Try.underlying61 h
  rw [c_frac] at hl
  match l, hl with
  | [a, b], _ =>
    simp only [List.mem_cons, List.not_mem_nil, or_false, forall_eq_or_imp, forall_eq, c_int] at hf
    obtain ⟨x, h1, w1⟩ := shp_int Try.underlying3 hf.1
    obtain ⟨y, h2, w2⟩ := shp_int Try.underlying3 hf.2
    simp at h1 h2
    exact ⟨(x, y), by rw [h1, h2], inI_wf w1, inI_wf w2⟩
theorem arg_fracs {x : AV} (h : argS Try.prog 84 x) : ∃ l : List (Int × Int), x = .rs (rowsOf fracC l) ∧ l.length ≤ 9223372036854775807 ∧ ∀ v ∈ l, frI v := by
  obtain ⟨rows, rfl, hlen, hrows⟩ := arg_slice Try.underlying84 h
  obtain ⟨l, rfl, hd⟩ := rows_dec (p := frI) rows fun row hr => frac_dec (n := 6) (hrows row hr)
  exact ⟨l, rfl, by rw [maxLen_eq] at hlen; simpa [rowsOf] using hlen, hd⟩
theorem arg_ints {x : AV} (h : argS Try.prog 38 x) : ∃ l : List Int, x = .rs (rowsOf intC l) ∧ l.length ≤ 9223372036854775807 ∧ ∀ v ∈ l, inI v := by
  obtain ⟨rows, rfl, hlen, hrows⟩ := arg_slice Try.underlying38 h
  obtain ⟨l, rfl, hd⟩ := rows_dec (p := inI) (f := intC) rows fun row hr => by
    obtain ⟨x, h1, w1⟩ := shp_int (n := 7) Try.underlying3 (hrows row hr)
    exact ⟨x, h1, inI_wf w1⟩
  exact ⟨l, rfl, by rw [maxLen_eq] at hlen; simpa [rowsOf] using hlen, hd⟩
theorem arg_i64 {x : AV} (h : argS Try.prog 3 x) : ∃ n : Int, x = .int .i64 n ∧ inI n := by
  obtain ⟨i, rfl, hw⟩ := arg_int Try.underlying3 h
  exact ⟨i, rfl, inI_wf hw⟩
theorem arg_u8 {x : AV} (h : argS Try.prog 5 x) : ∃ n : Int, x = .int .u8 n ∧ 0 ≤ n ∧ n ≤ 255 := by
  obtain ⟨i, rfl, hw⟩ := arg_int Try.underlying5 h
  exact ⟨i, rfl, u8_wf hw⟩
theorem arg_two {x : AV} (h : argS Try.prog 62 x) : ∃ a b : UInt8, x = .agg [.int .u8 a.toNat, .int .u8 b.toNat] := by
  obtain ⟨l, rfl, hl, hf⟩ := arg_array Try.underlying62 h
  have hc : Try.prog.cellsOf 62 = 2 := by kernel_rfl
  rw [hc] at hl
  match l, hl with
  | [a, b], _ =>
    have h0 := hf 0 (by omega)
    have h1 := hf 1 (by omega)
    simp only [c_u8] at h0 h1
    obtain ⟨c, h0, _⟩ := byte_dec (n := 7) h0
    obtain ⟨d, h1, _⟩ := byte_dec (n := 7) h1
    simp [byC] at h0 h1
    exact ⟨c, d, by rw [h0, h1]⟩
/-- A word with a number. -/
structure Wd where
  acts : List ByteArray
  n : Int
def wdC (w : Wd) : List AV := [.rs (rowsOf strC w.acts), .int .i64 w.n]
def wdI (w : Wd) : Prop := inI w.n ∧ w.acts.length ≤ 9223372036854775807 ∧ ∀ s ∈ w.acts, s.size ≤ 9223372036854775807
theorem strs_dec {n : Nat} {row : List AV} (h : shp Try.prog (n + 2) 49 row) : ∃ l : List ByteArray, row = [.rs (rowsOf strC l)] ∧ l.length ≤ 9223372036854775807 ∧ ∀ s ∈ l, s.size ≤ 9223372036854775807 := by
  obtain ⟨rows, h6, hlen, hrows⟩ := shp_slice Try.underlying49 h
  obtain ⟨es, rfl, hd⟩ := rows_dec (p := fun s : ByteArray => s.size ≤ 9223372036854775807) (f := strC) rows fun row hr => by
    obtain ⟨s, h1, h2⟩ := shp_str (n := n) Try.underlying9 (hrows row hr)
    exact ⟨s, h1, by rw [maxLen_eq] at h2; exact h2⟩
  exact ⟨es, h6, by rw [maxLen_eq] at hlen; simpa [rowsOf] using hlen, hd⟩
theorem pub_dec {n : Nat} {row : List AV} (h : shp Try.prog (n + 3) 54 row) : ∃ v, row = wdC v ∧ wdI v := by
  obtain ⟨hl, hf⟩ := shp_struct Try.underlying54 h
  rw [c_pub] at hl
  match row, hl with
  | [a, b], _ =>
    simp only [List.mem_cons, List.not_mem_nil, or_false, forall_eq_or_imp, forall_eq, c_int, c_strs] at hf
    obtain ⟨es, h1, h2, h3⟩ := strs_dec hf.1
    obtain ⟨y, h4, w2⟩ := shp_int Try.underlying3 hf.2
    simp at h1 h4
    exact ⟨⟨es, y⟩, by rw [h1, h4]; rfl, inI_wf w2, h2, h3⟩
theorem var_dec {n : Nat} {row : List AV} (h : shp Try.prog (n + 3) 51 row) : ∃ v, row = wdC v ∧ wdI v := by
  obtain ⟨hl, hf⟩ := shp_struct Try.underlying51 h
  rw [c_var] at hl
  match row, hl with
  | [a, b], _ =>
    simp only [List.mem_cons, List.not_mem_nil, or_false, forall_eq_or_imp, forall_eq, c_int, c_strs] at hf
    obtain ⟨es, h1, h2, h3⟩ := strs_dec hf.1
    obtain ⟨y, h4, w2⟩ := shp_int Try.underlying3 hf.2
    simp at h1 h4
    exact ⟨⟨es, y⟩, by rw [h1, h4]; rfl, inI_wf w2, h2, h3⟩
theorem arg_pubs {x : AV} (h : argS Try.prog 23 x) : ∃ l : List Wd, x = .rs (rowsOf wdC l) ∧ l.length ≤ 9223372036854775807 ∧ ∀ v ∈ l, wdI v := by
  obtain ⟨rows, rfl, hlen, hrows⟩ := arg_slice Try.underlying23 h
  obtain ⟨l, rfl, hd⟩ := rows_dec (p := wdI) rows fun row hr => pub_dec (n := 5) (hrows row hr)
  exact ⟨l, rfl, by rw [maxLen_eq] at hlen; simpa [rowsOf] using hlen, hd⟩
theorem arg_vars {x : AV} (h : argS Try.prog 22 x) : ∃ l : List Wd, x = .rs (rowsOf wdC l) ∧ l.length ≤ 9223372036854775807 ∧ ∀ v ∈ l, wdI v := by
  obtain ⟨rows, rfl, hlen, hrows⟩ := arg_slice Try.underlying22 h
  obtain ⟨l, rfl, hd⟩ := rows_dec (p := wdI) rows fun row hr => var_dec (n := 5) (hrows row hr)
  exact ⟨l, rfl, by rw [maxLen_eq] at hlen; simpa [rowsOf] using hlen, hd⟩
def grC (g : List ByteArray) : List AV := [.rs (rowsOf strC g)]
theorem arg_groups {x : AV} (h : argS Try.prog 76 x) : ∃ l : List (List ByteArray), x = .rs (rowsOf grC l) ∧ l.length ≤ 9223372036854775807 ∧ ∀ g ∈ l, g.length ≤ 9223372036854775807 ∧ ∀ s ∈ g, s.size ≤ 9223372036854775807 := by
  obtain ⟨rows, rfl, hlen, hrows⟩ := arg_slice Try.underlying76 h
  obtain ⟨l, rfl, hd⟩ := rows_dec (p := fun g : List ByteArray => g.length ≤ 9223372036854775807 ∧ ∀ s ∈ g, s.size ≤ 9223372036854775807) (f := grC) rows fun row hr => strs_dec (n := 6) (hrows row hr)
  exact ⟨l, rfl, by rw [maxLen_eq] at hlen; simpa [rowsOf] using hlen, hd⟩
end Go.Proofs.Ytkppfaennogcmaa
