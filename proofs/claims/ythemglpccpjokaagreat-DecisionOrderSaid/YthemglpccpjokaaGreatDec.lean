/- Arguments of laws, read as data: slices of numbers, of strings. -/
import Derived.Test.YthemglpccpjokaaGreatOpen
import Derived.Test.YthemglpccpjokaaGreatM3
set_option linter.unusedSimpArgs false
set_option linter.unusedVariables false
set_option linter.unnecessarySimpa false
set_option linter.unusedSectionVars false
namespace Go.Proofs.YthemglpccpjokaaGreat
open Go.RowKit
variable [Glob]
theorem rows_dec {α : Type} {f : α → List AV} {p : α → Prop} : ∀ (rows : List (List AV)), (∀ row ∈ rows, ∃ x, row = f x ∧ p x) → ∃ l, rows = rowsOf f l ∧ ∀ x ∈ l, p x := by
  intro rows
  induction rows with
  | nil => intro _; exact ⟨[], rfl, by simp⟩
  | cons r rows ih =>
    intro h
    obtain ⟨x, hx, hp⟩ := h r (by simp)
    obtain ⟨l, hl, hq⟩ := ih fun row hr => h row (by simp [hr])
    exact ⟨x :: l, by rw [hx, hl]; rfl, by intro y hy; rcases List.mem_cons.1 hy with rfl | hy; exact hp; exact hq y hy⟩
section
variable {P : Program} {n : Nat} {t : TypeId} {l : List AV} {x : AV}
theorem shp_int {k : IntKind} (h : P.underlying t = some (.int k)) (hs : shp P (n + 1) t l) : ∃ x, l = [.int k x] ∧ (Lit.int k x).wf = true := by simpa only [shp, h] using hs
theorem shp_bool (h : P.underlying t = some .bool) (hs : shp P (n + 1) t l) : ∃ b, l = [.bool b] := by simpa only [shp, h] using hs
theorem shp_str (h : P.underlying t = some .string) (hs : shp P (n + 1) t l) : ∃ s, l = [.str s] ∧ s.size ≤ maxLen := by simpa only [shp, h] using hs
theorem shp_slice {e : TypeId} (h : P.underlying t = some (.slice e)) (hs : shp P (n + 1) t l) : ∃ rows, l = [.rs rows] ∧ rows.length ≤ maxLen ∧ ∀ row ∈ rows, shp P n e row := by simpa only [shp, h] using hs
theorem shp_struct {fs : Array Field} (h : P.underlying t = some (.struct fs)) (hs : shp P (n + 1) t l) : l.length = P.cellsOf t ∧ ∀ f ∈ fs.toList, shp P n f.type ((l.drop f.offset).take (P.cellsOf f.type)) := by simpa only [shp, h] using hs
theorem arg_int {k : IntKind} (h : P.underlying t = some (.int k)) (hs : argS P t x) : ∃ i, x = .int k i ∧ (Lit.int k i).wf = true := by
  simp only [argS, h] at hs
  obtain ⟨i, h1, h2⟩ := shp_int h hs
  simp at h1
  exact ⟨i, h1, h2⟩
theorem arg_str (h : P.underlying t = some .string) (hs : argS P t x) : ∃ s, x = .str s ∧ s.size ≤ maxLen := by
  simp only [argS, h] at hs
  obtain ⟨i, h1, h2⟩ := shp_str h hs
  simp at h1
  exact ⟨i, h1, h2⟩
theorem arg_slice {e : TypeId} (h : P.underlying t = some (.slice e)) (hs : argS P t x) : ∃ rows, x = .rs rows ∧ rows.length ≤ maxLen ∧ ∀ row ∈ rows, shp P 8 e row := by
  simp only [argS, h] at hs
  obtain ⟨i, h1, h2⟩ := shp_slice h hs
  simp at h1
  exact ⟨i, h1, h2⟩
theorem arg_struct {fs : Array Field} (h : P.underlying t = some (.struct fs)) (hs : argS P t x) : ∃ l, x = .agg l ∧ l.length = P.cellsOf t ∧ ∀ f ∈ fs.toList, shp P 8 f.type ((l.drop f.offset).take (P.cellsOf f.type)) := by
  simp only [argS, h] at hs
  obtain ⟨l, h1, h2⟩ := hs
  exact ⟨l, h1, shp_struct h h2⟩
theorem arg_array {k : Nat} {e : TypeId} (h : P.underlying t = some (.array k e)) (hs : argS P t x) : ∃ l, x = .agg l ∧ l.length = P.cellsOf t ∧ ∀ i, i < k → shp P 8 e ((l.drop (i * P.cellsOf e)).take (P.cellsOf e)) := by
  unfold argS at hs
  rw [h] at hs
  obtain ⟨l, h1, h2⟩ := hs
  unfold shp at h2
  rw [h] at h2
  exact ⟨l, h1, h2⟩
end
theorem maxLen_eq : maxLen = 9223372036854775807 := by decide
def inI (x : Int) : Prop := -9223372036854775808 ≤ x ∧ x ≤ 9223372036854775807
theorem inI_wf {x : Int} (h : (Lit.int .i64 x).wf = true) : inI x := by
  simp [Lit.wf, IntKind.min, IntKind.max, IntKind.signed, IntKind.bits] at h
  unfold inI
  omega
end Go.Proofs.YthemglpccpjokaaGreat
