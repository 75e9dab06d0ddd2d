/- References of objects: how they are compared (the program's answer and the reference's). -/
import Derived.Test.YtdkcmfafganhhaaDoorCmpS
import Derived.Test.YtdkcmfafganhhaaDoorM4
namespace Go.Proofs.YtdkcmfafganhhaaDoor
set_option linter.unusedSimpArgs false
set_option linter.unusedVariables false
set_option linter.unnecessarySimpa false
set_option linter.unusedSectionVars false
open Go.RowKit
variable [Glob]
set_option maxRecDepth 100000
structure Rf where
  a : ByteArray
  b : ByteArray
def refC (r : Rf) : List AV := [.str r.a, .str r.b]
def lessR (x y : Rf) : Bool := Op.bytesLess x.a.data.toList y.a.data.toList || (x.a.data.toList == y.a.data.toList && Op.bytesLess x.b.data.toList y.b.data.toList)
def cmpR (x y : Rf) : Int := if Lib.compareBytes x.a.data.toList y.a.data.toList = 0 then Lib.compareBytes x.b.data.toList y.b.data.toList else Lib.compareBytes x.a.data.toList y.a.data.toList
theorem cmpB_spec : ∀ a b : List UInt8, (Lib.compareBytes a b < 0 ↔ Op.bytesLess a b = true) ∧ (Lib.compareBytes a b = 0 ↔ a = b) := by
  intro a
  induction a with
  | nil =>
    intro b
    cases b <;> simp [Lib.compareBytes, Op.bytesLess]
  | cons x a ih =>
    intro b
    cases b with
    | nil => simp [Lib.compareBytes, Op.bytesLess]
    | cons y b =>
      obtain ⟨i1, i2⟩ := ih b
      simp only [Lib.compareBytes, Op.bytesLess, List.cons.injEq]
      by_cases h1 : x < y
      · have hne : x ≠ y := fun e => by subst e; exact (UInt8.lt_irrefl _) h1
        simp [h1, hne]
      · by_cases h2 : y < x
        · have hne : x ≠ y := fun e => by subst e; exact (UInt8.lt_irrefl _) h2
          simp [h1, h2, hne]
        · have he : x = y := UInt8.le_antisymm (UInt8.not_lt.1 h2) (UInt8.not_lt.1 h1)
          subst he
          simp [h1, i1, i2]
theorem cmpR_less (x y : Rf) : cmpR x y < 0 ↔ lessR x y = true := by
  obtain ⟨h1, h2⟩ := cmpB_spec x.a.data.toList y.a.data.toList
  obtain ⟨h3, h4⟩ := cmpB_spec x.b.data.toList y.b.data.toList
  unfold cmpR lessR
  simp only [Bool.or_eq_true, Bool.and_eq_true, beq_iff_eq]
  split
  · rename_i e
    rw [h3]
    have hn : ¬ Op.bytesLess x.a.data.toList y.a.data.toList = true := fun q => by have := h1.2 q; omega
    exact ⟨fun q => .inr ⟨h2.1 e, q⟩, fun q => q.elim (fun q => absurd q hn) fun q => q.2⟩
  · rename_i e
    rw [h1]
    exact ⟨.inl, fun q => q.elim id fun q => absurd (h2.2 q.1) e⟩
theorem ocompare_pure (x y : Rf) : Pure Tryd.prog 50 [.agg (refC x), .agg (refC y)] (.int .i64 (cmpR x y)) := by
  refine pure_of mixed Tryd.func50 rfl (by kernel_rfl) (of_decide_eq_true rfl) (by kernel_rfl) (vc_run ?_)
  obtain ⟨x1, x2⟩ := x
  obtain ⟨y1, y2⟩ := y
  simp -implicitDefEqProofs [refC]
  refine call_intro (scompare_pure x1 y1) (by simp -implicitDefEqProofs) (.inl rfl) ?_
  by_cases h : Lib.compareBytes x1.data.toList y1.data.toList = 0
  · simp -implicitDefEqProofs [h]
    refine call_intro (scompare_pure x2 y2) (by simp -implicitDefEqProofs) (.inl rfl) ?_
    simp -implicitDefEqProofs [h, cmpR]
  · simp -implicitDefEqProofs [h, cmpR]
theorem rless_pure (x y : Rf) : Pure Tryd.prog 31 [.agg (refC x), .agg (refC y)] (.bool (lessR x y)) := by
  refine pure_of mixed Tryd.func31 rfl (by kernel_rfl) (of_decide_eq_true rfl) (by kernel_rfl) (vc_run ?_)
  obtain ⟨x1, x2⟩ := x
  obtain ⟨y1, y2⟩ := y
  have e1 : ∀ b : ByteArray, b.data.toList = b.toList := fun b => (ba_toList b).symm
  by_cases h : x1.toList = y1.toList
  · have hn : Op.bytesLess y1.toList y1.toList = false := by
      cases q : Op.bytesLess y1.toList y1.toList
      · rfl
      · have := (cmpB_spec y1.toList y1.toList).1.2 q
        have := (cmpB_spec y1.toList y1.toList).2.2 rfl
        omega
    simp -implicitDefEqProofs [refC, h, lessR, e1, hn]
  · simp -implicitDefEqProofs [refC, h, lessR, e1]
end Go.Proofs.YtdkcmfafganhhaaDoor
