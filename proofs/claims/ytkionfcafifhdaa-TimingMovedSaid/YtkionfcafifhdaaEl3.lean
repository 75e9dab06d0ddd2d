/- The cases and words of a log, as the reference has them; small logs. -/
import Derived.Test.YtkionfcafifhdaaEl1
import Derived.Test.YtkionfcafifhdaaSrt0
namespace Go.Proofs.Ytkionfcafifhdaa
set_option linter.unusedSimpArgs false
set_option linter.unusedVariables false
set_option linter.unnecessarySimpa false
set_option linter.unusedSectionVars false
open Go.RowKit
variable [Glob]
set_option maxRecDepth 100000
theorem idxA_no {x : ByteArray} : ∀ {l : List ByteArray} {i : Int}, x ∉ l → idxA l x i = -1 := by
  intro l
  induction l with
  | nil => intro i _; rfl
  | cons y r ih =>
    intro i h
    simp only [List.mem_cons, not_or] at h
    rw [idxA, if_neg (fun e => h.1 e.symm), ih h.2]
theorem idxA_yes {x : ByteArray} : ∀ {l : List ByteArray} {i : Int}, x ∈ l → i ≤ idxA l x i := by
  intro l
  induction l with
  | nil => intro i h; simp at h
  | cons y r ih =>
    intro i h
    rw [idxA]
    by_cases e : y = x
    · rw [if_pos e]; exact Int.le_refl _
    · rw [if_neg e]
      have := ih (i := i + 1) ((List.mem_cons.1 h).resolve_left fun q => e q.symm)
      omega
theorem idxS_no {l : List ByteArray} {x : ByteArray} (h : x ∉ l) : idxS l x = -1 := idxA_no h
theorem idxS_yes {l : List ByteArray} {x : ByteArray} (h : x ∈ l) : ¬ idxS l x < 0 := by
  have := idxA_yes (i := 0) h
  unfold idxS; omega
theorem insB_has {l : List ByteArray} {s : ByteArray} (h : s ∈ l) : insB l s = l := by unfold insB; rw [if_pos (hasB_iff.2 h)]
/-- The word of a case. -/
def wordE (c : ByteArray) (e : Evt) : Bool := decide (e.case_ = c) && decide (e.life = 5)
def wordL (l : List Evt) (c : ByteArray) : List ByteArray := (l.filter (wordE c)).map (·.act)
/-- Small logs. -/
def bigF (f : Fld) : Bool := decide ((60 : Int) < f.name.size) || decide ((250 : Int) < f.v.s.size)
def plainE (e : Evt) : Bool := decide ((e.case_.size : Int) ≤ 60) && decide ((e.act.size : Int) ≤ 60) && decide ((e.res.size : Int) ≤ 60) && decide ((e.data.length : Int) ≤ 12) && !e.data.any bigF
def smallB (l : List Evt) : Bool := decide ((l.length : Int) ≤ 40) && !l.any fun e => !plainE e
end Go.Proofs.Ytkionfcafifhdaa
