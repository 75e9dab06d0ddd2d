/- Lists of strings: comparing, looking for, being an alphabet (library, program, reference). -/
import Derived.Test.YtkionfcafifhdaaAbExec
import Derived.Test.YtkionfcafifhdaaNm2
import Derived.Test.YtkionfcafifhdaaStrSet
namespace Go.Proofs.Ytkionfcafifhdaa
set_option linter.unusedSimpArgs false
set_option linter.unusedVariables false
set_option linter.unnecessarySimpa false
set_option linter.unusedSectionVars false
open Go.RowKit
variable [Glob]
set_option maxRecDepth 100000
theorem sw_suc {i n : Nat} (h : i < n) (hn : n ≤ 9223372036854775807) : wrapI .i64 ((i : Int) + 1) = ((i + 1 : Nat) : Int) := by rw [wrap_in (by omega) (by omega)]; omega
theorem sw_snoc {l : List ByteArray} {x : ByteArray} : rowsOf strC l ++ [[.str x]] = rowsOf strC (l ++ [x]) := by simp [rowsOf, strC]
theorem sw_refs {m : Nat} {l : List ByteArray} : refsR m (rowsOf strC l) = true := rowsOf_refs fun x => by simp [strC, refs]
theorem sw_reify {H : List Blk} {n : Nat} {l : List ByteArray} : (rowsOf strC l).mapM (fun row => row.mapM (reify H (n + 1))) = some (rowsOf strC l) := rowsOf_reify fun x => by simp [strC, reify]
theorem sw_len {l : List ByteArray} : (rowsOf strC l).length = l.length := rowsOf_length
/-- Before, for strings. -/
def ltS (x y : ByteArray) : Bool := Op.bytesLess x.data.toList y.data.toList
structure SLess (x y : ByteArray) : Prop where
  a : Op.bytesLess x.toList y.toList = true
  b : Op.bytesLess y.toList x.toList = false
  c : (x.toList = y.toList) = False
  c' : (y.toList = x.toList) = False
  d : ltS x y = true
  e : ltS y x = false
  n : x ≠ y
theorem sless_of {x y : ByteArray} (h : ltS x y = true) : SLess x y := by
  have hne : x ≠ y := fun e => by subst e; simp [ltS, bl_irrefl] at h
  have hn : x.toList ≠ y.toList := fun e => hne (ba_eq (by rw [ba_toList, ba_toList] at e; exact e))
  exact ⟨by rw [ba_toList, ba_toList]; exact h, by rw [ba_toList, ba_toList]; exact bl_asymm h, by simp [hn], eq_false fun e => hn e.symm, h, bl_asymm h, hne⟩
theorem str_tri (x y : ByteArray) : SLess x y ∨ x = y ∨ SLess y x := by
  rcases ltB_tri x y with h | h | h
  · exact .inl (sless_of h)
  · exact .inr (.inl h)
  · exact .inr (.inr (sless_of h))
theorem str_irr (x : ByteArray) : Op.bytesLess x.toList x.toList = false := bl_irrefl _
theorem ltS_irr (x : ByteArray) : ltS x x = false := bl_irrefl _
/-- The order of words. -/
def cmpL : List ByteArray → List ByteArray → Int
  | [], [] => 0
  | [], _ :: _ => -1
  | _ :: _, [] => 1
  | x :: a, y :: b => if ltS x y = true then -1 else if ltS y x = true then 1 else cmpL a b
theorem cmpL_cons (x y : ByteArray) (a b : List ByteArray) : cmpL (x :: a) (y :: b) = if ltS x y = true then -1 else if ltS y x = true then 1 else cmpL a b := rfl
theorem cmpL_self : ∀ a : List ByteArray, cmpL a a = 0
  | [] => rfl
  | x :: a => by rw [cmpL, if_neg (by rw [ltS_irr]; decide), if_neg (by rw [ltS_irr]; decide)]; exact cmpL_self a
theorem cmpL_zero : ∀ {a b : List ByteArray}, cmpL a b = 0 → a = b
  | [], [], _ => rfl
  | [], _ :: _, h => by simp [cmpL] at h
  | _ :: _, [], h => by simp [cmpL] at h
  | x :: a, y :: b, h => by
    rw [cmpL] at h
    rcases str_tri x y with q | q | q
    · rw [if_pos q.d] at h; cases h
    · subst q
      rw [if_neg (by rw [ltS_irr]; decide), if_neg (by rw [ltS_irr]; decide)] at h
      rw [cmpL_zero h]
    · rw [if_neg (by rw [q.e]; decide), if_pos q.d] at h; cases h
theorem cmpL_iff {a b : List ByteArray} : cmpL a b = 0 ↔ a = b := ⟨cmpL_zero, fun h => h ▸ cmpL_self a⟩
/-- Where a string stands; -1: nowhere. -/
def idxA : List ByteArray → ByteArray → Int → Int
  | [], _, _ => -1
  | y :: r, x, i => if y = x then i else idxA r x (i + 1)
def idxS (l : List ByteArray) (x : ByteArray) : Int := idxA l x 0
end Go.Proofs.Ytkionfcafifhdaa
