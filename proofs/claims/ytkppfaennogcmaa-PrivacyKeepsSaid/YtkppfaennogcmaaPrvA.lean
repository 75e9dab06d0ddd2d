/- Chapter 55's examples, by computed calls. -/
import Derived.Test.YtkppfaennogcmaaAbEx4
import Derived.Test.YtkppfaennogcmaaJn
import Derived.Test.YtkppfaennogcmaaM6
import Derived.Test.YtkppfaennogcmaaTy
namespace Go.Proofs.Ytkppfaennogcmaa
set_option linter.unusedSimpArgs false
set_option linter.unusedVariables false
set_option linter.unnecessarySimpa false
set_option linter.unusedSectionVars false
open Go.RowKit
variable [Glob]
set_option maxRecDepth 100000
def nameV : List AV → Option AV
  | [.str s] => some (.bool (isNameS s))
  | _ => none
def strsOf : List (List AV) → Option (List ByteArray)
  | [] => some []
  | [.str s] :: r => match strsOf r with | some l => if s.size ≤ 1000 then some (s :: l) else none | none => none
  | _ => none
theorem strsOf_ok : ∀ (rows : List (List AV)) (l : List ByteArray), strsOf rows = some l → rows = rowsOf strC l ∧ ∀ x ∈ l, x.size ≤ 1000 := by
  intro rows
  induction rows with
  | nil => intro l h; simp [strsOf] at h; subst h; exact ⟨rfl, by simp⟩
  | cons r rows ih =>
    intro l h
    unfold strsOf at h
    split at h
    · rename_i h0; cases h0
    · rename_i s q hx
      cases hx
      split at h
      · rename_i l' hl
        split at h
        · rename_i hs
          cases h
          obtain ⟨h1, h2⟩ := ih _ hl
          refine ⟨by rw [h1]; rfl, fun x hx => ?_⟩
          rcases List.mem_cons.1 hx with rfl | hx
          · exact hs
          · exact h2 x hx
        · cases h
      · cases h
    · cases h
def joinV : List AV → Option AV
  | [.rs rows, .str sp] => match strsOf rows with
    | some l => if sp.data = #[32] ∧ l.length ≤ 1000 then some (.str (jnS l)) else none
    | none => none
  | _ => none
def prvHook : Hook := hkAdd 75 nameV (hkAdd 88 joinV fun _ => none)
theorem prvHook_ok : HookOk Try.prog prvHook := by
  refine hkAdd_ok (fun ys r h => ?_) (hkAdd_ok (fun ys r h => ?_) noHook)
  · unfold nameV at h
    split at h
    · cases h; exact isName_pure _
    · cases h
  · unfold joinV at h
    split at h
    · rename_i rows sp
      split at h
      · rename_i l hl
        split at h
        · rename_i hc
          cases h
          obtain ⟨h1, h2⟩ := strsOf_ok _ _ hl
          rw [h1]
          exact join_pure l sp (by cases sp; simp at hc; rw [hc.1]) hc.2 h2
        · cases h
      · cases h
    · cases h
def sA : ByteArray := ⟨#[97]⟩
def sB : ByteArray := ⟨#[98]⟩
def sC : ByteArray := ⟨#[99]⟩
def wV (l : List ByteArray) (n : Int) : List AV := [.rs (rowsOf strC l), .int .i64 n]
def exV : List (List AV) := [wV [sA] 1, wV [sA, sB] 1, wV [sA, sB, sC] 1, wV [sB] 3]
def exP : List (List AV) := [wV [sA, sB] 2, wV [sB] 3]
def strB (l : List ByteArray) : Blk := .row 9 false (rowsOf strC l)
def exH : List Blk := [.row 54 false [[.os 1 2, .int .i64 2], [.os 2 1, .int .i64 3]], strB [sA, sB], strB [sB]]
theorem suppress_new : New Try.prog 15 [.rs exV, .int .i64 2] (.tup [.os 0 2, .int .i64 0]) exH :=
  exN_new (m := 4096) (n := 2) (b2 := fun _ _ _ => none) (cf := exFC Try.prog prvHook (fun _ _ _ => none) 4096 (fun _ _ _ => none) 40) mixed prvHook_ok (exFC_sound mixed prvHook_ok noRow noBase 40) noRow Try.func15 rfl (by kernel_rfl) (by kernel_rfl)
end Go.Proofs.Ytkppfaennogcmaa
