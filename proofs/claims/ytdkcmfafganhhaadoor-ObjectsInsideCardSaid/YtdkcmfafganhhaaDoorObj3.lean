/- What is known of logs of objects, for computed calls. -/
import Derived.Test.YtdkcmfafganhhaaDoorObj2
import Derived.Test.YtdkcmfafganhhaaDoorTy
namespace Go.Proofs.YtdkcmfafganhhaaDoor
set_option linter.unusedSimpArgs false
set_option linter.unusedVariables false
set_option linter.unnecessarySimpa false
set_option linter.unusedSectionVars false
open Go.RowKit
variable [Glob]
set_option maxRecDepth 100000
def nameV : List AV → Option AV
  | [.str s] => some (.bool (isNameS s))
  | _ => none
def decRefs : List (List AV) → Option (List Rf)
  | [] => some []
  | [.str a, .str b] :: r => match decRefs r with | some l => some (⟨a, b⟩ :: l) | none => none
  | _ => none
theorem decRefs_ok : ∀ (rows : List (List AV)) (l : List Rf), decRefs rows = some l → rows = rowsOf refC l := by
  intro rows
  induction rows with
  | nil => intro l h; simp [decRefs] at h; subst h; rfl
  | cons x r ih =>
    intro l h
    unfold decRefs at h
    split at h
    · rename_i h0; cases h0
    · rename_i a b r' hx
      cases hx
      split at h
      · rename_i l' hl
        cases h
        rw [ih l' hl]; rfl
      · cases h
    · cases h
def decObjs : List (List AV) → Option (List Obj)
  | [] => some []
  | [.str a, .int .i64 t, .rs rows] :: r => match decRefs rows, decObjs r with | some q, some l => some (⟨a, t, q⟩ :: l) | _, _ => none
  | _ => none
theorem decObjs_ok : ∀ (rows : List (List AV)) (l : List Obj), decObjs rows = some l → rows = rowsOf objC l := by
  intro rows
  induction rows with
  | nil => intro l h; simp [decObjs] at h; subst h; rfl
  | cons x r ih =>
    intro l h
    unfold decObjs at h
    split at h
    · rename_i h0; cases h0
    · rename_i a t q r' hx
      cases hx
      split at h
      · rename_i q' l' hq hl
        cases h
        rw [ih l' hl, decRefs_ok _ _ hq]; rfl
      · cases h
    · cases h
def objVV : List AV → Option AV
  | [.agg [.rs rows]] => match decObjs rows with | some l => some (.bool (objV l)) | none => none
  | _ => none
def objHook : Hook := hkAdd 43 nameV (hkAdd 26 objVV cmpHook)
theorem objHook_ok : HookOk Tryd.prog objHook := by
  refine hkAdd_ok (fun ys r h => ?_) (hkAdd_ok (fun ys r h => ?_) cmpHook_ok)
  · unfold nameV at h
    split at h
    · cases h; exact isName_pure _
    · cases h
  · unfold objVV at h
    split at h
    · split at h
      · rename_i rows l hl
        cases h
        rw [decObjs_ok _ _ hl]
        exact ovalid_pure l
      · cases h
    · cases h
theorem awake_pure : Pure Tryd.prog 5 [] (.bool true) := exF_pure (m := 4096) (n := 30) mixed objHook_ok (by kernel_rfl)
end Go.Proofs.YtdkcmfafganhhaaDoor
