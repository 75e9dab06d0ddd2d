/- Chapter 55's example: Loss, and awake. -/
import Derived.Test.YtkppfaennogcmaaPrvA
namespace Go.Proofs.Ytkppfaennogcmaa
set_option linter.unusedSimpArgs false
set_option linter.unusedVariables false
set_option linter.unnecessarySimpa false
set_option linter.unusedSectionVars false
open Go.RowKit
variable [Glob]
set_option maxRecDepth 100000
theorem loss_ex : Pure Try.prog 17 [.rs exV, .rs exP] (.tup [.int .i64 2, .int .i64 0]) :=
  exN_pure (m := 4096) (n := 24) (b2 := fun _ _ _ => none) (cf := exFC Try.prog prvHook (fun _ _ _ => none) 4096 (fun _ _ _ => none) 40) mixed prvHook_ok (exFC_sound mixed prvHook_ok noRow noBase 40) noRow Try.func17 rfl (by kernel_rfl) (by kernel_rfl)
/-- Words with numbers, read back. -/
def decW : List (List AV) → Option (List (List (List UInt8) × Int))
  | [] => some []
  | [.rs rows, .int .i64 n] :: r => match strsOf rows, decW r with | some l, some q => some ((l.map (·.data.toList), n) :: q) | _, _ => none
  | _ => none
theorem decW_inj : ∀ (a b : List (List AV)) (l : List (List (List UInt8) × Int)), decW a = some l → decW b = some l → a = b := by
  intro a
  induction a with
  | nil =>
    intro b l h1 h2
    simp [decW] at h1
    subst h1
    cases b with
    | nil => rfl
    | cons r b =>
      unfold decW at h2
      split at h2
      · rename_i h0; cases h0
      · split at h2
        · simp at h2
        · cases h2
      · cases h2
  | cons x a ih =>
    intro b l h1 h2
    unfold decW at h1
    split at h1
    · rename_i h0; cases h0
    · rename_i rows n r hx
      cases hx
      split at h1
      · rename_i l1 q1 e1 e2
        cases h1
        cases b with
        | nil => simp [decW] at h2
        | cons y b =>
          unfold decW at h2
          split at h2
          · rename_i h0; cases h0
          · rename_i rows' n' r' hy
            cases hy
            split at h2
            · rename_i l2 q2 e3 e4
              simp only [Option.some.injEq, List.cons.injEq, Prod.mk.injEq] at h2
              obtain ⟨⟨k1, rfl⟩, rfl⟩ := h2
              have hl : l2 = l1 := by
                have : ∀ (x y : List ByteArray), x.map (·.data.toList) = y.map (·.data.toList) → x = y := by
                  intro x
                  induction x with
                  | nil => intro y h; cases y with | nil => rfl | cons _ _ => simp at h
                  | cons u x ih =>
                    intro y h
                    cases y with
                    | nil => simp at h
                    | cons v y =>
                      simp only [List.map_cons, List.cons.injEq] at h
                      rw [ih y h.2]
                      congr 1
                      cases u; cases v; simp at h; congr 1; exact Array.toList_inj.1 (by simpa using h.1)
                exact this _ _ k1
              subst hl
              rw [(strsOf_ok _ _ e1).1, (strsOf_ok _ _ e3).1, ih _ _ e2 e4]
            · cases h2
          · cases h2
      · cases h1
    · cases h1
def exVd : List (List (List UInt8) × Int) := [([[97]], 1), ([[97], [98]], 1), ([[97], [98], [99]], 1), ([[98]], 3)]
def exPd : List (List (List UInt8) × Int) := [([[97], [98]], 2), ([[98]], 3)]
theorem exVd_ok : decW exV = some exVd := by kernel_rfl
theorem exPd_ok : decW exP = some exPd := by kernel_rfl
def lossV : List AV → Option AV
  | [.rs a, .rs b] => if decW a = some exVd ∧ decW b = some exPd then some (.tup [.int .i64 2, .int .i64 0]) else none
  | _ => none
def prvHook2 : Hook := hkAdd 17 lossV prvHook
theorem prvHook2_ok : HookOk Try.prog prvHook2 := by
  refine hkAdd_ok (fun ys r h => ?_) prvHook_ok
  unfold lossV at h
  split at h
  · rename_i a b
    split at h
    · rename_i hc
      cases h
      rw [decW_inj _ _ _ hc.1 exVd_ok, decW_inj _ _ _ hc.2 exPd_ok]
      exact loss_ex
    · cases h
  · cases h
/-- Suppress of the example. -/
def supB : CallF := fun g xs H => if g = 15 then (match xs.mapM (reify H 8) with
    | some [.rs a, .int .i64 k] => if decW a = some exVd ∧ k = 2 then some (shA H.length (.tup [.os 0 2, .int .i64 0]), H ++ exH.map (shB H.length)) else none
    | _ => none) else none
theorem supB_ok : CallOk Try.prog supB := by
  intro g xs H r H' h
  unfold supB at h
  split at h
  · rename_i hg
    subst hg
    split at h
    · rename_i a k hm
      split at h
      · rename_i hc
        obtain ⟨hc1, rfl⟩ := hc
        simp only [Option.some.injEq, Prod.mk.injEq] at h
        obtain ⟨rfl, rfl⟩ := h
        rw [decW_inj _ _ _ hc1 exVd_ok] at hm
        exact new_G suppress_new hm (.inl ⟨by kernel_rfl, by kernel_rfl⟩) ⟨rfl, rfl⟩
      · cases h
    · cases h
  · cases h
theorem awake_pure : Pure Try.prog 12 [] (.bool true) := exFC_pure (m := 4096) (n := 40) mixed prvHook2_ok noRow supB_ok (by kernel_rfl)
end Go.Proofs.Ytkppfaennogcmaa
