/- Chapter 12's examples, by computed calls. -/
import Derived.Test.YtnldjmokemgaoaaKeysS
import Derived.Test.YtnldjmokemgaoaaEl1
import Derived.Test.YtnldjmokemgaoaaAbExB
import Derived.Test.YtnldjmokemgaoaaTy
namespace Go.Proofs.Ytnldjmokemgaoaa
set_option linter.unusedSimpArgs false
set_option linter.unusedVariables false
set_option linter.unnecessarySimpa false
set_option linter.unusedSectionVars false
open Go.RowKit
variable [Glob]
set_option maxRecDepth 100000
def nameV : List AV → Option AV
  | [.str s] => some (.bool (isNameS s))
  | _ => none
def elHook : Hook := hkAdd 71 nameV fun _ => none
theorem elHook_ok : HookOk Try.prog elHook := by
  refine hkAdd_ok (fun ys r h => ?_) noHook
  unfold nameV at h
  split at h
  · cases h; exact isName_pure _
  · cases h
def decKeys : List (AV × AV) → Option (List ByteArray)
  | [] => some []
  | (.str s, _) :: r => match decKeys r with | some l => if hasB l s = false ∧ s.size ≤ 1000 then some (s :: l) else none | none => none
  | _ => none
theorem decKeys_ok : ∀ (es : List (AV × AV)) (l : List ByteArray), decKeys es = some l → es.map (·.1) = l.map .str ∧ l.Nodup ∧ (∀ k ∈ l, k.size ≤ 1000) ∧ l.length = es.length := by
  intro es
  induction es with
  | nil => intro l h; simp [decKeys] at h; subst h; simp
  | cons e r ih =>
    intro l h
    unfold decKeys at h
    split at h
    · rename_i h0; cases h0
    · rename_i hx
      cases hx
      split at h
      · rename_i l' hl
        split at h
        · rename_i hc
          cases h
          obtain ⟨h1, h2, h3, h4⟩ := ih _ hl
          refine ⟨by simp [h1], List.nodup_cons.2 ⟨fun q => by rw [hasB_iff.2 q] at hc; simp at hc, h2⟩, fun k hk => ?_, by simp [h4]⟩
          rcases List.mem_cons.1 hk with rfl | hk
          · exact hc.2
          · exact h3 k hk
        · cases h
      · cases h
    · cases h
/-- slices.Sorted(maps.Keys(m)), computed. -/
def keysB : CallF := fun g xs H => if g = 56 then (match xs with
    | [.fn f [.op b 0]] => if f = 81 then (match H[b]? with
      | some (.box _ [.mp m]) => (match H[m]? with
        | some (.map es) => (match decKeys es with | some ks => if ks.length ≤ 1000 then some (.rs (rowsOf strC (setB ks)), H) else none | none => none)
        | _ => none)
      | _ => none) else none
    | _ => none) else none
theorem keysB_ok : CallOk Try.prog keysB := by
  intro g xs H r H' h
  unfold keysB at h
  split at h
  · rename_i hg
    split at h
    · split at h
      · rename_i f b hf
        split at h
        · rename_i tc m hb
          split at h
          · rename_i es hm
            split at h
            · rename_i ks hk
              split at h
              · rename_i hl
                cases h
                subst hf
                rw [hg]
                obtain ⟨h1, h2, h3, h4⟩ := decKeys_ok _ _ hk
                exact keys_G hb hm h1 h2 (fun k hk => by have := h3 k hk; unfold maxLen; omega) (by omega) ⟨rfl, rfl⟩
              · cases h
            · cases h
          · cases h
        · cases h
      · cases h
    · cases h
  · cases h
theorem awake_pure : Pure Try.prog 8 [] (.bool true) := exFB_pure (m := 4096) (n := 40) mixed elHook_ok keysB_ok (by kernel_rfl)
end Go.Proofs.Ytnldjmokemgaoaa
