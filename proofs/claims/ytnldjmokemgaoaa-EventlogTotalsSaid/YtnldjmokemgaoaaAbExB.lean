/- Computed calls over contracts that turn or make memory. -/
import Derived.Test.YtnldjmokemgaoaaAbExec
namespace Go.Proofs.Ytnldjmokemgaoaa
set_option linter.unusedSimpArgs false
set_option linter.unusedVariables false
set_option linter.unnecessarySimpa false
set_option linter.unusedSectionVars false
open Go.RowKit
variable [Glob]
noncomputable section
variable (P : Program) (hk : Hook) (m : Nat) (base : CallF)
def exFB : Nat → CallF
  | 0, g, args, H => base g args H
  | n + 1, g, args, H => match base g args H with
    | some r => some r
    | none => match P.funcs[g]? with
      | some fn => match fn.body with
        | some c => if (entersB P g && decide (args.length ≤ fn.ntmps) && okCode fn.ntmps c) = true then
            match exC P hk (exFB n) m c ⟨argT 0 args, H⟩ with
            | some (.exit _, _) => none
            | some (_, s) => match resA P fn s with | some x => some (x, s.H) | none => none
            | none => none
          else none
        | none => none
      | none => none
end
section
variable {P : Program} {hk : Hook} {m : Nat} {base : CallF}
theorem exFB_sound (hm : P.follows .mixedOrders = true) (h1 : HookOk P hk) (hb0 : CallOk P base) : ∀ n, CallOk P (exFB P hk m base n) := by
  intro n
  induction n with
  | zero => exact hb0
  | succ n ih =>
    intro g as H r H' h
    simp only [exFB] at h
    split at h
    · rename_i q hq
      simp only [Option.some.injEq] at h
      subst h
      exact hb0 _ _ _ _ _ hq
    · split at h
      · rename_i fn hf
        split at h
        · rename_i c hc
          split at h
          · rename_i hb
            simp only [Bool.and_eq_true, decide_eq_true_eq] at hb
            split at h
            · simp at h
            · rename_i e s hne hs
              split at h
              · rename_i x hx
                simp at h
                obtain ⟨rfl, rfl⟩ := h
                refine inl_G hm hf hc hb.1.1 hb.1.2 hb.2 (exC_sound h1 ih _ _ _ _ _ hs ?_)
                cases e with
                | normal => exact ⟨x, x, s.H, hx, Weak.refl _, rfl, rfl⟩
                | exit j => exact (hne j rfl).elim
                | ret => exact ⟨x, x, s.H, hx, Weak.refl _, rfl, rfl⟩
              · simp at h
            · simp at h
          · simp at h
        · simp at h
      · simp at h
theorem exFB_pure (hm : P.follows .mixedOrders = true) (h1 : HookOk P hk) (hb0 : CallOk P base) {n : Nat} {f : FuncId} {args : List AV} {r : AV} (h : ((exFB P hk m base n f args []).bind fun x => reify x.2 8 x.1) = some r) : Pure P f args r := by
  obtain ⟨⟨x, H⟩, k1, k2⟩ := Option.bind_eq_some_iff.1 h
  exact new_pure (callG_new (exFB_sound hm h1 hb0 n _ _ _ _ _ k1)) k2
end
end Go.Proofs.Ytnldjmokemgaoaa
