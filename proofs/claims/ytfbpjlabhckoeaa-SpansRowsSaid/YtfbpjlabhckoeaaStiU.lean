/- slices.SortStableFunc on the events of a log, by their times. -/
import Derived.Test.YtfbpjlabhckoeaaStiS
import Derived.Test.YtfbpjlabhckoeaaStiT
namespace Go.Proofs.Ytfbpjlabhckoeaa
set_option linter.unusedSimpArgs false
set_option linter.unusedVariables false
set_option linter.unnecessarySimpa false
set_option linter.unusedSectionVars false
open Go.RowKit
variable [Glob]
open Stab
variable {li : List Ins}
set_option maxRecDepth 100000
theorem sym_allX (g : Nat) (cm : (Ix li) → (Ix li) → Int) (hcmp : ∀ x y : (Ix li), Pure Try.prog g [.int .i64 (x.i : Int), .int .i64 (y.i : Int), .rp [.rs (rowsOf insC li)]] (.int .i64 (cm x y))) (hs : Swo (ltCX cm)) :
    ∀ (n : Nat) (A P Q B : List (Ix li)), P.length + Q.length ≤ n → Srtd (ltCX cm) P → Srtd (ltCX cm) Q → P ≠ [] → Q ≠ [] → (A ++ (P ++ (Q ++ B))).length ≤ 2000 → SymCX g cm A P Q B := by
  intro n
  induction n with
  | zero => intro A P Q B h _ _ hP; exact absurd (List.eq_nil_of_length_eq_zero (by omega)) hP
  | succ n ih =>
    intro A P Q B h sP sQ hP hQ hl
    by_cases h1 : P.length = 1
    · obtain ⟨x, rfl⟩ := List.length_eq_one_iff.1 h1
      exact sym_oneX g cm hcmp hs A Q B x sQ hl
    by_cases h2 : Q.length = 1
    · obtain ⟨x, rfl⟩ := List.length_eq_one_iff.1 h2
      exact sym_lastX g cm hcmp hs A P B x sP h1 hl
    have l1 := List.length_pos_iff.2 hP
    have l2 := List.length_pos_iff.2 hQ
    have ih' : ∀ A' P' Q' B' : List (Ix li), P'.length + Q'.length < P.length + Q.length → Srtd (ltCX cm) P' → Srtd (ltCX cm) Q' → P' ≠ [] → Q' ≠ [] → (A' ++ (P' ++ (Q' ++ B'))).length ≤ 2000 → SymCX g cm A' P' Q' B' :=
      fun A' P' Q' B' q => ih A' P' Q' B' (by omega)
    obtain ⟨mid, hmid⟩ : ∃ mid, (A.length + (A.length + P.length + Q.length)) / 2 = mid := ⟨_, rfl⟩
    by_cases hc : mid < A.length + P.length
    · exact sym_genX g cm hcmp hs A P Q B sP sQ (by omega) (by omega) hl ih' _ _ _ mid (mid + (A.length + P.length) - (A.length + P.length + Q.length)) mid rfl rfl rfl hmid (.inl ⟨hc, rfl, rfl⟩)
    · exact sym_genX g cm hcmp hs A P Q B sP sQ (by omega) (by omega) hl ih' _ _ _ mid A.length (A.length + P.length) rfl rfl rfl hmid (.inr ⟨hc, rfl, rfl⟩)
end Go.Proofs.Ytfbpjlabhckoeaa
