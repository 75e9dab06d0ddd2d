/- slices.SortStableFunc on the events of a log, by their times. -/
import Derived.Test.YtnldjmokemgaoaaGreatStbS
import Derived.Test.YtnldjmokemgaoaaGreatStbT
namespace Go.Proofs.YtnldjmokemgaoaaGreat
set_option linter.unusedSimpArgs false
set_option linter.unusedVariables false
set_option linter.unnecessarySimpa false
set_option linter.unusedSectionVars false
open Go.RowKit
variable [Glob]
open Stab
set_option maxRecDepth 100000
theorem sym_all (g : Nat) (cm : EvS → EvS → Int) (hcmp : ∀ x y : EvS, Pure Tryz.prog g [.agg (evS x), .agg (evS y)] (.int .i64 (cm x y))) (hs : Swo (ltC cm)) :
    ∀ (n : Nat) (A P Q B : List EvS), P.length + Q.length ≤ n → Srtd (ltC cm) P → Srtd (ltC cm) Q → P ≠ [] → Q ≠ [] → (A ++ (P ++ (Q ++ B))).length ≤ 2000 → SymC g cm A P Q B := by
  intro n
  induction n with
  | zero => intro A P Q B h _ _ hP; exact absurd (List.eq_nil_of_length_eq_zero (by omega)) hP
  | succ n ih =>
    intro A P Q B h sP sQ hP hQ hl
    by_cases h1 : P.length = 1
    · obtain ⟨x, rfl⟩ := List.length_eq_one_iff.1 h1
      exact sym_one g cm hcmp hs A Q B x sQ hl
    by_cases h2 : Q.length = 1
    · obtain ⟨x, rfl⟩ := List.length_eq_one_iff.1 h2
      exact sym_last g cm hcmp hs A P B x sP h1 hl
    have l1 := List.length_pos_iff.2 hP
    have l2 := List.length_pos_iff.2 hQ
    have ih' : ∀ A' P' Q' B' : List EvS, P'.length + Q'.length < P.length + Q.length → Srtd (ltC cm) P' → Srtd (ltC cm) Q' → P' ≠ [] → Q' ≠ [] → (A' ++ (P' ++ (Q' ++ B'))).length ≤ 2000 → SymC g cm A' P' Q' B' :=
      fun A' P' Q' B' q => ih A' P' Q' B' (by omega)
    obtain ⟨mid, hmid⟩ : ∃ mid, (A.length + (A.length + P.length + Q.length)) / 2 = mid := ⟨_, rfl⟩
    by_cases hc : mid < A.length + P.length
    · exact sym_gen g cm hcmp hs A P Q B sP sQ (by omega) (by omega) hl ih' _ _ _ mid (mid + (A.length + P.length) - (A.length + P.length + Q.length)) mid rfl rfl rfl hmid (.inl ⟨hc, rfl, rfl⟩)
    · exact sym_gen g cm hcmp hs A P Q B sP sQ (by omega) (by omega) hl ih' _ _ _ mid A.length (A.length + P.length) rfl rfl rfl hmid (.inr ⟨hc, rfl, rfl⟩)
def evCm (x y : EvS) : Int := x.1.time - y.1.time
theorem evCm_lt {x y : EvS} : ltC evCm x y = true ↔ x.1.time < y.1.time := by
  unfold ltC evCm
  rw [decide_eq_true_eq]
  constructor <;> intro h <;> omega
theorem evCm_swo : Swo (ltC evCm) := ⟨fun x => by
    cases e : ltC evCm x x
    · rfl
    · rw [evCm_lt] at e; omega,
  fun x y z a b => by rw [evCm_lt] at *; omega,
  fun x y z a => by rw [evCm_lt] at *; rw [evCm_lt]; omega⟩
theorem merge1_pure (x y : EvS) : Pure Tryz.prog 52 [.agg (evS x), .agg (evS y)] (.int .i64 (evCm x y)) := by
  obtain ⟨⟨c, a, r, life, time, data⟩, hx⟩ := x
  obtain ⟨⟨c', a', r', life', time', data'⟩, hy⟩ := y
  simp only at hx hy
  have w1 : wrapI .i64 (time - time') = time - time' := wrap_in (by omega) (by omega)
  refine pure_of mixed Tryz.func52 rfl (by kernel_rfl) (of_decide_eq_true rfl) (by kernel_rfl) (vc_run ?_)
  ((try simp -implicitDefEqProofs [-loopQ_n, evS, evtC, evCm, w1]) <;> (repeat' (first | (refine condD_dec ?_ ?_ <;> (intro hc; (try simp -implicitDefEqProofs [-loopQ_n, hc, evS, evtC, evCm, w1]))) | (refine guardD_dec ?_ ?_ <;> (intro hc; (try simp -implicitDefEqProofs [-loopQ_n, hc, evS, evtC, evCm, w1]))) | (refine condD_intro ?_ ?_ <;> (intro hd; have hc := hd; (try simp at hc) <;> (try simp -implicitDefEqProofs [-loopQ_n, hd, hc, evS, evtC, evCm, w1]))) | (refine guardD_intro ?_ ?_ <;> (intro hd; have hc := hd; (try simp at hc) <;> (try simp -implicitDefEqProofs [-loopQ_n, hd, hc, evS, evtC, evCm, w1]))) | (refine ldD_ep ?_ ?_; (focus kernel_rfl); (try simp -implicitDefEqProofs [-loopQ_n, evS, evtC, evCm, w1])))))
/-- The events of a log, sorted by their times. -/
theorem sortE_G (X : List EvS) (N : Nat) (hN : X.length = N) (hl : N ≤ 2000) :
    CallG Tryz.prog 51 [.os 0 N, .fn 52 []] [rowE X]
      fun r H => r = .tup [] ∧ ∃ Y : List EvS, H = [rowE Y] ∧ Srtd (ltC evCm) Y ∧ Stb (ltC evCm) X Y :=
  sstable_G _ evCm merge1_pure evCm_swo (fun A P Q B h1 h2 h3 h4 h5 => sym_all _ evCm merge1_pure evCm_swo _ A P Q B (Nat.le_refl _) h1 h2 h3 h4 h5) X N hN hl
end Go.Proofs.YtnldjmokemgaoaaGreat
