/- cmp.Or of numbers, and the orders of two numbers that sorting asks for (old walks). -/
import Derived.Test.YtfbpjlabhckoeaaGreatCmpO
import Derived.Test.YtfbpjlabhckoeaaGreatLaySp
import Derived.Shelf.SlicesG.Cmp
import Derived.ProofKit
namespace Go.Proofs.YtfbpjlabhckoeaaGreat
set_option linter.unusedSimpArgs false
set_option linter.unusedVariables false
set_option linter.unnecessarySimpa false
set_option linter.unusedSectionVars false
open Go.RowKit Go.Sort Go.Shelf
variable [Glob]
set_option maxRecDepth 100000
def rdI : Rd Int := fun w a x => w.cell? a = some (.int .i64 x)
abbrev IntsS := Sl rdI 1
theorem mono_intS : Mono rdI := fun _ _ _ _ hb h => Below.cell_some hb h
theorem Sl.intS {w : World} {A : Option Addr} {n k : Nat} {l : List Int} (h : IntsS w A n l) (hk : k < n) :
    ∃ ad, A = some ad ∧ ∃ h : k < l.length, w.cell? (ad.add k) = some (.int .i64 l[k]) := by
  obtain ⟨rfl, _, h2⟩ := h
  obtain ⟨ad, h3, h4⟩ := h2 k hk
  exact ⟨ad, h3, hk, by simpa [rdI] using h4⟩
def orL : List Int → Int
  | [] => 0
  | x :: r => if x = 0 then orL r else x
theorem or_calls (A : Option Addr) (n c : Nat) (l : List Int) (w : World) (h : IntsS w A n l) :
    Calls Tryz.prog 37 #[.slice A n c] w fun e w' => e = .returned (.int .i64 (orL l)) ∧ Grown w w' := by
  have hn := h.len
  have hla := Lib.hid h.1
  go_enter Tryz.func37, Tryz.ntmps37
  go_wp2_with fail
  go_loopw [8] (fun i wr => ∃ k : Nat, k ≤ n ∧ i = .int .i64 k ∧ Hid (Grown w wr) ∧ Hid (orL (l.drop k) = orL l)) (fun i _ => n - (intOf i).toNat)
  case atStart => exact ⟨0, Nat.zero_le _, rfl, Grown.refl _, by simp [Hid]⟩
  case round =>
    obtain ⟨k, hk, rfl, hb, hR⟩ := hrel
    have hB := Lib.hid hb.out.below
    by_cases hlt : k < n
    · obtain ⟨ad, rfl, hk1, hc⟩ := (h.below mono_intS hB.out).intS hlt
      have hR2 := hR.out
      rw [List.drop_eq_getElem_cons hk1, orL] at hR2
      by_cases hz : l[k] = 0
      · rw [if_pos hz] at hR2
        have hR2 := Lib.hid hR2
        go_wp2_with fail
        go_roundw
        case rel => exact ⟨k + 1, by omega, by go_num, hb, hR2⟩
        case measure => simp [intOf]; omega
      · rw [if_neg hz] at hR2
        have hR2 := Lib.hid hR2
        go_wp2_with fail
        go_ret
        exact ⟨by first | exact ret_int hR2.out | rfl, hb.out⟩
    · have hR2 := hR.out
      rw [List.drop_eq_nil_of_le (by have := hla.out; omega)] at hR2
      have hR2 : (0 : Int) = orL l := hR2
      have hR2 := Lib.hid hR2
      go_wp2_with fail
      go_ret
      exact ⟨by first | exact ret_int hR2.out | rfl, hb.out⟩
end Go.Proofs.YtfbpjlabhckoeaaGreat
