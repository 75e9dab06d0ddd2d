/- The walks through the functions on fractions: what each returns. Nothing that was there is turned. -/
import Derived.Test.YtkppfaennogcmaaProg
import Derived.Test.YtkppfaennogcmaaLib
import Derived.Test.YtkppfaennogcmaaFracH
import Derived.WalkSpells
import Derived.WalkLawsBesides
import Derived.Deep.QuietTactic
import Derived.BigQuiet
import Derived.Outline
namespace Go.Proofs.Ytkppfaennogcmaa
set_option linter.unusedSimpArgs false
set_option linter.unusedVariables false
set_option linter.unnecessarySimpa false
set_option linter.unusedSectionVars false
open Go.RowKit

set_option maxHeartbeats 400000 in
theorem gcd_any (a b : Nat) (w : World) (ha : a ≤ 4611686018427387904) (hb : b ≤ 4611686018427387904) :
    Calls Try.prog 100 #[.int .i64 a, .int .i64 b] w fun e w' => e = .returned (.int .i64 (Nat.gcd a b : Nat)) ∧ Below w.heap.size w w' := by
  go_enter Try.func100, Try.ntmps100
  go_wp2
  go_loopw [0, 1] (fun x y wr => ∃ p q : Nat, x = .int .i64 p ∧ y = .int .i64 q ∧ p ≤ 4611686018427387904 ∧ q ≤ 4611686018427387904 ∧ Hid (Nat.gcd p q = Nat.gcd a b) ∧ Below w.heap.size w wr) (fun _ y _ => (intOf y).toNat)
  case atStart => exact ⟨a, b, rfl, rfl, ha, hb, rfl, Below.refl _ _⟩
  case round =>
    obtain ⟨p, q, rfl, rfl, hp, hq, hg, hbl⟩ := hrel
    by_cases h0 : q = 0
    · have h0' : ((q : Int) != 0) = false := by simp [h0]
      have HG := Lib.hid h0; clear h0
      go_wp2
      go_ret
      exact ⟨ret_int (by rw [← hg.out, HG.out, Nat.gcd_zero_right]), hbl⟩
    · have h1 : 1 ≤ q := by omega
      have h0' : ((q : Int) != 0) = true := by simp; omega
      go_wp2
      go_region
      go_wp2
      have hm : p % q < q := Nat.mod_lt _ (by omega)
      go_roundw
      case rel => exact ⟨q, p % q, rfl, by simp, hq, by omega, by rw [gcd_step]; exact hg, hbl.drew⟩
      case measure => simp [intOf]; exact_mod_cast hm

theorem abs_any (n : Int) (w : World) (h1 : -4611686018427387904 ≤ n) (h2 : n ≤ 4611686018427387904) :
    Calls Try.prog 115 #[.int .i64 n] w fun e w' => e = .returned (.int .u64 (n.natAbs : Nat)) ∧ Below w.heap.size w w' := by
  by_cases h : n < 0
  all_goals
    go_enter Try.func115, Try.ntmps115
    go_wp2
    go_ret
    refine ⟨?_, Below.refl _ _⟩
    first | exact ret_int (by simp only [IntKind.wrap, IntKind.signed, IntKind.bits]; simp; omega) | exact ret_int (by omega)

/-- Two results, the first a struct of two numbers. -/
def RetFrac (r : Int × Int × Int) (w : World) (e : Ending) (w' : World) : Prop :=
  e = .returned (.tuple #[.agg #[.int .i64 r.1, .int .i64 r.2.1], .int .i64 r.2.2]) ∧ Below w.heap.size w w'

set_option maxHeartbeats 1000000 in
theorem fit_any (neg : Bool) (n d : Nat) (w : World) (h1 : 1 ≤ d) (h2 : d ≤ 9223372036854775808) (h3 : n ≤ 9223372036854775808) :
    Calls Try.prog 114 #[.bool neg, .int .u64 n, .int .u64 d] w (RetFrac (fitF neg n d) w) := by
  obtain ⟨G, hG⟩ : ∃ G, G = Nat.gcd n d := ⟨_, rfl⟩
  have hG1 : 1 ≤ G := by rw [hG]; exact Nat.gcd_pos_of_pos_right _ (by omega)
  obtain ⟨N, hN⟩ : ∃ N, N = n / G := ⟨_, rfl⟩
  obtain ⟨D, hD⟩ : ∃ D, D = d / G := ⟨_, rfl⟩
  have hNn : N ≤ n := by rw [hN]; exact Nat.div_le_self _ _
  have hDd : D ≤ d := by rw [hD]; exact Nat.div_le_self _ _
  have HF : Hid (fitF neg n d = if 1073741824 < N ∨ 1073741824 < D then (0, 0, 6) else (if neg then -(N : Int) else (N : Int), (D : Int), 0)) := by
    subst hN hD hG; rfl
  have HGG := Lib.hid hG; clear hG
  have HN := Lib.hid hN; clear hN
  have HD := Lib.hid hD; clear hD
  go_enter Try.func114, Try.ntmps114
  go_wp2
  go_loopw [8, 9] (fun x y wr => ∃ p q : Nat, x = .int .u64 p ∧ y = .int .u64 q ∧ p ≤ 9223372036854775808 ∧ q ≤ 9223372036854775808 ∧ Hid (Nat.gcd p q = G) ∧ ∃ k, Hid (wr = (w.alloc (.cells #[.int .i64 0, .int .i64 0] 61)).drewN k)) (fun _ y _ => (intOf y).toNat)
  case atStart => exact ⟨n, d, rfl, rfl, h3, h2, HGG.out.symm, 0, rfl⟩
  case round =>
    obtain ⟨p, q, rfl, rfl, hp, hq, hg, k, hwr⟩ := hrel
    obtain rfl := hwr
    by_cases h0 : q = 0
    · have h0' : ((q : Int) != 0) = false := by simp [h0]
      have hp' : p = G := by rw [← hg.out, h0, Nat.gcd_zero_right]
      clear h0 hg
      obtain rfl := hp'
      have hp0 : 1 ≤ (p : Int) := by omega
      have wN : IntKind.u64.wrap ((n : Int) / (p : Int)) = (N : Int) := by
        rw [HN.out, ← Int.natCast_ediv]; have := Nat.div_le_self n p; have := Int.natCast_nonneg (n / p); exact IntWalk.u64_in _ ⟨by omega, by omega⟩
      have wD : IntKind.u64.wrap ((d : Int) / (p : Int)) = (D : Int) := by
        rw [HD.out, ← Int.natCast_ediv]; have := Nat.div_le_self d p; have := Int.natCast_nonneg (d / p); exact IntWalk.u64_in _ ⟨by omega, by omega⟩
      by_cases hb1 : N ≤ 1073741824
      · by_cases hb2 : D ≤ 1073741824
        · cases neg
          all_goals
            go_wp2
            go_region
            go_wp2
            refine bodyPost_ret (v := .tuple #[.agg #[.int .i64 _, .int .i64 _], .int .i64 _]) (by simp [results, Try.results114, go_sem]; exact ⟨⟨rfl, rfl⟩, rfl⟩) rfl ⟨?_, (by repeat (first | exact Below.refl _ _ | assumption | refine Below.drew ?_ | refine bdrewN ?_ _ | refine Below.alloc ?_ (by first | omega | (simp; done) | (simp; omega) | exact Below.size (by assumption)) _ | refine Below.setCell ?_ (by first | omega | (simp; done) | (simp; omega)) _ | refine bstep ?_ (by assumption)))⟩
            rw [HF.out, if_neg (by omega)]
            simp
        · go_wp2
          go_region
          go_wp2
          refine bodyPost_ret (v := .tuple #[.agg #[.int .i64 _, .int .i64 _], .int .i64 _]) (by simp [results, Try.results114, go_sem]; exact ⟨⟨rfl, rfl⟩, rfl⟩) rfl ⟨?_, (by repeat (first | exact Below.refl _ _ | assumption | refine Below.drew ?_ | refine bdrewN ?_ _ | refine Below.alloc ?_ (by first | omega | (simp; done) | (simp; omega) | exact Below.size (by assumption)) _ | refine Below.setCell ?_ (by first | omega | (simp; done) | (simp; omega)) _ | refine bstep ?_ (by assumption)))⟩
          rw [HF.out, if_pos (by omega)]
      · go_wp2
        go_region
        go_wp2
        refine bodyPost_ret (v := .tuple #[.agg #[.int .i64 _, .int .i64 _], .int .i64 _]) (by simp [results, Try.results114, go_sem]; exact ⟨⟨rfl, rfl⟩, rfl⟩) rfl ⟨?_, (by repeat (first | exact Below.refl _ _ | assumption | refine Below.drew ?_ | refine bdrewN ?_ _ | refine Below.alloc ?_ (by first | omega | (simp; done) | (simp; omega) | exact Below.size (by assumption)) _ | refine Below.setCell ?_ (by first | omega | (simp; done) | (simp; omega)) _ | refine bstep ?_ (by assumption)))⟩
        rw [HF.out, if_pos (by omega)]
    · have h1 : 1 ≤ q := by omega
      have h0' : ((q : Int) != 0) = true := by simp; omega
      go_wp2
      go_region
      go_wp2
      have hm : p % q < q := Nat.mod_lt _ (by omega)
      go_roundw
      case rel => exact ⟨q, p % q, rfl, by simp, hq, by omega, by rw [gcd_step]; exact hg, k + 1, rfl⟩
      case measure => simp [intOf]; exact_mod_cast hm

theorem gcd_int (a b : Int) (w : World) (ha : 0 ≤ a) (ha' : a ≤ 4611686018427387904) (hb : 0 ≤ b) (hb' : b ≤ 4611686018427387904) :
    Calls Try.prog 100 #[.int .i64 a, .int .i64 b] w fun e w' => e = .returned (.int .i64 (Nat.gcd a.natAbs b.natAbs : Nat)) ∧ Below w.heap.size w w' := by
  obtain ⟨p, rfl⟩ := Int.eq_ofNat_of_zero_le ha
  obtain ⟨q, rfl⟩ := Int.eq_ofNat_of_zero_le hb
  exact gcd_any p q w (by omega) (by omega)

set_option maxHeartbeats 1000000 in
theorem fvalid_any (n d : Int) (w : World) :
    Calls Try.prog 79 #[.agg #[.int .i64 n, .int .i64 d]] w fun e w' => e = .returned (.bool (validF n d)) ∧ Below w.heap.size w w' := by
  by_cases h : (-1073741824 ≤ n ∧ n ≤ 1073741824) ∧ 1 ≤ d ∧ d ≤ 1073741824
  · obtain ⟨⟨h1, h2⟩, h3, h4⟩ := h
    obtain ⟨G, hG⟩ : ∃ G, G = Nat.gcd n.natAbs d.natAbs := ⟨_, rfl⟩
    have hv : validF n d = ((G : Int) == 1) := by
      rw [Bool.eq_iff_iff]; simp [validF, validFP, h1, h2, h3, h4, ← hG]; omega
    have HV := Lib.hid hv; clear hv
    have hg1 := fun w h => gcd_int n d w h (by omega) (by omega) (by omega)
    have hg2 := fun w h => gcd_int (-n) d w h (by omega) (by omega) (by omega)
    rw [Int.natAbs_neg] at hg2
    rw [← hG] at hg1 hg2
    have HG1 := Lib.hid hg1; clear hg1
    have HG2 := Lib.hid hg2; clear hg2
    have HGG := Lib.hid hG; clear hG
    by_cases hs : n < -n
    all_goals
      go_enter Try.func79, Try.ntmps79
      go_wp2_with fail
    · skip
      refine (HG2.out _ (by omega)).mono ?_
      rintro e w1 ⟨rfl, hb1⟩
      have hz1 := hb1.size
      try simp at hz1
      obtain ⟨hc1_w, hf1_w⟩ := bcellm (M := w.heap.size + 1) hb1 (by first | omega | (simp; done) | (simp; omega))
      have hl1_w0 : w.heap.size < w1.heap.size := by omega
      go_wp2_with fail
      go_ret
      exact ⟨ret_bool HV.out.symm, (by repeat (first | exact Below.refl _ _ | assumption | refine Below.drew ?_ | refine bdrewN ?_ _ | refine Below.alloc ?_ (by first | omega | (simp; done) | (simp; omega) | exact Below.size (by assumption)) _ | refine Below.setCell ?_ (by first | omega | (simp; done) | (simp; omega)) _ | refine bstep ?_ (by assumption)))⟩
    · skip
      refine (HG1.out _ (by omega)).mono ?_
      rintro e w1 ⟨rfl, hb1⟩
      have hz1 := hb1.size
      try simp at hz1
      obtain ⟨hc1_w, hf1_w⟩ := bcellm (M := w.heap.size + 1) hb1 (by first | omega | (simp; done) | (simp; omega))
      have hl1_w0 : w.heap.size < w1.heap.size := by omega
      go_wp2_with fail
      go_ret
      exact ⟨ret_bool HV.out.symm, (by repeat (first | exact Below.refl _ _ | assumption | refine Below.drew ?_ | refine bdrewN ?_ _ | refine Below.alloc ?_ (by first | omega | (simp; done) | (simp; omega) | exact Below.size (by assumption)) _ | refine Below.setCell ?_ (by first | omega | (simp; done) | (simp; omega)) _ | refine bstep ?_ (by assumption)))⟩
  · have hv : validF n d = false := by
      rw [Bool.eq_false_iff]; intro hh
      have hh : validFP n d := of_decide_eq_true hh
      exact h ⟨⟨hh.1, hh.2.1⟩, hh.2.2.1, hh.2.2.2.1⟩
    have HV := Lib.hid hv; clear hv
    have hc : ¬ -1073741824 ≤ n ∨ (-1073741824 ≤ n ∧ ¬ n ≤ 1073741824) ∨ (-1073741824 ≤ n ∧ n ≤ 1073741824 ∧ ¬ 1 ≤ d) ∨ (-1073741824 ≤ n ∧ n ≤ 1073741824 ∧ 1 ≤ d ∧ ¬ d ≤ 1073741824) := by omega
    clear h
    rcases hc with h1 | ⟨h1, h2⟩ | ⟨h1, h2, h3⟩ | ⟨h1, h2, h3, h4⟩
    all_goals
      go_enter Try.func79, Try.ntmps79
      go_wp2_with fail
      go_ret
      exact ⟨ret_bool HV.out.symm, (by repeat (first | exact Below.refl _ _ | assumption | refine Below.drew ?_ | refine bdrewN ?_ _ | refine Below.alloc ?_ (by first | omega | (simp; done) | (simp; omega) | exact Below.size (by assumption)) _ | refine Below.setCell ?_ (by first | omega | (simp; done) | (simp; omega)) _ | refine bstep ?_ (by assumption)))⟩

end Go.Proofs.Ytkppfaennogcmaa
