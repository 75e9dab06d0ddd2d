/- Several texts of the abstract machine, one behind the other. -/
import Derived.Test.YthiclaihlpkinaaGreatProg
import Derived.Test.YthiclaihlpkinaaGreatLib
import Derived.WalkSpells
import Derived.WalkLawsBesides
import Derived.Deep.QuietTactic
import Derived.BigQuiet
import Derived.Outline
import Derived.Test.YthiclaihlpkinaaGreatTy
import Derived.Test.YthiclaihlpkinaaGreatBr
import Derived.Test.YthiclaihlpkinaaGreatM4
set_option linter.unusedSimpArgs false
set_option linter.unusedVariables false
set_option linter.unnecessarySimpa false
set_option linter.unusedSectionVars false
set_option maxRecDepth 100000
namespace Go.Proofs.YthiclaihlpkinaaGreat
def validFP (n d : Int) : Prop := -1073741824 ≤ n ∧ n ≤ 1073741824 ∧ 1 ≤ d ∧ d ≤ 1073741824 ∧ Nat.gcd n.natAbs d.natAbs = 1
instance (n d : Int) : Decidable (validFP n d) := by unfold validFP; infer_instance
/-- A fraction is valid. -/
def validF (n d : Int) : Bool := decide (validFP n d)
/-- Numerator, denominator, and error number of the fraction with a sign, a numerator and a denominator that is not 0. -/
def fitF (neg : Bool) (n d : Nat) : Int × Int × Int :=
  if 1073741824 < n / Nat.gcd n d ∨ 1073741824 < d / Nat.gcd n d then (0, 0, 6)
  else (if neg then -((n / Nat.gcd n d : Nat) : Int) else ((n / Nat.gcd n d : Nat) : Int), ((d / Nat.gcd n d : Nat) : Int), 0)
/-- Numerator, denominator, and error number of the fraction with a value. -/
def makeF (n d : Int) : Int × Int × Int :=
  if d = 0 then (0, 0, 7) else fitF (!(decide (n < 0) == decide (d < 0))) n.natAbs d.natAbs
theorem makeF_zero (n : Int) : makeF n 0 = (0, 0, 7) := by simp [makeF]
theorem makeF_pos {n d : Int} (h : d ≠ 0) : makeF n d = fitF (!(decide (n < 0) == decide (d < 0))) n.natAbs d.natAbs := by simp [makeF, h]
theorem makeF_eq {n d n' d' : Int} {G : Nat} (hG : G = Nat.gcd n.natAbs d.natAbs) (hn : n = G * n') (hd : d = G * d') (h0 : d ≠ 0) :
    makeF n d = if 1073741824 < n'.natAbs ∨ 1073741824 < d'.natAbs then (0, 0, 6) else (if 0 < d then n' else -n', (d'.natAbs : Int), 0) := by
  have hG1 : 0 < G := by rw [hG]; exact Nat.gcd_pos_of_pos_right _ (by omega)
  have e1 : n.natAbs / G = n'.natAbs := by
    rw [hn, Int.natAbs_mul, Int.natAbs_natCast, Nat.mul_div_cancel_left _ hG1]
  have e2 : d.natAbs / G = d'.natAbs := by
    rw [hd, Int.natAbs_mul, Int.natAbs_natCast, Nat.mul_div_cancel_left _ hG1]
  have s1 : (n < 0) ↔ (n' < 0) := by
    rw [hn]; constructor
    · intro h; rcases (show n' < 0 ∨ 0 ≤ n' by omega) with h1 | h1
      · exact h1
      · have := Int.mul_nonneg (Int.natCast_nonneg G) h1; omega
    · intro h; exact Int.mul_neg_of_pos_of_neg (by omega) h
  have hd0 : d' ≠ 0 := by intro h; rw [h] at hd; simp at hd; exact h0 hd
  have s2 : (d < 0) ↔ ¬ (0 < d) := by omega
  rw [makeF_pos h0, fitF, ← hG, e1, e2]
  by_cases hb : 1073741824 < n'.natAbs ∨ 1073741824 < d'.natAbs
  · rw [if_pos hb, if_pos hb]
  · rw [if_neg hb, if_neg hb]
    have e3 : (!(decide (n < 0) == decide (d < 0))) = decide ((n' < 0) ↔ 0 < d) := by
      rw [Bool.eq_iff_iff]; simp only [Bool.not_eq_true', beq_eq_false_iff_ne, ne_eq, decide_eq_decide, decide_eq_true_eq, s1, s2]
      by_cases a : n' < 0 <;> by_cases b : 0 < d <;> simp only [a, b] <;> decide
    rw [e3]
    clear e1 e2 e3 s1 s2 hn hd
    by_cases a : n' < 0 <;> by_cases b : 0 < d <;> simp only [a, b, if_true, if_false, decide_true, decide_false, iff_true, iff_false, not_true, Bool.false_eq_true] <;> congr 1 <;> omega
theorem gcd_step (a b : Nat) : Nat.gcd b (a % b) = Nat.gcd a b := by
  rw [Nat.gcd_comm a b, Nat.gcd_rec b a, Nat.gcd_comm]
end Go.Proofs.YthiclaihlpkinaaGreat
namespace Go.Proofs.YthiclaihlpkinaaGreat
open Go.RowKit
set_option maxHeartbeats 400000 in
theorem gcd_any (a b : Nat) (w : World) (ha : a ≤ 4611686018427387904) (hb : b ≤ 4611686018427387904) :
    Calls Tryz.prog 91 #[.int .i64 a, .int .i64 b] w fun e w' => e = .returned (.int .i64 (Nat.gcd a b : Nat)) ∧ Below w.heap.size w w' := by
  go_enter Tryz.func91, Tryz.ntmps91
  go_wp2
  go_loopw [0, 1] (fun x y wr => ∃ p q : Nat, x = .int .i64 p ∧ y = .int .i64 q ∧ p ≤ 4611686018427387904 ∧ q ≤ 4611686018427387904 ∧ Hid (Nat.gcd p q = Nat.gcd a b) ∧ Below w.heap.size w wr) (fun _ y _ => (intOf y).toNat)
  case atStart => exact ⟨a, b, rfl, rfl, ha, hb, rfl, Below.refl _ _⟩
  case round =>
    obtain ⟨p, q, rfl, rfl, hp, hq, hg, hbl⟩ := hrel
    by_cases h0 : q = 0
    · have h0' : ((q : Int) != 0) = false := by simp [h0]
      have HG := Lib.hid h0; clear h0
      go_wp2
      go_ret
      exact ⟨ret_int (by rw [← hg.out, HG.out, Nat.gcd_zero_right]), hbl⟩
    · have h1 : 1 ≤ q := by omega
      have h0' : ((q : Int) != 0) = true := by simp; omega
      go_wp2
      go_region
      go_wp2
      have hm : p % q < q := Nat.mod_lt _ (by omega)
      go_roundw
      case rel => exact ⟨q, p % q, rfl, by simp, hq, by omega, by rw [gcd_step]; exact hg, hbl.drew⟩
      case measure => simp [intOf]; exact_mod_cast hm
theorem abs_any (n : Int) (w : World) (h1 : -4611686018427387904 ≤ n) (h2 : n ≤ 4611686018427387904) :
    Calls Tryz.prog 96 #[.int .i64 n] w fun e w' => e = .returned (.int .u64 (n.natAbs : Nat)) ∧ Below w.heap.size w w' := by
  by_cases h : n < 0
  all_goals
    go_enter Tryz.func96, Tryz.ntmps96
    go_wp2
    go_ret
    refine ⟨?_, Below.refl _ _⟩
    first | exact ret_int (by simp only [IntKind.wrap, IntKind.signed, IntKind.bits]; simp; omega) | exact ret_int (by omega)
/-- Two results, the first a struct of two numbers. -/
def RetFrac (r : Int × Int × Int) (w : World) (e : Ending) (w' : World) : Prop :=
  e = .returned (.tuple #[.agg #[.int .i64 r.1, .int .i64 r.2.1], .int .i64 r.2.2]) ∧ Below w.heap.size w w'
set_option maxHeartbeats 1000000 in
theorem fit_any (neg : Bool) (n d : Nat) (w : World) (h1 : 1 ≤ d) (h2 : d ≤ 9223372036854775808) (h3 : n ≤ 9223372036854775808) :
    Calls Tryz.prog 95 #[.bool neg, .int .u64 n, .int .u64 d] w (RetFrac (fitF neg n d) w) := by
  obtain ⟨G, hG⟩ : ∃ G, G = Nat.gcd n d := ⟨_, rfl⟩
  have hG1 : 1 ≤ G := by rw [hG]; exact Nat.gcd_pos_of_pos_right _ (by omega)
  obtain ⟨N, hN⟩ : ∃ N, N = n / G := ⟨_, rfl⟩
  obtain ⟨D, hD⟩ : ∃ D, D = d / G := ⟨_, rfl⟩
  have hNn : N ≤ n := by rw [hN]; exact Nat.div_le_self _ _
  have hDd : D ≤ d := by rw [hD]; exact Nat.div_le_self _ _
  have HF : Hid (fitF neg n d = if 1073741824 < N ∨ 1073741824 < D then (0, 0, 6) else (if neg then -(N : Int) else (N : Int), (D : Int), 0)) := by
    subst hN hD hG; rfl
  have HGG := Lib.hid hG; clear hG
  have HN := Lib.hid hN; clear hN
  have HD := Lib.hid hD; clear hD
  go_enter Tryz.func95, Tryz.ntmps95
  go_wp2
  go_loopw [8, 9] (fun x y wr => ∃ p q : Nat, x = .int .u64 p ∧ y = .int .u64 q ∧ p ≤ 9223372036854775808 ∧ q ≤ 9223372036854775808 ∧ Hid (Nat.gcd p q = G) ∧ ∃ k, Hid (wr = (w.alloc (.cells #[.int .i64 0, .int .i64 0] 47)).drewN k)) (fun _ y _ => (intOf y).toNat)
  case atStart => exact ⟨n, d, rfl, rfl, h3, h2, HGG.out.symm, 0, rfl⟩
  case round =>
    obtain ⟨p, q, rfl, rfl, hp, hq, hg, k, hwr⟩ := hrel
    obtain rfl := hwr
    by_cases h0 : q = 0
    · have h0' : ((q : Int) != 0) = false := by simp [h0]
      have hp' : p = G := by rw [← hg.out, h0, Nat.gcd_zero_right]
      clear h0 hg
      obtain rfl := hp'
      have hp0 : 1 ≤ (p : Int) := by omega
      have wN : IntKind.u64.wrap ((n : Int) / (p : Int)) = (N : Int) := by
        rw [HN.out, ← Int.natCast_ediv]; have := Nat.div_le_self n p; have := Int.natCast_nonneg (n / p); exact IntWalk.u64_in _ ⟨by omega, by omega⟩
      have wD : IntKind.u64.wrap ((d : Int) / (p : Int)) = (D : Int) := by
        rw [HD.out, ← Int.natCast_ediv]; have := Nat.div_le_self d p; have := Int.natCast_nonneg (d / p); exact IntWalk.u64_in _ ⟨by omega, by omega⟩
      by_cases hb1 : N ≤ 1073741824
      · by_cases hb2 : D ≤ 1073741824
        · cases neg
          all_goals
            go_wp2
            go_region
            go_wp2
            refine bodyPost_ret (v := .tuple #[.agg #[.int .i64 _, .int .i64 _], .int .i64 _]) (by simp [results, Tryz.results95, go_sem]; exact ⟨⟨rfl, rfl⟩, rfl⟩) rfl ⟨?_, (by repeat (first | exact Below.refl _ _ | assumption | refine Below.drew ?_ | refine bdrewN ?_ _ | refine Below.alloc ?_ (by first | omega | (simp; done) | (simp; omega) | exact Below.size (by assumption)) _ | refine Below.setCell ?_ (by first | omega | (simp; done) | (simp; omega)) _ | refine bstep ?_ (by assumption)))⟩
            rw [HF.out, if_neg (by omega)]
            simp
        · go_wp2
          go_region
          go_wp2
          refine bodyPost_ret (v := .tuple #[.agg #[.int .i64 _, .int .i64 _], .int .i64 _]) (by simp [results, Tryz.results95, go_sem]; exact ⟨⟨rfl, rfl⟩, rfl⟩) rfl ⟨?_, (by repeat (first | exact Below.refl _ _ | assumption | refine Below.drew ?_ | refine bdrewN ?_ _ | refine Below.alloc ?_ (by first | omega | (simp; done) | (simp; omega) | exact Below.size (by assumption)) _ | refine Below.setCell ?_ (by first | omega | (simp; done) | (simp; omega)) _ | refine bstep ?_ (by assumption)))⟩
          rw [HF.out, if_pos (by omega)]
      · go_wp2
        go_region
        go_wp2
        refine bodyPost_ret (v := .tuple #[.agg #[.int .i64 _, .int .i64 _], .int .i64 _]) (by simp [results, Tryz.results95, go_sem]; exact ⟨⟨rfl, rfl⟩, rfl⟩) rfl ⟨?_, (by repeat (first | exact Below.refl _ _ | assumption | refine Below.drew ?_ | refine bdrewN ?_ _ | refine Below.alloc ?_ (by first | omega | (simp; done) | (simp; omega) | exact Below.size (by assumption)) _ | refine Below.setCell ?_ (by first | omega | (simp; done) | (simp; omega)) _ | refine bstep ?_ (by assumption)))⟩
        rw [HF.out, if_pos (by omega)]
    · have h1 : 1 ≤ q := by omega
      have h0' : ((q : Int) != 0) = true := by simp; omega
      go_wp2
      go_region
      go_wp2
      have hm : p % q < q := Nat.mod_lt _ (by omega)
      go_roundw
      case rel => exact ⟨q, p % q, rfl, by simp, hq, by omega, by rw [gcd_step]; exact hg, k + 1, rfl⟩
      case measure => simp [intOf]; exact_mod_cast hm
theorem gcd_int (a b : Int) (w : World) (ha : 0 ≤ a) (ha' : a ≤ 4611686018427387904) (hb : 0 ≤ b) (hb' : b ≤ 4611686018427387904) :
    Calls Tryz.prog 91 #[.int .i64 a, .int .i64 b] w fun e w' => e = .returned (.int .i64 (Nat.gcd a.natAbs b.natAbs : Nat)) ∧ Below w.heap.size w w' := by
  obtain ⟨p, rfl⟩ := Int.eq_ofNat_of_zero_le ha
  obtain ⟨q, rfl⟩ := Int.eq_ofNat_of_zero_le hb
  exact gcd_any p q w (by omega) (by omega)
set_option maxHeartbeats 1000000 in
theorem fvalid_any (n d : Int) (w : World) :
    Calls Tryz.prog 60 #[.agg #[.int .i64 n, .int .i64 d]] w fun e w' => e = .returned (.bool (validF n d)) ∧ Below w.heap.size w w' := by
  by_cases h : (-1073741824 ≤ n ∧ n ≤ 1073741824) ∧ 1 ≤ d ∧ d ≤ 1073741824
  · obtain ⟨⟨h1, h2⟩, h3, h4⟩ := h
    obtain ⟨G, hG⟩ : ∃ G, G = Nat.gcd n.natAbs d.natAbs := ⟨_, rfl⟩
    have hv : validF n d = ((G : Int) == 1) := by
      rw [Bool.eq_iff_iff]; simp [validF, validFP, h1, h2, h3, h4, ← hG]; omega
    have HV := Lib.hid hv; clear hv
    have hg1 := fun w h => gcd_int n d w h (by omega) (by omega) (by omega)
    have hg2 := fun w h => gcd_int (-n) d w h (by omega) (by omega) (by omega)
    rw [Int.natAbs_neg] at hg2
    rw [← hG] at hg1 hg2
    have HG1 := Lib.hid hg1; clear hg1
    have HG2 := Lib.hid hg2; clear hg2
    have HGG := Lib.hid hG; clear hG
    by_cases hs : n < -n
    all_goals
      go_enter Tryz.func60, Tryz.ntmps60
      go_wp2_with fail
    · skip
      refine (HG2.out _ (by omega)).mono ?_
      rintro e w1 ⟨rfl, hb1⟩
      have hz1 := hb1.size
      try simp at hz1
      obtain ⟨hc1_w, hf1_w⟩ := bcellm (M := w.heap.size + 1) hb1 (by first | omega | (simp; done) | (simp; omega))
      have hl1_w0 : w.heap.size < w1.heap.size := by omega
      go_wp2_with fail
      go_ret
      exact ⟨ret_bool HV.out.symm, (by repeat (first | exact Below.refl _ _ | assumption | refine Below.drew ?_ | refine bdrewN ?_ _ | refine Below.alloc ?_ (by first | omega | (simp; done) | (simp; omega) | exact Below.size (by assumption)) _ | refine Below.setCell ?_ (by first | omega | (simp; done) | (simp; omega)) _ | refine bstep ?_ (by assumption)))⟩
    · skip
      refine (HG1.out _ (by omega)).mono ?_
      rintro e w1 ⟨rfl, hb1⟩
      have hz1 := hb1.size
      try simp at hz1
      obtain ⟨hc1_w, hf1_w⟩ := bcellm (M := w.heap.size + 1) hb1 (by first | omega | (simp; done) | (simp; omega))
      have hl1_w0 : w.heap.size < w1.heap.size := by omega
      go_wp2_with fail
      go_ret
      exact ⟨ret_bool HV.out.symm, (by repeat (first | exact Below.refl _ _ | assumption | refine Below.drew ?_ | refine bdrewN ?_ _ | refine Below.alloc ?_ (by first | omega | (simp; done) | (simp; omega) | exact Below.size (by assumption)) _ | refine Below.setCell ?_ (by first | omega | (simp; done) | (simp; omega)) _ | refine bstep ?_ (by assumption)))⟩
  · have hv : validF n d = false := by
      rw [Bool.eq_false_iff]; intro hh
      have hh : validFP n d := of_decide_eq_true hh
      exact h ⟨⟨hh.1, hh.2.1⟩, hh.2.2.1, hh.2.2.2.1⟩
    have HV := Lib.hid hv; clear hv
    have hc : ¬ -1073741824 ≤ n ∨ (-1073741824 ≤ n ∧ ¬ n ≤ 1073741824) ∨ (-1073741824 ≤ n ∧ n ≤ 1073741824 ∧ ¬ 1 ≤ d) ∨ (-1073741824 ≤ n ∧ n ≤ 1073741824 ∧ 1 ≤ d ∧ ¬ d ≤ 1073741824) := by omega
    clear h
    rcases hc with h1 | ⟨h1, h2⟩ | ⟨h1, h2, h3⟩ | ⟨h1, h2, h3, h4⟩
    all_goals
      go_enter Tryz.func60, Tryz.ntmps60
      go_wp2_with fail
      go_ret
      exact ⟨ret_bool HV.out.symm, (by repeat (first | exact Below.refl _ _ | assumption | refine Below.drew ?_ | refine bdrewN ?_ _ | refine Below.alloc ?_ (by first | omega | (simp; done) | (simp; omega) | exact Below.size (by assumption)) _ | refine Below.setCell ?_ (by first | omega | (simp; done) | (simp; omega)) _ | refine bstep ?_ (by assumption)))⟩
end Go.Proofs.YthiclaihlpkinaaGreat
namespace Go.Proofs.YthiclaihlpkinaaGreat
open Go.RowKit
variable [Glob]
def fracC (a : Int × Int) : List AV := [.int .i64 a.1, .int .i64 a.2]
theorem gcd_pure (a b : Int) (h1 : 0 ≤ a) (h2 : a ≤ 4611686018427387904) (h3 : 0 ≤ b) (h4 : b ≤ 4611686018427387904) : Pure Tryz.prog 91 [.int .i64 a, .int .i64 b] (.int .i64 (Nat.gcd a.natAbs b.natAbs : Nat)) :=
  pure_flat (by kernel_rfl) rfl rfl fun w => gcd_int a b w h1 h2 h3 h4
theorem abs_pure (n : Int) (h1 : -4611686018427387904 ≤ n) (h2 : n ≤ 4611686018427387904) : Pure Tryz.prog 96 [.int .i64 n] (.int .u64 (n.natAbs : Nat)) :=
  pure_flat (by kernel_rfl) rfl rfl fun w => abs_any n w h1 h2
theorem fit_pure (neg : Bool) (n d : Nat) (h1 : 1 ≤ d) (h2 : d ≤ 9223372036854775808) (h3 : n ≤ 9223372036854775808) :
    Pure Tryz.prog 95 [.bool neg, .int .u64 n, .int .u64 d] (.tup [.agg [.int .i64 (fitF neg n d).1, .int .i64 (fitF neg n d).2.1], .int .i64 (fitF neg n d).2.2]) :=
  pure_flat (by kernel_rfl) rfl rfl fun w => fit_any neg n d w h1 h2 h3
theorem fvalid_pure (a : Int × Int) : Pure Tryz.prog 60 [.agg (fracC a)] (.bool (validF a.1 a.2)) :=
  pure_flat (by kernel_rfl) rfl rfl fun w => fvalid_any a.1 a.2 w
theorem fvalid1_pure (a : Int × Int) : Pure Tryz.prog 114 [.agg (fracC a)] (.bool (!validF a.1 a.2)) := by
  refine pure_of mixed Tryz.func114 rfl (by kernel_rfl) (of_decide_eq_true rfl) (by kernel_rfl) (vc_run ?_)
  simp -implicitDefEqProofs [fracC]
  refine call_intro (fvalid_pure a) (by simp -implicitDefEqProofs [fracC]) (.inl rfl) ?_
  simp -implicitDefEqProofs
end Go.Proofs.YthiclaihlpkinaaGreat
namespace Go.Proofs.YthiclaihlpkinaaGreat
open Go.RowKit
variable [Glob]
theorem fracs_idx {p : (Int × Int) → Bool} {l : List (Int × Int)} {g : Nat} {caps : List AV} (hp : ∀ x ∈ l, Pure Tryz.prog g (.agg (fracC x) :: caps) (.bool (p x))) (hc : ∀ H k, caps.mapM (reify H (k + 5)) = some caps) (hf : refsL 0 caps = true) (hl : l.length ≤ 9223372036854775807) :
    Pure Tryz.prog 125 [.rs (rowsOf fracC l), .fn g caps] (.int .i64 (idxOf p l)) := by
  refine pure_of mixed Tryz.func125 rfl (by kernel_rfl) (of_decide_eq_true rfl) (by kernel_rfl) (vc_run ?_)
  simp -implicitDefEqProofs
  refine loop_intro (σ := Nat) (fun i => ⟨[(0, .rs (rowsOf fracC l)), (1, .fn g caps), (7, .int .i64 l.length), (8, .int .i64 i)], []⟩) (fun i => i ≤ l.length ∧ allF p (l.take i)) (fun i => l.length - i) 0 ⟨Nat.zero_le _, allF_nil⟩ ?_ ?_
  · refine weak_of 0 0 rfl rfl ?_ ?_ <;> simp [hf]
  · rintro i ⟨hi, hall⟩
    by_cases h : i < l.length
    · simp -implicitDefEqProofs [h, fracC]
      have hc8 : ∀ H, caps.mapM (reify H 8) = some caps := fun H => hc H 3
      refine call_intro (hp l[i] (by simp)) (by simp -implicitDefEqProofs [hc8, fracC]) (.inl rfl) ?_
      by_cases hpx : p l[i] = true
      · simp -implicitDefEqProofs [hpx]
        exact (idxOf_some p l i h hall hpx).symm
      · have hpx : p l[i] = false := by simpa using hpx
        simp -implicitDefEqProofs [hpx]
        refine ⟨i + 1, ⟨by omega, allF_succ hall h hpx⟩, by omega, weak_of 0 0 rfl rfl ?_ ?_⟩
        · simp [hf]
          exact (wrap_in (by omega) (by omega)).symm
        · simp
    · simp -implicitDefEqProofs [h]
      rw [idxOf_none p l (allF_all hall h)]
theorem fracs_any {p : (Int × Int) → Bool} {l : List (Int × Int)} {g : Nat} {caps : List AV} (hp : ∀ x ∈ l, Pure Tryz.prog g (.agg (fracC x) :: caps) (.bool (p x))) (hc : ∀ H k, caps.mapM (reify H (k + 5)) = some caps) (hf : refsL 0 caps = true) (hl : l.length ≤ 9223372036854775807) :
    Pure Tryz.prog 101 [.rs (rowsOf fracC l), .fn g caps] (.bool (l.any p)) := by
  refine pure_of mixed Tryz.func101 rfl (by kernel_rfl) (of_decide_eq_true rfl) (by kernel_rfl) (vc_run ?_)
  simp -implicitDefEqProofs
  have hc7 : ∀ H, caps.mapM (reify H 7) = some caps := fun H => hc H 2
  refine call_intro (fracs_idx hp hc hf hl) (by simp -implicitDefEqProofs [hc7]) (.inl rfl) ?_
  simp -implicitDefEqProofs
  rw [← ge_idxOf]
theorem intsF_idx {p : Int → Bool} {l : List Int} {g : Nat} {caps : List AV} (hp : ∀ x ∈ l, Pure Tryz.prog g (.int .i64 x :: caps) (.bool (p x))) (hc : ∀ H k, caps.mapM (reify H (k + 5)) = some caps) (hf : refsL 0 caps = true) (hl : l.length ≤ 9223372036854775807) :
    Pure Tryz.prog 35 [.rs (rowsOf intC l), .fn g caps] (.int .i64 (idxOf p l)) := by
  refine pure_of mixed Tryz.func35 rfl (by kernel_rfl) (of_decide_eq_true rfl) (by kernel_rfl) (vc_run ?_)
  simp -implicitDefEqProofs
  refine loop_intro (σ := Nat) (fun i => ⟨[(0, .rs (rowsOf intC l)), (1, .fn g caps), (7, .int .i64 l.length), (8, .int .i64 i)], []⟩) (fun i => i ≤ l.length ∧ allF p (l.take i)) (fun i => l.length - i) 0 ⟨Nat.zero_le _, allF_nil⟩ ?_ ?_
  · refine weak_of 0 0 rfl rfl ?_ ?_ <;> simp [hf]
  · rintro i ⟨hi, hall⟩
    by_cases h : i < l.length
    · simp -implicitDefEqProofs [h, intC]
      have hc8 : ∀ H, caps.mapM (reify H 8) = some caps := fun H => hc H 3
      refine call_intro (hp l[i] (by simp)) (by simp -implicitDefEqProofs [hc8, intC]) (.inl rfl) ?_
      by_cases hpx : p l[i] = true
      · simp -implicitDefEqProofs [hpx]
        exact (idxOf_some p l i h hall hpx).symm
      · have hpx : p l[i] = false := by simpa using hpx
        simp -implicitDefEqProofs [hpx]
        refine ⟨i + 1, ⟨by omega, allF_succ hall h hpx⟩, by omega, weak_of 0 0 rfl rfl ?_ ?_⟩
        · simp [hf]
          exact (wrap_in (by omega) (by omega)).symm
        · simp
    · simp -implicitDefEqProofs [h]
      rw [idxOf_none p l (allF_all hall h)]
theorem intsF_any {p : Int → Bool} {l : List Int} {g : Nat} {caps : List AV} (hp : ∀ x ∈ l, Pure Tryz.prog g (.int .i64 x :: caps) (.bool (p x))) (hc : ∀ H k, caps.mapM (reify H (k + 5)) = some caps) (hf : refsL 0 caps = true) (hl : l.length ≤ 9223372036854775807) :
    Pure Tryz.prog 68 [.rs (rowsOf intC l), .fn g caps] (.bool (l.any p)) := by
  refine pure_of mixed Tryz.func68 rfl (by kernel_rfl) (of_decide_eq_true rfl) (by kernel_rfl) (vc_run ?_)
  simp -implicitDefEqProofs
  have hc7 : ∀ H, caps.mapM (reify H 7) = some caps := fun H => hc H 2
  refine call_intro (intsF_idx hp hc hf hl) (by simp -implicitDefEqProofs [hc7]) (.inl rfl) ?_
  simp -implicitDefEqProofs
  rw [← ge_idxOf]
theorem fvalids_pure (l : List (Int × Int)) (hl : l.length ≤ 4611686018427387904) : Pure Tryz.prog 94 [.rs (rowsOf fracC l)] (.bool (l.all fun a => validF a.1 a.2)) := by
  refine pure_of mixed Tryz.func94 rfl (by kernel_rfl) (of_decide_eq_true rfl) (by kernel_rfl) (vc_run ?_)
  simp -implicitDefEqProofs
  refine call_intro (fracs_any (l := l) (caps := []) (fun x _ => fvalid1_pure x) (by simp) (by simp) (by omega)) (by simp -implicitDefEqProofs [fracC]) (.inl rfl) ?_
  simp -implicitDefEqProofs [List.not_all_eq_any_not]
end Go.Proofs.YthiclaihlpkinaaGreat
namespace Go.Proofs.YthiclaihlpkinaaGreat
open Go.RowKit
variable [Glob]
theorem validF_bd {n d : Int} (h : validF n d = true) : -1073741824 ≤ n ∧ n ≤ 1073741824 ∧ 1 ≤ d ∧ d ≤ 1073741824 := by
  have h : validFP n d := of_decide_eq_true h
  exact ⟨h.1, h.2.1, h.2.2.1, h.2.2.2.1⟩
/-- Compare: the sign, and the error. -/
def cmpF (a b : Int × Int) : Int × Int :=
  if validF a.1 a.2 && validF b.1 b.2 then (if a.1 * b.2 < b.1 * a.2 then (-1, 0) else if b.1 * a.2 < a.1 * b.2 then (1, 0) else (0, 0)) else (0, 1)
theorem prod_in {x y : Int} (hx1 : -1073741824 ≤ x) (hx2 : x ≤ 1073741824) (hy1 : 1 ≤ y) (hy2 : y ≤ 1073741824) : -1152921504606846976 ≤ x * y ∧ x * y ≤ 1152921504606846976 := by
  have h1 : x * y ≤ 1073741824 * y := Int.mul_le_mul_of_nonneg_right hx2 (by omega)
  have h2 : -1073741824 * y ≤ x * y := Int.mul_le_mul_of_nonneg_right hx1 (by omega)
  omega
theorem cmp_pure (a b : Int × Int) : Pure Tryz.prog 104 [.agg (fracC a), .agg (fracC b)] (.tup [.int .i64 (cmpF a b).1, .int .i64 (cmpF a b).2]) := by
  obtain ⟨p, q⟩ := a
  obtain ⟨p', q'⟩ := b
  refine pure_of mixed Tryz.func104 rfl (by kernel_rfl) (of_decide_eq_true rfl) (by kernel_rfl) (vc_run ?_)
  have hv := fvalids_pure [(p, q), (p', q')] (by simp)
  simp only [rowsOf, List.map_cons, List.map_nil, fracC] at hv
  by_cases h1 : validF p q = true
  · by_cases h2 : validF p' q' = true
    · have b1 := validF_bd h1
      have b2 := validF_bd h2
      have m1 := prod_in b1.1 b1.2.1 b2.2.2.1 b2.2.2.2
      have m2 := prod_in b2.1 b2.2.1 b1.2.2.1 b1.2.2.2
      have w1 := wrap_in (n := p * q') (by omega) (by omega)
      have w2 := wrap_in (n := p' * q) (by omega) (by omega)
      by_cases c1 : p * q' < p' * q
      · ((try simp -implicitDefEqProofs [-loopQ_n, fracC, h1, h2, w1, w2, c1, cmpF]) <;> (repeat' (first | ((first | refine condD_dec ?_ ?_ | refine guardD_dec ?_ ?_) <;> (intro hc; (try simp -implicitDefEqProofs [-loopQ_n, hc, fracC, h1, h2, w1, w2, c1, cmpF]))) | ((first | refine condD_intro ?_ ?_ | refine guardD_intro ?_ ?_) <;> (intro hd; have hc := hd; (try simp at hc) <;> (try simp -implicitDefEqProofs [-loopQ_n, hd, hc, fracC, h1, h2, w1, w2, c1, cmpF]))) | ((first | (refine ldD_ep ?_ ?_; (focus kernel_rfl)) | (refine callS_mk ?_; (try simp -implicitDefEqProofs [-loopQ_n, fracC, h1, h2, w1, w2, c1, cmpF]); (first | refine callS_intro (hv) (.inl rfl) ?_))); (try simp -implicitDefEqProofs [-loopQ_n, fracC, h1, h2, w1, w2, c1, cmpF])))))
      · by_cases c2 : p' * q < p * q'
        · ((try simp -implicitDefEqProofs [-loopQ_n, fracC, h1, h2, w1, w2, c1, c2, cmpF]) <;> (repeat' (first | ((first | refine condD_dec ?_ ?_ | refine guardD_dec ?_ ?_) <;> (intro hc; (try simp -implicitDefEqProofs [-loopQ_n, hc, fracC, h1, h2, w1, w2, c1, c2, cmpF]))) | ((first | refine condD_intro ?_ ?_ | refine guardD_intro ?_ ?_) <;> (intro hd; have hc := hd; (try simp at hc) <;> (try simp -implicitDefEqProofs [-loopQ_n, hd, hc, fracC, h1, h2, w1, w2, c1, c2, cmpF]))) | ((first | (refine ldD_ep ?_ ?_; (focus kernel_rfl)) | (refine callS_mk ?_; (try simp -implicitDefEqProofs [-loopQ_n, fracC, h1, h2, w1, w2, c1, c2, cmpF]); (first | refine callS_intro (hv) (.inl rfl) ?_))); (try simp -implicitDefEqProofs [-loopQ_n, fracC, h1, h2, w1, w2, c1, c2, cmpF])))))
        · ((try simp -implicitDefEqProofs [-loopQ_n, fracC, h1, h2, w1, w2, c1, c2, cmpF]) <;> (repeat' (first | ((first | refine condD_dec ?_ ?_ | refine guardD_dec ?_ ?_) <;> (intro hc; (try simp -implicitDefEqProofs [-loopQ_n, hc, fracC, h1, h2, w1, w2, c1, c2, cmpF]))) | ((first | refine condD_intro ?_ ?_ | refine guardD_intro ?_ ?_) <;> (intro hd; have hc := hd; (try simp at hc) <;> (try simp -implicitDefEqProofs [-loopQ_n, hd, hc, fracC, h1, h2, w1, w2, c1, c2, cmpF]))) | ((first | (refine ldD_ep ?_ ?_; (focus kernel_rfl)) | (refine callS_mk ?_; (try simp -implicitDefEqProofs [-loopQ_n, fracC, h1, h2, w1, w2, c1, c2, cmpF]); (first | refine callS_intro (hv) (.inl rfl) ?_))); (try simp -implicitDefEqProofs [-loopQ_n, fracC, h1, h2, w1, w2, c1, c2, cmpF])))))
    · have h2 : validF p' q' = false := by simpa using h2
      ((try simp -implicitDefEqProofs [-loopQ_n, fracC, h1, h2, cmpF]) <;> (repeat' (first | ((first | refine condD_dec ?_ ?_ | refine guardD_dec ?_ ?_) <;> (intro hc; (try simp -implicitDefEqProofs [-loopQ_n, hc, fracC, h1, h2, cmpF]))) | ((first | refine condD_intro ?_ ?_ | refine guardD_intro ?_ ?_) <;> (intro hd; have hc := hd; (try simp at hc) <;> (try simp -implicitDefEqProofs [-loopQ_n, hd, hc, fracC, h1, h2, cmpF]))) | ((first | (refine ldD_ep ?_ ?_; (focus kernel_rfl)) | (refine callS_mk ?_; (try simp -implicitDefEqProofs [-loopQ_n, fracC, h1, h2, cmpF]); (first | refine callS_intro (hv) (.inl rfl) ?_))); (try simp -implicitDefEqProofs [-loopQ_n, fracC, h1, h2, cmpF])))))
  · have h1 : validF p q = false := by simpa using h1
    ((try simp -implicitDefEqProofs [-loopQ_n, fracC, h1, cmpF]) <;> (repeat' (first | ((first | refine condD_dec ?_ ?_ | refine guardD_dec ?_ ?_) <;> (intro hc; (try simp -implicitDefEqProofs [-loopQ_n, hc, fracC, h1, cmpF]))) | ((first | refine condD_intro ?_ ?_ | refine guardD_intro ?_ ?_) <;> (intro hd; have hc := hd; (try simp at hc) <;> (try simp -implicitDefEqProofs [-loopQ_n, hd, hc, fracC, h1, cmpF]))) | ((first | (refine ldD_ep ?_ ?_; (focus kernel_rfl)) | (refine callS_mk ?_; (try simp -implicitDefEqProofs [-loopQ_n, fracC, h1, cmpF]); (first | refine callS_intro (hv) (.inl rfl) ?_))); (try simp -implicitDefEqProofs [-loopQ_n, fracC, h1, cmpF])))))
end Go.Proofs.YthiclaihlpkinaaGreat
namespace Go.Proofs.YthiclaihlpkinaaGreat
open Go.RowKit
variable [Glob]
theorem wrapU_in {n : Int} (h1 : 0 ≤ n) (h2 : n ≤ 18446744073709551615) : wrapI .u64 n = n := by
  rw [wrapI_eq]
  exact IntWalk.u64_in _ ⟨h1, h2⟩
/-- The sum over the least common denominator: numerator and denominator. -/
def sumN (a b : Int × Int) : Int := a.1 * (b.2 / (Nat.gcd a.2.natAbs b.2.natAbs : Int)) + b.1 * (a.2 / (Nat.gcd a.2.natAbs b.2.natAbs : Int))
def sumD (a b : Int × Int) : Int := a.2 * (b.2 / (Nat.gcd a.2.natAbs b.2.natAbs : Int))
def addF (a b : Int × Int) : Int × Int × Int :=
  if validF a.1 a.2 && validF b.1 b.2 then fitF (decide (sumN a b < 0)) (sumN a b).natAbs (sumD a b).natAbs else (0, 0, 1)
theorem fit_pureI (neg : Bool) (n d : Int) (N D : Nat) (hn : n = N) (hd : d = D) (h1 : 1 ≤ d) (h2 : d ≤ 9223372036854775808) (h3 : n ≤ 9223372036854775808) :
    Pure Tryz.prog 95 [.bool neg, .int .u64 n, .int .u64 d] (.tup [.agg [.int .i64 (fitF neg N D).1, .int .i64 (fitF neg N D).2.1], .int .i64 (fitF neg N D).2.2]) := by
  subst hn hd
  exact fit_pure neg N D (by omega) (by omega) (by omega)
set_option maxHeartbeats 1000000 in
theorem add_pure (a b : Int × Int) : Pure Tryz.prog 65 [.agg (fracC a), .agg (fracC b)] (.tup [.agg [.int .i64 (addF a b).1, .int .i64 (addF a b).2.1], .int .i64 (addF a b).2.2]) := by
  obtain ⟨p, q⟩ := a
  obtain ⟨p', q'⟩ := b
  refine pure_of mixed Tryz.func65 rfl (by kernel_rfl) (of_decide_eq_true rfl) (by kernel_rfl) (vc_run ?_)
  simp -implicitDefEqProofs [fracC]
  refine call_intro (fvalids_pure [(p, q), (p', q')] (by simp)) (by simp -implicitDefEqProofs [fracC, rowsOf]) (.inl rfl) ?_
  by_cases h1 : validF p q = true
  · by_cases h2 : validF p' q' = true
    · have b1 := validF_bd h1
      have b2 := validF_bd h2
      obtain ⟨G, hG⟩ : ∃ G, G = Nat.gcd q.natAbs q'.natAbs := ⟨_, rfl⟩
      have hG1 : 1 ≤ G := by rw [hG]; exact Nat.gcd_pos_of_pos_left _ (by omega)
      have hGq : (G : Int) ∣ q := by rw [hG]; exact Int.ofNat_dvd_left.2 (Nat.gcd_dvd_left _ _)
      have hGq' : (G : Int) ∣ q' := by rw [hG]; exact Int.ofNat_dvd_left.2 (Nat.gcd_dvd_right _ _)
      obtain ⟨R, hR⟩ := hGq
      obtain ⟨R', hR'⟩ := hGq'
      have hG0 : (G : Int) ≠ 0 := by omega
      have hG0N : G ≠ 0 := by omega
      have hd1 : q / (G : Int) = R := by rw [hR]; exact Int.mul_ediv_cancel_left _ hG0
      have hd2 : q' / (G : Int) = R' := by rw [hR']; exact Int.mul_ediv_cancel_left _ hG0
      have hR1 : 1 ≤ R ∧ R ≤ q := by
        have hp : 0 < R := by
          rcases Int.lt_or_le 0 R with h | h
          · exact h
          · exfalso; have := Int.mul_nonpos_of_nonneg_of_nonpos (show (0 : Int) ≤ G by omega) h; omega
        exact ⟨hp, by rw [hR]; have := Int.mul_le_mul_of_nonneg_right (show (1 : Int) ≤ G by omega) (show 0 ≤ R by omega); omega⟩
      have hR1' : 1 ≤ R' ∧ R' ≤ q' := by
        have hp : 0 < R' := by
          rcases Int.lt_or_le 0 R' with h | h
          · exact h
          · exfalso; have := Int.mul_nonpos_of_nonneg_of_nonpos (show (0 : Int) ≤ G by omega) h; omega
        exact ⟨hp, by rw [hR']; have := Int.mul_le_mul_of_nonneg_right (show (1 : Int) ≤ G by omega) (show 0 ≤ R' by omega); omega⟩
      have t1 : q.tdiv (G : Int) = R := by rw [Int.tdiv_eq_ediv_of_nonneg (by omega)]; exact hd1
      have t2 : q'.tdiv (G : Int) = R' := by rw [Int.tdiv_eq_ediv_of_nonneg (by omega)]; exact hd2
      have m1 := prod_in b1.1 b1.2.1 hR1'.1 (show R' ≤ 1073741824 by omega)
      have m2 := prod_in b2.1 b2.2.1 hR1.1 (show R ≤ 1073741824 by omega)
      have m3 := prod_in (show -1073741824 ≤ q by omega) b1.2.2.2 hR1'.1 (show R' ≤ 1073741824 by omega)
      have m4 : 1 ≤ q * R' := by have := Int.mul_le_mul b1.2.2.1 hR1'.1 (by omega) (by omega); omega
      have hS : sumN (p, q) (p', q') = p * R' + p' * R := by simp only [sumN, ← hG, hd1, hd2]
      have hD : sumD (p, q) (p', q') = q * R' := by simp only [sumD, ← hG, hd2]
      have hA : addF (p, q) (p', q') = fitF (decide (p * R' + p' * R < 0)) (p * R' + p' * R).natAbs (q * R').natAbs := by simp only [addF, hS, hD, h1, h2]; rfl
      rw [hA]
      have hgcd : Pure Tryz.prog 91 [.int .i64 q, .int .i64 q'] (.int .i64 (G : Int)) := by rw [hG]; exact gcd_pure q q' (by omega) (by omega) (by omega) (by omega)
      have w1 : wrapI .i64 R = R := wrap_in (by omega) (by omega)
      have w2 : wrapI .i64 R' = R' := wrap_in (by omega) (by omega)
      have w3 : wrapI .i64 (p * R') = p * R' := wrap_in (by omega) (by omega)
      have w4 : wrapI .i64 (p' * R) = p' * R := wrap_in (by omega) (by omega)
      have w5 : wrapI .u64 q = q := wrapU_in (by omega) (by omega)
      have w6 : wrapI .u64 R' = R' := wrapU_in (by omega) (by omega)
      have w7 : wrapI .u64 (q * R') = q * R' := wrapU_in (by omega) (by omega)
      clear hR hR' hG hS hD hA hd1 hd2
      generalize hx : p * R' = x at *
      generalize hy : p' * R = y at *
      generalize hz : q * R' = z at *
      simp -implicitDefEqProofs [h1, h2]
      refine call_intro hgcd (by simp -implicitDefEqProofs) (.inl rfl) ?_
      have w8 : wrapI .i64 (x + y) = x + y := wrap_in (by omega) (by omega)
      have w9 : wrapI .u64 ((x.natAbs : Int) + (y.natAbs : Int)) = (x.natAbs : Int) + (y.natAbs : Int) := wrapU_in (by omega) (by omega)
      by_cases hs : decide (x < 0) = decide (y < 0)
      · simp -implicitDefEqProofs [hG0N, t1, t2, w1, w2, w3, w4, w5, w6, w7, hx, hy, hz, hs]
        refine call_intro (abs_pure x (by omega) (by omega)) (by simp -implicitDefEqProofs) (.inl rfl) ?_
        simp -implicitDefEqProofs
        refine call_intro (abs_pure y (by omega) (by omega)) (by simp -implicitDefEqProofs) (.inl rfl) ?_
        simp -implicitDefEqProofs [w9]
        have hn : (x.natAbs : Int) + (y.natAbs : Int) = ((x + y).natAbs : Nat) := by
          have : (x < 0) = (y < 0) := by simpa using hs
          by_cases h : x < 0
          · have : y < 0 := by rw [← this]; exact h
            omega
          · have : ¬ y < 0 := by rw [← this]; exact h
            omega
        have hneg : decide (y < 0) = decide (x + y < 0) := by
          have : (x < 0) = (y < 0) := by simpa using hs
          by_cases h : x < 0
          · have h' : y < 0 := by rw [← this]; exact h
            simp only [h', decide_true]; simp; omega
          · have h' : ¬ y < 0 := by rw [← this]; exact h
            simp only [h', decide_false]; simp; omega
        refine call_intro (fit_pureI (decide (y < 0)) _ z _ z.natAbs hn (by omega) (by omega) (by omega) (by omega)) (by simp -implicitDefEqProofs) (.inl rfl) ?_
        simp -implicitDefEqProofs [hneg]
      · have hs' : (decide (x < 0) == decide (y < 0)) = false := by simpa using hs
        simp -implicitDefEqProofs [hG0N, t1, t2, w1, w2, w3, w4, w5, w6, w7, w8, hx, hy, hz, hs']
        refine call_intro (abs_pure (x + y) (by omega) (by omega)) (by simp -implicitDefEqProofs) (.inl rfl) ?_
        simp -implicitDefEqProofs
        refine call_intro (fit_pureI (decide (x + y < 0)) ((x + y).natAbs : Int) z (x + y).natAbs z.natAbs rfl (by omega) (by omega) (by omega) (by omega)) (by simp -implicitDefEqProofs) (.inl rfl) ?_
        simp -implicitDefEqProofs
    · have h2 : validF p' q' = false := by simpa using h2
      simp -implicitDefEqProofs [h1, h2, addF]
  · have h1 : validF p q = false := by simpa using h1
    simp -implicitDefEqProofs [h1, addF]
end Go.Proofs.YthiclaihlpkinaaGreat
namespace Go.Proofs.YthiclaihlpkinaaGreat
open Go.RowKit
variable [Glob]
def subF2 (a b : Int × Int) : Int × Int × Int := if validF a.1 a.2 && validF b.1 b.2 then addF a (-b.1, b.2) else (0, 0, 1)
def sgnF (a b : Int × Int) : Bool := !(decide (a.1 < 0) == decide (b.1 < 0))
def mulF2 (a b : Int × Int) : Int × Int × Int := if validF a.1 a.2 && validF b.1 b.2 then fitF (sgnF a b) (a.1.natAbs * b.1.natAbs) (a.2 * b.2).natAbs else (0, 0, 1)
def divF2 (a b : Int × Int) : Int × Int × Int := if validF a.1 a.2 && validF b.1 b.2 then (if b.1 = 0 then (0, 0, 7) else fitF (sgnF a b) (a.1.natAbs * b.2.natAbs) (a.2 * b.1.natAbs).natAbs) else (0, 0, 1)
theorem sub2_pure (a b : Int × Int) : Pure Tryz.prog 93 [.agg (fracC a), .agg (fracC b)] (.tup [.agg [.int .i64 (subF2 a b).1, .int .i64 (subF2 a b).2.1], .int .i64 (subF2 a b).2.2]) := by
  obtain ⟨p, q⟩ := a
  obtain ⟨p', q'⟩ := b
  have hv := fvalids_pure [(p, q), (p', q')] (by simp)
  simp only [rowsOf, List.map_cons, List.map_nil, fracC] at hv
  have ha := add_pure (p, q) (-p', q')
  simp only [fracC] at ha
  refine pure_of mixed Tryz.func93 rfl (by kernel_rfl) (of_decide_eq_true rfl) (by kernel_rfl) (vc_run ?_)
  by_cases h1 : validF p q = true
  · by_cases h2 : validF p' q' = true
    · have b2 := validF_bd h2
      have hw : wrapI .i64 (-p') = -p' := wrap_in (by omega) (by omega)
      ((try simp -implicitDefEqProofs [-loopQ_n, fracC, h1, h2, hw, subF2]) <;> (repeat' (first | ((first | refine condD_dec ?_ ?_ | refine guardD_dec ?_ ?_) <;> (intro hc; (try simp -implicitDefEqProofs [-loopQ_n, hc, fracC, h1, h2, hw, subF2]))) | ((first | refine condD_intro ?_ ?_ | refine guardD_intro ?_ ?_) <;> (intro hd; have hc := hd; (try simp at hc) <;> (try simp -implicitDefEqProofs [-loopQ_n, hd, hc, fracC, h1, h2, hw, subF2]))) | ((first | (refine ldD_ep ?_ ?_; (focus kernel_rfl)) | (refine callS_mk ?_; (try simp -implicitDefEqProofs [-loopQ_n, fracC, h1, h2, hw, subF2]); (first | refine callS_intro (hv) (.inl rfl) ?_ | refine callS_intro (ha) (.inl rfl) ?_))); (try simp -implicitDefEqProofs [-loopQ_n, fracC, h1, h2, hw, subF2])))))
    · have h2 : validF p' q' = false := by simpa using h2
      ((try simp -implicitDefEqProofs [-loopQ_n, fracC, h1, h2, subF2]) <;> (repeat' (first | ((first | refine condD_dec ?_ ?_ | refine guardD_dec ?_ ?_) <;> (intro hc; (try simp -implicitDefEqProofs [-loopQ_n, hc, fracC, h1, h2, subF2]))) | ((first | refine condD_intro ?_ ?_ | refine guardD_intro ?_ ?_) <;> (intro hd; have hc := hd; (try simp at hc) <;> (try simp -implicitDefEqProofs [-loopQ_n, hd, hc, fracC, h1, h2, subF2]))) | ((first | (refine ldD_ep ?_ ?_; (focus kernel_rfl)) | (refine callS_mk ?_; (try simp -implicitDefEqProofs [-loopQ_n, fracC, h1, h2, subF2]); (first | refine callS_intro (hv) (.inl rfl) ?_))); (try simp -implicitDefEqProofs [-loopQ_n, fracC, h1, h2, subF2])))))
  · have h1 : validF p q = false := by simpa using h1
    ((try simp -implicitDefEqProofs [-loopQ_n, fracC, h1, subF2]) <;> (repeat' (first | ((first | refine condD_dec ?_ ?_ | refine guardD_dec ?_ ?_) <;> (intro hc; (try simp -implicitDefEqProofs [-loopQ_n, hc, fracC, h1, subF2]))) | ((first | refine condD_intro ?_ ?_ | refine guardD_intro ?_ ?_) <;> (intro hd; have hc := hd; (try simp at hc) <;> (try simp -implicitDefEqProofs [-loopQ_n, hd, hc, fracC, h1, subF2]))) | ((first | (refine ldD_ep ?_ ?_; (focus kernel_rfl)) | (refine callS_mk ?_; (try simp -implicitDefEqProofs [-loopQ_n, fracC, h1, subF2]); (first | refine callS_intro (hv) (.inl rfl) ?_))); (try simp -implicitDefEqProofs [-loopQ_n, fracC, h1, subF2])))))
theorem abs_prod {p p' : Int} (h1 : -1073741824 ≤ p ∧ p ≤ 1073741824) (h2 : -1073741824 ≤ p' ∧ p' ≤ 1073741824) : (p.natAbs : Int) * (p'.natAbs : Int) ≤ 1152921504606846976 := by
  have := Int.mul_le_mul (show (p.natAbs : Int) ≤ 1073741824 by omega) (show (p'.natAbs : Int) ≤ 1073741824 by omega) (by omega) (by omega)
  omega
set_option maxHeartbeats 2000000 in
theorem mul2_pure (a b : Int × Int) : Pure Tryz.prog 66 [.agg (fracC a), .agg (fracC b)] (.tup [.agg [.int .i64 (mulF2 a b).1, .int .i64 (mulF2 a b).2.1], .int .i64 (mulF2 a b).2.2]) := by
  obtain ⟨p, q⟩ := a
  obtain ⟨p', q'⟩ := b
  have hv := fvalids_pure [(p, q), (p', q')] (by simp)
  simp only [rowsOf, List.map_cons, List.map_nil, fracC] at hv
  refine pure_of mixed Tryz.func66 rfl (by kernel_rfl) (of_decide_eq_true rfl) (by kernel_rfl) (vc_run ?_)
  by_cases h1 : validF p q = true
  rotate_left
  · have h1 : validF p q = false := by simpa using h1
    ((try simp -implicitDefEqProofs [-loopQ_n, fracC, h1, mulF2]) <;> (repeat' (first | ((first | refine condD_dec ?_ ?_ | refine guardD_dec ?_ ?_) <;> (intro hc; (try simp -implicitDefEqProofs [-loopQ_n, hc, fracC, h1, mulF2]))) | ((first | refine condD_intro ?_ ?_ | refine guardD_intro ?_ ?_) <;> (intro hd; have hc := hd; (try simp at hc) <;> (try simp -implicitDefEqProofs [-loopQ_n, hd, hc, fracC, h1, mulF2]))) | ((first | (refine ldD_ep ?_ ?_; (focus kernel_rfl)) | (refine callS_mk ?_; (try simp -implicitDefEqProofs [-loopQ_n, fracC, h1, mulF2]); (first | refine callS_intro (hv) (.inl rfl) ?_))); (try simp -implicitDefEqProofs [-loopQ_n, fracC, h1, mulF2])))))
  by_cases h2 : validF p' q' = true
  rotate_left
  · have h2 : validF p' q' = false := by simpa using h2
    ((try simp -implicitDefEqProofs [-loopQ_n, fracC, h1, h2, mulF2]) <;> (repeat' (first | ((first | refine condD_dec ?_ ?_ | refine guardD_dec ?_ ?_) <;> (intro hc; (try simp -implicitDefEqProofs [-loopQ_n, hc, fracC, h1, h2, mulF2]))) | ((first | refine condD_intro ?_ ?_ | refine guardD_intro ?_ ?_) <;> (intro hd; have hc := hd; (try simp at hc) <;> (try simp -implicitDefEqProofs [-loopQ_n, hd, hc, fracC, h1, h2, mulF2]))) | ((first | (refine ldD_ep ?_ ?_; (focus kernel_rfl)) | (refine callS_mk ?_; (try simp -implicitDefEqProofs [-loopQ_n, fracC, h1, h2, mulF2]); (first | refine callS_intro (hv) (.inl rfl) ?_))); (try simp -implicitDefEqProofs [-loopQ_n, fracC, h1, h2, mulF2])))))
  have b1 := validF_bd h1
  have b2 := validF_bd h2
  have a1 := abs_pure p (by omega) (by omega)
  have a2 := abs_pure p' (by omega) (by omega)
  have m1 := abs_prod (p := p) (p' := p') (by omega) (by omega)
  have m0 : 0 ≤ (p.natAbs : Int) * (p'.natAbs : Int) := Int.mul_nonneg (by omega) (by omega)
  have m3 := prod_in (show -1073741824 ≤ q by omega) b1.2.2.2 b2.2.2.1 b2.2.2.2
  have m4 : 1 ≤ q * q' := by have := Int.mul_le_mul b1.2.2.1 b2.2.2.1 (by omega) (by omega); omega
  have w5 : wrapI .u64 q = q := wrapU_in (by omega) (by omega)
  have w6 : wrapI .u64 q' = q' := wrapU_in (by omega) (by omega)
  have w7 : wrapI .u64 (q * q') = q * q' := wrapU_in (by omega) (by omega)
  have w8 : wrapI .u64 ((p.natAbs : Int) * (p'.natAbs : Int)) = (p.natAbs : Int) * (p'.natAbs : Int) := wrapU_in (by omega) (by omega)
  have hf := fun ng => fit_pureI ng ((p.natAbs : Int) * (p'.natAbs : Int)) (q * q') (p.natAbs * p'.natAbs) (q * q').natAbs (by push_cast; rfl) (by omega) (by omega) (by omega) (by omega)
  have f1 := hf true
  have f2 := hf false
  have hM : mulF2 (p, q) (p', q') = fitF (sgnF (p, q) (p', q')) (p.natAbs * p'.natAbs) (q * q').natAbs := by simp [mulF2, h1, h2]
  rw [hM]
  unfold sgnF
  simp only
  by_cases c1 : p < 0
  · by_cases c2 : p' < 0
    · ((try simp -implicitDefEqProofs [-loopQ_n, fracC, h1, h2, c1, c2, w5, w6, w7, w8]) <;> (repeat' (first | ((first | refine condD_dec ?_ ?_ | refine guardD_dec ?_ ?_) <;> (intro hc; (try simp -implicitDefEqProofs [-loopQ_n, hc, fracC, h1, h2, c1, c2, w5, w6, w7, w8]))) | ((first | refine condD_intro ?_ ?_ | refine guardD_intro ?_ ?_) <;> (intro hd; have hc := hd; (try simp at hc) <;> (try simp -implicitDefEqProofs [-loopQ_n, hd, hc, fracC, h1, h2, c1, c2, w5, w6, w7, w8]))) | ((first | (refine ldD_ep ?_ ?_; (focus kernel_rfl)) | (refine callS_mk ?_; (try simp -implicitDefEqProofs [-loopQ_n, fracC, h1, h2, c1, c2, w5, w6, w7, w8]); (first | refine callS_intro (hv) (.inl rfl) ?_ | refine callS_intro (a1) (.inl rfl) ?_ | refine callS_intro (a2) (.inl rfl) ?_ | refine callS_intro (f2) (.inl rfl) ?_))); (try simp -implicitDefEqProofs [-loopQ_n, fracC, h1, h2, c1, c2, w5, w6, w7, w8])))))
    · ((try simp -implicitDefEqProofs [-loopQ_n, fracC, h1, h2, c1, c2, w5, w6, w7, w8]) <;> (repeat' (first | ((first | refine condD_dec ?_ ?_ | refine guardD_dec ?_ ?_) <;> (intro hc; (try simp -implicitDefEqProofs [-loopQ_n, hc, fracC, h1, h2, c1, c2, w5, w6, w7, w8]))) | ((first | refine condD_intro ?_ ?_ | refine guardD_intro ?_ ?_) <;> (intro hd; have hc := hd; (try simp at hc) <;> (try simp -implicitDefEqProofs [-loopQ_n, hd, hc, fracC, h1, h2, c1, c2, w5, w6, w7, w8]))) | ((first | (refine ldD_ep ?_ ?_; (focus kernel_rfl)) | (refine callS_mk ?_; (try simp -implicitDefEqProofs [-loopQ_n, fracC, h1, h2, c1, c2, w5, w6, w7, w8]); (first | refine callS_intro (hv) (.inl rfl) ?_ | refine callS_intro (a1) (.inl rfl) ?_ | refine callS_intro (a2) (.inl rfl) ?_ | refine callS_intro (f1) (.inl rfl) ?_))); (try simp -implicitDefEqProofs [-loopQ_n, fracC, h1, h2, c1, c2, w5, w6, w7, w8])))))
  · by_cases c2 : p' < 0
    · ((try simp -implicitDefEqProofs [-loopQ_n, fracC, h1, h2, c1, c2, w5, w6, w7, w8]) <;> (repeat' (first | ((first | refine condD_dec ?_ ?_ | refine guardD_dec ?_ ?_) <;> (intro hc; (try simp -implicitDefEqProofs [-loopQ_n, hc, fracC, h1, h2, c1, c2, w5, w6, w7, w8]))) | ((first | refine condD_intro ?_ ?_ | refine guardD_intro ?_ ?_) <;> (intro hd; have hc := hd; (try simp at hc) <;> (try simp -implicitDefEqProofs [-loopQ_n, hd, hc, fracC, h1, h2, c1, c2, w5, w6, w7, w8]))) | ((first | (refine ldD_ep ?_ ?_; (focus kernel_rfl)) | (refine callS_mk ?_; (try simp -implicitDefEqProofs [-loopQ_n, fracC, h1, h2, c1, c2, w5, w6, w7, w8]); (first | refine callS_intro (hv) (.inl rfl) ?_ | refine callS_intro (a1) (.inl rfl) ?_ | refine callS_intro (a2) (.inl rfl) ?_ | refine callS_intro (f1) (.inl rfl) ?_))); (try simp -implicitDefEqProofs [-loopQ_n, fracC, h1, h2, c1, c2, w5, w6, w7, w8])))))
    · ((try simp -implicitDefEqProofs [-loopQ_n, fracC, h1, h2, c1, c2, w5, w6, w7, w8]) <;> (repeat' (first | ((first | refine condD_dec ?_ ?_ | refine guardD_dec ?_ ?_) <;> (intro hc; (try simp -implicitDefEqProofs [-loopQ_n, hc, fracC, h1, h2, c1, c2, w5, w6, w7, w8]))) | ((first | refine condD_intro ?_ ?_ | refine guardD_intro ?_ ?_) <;> (intro hd; have hc := hd; (try simp at hc) <;> (try simp -implicitDefEqProofs [-loopQ_n, hd, hc, fracC, h1, h2, c1, c2, w5, w6, w7, w8]))) | ((first | (refine ldD_ep ?_ ?_; (focus kernel_rfl)) | (refine callS_mk ?_; (try simp -implicitDefEqProofs [-loopQ_n, fracC, h1, h2, c1, c2, w5, w6, w7, w8]); (first | refine callS_intro (hv) (.inl rfl) ?_ | refine callS_intro (a1) (.inl rfl) ?_ | refine callS_intro (a2) (.inl rfl) ?_ | refine callS_intro (f2) (.inl rfl) ?_))); (try simp -implicitDefEqProofs [-loopQ_n, fracC, h1, h2, c1, c2, w5, w6, w7, w8])))))
set_option maxHeartbeats 2000000 in
theorem div2_pure (a b : Int × Int) : Pure Tryz.prog 67 [.agg (fracC a), .agg (fracC b)] (.tup [.agg [.int .i64 (divF2 a b).1, .int .i64 (divF2 a b).2.1], .int .i64 (divF2 a b).2.2]) := by
  obtain ⟨p, q⟩ := a
  obtain ⟨p', q'⟩ := b
  have hv := fvalids_pure [(p, q), (p', q')] (by simp)
  simp only [rowsOf, List.map_cons, List.map_nil, fracC] at hv
  refine pure_of mixed Tryz.func67 rfl (by kernel_rfl) (of_decide_eq_true rfl) (by kernel_rfl) (vc_run ?_)
  by_cases h1 : validF p q = true
  rotate_left
  · have h1 : validF p q = false := by simpa using h1
    ((try simp -implicitDefEqProofs [-loopQ_n, fracC, h1, divF2]) <;> (repeat' (first | ((first | refine condD_dec ?_ ?_ | refine guardD_dec ?_ ?_) <;> (intro hc; (try simp -implicitDefEqProofs [-loopQ_n, hc, fracC, h1, divF2]))) | ((first | refine condD_intro ?_ ?_ | refine guardD_intro ?_ ?_) <;> (intro hd; have hc := hd; (try simp at hc) <;> (try simp -implicitDefEqProofs [-loopQ_n, hd, hc, fracC, h1, divF2]))) | ((first | (refine ldD_ep ?_ ?_; (focus kernel_rfl)) | (refine callS_mk ?_; (try simp -implicitDefEqProofs [-loopQ_n, fracC, h1, divF2]); (first | refine callS_intro (hv) (.inl rfl) ?_))); (try simp -implicitDefEqProofs [-loopQ_n, fracC, h1, divF2])))))
  by_cases h2 : validF p' q' = true
  rotate_left
  · have h2 : validF p' q' = false := by simpa using h2
    ((try simp -implicitDefEqProofs [-loopQ_n, fracC, h1, h2, divF2]) <;> (repeat' (first | ((first | refine condD_dec ?_ ?_ | refine guardD_dec ?_ ?_) <;> (intro hc; (try simp -implicitDefEqProofs [-loopQ_n, hc, fracC, h1, h2, divF2]))) | ((first | refine condD_intro ?_ ?_ | refine guardD_intro ?_ ?_) <;> (intro hd; have hc := hd; (try simp at hc) <;> (try simp -implicitDefEqProofs [-loopQ_n, hd, hc, fracC, h1, h2, divF2]))) | ((first | (refine ldD_ep ?_ ?_; (focus kernel_rfl)) | (refine callS_mk ?_; (try simp -implicitDefEqProofs [-loopQ_n, fracC, h1, h2, divF2]); (first | refine callS_intro (hv) (.inl rfl) ?_))); (try simp -implicitDefEqProofs [-loopQ_n, fracC, h1, h2, divF2])))))
  by_cases h0 : p' = 0
  · subst h0
    ((try simp -implicitDefEqProofs [-loopQ_n, fracC, h1, h2, divF2]) <;> (repeat' (first | ((first | refine condD_dec ?_ ?_ | refine guardD_dec ?_ ?_) <;> (intro hc; (try simp -implicitDefEqProofs [-loopQ_n, hc, fracC, h1, h2, divF2]))) | ((first | refine condD_intro ?_ ?_ | refine guardD_intro ?_ ?_) <;> (intro hd; have hc := hd; (try simp at hc) <;> (try simp -implicitDefEqProofs [-loopQ_n, hd, hc, fracC, h1, h2, divF2]))) | ((first | (refine ldD_ep ?_ ?_; (focus kernel_rfl)) | (refine callS_mk ?_; (try simp -implicitDefEqProofs [-loopQ_n, fracC, h1, h2, divF2]); (first | refine callS_intro (hv) (.inl rfl) ?_))); (try simp -implicitDefEqProofs [-loopQ_n, fracC, h1, h2, divF2])))))
  have b1 := validF_bd h1
  have b2 := validF_bd h2
  have a1 := abs_pure p (by omega) (by omega)
  have a2 := abs_pure p' (by omega) (by omega)
  have e2 : (q'.natAbs : Int) = q' := by omega
  have m1 := abs_prod (p := p) (p' := q') (by omega) (by omega)
  rw [e2] at m1
  have m0 : 0 ≤ (p.natAbs : Int) * q' := Int.mul_nonneg (by omega) (by omega)
  have m3 := abs_prod (p := q) (p' := p') (by omega) (by omega)
  rw [show (q.natAbs : Int) = q by omega] at m3
  have m4 : 1 ≤ q * (p'.natAbs : Int) := by have := Int.mul_le_mul b1.2.2.1 (show (1 : Int) ≤ (p'.natAbs : Int) by omega) (by omega) (by omega); omega
  have w5 : wrapI .u64 q = q := wrapU_in (by omega) (by omega)
  have w6 : wrapI .u64 q' = q' := wrapU_in (by omega) (by omega)
  have w7 : wrapI .u64 (q * (p'.natAbs : Int)) = q * (p'.natAbs : Int) := wrapU_in (by omega) (by omega)
  have w8 : wrapI .u64 ((p.natAbs : Int) * q') = (p.natAbs : Int) * q' := wrapU_in (by omega) (by omega)
  have hf := fun ng => fit_pureI ng ((p.natAbs : Int) * q') (q * (p'.natAbs : Int)) (p.natAbs * q'.natAbs) (q * (p'.natAbs : Int)).natAbs (by push_cast; rw [e2]) (by omega) (by omega) (by omega) (by omega)
  have f1 := hf true
  have f2 := hf false
  have hM : divF2 (p, q) (p', q') = fitF (sgnF (p, q) (p', q')) (p.natAbs * q'.natAbs) (q * (p'.natAbs : Int)).natAbs := by simp [divF2, h1, h2, h0]
  rw [hM]
  unfold sgnF
  simp only
  by_cases c1 : p < 0
  · by_cases c2 : p' < 0
    · ((try simp -implicitDefEqProofs [-loopQ_n, fracC, h1, h2, h0, c1, c2, w5, w6, w7, w8]) <;> (repeat' (first | ((first | refine condD_dec ?_ ?_ | refine guardD_dec ?_ ?_) <;> (intro hc; (try simp -implicitDefEqProofs [-loopQ_n, hc, fracC, h1, h2, h0, c1, c2, w5, w6, w7, w8]))) | ((first | refine condD_intro ?_ ?_ | refine guardD_intro ?_ ?_) <;> (intro hd; have hc := hd; (try simp at hc) <;> (try simp -implicitDefEqProofs [-loopQ_n, hd, hc, fracC, h1, h2, h0, c1, c2, w5, w6, w7, w8]))) | ((first | (refine ldD_ep ?_ ?_; (focus kernel_rfl)) | (refine callS_mk ?_; (try simp -implicitDefEqProofs [-loopQ_n, fracC, h1, h2, h0, c1, c2, w5, w6, w7, w8]); (first | refine callS_intro (hv) (.inl rfl) ?_ | refine callS_intro (a1) (.inl rfl) ?_ | refine callS_intro (a2) (.inl rfl) ?_ | refine callS_intro (f2) (.inl rfl) ?_))); (try simp -implicitDefEqProofs [-loopQ_n, fracC, h1, h2, h0, c1, c2, w5, w6, w7, w8])))))
    · ((try simp -implicitDefEqProofs [-loopQ_n, fracC, h1, h2, h0, c1, c2, w5, w6, w7, w8]) <;> (repeat' (first | ((first | refine condD_dec ?_ ?_ | refine guardD_dec ?_ ?_) <;> (intro hc; (try simp -implicitDefEqProofs [-loopQ_n, hc, fracC, h1, h2, h0, c1, c2, w5, w6, w7, w8]))) | ((first | refine condD_intro ?_ ?_ | refine guardD_intro ?_ ?_) <;> (intro hd; have hc := hd; (try simp at hc) <;> (try simp -implicitDefEqProofs [-loopQ_n, hd, hc, fracC, h1, h2, h0, c1, c2, w5, w6, w7, w8]))) | ((first | (refine ldD_ep ?_ ?_; (focus kernel_rfl)) | (refine callS_mk ?_; (try simp -implicitDefEqProofs [-loopQ_n, fracC, h1, h2, h0, c1, c2, w5, w6, w7, w8]); (first | refine callS_intro (hv) (.inl rfl) ?_ | refine callS_intro (a1) (.inl rfl) ?_ | refine callS_intro (a2) (.inl rfl) ?_ | refine callS_intro (f1) (.inl rfl) ?_))); (try simp -implicitDefEqProofs [-loopQ_n, fracC, h1, h2, h0, c1, c2, w5, w6, w7, w8])))))
  · by_cases c2 : p' < 0
    · ((try simp -implicitDefEqProofs [-loopQ_n, fracC, h1, h2, h0, c1, c2, w5, w6, w7, w8]) <;> (repeat' (first | ((first | refine condD_dec ?_ ?_ | refine guardD_dec ?_ ?_) <;> (intro hc; (try simp -implicitDefEqProofs [-loopQ_n, hc, fracC, h1, h2, h0, c1, c2, w5, w6, w7, w8]))) | ((first | refine condD_intro ?_ ?_ | refine guardD_intro ?_ ?_) <;> (intro hd; have hc := hd; (try simp at hc) <;> (try simp -implicitDefEqProofs [-loopQ_n, hd, hc, fracC, h1, h2, h0, c1, c2, w5, w6, w7, w8]))) | ((first | (refine ldD_ep ?_ ?_; (focus kernel_rfl)) | (refine callS_mk ?_; (try simp -implicitDefEqProofs [-loopQ_n, fracC, h1, h2, h0, c1, c2, w5, w6, w7, w8]); (first | refine callS_intro (hv) (.inl rfl) ?_ | refine callS_intro (a1) (.inl rfl) ?_ | refine callS_intro (a2) (.inl rfl) ?_ | refine callS_intro (f1) (.inl rfl) ?_))); (try simp -implicitDefEqProofs [-loopQ_n, fracC, h1, h2, h0, c1, c2, w5, w6, w7, w8])))))
    · ((try simp -implicitDefEqProofs [-loopQ_n, fracC, h1, h2, h0, c1, c2, w5, w6, w7, w8]) <;> (repeat' (first | ((first | refine condD_dec ?_ ?_ | refine guardD_dec ?_ ?_) <;> (intro hc; (try simp -implicitDefEqProofs [-loopQ_n, hc, fracC, h1, h2, h0, c1, c2, w5, w6, w7, w8]))) | ((first | refine condD_intro ?_ ?_ | refine guardD_intro ?_ ?_) <;> (intro hd; have hc := hd; (try simp at hc) <;> (try simp -implicitDefEqProofs [-loopQ_n, hd, hc, fracC, h1, h2, h0, c1, c2, w5, w6, w7, w8]))) | ((first | (refine ldD_ep ?_ ?_; (focus kernel_rfl)) | (refine callS_mk ?_; (try simp -implicitDefEqProofs [-loopQ_n, fracC, h1, h2, h0, c1, c2, w5, w6, w7, w8]); (first | refine callS_intro (hv) (.inl rfl) ?_ | refine callS_intro (a1) (.inl rfl) ?_ | refine callS_intro (a2) (.inl rfl) ?_ | refine callS_intro (f2) (.inl rfl) ?_))); (try simp -implicitDefEqProofs [-loopQ_n, fracC, h1, h2, h0, c1, c2, w5, w6, w7, w8])))))
end Go.Proofs.YthiclaihlpkinaaGreat
namespace Go.Proofs.YthiclaihlpkinaaGreat
open Go.RowKit
variable [Glob]
/-- A number, reckoned out. -/
def fI {α : Type} (n : Int) (k : Int → α) : α :=
  match n with
  | .ofNat m => (match m with | 0 => k (.ofNat 0) | m + 1 => k (.ofNat (m + 1)))
  | .negSucc m => (match m with | 0 => k (.negSucc 0) | m + 1 => k (.negSucc (m + 1)))
theorem fI_eq {α : Type} (n : Int) (k : Int → α) : fI n k = k n := by
  unfold fI
  split
  · split <;> rfl
  · split <;> rfl
def fr2 (f : Int × Int → Int × Int → Int × Int × Int) : List AV → Option AV
  | [.agg [.int .i64 a, .int .i64 b], .agg [.int .i64 c, .int .i64 d]] => match f (a, b) (c, d) with | (x, y, z) => fI x fun x => fI y fun y => fI z fun z => some (.tup [.agg [.int .i64 x, .int .i64 y], .int .i64 z])
  | _ => none
theorem fr2_spec {f : Int × Int → Int × Int → Int × Int × Int} {ys : List AV} {r : AV} (h : fr2 f ys = some r) : ∃ a b : Int × Int, ys = [.agg (fracC a), .agg (fracC b)] ∧ r = .tup [.agg [.int .i64 (f a b).1, .int .i64 (f a b).2.1], .int .i64 (f a b).2.2] := by
  unfold fr2 at h
  split at h
  · rename_i a b c d
    refine ⟨(a, b), (c, d), rfl, ?_⟩
    obtain ⟨⟨x, y, z⟩, hf⟩ : ∃ q, f (a, b) (c, d) = q := ⟨_, rfl⟩
    rw [hf] at h ⊢
    simp only [fI_eq, Option.some.injEq] at h
    exact h.symm
  · cases h
def frC : List AV → Option AV
  | [.agg [.int .i64 a, .int .i64 b], .agg [.int .i64 c, .int .i64 d]] => match cmpF (a, b) (c, d) with | (x, y) => fI x fun x => fI y fun y => some (.tup [.int .i64 x, .int .i64 y])
  | _ => none
def frV : List AV → Option AV
  | [.agg [.int .i64 a, .int .i64 b]] => match validF a b with | true => some (.bool true) | false => some (.bool false)
  | _ => none
def frHook : Hook := hkAdd 65 (fr2 addF) (hkAdd 93 (fr2 subF2) (hkAdd 66 (fr2 mulF2) (hkAdd 67 (fr2 divF2) (hkAdd 104 frC (hkAdd 60 frV noHookF)))))
where noHookF : Hook := fun _ => none
theorem frHook_ok : HookOk Tryz.prog frHook := by
  refine hkAdd_ok (fun ys r h => ?_) (hkAdd_ok (fun ys r h => ?_) (hkAdd_ok (fun ys r h => ?_) (hkAdd_ok (fun ys r h => ?_) (hkAdd_ok (fun ys r h => ?_) (hkAdd_ok (fun ys r h => ?_) (fun g f h => by cases h))))))
  · obtain ⟨a, b, rfl, rfl⟩ := fr2_spec h; exact add_pure a b
  · obtain ⟨a, b, rfl, rfl⟩ := fr2_spec h; exact sub2_pure a b
  · obtain ⟨a, b, rfl, rfl⟩ := fr2_spec h; exact mul2_pure a b
  · obtain ⟨a, b, rfl, rfl⟩ := fr2_spec h; exact div2_pure a b
  · unfold frC at h
    split at h
    · rename_i a b c d
      have hc := cmp_pure (a, b) (c, d)
      obtain ⟨⟨x, y⟩, hf⟩ : ∃ q, cmpF (a, b) (c, d) = q := ⟨_, rfl⟩
      rw [hf] at h hc
      simp only [fI_eq, Option.some.injEq] at h
      subst h
      exact hc
    · cases h
  · unfold frV at h
    split at h
    · rename_i a b
      have hc := fvalid_pure (a, b)
      simp only at hc
      cases hb : validF a b with
      | true => rw [hb] at h hc; simp at h; subst h; exact hc
      | false => rw [hb] at h hc; simp at h; subst h; exact hc
    · cases h
end Go.Proofs.YthiclaihlpkinaaGreat
