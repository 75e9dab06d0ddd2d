/- The walks through the functions on fractions: what each returns. Nothing that was there is turned. -/
import Derived.Test.YtkppfaennogcmaaProg
import Derived.Test.YtkppfaennogcmaaLib
import Derived.Test.YtkppfaennogcmaaFracH
import Derived.WalkSpells
import Derived.WalkLawsBesides
import Derived.Deep.QuietTactic
import Derived.BigQuiet
import Derived.Outline
import Derived.Test.YtkppfaennogcmaaFracW
namespace Go.Proofs.Ytkppfaennogcmaa
set_option linter.unusedSimpArgs false
set_option linter.unusedVariables false
set_option linter.unnecessarySimpa false
set_option linter.unusedSectionVars false
open Go.RowKit

set_option maxHeartbeats 1000000 in
theorem rmake_any (n d : Int) (w : World) (h1 : -4611686018427387904 ≤ n) (h2 : n ≤ 4611686018427387904) (h3 : -4611686018427387904 ≤ d) (h4 : d ≤ 4611686018427387904) :
    Calls Try.prog 69 #[.int .i64 n, .int .i64 d] w (RetFrac (makeF n d) w) := by
  by_cases h0 : d = 0
  · subst h0
    go_enter Try.func69, Try.ntmps69
    go_wp2_with fail
    refine bodyPost_ret (v := .tuple #[.agg #[.int .i64 0, .int .i64 0], .int .i64 7]) (by simp [results, Try.results69, go_sem, *]) rfl ?_
    refine ⟨?_, (by repeat (first | exact Below.refl _ _ | assumption | refine Below.drew ?_ | refine bdrewN ?_ _ | refine Below.alloc ?_ (by first | omega | (simp; done) | (simp; omega) | exact Below.size (by assumption)) _ | refine Below.setCell ?_ (by first | omega | (simp; done) | (simp; omega)) _ | refine bstep ?_ (by assumption)))⟩
    rw [makeF_zero]
  · have h0' : (d == 0) = false := by simp [h0]
    obtain ⟨G, hG⟩ : ∃ G, G = Nat.gcd n.natAbs d.natAbs := ⟨_, rfl⟩
    have hG1 : 1 ≤ G := by rw [hG]; exact Nat.gcd_pos_of_pos_right _ (by omega)
    obtain ⟨n', hn'⟩ : ∃ n' : Int, n = G * n' := by
      exact Int.ofNat_dvd_left.2 (hG ▸ Nat.gcd_dvd_left n.natAbs d.natAbs)
    obtain ⟨d', hd'⟩ : ∃ d' : Int, d = G * d' := by
      exact Int.ofNat_dvd_left.2 (hG ▸ Nat.gcd_dvd_right n.natAbs d.natAbs)
    have hm := makeF_eq hG hn' hd' h0
    have qn : n.tdiv (-(G : Int)) = -n' := by rw [Int.tdiv_neg, hn', Int.mul_tdiv_cancel_left _ (by omega)]
    have qd : d.tdiv (-(G : Int)) = -d' := by rw [Int.tdiv_neg, hd', Int.mul_tdiv_cancel_left _ (by omega)]
    have hna : n'.natAbs ≤ n.natAbs := by rw [hn', Int.natAbs_mul, Int.natAbs_natCast]; exact Nat.le_mul_of_pos_left _ hG1
    have hda : d'.natAbs ≤ d.natAbs := by rw [hd', Int.natAbs_mul, Int.natAbs_natCast]; exact Nat.le_mul_of_pos_left _ hG1
    have hs : 0 < d ↔ 0 < d' := by
      rw [hd']; constructor
      · intro h; rcases (show 0 < d' ∨ d' ≤ 0 by omega) with h1 | h1
        · exact h1
        · have := Int.mul_nonpos_of_nonneg_of_nonpos (Int.natCast_nonneg G) h1; omega
      · exact fun h => Int.mul_pos (by omega) h
    have b1 : -4611686018427387904 ≤ n' := by omega
    have b2 : n' ≤ 4611686018427387904 := by omega
    have b3 : -4611686018427387904 ≤ d' := by omega
    have b4 : d' ≤ 4611686018427387904 := by omega
    have b5 : (0 < d ∧ 0 < d') ∨ (d < 0 ∧ d' < 0) := by
      have : d' ≠ 0 := by rintro rfl; simp at hd'; exact h0 hd'
      omega
    have HM := Lib.hid hm; clear hm hs hna hda
    have HN := Lib.hid hn'; clear hn'
    have HD := Lib.hid hd'; clear hd'
    have HG := Lib.hid hG; clear hG
    clear h0
    have hend : ∀ (a b : Int) (w' : World), a = (if 0 < d then n' else -n') → b = d'.natAbs → a.natAbs ≤ 1073741824 → b ≤ 1073741824 → Below w.heap.size w w' → RetFrac (makeF n d) w (.returned (.tuple #[.agg #[.int .i64 a, .int .i64 b], .int .i64 0])) w' := by
      rintro a b w' ha rfl h1 h2 hb
      refine ⟨?_, hb⟩
      rw [HM.out, if_neg (by rw [ha] at h1; split at h1 <;> omega)]
      simp [ha]
    have hbig : ∀ w', (1073741824 < n'.natAbs ∨ 1073741824 < d'.natAbs) → Below w.heap.size w w' → RetFrac (makeF n d) w (.returned (.tuple #[.agg #[.int .i64 0, .int .i64 0], .int .i64 6])) w' := by
      rintro w' h1 hb
      refine ⟨?_, hb⟩
      rw [HM.out, if_pos h1]
    have HE := Lib.hid hend; clear hend
    have HB := Lib.hid hbig; clear hbig HM HN HD
    by_cases hn : 0 < n
    all_goals rcases b5 with ⟨hd, hd'⟩ | ⟨hd, hd'⟩
    all_goals
      go_enter Try.func69, Try.ntmps69
      go_wp2
    all_goals
      go_loopw [6, 7] (fun x y wr => ∃ p q : Nat, x = .int .i64 (-p) ∧ y = .int .i64 (-q) ∧ p ≤ 4611686018427387904 ∧ q ≤ 4611686018427387904 ∧ Hid (Nat.gcd p q = G) ∧ ∃ k, Hid (wr = (w.alloc (.cells #[.int .i64 0, .int .i64 0] 61)).drewN k)) (fun _ y _ => (-intOf y).toNat)
    all_goals try (case atStart => exact ⟨n.natAbs, d.natAbs, by congr 1; omega, by congr 1; omega, by omega, by omega, HG.out.symm, 0, rfl⟩)
    all_goals
      obtain ⟨p, q, rfl, rfl, hp, hq, hg, k, hwr⟩ := hrel
      obtain rfl := hwr
      rcases (show q = 0 ∨ 1 ≤ q by omega) with hq0 | hq0
      rotate_left
      · have hq1 : (-(q : Int) != 0) = true := by simp; omega
        go_wp2
        go_region
        go_wp2
        have hm : p % q < q := Nat.mod_lt _ (by omega)
        go_roundw
        case rel => exact ⟨q, p % q, rfl, by simp, hq, by omega, by rw [gcd_step]; exact hg, k + 1, rfl⟩
        case measure => simp [intOf]; try omega
      · subst hq0
        have hp' : p = G := by rw [← hg.out, Nat.gcd_zero_right]
        subst hp'
        clear HG hg
        go_wp2
        all_goals first
          | (refine bodyPost_ret (v := .tuple #[.agg #[.int .i64 0, .int .i64 0], .int .i64 6]) (by simp [results, Try.results69, go_sem, *]; done) rfl (HB.out _ (by omega) (by repeat (first | exact Below.refl _ _ | assumption | refine Below.drew ?_ | refine bdrewN ?_ _ | refine Below.alloc ?_ (by first | omega | (simp; done) | (simp; omega) | exact Below.size (by assumption)) _ | refine Below.setCell ?_ (by first | omega | (simp; done) | (simp; omega)) _ | refine bstep ?_ (by assumption)))))
          | (refine bodyPost_ret (v := .tuple #[.agg #[.int .i64 n', .int .i64 d'], .int .i64 0]) (by simp [results, Try.results69, go_sem]; done) rfl (HE.out _ _ _ (by rw [if_pos (by omega)]) (by omega) (by omega) (by omega) (by repeat (first | exact Below.refl _ _ | assumption | refine Below.drew ?_ | refine bdrewN ?_ _ | refine Below.alloc ?_ (by first | omega | (simp; done) | (simp; omega) | exact Below.size (by assumption)) _ | refine Below.setCell ?_ (by first | omega | (simp; done) | (simp; omega)) _ | refine bstep ?_ (by assumption)))))
          | (refine bodyPost_ret (v := .tuple #[.agg #[.int .i64 (-n'), .int .i64 (-d')], .int .i64 0]) (by simp [results, Try.results69, go_sem]; done) rfl (HE.out _ _ _ (by rw [if_neg (by omega)]) (by omega) (by omega) (by omega) (by repeat (first | exact Below.refl _ _ | assumption | refine Below.drew ?_ | refine bdrewN ?_ _ | refine Below.alloc ?_ (by first | omega | (simp; done) | (simp; omega) | exact Below.size (by assumption)) _ | refine Below.setCell ?_ (by first | omega | (simp; done) | (simp; omega)) _ | refine bstep ?_ (by assumption)))))

end Go.Proofs.Ytkppfaennogcmaa
