/- Numbers as texts: strconv.Itoa, and the reference's Decimal. -/
import Derived.Test.YtdkcmfafganhhaaDoorTy
import Derived.Test.YtdkcmfafganhhaaDoorM3
import Derived.Test.YtdkcmfafganhhaaDoorAbBase
import Derived.Test.YtdkcmfafganhhaaDoorBr
import Derived.Test.YtdkcmfafganhhaaDoorShelf
import Derived.Test.YtdkcmfafganhhaaDoorAbExec
import Derived.Test.YtdkcmfafganhhaaDoorLib
namespace Go.Proofs.YtdkcmfafganhhaaDoor
set_option linter.unusedSimpArgs false
set_option linter.unusedVariables false
set_option linter.unnecessarySimpa false
set_option linter.unusedSectionVars false
open Go.RowKit
variable [Glob]
set_option maxRecDepth 100000
abbrev Bt := List UInt8
def sb (l : Bt) : ByteArray := ⟨l.toArray⟩
abbrev bl (s : ByteArray) : Bt := s.data.toList
theorem sb_bl (s : ByteArray) : sb (bl s) = s := by cases s; simp [sb]
theorem bl_sb (l : Bt) : bl (sb l) = l := by simp [sb]
theorem sb_size (l : Bt) : (sb l).size = l.length := by simp [sb, ByteArray.size]
theorem sb_app (a b : Bt) : sb a ++ sb b = sb (a ++ b) := by
  apply ByteArray.ext
  simp [sb]
theorem sb_inj {a b : Bt} : sb a = sb b ↔ a = b := ⟨fun h => by have := congrArg bl h; rwa [bl_sb, bl_sb] at this, fun h => by rw [h]⟩
theorem dec_lt {u : Nat} (h : u < 10) : Lib.decDigits u = [UInt8.ofNat (48 + u)] := by rw [Lib.decDigits, dif_pos h]
theorem dec_ge {u : Nat} (h : ¬ u < 10) : Lib.decDigits u = Lib.decDigits (u / 10) ++ [UInt8.ofNat (48 + u % 10)] := by rw [Lib.decDigits, dif_neg h]
theorem below_drewN {w : World} (n : Nat) : Below w.heap.size w (w.drewN n) := bdrewN (Below.refl _ _) n
/-- The number's digits, by the library. -/
theorem itoa_pure (hx : Glob.exact 1 = some (Lib.pow10Tab.map fun z => Value.int .u64 z).toArray) (n : Nat) (hn : n ≤ 1099511627776) : Pure Tryd.prog 29 [.int .i64 n] (.str (sb (Lib.decDigits n))) := by
  refine ⟨by kernel_rfl, fun w X vs hX hvo hl hv => ?_⟩
  obtain ⟨v0, rfl⟩ : ∃ v0, vs = #[v0] := by
    rcases vs with ⟨l⟩
    match l, hl with
    | [a], _ => exact ⟨a, rfl⟩
  have e0 := hv 0 (.int .i64 n) v0 rfl rfl
  cases e0
  have htab : Lib.TabIs Tryd.prog w "internal/strconv.uint64pow10" .u64 Lib.pow10Tab := by
    obtain ⟨_, _, t, f, h3⟩ := hvo.2 _ _ hx
    unfold Lib.TabIs World.var?
    rw [show Tryd.prog.globalNamed "internal/strconv.uint64pow10" = some 1 by kernel_rfl]
    simp [h3]
  refine (Tryd.strconv_Itoa n (by omega) (by omega) w htab).mono ?_
  rintro e w' ⟨rfl, k, os, rfl⟩
  refine ⟨_, rfl, ?_, ?_⟩
  · have : Lib.itoa (n : Int) = Lib.decDigits n := by unfold Lib.itoa; rw [if_neg (by omega)]; simp
    rw [this]
    exact .str
  · exact ((below_drewN k).trans ⟨rfl, rfl, rfl, by simp [Go.Sort.grow], fun j hj => by simp [Go.Sort.grow, Array.getElem?_append_left hj]⟩)
theorem dec_len : ∀ (n : Nat), (Lib.decDigits n).length ≤ n + 1 := by
  intro n
  induction n using Nat.strongRecOn with
  | _ n ih =>
    by_cases h : n < 10
    · rw [dec_lt h]; simp
    · rw [dec_ge h, List.length_append]
      have := ih (n / 10) (by omega)
      simp only [List.length_singleton]
      omega
theorem enc_dig {d : Nat} (h : d < 10) : Utf8.encode (wrapI .i32 (48 + (d : Int))) = sb [UInt8.ofNat (48 + d)] := by
  have hw : wrapI .i32 (48 + (d : Int)) = 48 + d := by
    rw [wrapI_eq]
    simp only [IntKind.wrap, IntKind.signed, IntKind.bits]
    simp
    omega
  rw [hw]
  obtain rfl | rfl | rfl | rfl | rfl | rfl | rfl | rfl | rfl | rfl : d = 0 ∨ d = 1 ∨ d = 2 ∨ d = 3 ∨ d = 4 ∨ d = 5 ∨ d = 6 ∨ d = 7 ∨ d = 8 ∨ d = 9 := by omega
  all_goals (unfold Utf8.encode; simp [Utf8.valid, sb])
theorem rdec_pure : ∀ (n : Nat), n ≤ 1000000 → Pure Tryd.prog 38 [.int .i64 n] (.str (sb (Lib.decDigits n))) := by
  intro n
  induction n using Nat.strongRecOn with
  | _ n ih =>
    intro hn
    by_cases h : n < 10
    · rw [dec_lt h]
      have h1 : ¬ (n : Int) < 0 := by omega
      have h2 : ¬ (9 : Int) < n := by omega
      have w1 : wrapI .i64 (48 + (n : Int)) = 48 + n := wrap_in (by omega) (by omega)
      refine pure_of mixed Tryd.func38 rfl (by kernel_rfl) (of_decide_eq_true rfl) (by kernel_rfl) (vc_run ?_)
      have e := enc_dig h
      obtain ⟨B, hB⟩ : ∃ B, sb [UInt8.ofNat (48 + n)] = B := ⟨_, rfl⟩
      rw [hB] at e ⊢
      ((try simp -implicitDefEqProofs [-loopQ_n, h1, h2, w1, e]) <;> (repeat' (first | (refine condD_dec ?_ ?_ <;> (intro hc; (try simp -implicitDefEqProofs [-loopQ_n, hc, h1, h2, w1, e]))) | (refine guardD_dec ?_ ?_ <;> (intro hc; (try simp -implicitDefEqProofs [-loopQ_n, hc, h1, h2, w1, e]))) | (refine condD_intro ?_ ?_ <;> (intro hd; have hc := hd; (try simp at hc) <;> (try simp -implicitDefEqProofs [-loopQ_n, hd, hc, h1, h2, w1, e]))) | (refine guardD_intro ?_ ?_ <;> (intro hd; have hc := hd; (try simp at hc) <;> (try simp -implicitDefEqProofs [-loopQ_n, hd, hc, h1, h2, w1, e]))) | (refine ldD_ep ?_ ?_; (focus kernel_rfl); (try simp -implicitDefEqProofs [-loopQ_n, h1, h2, w1, e])))))
    · rw [dec_ge h]
      have ih' := ih (n / 10) (by omega) (by omega)
      have h1 : ¬ (n : Int) < 0 := by omega
      have h2 : (9 : Int) < n := by omega
      refine pure_of mixed Tryd.func38 rfl (by kernel_rfl) (of_decide_eq_true rfl) (by kernel_rfl) (vc_run ?_)
      have q1 : wrapI .i64 ((n : Int) / 10) = ((n / 10 : Nat) : Int) := by rw [wrap_in (by omega) (by omega)]; omega
      have q2 : ((n : Int)).tmod 10 = ((n % 10 : Nat) : Int) := by rw [Int.tmod_eq_emod_of_nonneg (by omega)]; omega
      obtain ⟨m, hm⟩ : ∃ m, n % 10 = m := ⟨_, rfl⟩
      obtain ⟨D, hD⟩ : ∃ D, n / 10 = D := ⟨_, rfl⟩
      have hm10 : m < 10 := by omega
      have hl := dec_len D
      rw [hD] at ih' q1 ⊢
      rw [hm] at q2 ⊢
      have w1 : wrapI .i64 (48 + (m : Int)) = 48 + m := wrap_in (by omega) (by omega)
      have e := enc_dig hm10
      have hs1 := sb_size (Lib.decDigits D)
      have hap := sb_app (Lib.decDigits D) [UInt8.ofNat (48 + m)]
      have hs2 : (sb [UInt8.ofNat (48 + m)]).size = 1 := rfl
      rw [← hap]
      obtain ⟨B, hB⟩ : ∃ B, sb [UInt8.ofNat (48 + m)] = B := ⟨_, rfl⟩
      obtain ⟨E, hE⟩ : ∃ E, sb (Lib.decDigits D) = E := ⟨_, rfl⟩
      rw [hB] at e hs2 ⊢
      rw [hE] at ih' hs1 ⊢
      have hsz : E.size + B.size ≤ 1073741824 := by omega
      have hsz2 : E.size + 1 ≤ 1073741824 := by omega
      ((try simp -implicitDefEqProofs [-loopQ_n, h1, h2, q1, q2, w1, e, hsz, hsz2, hs2]) <;> (repeat' (first | (refine condD_dec ?_ ?_ <;> (intro hc; (try simp -implicitDefEqProofs [-loopQ_n, hc, h1, h2, q1, q2, w1, e, hsz, hsz2, hs2]))) | (refine guardD_dec ?_ ?_ <;> (intro hc; (try simp -implicitDefEqProofs [-loopQ_n, hc, h1, h2, q1, q2, w1, e, hsz, hsz2, hs2]))) | (refine condD_intro ?_ ?_ <;> (intro hd; have hc := hd; (try simp at hc) <;> (try simp -implicitDefEqProofs [-loopQ_n, hd, hc, h1, h2, q1, q2, w1, e, hsz, hsz2, hs2]))) | (refine guardD_intro ?_ ?_ <;> (intro hd; have hc := hd; (try simp at hc) <;> (try simp -implicitDefEqProofs [-loopQ_n, hd, hc, h1, h2, q1, q2, w1, e, hsz, hsz2, hs2]))) | (refine ldD_ep ?_ ?_; (focus kernel_rfl); (try simp -implicitDefEqProofs [-loopQ_n, h1, h2, q1, q2, w1, e, hsz, hsz2, hs2])) | (refine callS_mk ?_; (try simp -implicitDefEqProofs [-loopQ_n, h1, h2, q1, q2, w1, e, hsz, hsz2, hs2]); (first | refine callS_intro (ih') (.inl rfl) ?_); (try simp -implicitDefEqProofs [-loopQ_n, h1, h2, q1, q2, w1, e, hsz, hsz2, hs2])))))
end Go.Proofs.YtdkcmfafganhhaaDoor
