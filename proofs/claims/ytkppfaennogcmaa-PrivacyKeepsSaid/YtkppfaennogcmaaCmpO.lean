/- slices.Compare over strings: what it returns, and the world that it leaves (sorting asks this). -/
import Derived.Test.YtkppfaennogcmaaStrW
import Derived.Test.YtkppfaennogcmaaLib
import Derived.WalkSpells
import Derived.WalkLawsBesides
import Derived.Deep.QuietTactic
import Derived.BigQuiet
import Derived.Outline
import Derived.Sort.Grow
namespace Go.Proofs.Ytkppfaennogcmaa
set_option linter.unusedSimpArgs false
set_option linter.unusedVariables false
set_option linter.unnecessarySimpa false
set_option linter.unusedSectionVars false
open Go.RowKit Go.Sort
variable [Glob]
set_option maxRecDepth 100000
/-- The world is as it was, but for draws and new blocks. -/
def Grown (w w' : World) : Prop := ∃ q os', w' = grow (w.drewN q) os'
theorem Grown.refl (w : World) : Grown w w := ⟨0, #[], by simp [World.drewN]⟩
theorem Grown.drewN {w a : World} (h : Grown w a) (n : Nat) : Grown w (a.drewN n) := by
  obtain ⟨q, os, rfl⟩ := h
  exact ⟨q + n, os, by simp [grow, World.drewN, Nat.add_assoc]⟩
theorem Grown.drew {w a : World} (h : Grown w a) : Grown w a.drew := h.drewN 1
theorem Grown.alloc {w a : World} (h : Grown w a) (o : Obj) : Grown w (a.alloc o) := by
  obtain ⟨q, os, rfl⟩ := h
  exact ⟨q, os ++ #[o], by rw [alloc_eq_grow, grow_grow]⟩
theorem Grown.trans {a b c : World} (h : Grown a b) (k : Grown b c) : Grown a c := by
  obtain ⟨q, os, rfl⟩ := h
  obtain ⟨q', os', rfl⟩ := k
  exact ⟨q + q', os ++ os', by simp [grow, World.drewN, Nat.add_assoc, Array.append_assoc]⟩
theorem Grown.below {w w' : World} (h : Grown w w') : Below w.heap.size w w' := by
  obtain ⟨q, os, rfl⟩ := h
  exact ⟨rfl, rfl, rfl, by simp [World.drewN], fun k hk => heap_grow_old _ _ hk⟩
/-- Strings in memory, of whatever size. -/
def rdS : Rd ByteArray := fun w a s => w.cell? a = some (.string s)
abbrev StrsS := Sl rdS 1
theorem mono_strS : Mono rdS := fun _ _ _ _ hb h => Below.cell_some hb h
theorem Sl.strS {w : World} {A : Option Addr} {n k : Nat} {l : List ByteArray} (h : StrsS w A n l) (hk : k < n) :
    ∃ ad, A = some ad ∧ ∃ h : k < l.length, w.cell? (ad.add k) = some (.string l[k]) := by
  obtain ⟨rfl, _, h2⟩ := h
  obtain ⟨ad, h3, h4⟩ := h2 k hk
  exact ⟨ad, h3, hk, by simpa [rdS] using h4⟩
theorem isNaN_calls (x : ByteArray) (w : World) : Calls Try.prog 129 #[.string x] w fun e w' => e = .returned (.bool false) ∧ ∃ n, w' = w.drewN n := by
  go_enter Try.func129, Try.ntmps129
  go_wp2
  go_ret
  exact ⟨by simp, 0, rfl⟩
theorem cmpB_calls (x y : ByteArray) (w : World) : Calls Try.prog 116 #[.string x, .string y] w fun e w' => e = .returned (.int .i64 (cmpB x y)) ∧ ∃ n, w' = w.drewN n := by
  have hr : cmpB x y = if Op.bytesLess x.toList y.toList = true then -1 else if (!x.toList == y.toList) = true then 1 else 0 := by
    rcases str_tri x y with q | q | q
    · simp [cmpB, q.d, q.a]
    · subst q; simp [cmpB, ltS_irr, str_irr]
    · simp [cmpB, q.d, q.e, q.b, q.c']
  go_enter Try.func116, Try.ntmps116
  go_wp2_with (go_at_call 129; refine (isNaN_calls _ _).mono ?_; rintro e w' ⟨rfl, n, rfl⟩)
  all_goals (go_ret; refine ⟨?_, _, rfl⟩; rw [hr]; simp [*])
theorem compare_calls (A A' : Option Addr) (n c n' c' : Nat) (a b : List ByteArray) (w : World) (h : StrsS w A n a) (h' : StrsS w A' n' b) :
    Calls Try.prog 106 #[.slice A n c, .slice A' n' c'] w fun e w' => e = .returned (.int .i64 (cmpL a b)) ∧ Grown w w' := by
  have hn := h.len
  have hn' := h'.len
  have hla := Lib.hid h.1
  have hlb := Lib.hid h'.1
  go_enter Try.func106, Try.ntmps106
  go_wp2_with fail
  go_loopw [11] (fun i wr => ∃ k : Nat, k ≤ n ∧ k ≤ n' ∧ i = .int .i64 k ∧ Hid (Grown w wr) ∧ Hid (cmpL (a.drop k) (b.drop k) = cmpL a b)) (fun i _ => n - (intOf i).toNat)
  case atStart => exact ⟨0, Nat.zero_le _, Nat.zero_le _, rfl, Grown.refl _, by simp [Hid]⟩
  case round =>
    obtain ⟨k, hk, hk', rfl, hb, hR⟩ := hrel
    have hB := Lib.hid hb.out.below
    by_cases hlt : k < n
    · obtain ⟨ad, rfl, hk1, hc⟩ := (h.below mono_strS hB.out).strS hlt
      by_cases hlt' : k < n'
      · obtain ⟨ad', rfl, hk2, hc'⟩ := (h'.below mono_strS hB.out).strS hlt'
        have hR2 := hR.out
        rw [List.drop_eq_getElem_cons hk1, List.drop_eq_getElem_cons hk2, cmpL_cons] at hR2
        have hR2 := Lib.hid hR2
        by_cases hz : cmpB a[k] b[k] = 0
        · have heq : a[k] = b[k] := by
            rcases str_tri a[k] b[k] with q | q | q
            · simp [cmpB, q.d] at hz
            · exact q
            · simp [cmpB, q.d, q.e] at hz
          have hR3 : cmpL (a.drop (k + 1)) (b.drop (k + 1)) = cmpL a b := by
            rw [← hR2.out, heq, ltS_irr]; simp
          have hR3 := Lib.hid hR3
          have hC := fun w' => cmpB_calls a[k] b[k] w'
          rw [hz] at hC
          have hC := Lib.hid hC
          clear hz heq
          go_wp2_with (go_at_call 116; refine (hC.out _).mono ?_; rintro e w' ⟨rfl, m, rfl⟩)
          go_roundw
          case rel => exact ⟨k + 1, by omega, by omega, by go_num, Lib.hid (hb.out.drewN m), hR3⟩
          case measure => simp [intOf]; omega
        · have hR3 : cmpB a[k] b[k] = cmpL a b := by
            rw [← hR2.out]
            rcases str_tri a[k] b[k] with q | q | q
            · simp [cmpB, q.d]
            · exact absurd (by simp [cmpB, q, ltS_irr]) hz
            · simp [cmpB, q.d, q.e]
          have hC := fun w' => cmpB_calls a[k] b[k] w'
          generalize cmpB a[k] b[k] = r at hC hR3 hz
          have hC := Lib.hid hC
          have hR3 := Lib.hid hR3
          have hnz : (r != 0) = true := by simpa using hz
          go_wp2_with (go_at_call 116; refine (hC.out _).mono ?_; rintro e w' ⟨rfl, m, rfl⟩)
          go_ret
          exact ⟨rfl, hb.out.drewN m⟩
      · have hR2 : (1 : Int) = cmpL a b := by
          have h1 := hR.out
          have hbn : b.drop k = [] := List.drop_eq_nil_of_le (by have := hlb.out; omega)
          rw [List.drop_eq_getElem_cons hk1, hbn] at h1
          exact h1
        have hR2 := Lib.hid hR2
        go_wp2_with fail
        go_ret
        exact ⟨ret_int hR2.out, hb.out⟩
    · have hR2 := hR.out
      rw [List.drop_eq_nil_of_le (by have := hla.out; omega)] at hR2
      by_cases hnn : n < n'
      · rw [List.drop_eq_getElem_cons (by have := hlb.out; omega)] at hR2
        have hR2 : (-1 : Int) = cmpL a b := hR2
        have hR2 := Lib.hid hR2
        go_wp2_with fail
        go_ret
        exact ⟨ret_int hR2.out, hb.out⟩
      · rw [List.drop_eq_nil_of_le (by have := hlb.out; omega)] at hR2
        have hR2 : (0 : Int) = cmpL a b := hR2
        have hR2 := Lib.hid hR2
        go_wp2_with fail
        go_ret
        exact ⟨ret_int hR2.out, hb.out⟩
theorem ncompare_calls (A A' : Option Addr) (n c n' c' : Nat) (a b : List ByteArray) (w : World) (h : StrsS w A n a) (h' : StrsS w A' n' b) :
    Calls Try.prog 87 #[.slice A n c, .slice A' n' c'] w fun e w' => e = .returned (.int .i64 (cmpL a b)) ∧ Grown w w' := by
  have hcon := Lib.hid (compare_calls A A' n c n' c' a b w h h')
  go_enter Try.func87, Try.ntmps87
  go_wp2_with (go_at_call 106; refine (hcon.out).mono ?_; rintro e w' ⟨rfl, hg⟩)
  go_ret
  exact ⟨rfl, hg⟩
end Go.Proofs.Ytkppfaennogcmaa
