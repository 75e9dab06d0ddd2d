/- The walks through slices.IndexFunc and slices.ContainsFunc over []int, and slices.Equal over []int: what each returns. -/
import Derived.Test.YtibnaangfdohiaaProg
import Derived.Test.YtibnaangfdohiaaLib
import Derived.WalkSpells
import Derived.WalkLawsBesides
import Derived.Deep.QuietTactic
import Derived.BigQuiet
import Derived.Outline
import Derived.Shelf.Abstract
namespace Go.Proofs.Ytibnaangfdohiaa
open Go.RowKit

set_option maxRecDepth 100000 in
set_option maxHeartbeats 1000000 in
theorem indexFunc_int (g : FuncId) (lb : Array Value) (p : Int → Bool) (A : Option Addr) (n c : Nat) (l : List Int) (w : World) (h : Ints w A n l) (eg : ∀ (args : Array Value) (w : World), (callFunc g args).run Try.prog w = .ok (.enter g args) w) (hp : PredI Try.prog g lb p w) :
    Calls Try.prog 72 #[.slice A n c, .func (.func g) #[] lb] w fun e w' => e = .returned (.int .i64 (idxOf p l)) ∧ Below w.heap.size w w' := by
  have hn := h.len
  go_enter Try.func72, Try.ntmps72
  go_wp2_with fail
  go_loopw [8] (fun i wr => ∃ k : Nat, k ≤ n ∧ i = .int .i64 k ∧ Below w.heap.size w wr ∧ Hid (∀ x ∈ l.take k, p x = false)) (fun i _ => n - (intOf i).toNat)
  case atStart => exact ⟨0, Nat.zero_le _, rfl, Below.refl _ _, by simp [Hid]⟩
  case round =>
    obtain ⟨k, hk, rfl, hb, hall⟩ := hrel
    by_cases hlt : k < n
    · obtain ⟨ad, rfl, hk1, hc⟩ := (h.below mono_int hb).int hlt
      go_wp2_with fail
      refine (hp _ _ hb (h.wf hk1)).mono ?_
      rintro e w1 ⟨rfl, hb1⟩
      by_cases hpk : p l[k] = true
      · go_wp2_with fail
        go_ret
        exact ⟨ret_int (idxOf_some _ _ k hk1 hall hpk).symm, hb.trans (hb1.mono hb.size)⟩
      · have hpk : p l[k] = false := by simpa using hpk
        have HT := Lib.hid (take_ext (Q := fun x => p x = false) hall hk1 hpk)
        go_wp2_with fail
        go_roundw
        case rel => exact ⟨k + 1, by omega, by go_num, hb.trans (hb1.mono hb.size), HT⟩
        case measure => simp [intOf]; omega
    · go_wp2_with fail
      go_ret
      have hl := h.1
      exact ⟨ret_int (idxOf_none _ _ (by rw [List.take_of_length_le (by omega)] at hall; exact hall)).symm, hb⟩

set_option maxHeartbeats 1000000 in
theorem containsFunc_int (g : FuncId) (lb : Array Value) (p : Int → Bool) (A : Option Addr) (n c : Nat) (l : List Int) (w : World) (h : Ints w A n l) (eg : ∀ (args : Array Value) (w : World), (callFunc g args).run Try.prog w = .ok (.enter g args) w) (hp : PredI Try.prog g lb p w) :
    Calls Try.prog 39 #[.slice A n c, .func (.func g) #[] lb] w fun e w' => e = .returned (.bool (l.any p)) ∧ Below w.heap.size w w' := by
  have HC := Lib.hid (indexFunc_int g lb p A n c l w h eg hp)
  clear eg
  go_enter Try.func39, Try.ntmps39
  go_wp2_with fail
  refine (HC.out).mono ?_
  rintro e w1 ⟨rfl, hb1⟩
  have hz1 := hb1.size
  try simp at hz1
  go_wp2_with fail
  go_ret
  exact ⟨ret_bool (ge_idxOf p l), (by repeat (first | exact Below.refl _ _ | assumption | refine Below.drew ?_ | refine bdrewN ?_ _ | refine Below.alloc ?_ (by first | omega | (simp; done) | (simp; omega) | exact Below.size (by assumption)) _ | refine Below.setCell ?_ (by first | omega | (simp; done) | (simp; omega)) _ | refine bstep ?_ (by assumption)))⟩

theorem eq_prefix_none {k : Nat} {l l' : List Int} (h : ∀ j (h : j < l.length) (h' : j < l'.length), j < k → l[j] = l'[j]) (e : l.length = l'.length) (hk : l.length ≤ k) : l = l' :=
  List.ext_getElem e fun i h1 h2 => h i h1 h2 (by omega)

set_option maxRecDepth 100000 in
set_option maxHeartbeats 1000000 in
theorem equal_int (A A' : Option Addr) (n c n' c' : Nat) (l l' : List Int) (w : World) (h : Ints w A n l) (h' : Ints w A' n' l') :
    Calls Try.prog 37 #[.slice A n c, .slice A' n' c'] w fun e w' => e = .returned (.bool (decide (l = l'))) ∧ Below w.heap.size w w' := by
  have hn := h.len
  have hn' := h'.len
  have hl := Lib.hid h.1
  have hl' := Lib.hid h'.1
  by_cases hne : n = n'
  · subst hne
    skip
    go_enter Try.func37, Try.ntmps37
    go_wp2_with fail
    go_loopw [13] (fun i wr => ∃ k : Nat, k ≤ n ∧ i = .int .i64 k ∧ Below w.heap.size w wr ∧ Hid (∀ j (h : j < l.length) (h' : j < l'.length), j < k → l[j] = l'[j])) (fun i _ => n - (intOf i).toNat)
    case atStart => exact ⟨0, Nat.zero_le _, rfl, Below.refl _ _, fun j _ _ hj => absurd hj (by omega)⟩
    case round =>
      obtain ⟨k, hk, rfl, hb, hall⟩ := hrel
      by_cases hlt : k < n
      · obtain ⟨ad, rfl, hk1, hc⟩ := (h.below mono_int hb).int hlt
        obtain ⟨ad', rfl, hk1', hc'⟩ := (h'.below mono_int hb).int hlt
        by_cases he : l[k] = l'[k]
        · have HT : Hid (∀ j (h : j < l.length) (h' : j < l'.length), j < k + 1 → l[j] = l'[j]) := fun j h1 h2 hj => by
            rcases (show j < k ∨ j = k by omega) with h3 | rfl
            · exact hall.out j h1 h2 h3
            · exact he
          have he' : (l[k] != l'[k]) = false := by simp [he]
          clear he
          go_wp2
          go_quiet (fail)
          go_wp2
          go_roundw
          case rel => exact ⟨k + 1, by omega, by go_num, bdrewN hb _, HT⟩
          case measure => simp [intOf]; omega
        · have he' : (l[k] != l'[k]) = true := by simp [he]
          have hne : (decide (l = l')) = false := by
            simp; rintro rfl; exact he rfl
          have HN := Lib.hid hne
          clear he hne
          go_wp2
          go_quiet (fail)
          go_wp2
          go_ret
          exact ⟨ret_bool HN.out.symm, bdrewN hb _⟩
      · go_wp2
        go_ret
        have : l = l' := eq_prefix_none hall.out (by rw [hl.out, hl'.out]) (by rw [hl.out]; omega)
        exact ⟨ret_bool (by simp [this]), hb⟩
  · have h1 : ((n : Int) != (n' : Int)) = true := by simp; omega
    have hne : (decide (l = l')) = false := by
      simp; rintro rfl; exact hne (hl.out.symm.trans hl'.out)
    have HN := Lib.hid hne
    clear hne
    skip
    go_enter Try.func37, Try.ntmps37
    go_wp2_with fail
    go_ret
    exact ⟨ret_bool HN.out.symm, Below.refl _ _⟩
end Go.Proofs.Ytibnaangfdohiaa
