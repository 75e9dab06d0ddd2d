/- The walks through timing.Valid, timing.total, and the reference's Valid and Total. -/
import Derived.Test.YtibnaangfdohiaaSlInt
import Derived.Test.YtibnaangfdohiaaH40
namespace Go.Proofs.Ytibnaangfdohiaa
open Go.RowKit

theorem properP_step {e : List Int} {k : Nat} (h : Hid (∀ j (hj : j < e.length), j < k → 0 ≤ e[j] ∧ e[j] ≤ 1073741824 ∧ ∀ (h0 : 0 < j), e[j - 1] < e[j])) (hk : k < e.length) (h1 : 0 ≤ e[k]) (h2 : e[k] ≤ 1073741824) (h3 : ∀ (h0 : 0 < k), e[k - 1] < e[k]) :
    Hid (∀ j (hj : j < e.length), j < k + 1 → 0 ≤ e[j] ∧ e[j] ≤ 1073741824 ∧ ∀ (h0 : 0 < j), e[j - 1] < e[j]) := by
  intro j hj hjk
  rcases (show j < k ∨ j = k by omega) with h4 | rfl
  · exact h.out j hj h4
  · exact ⟨h1, h2, h3⟩
theorem properP_of {e : List Int} {k : Nat} (h : Hid (∀ j (hj : j < e.length), j < k → 0 ≤ e[j] ∧ e[j] ≤ 1073741824 ∧ ∀ (h0 : 0 < j), e[j - 1] < e[j])) (hk : e.length ≤ k) (h1 : 2 ≤ e.length) (h2 : e.length ≤ 20) : properP e :=
  ⟨h1, h2, fun i hi => ⟨(h.out i hi (by omega)).1, (h.out i hi (by omega)).2.1⟩, fun i hi => (h.out (i + 1) hi (by omega)).2.2 (by omega)⟩
theorem properP_not {e : List Int} {k : Nat} (hk : k < e.length) (h : ¬ (0 ≤ e[k] ∧ e[k] ≤ 1073741824) ∨ ∃ (h0 : 0 < k), e[k] ≤ e[k - 1]) : ¬ properP e := by
  intro hp
  rcases h with h | ⟨h0, h⟩
  · exact h (hp.2.2.1 k hk)
  · have := hp.2.2.2 (k - 1) (by omega)
    have e1 : k - 1 + 1 = k := by omega
    simp only [e1] at this
    omega

set_option maxRecDepth 100000 in
set_option maxHeartbeats 1000000 in
theorem proper_any (A : Option Addr) (n c : Nat) (l : List Int) (w : World) (h : Ints w A n l) :
    Calls Try.prog 58 #[.slice A n c] w fun e w' => e = .returned (.bool (properB l)) ∧ Below w.heap.size w w' := by
  have hn := h.len
  by_cases h2 : 2 ≤ n ∧ n ≤ 20
  · obtain ⟨h2, h3⟩ := h2
    have HL := Lib.hid h.1
    go_enter Try.func58, Try.ntmps58
    go_wp2
    go_loop [15] (fun i => ∃ k : Nat, k ≤ n ∧ i = .int .i64 k ∧ Hid (∀ j (hj : j < l.length), j < k → 0 ≤ l[j] ∧ l[j] ≤ 1073741824 ∧ ∀ (h0 : 0 < j), l[j - 1] < l[j])) (fun i => n - (intOf i).toNat)
    case atStart => exact ⟨0, Nat.zero_le _, rfl, fun j _ hj => absurd hj (by omega)⟩
    case round =>
      obtain ⟨k, hk, rfl, hall⟩ := hrel
      by_cases hlt : k < n
      · obtain ⟨ad, rfl, hk1, hc⟩ := h.int hlt
        by_cases h0 : 0 < k
        · obtain ⟨ad', he, hk2, hc'⟩ := h.int (k := k - 1) (by omega)
          obtain rfl : ad = ad' := by injection he
          clear he
          by_cases a1 : l[k] < 0
          · have HN := Lib.hid (properB_false (properP_not hk1 (.inl (by omega))))
            go_wp2; go_ret; exact ⟨ret_bool HN.out.symm, Below.refl _ _⟩
          by_cases a2 : 1073741824 < l[k]
          · have HN := Lib.hid (properB_false (properP_not hk1 (.inl (by omega))))
            go_wp2; go_ret; exact ⟨ret_bool HN.out.symm, Below.refl _ _⟩
          by_cases a3 : l[k] ≤ l[k - 1]
          · have HN := Lib.hid (properB_false (properP_not hk1 (.inr ⟨h0, a3⟩)))
            go_wp2; go_ret; exact ⟨ret_bool HN.out.symm, Below.refl _ _⟩
          have HT := Lib.hid (properP_step hall hk1 (by omega) (by omega) (fun _ => by omega))
          go_wp2
          go_round
          case rel => exact ⟨k + 1, by omega, by go_num, HT⟩
          case measure => simp [intOf]; omega
        · by_cases a1 : l[k] < 0
          · have HN := Lib.hid (properB_false (properP_not hk1 (.inl (by omega))))
            go_wp2; go_ret; exact ⟨ret_bool HN.out.symm, Below.refl _ _⟩
          by_cases a2 : 1073741824 < l[k]
          · have HN := Lib.hid (properB_false (properP_not hk1 (.inl (by omega))))
            go_wp2; go_ret; exact ⟨ret_bool HN.out.symm, Below.refl _ _⟩
          have HT := Lib.hid (properP_step hall hk1 (by omega) (by omega) (fun _ => by omega))
          go_wp2
          go_round
          case rel => exact ⟨k + 1, by omega, by go_num, HT⟩
          case measure => simp [intOf]; omega
      · go_wp2
        go_ret
        exact ⟨ret_bool (properB_iff.2 (properP_of hall (by rw [HL.out]; omega) (by rw [HL.out]; omega) (by rw [HL.out]; omega))).symm, Below.refl _ _⟩
  · have HN := Lib.hid (properB_false (fun hp => h2 ⟨by have := hp.1; rw [h.1] at this; exact this, by have := hp.2.1; rw [h.1] at this; exact this⟩ : ¬ properP l))
    by_cases h3 : 2 ≤ n
    all_goals
      go_enter Try.func58, Try.ntmps58
      go_wp2
      go_ret
      exact ⟨ret_bool HN.out.symm, Below.refl _ _⟩

theorem vpred (w : World) : PredI Try.prog 59 #[] entryB w := by
  intro W x hb hx
  by_cases h1 : x < 0
  all_goals
    go_enter Try.func59, Try.ntmps59
    go_wp2
    go_ret
    exact ⟨ret_bool (by rw [Bool.eq_iff_iff]; simp [entryB]; omega), Below.refl _ _⟩

theorem validH_and {e c : List Int} : validH e c = (properB e && (decide (c.length + 1 = e.length) && !c.any entryB)) := by
  rw [Bool.eq_iff_iff, validH_iff]
  simp only [Bool.and_eq_true, properB_iff, decide_eq_true_eq, Bool.not_eq_true', List.any_eq_false, entryB, validHP, Bool.or_eq_true, not_or, Int.not_lt]

set_option maxRecDepth 100000 in
set_option maxHeartbeats 1000000 in
theorem tvalid_any (A A' : Option Addr) (n k n' k' : Nat) (e c : List Int) (w : World) (h : Ints w A n e) (h' : Ints w A' n' c) :
    Calls Try.prog 30 #[.agg #[.slice A n k, .slice A' n' k']] w fun r w' => r = .returned (.bool (validH e c)) ∧ Below w.heap.size w w' := by
  have hn := h.len
  have hn' := h'.len
  have hb := Lib.hid (fun o => h.below mono_int ((Below.refl w.heap.size w).alloc (Nat.le_refl _) o))
  have eg := enters_of Try.func59 (by kernel_rfl) rfl
  have hc := Lib.hid (fun (w1 : World) (hb : Below w.heap.size w w1) => containsFunc_int 59 #[] entryB A' n' k' c w1 (h'.below mono_int hb) eg (vpred w1))
  have hv := Lib.hid (validH_and (e := e) (c := c))
  have hl := h.1
  have hl' := h'.1
  clear eg
  by_cases hp : properB e = true
  · have hp2 := (properB_iff.1 hp).1
    by_cases hlen : n' + 1 = n
    · have h1 : ((n' : Int) == (n : Int) - 1) = true := by simp; omega
      have hd : decide (c.length + 1 = e.length) = true := by simp; omega
      have hv2 : validH e c = !c.any entryB := by rw [hv.out, hp, hd]; simp
      have HV := Lib.hid hv2
      have hn2 : 1 ≤ n := by omega
      clear hv hv2 hlen hd hl hl' hp2
      go_enter Try.func30, Try.ntmps30
      go_wp2_with fail
      refine (proper_any A n k e _ (hb.out _)).mono ?_
      rintro e w1 ⟨rfl, hb1⟩
      have hz1 := hb1.size
      try simp at hz1
      obtain ⟨hc1_w, hf1_w⟩ := bcellm (M := w.heap.size + 1) hb1 (by first | omega | (simp; done) | (simp; omega))
      have hl1_w0 : w.heap.size < w1.heap.size := by omega
      rw [hp]
      go_wp2_with fail
      refine (hc.out _ (by repeat (first | exact Below.refl _ _ | assumption | refine Below.drew ?_ | refine bdrewN ?_ _ | refine Below.alloc ?_ (by first | omega | (simp; done) | (simp; omega) | exact Below.size (by assumption)) _ | refine Below.setCell ?_ (by first | omega | (simp; done) | (simp; omega)) _ | refine bstep ?_ (by assumption)))).mono ?_
      rintro e w2 ⟨rfl, hb2⟩
      have hz2 := hb2.size
      try simp at hz2
      obtain ⟨hc2_w, hf2_w⟩ := bcellm (M := w.heap.size + 1) hb2 (by first | omega | (simp; done) | (simp; omega))
      have hl2_w0 : w.heap.size < w2.heap.size := by omega
      go_wp2_with fail
      go_ret
      exact ⟨ret_bool HV.out.symm, (by repeat (first | exact Below.refl _ _ | assumption | refine Below.drew ?_ | refine bdrewN ?_ _ | refine Below.alloc ?_ (by first | omega | (simp; done) | (simp; omega) | exact Below.size (by assumption)) _ | refine Below.setCell ?_ (by first | omega | (simp; done) | (simp; omega)) _ | refine bstep ?_ (by assumption)))⟩
    · have h1 : ((n' : Int) == (n : Int) - 1) = false := by simp; omega
      have hd : decide (c.length + 1 = e.length) = false := by simp; omega
      have hv2 : validH e c = false := by rw [hv.out, hp, hd]; simp
      have HV := Lib.hid hv2
      have hn2 : 1 ≤ n := by omega
      clear hv hv2 hlen hd hl hl' hp2
      skip
      go_enter Try.func30, Try.ntmps30
      go_wp2_with fail
      refine (proper_any A n k e _ (hb.out _)).mono ?_
      rintro e w1 ⟨rfl, hb1⟩
      have hz1 := hb1.size
      try simp at hz1
      obtain ⟨hc1_w, hf1_w⟩ := bcellm (M := w.heap.size + 1) hb1 (by first | omega | (simp; done) | (simp; omega))
      have hl1_w0 : w.heap.size < w1.heap.size := by omega
      rw [hp]
      go_wp2_with fail
      go_ret
      exact ⟨ret_bool HV.out.symm, (by repeat (first | exact Below.refl _ _ | assumption | refine Below.drew ?_ | refine bdrewN ?_ _ | refine Below.alloc ?_ (by first | omega | (simp; done) | (simp; omega) | exact Below.size (by assumption)) _ | refine Below.setCell ?_ (by first | omega | (simp; done) | (simp; omega)) _ | refine bstep ?_ (by assumption)))⟩
  · have hp : properB e = false := by simpa using hp
    have hv2 : validH e c = false := by rw [hv.out, hp]; simp
    have HV := Lib.hid hv2
    clear hv hv2 hl hl'
    skip
    go_enter Try.func30, Try.ntmps30
    go_wp2_with fail
    refine (proper_any A n k e _ (hb.out _)).mono ?_
    rintro e w1 ⟨rfl, hb1⟩
    have hz1 := hb1.size
    try simp at hz1
    obtain ⟨hc1_w, hf1_w⟩ := bcellm (M := w.heap.size + 1) hb1 (by first | omega | (simp; done) | (simp; omega))
    have hl1_w0 : w.heap.size < w1.heap.size := by omega
    rw [hp]
    go_wp2_with fail
    go_ret
    exact ⟨ret_bool HV.out.symm, (by repeat (first | exact Below.refl _ _ | assumption | refine Below.drew ?_ | refine bdrewN ?_ _ | refine Below.alloc ?_ (by first | omega | (simp; done) | (simp; omega) | exact Below.size (by assumption)) _ | refine Below.setCell ?_ (by first | omega | (simp; done) | (simp; omega)) _ | refine bstep ?_ (by assumption)))⟩

set_option maxRecDepth 100000 in
set_option maxHeartbeats 1000000 in
theorem total_any (A A' : Option Addr) (n k n' k' : Nat) (c : List Int) (w : World) (h' : Ints w A' n' c) (hs : smallC c) :
    Calls Try.prog 50 #[.agg #[.slice A n k, .slice A' n' k']] w fun r w' => r = .returned (.int .i64 (tot c)) ∧ Below w.heap.size w w' := by
  have hn' := h'.len
  have hl := Lib.hid h'.1
  have hb := Lib.hid (fun o => h'.below mono_int ((Below.refl w.heap.size w).alloc (Nat.le_refl _) o))
  have HS := Lib.hid hs
  go_enter Try.func50, Try.ntmps50
  go_wp2
  go_loop [3, 9] (fun t i => ∃ j : Nat, j ≤ n' ∧ i = .int .i64 j ∧ t = .int .i64 (pre c j)) (fun _ i => n' - (intOf i).toNat)
  case atStart => exact ⟨0, Nat.zero_le _, rfl, by rw [pre_zero]⟩
  case round =>
    obtain ⟨j, hj, rfl, rfl⟩ := hrel
    by_cases hlt : j < n'
    · obtain ⟨ad, rfl, hk1, hc⟩ := (hb.out (.cells #[.slice A n k, .slice A' n' k'] 24)).int hlt
      have hp := pre_bd HS.out j (by omega)
      have h1 := HS.out.at_ hk1
      have hc25 := HS.out.1
      have b1 : 0 ≤ pre c j + c[j] ∧ pre c j + c[j] ≤ 9223372036854775807 := by omega
      have HP := Lib.hid (pre_succ hk1)
      clear hp h1
      go_wp2
      go_round
      case rel => exact ⟨j + 1, by omega, by go_num, by rw [HP.out]⟩
      case measure => simp [intOf]; omega
    · go_wp2
      go_ret
      exact ⟨ret_int (pre_all (by rw [hl.out]; omega)), (by repeat (first | exact Below.refl _ _ | assumption | refine Below.drew ?_ | refine bdrewN ?_ _ | refine Below.alloc ?_ (by first | omega | (simp; done) | (simp; omega) | exact Below.size (by assumption)) _ | refine Below.setCell ?_ (by first | omega | (simp; done) | (simp; omega)) _ | refine bstep ?_ (by assumption)))⟩

set_option maxRecDepth 100000 in
set_option maxHeartbeats 1000000 in
theorem rtotal_any (A A' : Option Addr) (n k n' k' : Nat) (c : List Int) (w : World) (h' : Ints w A' n' c) (hs : smallC c) :
    Calls Try.prog 18 #[.agg #[.slice A n k, .slice A' n' k']] w fun r w' => r = .returned (.int .i64 (tot c)) ∧ Below w.heap.size w w' := by
  have hn' := h'.len
  have hl := Lib.hid h'.1
  have hb := Lib.hid (fun o => h'.below mono_int ((Below.refl w.heap.size w).alloc (Nat.le_refl _) o))
  have HS := Lib.hid hs
  go_enter Try.func18, Try.ntmps18
  go_wp2
  go_loop [3, 4] (fun t i => ∃ j : Nat, j ≤ n' ∧ i = .int .i64 j ∧ t = .int .i64 (pre c j)) (fun _ i => n' - (intOf i).toNat)
  case atStart => exact ⟨0, Nat.zero_le _, rfl, by rw [pre_zero]⟩
  case round =>
    obtain ⟨j, hj, rfl, rfl⟩ := hrel
    by_cases hlt : j < n'
    · obtain ⟨ad, rfl, hk1, hc⟩ := (hb.out (.cells #[.slice A n k, .slice A' n' k'] 24)).int hlt
      have hp := pre_bd HS.out j (by omega)
      have h1 := HS.out.at_ hk1
      have hc25 := HS.out.1
      have b1 : 0 ≤ pre c j + c[j] ∧ pre c j + c[j] ≤ 9223372036854775807 := by omega
      have HP := Lib.hid (pre_succ hk1)
      clear hp h1
      go_wp2
      go_round
      case rel => exact ⟨j + 1, by omega, by go_num, by rw [HP.out]⟩
      case measure => simp [intOf]; omega
    · go_wp2
      go_ret
      exact ⟨ret_int (pre_all (by rw [hl.out]; omega)), (by repeat (first | exact Below.refl _ _ | assumption | refine Below.drew ?_ | refine bdrewN ?_ _ | refine Below.alloc ?_ (by first | omega | (simp; done) | (simp; omega) | exact Below.size (by assumption)) _ | refine Below.setCell ?_ (by first | omega | (simp; done) | (simp; omega)) _ | refine bstep ?_ (by assumption)))⟩

end Go.Proofs.Ytibnaangfdohiaa
