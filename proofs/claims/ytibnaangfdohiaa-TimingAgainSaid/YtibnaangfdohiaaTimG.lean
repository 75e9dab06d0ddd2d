/- timing.Make, and the reference's. -/
import Derived.Test.YtibnaangfdohiaaH40e
import Derived.Test.YtibnaangfdohiaaTimM
namespace Go.Proofs.Ytibnaangfdohiaa
open Go.RowKit
set_option maxRecDepth 100000
theorem take_snoc {α : Type} {l : List α} {i : Nat} (h : i < l.length) : l.take (i + 1) = l.take i ++ [l[i]] := List.take_succ_eq_append_getElem h
set_option maxHeartbeats 4000000 in
theorem make_pure {e l : List Int} (he : okI e) (hl : l.length ≤ 40) :
    Pure Try.prog 31 [ints e, ints l] (.tup [.agg [ints (makeH e l).1, ints (makeH e l).2.1], .int .i64 (makeH e l).2.2]) := by
  refine pure_of mixed Try.func31 rfl (by kernel_rfl) (of_decide_eq_true rfl) (by kernel_rfl) (vc_run ?_)
  simp -implicitDefEqProofs
  refine call_intro (proper_pure he) (by simp -implicitDefEqProofs) (.inl rfl) ?_
  by_cases hp : properB e = true
  rotate_left
  · have hp : properB e = false := by simpa using hp
    simp -implicitDefEqProofs [hp, makeH_arg hp]
  have P := properB_iff.1 hp
  have hs := P.sorted
  have h2 := P.1
  have h20 := P.2.1
  have hne : e ≠ [] := by intro h; subst h; simp at h2
  have hl1 : ¬ (1048576 : Int) < l.length := by omega
  have w1 : wrapI .i64 ((e.length : Int) - 1) = (e.length : Int) - 1 := wrap_in (by omega) (by omega)
  have hc0 : (1 : Int) ≤ (e.length : Int) := by omega
  have hc1 : (e.length : Int) - 1 ≤ 1073741824 := by omega
  have hc2 : ((e.length : Int) - 1).toNat = e.length - 1 := by omega
  simp -implicitDefEqProofs [hp, hl1]
  refine fresh_intro (cloneI_fresh e hne (by omega)) (by simp -implicitDefEqProofs) (.inl (rowsOf_flat (by simp [intC, flat]))) ?_
  simp -implicitDefEqProofs [w1, hc0, hc1, hc2]
  refine loop_intro (σ := Nat) (fun i => ⟨[(0, ints e), (4, .op 0 0), (6, .op 3 0), (26, ints l), (27, .int .i64 l.length), (28, .int .i64 i)], [.box 24 [.nils, .nils], .row 3 false (rowsOf intC e), .row 3 false (rowsOf intC (cntI e (l.take i))), .box 24 [.os 1 e.length, .os 2 (e.length - 1)]]⟩)
    (fun i => i ≤ l.length ∧ ∀ j (hj : j < l.length), j < i → inB e l[j]) (fun i => l.length - i) 0 ⟨by omega, fun j hj h => by omega⟩ ?_ ?_
  · refine weak_of 4 0 rfl rfl ?_ ?_
    · simp
    · simp [cntI_nil, show refsR 4 (List.replicate (e.length - 1) [AV.int .i64 0]) = true from by rw [← cntI_nil e]; simp]
  · rintro i ⟨hi, hin⟩
    by_cases h : i < l.length
    · simp -implicitDefEqProofs [h]
      refine call_intro (bsearch_pure (x := l[i]) hs (by omega)) (by simp -implicitDefEqProofs) (.inl rfl) ?_
      have hb := bI_lb (x := l[i]) hs
      have hle := lb_le e l[i]
      have w2 : wrapI .i64 ((lbI e l[i] : Int) - 1) = (lbI e l[i] : Int) - 1 := wrap_in (by omega) (by omega)
      have hcl := cntI_len e (l.take i)
      -- both ways meet again
      have fin : ∀ (b : Int), bI e l[i] = b → -1 ≤ b → b ≤ e.length → (b < 0 ∨ (e.length : Int) - 1 ≤ b) ∨ ∃ n : Nat, b = n ∧ n < e.length - 1 := fun b _ h1 h2 => by
        by_cases q : b < 0 ∨ (e.length : Int) - 1 ≤ b
        · exact .inl q
        · exact .inr ⟨b.toNat, by omega, by omega⟩
      by_cases hf : foundI e l[i] = true
      · rw [if_pos hf] at hb
        rcases fin _ hb (by omega) (by omega) with q | ⟨n, hn, hlt⟩
        · have hnb : ¬ inB e l[i] := fun ⟨q1, q2⟩ => by rw [hb] at q1 q2; omega
          have q1 : ¬ (lbI e l[i] : Int) < 0 := by omega
          have q2 : e.length - 1 ≤ lbI e l[i] := by omega
          simp -implicitDefEqProofs [hf, q1, q2, hcl, makeH_range hp h hnb]
        · have hnn : lbI e l[i] = n := by omega
          have q1 : ¬ (lbI e l[i] : Int) < 0 := by omega
          have q2 : ¬ e.length - 1 ≤ n := by omega
          have hlt' : n < (cntI e (l.take i)).length := by omega
          have hbd := cntI_bd e (l.take i) _ (List.getElem_mem hlt')
          have w3 : wrapI .i64 ((cntI e (l.take i))[n] + 1) = (cntI e (l.take i))[n] + 1 := wrap_in (by omega) (by have := List.length_take_le i l; omega)
          rw [hnn] at hb
          simp -implicitDefEqProofs [hf, hnn, q2, hcl, hlt, w3]
          refine ⟨i + 1, ⟨by omega, fun j hj hji => ?_⟩, by omega, ?_⟩
          · by_cases e1 : j = i
            · subst e1; exact ⟨by rw [hb]; omega, by rw [hb]; omega⟩
            · exact hin j hj (by omega)
          · refine weak_of 4 0 rfl rfl ?_ ?_
            · simp; exact (wrap_in (by omega) (by omega)).symm
            · have hset : (rowsOf intC (cntI e (l.take i))).set n [.int .i64 ((cntI e (l.take i))[n] + 1)] = rowsOf intC (cntI e (l.take (i + 1))) := by
                rw [show ([.int .i64 ((cntI e (l.take i))[n] + 1)] : List AV) = intC ((cntI e (l.take i))[n] + 1) from rfl, rowsOf_set, take_snoc h, cntI_snoc hb hlt']
              rw [hset]
              simp
      · have hf' : foundI e l[i] = false := by simpa using hf
        rw [if_neg hf] at hb
        rcases fin _ hb (by omega) (by omega) with q | ⟨n, hn, hlt⟩
        · have hnb : ¬ inB e l[i] := fun ⟨q1, q2⟩ => by rw [hb] at q1 q2; omega
          by_cases q1 : (lbI e l[i] : Int) - 1 < 0
          · simp -implicitDefEqProofs [hf', w2, q1, makeH_range hp h hnb]
          · have q2 : ((e.length - 1 : Nat) : Int) ≤ (lbI e l[i] : Int) - 1 := by omega
            simp -implicitDefEqProofs [hf', w2, q1, q2, hcl, makeH_range hp h hnb]
        · rw [hn] at hb
          have q2 : ¬ e.length - 1 ≤ n := by omega
          have hlt' : n < (cntI e (l.take i)).length := by omega
          have hbd := cntI_bd e (l.take i) _ (List.getElem_mem hlt')
          have w3 : wrapI .i64 ((cntI e (l.take i))[n] + 1) = (cntI e (l.take i))[n] + 1 := wrap_in (by omega) (by have := List.length_take_le i l; omega)
          have w4 : wrapI .i64 (n : Int) = n := wrap_in (by omega) (by omega)
          simp -implicitDefEqProofs [hf', hn, w4, q2, hcl, hlt, w3]
          refine ⟨i + 1, ⟨by omega, fun j hj hji => ?_⟩, by omega, ?_⟩
          · by_cases e1 : j = i
            · subst e1; exact ⟨by rw [hb]; omega, by rw [hb]; omega⟩
            · exact hin j hj (by omega)
          · refine weak_of 4 0 rfl rfl ?_ ?_
            · simp; exact (wrap_in (by omega) (by omega)).symm
            · have hset : (rowsOf intC (cntI e (l.take i))).set n [.int .i64 ((cntI e (l.take i))[n] + 1)] = rowsOf intC (cntI e (l.take (i + 1))) := by
                rw [show ([.int .i64 ((cntI e (l.take i))[n] + 1)] : List AV) = intC ((cntI e (l.take i))[n] + 1) from rfl, rowsOf_set, take_snoc h, cntI_snoc hb hlt']
              rw [hset]
              simp
    · have hil : i = l.length := by omega
      subst hil
      simp -implicitDefEqProofs [h, cntI_len, ints_reify, makeH_ok hp fun j hj => hin j hj hj]
/-- The reference's bucket. -/
theorem bucket_pure {e : List Int} {x : Int} (hs : sortedI e) (hl : e.length ≤ 25) :
    ∃ r, Pure Try.prog 61 [ints e, .int .i64 x] (.int .i64 r) ∧ ((inB e x ∧ r = bI e x) ∨ (¬ inB e x ∧ r = -1)) := by
  refine ⟨if 0 ≤ bI e x ∧ bI e x < e.length - 1 then bI e x else -1, ?_, ?_⟩
  rotate_left
  · by_cases h : inB e x
    · exact .inl ⟨h, if_pos h⟩
    · exact .inr ⟨h, if_neg h⟩
  refine pure_of mixed Try.func61 rfl (by kernel_rfl) (of_decide_eq_true rfl) (by kernel_rfl) (vc_run ?_)
  simp -implicitDefEqProofs
  refine loop_intro (σ := Nat) (fun i => ⟨[(0, ints e), (1, .int .i64 x), (5, .int .i64 i)], []⟩) (fun i => i ≤ e.length ∧ ∀ j (hj : j + 1 < e.length), j < i → ¬ bI e x = j) (fun i => e.length - i) 0 ⟨by omega, fun j _ h => by omega⟩ ?_ ?_
  · refine weak_of 0 0 rfl rfl ?_ ?_ <;> simp
  · rintro i ⟨hi, hno⟩
    have w1 : wrapI .i64 ((i : Int) + 1) = i + 1 := wrap_in (by omega) (by omega)
    by_cases h : i + 1 < e.length
    · have h' : (i : Int) + 1 < e.length := by omega
      have h0 : i < e.length := by omega
      have t1 : ((i : Int) + 1).toNat = i + 1 := by omega
      have p1 : (0 : Int) ≤ (i : Int) + 1 := by omega
      have hb := bI_iff (x := x) hs h
      by_cases q1 : e[i] ≤ x
      · by_cases q2 : x < e[i + 1]
        · have hbi := hb.2 ⟨q1, q2⟩
          have hin : 0 ≤ bI e x ∧ bI e x < e.length - 1 := by omega
          have hif : (if 0 ≤ bI e x ∧ bI e x < (e.length : Int) - 1 then bI e x else -1) = i := by rw [if_pos hin, hbi]
          simp -implicitDefEqProofs [w1, h', h0, t1, p1, h, q1, q2]
          exact hif.symm
        · simp -implicitDefEqProofs [w1, h', h0, t1, p1, h, q1, q2]
          refine ⟨i + 1, ⟨by omega, fun j hj hji => ?_⟩, by omega, ?_⟩
          · by_cases e1 : j = i
            · subst e1; exact fun k => q2 (hb.1 k).2
            · exact hno j hj (by omega)
          · refine weak_of 0 0 rfl rfl ?_ ?_ <;> simp
      · simp -implicitDefEqProofs [w1, h', h0, t1, p1, h, q1]
        refine ⟨i + 1, ⟨by omega, fun j hj hji => ?_⟩, by omega, ?_⟩
        · by_cases e1 : j = i
          · subst e1; exact fun k => q1 (hb.1 k).1
          · exact hno j hj (by omega)
        · refine weak_of 0 0 rfl rfl ?_ ?_ <;> simp
    · have h' : ¬ (i : Int) + 1 < e.length := by omega
      simp -implicitDefEqProofs [w1, h']
      intro k1 k2
      exact absurd (show bI e x = ((bI e x).toNat : Nat) by omega) (hno (bI e x).toNat (by omega) (by omega))
theorem validH_zero (e : List Int) : validH e (List.replicate (e.length - 1) 0) = properB e := by
  by_cases h : properP e
  · rw [properB_iff.2 h, validH_iff]
    exact ⟨h, by have := h.1; simp; omega, fun x hx => by rw [List.mem_replicate] at hx; omega⟩
  · rw [properB_false h, validH_false fun k => h k.1]
theorem rep_rows (k : Nat) : rowsOf intC (List.replicate k 0) = List.replicate k [.int .i64 0] := by simp [rowsOf, intC]
theorem rep_cnt (e : List Int) : List.replicate (e.length - 1) 0 = cntI e [] := by
  apply List.ext_getElem
  · simp [cntI]
  · intro i h1 h2
    simp [cntI]
theorem rep_ok (k : Nat) (h : k ≤ 25) : okI (List.replicate k 0) := ⟨by simp; omega, fun x hx => by rw [List.mem_replicate] at hx; rw [hx.2]; rfl⟩
set_option maxHeartbeats 4000000 in
theorem rmake_pure {e l : List Int} (he : okI e) (hle : e.length ≤ 25) (hl : l.length ≤ 40) :
    Pure Try.prog 32 [ints e, ints l] (.tup [.agg [ints (makeH e l).1, ints (makeH e l).2.1], .int .i64 (makeH e l).2.2]) := by
  refine pure_of mixed Try.func32 rfl (by kernel_rfl) (of_decide_eq_true rfl) (by kernel_rfl) (vc_run ?_)
  have hel : (e.length : Int) ≤ 1073741824 := by omega
  have hel' : e.length ≤ 1073741824 := by omega
  simp -implicitDefEqProofs [hel, hel']
  refine loop_intro (σ := Nat) (fun k => ⟨[(0, ints e), (1, ints l), (4, .op 0 0), (6, .op 2 0), (7, .int .i64 ((k : Int) + 1))], [.box 24 [.nils, .nils], .row 3 false (rowsOf intC e), .box 24 [.os 1 e.length, .os 3 k], .row 3 true (rowsOf intC (List.replicate k 0))]⟩)
    (fun k => k ≤ e.length - 1) (fun k => e.length - k) 0 (by omega) ?_ ?_
  · refine weak_of 3 1 rfl rfl ?_ ?_ <;> simp
  · intro k hk
    have w1 : wrapI .i64 ((k : Int) + 1 + 1) = (k : Int) + 1 + 1 := wrap_in (by omega) (by omega)
    have w2 : (k : Int) + 1 ≤ 1073741824 := by omega
    have w3 : k + 1 ≤ 1073741824 := by omega
    by_cases h : (k : Int) + 1 < e.length
    · simp -implicitDefEqProofs [h, w1, w2, w3]
      refine ⟨k + 1, by omega, by omega, ?_⟩
      refine weak_of 4 0 rfl rfl ?_ ?_
      · simp
      · have hrr : rowsOf intC (List.replicate k 0) ++ [[AV.int .i64 0]] = rowsOf intC (List.replicate (k + 1) 0) := by
          rw [show ([AV.int .i64 0] : List AV) = intC 0 from rfl, rowsOf_snoc, List.replicate_succ']
        simp [hrr]
    · have hk2 : k = e.length - 1 := by omega
      subst hk2
      simp -implicitDefEqProofs [h]
      refine call_intro (rvalid_pure he (rep_ok (e.length - 1) (by omega))) (by simp -implicitDefEqProofs [ints_reify]) (.inl rfl) ?_
      rw [validH_zero]
      by_cases hp : properB e = true
      rotate_left
      · have hp : properB e = false := by simpa using hp
        simp -implicitDefEqProofs [hp, makeH_arg hp]
      have P := properB_iff.1 hp
      have hs := P.sorted
      have h2 := P.1
      simp -implicitDefEqProofs [hp]
      refine loop_intro (σ := Nat) (fun i => ⟨[(0, ints e), (1, ints l), (4, .op 0 0), (6, .op 2 0), (8, .int .i64 i)], [.box 24 [.nils, .nils], .row 3 false (rowsOf intC e), .box 24 [.os 1 e.length, .os 3 (e.length - 1)], .row 3 true (rowsOf intC (cntI e (l.take i)))]⟩)
        (fun i => i ≤ l.length ∧ ∀ j (hj : j < l.length), j < i → inB e l[j]) (fun i => l.length - i) 0 ⟨by omega, fun j hj h => by omega⟩ ?_ ?_
      · refine weak_of 4 0 rfl rfl ?_ ?_
        · simp
        · simp [rep_cnt]
      · rintro i ⟨hi, hin⟩
        by_cases h : i < l.length
        · obtain ⟨r, hr, hcase⟩ := bucket_pure (x := l[i]) hs hle
          simp -implicitDefEqProofs [h]
          refine call_intro (hr) (by simp -implicitDefEqProofs) (.inl rfl) ?_
          rcases hcase with ⟨hb, hre⟩ | ⟨hb, rfl⟩
          · obtain ⟨n, hn⟩ : ∃ n : Nat, r = n := ⟨r.toNat, by have := hb.1; omega⟩
            subst hn
            have hlt : n < e.length - 1 := by have := hb.2; omega
            have hcl := cntI_len e (l.take i)
            have hlt' : n < (cntI e (l.take i)).length := by omega
            have hbd := cntI_bd e (l.take i) _ (List.getElem_mem hlt')
            have w5 : wrapI .i64 ((cntI e (l.take i))[n] + 1) = (cntI e (l.take i))[n] + 1 := wrap_in (by omega) (by have := List.length_take_le i l; omega)
            simp -implicitDefEqProofs [hcl, hlt, w5]
            refine ⟨i + 1, ⟨by omega, fun j hj hji => ?_⟩, by omega, ?_⟩
            · by_cases e1 : j = i
              · subst e1; exact hb
              · exact hin j hj (by omega)
            · refine weak_of 4 0 rfl rfl ?_ ?_
              · simp; exact (wrap_in (by omega) (by omega)).symm
              · have hset : (rowsOf intC (cntI e (l.take i))).set n [.int .i64 ((cntI e (l.take i))[n] + 1)] = rowsOf intC (cntI e (l.take (i + 1))) := by
                  rw [show ([.int .i64 ((cntI e (l.take i))[n] + 1)] : List AV) = intC ((cntI e (l.take i))[n] + 1) from rfl, rowsOf_set, take_snoc h, cntI_snoc hre.symm hlt']
                rw [hset]
                simp
          · simp -implicitDefEqProofs [makeH_range hp h hb]
        · have hil : i = l.length := by omega
          subst hil
          simp -implicitDefEqProofs [h, cntI_len, ints_reify, makeH_ok hp fun j hj => hin j hj hj]
end Go.Proofs.Ytibnaangfdohiaa
