/- The reference's Between. -/
import Derived.Test.YtibnaangfdohiaaBtw
namespace Go.Proofs.Ytibnaangfdohiaa
open Go.RowKit
set_option maxRecDepth 100000
theorem find_none {l : List Evt} {e : Evt} {b : ByteArray} {i : Nat} (h : ∀ j (hj : j < l.length), i + 1 ≤ j → isB e b l[j] = false) : (l.drop (i + 1)).find? (isB e b) = none := by
  rw [List.find?_eq_none]
  intro x hx
  obtain ⟨j, hj, rfl⟩ := List.getElem_of_mem hx
  have := h (i + 1 + j) (by simp at hj; omega) (by omega)
  simpa using this
theorem find_at {l : List Evt} {e : Evt} {b : ByteArray} {i k : Nat} (hk : k < l.length) (hik : i + 1 ≤ k) (h : ∀ j (hj : j < l.length), i + 1 ≤ j → j < k → isB e b l[j] = false) (hb : isB e b l[k] = true) : (l.drop (i + 1)).find? (isB e b) = some l[k] := by
  rw [List.find?_eq_some_iff_getElem]
  refine ⟨hb, k - (i + 1), by simp; omega, ?_, fun j hj => ?_⟩
  · simp; congr 1; omega
  · have := h (i + 1 + j) (by omega) (by omega) (by omega)
    simpa using this
set_option maxHeartbeats 8000000 in
theorem rbetween_pure (l : List Evt) (a b : ByteArray) (h1 : logV l = true) :
    Pure Try.prog 38 [.agg [.rs (rowsOf evtC l)], .str a, .str b] (ints (betw l a b l.length)) := by
  have hll := log_len h1
  refine pure_of mixed Try.func38 rfl (by kernel_rfl) (of_decide_eq_true rfl) (by kernel_rfl) (vc_run ?_)
  simp -implicitDefEqProofs
  refine loop_intro (σ := Nat) (fun i => ⟨[(1, .str a), (2, .str b), (3, .op 0 0), (7, .os 1 (betw l a b i).length), (8, .int .i64 i)], [.box 65 [.rs (rowsOf evtC l)], .row 3 true (rowsOf intC (betw l a b i))]⟩) (fun i => i ≤ l.length) (fun i => l.length - i) 0 (by omega) ?_ ?_
  · refine weak_of 1 1 rfl rfl ?_ ?_ <;> simp [betw]
  · intro i hi
    have w1 : wrapI .i64 ((i : Int) + 1) = ((i + 1 : Nat) : Int) := by rw [wrap_in (by omega) (by omega)]; omega
    by_cases h : i < l.length
    · have hgo : l[i]? = some l[i] := List.getElem?_eq_getElem h
      have hti := log_time h1 h
      obtain ⟨e, hf⟩ : ∃ e, l[i] = e := ⟨_, rfl⟩
      rw [hf] at hgo hti
      by_cases q1 : e.act.toList = a.toList
      rotate_left
      · have hst : betw l a b (i + 1) = betw l a b i := by rw [betw_succ]; simp [stepB, hgo, eqS, q1]
        simp -implicitDefEqProofs [h, hf, evtC, q1, w1]
        refine ⟨i + 1, by omega, by omega, ?_⟩
        refine weak_of 2 0 rfl rfl ?_ ?_ <;> simp [hst]
      by_cases q2 : e.life = 5
      rotate_left
      · have hst : betw l a b (i + 1) = betw l a b i := by rw [betw_succ]; simp [stepB, hgo, eqS, q1, q2]
        simp -implicitDefEqProofs [h, hf, evtC, q1, q2, w1]
        refine ⟨i + 1, by omega, by omega, ?_⟩
        refine weak_of 2 0 rfl rfl ?_ ?_ <;> simp [hst]
      simp -implicitDefEqProofs [h, hf, evtC, q1, q2, w1]
      have hbl := betw_len l a b i
      have w4 : (betw l a b i).length + 1 ≤ 1073741824 := by omega
      refine loop_intro (σ := Nat) (fun k => ⟨[(1, .str a), (2, .str b), (3, .op 0 0), (7, .os 1 (betw l a b i).length), (8, .int .i64 i), (9, .op 2 0), (10, .int .i64 k)], [.box 65 [.rs (rowsOf evtC l)], .row 3 true (rowsOf intC (betw l a b i)), .box 100 (evtC e)]⟩) (fun k => i + 1 ≤ k ∧ k ≤ l.length ∧ ∀ j (hj : j < l.length), i + 1 ≤ j → j < k → isB e b l[j] = false) (fun k => l.length - k) (i + 1) ⟨by omega, by omega, fun j _ h2 h3 => by omega⟩ ?_ ?_
      · refine weak_of 3 0 rfl rfl ?_ ?_ <;> simp [evtC, q2]
      · rintro k ⟨hk1, hk2, hno⟩
        have w5 : wrapI .i64 ((k : Int) + 1) = ((k + 1 : Nat) : Int) := by rw [wrap_in (by omega) (by omega)]; omega
        by_cases hk : k < l.length
        · have hgk : l[k]? = some l[k] := List.getElem?_eq_getElem hk
          have htk := log_time h1 hk
          obtain ⟨x, hx⟩ : ∃ x, l[k] = x := ⟨_, rfl⟩
          have next : isB e b l[k] = false → i + 1 ≤ k + 1 ∧ k + 1 ≤ l.length ∧ ∀ j (hj : j < l.length), i + 1 ≤ j → j < k + 1 → isB e b l[j] = false := fun hb => ⟨by omega, by omega, fun j hj h2 h3 => by
            by_cases e1 : j = k
            · subst e1; exact hb
            · exact hno j hj h2 (by omega)⟩
          rw [hx] at hgk htk next
          by_cases c1 : x.case_.toList = e.case_.toList
          rotate_left
          · simp -implicitDefEqProofs [hk, hx, evtC, c1, w5]
            refine ⟨k + 1, next (by simp [isB, eqS, c1]), by omega, ?_⟩
            refine weak_of 3 0 rfl rfl ?_ ?_ <;> simp
          by_cases c2 : x.act.toList = b.toList
          rotate_left
          · simp -implicitDefEqProofs [hk, hx, evtC, c1, c2, w5]
            refine ⟨k + 1, next (by simp [isB, eqS, c2]), by omega, ?_⟩
            refine weak_of 3 0 rfl rfl ?_ ?_ <;> simp
          by_cases c3 : x.life = 5
          rotate_left
          · simp -implicitDefEqProofs [hk, hx, evtC, c1, c2, c3, w5]
            refine ⟨k + 1, next (by simp [isB, c3]), by omega, ?_⟩
            refine weak_of 3 0 rfl rfl ?_ ?_ <;> simp
          have hb : isB e b l[k] = true := by rw [hx]; simp [isB, eqS, c1, c2, c3]
          have hfi := find_at hk (by omega) hno hb
          have hst : betw l a b (i + 1) = betw l a b i ++ [x.time - e.time] := by rw [betw_succ]; simp [stepB, hgo, eqS, q1, q2, hfi, hx]
          have w3 : wrapI .i64 (x.time - e.time) = x.time - e.time := wrap_in (by omega) (by omega)
          simp -implicitDefEqProofs [hk, hx, evtC, c1, c2, c3, w1, w3, w4]
          refine ⟨i + 1, by omega, by omega, ?_⟩
          have hrr : rowsOf intC (betw l a b i) ++ [[AV.int .i64 (x.time - e.time)]] = rowsOf intC (betw l a b (i + 1)) := by
            rw [show ([AV.int .i64 (x.time - e.time)] : List AV) = intC (x.time - e.time) from rfl, rowsOf_snoc, hst]
          refine weak_of 2 0 rfl rfl ?_ ?_
          · simp [hst]
          · simp [hrr]
        · have hfi := find_none (l := l) (e := e) (b := b) (i := i) fun j hj h2 => hno j hj h2 (by omega)
          have hst : betw l a b (i + 1) = betw l a b i := by rw [betw_succ]; simp [stepB, hgo, eqS, q1, q2, hfi]
          simp -implicitDefEqProofs [hk, w1]
          refine ⟨i + 1, by omega, by omega, ?_⟩
          refine weak_of 2 0 rfl rfl ?_ ?_ <;> simp [hst]
    · have hil : i = l.length := by omega
      subst hil
      simp -implicitDefEqProofs [h, ints_reify']
end Go.Proofs.Ytibnaangfdohiaa
