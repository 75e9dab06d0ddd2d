/- The first event of each event's component. -/
import Derived.Test.YtdkcmfafganhhaaDoorObj14
import Derived.Test.YtdkcmfafganhhaaDoorGr2
namespace Go.Proofs.YtdkcmfafganhhaaDoor
set_option linter.unusedSimpArgs false
set_option linter.unusedVariables false
set_option linter.unnecessarySimpa false
set_option linter.unusedSectionVars false
open Go.RowKit
variable [Glob]
set_option maxRecDepth 100000
/-- Two events with an object in common. -/
def shareR (l : List Obj) (i j : Nat) : Prop := ∃ a b, l[i]? = some a ∧ l[j]? = some b ∧ ∃ r, r ∈ a.refs ∧ r ∈ b.refs
theorem shareR_symm (l : List Obj) : ∀ i j, shareR l i j → shareR l j i := fun i j ⟨a, b, h1, h2, r, h3, h4⟩ => ⟨b, a, h2, h1, r, h4, h3⟩
/-- The occurrences in the first i events, and in the first k references of the one behind them. -/
def occ (l : List Obj) (i k : Nat) (j : Nat) (r : Rf) : Prop := ∃ a, l[j]? = some a ∧ ((j < i ∧ r ∈ a.refs) ∨ (j = i ∧ r ∈ a.refs.take k))
theorem occ_zero (l : List Obj) : ∀ j r, ¬ occ l 0 0 j r := fun j r ⟨a, h, q⟩ => by simp at q
theorem occ_succ {l : List Obj} {i k : Nat} (h : i < l.length) (hk : k < l[i].refs.length) (j : Nat) (r : Rf) : (occ l i k j r ∨ (j = i ∧ r = l[i].refs[k])) ↔ occ l i (k + 1) j r := by
  unfold occ
  constructor
  · rintro (⟨a, h1, q⟩ | ⟨rfl, rfl⟩)
    · refine ⟨a, h1, q.imp id fun ⟨e, q⟩ => ⟨e, ?_⟩⟩
      rw [List.take_add_one]; exact List.mem_append_left _ q
    · refine ⟨l[j], List.getElem?_eq_getElem h, .inr ⟨rfl, ?_⟩⟩
      rw [List.take_add_one, List.getElem?_eq_getElem hk]; exact List.mem_append_right _ (List.mem_singleton.2 rfl)
  · rintro ⟨a, h1, q | ⟨rfl, q⟩⟩
    · exact .inl ⟨a, h1, .inl q⟩
    · rw [List.getElem?_eq_getElem h] at h1
      cases h1
      rw [List.take_add_one] at q
      rcases List.mem_append.1 q with q | q
      · exact .inl ⟨_, List.getElem?_eq_getElem h, .inr ⟨rfl, q⟩⟩
      · right
        simpa [hk] using q
theorem occ_next {l : List Obj} {i : Nat} (h : i < l.length) (j : Nat) (r : Rf) : occ l i l[i].refs.length j r ↔ occ l (i + 1) 0 j r := by
  unfold occ
  constructor
  · rintro ⟨a, h1, ⟨q1, q2⟩ | ⟨rfl, q⟩⟩
    · exact ⟨a, h1, .inl ⟨by omega, q2⟩⟩
    · rw [List.getElem?_eq_getElem h] at h1
      cases h1
      rw [List.take_length] at q
      exact ⟨_, List.getElem?_eq_getElem h, .inl ⟨by omega, q⟩⟩
  · rintro ⟨a, h1, ⟨q1, q2⟩ | ⟨rfl, q⟩⟩
    · by_cases e : j = i
      · subst e
        rw [List.getElem?_eq_getElem h] at h1
        cases h1
        exact ⟨_, List.getElem?_eq_getElem h, .inr ⟨rfl, by rw [List.take_length]; exact q2⟩⟩
      · exact ⟨a, h1, .inl ⟨by omega, q2⟩⟩
    · simp at q
theorem occ_lt {l : List Obj} {i k j : Nat} {r : Rf} (h : i < l.length) (hk : k ≤ l[i].refs.length) (hr : r ∈ l[i].refs) (ho : occ l i k j r) : shareR l j i := by
  obtain ⟨a, h1, q⟩ := ho
  refine ⟨a, l[i], h1, List.getElem?_eq_getElem h, r, ?_, hr⟩
  rcases q with q | ⟨rfl, q⟩
  · exact q.2
  · exact List.mem_of_mem_take q
theorem mf_rfN (a b : ByteArray) (es : List (Rf × Nat)) : mfind (true, [2, 2]) (.agg [.str a, .str b]) (mE rfK nV es) 0 = some ((afind ⟨a, b⟩ es 0).map fun e => (e.1, nV e.2)) := by
  refine mfind_E (kc := rfK) (vc := nV) (ks := (true, [2, 2])) (fun x y => ?_) ⟨a, b⟩ es 0
  obtain ⟨x1, x2⟩ := x
  obtain ⟨y1, y2⟩ := y
  simp only [rfK, refC, keq, eqCs, Option.some.injEq]
  rw [← eqR_dec, Bool.eq_iff_iff, eqR]
  simp only [Bool.and_eq_true, beq_iff_eq, and_true]
  exact ⟨fun h => ⟨h.1.symm, h.2.symm⟩, fun h => ⟨h.1.symm, h.2.symm⟩⟩
theorem mp_noneN {a b : ByteArray} {i : Nat} {es : List (Rf × Nat)} (h : afind ⟨a, b⟩ es 0 = none) : mE rfK nV es ++ [(.agg [.str a, .str b], .int .i64 i)] = mE rfK nV (aput es ⟨a, b⟩ i) := by
  simp [aput, h, mE, rfK, refC, nV]
theorem rfN_refs {m : Nat} {es : List (Rf × Nat)} : refsM m (mE rfK nV es) = true := mE_refs (fun x => by simp [rfK, refC]) fun x => by simp [nV]
theorem natC_reify {H : List Blk} {n : Nat} {l : List Nat} : (rowsOf natC l).mapM (fun row => row.mapM (reify H (n + 1))) = some (rowsOf natC l) := rowsOf_reify fun x => by simp [natC, reify]
theorem zeros (n : Nat) : List.replicate n [AV.int .i64 0] = rowsOf natC (List.replicate n 0) := by simp [rowsOf, natC]
set_option maxHeartbeats 8000000 in
theorem oparts_pure (l : List Obj) (hV : objV l = true) : ∃ p : List Nat, isParts (shareR l) l.length p ∧ Pure Tryd.prog 27 [.agg [.rs (rowsOf objC l)]] (.rs (rowsOf natC p)) := by
  have hsm := objV_small hV
  have hln := hsm.1
  refine ⟨partsC (shareR l) l.length, partsC_is (shareR_symm l) l.length, ?_⟩
  refine pure_of mixed Tryd.func27 rfl (by kernel_rfl) (of_decide_eq_true rfl) (by kernel_rfl) (vc_run ?_)
  have hln2 : (l.length : Int) ≤ 1073741824 := by omega
  ((try simp -implicitDefEqProofs [-loopQ_n, zeros, hln2]) <;> (repeat' (first | (refine condD_dec ?_ ?_ <;> (intro hc; (try simp -implicitDefEqProofs [-loopQ_n, hc, zeros, hln2]))) | (refine guardD_dec ?_ ?_ <;> (intro hc; (try simp -implicitDefEqProofs [-loopQ_n, hc, zeros, hln2]))) | (refine condD_intro ?_ ?_ <;> (intro hd; have hc := hd; (try simp at hc) <;> (try simp -implicitDefEqProofs [-loopQ_n, hd, hc, zeros, hln2]))) | (refine guardD_intro ?_ ?_ <;> (intro hd; have hc := hd; (try simp at hc) <;> (try simp -implicitDefEqProofs [-loopQ_n, hd, hc, zeros, hln2]))) | (refine ldD_ep ?_ ?_; (focus kernel_rfl); (try simp -implicitDefEqProofs [-loopQ_n, zeros, hln2])))))
  refine loop_intro (σ := Nat × List Nat) (fun x => ⟨[(1, .op 0 0), (3, .os 1 x.2.length), (19, .int .i64 l.length), (20, .int .i64 x.1)], [.box 24 [.rs (rowsOf objC l)], .row 3 false (rowsOf natC x.2)]⟩)
    (fun x => x.1 ≤ l.length ∧ x.2.length = l.length ∧ ∀ j, j < x.1 → par x.2 j = j) (fun x => l.length - x.1) (0, List.replicate l.length 0) ⟨by simp, by simp, by simp⟩ ?_ ?_
  · refine weak_of 2 0 rfl rfl ?_ ?_ <;> simp [natC_refsR]
  rintro ⟨i, u⟩ ⟨hi, hlu, hp⟩
  simp only at hi hlu hp
  by_cases h : i < l.length
  · have w1 := w_succ h (by omega)
    have h' : i < u.length := by omega
    ((try simp -implicitDefEqProofs [-loopQ_n, h, h', natC, natC_set]) <;> (repeat' (first | (refine condD_dec ?_ ?_ <;> (intro hc; (try simp -implicitDefEqProofs [-loopQ_n, hc, h, h', natC, natC_set]))) | (refine guardD_dec ?_ ?_ <;> (intro hc; (try simp -implicitDefEqProofs [-loopQ_n, hc, h, h', natC, natC_set]))) | (refine condD_intro ?_ ?_ <;> (intro hd; have hc := hd; (try simp at hc) <;> (try simp -implicitDefEqProofs [-loopQ_n, hd, hc, h, h', natC, natC_set]))) | (refine guardD_intro ?_ ?_ <;> (intro hd; have hc := hd; (try simp at hc) <;> (try simp -implicitDefEqProofs [-loopQ_n, hd, hc, h, h', natC, natC_set]))) | (refine ldD_ep ?_ ?_; (focus kernel_rfl); (try simp -implicitDefEqProofs [-loopQ_n, h, h', natC, natC_set])))))
    refine loop_next (i + 1, u.set i i) ⟨by simp only; omega, by simpa using hlu, fun j hj => ?_⟩ (by simp only; omega) (weak_of 2 0 rfl rfl ?_ ?_) <;> simp [w1, natC_refsR]
    simp only at hj
    rw [par_set h']
    split
    · rename_i e; exact e.symm
    · exact hp j (by omega)
  have hin : i = l.length := by omega
  subst hin
  ((try simp -implicitDefEqProofs [-loopQ_n]) <;> (repeat' (first | (refine condD_dec ?_ ?_ <;> (intro hc; (try simp -implicitDefEqProofs [-loopQ_n, hc]))) | (refine guardD_dec ?_ ?_ <;> (intro hc; (try simp -implicitDefEqProofs [-loopQ_n, hc]))) | (refine condD_intro ?_ ?_ <;> (intro hd; have hc := hd; (try simp at hc) <;> (try simp -implicitDefEqProofs [-loopQ_n, hd, hc]))) | (refine guardD_intro ?_ ?_ <;> (intro hd; have hc := hd; (try simp at hc) <;> (try simp -implicitDefEqProofs [-loopQ_n, hd, hc]))) | (refine ldD_ep ?_ ?_; (focus kernel_rfl); (try simp -implicitDefEqProofs [-loopQ_n])))))
  refine loop_intro (σ := Nat × List Nat × List (Rf × Nat)) (fun x => ⟨[(3, .os 1 x.2.1.length), (5, .mp 2), (30, .rs (rowsOf objC l)), (31, .int .i64 l.length), (32, .int .i64 x.1)], [.gone, .row 3 false (rowsOf natC x.2.1), .map (mE rfK nV x.2.2)]⟩)
    (fun x => x.1 ≤ l.length ∧ UInv (shareR l) (occ l x.1 0) l.length x.2.1 x.2.2) (fun x => l.length - x.1) (0, u, []) ⟨by simp, .start hlu hp (occ_zero l)⟩ ?_ ?_
  · refine weak_of 3 0 rfl rfl ?_ ?_ <;> simp [natC_refsR, mE, refsM]
  clear hp hlu
  rintro ⟨i, u, es⟩ ⟨hi, hU⟩
  simp only at hi hU
  by_cases h : i < l.length
  · have w1 := w_succ h (by omega)
    obtain ⟨⟨act, time, refs⟩, hf⟩ : ∃ e, l[i] = e := ⟨_, rfl⟩
    have hl : refs.length ≤ 20 := by have := hsm.2 _ (List.getElem_mem h); rw [hf] at this; exact this
    have hrf : l[i].refs = refs := by rw [hf]
    ((try simp -implicitDefEqProofs [-loopQ_n, h, hf, objC]) <;> (repeat' (first | (refine condD_dec ?_ ?_ <;> (intro hc; (try simp -implicitDefEqProofs [-loopQ_n, hc, h, hf, objC]))) | (refine guardD_dec ?_ ?_ <;> (intro hc; (try simp -implicitDefEqProofs [-loopQ_n, hc, h, hf, objC]))) | (refine condD_intro ?_ ?_ <;> (intro hd; have hc := hd; (try simp at hc) <;> (try simp -implicitDefEqProofs [-loopQ_n, hd, hc, h, hf, objC]))) | (refine guardD_intro ?_ ?_ <;> (intro hd; have hc := hd; (try simp at hc) <;> (try simp -implicitDefEqProofs [-loopQ_n, hd, hc, h, hf, objC]))) | (refine ldD_ep ?_ ?_; (focus kernel_rfl); (try simp -implicitDefEqProofs [-loopQ_n, h, hf, objC])))))
    refine loop_intro (σ := Nat × List Nat × List (Rf × Nat)) (fun x => ⟨[(3, .os 1 x.2.1.length), (5, .mp 2), (6, .int .i64 i), (30, .rs (rowsOf objC l)), (31, .int .i64 l.length), (32, .int .i64 i), (38, .rs (rowsOf refC refs)), (39, .int .i64 refs.length), (40, .int .i64 x.1)], [.gone, .row 3 false (rowsOf natC x.2.1), .map (mE rfK nV x.2.2)]⟩)
      (fun x => x.1 ≤ refs.length ∧ UInv (shareR l) (occ l i x.1) l.length x.2.1 x.2.2) (fun x => refs.length - x.1) (0, u, es) ⟨by simp, hU⟩ ?_ ?_
    · refine weak_of 3 0 rfl rfl ?_ ?_ <;> simp [natC_refsR, -refsM, rfN_refs]
    clear hU
    rintro ⟨k, u, es⟩ ⟨hk, hU⟩
    simp only at hk hU
    by_cases g : k < refs.length
    · have w2 := w_succ g (by omega)
      obtain ⟨⟨a, b⟩, hr⟩ : ∃ e, refs[k] = e := ⟨_, rfl⟩
      have hk2 : k < l[i].refs.length := by rw [hrf]; exact g
      have hgr : l[i].refs[k] = ⟨a, b⟩ := by simp only [hrf]; exact hr
      have hmem : (⟨a, b⟩ : Rf) ∈ l[i].refs := hgr ▸ List.getElem_mem hk2
      cases hq : afind (⟨a, b⟩ : Rf) es 0 with
      | none =>
        have hno : alook es ⟨a, b⟩ = none := by unfold alook; rw [hq]; rfl
        ((try simp -implicitDefEqProofs [-loopQ_n, g, hr, refC, mf_rfN, hq, mp_noneN hq]) <;> (repeat' (first | (refine condD_dec ?_ ?_ <;> (intro hc; (try simp -implicitDefEqProofs [-loopQ_n, hc, g, hr, refC, mf_rfN, hq, mp_noneN hq]))) | (refine guardD_dec ?_ ?_ <;> (intro hc; (try simp -implicitDefEqProofs [-loopQ_n, hc, g, hr, refC, mf_rfN, hq, mp_noneN hq]))) | (refine condD_intro ?_ ?_ <;> (intro hd; have hc := hd; (try simp at hc) <;> (try simp -implicitDefEqProofs [-loopQ_n, hd, hc, g, hr, refC, mf_rfN, hq, mp_noneN hq]))) | (refine guardD_intro ?_ ?_ <;> (intro hd; have hc := hd; (try simp at hc) <;> (try simp -implicitDefEqProofs [-loopQ_n, hd, hc, g, hr, refC, mf_rfN, hq, mp_noneN hq]))) | (refine ldD_ep ?_ ?_; (focus kernel_rfl); (try simp -implicitDefEqProofs [-loopQ_n, g, hr, refC, mf_rfN, hq, mp_noneN hq])))))
        refine loop_next (k + 1, u, aput es ⟨a, b⟩ i) ⟨by simp only; omega, (hU.fresh h hno).more fun j r => by rw [← hgr]; exact occ_succ h hk2 j r⟩ (by simp only; omega) (weak_of 3 0 rfl rfl ?_ ?_) <;> simp [w2, natC_refsR, -refsM, rfN_refs]
      | some e =>
        obtain ⟨q, f⟩ := e
        have hso : alook es ⟨a, b⟩ = some f := by unfold alook; rw [hq]; rfl
        have hfn := (hU.some_ _ _ hso).2
        ((try simp -implicitDefEqProofs [-loopQ_n, g, hr, refC, mf_rfN, hq, nV]) <;> (repeat' (first | (refine condD_dec ?_ ?_ <;> (intro hc; (try simp -implicitDefEqProofs [-loopQ_n, hc, g, hr, refC, mf_rfN, hq, nV]))) | (refine guardD_dec ?_ ?_ <;> (intro hc; (try simp -implicitDefEqProofs [-loopQ_n, hc, g, hr, refC, mf_rfN, hq, nV]))) | (refine condD_intro ?_ ?_ <;> (intro hd; have hc := hd; (try simp at hc) <;> (try simp -implicitDefEqProofs [-loopQ_n, hd, hc, g, hr, refC, mf_rfN, hq, nV]))) | (refine guardD_intro ?_ ?_ <;> (intro hd; have hc := hd; (try simp at hc) <;> (try simp -implicitDefEqProofs [-loopQ_n, hd, hc, g, hr, refC, mf_rfN, hq, nV]))) | (refine ldD_ep ?_ ?_; (focus kernel_rfl); (try simp -implicitDefEqProofs [-loopQ_n, g, hr, refC, mf_rfN, hq, nV])))))
        refine callG_intro (foot1 (unite_G u f i hU.good (by have := hU.len; omega) (by have := hU.len; omega) (by have := hU.len; omega)) 1 rfl (fun ρ => natC_mB) (fun ρ hρ => by simp [hρ]) ?_)
        rintro _ _ ⟨rfl, v, rfl, hlv, hgv, hrv⟩
        refine ⟨_, rfl, fun ρ => natC_mB, fun ρ => by simp, ?_⟩
        rw [← hlv]
        ((try simp -implicitDefEqProofs [-loopQ_n]) <;> (repeat' (first | (refine condD_dec ?_ ?_ <;> (intro hc; (try simp -implicitDefEqProofs [-loopQ_n, hc]))) | (refine guardD_dec ?_ ?_ <;> (intro hc; (try simp -implicitDefEqProofs [-loopQ_n, hc]))) | (refine condD_intro ?_ ?_ <;> (intro hd; have hc := hd; (try simp at hc) <;> (try simp -implicitDefEqProofs [-loopQ_n, hd, hc]))) | (refine guardD_intro ?_ ?_ <;> (intro hd; have hc := hd; (try simp at hc) <;> (try simp -implicitDefEqProofs [-loopQ_n, hd, hc]))) | (refine ldD_ep ?_ ?_; (focus kernel_rfl); (try simp -implicitDefEqProofs [-loopQ_n])))))
        refine loop_next (k + 1, v, es) ⟨by simp only; omega, (hU.found h hso (shareR_symm l) (fun x hx => occ_lt h (by omega) hmem hx) hlv hgv hrv).more fun j r => by rw [← hgr]; exact occ_succ h hk2 j r⟩ (by simp only; omega) (weak_of 3 0 rfl rfl ?_ ?_) <;> simp [w2, natC_refsR, -refsM, rfN_refs]
    · have hkn : k = refs.length := by omega
      subst hkn
      ((try simp -implicitDefEqProofs [-loopQ_n]) <;> (repeat' (first | (refine condD_dec ?_ ?_ <;> (intro hc; (try simp -implicitDefEqProofs [-loopQ_n, hc]))) | (refine guardD_dec ?_ ?_ <;> (intro hc; (try simp -implicitDefEqProofs [-loopQ_n, hc]))) | (refine condD_intro ?_ ?_ <;> (intro hd; have hc := hd; (try simp at hc) <;> (try simp -implicitDefEqProofs [-loopQ_n, hd, hc]))) | (refine guardD_intro ?_ ?_ <;> (intro hd; have hc := hd; (try simp at hc) <;> (try simp -implicitDefEqProofs [-loopQ_n, hd, hc]))) | (refine ldD_ep ?_ ?_; (focus kernel_rfl); (try simp -implicitDefEqProofs [-loopQ_n])))))
      refine loop_next (i + 1, u, es) ⟨by simp only; omega, hU.more fun j r => by rw [← hrf]; exact occ_next h j r⟩ (by simp only; omega) (weak_of 3 0 rfl rfl ?_ ?_) <;> simp [w1, natC_refsR, -refsM, rfN_refs]
  have hin : i = l.length := by omega
  subst hin
  have hul := hU.len
  have hul2 : (u.length : Int) ≤ 1073741824 := by omega
  have hR := hU.parts fun i j ⟨a, b, h1, h2, r, h3, h4⟩ => ⟨r, ⟨a, h1, .inl ⟨(List.getElem?_eq_some_iff.1 h1).1, h3⟩⟩, ⟨b, h2, .inl ⟨(List.getElem?_eq_some_iff.1 h2).1, h4⟩⟩⟩
  rw [isParts_uniq (partsC_is (shareR_symm l) l.length) hR]
  ((try simp -implicitDefEqProofs [-loopQ_n, zeros, hul2]) <;> (repeat' (first | (refine condD_dec ?_ ?_ <;> (intro hc; (try simp -implicitDefEqProofs [-loopQ_n, hc, zeros, hul2]))) | (refine guardD_dec ?_ ?_ <;> (intro hc; (try simp -implicitDefEqProofs [-loopQ_n, hc, zeros, hul2]))) | (refine condD_intro ?_ ?_ <;> (intro hd; have hc := hd; (try simp at hc) <;> (try simp -implicitDefEqProofs [-loopQ_n, hd, hc, zeros, hul2]))) | (refine guardD_intro ?_ ?_ <;> (intro hd; have hc := hd; (try simp at hc) <;> (try simp -implicitDefEqProofs [-loopQ_n, hd, hc, zeros, hul2]))) | (refine ldD_ep ?_ ?_; (focus kernel_rfl); (try simp -implicitDefEqProofs [-loopQ_n, zeros, hul2])))))
  refine loop_intro (σ := Nat × List Nat × List Nat) (fun x => ⟨[(3, .os 1 x.2.1.length), (12, .os 3 x.2.2.length), (64, .int .i64 u.length), (65, .int .i64 x.1)], [.gone, .row 3 false (rowsOf natC x.2.1), .gone, .row 3 false (rowsOf natC x.2.2)]⟩)
    (fun x => x.1 ≤ u.length ∧ x.2.1.length = u.length ∧ x.2.2.length = u.length ∧ goodU x.2.1 ∧ (∀ y, root x.2.1 y = root u y) ∧ ∀ j, j < x.1 → par x.2.2 j = root u j) (fun x => u.length - x.1) (0, u, List.replicate u.length 0) ⟨by simp, rfl, by simp, hU.good, fun _ => rfl, by simp⟩ ?_ ?_
  · refine weak_of 4 0 rfl rfl ?_ ?_ <;> simp [natC_refsR]
  rintro ⟨i, v, out⟩ ⟨hi, hlv, hlo, hgv, hrv, hout⟩
  simp only at hi hlv hlo hgv hrv hout
  by_cases h : i < u.length
  · have w1 := w_succ h (by omega)
    have h' : i < out.length := by omega
    ((try simp -implicitDefEqProofs [-loopQ_n, h]) <;> (repeat' (first | (refine condD_dec ?_ ?_ <;> (intro hc; (try simp -implicitDefEqProofs [-loopQ_n, hc, h]))) | (refine guardD_dec ?_ ?_ <;> (intro hc; (try simp -implicitDefEqProofs [-loopQ_n, hc, h]))) | (refine condD_intro ?_ ?_ <;> (intro hd; have hc := hd; (try simp at hc) <;> (try simp -implicitDefEqProofs [-loopQ_n, hd, hc, h]))) | (refine guardD_intro ?_ ?_ <;> (intro hd; have hc := hd; (try simp at hc) <;> (try simp -implicitDefEqProofs [-loopQ_n, hd, hc, h]))) | (refine ldD_ep ?_ ?_; (focus kernel_rfl); (try simp -implicitDefEqProofs [-loopQ_n, h])))))
    refine callG_intro (foot1 (find_G v i hgv (by omega) (by omega)) 1 rfl (fun ρ => natC_mB) (fun ρ hρ => by simp [hρ]) ?_)
    rintro _ _ ⟨rfl, x, rfl, hlx, hgx, hrx⟩
    refine ⟨_, rfl, fun ρ => natC_mB, fun ρ => by simp, ?_⟩
    rw [← hlx]
    ((try simp -implicitDefEqProofs [-loopQ_n, h', natC, natC_set]) <;> (repeat' (first | (refine condD_dec ?_ ?_ <;> (intro hc; (try simp -implicitDefEqProofs [-loopQ_n, hc, h', natC, natC_set]))) | (refine guardD_dec ?_ ?_ <;> (intro hc; (try simp -implicitDefEqProofs [-loopQ_n, hc, h', natC, natC_set]))) | (refine condD_intro ?_ ?_ <;> (intro hd; have hc := hd; (try simp at hc) <;> (try simp -implicitDefEqProofs [-loopQ_n, hd, hc, h', natC, natC_set]))) | (refine guardD_intro ?_ ?_ <;> (intro hd; have hc := hd; (try simp at hc) <;> (try simp -implicitDefEqProofs [-loopQ_n, hd, hc, h', natC, natC_set]))) | (refine ldD_ep ?_ ?_; (focus kernel_rfl); (try simp -implicitDefEqProofs [-loopQ_n, h', natC, natC_set])))))
    refine loop_next (i + 1, x, out.set i (root v i)) ⟨by simp only; omega, by simp only; omega, by simpa using hlo, hgx, fun y => by rw [hrx, hrv], fun j hj => ?_⟩ (by simp only; omega) (weak_of 4 0 rfl rfl ?_ ?_)
    · simp only at hj
      rw [par_set h']
      split
      · rename_i e; rw [e, hrv]
      · exact hout j (by omega)
    · simp [w1]
    · simp [natC_refsR]
  · have : out = (List.range l.length).map (root u) := List.ext_getElem (by simp; omega) fun j h1 h2 => by
      have := hout j (by omega)
      rw [par_get h1] at this
      simpa using this
    ((try simp -implicitDefEqProofs [-loopQ_n, h, natC_reify, this]) <;> (repeat' (first | (refine condD_dec ?_ ?_ <;> (intro hc; (try simp -implicitDefEqProofs [-loopQ_n, hc, h, natC_reify, this]))) | (refine guardD_dec ?_ ?_ <;> (intro hc; (try simp -implicitDefEqProofs [-loopQ_n, hc, h, natC_reify, this]))) | (refine condD_intro ?_ ?_ <;> (intro hd; have hc := hd; (try simp at hc) <;> (try simp -implicitDefEqProofs [-loopQ_n, hd, hc, h, natC_reify, this]))) | (refine guardD_intro ?_ ?_ <;> (intro hd; have hc := hd; (try simp at hc) <;> (try simp -implicitDefEqProofs [-loopQ_n, hd, hc, h, natC_reify, this]))) | (refine ldD_ep ?_ ?_; (focus kernel_rfl); (try simp -implicitDefEqProofs [-loopQ_n, h, natC_reify, this])))))
end Go.Proofs.YtdkcmfafganhhaaDoor
