/- The reference's numbers of the components. -/
import Derived.Test.YtdkcmfafganhhaaDoorObD
import Derived.Test.YtdkcmfafganhhaaDoorObj15
import Derived.Test.YtdkcmfafganhhaaDoorNumP
import Derived.Test.YtdkcmfafganhhaaDoorAbMv
namespace Go.Proofs.YtdkcmfafganhhaaDoor
set_option linter.unusedSimpArgs false
set_option linter.unusedVariables false
set_option linter.unnecessarySimpa false
set_option linter.unusedSectionVars false
open Go.RowKit
variable [Glob]
set_option maxRecDepth 100000
theorem intN_refs {m : Nat} {l : List Int} : refsR m (rowsOf intC l) = true := rowsOf_refs fun x => by simp [intC, refs]
theorem objN_refs {m : Nat} {l : List Obj} : refsR m (rowsOf objC l) = true := rowsOf_refs fun x => by simp [objC, refs]
theorem intN_reify {H : List Blk} {n : Nat} {l : List Int} : (rowsOf intC l).mapM (fun row => row.mapM (reify H (n + 1))) = some (rowsOf intC l) := rowsOf_reify fun x => by simp [intC, reify]
theorem intN_snoc {l : List Int} {x : Int} : rowsOf intC l ++ [[.int .i64 x]] = rowsOf intC (l ++ [x]) := by simp [rowsOf, intC]
theorem intN_set {l : List Int} {i : Nat} {x : Int} : (rowsOf intC l).set i [.int .i64 x] = rowsOf intC (l.set i x) := by simp [rowsOf, intC, List.map_set]
theorem natN_snoc {l : List Nat} {x : Nat} : rowsOf natC l ++ [[.int .i64 (x : Int)]] = rowsOf natC (l ++ [x]) := by simp [rowsOf, natC]
theorem nat_one {i : Nat} : rowsOf natC [i] = [[.int .i64 (i : Int)]] := rfl
theorem refsR_one {m : Nat} {i : Int} : refsR m [[.int .i64 i]] = true := rfl
theorem intN_mB {ρ : Nat → Nat} {t : TypeId} {nb : Bool} {l : List Int} : mB ρ (.row t nb (rowsOf intC l)) = .row t nb (rowsOf intC l) := by
  simp only [mB, rowsOf, List.map_map]
  congr 1
theorem com_pos {a b : List Rf} : (0 : Int) < (comR b a : Nat) ↔ ∃ r, r ∈ a ∧ r ∈ b := by
  rw [comR_filter]
  constructor
  · intro h
    have : 0 < (a.filter fun x => decide (x ∈ b)).length := by omega
    obtain ⟨r, hr⟩ := List.exists_mem_of_length_pos this
    rw [List.mem_filter] at hr
    exact ⟨r, hr.1, by simpa using hr.2⟩
  · rintro ⟨r, h1, h2⟩
    have : 0 < (a.filter fun x => decide (x ∈ b)).length := List.length_pos_of_mem (List.mem_filter.2 ⟨h1, by simpa using h2⟩)
    omega
def numL (p : List Nat) (n : Nat) : List Int := (List.range n).map fun t => (numP p t : Int)
theorem shareR_lt {l : List Obj} {i j : Nat} (h : shareR l i j) : j < l.length := by
  obtain ⟨a, b, _, h2, _⟩ := h
  exact (List.getElem?_eq_some_iff.1 h2).1
set_option maxHeartbeats 32000000 in
theorem rnumbers_pure (l : List Obj) (hV : objV l = true) (p : List Nat) (hp : isParts (shareR l) l.length p) : Pure Tryd.prog 35 [.agg [.rs (rowsOf objC l)]] (.rs (rowsOf intC (numL p l.length))) := by
  have hsm := objV_small hV
  have hln := hsm.1
  have hsr := hsm.2
  have hsy := shareR_symm l
  refine pure_of mixed Tryd.func35 rfl (by kernel_rfl) (of_decide_eq_true rfl) (by kernel_rfl) (vc_run ?_)
  ((try simp -implicitDefEqProofs [-loopQ_n]) <;> (repeat' (first | (refine condD_dec ?_ ?_ <;> (intro hc; (try simp -implicitDefEqProofs [-loopQ_n, hc]))) | (refine guardD_dec ?_ ?_ <;> (intro hc; (try simp -implicitDefEqProofs [-loopQ_n, hc]))) | (refine condD_intro ?_ ?_ <;> (intro hd; have hc := hd; (try simp at hc) <;> (try simp -implicitDefEqProofs [-loopQ_n, hd, hc]))) | (refine guardD_intro ?_ ?_ <;> (intro hd; have hc := hd; (try simp at hc) <;> (try simp -implicitDefEqProofs [-loopQ_n, hd, hc]))) | (refine ldD_ep ?_ ?_; (focus kernel_rfl); (try simp -implicitDefEqProofs [-loopQ_n])))))
  refine loop_intro (σ := Nat) (fun i => ⟨[(1, .op 0 0), (3, .os 1 i), (4, .int .i64 i)], [.box 24 [.rs (rowsOf objC l)], .row 3 true (rowsOf intC (List.replicate i (-1)))]⟩) (fun i => i ≤ l.length) (fun i => l.length - i) 0 (by simp) ?_ ?_
  · refine weak_of 1 1 rfl rfl ?_ ?_ <;> simp [objN_refs, rowsOf_nil]
  · intro i hi
    by_cases h : i < l.length
    · have w1 := w_succ h (by omega)
      have hl1 : i ≤ 1073741823 := by omega
      have hr : rowsOf intC (List.replicate i (-1)) ++ [[.int .i64 (-1)]] = rowsOf intC (List.replicate (i + 1) (-1)) := by rw [intN_snoc, List.replicate_succ']
      ((try simp -implicitDefEqProofs [-loopQ_n, h, w1, hl1, hr, rowsOf_length, List.length_replicate]) <;> (repeat' (first | (refine condD_dec ?_ ?_ <;> (intro hc; (try simp -implicitDefEqProofs [-loopQ_n, hc, h, w1, hl1, hr, rowsOf_length, List.length_replicate]))) | (refine guardD_dec ?_ ?_ <;> (intro hc; (try simp -implicitDefEqProofs [-loopQ_n, hc, h, w1, hl1, hr, rowsOf_length, List.length_replicate]))) | (refine condD_intro ?_ ?_ <;> (intro hd; have hc := hd; (try simp at hc) <;> (try simp -implicitDefEqProofs [-loopQ_n, hd, hc, h, w1, hl1, hr, rowsOf_length, List.length_replicate]))) | (refine guardD_intro ?_ ?_ <;> (intro hd; have hc := hd; (try simp at hc) <;> (try simp -implicitDefEqProofs [-loopQ_n, hd, hc, h, w1, hl1, hr, rowsOf_length, List.length_replicate]))) | (refine ldD_ep ?_ ?_; (focus kernel_rfl); (try simp -implicitDefEqProofs [-loopQ_n, h, w1, hl1, hr, rowsOf_length, List.length_replicate])))))
      refine loop_next (i + 1) h (by omega) (weak_of 2 0 rfl rfl ?_ ?_) <;> simp [objN_refs, intN_refs, w1]
    · have hi2 : i = l.length := by omega
      subst hi2
      clear hi
      ((try simp -implicitDefEqProofs [-loopQ_n, h]) <;> (repeat' (first | (refine condD_dec ?_ ?_ <;> (intro hc; (try simp -implicitDefEqProofs [-loopQ_n, hc, h]))) | (refine guardD_dec ?_ ?_ <;> (intro hc; (try simp -implicitDefEqProofs [-loopQ_n, hc, h]))) | (refine condD_intro ?_ ?_ <;> (intro hd; have hc := hd; (try simp at hc) <;> (try simp -implicitDefEqProofs [-loopQ_n, hd, hc, h]))) | (refine guardD_intro ?_ ?_ <;> (intro hd; have hc := hd; (try simp at hc) <;> (try simp -implicitDefEqProofs [-loopQ_n, hd, hc, h]))) | (refine ldD_ep ?_ ?_; (focus kernel_rfl); (try simp -implicitDefEqProofs [-loopQ_n, h])))))
      refine loop_intro (σ := Nat × Nat × List Int) (fun x => ⟨[(1, .op 0 0), (3, .os 1 l.length), (5, .int .i64 x.2.1), (6, .int .i64 x.1)], [.box 24 [.rs (rowsOf objC l)], .row 3 true (rowsOf intC x.2.2)]⟩)
        (fun x => x.1 ≤ l.length ∧ OInv p l.length x.1 x.2.1 x.2.2) (fun x => l.length - x.1) (0, 0, List.replicate l.length (-1)) ⟨by simp, .start⟩ ?_ ?_
      · refine weak_of 2 0 rfl rfl ?_ ?_ <;> simp [objN_refs, intN_refs]
      clear h
      rintro ⟨i, next, out⟩ ⟨hi, hO⟩
      simp only at hi hO
      have hol := hO.len
      have hnx : next ≤ i := by rw [hO.nxt]; exact cntF_le i
      by_cases h : i < l.length
      · have w1 := w_succ h (by omega)
        have hio : i < out.length := by omega
        obtain ⟨x, hx⟩ : ∃ x, out[i] = x := ⟨_, rfl⟩
        have hat := hO.at_ i h
        rw [List.getElem?_eq_getElem hio, hx] at hat
        have hat := Option.some.inj hat
        by_cases c1 : par p i < i
        · rw [if_pos c1] at hat
          have hx0 : (0 : Int) ≤ x := by omega
          ((try simp -implicitDefEqProofs [-loopQ_n, h, hol, hio, hx, hx0, intC, w1]) <;> (repeat' (first | (refine condD_dec ?_ ?_ <;> (intro hc; (try simp -implicitDefEqProofs [-loopQ_n, hc, h, hol, hio, hx, hx0, intC, w1]))) | (refine guardD_dec ?_ ?_ <;> (intro hc; (try simp -implicitDefEqProofs [-loopQ_n, hc, h, hol, hio, hx, hx0, intC, w1]))) | (refine condD_intro ?_ ?_ <;> (intro hd; have hc := hd; (try simp at hc) <;> (try simp -implicitDefEqProofs [-loopQ_n, hd, hc, h, hol, hio, hx, hx0, intC, w1]))) | (refine guardD_intro ?_ ?_ <;> (intro hd; have hc := hd; (try simp at hc) <;> (try simp -implicitDefEqProofs [-loopQ_n, hd, hc, h, hol, hio, hx, hx0, intC, w1]))) | (refine ldD_ep ?_ ?_; (focus kernel_rfl); (try simp -implicitDefEqProofs [-loopQ_n, h, hol, hio, hx, hx0, intC, w1])))))
          refine loop_next (i + 1, next, out) ⟨h, hO.skip hp h c1⟩ (by simp only; omega) (weak_of 2 0 rfl rfl ?_ ?_) <;> simp [objN_refs, intN_refs, w1]
        · rw [if_neg c1] at hat
          have hx0 : ¬ (0 : Int) ≤ x := by omega
          have hW0 := hO.enter hp h c1
          ((try simp -implicitDefEqProofs [-loopQ_n, h, hol, hio, hx, hx0, intC, intN_set]) <;> (repeat' (first | (refine condD_dec ?_ ?_ <;> (intro hc; (try simp -implicitDefEqProofs [-loopQ_n, hc, h, hol, hio, hx, hx0, intC, intN_set]))) | (refine guardD_dec ?_ ?_ <;> (intro hc; (try simp -implicitDefEqProofs [-loopQ_n, hc, h, hol, hio, hx, hx0, intC, intN_set]))) | (refine condD_intro ?_ ?_ <;> (intro hd; have hc := hd; (try simp at hc) <;> (try simp -implicitDefEqProofs [-loopQ_n, hd, hc, h, hol, hio, hx, hx0, intC, intN_set]))) | (refine guardD_intro ?_ ?_ <;> (intro hd; have hc := hd; (try simp at hc) <;> (try simp -implicitDefEqProofs [-loopQ_n, hd, hc, h, hol, hio, hx, hx0, intC, intN_set]))) | (refine ldD_ep ?_ ?_; (focus kernel_rfl); (try simp -implicitDefEqProofs [-loopQ_n, h, hol, hio, hx, hx0, intC, intN_set])))))
          refine loop_intro (σ := Nat × List Int × List Nat) (fun y => ⟨[(1, .op 0 0), (3, .os 1 l.length), (5, .int .i64 next), (6, .int .i64 i), (7, .os 2 y.2.2.length), (8, .int .i64 y.1)], [.box 24 [.rs (rowsOf objC l)], .row 3 true (rowsOf intC y.2.1), .row 3 false (rowsOf natC y.2.2)]⟩)
            (fun y => y.1 ≤ y.2.2.length ∧ WInv p l.length i next y.2.1 y.2.2 ∧ ∀ m w, m < y.1 → y.2.2[m]? = some w → ∀ t, t < l.length → shareR l w t → t ∈ y.2.2) (fun y => l.length - y.1) (0, out.set i (next : Int), [i]) ⟨by simp, hW0, fun m w hm => absurd hm (Nat.not_lt_zero _)⟩ ?_ ?_
          · refine weak_of 3 0 rfl rfl ?_ ?_ <;> simp [objN_refs, intN_refs, nat_one, refsR_one]
          clear hx hat hio hol hO hW0 hx0
          rintro ⟨k, out, work⟩ ⟨hk, hW, hcl⟩
          simp only at hk hW hcl
          have hol := hW.len
          have hwl := nd_len l.length hW.nd fun w hw => (hW.cls w hw).1
          by_cases g : k < work.length
          · have w2 := w_succ g (by omega)
            obtain ⟨w, hw⟩ : ∃ w, work[k] = w := ⟨_, rfl⟩
            have hwg : work[k]? = some w := by rw [List.getElem?_eq_getElem g, hw]
            have hwm := List.mem_of_getElem? hwg
            have hwn := (hW.cls w hwm).1
            ((try simp -implicitDefEqProofs [-loopQ_n, g]) <;> (repeat' (first | (refine condD_dec ?_ ?_ <;> (intro hc; (try simp -implicitDefEqProofs [-loopQ_n, hc, g]))) | (refine guardD_dec ?_ ?_ <;> (intro hc; (try simp -implicitDefEqProofs [-loopQ_n, hc, g]))) | (refine condD_intro ?_ ?_ <;> (intro hd; have hc := hd; (try simp at hc) <;> (try simp -implicitDefEqProofs [-loopQ_n, hd, hc, g]))) | (refine guardD_intro ?_ ?_ <;> (intro hd; have hc := hd; (try simp at hc) <;> (try simp -implicitDefEqProofs [-loopQ_n, hd, hc, g]))) | (refine ldD_ep ?_ ?_; (focus kernel_rfl); (try simp -implicitDefEqProofs [-loopQ_n, g])))))
            refine loop_intro (σ := Nat × List Int × List Nat) (fun y => ⟨[(1, .op 0 0), (3, .os 1 l.length), (5, .int .i64 next), (6, .int .i64 i), (7, .os 2 y.2.2.length), (8, .int .i64 k), (9, .int .i64 y.1)], [.box 24 [.rs (rowsOf objC l)], .row 3 true (rowsOf intC y.2.1), .row 3 false (rowsOf natC y.2.2)]⟩)
              (fun y => y.1 ≤ l.length ∧ k < y.2.2.length ∧ y.2.2[k]? = some w ∧ WInv p l.length i next y.2.1 y.2.2 ∧ (∀ m w, m < k → y.2.2[m]? = some w → ∀ t, t < l.length → shareR l w t → t ∈ y.2.2) ∧ ∀ t, t < y.1 → shareR l w t → t ∈ y.2.2) (fun y => l.length - y.1) (0, out, work) ⟨by simp, g, hwg, hW, hcl, fun t ht => absurd ht (Nat.not_lt_zero _)⟩ ?_ ?_
            · refine weak_of 3 0 rfl rfl ?_ ?_ <;> simp [objN_refs, intN_refs, natC_refsR]
            clear hk hW hcl hol hwl g hw hwg hwm w2
            rintro ⟨j, out, work⟩ ⟨hj, hk, hwg, hW, hcl, hcj⟩
            simp only at hj hk hwg hW hcl hcj
            have hol := hW.len
            have hwl := nd_len l.length hW.nd fun w hw => (hW.cls w hw).1
            have hwm := List.mem_of_getElem? hwg
            have hw : work[k] = w := (List.getElem?_eq_some_iff.1 hwg).2
            by_cases g : j < l.length
            · have w3 := w_succ g (by omega)
              have hjo : j < out.length := by omega
              obtain ⟨x, hx⟩ : ∃ x, out[j] = x := ⟨_, rfl⟩
              have hneg := hW.neg g (by rw [List.getElem?_eq_getElem hjo, hx])
              by_cases c2 : x < 0
              · obtain ⟨hn1, hn2⟩ := hneg.1 c2
                have hr1 := hsr _ (List.getElem_mem hwn)
                have hr2 := hsr _ (List.getElem_mem g)
                obtain ⟨⟨a1, t1, r1⟩, hf1⟩ : ∃ e, l[w] = e := ⟨_, rfl⟩
                obtain ⟨⟨a2, t2, r2⟩, hf2⟩ : ∃ e, l[j] = e := ⟨_, rfl⟩
                rw [hf1] at hr1
                rw [hf2] at hr2
                have hC := rcommon_pure a1 a2 t1 t2 r1 r2 hr1 hr2
                have hsh : shareR l w j ↔ (0 : Int) < (comR r2 r1 : Nat) := by
                  rw [com_pos]
                  constructor
                  · rintro ⟨a, b, h1, h2, r, h3, h4⟩
                    rw [List.getElem?_eq_getElem hwn, hf1] at h1
                    rw [List.getElem?_eq_getElem g, hf2] at h2
                    have := Option.some.inj h1; subst this
                    have := Option.some.inj h2; subst this
                    exact ⟨r, h3, h4⟩
                  · rintro ⟨r, h3, h4⟩
                    exact ⟨_, _, by rw [List.getElem?_eq_getElem hwn, hf1], by rw [List.getElem?_eq_getElem g, hf2], r, h3, h4⟩
                generalize comR r2 r1 = cc at hC hsh
                by_cases c3 : (0 : Int) < (cc : Nat)
                · have hl1 : work.length ≤ 1073741823 := by omega
                  have hadd := hW.add hsy hp g hwm (hsh.2 c3) hn2
                  have hc3 : 0 < cc := by omega
                  ((try simp -implicitDefEqProofs [-loopQ_n, g, hol, hjo, hx, c2, hk, hw, hwn, hf1, hf2, objC, intC, natC, c3, hc3, hl1, w3, intN_set, natN_snoc, rowsOf_length]) <;> (repeat' (first | (refine condD_dec ?_ ?_ <;> (intro hc; (try simp -implicitDefEqProofs [-loopQ_n, hc, g, hol, hjo, hx, c2, hk, hw, hwn, hf1, hf2, objC, intC, natC, c3, hc3, hl1, w3, intN_set, natN_snoc, rowsOf_length]))) | (refine guardD_dec ?_ ?_ <;> (intro hc; (try simp -implicitDefEqProofs [-loopQ_n, hc, g, hol, hjo, hx, c2, hk, hw, hwn, hf1, hf2, objC, intC, natC, c3, hc3, hl1, w3, intN_set, natN_snoc, rowsOf_length]))) | (refine condD_intro ?_ ?_ <;> (intro hd; have hc := hd; (try simp at hc) <;> (try simp -implicitDefEqProofs [-loopQ_n, hd, hc, g, hol, hjo, hx, c2, hk, hw, hwn, hf1, hf2, objC, intC, natC, c3, hc3, hl1, w3, intN_set, natN_snoc, rowsOf_length]))) | (refine guardD_intro ?_ ?_ <;> (intro hd; have hc := hd; (try simp at hc) <;> (try simp -implicitDefEqProofs [-loopQ_n, hd, hc, g, hol, hjo, hx, c2, hk, hw, hwn, hf1, hf2, objC, intC, natC, c3, hc3, hl1, w3, intN_set, natN_snoc, rowsOf_length]))) | (refine ldD_ep ?_ ?_; (focus kernel_rfl); (try simp -implicitDefEqProofs [-loopQ_n, g, hol, hjo, hx, c2, hk, hw, hwn, hf1, hf2, objC, intC, natC, c3, hc3, hl1, w3, intN_set, natN_snoc, rowsOf_length])) | (refine callS_mk ?_; (try simp -implicitDefEqProofs [-loopQ_n, g, hol, hjo, hx, c2, hk, hw, hwn, hf1, hf2, objC, intC, natC, c3, hc3, hl1, w3, intN_set, natN_snoc, rowsOf_length]); (first | refine callS_intro (hC) (.inl rfl) ?_); (try simp -implicitDefEqProofs [-loopQ_n, g, hol, hjo, hx, c2, hk, hw, hwn, hf1, hf2, objC, intC, natC, c3, hc3, hl1, w3, intN_set, natN_snoc, rowsOf_length])))))
                  refine loop_next (j + 1, out.set j (next : Int), work ++ [j]) ⟨g, by simp; omega, by rw [List.getElem?_append_left hk]; exact hwg, hadd, fun m w' hm hw' t ht hR => ?_, fun t ht hR => ?_⟩ (by simp only; omega) (weak_of 3 0 rfl rfl ?_ ?_)
                  · rw [List.getElem?_append_left (by omega)] at hw'
                    exact List.mem_append_left _ (hcl m w' hm hw' t ht hR)
                  · by_cases e : t = j
                    · subst e; simp
                    · exact List.mem_append_left _ (hcj t (by simp only at ht; omega) hR)
                  · simp [w3]
                  · simp [objN_refs, intN_refs, natC_refsR]
                · have hc3 : ¬ 0 < cc := by omega
                  ((try simp -implicitDefEqProofs [-loopQ_n, g, hol, hjo, hx, c2, hk, hw, hwn, hf1, hf2, objC, intC, natC, c3, hc3, w3]) <;> (repeat' (first | (refine condD_dec ?_ ?_ <;> (intro hc; (try simp -implicitDefEqProofs [-loopQ_n, hc, g, hol, hjo, hx, c2, hk, hw, hwn, hf1, hf2, objC, intC, natC, c3, hc3, w3]))) | (refine guardD_dec ?_ ?_ <;> (intro hc; (try simp -implicitDefEqProofs [-loopQ_n, hc, g, hol, hjo, hx, c2, hk, hw, hwn, hf1, hf2, objC, intC, natC, c3, hc3, w3]))) | (refine condD_intro ?_ ?_ <;> (intro hd; have hc := hd; (try simp at hc) <;> (try simp -implicitDefEqProofs [-loopQ_n, hd, hc, g, hol, hjo, hx, c2, hk, hw, hwn, hf1, hf2, objC, intC, natC, c3, hc3, w3]))) | (refine guardD_intro ?_ ?_ <;> (intro hd; have hc := hd; (try simp at hc) <;> (try simp -implicitDefEqProofs [-loopQ_n, hd, hc, g, hol, hjo, hx, c2, hk, hw, hwn, hf1, hf2, objC, intC, natC, c3, hc3, w3]))) | (refine ldD_ep ?_ ?_; (focus kernel_rfl); (try simp -implicitDefEqProofs [-loopQ_n, g, hol, hjo, hx, c2, hk, hw, hwn, hf1, hf2, objC, intC, natC, c3, hc3, w3])) | (refine callS_mk ?_; (try simp -implicitDefEqProofs [-loopQ_n, g, hol, hjo, hx, c2, hk, hw, hwn, hf1, hf2, objC, intC, natC, c3, hc3, w3]); (first | refine callS_intro (hC) (.inl rfl) ?_); (try simp -implicitDefEqProofs [-loopQ_n, g, hol, hjo, hx, c2, hk, hw, hwn, hf1, hf2, objC, intC, natC, c3, hc3, w3])))))
                  refine loop_next (j + 1, out, work) ⟨g, hk, hwg, hW, hcl, fun t ht hR => ?_⟩ (by simp only; omega) (weak_of 3 0 rfl rfl ?_ ?_)
                  · by_cases e : t = j
                    · subst e; exact absurd (hsh.1 hR) c3
                    · exact hcj t (by simp only at ht; omega) hR
                  · simp [w3]
                  · simp [objN_refs, intN_refs, natC_refsR]
              · ((try simp -implicitDefEqProofs [-loopQ_n, g, hol, hjo, hx, c2, intC, w3]) <;> (repeat' (first | (refine condD_dec ?_ ?_ <;> (intro hc; (try simp -implicitDefEqProofs [-loopQ_n, hc, g, hol, hjo, hx, c2, intC, w3]))) | (refine guardD_dec ?_ ?_ <;> (intro hc; (try simp -implicitDefEqProofs [-loopQ_n, hc, g, hol, hjo, hx, c2, intC, w3]))) | (refine condD_intro ?_ ?_ <;> (intro hd; have hc := hd; (try simp at hc) <;> (try simp -implicitDefEqProofs [-loopQ_n, hd, hc, g, hol, hjo, hx, c2, intC, w3]))) | (refine guardD_intro ?_ ?_ <;> (intro hd; have hc := hd; (try simp at hc) <;> (try simp -implicitDefEqProofs [-loopQ_n, hd, hc, g, hol, hjo, hx, c2, intC, w3]))) | (refine ldD_ep ?_ ?_; (focus kernel_rfl); (try simp -implicitDefEqProofs [-loopQ_n, g, hol, hjo, hx, c2, intC, w3])))))
                refine loop_next (j + 1, out, work) ⟨g, hk, hwg, hW, hcl, fun t ht hR => ?_⟩ (by simp only; omega) (weak_of 3 0 rfl rfl ?_ ?_)
                · by_cases e : t = j
                  · subst e
                    have hpj : par p t = i := by
                      rw [← (hW.cls w hwm).2]
                      exact ((parts_conn hsy hp hwn g).2 (.one hR)).symm
                    by_cases q : t ∈ work
                    · exact q
                    · exact absurd (hneg.2 ⟨by omega, q⟩) c2
                  · exact hcj t (by simp only at ht; omega) hR
                · simp [w3]
                · simp [objN_refs, intN_refs, natC_refsR]
            · ((try simp -implicitDefEqProofs [-loopQ_n, g, hol]) <;> (repeat' (first | (refine condD_dec ?_ ?_ <;> (intro hc; (try simp -implicitDefEqProofs [-loopQ_n, hc, g, hol]))) | (refine guardD_dec ?_ ?_ <;> (intro hc; (try simp -implicitDefEqProofs [-loopQ_n, hc, g, hol]))) | (refine condD_intro ?_ ?_ <;> (intro hd; have hc := hd; (try simp at hc) <;> (try simp -implicitDefEqProofs [-loopQ_n, hd, hc, g, hol]))) | (refine guardD_intro ?_ ?_ <;> (intro hd; have hc := hd; (try simp at hc) <;> (try simp -implicitDefEqProofs [-loopQ_n, hd, hc, g, hol]))) | (refine ldD_ep ?_ ?_; (focus kernel_rfl); (try simp -implicitDefEqProofs [-loopQ_n, g, hol])))))
              have w4 := w_succ hk (by omega)
              refine loop_next (k + 1, out, work) ⟨hk, hW, fun m w' hm hw' t ht hR => ?_⟩ (by simp only; omega) (weak_of 3 0 rfl rfl ?_ ?_)
              · by_cases e : m = k
                · subst e
                  rw [hwg] at hw'
                  have := Option.some.inj hw'
                  subst this
                  exact hcj t (by omega) hR
                · exact hcl m w' (by simp only at hm; omega) hw' t ht hR
              · simp [w4]
              · simp [objN_refs, intN_refs, natC_refsR]
          · ((try simp -implicitDefEqProofs [-loopQ_n, g]) <;> (repeat' (first | (refine condD_dec ?_ ?_ <;> (intro hc; (try simp -implicitDefEqProofs [-loopQ_n, hc, g]))) | (refine guardD_dec ?_ ?_ <;> (intro hc; (try simp -implicitDefEqProofs [-loopQ_n, hc, g]))) | (refine condD_intro ?_ ?_ <;> (intro hd; have hc := hd; (try simp at hc) <;> (try simp -implicitDefEqProofs [-loopQ_n, hd, hc, g]))) | (refine guardD_intro ?_ ?_ <;> (intro hd; have hc := hd; (try simp at hc) <;> (try simp -implicitDefEqProofs [-loopQ_n, hd, hc, g]))) | (refine ldD_ep ?_ ?_; (focus kernel_rfl); (try simp -implicitDefEqProofs [-loopQ_n, g])))))
            have hdone := hW.done hsy hp h (fun a b hR => shareR_lt hR) fun w hw t ht hR => by
              obtain ⟨m, hm⟩ := List.getElem?_of_mem hw
              have := (List.getElem?_eq_some_iff.1 hm).1
              exact hcl m w (by omega) hm t ht hR
            have w5 : wrapI .i64 ((next : Int) + 1) = ((next + 1 : Nat) : Int) := by rw [wrap_in (by omega) (by omega)]; omega
            refine loop_next (i + 1, next + 1, out) ⟨h, hdone⟩ (by simp only; omega) (weak_of 2 0 rfl rfl ?_ ?_) <;> simp [objN_refs, intN_refs, w1, w5]
      · ((try simp -implicitDefEqProofs [-loopQ_n, h, hol, intN_reify, rowsOf_length]) <;> (repeat' (first | (refine condD_dec ?_ ?_ <;> (intro hc; (try simp -implicitDefEqProofs [-loopQ_n, hc, h, hol, intN_reify, rowsOf_length]))) | (refine guardD_dec ?_ ?_ <;> (intro hc; (try simp -implicitDefEqProofs [-loopQ_n, hc, h, hol, intN_reify, rowsOf_length]))) | (refine condD_intro ?_ ?_ <;> (intro hd; have hc := hd; (try simp at hc) <;> (try simp -implicitDefEqProofs [-loopQ_n, hd, hc, h, hol, intN_reify, rowsOf_length]))) | (refine guardD_intro ?_ ?_ <;> (intro hd; have hc := hd; (try simp at hc) <;> (try simp -implicitDefEqProofs [-loopQ_n, hd, hc, h, hol, intN_reify, rowsOf_length]))) | (refine ldD_ep ?_ ?_; (focus kernel_rfl); (try simp -implicitDefEqProofs [-loopQ_n, h, hol, intN_reify, rowsOf_length])))))
        have hie : i = l.length := by omega
        subst hie
        exact congrArg _ (hO.fin hp)
end Go.Proofs.YtdkcmfafganhhaaDoor
