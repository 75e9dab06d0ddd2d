/- Generalize of the program, walked. -/
import Derived.Test.YtkppfaennogcmaaPrvT
import Derived.Test.YtkppfaennogcmaaTy
namespace Go.Proofs.Ytkppfaennogcmaa
set_option linter.unusedSimpArgs false
set_option linter.unusedVariables false
set_option linter.unnecessarySimpa false
set_option linter.unusedSectionVars false
open Go.RowKit
variable [Glob]
set_option maxRecDepth 100000
def spnC (p : Int × Int) : List AV := [.int .i64 p.1, .int .i64 p.2]
def fstC (p : Int × Nat) : List AV := [.int .i64 p.1]
def sndC (p : Int × Nat) : List AV := [.int .i64 p.2]
def gpartC (p : Int × Nat) : List AV := [.int .i64 p.1, .int .i64 p.2]
def genV (R : List (Int × Int) × Int) : AV := .tup [.rs (rowsOf spnC R.1), .int .i64 R.2]
theorem spn_reify {H : List Blk} {n : Nat} {l : List (Int × Int)} : (rowsOf spnC l).mapM (fun row => row.mapM (reify H (n + 1))) = some (rowsOf spnC l) := rowsOf_reify fun x => by simp [spnC, reify]
theorem spn_refs {m : Nat} {l : List (Int × Int)} : refsR m (rowsOf spnC l) = true := rowsOf_refs fun x => by simp [spnC, refs]
theorem fst_refs {m : Nat} {l : Tb} : refsR m (rowsOf fstC l) = true := rowsOf_refs fun x => by simp [fstC, refs]
theorem snd_refs {m : Nat} {l : Tb} : refsR m (rowsOf sndC l) = true := rowsOf_refs fun x => by simp [sndC, refs]
theorem gpart_refs {m : Nat} {l : Tb} : refsR m (rowsOf gpartC l) = true := rowsOf_refs fun x => by simp [gpartC, refs]
theorem timeV_of {l : List Int} (h : ∀ j, j < l.length → badT l j = false) : timeV l = true := by
  unfold timeV
  rw [List.all_eq_true]
  intro j hj
  simp [h j (by simpa using hj)]
theorem timeV_no {l : List Int} {i : Nat} (hi : i < l.length) (h : badT l i = true) : timeV l = false := by
  cases ht : timeV l with
  | false => rfl
  | true =>
    have := (List.all_eq_true.1 ht) i (by simpa using hi)
    simp [h] at this
theorem fst_start {b : Tb} {i : Nat} (h : i < b.length) : (rowsOf fstC b).set i [.int .i64 (-1)] = rowsOf fstC (gstart b i) := by
  rw [show [AV.int .i64 (-1)] = fstC (-1, (tat b i).2) from rfl, rowsOf_set]; rfl
theorem snd_start {b : Tb} {i : Nat} (h : i < b.length) : rowsOf sndC b = rowsOf sndC (gstart b i) := by
  unfold gstart
  rw [← rowsOf_set]
  have : (rowsOf sndC b)[i]? = some (sndC (-1, (tat b i).2)) := by
    rw [rowsOf_get, List.getElem?_eq_getElem h, Option.map_some, tat_get h]; rfl
  have h2 := List.getElem?_eq_some_iff.1 this
  obtain ⟨h3, h4⟩ := h2
  rw [← h4]
  exact (List.set_getElem_self h3).symm
theorem fst_set {b : Tb} {i j : Nat} {c : Int} : (rowsOf fstC b).set i [.int .i64 c] = rowsOf fstC (b.set i (c, j)) := by
  rw [show [AV.int .i64 c] = fstC (c, j) from rfl, rowsOf_set]
theorem snd_set {b : Tb} {i j : Nat} {c : Int} : (rowsOf sndC b).set i [.int .i64 j] = rowsOf sndC (b.set i (c, j)) := by
  rw [show [AV.int .i64 (j : Int)] = sndC (c, j) from rfl, rowsOf_set]
theorem fst_zero {n : Nat} : List.replicate n [AV.int .i64 0] = rowsOf fstC (List.replicate n (0, 0)) := by simp [rowsOf, fstC]
theorem snd_zero {n : Nat} : List.replicate n [AV.int .i64 0] = rowsOf sndC (List.replicate n (0, 0)) := by simp [rowsOf, sndC]
set_option maxHeartbeats 16000000 in
theorem gen_pure (l : List Int) (k : Int) (hl : l.length ≤ 4611686018427387904) : Pure Try.prog 20 [.rs (rowsOf intC l), .int .i64 k] (genV (genR l k)) := by
  refine pure_of mixed Try.func20 rfl (by kernel_rfl) (of_decide_eq_true rfl) (by kernel_rfl) (vc_run ?_)
  ((try simp -implicitDefEqProofs [-loopQ_n]) <;> (repeat' (first | (refine condD_dec ?_ ?_ <;> (intro hc; (try simp -implicitDefEqProofs [-loopQ_n, hc]))) | (refine guardD_dec ?_ ?_ <;> (intro hc; (try simp -implicitDefEqProofs [-loopQ_n, hc]))) | (refine condD_intro ?_ ?_ <;> (intro hd; have hc := hd; (try simp at hc) <;> (try simp -implicitDefEqProofs [-loopQ_n, hd, hc]))) | (refine guardD_intro ?_ ?_ <;> (intro hd; have hc := hd; (try simp at hc) <;> (try simp -implicitDefEqProofs [-loopQ_n, hd, hc]))) | (refine ldD_ep ?_ ?_; (focus kernel_rfl); (try simp -implicitDefEqProofs [-loopQ_n])))))
  refine loop_intro (σ := Nat) (fun i => ⟨[(0, .rs (rowsOf intC l)), (1, .int .i64 k), (16, .rs (rowsOf intC l)), (17, .int .i64 l.length), (18, .int .i64 i)], []⟩)
    (fun i => i ≤ l.length ∧ ∀ j, j < l.length → j < i → badT l j = false) (fun i => l.length - i) 0 ⟨by simp, fun j _ h => by omega⟩ ?_ ?_
  · refine weak_of 0 0 rfl rfl ?_ ?_ <;> simp
  rintro i ⟨hi, hok⟩
  by_cases h : i < l.length
  · have w1 : wrapI .i64 ((i : Int) + 1) = (i : Int) + 1 := wrap_in (by omega) (by omega)
    obtain ⟨x, hx⟩ : ∃ x, l[i] = x := ⟨_, rfl⟩
    have hxl : lat l i = x := by rw [lat_get h, hx]
    by_cases hb : badT l i = true
    · have hR : genR l k = ([], 1) := by simp [genR, timeV_no h hb]
      rw [hR]
      by_cases c1 : x < 0
      · ((try simp -implicitDefEqProofs [-loopQ_n, h, hx, c1, genV, rowsOf]) <;> (repeat' (first | (refine condD_dec ?_ ?_ <;> (intro hc; (try simp -implicitDefEqProofs [-loopQ_n, hc, h, hx, c1, genV, rowsOf]))) | (refine guardD_dec ?_ ?_ <;> (intro hc; (try simp -implicitDefEqProofs [-loopQ_n, hc, h, hx, c1, genV, rowsOf]))) | (refine condD_intro ?_ ?_ <;> (intro hd; have hc := hd; (try simp at hc) <;> (try simp -implicitDefEqProofs [-loopQ_n, hd, hc, h, hx, c1, genV, rowsOf]))) | (refine guardD_intro ?_ ?_ <;> (intro hd; have hc := hd; (try simp at hc) <;> (try simp -implicitDefEqProofs [-loopQ_n, hd, hc, h, hx, c1, genV, rowsOf]))) | (refine ldD_ep ?_ ?_; (focus kernel_rfl); (try simp -implicitDefEqProofs [-loopQ_n, h, hx, c1, genV, rowsOf])))))
      · by_cases c2 : 1099511627776 < x
        · ((try simp -implicitDefEqProofs [-loopQ_n, h, hx, c1, c2, genV, rowsOf]) <;> (repeat' (first | (refine condD_dec ?_ ?_ <;> (intro hc; (try simp -implicitDefEqProofs [-loopQ_n, hc, h, hx, c1, c2, genV, rowsOf]))) | (refine guardD_dec ?_ ?_ <;> (intro hc; (try simp -implicitDefEqProofs [-loopQ_n, hc, h, hx, c1, c2, genV, rowsOf]))) | (refine condD_intro ?_ ?_ <;> (intro hd; have hc := hd; (try simp at hc) <;> (try simp -implicitDefEqProofs [-loopQ_n, hd, hc, h, hx, c1, c2, genV, rowsOf]))) | (refine guardD_intro ?_ ?_ <;> (intro hd; have hc := hd; (try simp at hc) <;> (try simp -implicitDefEqProofs [-loopQ_n, hd, hc, h, hx, c1, c2, genV, rowsOf]))) | (refine ldD_ep ?_ ?_; (focus kernel_rfl); (try simp -implicitDefEqProofs [-loopQ_n, h, hx, c1, c2, genV, rowsOf])))))
        · by_cases c3 : i = 0
          · exfalso
            subst c3
            simp [badT, hxl, c1, c2] at hb
          · obtain ⟨i', hi'⟩ : ∃ i', i = i' + 1 := ⟨i - 1, by omega⟩
            have h' : i' < l.length := by omega
            obtain ⟨y, hy⟩ : ∃ y, l[i'] = y := ⟨_, rfl⟩
            have hyl : lat l (i - 1) = y := by rw [show i - 1 = i' by omega, lat_get h', hy]
            have c4 : x < y := by
              simp only [badT, hxl, hyl, Bool.or_eq_true, Bool.and_eq_true, decide_eq_true_eq] at hb
              omega
            have c5 : (0 : Int) < i := by omega
            have c6 : 0 < i := by omega
            have w2 : wrapI .i64 ((i : Int) - 1) = (i' : Int) := by rw [wrap_in (by omega) (by omega)]; omega
            ((try simp -implicitDefEqProofs [-loopQ_n, h, hx, c1, c2, c4, c5, c6, w2, h', hy, genV, rowsOf]) <;> (repeat' (first | (refine condD_dec ?_ ?_ <;> (intro hc; (try simp -implicitDefEqProofs [-loopQ_n, hc, h, hx, c1, c2, c4, c5, c6, w2, h', hy, genV, rowsOf]))) | (refine guardD_dec ?_ ?_ <;> (intro hc; (try simp -implicitDefEqProofs [-loopQ_n, hc, h, hx, c1, c2, c4, c5, c6, w2, h', hy, genV, rowsOf]))) | (refine condD_intro ?_ ?_ <;> (intro hd; have hc := hd; (try simp at hc) <;> (try simp -implicitDefEqProofs [-loopQ_n, hd, hc, h, hx, c1, c2, c4, c5, c6, w2, h', hy, genV, rowsOf]))) | (refine guardD_intro ?_ ?_ <;> (intro hd; have hc := hd; (try simp at hc) <;> (try simp -implicitDefEqProofs [-loopQ_n, hd, hc, h, hx, c1, c2, c4, c5, c6, w2, h', hy, genV, rowsOf]))) | (refine ldD_ep ?_ ?_; (focus kernel_rfl); (try simp -implicitDefEqProofs [-loopQ_n, h, hx, c1, c2, c4, c5, c6, w2, h', hy, genV, rowsOf])))))
    · have hb : badT l i = false := by simpa using hb
      have hb2 := hb
      simp only [badT, hxl, Bool.or_eq_false_iff, Bool.and_eq_false_iff, decide_eq_false_iff_not] at hb2
      obtain ⟨⟨c1, c2⟩, c3⟩ := hb2
      have hnx : ∀ j, j < l.length → j < i + 1 → badT l j = false := fun j hj hji => by
        by_cases e : j = i
        · subst e; exact hb
        · exact hok j hj (by omega)
      by_cases c4 : i = 0
      · have c5 : ¬ (0 : Int) < i := by omega
        have c6 : ¬ 0 < i := by omega
        ((try simp -implicitDefEqProofs [-loopQ_n, h, hx, c1, c2, c5, c6]) <;> (repeat' (first | (refine condD_dec ?_ ?_ <;> (intro hc; (try simp -implicitDefEqProofs [-loopQ_n, hc, h, hx, c1, c2, c5, c6]))) | (refine guardD_dec ?_ ?_ <;> (intro hc; (try simp -implicitDefEqProofs [-loopQ_n, hc, h, hx, c1, c2, c5, c6]))) | (refine condD_intro ?_ ?_ <;> (intro hd; have hc := hd; (try simp at hc) <;> (try simp -implicitDefEqProofs [-loopQ_n, hd, hc, h, hx, c1, c2, c5, c6]))) | (refine guardD_intro ?_ ?_ <;> (intro hd; have hc := hd; (try simp at hc) <;> (try simp -implicitDefEqProofs [-loopQ_n, hd, hc, h, hx, c1, c2, c5, c6]))) | (refine ldD_ep ?_ ?_; (focus kernel_rfl); (try simp -implicitDefEqProofs [-loopQ_n, h, hx, c1, c2, c5, c6])))))
        refine loop_next (i + 1) ⟨by omega, hnx⟩ (by omega) (weak_of 0 0 rfl rfl ?_ ?_) <;> simp [w1]
      · obtain ⟨i', hi'⟩ : ∃ i', i = i' + 1 := ⟨i - 1, by omega⟩
        have h' : i' < l.length := by omega
        obtain ⟨y, hy⟩ : ∃ y, l[i'] = y := ⟨_, rfl⟩
        have hyl : lat l (i - 1) = y := by rw [show i - 1 = i' by omega, lat_get h', hy]
        rw [hyl] at c3
        have c7 : ¬ x < y := by omega
        have c5 : (0 : Int) < i := by omega
        have c6 : 0 < i := by omega
        have w2 : wrapI .i64 ((i : Int) - 1) = (i' : Int) := by rw [wrap_in (by omega) (by omega)]; omega
        ((try simp -implicitDefEqProofs [-loopQ_n, h, hx, c1, c2, c7, c5, c6, w2, h', hy]) <;> (repeat' (first | (refine condD_dec ?_ ?_ <;> (intro hc; (try simp -implicitDefEqProofs [-loopQ_n, hc, h, hx, c1, c2, c7, c5, c6, w2, h', hy]))) | (refine guardD_dec ?_ ?_ <;> (intro hc; (try simp -implicitDefEqProofs [-loopQ_n, hc, h, hx, c1, c2, c7, c5, c6, w2, h', hy]))) | (refine condD_intro ?_ ?_ <;> (intro hd; have hc := hd; (try simp at hc) <;> (try simp -implicitDefEqProofs [-loopQ_n, hd, hc, h, hx, c1, c2, c7, c5, c6, w2, h', hy]))) | (refine guardD_intro ?_ ?_ <;> (intro hd; have hc := hd; (try simp at hc) <;> (try simp -implicitDefEqProofs [-loopQ_n, hd, hc, h, hx, c1, c2, c7, c5, c6, w2, h', hy]))) | (refine ldD_ep ?_ ?_; (focus kernel_rfl); (try simp -implicitDefEqProofs [-loopQ_n, h, hx, c1, c2, c7, c5, c6, w2, h', hy])))))
        refine loop_next (i + 1) ⟨by omega, hnx⟩ (by omega) (weak_of 0 0 rfl rfl ?_ ?_) <;> simp [w1]
  have hin : i = l.length := by omega
  subst hin
  have hv : timeV l = true := timeV_of fun j hj => hok j hj hj
  clear hok hi
  by_cases k1 : k < 1
  · have hR : genR l k = ([], 2) := by simp [genR, hv, k1]
    rw [hR]
    ((try simp -implicitDefEqProofs [-loopQ_n, k1, genV, rowsOf]) <;> (repeat' (first | (refine condD_dec ?_ ?_ <;> (intro hc; (try simp -implicitDefEqProofs [-loopQ_n, hc, k1, genV, rowsOf]))) | (refine guardD_dec ?_ ?_ <;> (intro hc; (try simp -implicitDefEqProofs [-loopQ_n, hc, k1, genV, rowsOf]))) | (refine condD_intro ?_ ?_ <;> (intro hd; have hc := hd; (try simp at hc) <;> (try simp -implicitDefEqProofs [-loopQ_n, hd, hc, k1, genV, rowsOf]))) | (refine guardD_intro ?_ ?_ <;> (intro hd; have hc := hd; (try simp at hc) <;> (try simp -implicitDefEqProofs [-loopQ_n, hd, hc, k1, genV, rowsOf]))) | (refine ldD_ep ?_ ?_; (focus kernel_rfl); (try simp -implicitDefEqProofs [-loopQ_n, k1, genV, rowsOf])))))
  by_cases k2 : 1000 < k
  · have hR : genR l k = ([], 2) := by simp [genR, hv, k2]
    rw [hR]
    ((try simp -implicitDefEqProofs [-loopQ_n, k1, k2, genV, rowsOf]) <;> (repeat' (first | (refine condD_dec ?_ ?_ <;> (intro hc; (try simp -implicitDefEqProofs [-loopQ_n, hc, k1, k2, genV, rowsOf]))) | (refine guardD_dec ?_ ?_ <;> (intro hc; (try simp -implicitDefEqProofs [-loopQ_n, hc, k1, k2, genV, rowsOf]))) | (refine condD_intro ?_ ?_ <;> (intro hd; have hc := hd; (try simp at hc) <;> (try simp -implicitDefEqProofs [-loopQ_n, hd, hc, k1, k2, genV, rowsOf]))) | (refine guardD_intro ?_ ?_ <;> (intro hd; have hc := hd; (try simp at hc) <;> (try simp -implicitDefEqProofs [-loopQ_n, hd, hc, k1, k2, genV, rowsOf]))) | (refine ldD_ep ?_ ?_; (focus kernel_rfl); (try simp -implicitDefEqProofs [-loopQ_n, k1, k2, genV, rowsOf])))))
  by_cases n1 : 300 < l.length
  · have hR : genR l k = ([], 5) := by simp [genR, hv, k1, k2, n1]
    rw [hR]
    have n1' : (300 : Int) < l.length := by omega
    ((try simp -implicitDefEqProofs [-loopQ_n, k1, k2, n1, n1', genV, rowsOf]) <;> (repeat' (first | (refine condD_dec ?_ ?_ <;> (intro hc; (try simp -implicitDefEqProofs [-loopQ_n, hc, k1, k2, n1, n1', genV, rowsOf]))) | (refine guardD_dec ?_ ?_ <;> (intro hc; (try simp -implicitDefEqProofs [-loopQ_n, hc, k1, k2, n1, n1', genV, rowsOf]))) | (refine condD_intro ?_ ?_ <;> (intro hd; have hc := hd; (try simp at hc) <;> (try simp -implicitDefEqProofs [-loopQ_n, hd, hc, k1, k2, n1, n1', genV, rowsOf]))) | (refine guardD_intro ?_ ?_ <;> (intro hd; have hc := hd; (try simp at hc) <;> (try simp -implicitDefEqProofs [-loopQ_n, hd, hc, k1, k2, n1, n1', genV, rowsOf]))) | (refine ldD_ep ?_ ?_; (focus kernel_rfl); (try simp -implicitDefEqProofs [-loopQ_n, k1, k2, n1, n1', genV, rowsOf])))))
  have n1' : ¬ (300 : Int) < l.length := by omega
  by_cases n2 : l.length = 0
  · have hR : genR l k = ([], 0) := by simp [genR, hv, k1, k2, n2]
    rw [hR]
    have n2' : (l.length : Int) = 0 := by omega
    ((try simp -implicitDefEqProofs [-loopQ_n, k1, k2, n1', n2, n2', genV, rowsOf]) <;> (repeat' (first | (refine condD_dec ?_ ?_ <;> (intro hc; (try simp -implicitDefEqProofs [-loopQ_n, hc, k1, k2, n1', n2, n2', genV, rowsOf]))) | (refine guardD_dec ?_ ?_ <;> (intro hc; (try simp -implicitDefEqProofs [-loopQ_n, hc, k1, k2, n1', n2, n2', genV, rowsOf]))) | (refine condD_intro ?_ ?_ <;> (intro hd; have hc := hd; (try simp at hc) <;> (try simp -implicitDefEqProofs [-loopQ_n, hd, hc, k1, k2, n1', n2, n2', genV, rowsOf]))) | (refine guardD_intro ?_ ?_ <;> (intro hd; have hc := hd; (try simp at hc) <;> (try simp -implicitDefEqProofs [-loopQ_n, hd, hc, k1, k2, n1', n2, n2', genV, rowsOf]))) | (refine ldD_ep ?_ ?_; (focus kernel_rfl); (try simp -implicitDefEqProofs [-loopQ_n, k1, k2, n1', n2, n2', genV, rowsOf])))))
  have n2' : ¬ (l.length : Int) = 0 := by omega
  by_cases n3 : (l.length : Int) < k
  · have hR : genR l k = ([], 10) := by simp only [genR, hv, n1, n2, n3]; simp [k1, k2]
    rw [hR]
    ((try simp -implicitDefEqProofs [-loopQ_n, k1, k2, n1', n2, n2', n3, genV, rowsOf]) <;> (repeat' (first | (refine condD_dec ?_ ?_ <;> (intro hc; (try simp -implicitDefEqProofs [-loopQ_n, hc, k1, k2, n1', n2, n2', n3, genV, rowsOf]))) | (refine guardD_dec ?_ ?_ <;> (intro hc; (try simp -implicitDefEqProofs [-loopQ_n, hc, k1, k2, n1', n2, n2', n3, genV, rowsOf]))) | (refine condD_intro ?_ ?_ <;> (intro hd; have hc := hd; (try simp at hc) <;> (try simp -implicitDefEqProofs [-loopQ_n, hd, hc, k1, k2, n1', n2, n2', n3, genV, rowsOf]))) | (refine guardD_intro ?_ ?_ <;> (intro hd; have hc := hd; (try simp at hc) <;> (try simp -implicitDefEqProofs [-loopQ_n, hd, hc, k1, k2, n1', n2, n2', n3, genV, rowsOf]))) | (refine ldD_ep ?_ ?_; (focus kernel_rfl); (try simp -implicitDefEqProofs [-loopQ_n, k1, k2, n1', n2, n2', n3, genV, rowsOf])))))
  obtain ⟨K, hK⟩ : ∃ K : Nat, k = K := ⟨k.toNat, by omega⟩
  subst hK
  have hR : genR l K = (gpath l (tabT l K) (l.length + 1) 0, 0) := by
    have q1 : ¬ ((K : Int) < 1 ∨ (1000 : Int) < K) := by omega
    unfold genR
    rw [if_neg (by rw [hv]; simp), if_neg q1, if_neg n1, if_neg n2, if_neg n3, Int.toNat_natCast]
  rw [hR]
  have hk1 : 1 ≤ K := by omega
  obtain ⟨M, hM⟩ : ∃ M, M = l.length + 1 := ⟨_, rfl⟩
  have w3 : wrapI .i64 ((l.length : Int) + 1) = (M : Int) := by rw [wrap_in (by omega) (by omega)]; omega
  have w4 : wrapI .i64 ((l.length : Int) - 1) = (l.length : Int) - 1 := wrap_in (by omega) (by omega)
  have n4 : (M : Int) ≤ 1073741824 := by omega
  ((try simp -implicitDefEqProofs [-loopQ_n, k1, k2, n1', n2, n2', n3, w3, w4, n4]) <;> (repeat' (first | (refine condD_dec ?_ ?_ <;> (intro hc; (try simp -implicitDefEqProofs [-loopQ_n, hc, k1, k2, n1', n2, n2', n3, w3, w4, n4]))) | (refine guardD_dec ?_ ?_ <;> (intro hc; (try simp -implicitDefEqProofs [-loopQ_n, hc, k1, k2, n1', n2, n2', n3, w3, w4, n4]))) | (refine condD_intro ?_ ?_ <;> (intro hd; have hc := hd; (try simp at hc) <;> (try simp -implicitDefEqProofs [-loopQ_n, hd, hc, k1, k2, n1', n2, n2', n3, w3, w4, n4]))) | (refine guardD_intro ?_ ?_ <;> (intro hd; have hc := hd; (try simp at hc) <;> (try simp -implicitDefEqProofs [-loopQ_n, hd, hc, k1, k2, n1', n2, n2', n3, w3, w4, n4]))) | (refine ldD_ep ?_ ?_; (focus kernel_rfl); (try simp -implicitDefEqProofs [-loopQ_n, k1, k2, n1', n2, n2', n3, w3, w4, n4])))))
  have hT0 : gtab l K l.length (List.replicate M (0, 0)) = tabT l K := by rw [hM]; rfl
  have hI0 : TabI l K l.length (List.replicate M (0, 0)) := by rw [hM]; exact TabI.start
  refine loop_intro (σ := Nat × Tb) (fun x => ⟨[(0, .rs (rowsOf intC l)), (1, .int .i64 K), (8, .int .i64 l.length), (9, .os 0 M), (10, .os 1 M), (11, .int .i64 ((x.1 : Int) - 1))], [.row 3 false (rowsOf fstC x.2), .row 3 false (rowsOf sndC x.2)]⟩)
    (fun x => x.1 ≤ l.length ∧ TabI l K x.1 x.2 ∧ gtab l K x.1 x.2 = tabT l K) (fun x => x.1) (l.length, List.replicate M (0, 0)) ⟨Nat.le_refl _, hI0, hT0⟩ ?_ ?_
  · refine weak_of 2 0 rfl rfl ?_ ?_
    · simp
    · simp only [← fst_zero, ← snd_zero]
      simp [refsR, refs]
  rintro ⟨i, b⟩ ⟨hi, hT, hG⟩
  simp only at hi hT hG
  have hbl : b.length = M := by rw [hT.len, hM]
  cases i with
  | zero =>
    simp only [gtab] at hG
    subst hG
    have g1 : ¬ (0 : Int) ≤ -1 := by omega
    ((try simp -implicitDefEqProofs [-loopQ_n, g1]) <;> (repeat' (first | (refine condD_dec ?_ ?_ <;> (intro hc; (try simp -implicitDefEqProofs [-loopQ_n, hc, g1]))) | (refine guardD_dec ?_ ?_ <;> (intro hc; (try simp -implicitDefEqProofs [-loopQ_n, hc, g1]))) | (refine condD_intro ?_ ?_ <;> (intro hd; have hc := hd; (try simp at hc) <;> (try simp -implicitDefEqProofs [-loopQ_n, hd, hc, g1]))) | (refine guardD_intro ?_ ?_ <;> (intro hd; have hc := hd; (try simp at hc) <;> (try simp -implicitDefEqProofs [-loopQ_n, hd, hc, g1]))) | (refine ldD_ep ?_ ?_; (focus kernel_rfl); (try simp -implicitDefEqProofs [-loopQ_n, g1])))))
    have hz : 0 ≤ (tat (tabT l K) 0).1 := (hT.done 0 (Nat.le_refl _) (by omega)).1 (by omega)
    have hfu := fun i (h0 : 1 ≤ i) h1 h2 => gpath_fuel hT hk1 (l.length + 1) l.length i (by omega) (by omega) h1 h2
    generalize tabT l K = b at *
    generalize hP : gpath l b (l.length + 1) 0 = P
    refine loop_intro (σ := Nat × List (Int × Int)) (fun x => ⟨[(0, .rs (rowsOf intC l)), (8, .int .i64 l.length), (10, .os 1 M), (14, .os 2 x.2.length), (15, .int .i64 x.1)], [.gone, .row 3 false (rowsOf sndC b), .row 46 true (rowsOf spnC x.2)]⟩)
      (fun x => x.1 ≤ l.length ∧ x.2.length ≤ x.1 ∧ 0 ≤ (tat b x.1).1 ∧ x.2 ++ gpath l b (l.length + 1) x.1 = P) (fun x => l.length - x.1) (0, []) ⟨by simp, by simp, hz, by simpa using hP⟩ ?_ ?_
    · refine weak_of 2 1 rfl rfl ?_ ?_ <;> simp [snd_refs, rowsOf_nil]
    clear hP hz
    rintro ⟨i, out⟩ ⟨hi, hol, h0, hP⟩
    simp only at hi hol h0 hP
    by_cases h : i < l.length
    · obtain ⟨q1, q2, q3⟩ := (hT.done i (Nat.zero_le _) h).2 h0
      obtain ⟨e, he⟩ : ∃ e, (tat b i).2 = e := ⟨_, rfl⟩
      rw [he] at q1 q2 q3
      have hib : i < b.length := by omega
      have hbi : b[i].2 = e := by rw [← tat_get hib]; exact he
      obtain ⟨e', he'⟩ : ∃ e', e' = e - 1 := ⟨_, rfl⟩
      have h' : e' < l.length := by omega
      obtain ⟨x, hx⟩ : ∃ x, l[i] = x := ⟨_, rfl⟩
      obtain ⟨y, hy⟩ : ∃ y, l[e'] = y := ⟨_, rfl⟩
      have a1 := timeV_at hv h'
      rw [lat_get h', hy] at a1
      have w6 : wrapI .i64 ((e : Int) - 1) = (e' : Int) := by rw [wrap_in (by omega) (by omega)]; omega
      have w7 : wrapI .i64 (y + 1) = y + 1 := wrap_in (by omega) (by omega)
      have hol2 : out.length ≤ 1073741823 := by omega
      have hiM : i < M := by omega
      have hrow : rowsOf spnC out ++ [[.int .i64 x, .int .i64 (y + 1)]] = rowsOf spnC (out ++ [(x, y + 1)]) := by
        rw [← rowsOf_snoc]; rfl
      ((try simp -implicitDefEqProofs [-loopQ_n, h, hx, hbl, hib, hiM, hbi, w6, w7, h', hy, hol2, sndC, hrow]) <;> (repeat' (first | (refine condD_dec ?_ ?_ <;> (intro hc; (try simp -implicitDefEqProofs [-loopQ_n, hc, h, hx, hbl, hib, hiM, hbi, w6, w7, h', hy, hol2, sndC, hrow]))) | (refine guardD_dec ?_ ?_ <;> (intro hc; (try simp -implicitDefEqProofs [-loopQ_n, hc, h, hx, hbl, hib, hiM, hbi, w6, w7, h', hy, hol2, sndC, hrow]))) | (refine condD_intro ?_ ?_ <;> (intro hd; have hc := hd; (try simp at hc) <;> (try simp -implicitDefEqProofs [-loopQ_n, hd, hc, h, hx, hbl, hib, hiM, hbi, w6, w7, h', hy, hol2, sndC, hrow]))) | (refine guardD_intro ?_ ?_ <;> (intro hd; have hc := hd; (try simp at hc) <;> (try simp -implicitDefEqProofs [-loopQ_n, hd, hc, h, hx, hbl, hib, hiM, hbi, w6, w7, h', hy, hol2, sndC, hrow]))) | (refine ldD_ep ?_ ?_; (focus kernel_rfl); (try simp -implicitDefEqProofs [-loopQ_n, h, hx, hbl, hib, hiM, hbi, w6, w7, h', hy, hol2, sndC, hrow])))))
      refine loop_next (e, out ++ [(x, y + 1)]) ⟨q2, by simp; omega, q3, ?_⟩ (by simp only; omega) (weak_of 3 0 rfl rfl ?_ ?_)
      · rw [← hP]
        conv => rhs; rw [gpath, if_pos h, he, ← he', lat_get h, hx, lat_get h', hy]
        rw [List.append_assoc, List.singleton_append, hfu e (by omega) q2 q3]
      · simp
      · simp [snd_refs, spn_refs]
    · have hil : i = l.length := by omega
      subst hil
      rw [gpath, if_neg h, List.append_nil] at hP
      subst hP
      ((try simp -implicitDefEqProofs [-loopQ_n, h, genV, spn_reify]) <;> (repeat' (first | (refine condD_dec ?_ ?_ <;> (intro hc; (try simp -implicitDefEqProofs [-loopQ_n, hc, h, genV, spn_reify]))) | (refine guardD_dec ?_ ?_ <;> (intro hc; (try simp -implicitDefEqProofs [-loopQ_n, hc, h, genV, spn_reify]))) | (refine condD_intro ?_ ?_ <;> (intro hd; have hc := hd; (try simp at hc) <;> (try simp -implicitDefEqProofs [-loopQ_n, hd, hc, h, genV, spn_reify]))) | (refine guardD_intro ?_ ?_ <;> (intro hd; have hc := hd; (try simp at hc) <;> (try simp -implicitDefEqProofs [-loopQ_n, hd, hc, h, genV, spn_reify]))) | (refine ldD_ep ?_ ?_; (focus kernel_rfl); (try simp -implicitDefEqProofs [-loopQ_n, h, genV, spn_reify])))))
  | succ i =>
    simp only [gtab] at hG
    have hil : i < l.length := by omega
    have hib : i < b.length := by omega
    have hRT := hT.row hil hk1
    have e1 := fst_start hib
    have e2 := snd_start hib
    have hgl : (gstart b i).length = M := by rw [hRT.len, hM]
    generalize hb1 : gstart b i = b1 at *
    have w5 : wrapI .i64 ((i : Int) + K) = ((i + K : Nat) : Int) := by rw [wrap_in (by omega) (by omega)]; omega
    obtain ⟨j0, hj0⟩ : ∃ j0, j0 = i + K := ⟨_, rfl⟩
    rw [← hj0] at w5 hRT hG
    have h1 : i < M := by omega
    have h2 : (0 : Int) ≤ i := by omega
    have w6 : wrapI .i64 ((i : Int) - 1) = (i : Int) - 1 := wrap_in (by omega) (by omega)
    ((try simp -implicitDefEqProofs [-loopQ_n, hbl, hib, fstC, e1, h1, h2, w5]) <;> (repeat' (first | (refine condD_dec ?_ ?_ <;> (intro hc; (try simp -implicitDefEqProofs [-loopQ_n, hc, hbl, hib, fstC, e1, h1, h2, w5]))) | (refine guardD_dec ?_ ?_ <;> (intro hc; (try simp -implicitDefEqProofs [-loopQ_n, hc, hbl, hib, fstC, e1, h1, h2, w5]))) | (refine condD_intro ?_ ?_ <;> (intro hd; have hc := hd; (try simp at hc) <;> (try simp -implicitDefEqProofs [-loopQ_n, hd, hc, hbl, hib, fstC, e1, h1, h2, w5]))) | (refine guardD_intro ?_ ?_ <;> (intro hd; have hc := hd; (try simp at hc) <;> (try simp -implicitDefEqProofs [-loopQ_n, hd, hc, hbl, hib, fstC, e1, h1, h2, w5]))) | (refine ldD_ep ?_ ?_; (focus kernel_rfl); (try simp -implicitDefEqProofs [-loopQ_n, hbl, hib, fstC, e1, h1, h2, w5])))))
    rw [e2]
    generalize hB : ginner l i (l.length + 1 - j0) j0 b1 = B at hG
    clear e1 e2 hb1 hib hbl hT
    refine loop_intro (σ := Nat × Tb) (fun x => ⟨[(0, .rs (rowsOf intC l)), (1, .int .i64 K), (8, .int .i64 l.length), (9, .os 0 M), (10, .os 1 M), (11, .int .i64 i), (12, .int .i64 x.1)], [.row 3 false (rowsOf fstC x.2), .row 3 false (rowsOf sndC x.2)]⟩)
      (fun x => j0 ≤ x.1 ∧ x.1 ≤ 2000000 ∧ RowT l K i x.1 x.2 ∧ ginner l i (l.length + 1 - x.1) x.1 x.2 = B) (fun x => l.length + 1 - x.1) (j0, b1) ⟨Nat.le_refl _, by omega, hRT, hB⟩ ?_ ?_
    · refine weak_of 2 0 rfl rfl ?_ ?_ <;> simp [fst_refs, snd_refs]
    clear hRT hB hgl b1
    rintro ⟨j, b⟩ ⟨hj, hjm, hR, hB⟩
    simp only at hj hjm hR hB
    have hbl : b.length = M := by rw [hR.len, hM]
    by_cases hjn : j ≤ l.length
    rotate_left
    · have hjn' : ¬ (j : Int) ≤ l.length := by omega
      rw [show l.length + 1 - j = 0 by omega, ginner] at hB
      subst hB
      ((try simp -implicitDefEqProofs [-loopQ_n, hjn, hjn', w6]) <;> (repeat' (first | (refine condD_dec ?_ ?_ <;> (intro hc; (try simp -implicitDefEqProofs [-loopQ_n, hc, hjn, hjn', w6]))) | (refine guardD_dec ?_ ?_ <;> (intro hc; (try simp -implicitDefEqProofs [-loopQ_n, hc, hjn, hjn', w6]))) | (refine condD_intro ?_ ?_ <;> (intro hd; have hc := hd; (try simp at hc) <;> (try simp -implicitDefEqProofs [-loopQ_n, hd, hc, hjn, hjn', w6]))) | (refine guardD_intro ?_ ?_ <;> (intro hd; have hc := hd; (try simp at hc) <;> (try simp -implicitDefEqProofs [-loopQ_n, hd, hc, hjn, hjn', w6]))) | (refine ldD_ep ?_ ?_; (focus kernel_rfl); (try simp -implicitDefEqProofs [-loopQ_n, hjn, hjn', w6])))))
      refine loop_next (i, b) ⟨by simp only; omega, hR.tab (by omega), hG⟩ (by simp only; omega) (weak_of 2 0 rfl rfl ?_ ?_)
      · simp [w6]
      · simp [fst_refs, snd_refs]
    have w7 : wrapI .i64 ((j : Int) + 1) = (j : Int) + 1 := wrap_in (by omega) (by omega)
    obtain ⟨jj, hjj⟩ : ∃ jj, jj = j - 1 := ⟨_, rfl⟩
    have w8 : wrapI .i64 ((j : Int) - 1) = (jj : Int) := by rw [wrap_in (by omega) (by omega)]; omega
    have hjb : j < b.length := by omega
    have hib : i < b.length := by omega
    have hjM : j < M := by omega
    have hjl : jj < l.length := by omega
    obtain ⟨⟨cj, ej⟩, hcj⟩ : ∃ x, b[j] = x := ⟨_, rfl⟩
    obtain ⟨⟨ci, ei⟩, hci⟩ : ∃ x, b[i] = x := ⟨_, rfl⟩
    have tj : tat b j = (cj, ej) := by rw [tat_get hjb, hcj]
    have ti : tat b i = (ci, ei) := by rw [tat_get hib, hci]
    obtain ⟨x, hx⟩ : ∃ x, l[i] = x := ⟨_, rfl⟩
    obtain ⟨y, hy⟩ : ∃ y, l[jj] = y := ⟨_, rfl⟩
    have lx : lat l i = x := by rw [lat_get hil, hx]
    have ly : lat l (j - 1) = y := by rw [← hjj, lat_get hjl, hy]
    have hst := hR.step hv hk1 (by omega) hjn
    rw [show l.length + 1 - j = (l.length + 1 - (j + 1)) + 1 by omega, ginner] at hB
    have hskip : ∀ (s2 : St), gstep l i b j = b → cvT 2 0 s2.T [(0, .rs (rowsOf intC l)), (1, .int .i64 K), (8, .int .i64 l.length), (9, .os 0 M), (10, .os 1 M), (11, .int .i64 i), (12, .int .i64 (j + 1 : Nat))] → s2.H = [.row 3 false (rowsOf fstC b), .row 3 false (rowsOf sndC b)] →
        ∃ z : Nat × Tb, (j0 ≤ z.1 ∧ z.1 ≤ 2000000 ∧ RowT l K i z.1 z.2 ∧ ginner l i (l.length + 1 - z.1) z.1 z.2 = B) ∧ l.length + 1 - z.1 < l.length + 1 - j ∧ Weak Try.prog 0 s2 ⟨[(0, .rs (rowsOf intC l)), (1, .int .i64 K), (8, .int .i64 l.length), (9, .os 0 M), (10, .os 1 M), (11, .int .i64 i), (12, .int .i64 z.1)], [.row 3 false (rowsOf fstC z.2), .row 3 false (rowsOf sndC z.2)]⟩ := fun s2 he hT hH => by
      rw [he] at hst hB
      refine ⟨(j + 1, b), ⟨by simp only; omega, by simp only; omega, hst, hB⟩, by simp only; omega, weak_of 2 0 (by rw [hH]; rfl) rfl hT ?_⟩
      rw [hH]; simp [fst_refs, snd_refs]
    by_cases c1 : cj < 0
    · have hsk : gstep l i b j = b := by unfold gstep; rw [if_pos (by unfold skipT; rw [tj]; exact .inl c1)]
      ((try simp -implicitDefEqProofs [-loopQ_n, hbl, hjb, hcj, hjM, fstC, c1, hjn, w7, w8]) <;> (repeat' (first | (refine condD_dec ?_ ?_ <;> (intro hc; (try simp -implicitDefEqProofs [-loopQ_n, hc, hbl, hjb, hcj, hjM, fstC, c1, hjn, w7, w8]))) | (refine guardD_dec ?_ ?_ <;> (intro hc; (try simp -implicitDefEqProofs [-loopQ_n, hc, hbl, hjb, hcj, hjM, fstC, c1, hjn, w7, w8]))) | (refine condD_intro ?_ ?_ <;> (intro hd; have hc := hd; (try simp at hc) <;> (try simp -implicitDefEqProofs [-loopQ_n, hd, hc, hbl, hjb, hcj, hjM, fstC, c1, hjn, w7, w8]))) | (refine guardD_intro ?_ ?_ <;> (intro hd; have hc := hd; (try simp at hc) <;> (try simp -implicitDefEqProofs [-loopQ_n, hd, hc, hbl, hjb, hcj, hjM, fstC, c1, hjn, w7, w8]))) | (refine ldD_ep ?_ ?_; (focus kernel_rfl); (try simp -implicitDefEqProofs [-loopQ_n, hbl, hjb, hcj, hjM, fstC, c1, hjn, w7, w8])))))
      exact hskip _ hsk (by simp [w7]) rfl
    have hj0' : 0 ≤ cj := by omega
    obtain ⟨p1, p2, p3, p4, p5, p6⟩ := hR.cost hv hk1 (by omega) hjn (by rw [tj]; exact hj0')
    unfold costAt at p1 p2
    rw [tj, ly, lx] at p1 p2
    rw [ly, lx] at p3 p4 p5 p6
    simp only at p1 p2
    obtain ⟨D, hD⟩ : ∃ D, D = j - i := ⟨_, rfl⟩
    rw [← hD] at p1 p2 p5 p6
    obtain ⟨q, hq⟩ : ∃ q, q = y - x := ⟨_, rfl⟩
    rw [← hq] at p1 p2 p3 p4 p5 p6
    obtain ⟨r, hr⟩ : ∃ r, r = (D : Int) * q := ⟨_, rfl⟩
    rw [← hr] at p1 p2 p5 p6
    obtain ⟨c, hc⟩ : ∃ c, c = cj + r := ⟨_, rfl⟩
    rw [← hc] at p1 p2
    have hcost : costAt l i b j = c := by unfold costAt; rw [tj, ly, lx, hc, hr, hq, hD]
    have v1 : wrapI .i64 ((j : Int) - i) = (D : Int) := by rw [wrap_in (by omega) (by omega)]; omega
    have v2 : wrapI .i64 (y - x) = q := by rw [wrap_in (by omega) (by omega)]; omega
    have v3 : wrapI .i64 ((D : Int) * q) = r := by rw [wrap_in (by omega) (by omega)]; omega
    have v4 : wrapI .i64 (cj + r) = c := by rw [wrap_in (by omega) (by omega)]; omega
    have hbet : ∀ (s2 : St), gstep l i b j = b.set i (c, j) → cvT 2 0 s2.T [(0, .rs (rowsOf intC l)), (1, .int .i64 K), (8, .int .i64 l.length), (9, .os 0 M), (10, .os 1 M), (11, .int .i64 i), (12, .int .i64 (j + 1 : Nat))] → s2.H = [.row 3 false ((rowsOf fstC b).set i [.int .i64 c]), .row 3 false ((rowsOf sndC b).set i [.int .i64 j])] →
        ∃ z : Nat × Tb, (j0 ≤ z.1 ∧ z.1 ≤ 2000000 ∧ RowT l K i z.1 z.2 ∧ ginner l i (l.length + 1 - z.1) z.1 z.2 = B) ∧ l.length + 1 - z.1 < l.length + 1 - j ∧ Weak Try.prog 0 s2 ⟨[(0, .rs (rowsOf intC l)), (1, .int .i64 K), (8, .int .i64 l.length), (9, .os 0 M), (10, .os 1 M), (11, .int .i64 i), (12, .int .i64 z.1)], [.row 3 false (rowsOf fstC z.2), .row 3 false (rowsOf sndC z.2)]⟩ := fun s2 he hT hH => by
      rw [he] at hst hB
      rw [fst_set (j := j), snd_set (c := c)] at hH
      refine ⟨(j + 1, b.set i (c, j)), ⟨by simp only; omega, by simp only; omega, hst, hB⟩, by simp only; omega, weak_of 2 0 (by rw [hH]; rfl) rfl hT ?_⟩
      rw [hH]; simp [fst_refs, snd_refs]
    have hno : ∀ (hsk : ¬ skipT l b j), ¬ ci < 0 → ¬ c < ci → gstep l i b j = b := fun hsk a1 a2 => by
      unfold gstep; rw [if_neg hsk, if_neg (by unfold betterT; rw [ti, hcost]; simp only; omega)]
    have hyes : ∀ (hsk : ¬ skipT l b j), (ci < 0 ∨ c < ci) → gstep l i b j = b.set i (c, j) := fun hsk a1 => by
      unfold gstep; rw [if_neg hsk, if_pos (by unfold betterT; rw [ti, hcost]; exact a1), hcost]
    by_cases c2 : j < l.length
    · obtain ⟨z, hz⟩ : ∃ z, l[j] = z := ⟨_, rfl⟩
      have lz : lat l j = z := by rw [lat_get c2, hz]
      by_cases c3 : y = z
      · have hsk : gstep l i b j = b := by unfold gstep; rw [if_pos (by unfold skipT; rw [ly, lz]; exact .inr ⟨c2, c3⟩)]
        ((try simp -implicitDefEqProofs [-loopQ_n, hbl, hjb, hcj, hjM, fstC, c1, c2, c3, hz, hy, hjl, hjn, w7, w8]) <;> (repeat' (first | (refine condD_dec ?_ ?_ <;> (intro hc; (try simp -implicitDefEqProofs [-loopQ_n, hc, hbl, hjb, hcj, hjM, fstC, c1, c2, c3, hz, hy, hjl, hjn, w7, w8]))) | (refine guardD_dec ?_ ?_ <;> (intro hc; (try simp -implicitDefEqProofs [-loopQ_n, hc, hbl, hjb, hcj, hjM, fstC, c1, c2, c3, hz, hy, hjl, hjn, w7, w8]))) | (refine condD_intro ?_ ?_ <;> (intro hd; have hc := hd; (try simp at hc) <;> (try simp -implicitDefEqProofs [-loopQ_n, hd, hc, hbl, hjb, hcj, hjM, fstC, c1, c2, c3, hz, hy, hjl, hjn, w7, w8]))) | (refine guardD_intro ?_ ?_ <;> (intro hd; have hc := hd; (try simp at hc) <;> (try simp -implicitDefEqProofs [-loopQ_n, hd, hc, hbl, hjb, hcj, hjM, fstC, c1, c2, c3, hz, hy, hjl, hjn, w7, w8]))) | (refine ldD_ep ?_ ?_; (focus kernel_rfl); (try simp -implicitDefEqProofs [-loopQ_n, hbl, hjb, hcj, hjM, fstC, c1, c2, c3, hz, hy, hjl, hjn, w7, w8])))))
        exact hskip _ hsk (by simp [w7]) rfl
      · have hsk : ¬ skipT l b j := by unfold skipT; rw [tj, ly, lz]; simp only; omega
        by_cases c4 : ci < 0
        · ((try simp -implicitDefEqProofs [-loopQ_n, hbl, hjb, hib, hcj, hci, hjM, h1, fstC, sndC, c1, c2, c3, c4, hz, hy, hx, hil, hjl, hjn, w7, w8, v1, v2, v3, v4]) <;> (repeat' (first | (refine condD_dec ?_ ?_ <;> (intro hc; (try simp -implicitDefEqProofs [-loopQ_n, hc, hbl, hjb, hib, hcj, hci, hjM, h1, fstC, sndC, c1, c2, c3, c4, hz, hy, hx, hil, hjl, hjn, w7, w8, v1, v2, v3, v4]))) | (refine guardD_dec ?_ ?_ <;> (intro hc; (try simp -implicitDefEqProofs [-loopQ_n, hc, hbl, hjb, hib, hcj, hci, hjM, h1, fstC, sndC, c1, c2, c3, c4, hz, hy, hx, hil, hjl, hjn, w7, w8, v1, v2, v3, v4]))) | (refine condD_intro ?_ ?_ <;> (intro hd; have hc := hd; (try simp at hc) <;> (try simp -implicitDefEqProofs [-loopQ_n, hd, hc, hbl, hjb, hib, hcj, hci, hjM, h1, fstC, sndC, c1, c2, c3, c4, hz, hy, hx, hil, hjl, hjn, w7, w8, v1, v2, v3, v4]))) | (refine guardD_intro ?_ ?_ <;> (intro hd; have hc := hd; (try simp at hc) <;> (try simp -implicitDefEqProofs [-loopQ_n, hd, hc, hbl, hjb, hib, hcj, hci, hjM, h1, fstC, sndC, c1, c2, c3, c4, hz, hy, hx, hil, hjl, hjn, w7, w8, v1, v2, v3, v4]))) | (refine ldD_ep ?_ ?_; (focus kernel_rfl); (try simp -implicitDefEqProofs [-loopQ_n, hbl, hjb, hib, hcj, hci, hjM, h1, fstC, sndC, c1, c2, c3, c4, hz, hy, hx, hil, hjl, hjn, w7, w8, v1, v2, v3, v4])))))
          exact hbet _ (hyes hsk (.inl c4)) (by simp [w7]) rfl
        · by_cases c5 : c < ci
          · ((try simp -implicitDefEqProofs [-loopQ_n, hbl, hjb, hib, hcj, hci, hjM, h1, fstC, sndC, c1, c2, c3, c4, c5, hz, hy, hx, hil, hjl, hjn, w7, w8, v1, v2, v3, v4]) <;> (repeat' (first | (refine condD_dec ?_ ?_ <;> (intro hc; (try simp -implicitDefEqProofs [-loopQ_n, hc, hbl, hjb, hib, hcj, hci, hjM, h1, fstC, sndC, c1, c2, c3, c4, c5, hz, hy, hx, hil, hjl, hjn, w7, w8, v1, v2, v3, v4]))) | (refine guardD_dec ?_ ?_ <;> (intro hc; (try simp -implicitDefEqProofs [-loopQ_n, hc, hbl, hjb, hib, hcj, hci, hjM, h1, fstC, sndC, c1, c2, c3, c4, c5, hz, hy, hx, hil, hjl, hjn, w7, w8, v1, v2, v3, v4]))) | (refine condD_intro ?_ ?_ <;> (intro hd; have hc := hd; (try simp at hc) <;> (try simp -implicitDefEqProofs [-loopQ_n, hd, hc, hbl, hjb, hib, hcj, hci, hjM, h1, fstC, sndC, c1, c2, c3, c4, c5, hz, hy, hx, hil, hjl, hjn, w7, w8, v1, v2, v3, v4]))) | (refine guardD_intro ?_ ?_ <;> (intro hd; have hc := hd; (try simp at hc) <;> (try simp -implicitDefEqProofs [-loopQ_n, hd, hc, hbl, hjb, hib, hcj, hci, hjM, h1, fstC, sndC, c1, c2, c3, c4, c5, hz, hy, hx, hil, hjl, hjn, w7, w8, v1, v2, v3, v4]))) | (refine ldD_ep ?_ ?_; (focus kernel_rfl); (try simp -implicitDefEqProofs [-loopQ_n, hbl, hjb, hib, hcj, hci, hjM, h1, fstC, sndC, c1, c2, c3, c4, c5, hz, hy, hx, hil, hjl, hjn, w7, w8, v1, v2, v3, v4])))))
            exact hbet _ (hyes hsk (.inr c5)) (by simp [w7]) rfl
          · ((try simp -implicitDefEqProofs [-loopQ_n, hbl, hjb, hib, hcj, hci, hjM, h1, fstC, sndC, c1, c2, c3, c4, c5, hz, hy, hx, hil, hjl, hjn, w7, w8, v1, v2, v3, v4]) <;> (repeat' (first | (refine condD_dec ?_ ?_ <;> (intro hc; (try simp -implicitDefEqProofs [-loopQ_n, hc, hbl, hjb, hib, hcj, hci, hjM, h1, fstC, sndC, c1, c2, c3, c4, c5, hz, hy, hx, hil, hjl, hjn, w7, w8, v1, v2, v3, v4]))) | (refine guardD_dec ?_ ?_ <;> (intro hc; (try simp -implicitDefEqProofs [-loopQ_n, hc, hbl, hjb, hib, hcj, hci, hjM, h1, fstC, sndC, c1, c2, c3, c4, c5, hz, hy, hx, hil, hjl, hjn, w7, w8, v1, v2, v3, v4]))) | (refine condD_intro ?_ ?_ <;> (intro hd; have hc := hd; (try simp at hc) <;> (try simp -implicitDefEqProofs [-loopQ_n, hd, hc, hbl, hjb, hib, hcj, hci, hjM, h1, fstC, sndC, c1, c2, c3, c4, c5, hz, hy, hx, hil, hjl, hjn, w7, w8, v1, v2, v3, v4]))) | (refine guardD_intro ?_ ?_ <;> (intro hd; have hc := hd; (try simp at hc) <;> (try simp -implicitDefEqProofs [-loopQ_n, hd, hc, hbl, hjb, hib, hcj, hci, hjM, h1, fstC, sndC, c1, c2, c3, c4, c5, hz, hy, hx, hil, hjl, hjn, w7, w8, v1, v2, v3, v4]))) | (refine ldD_ep ?_ ?_; (focus kernel_rfl); (try simp -implicitDefEqProofs [-loopQ_n, hbl, hjb, hib, hcj, hci, hjM, h1, fstC, sndC, c1, c2, c3, c4, c5, hz, hy, hx, hil, hjl, hjn, w7, w8, v1, v2, v3, v4])))))
            exact hskip _ (hno hsk c4 c5) (by simp [w7]) rfl
    · have hsk : ¬ skipT l b j := by unfold skipT; rw [tj]; simp only; omega
      by_cases c4 : ci < 0
      · ((try simp -implicitDefEqProofs [-loopQ_n, hbl, hjb, hib, hcj, hci, hjM, h1, fstC, sndC, c1, c2, c4, hy, hx, hil, hjl, hjn, w7, w8, v1, v2, v3, v4]) <;> (repeat' (first | (refine condD_dec ?_ ?_ <;> (intro hc; (try simp -implicitDefEqProofs [-loopQ_n, hc, hbl, hjb, hib, hcj, hci, hjM, h1, fstC, sndC, c1, c2, c4, hy, hx, hil, hjl, hjn, w7, w8, v1, v2, v3, v4]))) | (refine guardD_dec ?_ ?_ <;> (intro hc; (try simp -implicitDefEqProofs [-loopQ_n, hc, hbl, hjb, hib, hcj, hci, hjM, h1, fstC, sndC, c1, c2, c4, hy, hx, hil, hjl, hjn, w7, w8, v1, v2, v3, v4]))) | (refine condD_intro ?_ ?_ <;> (intro hd; have hc := hd; (try simp at hc) <;> (try simp -implicitDefEqProofs [-loopQ_n, hd, hc, hbl, hjb, hib, hcj, hci, hjM, h1, fstC, sndC, c1, c2, c4, hy, hx, hil, hjl, hjn, w7, w8, v1, v2, v3, v4]))) | (refine guardD_intro ?_ ?_ <;> (intro hd; have hc := hd; (try simp at hc) <;> (try simp -implicitDefEqProofs [-loopQ_n, hd, hc, hbl, hjb, hib, hcj, hci, hjM, h1, fstC, sndC, c1, c2, c4, hy, hx, hil, hjl, hjn, w7, w8, v1, v2, v3, v4]))) | (refine ldD_ep ?_ ?_; (focus kernel_rfl); (try simp -implicitDefEqProofs [-loopQ_n, hbl, hjb, hib, hcj, hci, hjM, h1, fstC, sndC, c1, c2, c4, hy, hx, hil, hjl, hjn, w7, w8, v1, v2, v3, v4])))))
        exact hbet _ (hyes hsk (.inl c4)) (by simp [w7]) rfl
      · by_cases c5 : c < ci
        · ((try simp -implicitDefEqProofs [-loopQ_n, hbl, hjb, hib, hcj, hci, hjM, h1, fstC, sndC, c1, c2, c4, c5, hy, hx, hil, hjl, hjn, w7, w8, v1, v2, v3, v4]) <;> (repeat' (first | (refine condD_dec ?_ ?_ <;> (intro hc; (try simp -implicitDefEqProofs [-loopQ_n, hc, hbl, hjb, hib, hcj, hci, hjM, h1, fstC, sndC, c1, c2, c4, c5, hy, hx, hil, hjl, hjn, w7, w8, v1, v2, v3, v4]))) | (refine guardD_dec ?_ ?_ <;> (intro hc; (try simp -implicitDefEqProofs [-loopQ_n, hc, hbl, hjb, hib, hcj, hci, hjM, h1, fstC, sndC, c1, c2, c4, c5, hy, hx, hil, hjl, hjn, w7, w8, v1, v2, v3, v4]))) | (refine condD_intro ?_ ?_ <;> (intro hd; have hc := hd; (try simp at hc) <;> (try simp -implicitDefEqProofs [-loopQ_n, hd, hc, hbl, hjb, hib, hcj, hci, hjM, h1, fstC, sndC, c1, c2, c4, c5, hy, hx, hil, hjl, hjn, w7, w8, v1, v2, v3, v4]))) | (refine guardD_intro ?_ ?_ <;> (intro hd; have hc := hd; (try simp at hc) <;> (try simp -implicitDefEqProofs [-loopQ_n, hd, hc, hbl, hjb, hib, hcj, hci, hjM, h1, fstC, sndC, c1, c2, c4, c5, hy, hx, hil, hjl, hjn, w7, w8, v1, v2, v3, v4]))) | (refine ldD_ep ?_ ?_; (focus kernel_rfl); (try simp -implicitDefEqProofs [-loopQ_n, hbl, hjb, hib, hcj, hci, hjM, h1, fstC, sndC, c1, c2, c4, c5, hy, hx, hil, hjl, hjn, w7, w8, v1, v2, v3, v4])))))
          exact hbet _ (hyes hsk (.inr c5)) (by simp [w7]) rfl
        · ((try simp -implicitDefEqProofs [-loopQ_n, hbl, hjb, hib, hcj, hci, hjM, h1, fstC, sndC, c1, c2, c4, c5, hy, hx, hil, hjl, hjn, w7, w8, v1, v2, v3, v4]) <;> (repeat' (first | (refine condD_dec ?_ ?_ <;> (intro hc; (try simp -implicitDefEqProofs [-loopQ_n, hc, hbl, hjb, hib, hcj, hci, hjM, h1, fstC, sndC, c1, c2, c4, c5, hy, hx, hil, hjl, hjn, w7, w8, v1, v2, v3, v4]))) | (refine guardD_dec ?_ ?_ <;> (intro hc; (try simp -implicitDefEqProofs [-loopQ_n, hc, hbl, hjb, hib, hcj, hci, hjM, h1, fstC, sndC, c1, c2, c4, c5, hy, hx, hil, hjl, hjn, w7, w8, v1, v2, v3, v4]))) | (refine condD_intro ?_ ?_ <;> (intro hd; have hc := hd; (try simp at hc) <;> (try simp -implicitDefEqProofs [-loopQ_n, hd, hc, hbl, hjb, hib, hcj, hci, hjM, h1, fstC, sndC, c1, c2, c4, c5, hy, hx, hil, hjl, hjn, w7, w8, v1, v2, v3, v4]))) | (refine guardD_intro ?_ ?_ <;> (intro hd; have hc := hd; (try simp at hc) <;> (try simp -implicitDefEqProofs [-loopQ_n, hd, hc, hbl, hjb, hib, hcj, hci, hjM, h1, fstC, sndC, c1, c2, c4, c5, hy, hx, hil, hjl, hjn, w7, w8, v1, v2, v3, v4]))) | (refine ldD_ep ?_ ?_; (focus kernel_rfl); (try simp -implicitDefEqProofs [-loopQ_n, hbl, hjb, hib, hcj, hci, hjM, h1, fstC, sndC, c1, c2, c4, c5, hy, hx, hil, hjl, hjn, w7, w8, v1, v2, v3, v4])))))
          exact hskip _ (hno hsk c4 c5) (by simp [w7]) rfl
end Go.Proofs.Ytkppfaennogcmaa
