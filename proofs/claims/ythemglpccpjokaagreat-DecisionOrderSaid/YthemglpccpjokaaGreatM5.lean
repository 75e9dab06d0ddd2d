/- Several texts of the abstract machine, one behind the other. -/
import Derived.Test.YthemglpccpjokaaGreatVal
import Derived.Test.YthemglpccpjokaaGreatSrt
import Derived.Test.YthemglpccpjokaaGreatMapL
import Derived.Test.YthemglpccpjokaaGreatCl0
import Derived.Lib.SliceRun
import Derived.Lib.Walk
set_option linter.unusedSimpArgs false
set_option linter.unusedVariables false
set_option linter.unnecessarySimpa false
set_option linter.unusedSectionVars false
set_option maxRecDepth 100000
namespace Go.Proofs.YthemglpccpjokaaGreat
open Go.RowKit
variable [Glob]
structure Dom where
  name : ByteArray
  kind : Int
  low : Int
  high : Int
  items : List ByteArray
def domC (x : Dom) : List AV := [.str x.name, .int .i64 x.kind, .int .i64 x.low, .int .i64 x.high, .rs (rowsOf strC x.items)]
def domV (x : Dom) : Bool := isNameS x.name && (if x.kind = 1 then x.low == 0 && x.high == 0 && x.items.isEmpty else if x.kind = 2 then numV x.low && numV x.high && decide (x.low ≤ x.high) && decide (x.high - x.low < 1000) && x.items.isEmpty
  else if x.kind = 3 then x.low == 0 && x.high == 0 && decide (1 ≤ x.items.length) && decide (x.items.length ≤ 1000) && x.items.all textV && decide x.items.Nodup else false)
def sizeD (x : Dom) : Int := if x.kind = 1 then 2 else if x.kind = 2 then x.high - x.low + 1 else x.items.length
def nthD (x : Dom) (i : Int) : Val := if x.kind = 3 then ⟨3, 0, x.items.getD i.toNat ByteArray.empty⟩ else ⟨x.kind, x.low + i, ByteArray.empty⟩
def placeD (x : Dom) (v : Val) : Int := if v.kind ≠ x.kind then -1 else if x.kind = 1 then v.n else if x.kind = 3 then idxS x.items v.s else if v.n < x.low ∨ x.high < v.n then -1 else v.n - x.low
theorem dom_num {x : Dom} (h : domV x = true) (k : x.kind = 2) : -4503599627370496 ≤ x.low ∧ x.low ≤ x.high ∧ x.high ≤ 4503599627370496 ∧ x.high - x.low < 1000 ∧ x.items = [] := by
  simp only [domV, k, numV] at h
  simp at h
  exact ⟨h.2.1.1.1.1.1, h.2.1.1.2, h.2.1.1.1.2.2, h.2.1.2, h.2.2⟩
theorem setB_len_nodup : ∀ (l acc : List ByteArray), (l.foldl insB acc).length ≤ acc.length + l.length ∧ ((l.foldl insB acc).length = acc.length + l.length ↔ (∀ x ∈ l, x ∉ acc) ∧ l.Nodup) := by
  intro l
  induction l with
  | nil => intro acc; simp
  | cons s r ih =>
    intro acc
    obtain ⟨h1, h2⟩ := ih (insB acc s)
    have hlen : ∀ l : List ByteArray, (insG s l).length = l.length + 1 := by
      intro l
      induction l with
      | nil => rfl
      | cons x q ih => simp only [insG]; split <;> simp [ih]
    rw [List.foldl_cons]
    by_cases hs : hasB acc s = true
    · have hi : insB acc s = acc := by simp [insB, hs]
      rw [hi] at h1 h2 ⊢
      refine ⟨by simp; omega, ⟨fun h => ?_, fun ⟨h, _⟩ => absurd (hasB_iff.1 hs) (h s (by simp))⟩⟩
      simp at h; omega
    · have hi : (insB acc s).length = acc.length + 1 := by simp [insB, hs, hlen]
      have hm : ∀ x, x ∈ insB acc s ↔ x = s ∨ x ∈ acc := mem_insB acc s
      refine ⟨by simp; omega, ?_⟩
      rw [show acc.length + (s :: r).length = (insB acc s).length + r.length by simp; omega, h2, List.nodup_cons]
      constructor
      · rintro ⟨q1, q2⟩
        refine ⟨fun x hx => ?_, fun hin => q1 s hin ((hm s).2 (.inl rfl)), q2⟩
        rcases List.mem_cons.1 hx with rfl | hx
        · exact fun h => hs (hasB_iff.2 h)
        · exact fun h => q1 x hx ((hm x).2 (.inr h))
      · rintro ⟨q1, q2, q3⟩
        refine ⟨fun x hx hin => ?_, q3⟩
        rcases (hm x).1 hin with rfl | h
        · exact q2 hx
        · exact q1 x (by simp [hx]) h
theorem setB_nodup (l : List ByteArray) : (setB l).length = l.length ↔ l.Nodup := by
  have := (setB_len_nodup l []).2
  simpa [setB] using this
theorem size_pure (x : Dom) (hv : domV x = true) : Pure Tryz.prog 123 [.agg (domC x)] (.int .i64 (sizeD x)) := by
  refine pure_of mixed Tryz.func123 rfl (by kernel_rfl) (of_decide_eq_true rfl) (by kernel_rfl) (vc_run ?_)
  by_cases k1 : x.kind = 1
  · ((try simp -implicitDefEqProofs [-loopQ_n, domC, k1]) <;> (repeat' (first | ((first | refine condD_dec ?_ ?_ | refine guardD_dec ?_ ?_) <;> (intro hc; (try simp -implicitDefEqProofs [-loopQ_n, hc, domC, k1]))))))
    simp [sizeD, k1]
  by_cases k2 : x.kind = 2
  · obtain ⟨h1, h2, h3, h4, h5⟩ := dom_num hv k2
    have w1 : wrapI .i64 (x.high - x.low) = x.high - x.low := wrap_in (by omega) (by omega)
    have w2 : wrapI .i64 (x.high - x.low + 1) = x.high - x.low + 1 := wrap_in (by omega) (by omega)
    ((try simp -implicitDefEqProofs [-loopQ_n, domC, k1, k2, w1, w2]) <;> (repeat' (first | ((first | refine condD_dec ?_ ?_ | refine guardD_dec ?_ ?_) <;> (intro hc; (try simp -implicitDefEqProofs [-loopQ_n, hc, domC, k1, k2, w1, w2]))))))
    simp [sizeD, k2]
  · ((try simp -implicitDefEqProofs [-loopQ_n, domC, k1, k2]) <;> (repeat' (first | ((first | refine condD_dec ?_ ?_ | refine guardD_dec ?_ ?_) <;> (intro hc; (try simp -implicitDefEqProofs [-loopQ_n, hc, domC, k1, k2]))))))
    simp [sizeD, k1, k2]
theorem rsize_pure (x : Dom) (hv : domV x = true) : Pure Tryz.prog 63 [.agg (domC x)] (.int .i64 (sizeD x)) := by
  refine pure_of mixed Tryz.func63 rfl (by kernel_rfl) (of_decide_eq_true rfl) (by kernel_rfl) (vc_run ?_)
  by_cases k1 : x.kind = 1
  · ((try simp -implicitDefEqProofs [-loopQ_n, domC, k1]) <;> (repeat' (first | ((first | refine condD_dec ?_ ?_ | refine guardD_dec ?_ ?_) <;> (intro hc; (try simp -implicitDefEqProofs [-loopQ_n, hc, domC, k1]))))))
    simp [sizeD, k1]
  by_cases k2 : x.kind = 2
  · obtain ⟨h1, h2, h3, h4, h5⟩ := dom_num hv k2
    have w1 : wrapI .i64 (x.high - x.low) = x.high - x.low := wrap_in (by omega) (by omega)
    have w2 : wrapI .i64 (x.high - x.low + 1) = x.high - x.low + 1 := wrap_in (by omega) (by omega)
    ((try simp -implicitDefEqProofs [-loopQ_n, domC, k1, k2, w1, w2]) <;> (repeat' (first | ((first | refine condD_dec ?_ ?_ | refine guardD_dec ?_ ?_) <;> (intro hc; (try simp -implicitDefEqProofs [-loopQ_n, hc, domC, k1, k2, w1, w2]))))))
    simp [sizeD, k2]
  · ((try simp -implicitDefEqProofs [-loopQ_n, domC, k1, k2]) <;> (repeat' (first | ((first | refine condD_dec ?_ ?_ | refine guardD_dec ?_ ?_) <;> (intro hc; (try simp -implicitDefEqProofs [-loopQ_n, hc, domC, k1, k2]))))))
    simp [sizeD, k1, k2]
theorem dom_kind {x : Dom} (h : domV x = true) : x.kind = 1 ∧ x.low = 0 ∧ x.high = 0 ∧ x.items = [] ∨ x.kind = 2 ∨ x.kind = 3 ∧ 1 ≤ x.items.length ∧ x.items.length ≤ 1000 ∧ x.low = 0 ∧ x.high = 0 := by
  simp only [domV] at h
  by_cases k1 : x.kind = 1
  · simp [k1] at h; exact .inl ⟨k1, h.2.1.1, h.2.1.2, h.2.2⟩
  by_cases k2 : x.kind = 2
  · exact .inr (.inl k2)
  by_cases k3 : x.kind = 3
  · simp [k3] at h; exact .inr (.inr ⟨k3, h.2.1.1.1.2, h.2.1.1.2, h.2.1.1.1.1.1, h.2.1.1.1.1.2⟩)
  · simp [k1, k2, k3] at h
theorem nth_pure (x : Dom) (i : Int) (hv : domV x = true) (h0 : 0 ≤ i) (hi : i < sizeD x) : Pure Tryz.prog 124 [.agg (domC x), .int .i64 i] (.agg (valC (nthD x i))) := by
  refine pure_of mixed Tryz.func124 rfl (by kernel_rfl) (of_decide_eq_true rfl) (by kernel_rfl) (vc_run ?_)
  rcases dom_kind hv with ⟨k, q1, q2, q3⟩ | k | ⟨k, q1, q2, q3, q4⟩
  · ((try simp -implicitDefEqProofs [-loopQ_n, domC, k]) <;> (repeat' (first | ((first | refine condD_dec ?_ ?_ | refine guardD_dec ?_ ?_) <;> (intro hc; (try simp -implicitDefEqProofs [-loopQ_n, hc, domC, k]))))))
    simp [nthD, k, valC, q1]
  · obtain ⟨h1, h2, h3, h4, h5⟩ := dom_num hv k
    simp only [sizeD, k] at hi
    simp at hi
    have w1 : wrapI .i64 (i + x.low) = x.low + i := by rw [wrap_in (by omega) (by omega)]; omega
    ((try simp -implicitDefEqProofs [-loopQ_n, domC, k, w1]) <;> (repeat' (first | ((first | refine condD_dec ?_ ?_ | refine guardD_dec ?_ ?_) <;> (intro hc; (try simp -implicitDefEqProofs [-loopQ_n, hc, domC, k, w1]))))))
    simp [nthD, k, valC]
  · simp only [sizeD, k] at hi
    simp at hi
    obtain ⟨n, rfl⟩ : ∃ n : Nat, i = n := ⟨i.toNat, by omega⟩
    have hn : n < x.items.length := by omega
    ((try simp -implicitDefEqProofs [-loopQ_n, domC, k, hn, strC]) <;> (repeat' (first | ((first | refine condD_dec ?_ ?_ | refine guardD_dec ?_ ?_) <;> (intro hc; (try simp -implicitDefEqProofs [-loopQ_n, hc, domC, k, hn, strC]))))))
    simp [nthD, k, valC, hn]
theorem rnth_pure (x : Dom) (i : Int) (hv : domV x = true) (h0 : 0 ≤ i) (hi : i < sizeD x) : Pure Tryz.prog 61 [.agg (domC x), .int .i64 i] (.agg (valC (nthD x i))) := by
  refine pure_of mixed Tryz.func61 rfl (by kernel_rfl) (of_decide_eq_true rfl) (by kernel_rfl) (vc_run ?_)
  rcases dom_kind hv with ⟨k, q1, q2, q3⟩ | k | ⟨k, q1, q2, q3, q4⟩
  · simp only [sizeD, k] at hi
    simp at hi
    have w1 : wrapI .i64 (0 + i) = i := by rw [wrap_in (by omega) (by omega)]; omega
    have w2 : wrapI .i64 i = i := by rw [wrap_in (by omega) (by omega)]
    ((try simp -implicitDefEqProofs [-loopQ_n, domC, k, q1, w1, w2]) <;> (repeat' (first | ((first | refine condD_dec ?_ ?_ | refine guardD_dec ?_ ?_) <;> (intro hc; (try simp -implicitDefEqProofs [-loopQ_n, hc, domC, k, q1, w1, w2]))))))
    simp [nthD, k, valC, q1]
  · obtain ⟨h1, h2, h3, h4, h5⟩ := dom_num hv k
    simp only [sizeD, k] at hi
    simp at hi
    have w1 : wrapI .i64 (x.low + i) = x.low + i := by rw [wrap_in (by omega) (by omega)]
    ((try simp -implicitDefEqProofs [-loopQ_n, domC, k, w1]) <;> (repeat' (first | ((first | refine condD_dec ?_ ?_ | refine guardD_dec ?_ ?_) <;> (intro hc; (try simp -implicitDefEqProofs [-loopQ_n, hc, domC, k, w1]))))))
    simp [nthD, k, valC]
  · simp only [sizeD, k] at hi
    simp at hi
    obtain ⟨n, rfl⟩ : ∃ n : Nat, i = n := ⟨i.toNat, by omega⟩
    have hn : n < x.items.length := by omega
    ((try simp -implicitDefEqProofs [-loopQ_n, domC, k, hn, strC]) <;> (repeat' (first | ((first | refine condD_dec ?_ ?_ | refine guardD_dec ?_ ?_) <;> (intro hc; (try simp -implicitDefEqProofs [-loopQ_n, hc, domC, k, hn, strC]))))))
    simp [nthD, k, valC, hn]
theorem place_pure (x : Dom) (v : Val) (hv : domV x = true) : Pure Tryz.prog 128 [.agg (domC x), .agg (valC v)] (.int .i64 (placeD x v)) := by
  refine pure_of mixed Tryz.func128 rfl (by kernel_rfl) (of_decide_eq_true rfl) (by kernel_rfl) (vc_run ?_)
  by_cases e : v.kind = x.kind
  · rcases dom_kind hv with ⟨k, q1, q2, q3⟩ | k | ⟨k, q1, q2, q3, q4⟩
    · ((try simp -implicitDefEqProofs [-loopQ_n, domC, valC, e, k]) <;> (repeat' (first | ((first | refine condD_dec ?_ ?_ | refine guardD_dec ?_ ?_) <;> (intro hc; (try simp -implicitDefEqProofs [-loopQ_n, hc, domC, valC, e, k]))))))
      simp [placeD, e, k]
    · obtain ⟨h1, h2, h3, h4, h5⟩ := dom_num hv k
      by_cases g : v.n < x.low
      · ((try simp -implicitDefEqProofs [-loopQ_n, domC, valC, e, k, g]) <;> (repeat' (first | ((first | refine condD_dec ?_ ?_ | refine guardD_dec ?_ ?_) <;> (intro hc; (try simp -implicitDefEqProofs [-loopQ_n, hc, domC, valC, e, k, g]))))))
        simp [placeD, e, k, g]
      · by_cases g' : x.high < v.n
        · ((try simp -implicitDefEqProofs [-loopQ_n, domC, valC, e, k, g, g']) <;> (repeat' (first | ((first | refine condD_dec ?_ ?_ | refine guardD_dec ?_ ?_) <;> (intro hc; (try simp -implicitDefEqProofs [-loopQ_n, hc, domC, valC, e, k, g, g']))))))
          simp [placeD, e, k, g']
        · have w1 : wrapI .i64 (v.n - x.low) = v.n - x.low := wrap_in (by omega) (by omega)
          ((try simp -implicitDefEqProofs [-loopQ_n, domC, valC, e, k, g, g', w1]) <;> (repeat' (first | ((first | refine condD_dec ?_ ?_ | refine guardD_dec ?_ ?_) <;> (intro hc; (try simp -implicitDefEqProofs [-loopQ_n, hc, domC, valC, e, k, g, g', w1]))))))
          simp [placeD, e, k, g, g']
    · ((try simp -implicitDefEqProofs [-loopQ_n, domC, valC, e, k]) <;> (repeat' (first | ((first | refine condD_dec ?_ ?_ | refine guardD_dec ?_ ?_) <;> (intro hc; (try simp -implicitDefEqProofs [-loopQ_n, hc, domC, valC, e, k]))) | (refine callS_mk ?_; (try simp -implicitDefEqProofs [-loopQ_n, domC, valC, e, k]); (first | refine callS_intro (index_pure x.items v.s (by omega)) (.inl rfl) ?_); (try simp -implicitDefEqProofs [-loopQ_n, domC, valC, e, k])))))
      simp [placeD, e, k]
  · ((try simp -implicitDefEqProofs [-loopQ_n, domC, valC, e]) <;> (repeat' (first | ((first | refine condD_dec ?_ ?_ | refine guardD_dec ?_ ?_) <;> (intro hc; (try simp -implicitDefEqProofs [-loopQ_n, hc, domC, valC, e]))))))
    simp [placeD, e]
theorem rrank_pure (x : Dom) (v : Val) (hv : domV x = true) : Pure Tryz.prog 62 [.agg (domC x), .agg (valC v)] (.int .i64 (placeD x v)) := by
  refine pure_of mixed Tryz.func62 rfl (by kernel_rfl) (of_decide_eq_true rfl) (by kernel_rfl) (vc_run ?_)
  by_cases e : v.kind = x.kind
  · rcases dom_kind hv with ⟨k, q1, q2, q3⟩ | k | ⟨k, q1, q2, q3, q4⟩
    · ((try simp -implicitDefEqProofs [-loopQ_n, domC, valC, e, k]) <;> (repeat' (first | ((first | refine condD_dec ?_ ?_ | refine guardD_dec ?_ ?_) <;> (intro hc; (try simp -implicitDefEqProofs [-loopQ_n, hc, domC, valC, e, k]))))))
      simp [placeD, e, k]
    · obtain ⟨h1, h2, h3, h4, h5⟩ := dom_num hv k
      by_cases g : v.n < x.low
      · ((try simp -implicitDefEqProofs [-loopQ_n, domC, valC, e, k, g]) <;> (repeat' (first | ((first | refine condD_dec ?_ ?_ | refine guardD_dec ?_ ?_) <;> (intro hc; (try simp -implicitDefEqProofs [-loopQ_n, hc, domC, valC, e, k, g]))))))
        simp [placeD, e, k, g]
      · by_cases g' : x.high < v.n
        · ((try simp -implicitDefEqProofs [-loopQ_n, domC, valC, e, k, g, g']) <;> (repeat' (first | ((first | refine condD_dec ?_ ?_ | refine guardD_dec ?_ ?_) <;> (intro hc; (try simp -implicitDefEqProofs [-loopQ_n, hc, domC, valC, e, k, g, g']))))))
          simp [placeD, e, k, g']
        · have w1 : wrapI .i64 (v.n - x.low) = v.n - x.low := wrap_in (by omega) (by omega)
          ((try simp -implicitDefEqProofs [-loopQ_n, domC, valC, e, k, g, g', w1]) <;> (repeat' (first | ((first | refine condD_dec ?_ ?_ | refine guardD_dec ?_ ?_) <;> (intro hc; (try simp -implicitDefEqProofs [-loopQ_n, hc, domC, valC, e, k, g, g', w1]))))))
          simp [placeD, e, k, g, g']
    · ((try simp -implicitDefEqProofs [-loopQ_n, domC, valC, e, k]) <;> (repeat' (first | ((first | refine condD_dec ?_ ?_ | refine guardD_dec ?_ ?_) <;> (intro hc; (try simp -implicitDefEqProofs [-loopQ_n, hc, domC, valC, e, k]))) | (refine callS_mk ?_; (try simp -implicitDefEqProofs [-loopQ_n, domC, valC, e, k]); (first | refine callS_intro (rindex_pure x.items v.s (by omega)) (.inl rfl) ?_); (try simp -implicitDefEqProofs [-loopQ_n, domC, valC, e, k])))))
      simp [placeD, e, k]
  · ((try simp -implicitDefEqProofs [-loopQ_n, domC, valC, e]) <;> (repeat' (first | ((first | refine condD_dec ?_ ?_ | refine guardD_dec ?_ ?_) <;> (intro hc; (try simp -implicitDefEqProofs [-loopQ_n, hc, domC, valC, e]))))))
    simp [placeD, e]
end Go.Proofs.YthemglpccpjokaaGreat
namespace Go.Proofs.YthemglpccpjokaaGreat
open Go.RowKit
variable [Glob]
theorem dvS_idx {p : ByteArray → Bool} {l : List ByteArray} {g : Nat} {caps : List AV} (hp : ∀ x ∈ l, Pure Tryz.prog g (.str x :: caps) (.bool (p x))) (hc : ∀ H k, caps.mapM (reify H (k + 5)) = some caps) (hf : refsL 0 caps = true) (hl : l.length ≤ 9223372036854775807) :
    Pure Tryz.prog 106 [.rs (rowsOf strC l), .fn g caps] (.int .i64 (idxOf p l)) := by
  refine pure_of mixed Tryz.func106 rfl (by kernel_rfl) (of_decide_eq_true rfl) (by kernel_rfl) (vc_run ?_)
  simp -implicitDefEqProofs
  refine loop_intro (σ := Nat) (fun i => ⟨[(0, .rs (rowsOf strC l)), (1, .fn g caps), (7, .int .i64 l.length), (8, .int .i64 i)], []⟩) (fun i => i ≤ l.length ∧ allF p (l.take i)) (fun i => l.length - i) 0 ⟨Nat.zero_le _, allF_nil⟩ ?_ ?_
  · refine weak_of 0 0 rfl rfl ?_ ?_ <;> simp [hf]
  · rintro i ⟨hi, hall⟩
    by_cases h : i < l.length
    · simp -implicitDefEqProofs [h, strC]
      have hc8 : ∀ H, caps.mapM (reify H 8) = some caps := fun H => hc H 3
      refine call_intro (hp l[i] (by simp)) (by simp -implicitDefEqProofs [hc8, strC]) (.inl rfl) ?_
      by_cases hpx : p l[i] = true
      · simp -implicitDefEqProofs [hpx]
        exact (idxOf_some p l i h hall hpx).symm
      · have hpx : p l[i] = false := by simpa using hpx
        simp -implicitDefEqProofs [hpx]
        refine ⟨i + 1, ⟨by omega, allF_succ hall h hpx⟩, by omega, weak_of 0 0 rfl rfl ?_ ?_⟩
        · simp [hf]
          exact (wrap_in (by omega) (by omega)).symm
        · simp
    · simp -implicitDefEqProofs [h]
      rw [idxOf_none p l (allF_all hall h)]
theorem dvS_any {p : ByteArray → Bool} {l : List ByteArray} {g : Nat} {caps : List AV} (hp : ∀ x ∈ l, Pure Tryz.prog g (.str x :: caps) (.bool (p x))) (hc : ∀ H k, caps.mapM (reify H (k + 5)) = some caps) (hf : refsL 0 caps = true) (hl : l.length ≤ 9223372036854775807) :
    Pure Tryz.prog 74 [.rs (rowsOf strC l), .fn g caps] (.bool (l.any p)) := by
  refine pure_of mixed Tryz.func74 rfl (by kernel_rfl) (of_decide_eq_true rfl) (by kernel_rfl) (vc_run ?_)
  simp -implicitDefEqProofs
  have hc7 : ∀ H, caps.mapM (reify H 7) = some caps := fun H => hc H 2
  refine call_intro (dvS_idx hp hc hf hl) (by simp -implicitDefEqProofs [hc7]) (.inl rfl) ?_
  simp -implicitDefEqProofs
  rw [← ge_idxOf]
theorem vvar1_pure (s : ByteArray) : Pure Tryz.prog 109 [.str s] (.bool (!textV s)) := by
  refine pure_of mixed Tryz.func109 rfl (by kernel_rfl) (of_decide_eq_true rfl) (by kernel_rfl) (vc_run ?_)
  ((try simp -implicitDefEqProofs [-loopQ_n]) <;> (repeat' (first | ((first | refine condD_dec ?_ ?_ | refine guardD_dec ?_ ?_) <;> (intro hc; (try simp -implicitDefEqProofs [-loopQ_n, hc]))) | (refine callS_mk ?_; (try simp -implicitDefEqProofs [-loopQ_n]); (first | refine callS_intro (vtext_pure s) (.inl rfl) ?_); (try simp -implicitDefEqProofs [-loopQ_n])))))
set_option maxHeartbeats 8000000 in
theorem dom_pure (x : Dom) : Pure Tryz.prog 76 [.agg (domC x)] (.bool (domV x)) := by
  by_cases hn : isNameS x.name = true
  rotate_left
  · have hn : isNameS x.name = false := by simpa using hn
    have h := isName_pure x.name
    rw [hn] at h
    refine pure_of mixed Tryz.func76 rfl (by kernel_rfl) (of_decide_eq_true rfl) (by kernel_rfl) (vc_run ?_)
    ((try simp -implicitDefEqProofs [-loopQ_n, domC]) <;> (repeat' (first | ((first | refine condD_dec ?_ ?_ | refine guardD_dec ?_ ?_) <;> (intro hc; (try simp -implicitDefEqProofs [-loopQ_n, hc, domC]))) | (refine callS_mk ?_; (try simp -implicitDefEqProofs [-loopQ_n, domC]); (first | refine callS_intro (h) (.inl rfl) ?_); (try simp -implicitDefEqProofs [-loopQ_n, domC])))))
    simp [domV, hn]
  have hname := isName_pure x.name
  rw [hn] at hname
  by_cases k1 : x.kind = 1
  · skip
    refine pure_of mixed Tryz.func76 rfl (by kernel_rfl) (of_decide_eq_true rfl) (by kernel_rfl) (vc_run ?_)
    by_cases a1 : x.low = 0
    · by_cases a2 : x.high = 0
      · by_cases a3 : x.items.length = 0
        · ((try simp -implicitDefEqProofs [-loopQ_n, domC, k1, a1, a2, a3]) <;> (repeat' (first | ((first | refine condD_dec ?_ ?_ | refine guardD_dec ?_ ?_) <;> (intro hc; (try simp -implicitDefEqProofs [-loopQ_n, hc, domC, k1, a1, a2, a3]))) | (refine callS_mk ?_; (try simp -implicitDefEqProofs [-loopQ_n, domC, k1, a1, a2, a3]); (first | refine callS_intro (hname) (.inl rfl) ?_); (try simp -implicitDefEqProofs [-loopQ_n, domC, k1, a1, a2, a3])))))
          have : x.items = [] := List.eq_nil_of_length_eq_zero a3
          simp [domV, hn, k1, a1, a2, this]
        · ((try simp -implicitDefEqProofs [-loopQ_n, domC, k1, a1, a2, a3]) <;> (repeat' (first | ((first | refine condD_dec ?_ ?_ | refine guardD_dec ?_ ?_) <;> (intro hc; (try simp -implicitDefEqProofs [-loopQ_n, hc, domC, k1, a1, a2, a3]))) | (refine callS_mk ?_; (try simp -implicitDefEqProofs [-loopQ_n, domC, k1, a1, a2, a3]); (first | refine callS_intro (hname) (.inl rfl) ?_); (try simp -implicitDefEqProofs [-loopQ_n, domC, k1, a1, a2, a3])))))
          have : ¬ x.items = [] := fun e => a3 (by rw [e]; rfl)
          simp [domV, hn, k1, a1, a2, this]
      · ((try simp -implicitDefEqProofs [-loopQ_n, domC, k1, a1, a2]) <;> (repeat' (first | ((first | refine condD_dec ?_ ?_ | refine guardD_dec ?_ ?_) <;> (intro hc; (try simp -implicitDefEqProofs [-loopQ_n, hc, domC, k1, a1, a2]))) | (refine callS_mk ?_; (try simp -implicitDefEqProofs [-loopQ_n, domC, k1, a1, a2]); (first | refine callS_intro (hname) (.inl rfl) ?_); (try simp -implicitDefEqProofs [-loopQ_n, domC, k1, a1, a2])))))
        simp [domV, hn, k1, a1, a2]
    · ((try simp -implicitDefEqProofs [-loopQ_n, domC, k1, a1]) <;> (repeat' (first | ((first | refine condD_dec ?_ ?_ | refine guardD_dec ?_ ?_) <;> (intro hc; (try simp -implicitDefEqProofs [-loopQ_n, hc, domC, k1, a1]))) | (refine callS_mk ?_; (try simp -implicitDefEqProofs [-loopQ_n, domC, k1, a1]); (first | refine callS_intro (hname) (.inl rfl) ?_); (try simp -implicitDefEqProofs [-loopQ_n, domC, k1, a1])))))
      simp [domV, hn, k1, a1]
  by_cases k2 : x.kind = 2
  · have hlo := number_pure x.low
    have hhi := number_pure x.high
    by_cases b1 : numV x.low = true
    rotate_left
    · have b1 : numV x.low = false := by simpa using b1
      rw [b1] at hlo
      refine pure_of mixed Tryz.func76 rfl (by kernel_rfl) (of_decide_eq_true rfl) (by kernel_rfl) (vc_run ?_)
      ((try simp -implicitDefEqProofs [-loopQ_n, domC, k1, k2]) <;> (repeat' (first | ((first | refine condD_dec ?_ ?_ | refine guardD_dec ?_ ?_) <;> (intro hc; (try simp -implicitDefEqProofs [-loopQ_n, hc, domC, k1, k2]))) | (refine callS_mk ?_; (try simp -implicitDefEqProofs [-loopQ_n, domC, k1, k2]); (first | refine callS_intro (hname) (.inl rfl) ?_ | refine callS_intro (hlo) (.inl rfl) ?_); (try simp -implicitDefEqProofs [-loopQ_n, domC, k1, k2])))))
      simp [domV, hn, k2, b1]
    rw [b1] at hlo
    by_cases b2 : numV x.high = true
    rotate_left
    · have b2 : numV x.high = false := by simpa using b2
      rw [b2] at hhi
      refine pure_of mixed Tryz.func76 rfl (by kernel_rfl) (of_decide_eq_true rfl) (by kernel_rfl) (vc_run ?_)
      ((try simp -implicitDefEqProofs [-loopQ_n, domC, k1, k2]) <;> (repeat' (first | ((first | refine condD_dec ?_ ?_ | refine guardD_dec ?_ ?_) <;> (intro hc; (try simp -implicitDefEqProofs [-loopQ_n, hc, domC, k1, k2]))) | (refine callS_mk ?_; (try simp -implicitDefEqProofs [-loopQ_n, domC, k1, k2]); (first | refine callS_intro (hname) (.inl rfl) ?_ | refine callS_intro (hlo) (.inl rfl) ?_ | refine callS_intro (hhi) (.inl rfl) ?_); (try simp -implicitDefEqProofs [-loopQ_n, domC, k1, k2])))))
      simp [domV, hn, k2, b1, b2]
    rw [b2] at hhi
    have c1 : -4503599627370496 ≤ x.low ∧ x.low ≤ 4503599627370496 := by simpa [numV] using b1
    have c2 : -4503599627370496 ≤ x.high ∧ x.high ≤ 4503599627370496 := by simpa [numV] using b2
    have w1 : wrapI .i64 (x.high - x.low) = x.high - x.low := wrap_in (by omega) (by omega)
    refine pure_of mixed Tryz.func76 rfl (by kernel_rfl) (of_decide_eq_true rfl) (by kernel_rfl) (vc_run ?_)
    by_cases b3 : x.low ≤ x.high
    · by_cases b4 : x.high - x.low < 1000
      · by_cases a3 : x.items.length = 0
        · have : x.items = [] := List.eq_nil_of_length_eq_zero a3
          ((try simp -implicitDefEqProofs [-loopQ_n, domC, k1, k2, b3, b4, w1, a3]) <;> (repeat' (first | ((first | refine condD_dec ?_ ?_ | refine guardD_dec ?_ ?_) <;> (intro hc; (try simp -implicitDefEqProofs [-loopQ_n, hc, domC, k1, k2, b3, b4, w1, a3]))) | (refine callS_mk ?_; (try simp -implicitDefEqProofs [-loopQ_n, domC, k1, k2, b3, b4, w1, a3]); (first | refine callS_intro (hname) (.inl rfl) ?_ | refine callS_intro (hlo) (.inl rfl) ?_ | refine callS_intro (hhi) (.inl rfl) ?_); (try simp -implicitDefEqProofs [-loopQ_n, domC, k1, k2, b3, b4, w1, a3])))))
          simp [domV, hn, k2, b1, b2, b3, b4, this]
        · have : ¬ x.items = [] := fun e => a3 (by rw [e]; rfl)
          ((try simp -implicitDefEqProofs [-loopQ_n, domC, k1, k2, b3, b4, w1, a3]) <;> (repeat' (first | ((first | refine condD_dec ?_ ?_ | refine guardD_dec ?_ ?_) <;> (intro hc; (try simp -implicitDefEqProofs [-loopQ_n, hc, domC, k1, k2, b3, b4, w1, a3]))) | (refine callS_mk ?_; (try simp -implicitDefEqProofs [-loopQ_n, domC, k1, k2, b3, b4, w1, a3]); (first | refine callS_intro (hname) (.inl rfl) ?_ | refine callS_intro (hlo) (.inl rfl) ?_ | refine callS_intro (hhi) (.inl rfl) ?_); (try simp -implicitDefEqProofs [-loopQ_n, domC, k1, k2, b3, b4, w1, a3])))))
          simp [domV, hn, k2, b1, b2, b3, b4, this]
      · ((try simp -implicitDefEqProofs [-loopQ_n, domC, k1, k2, b3, b4, w1]) <;> (repeat' (first | ((first | refine condD_dec ?_ ?_ | refine guardD_dec ?_ ?_) <;> (intro hc; (try simp -implicitDefEqProofs [-loopQ_n, hc, domC, k1, k2, b3, b4, w1]))) | (refine callS_mk ?_; (try simp -implicitDefEqProofs [-loopQ_n, domC, k1, k2, b3, b4, w1]); (first | refine callS_intro (hname) (.inl rfl) ?_ | refine callS_intro (hlo) (.inl rfl) ?_ | refine callS_intro (hhi) (.inl rfl) ?_); (try simp -implicitDefEqProofs [-loopQ_n, domC, k1, k2, b3, b4, w1])))))
        simp [domV, hn, k2, b1, b2, b3, b4]
    · ((try simp -implicitDefEqProofs [-loopQ_n, domC, k1, k2, b3, w1]) <;> (repeat' (first | ((first | refine condD_dec ?_ ?_ | refine guardD_dec ?_ ?_) <;> (intro hc; (try simp -implicitDefEqProofs [-loopQ_n, hc, domC, k1, k2, b3, w1]))) | (refine callS_mk ?_; (try simp -implicitDefEqProofs [-loopQ_n, domC, k1, k2, b3, w1]); (first | refine callS_intro (hname) (.inl rfl) ?_ | refine callS_intro (hlo) (.inl rfl) ?_ | refine callS_intro (hhi) (.inl rfl) ?_); (try simp -implicitDefEqProofs [-loopQ_n, domC, k1, k2, b3, w1])))))
      simp [domV, hn, k2, b1, b2, b3]
  by_cases k3 : x.kind = 3
  rotate_left
  · skip
    refine pure_of mixed Tryz.func76 rfl (by kernel_rfl) (of_decide_eq_true rfl) (by kernel_rfl) (vc_run ?_)
    ((try simp -implicitDefEqProofs [-loopQ_n, domC, k1, k2, k3]) <;> (repeat' (first | ((first | refine condD_dec ?_ ?_ | refine guardD_dec ?_ ?_) <;> (intro hc; (try simp -implicitDefEqProofs [-loopQ_n, hc, domC, k1, k2, k3]))) | (refine callS_mk ?_; (try simp -implicitDefEqProofs [-loopQ_n, domC, k1, k2, k3]); (first | refine callS_intro (hname) (.inl rfl) ?_); (try simp -implicitDefEqProofs [-loopQ_n, domC, k1, k2, k3])))))
    simp [domV, hn, k1, k2, k3]
  refine pure_M [13] mixed Tryz.func76 rfl (by kernel_rfl) (of_decide_eq_true rfl) (by kernel_rfl) (vc_run ?_)
  by_cases a1 : x.low = 0
  rotate_left
  · ((try simp -implicitDefEqProofs [-loopQ_n, domC, k1, k2, k3, a1]) <;> (repeat' (first | ((first | refine condD_dec ?_ ?_ | refine guardD_dec ?_ ?_) <;> (intro hc; (try simp -implicitDefEqProofs [-loopQ_n, hc, domC, k1, k2, k3, a1]))) | (refine callS_mk ?_; (try simp -implicitDefEqProofs [-loopQ_n, domC, k1, k2, k3, a1]); (first | refine callS_intro (hname) (.inl rfl) ?_); (try simp -implicitDefEqProofs [-loopQ_n, domC, k1, k2, k3, a1])))))
    simp [domV, hn, k3, a1]
  by_cases a2 : x.high = 0
  rotate_left
  · ((try simp -implicitDefEqProofs [-loopQ_n, domC, k1, k2, k3, a1, a2]) <;> (repeat' (first | ((first | refine condD_dec ?_ ?_ | refine guardD_dec ?_ ?_) <;> (intro hc; (try simp -implicitDefEqProofs [-loopQ_n, hc, domC, k1, k2, k3, a1, a2]))) | (refine callS_mk ?_; (try simp -implicitDefEqProofs [-loopQ_n, domC, k1, k2, k3, a1, a2]); (first | refine callS_intro (hname) (.inl rfl) ?_); (try simp -implicitDefEqProofs [-loopQ_n, domC, k1, k2, k3, a1, a2])))))
    simp [domV, hn, k3, a1, a2]
  by_cases a3 : x.items.length < 1
  · have a3' : (x.items.length : Int) < 1 := by omega
    ((try simp -implicitDefEqProofs [-loopQ_n, domC, k1, k2, k3, a1, a2, a3']) <;> (repeat' (first | ((first | refine condD_dec ?_ ?_ | refine guardD_dec ?_ ?_) <;> (intro hc; (try simp -implicitDefEqProofs [-loopQ_n, hc, domC, k1, k2, k3, a1, a2, a3']))) | (refine callS_mk ?_; (try simp -implicitDefEqProofs [-loopQ_n, domC, k1, k2, k3, a1, a2, a3']); (first | refine callS_intro (hname) (.inl rfl) ?_); (try simp -implicitDefEqProofs [-loopQ_n, domC, k1, k2, k3, a1, a2, a3'])))))
    have : ¬ 1 ≤ x.items.length := by omega
    simp [domV, hn, k3, a1, a2, this]
  by_cases a4 : 1000 < x.items.length
  · have a4' : (1000 : Int) < x.items.length := by omega
    have a3' : ¬ (x.items.length : Int) < 1 := by omega
    ((try simp -implicitDefEqProofs [-loopQ_n, domC, k1, k2, k3, a1, a2, a3', a4']) <;> (repeat' (first | ((first | refine condD_dec ?_ ?_ | refine guardD_dec ?_ ?_) <;> (intro hc; (try simp -implicitDefEqProofs [-loopQ_n, hc, domC, k1, k2, k3, a1, a2, a3', a4']))) | (refine callS_mk ?_; (try simp -implicitDefEqProofs [-loopQ_n, domC, k1, k2, k3, a1, a2, a3', a4']); (first | refine callS_intro (hname) (.inl rfl) ?_); (try simp -implicitDefEqProofs [-loopQ_n, domC, k1, k2, k3, a1, a2, a3', a4'])))))
    have : ¬ x.items.length ≤ 1000 := by omega
    simp [domV, hn, k3, a1, a2, this]
  have hA := dvS_any (p := fun s => !textV s) (l := x.items) (g := 109) (caps := []) (fun x _ => vvar1_pure x) (fun H k => rfl) rfl (by omega)
  rw [show (x.items.any fun s => !textV s) = !x.items.all textV by simp [List.any_eq_not_all_not]] at hA
  have a3' : ¬ (x.items.length : Int) < 1 := by omega
  have a4' : ¬ (1000 : Int) < x.items.length := by omega
  by_cases a5 : x.items.all textV = true
  rotate_left
  · have a5 : x.items.all textV = false := by simpa using a5
    rw [a5] at hA
    ((try simp -implicitDefEqProofs [-loopQ_n, domC, k1, k2, k3, a1, a2, a3', a4']) <;> (repeat' (first | ((first | refine condD_dec ?_ ?_ | refine guardD_dec ?_ ?_) <;> (intro hc; (try simp -implicitDefEqProofs [-loopQ_n, hc, domC, k1, k2, k3, a1, a2, a3', a4']))) | (refine callS_mk ?_; (try simp -implicitDefEqProofs [-loopQ_n, domC, k1, k2, k3, a1, a2, a3', a4']); (first | refine callS_intro (hname) (.inl rfl) ?_ | refine callS_intro (hA) (.inl rfl) ?_); (try simp -implicitDefEqProofs [-loopQ_n, domC, k1, k2, k3, a1, a2, a3', a4'])))))
    simp [domV, hn, k3, a1, a2, a5]
  rw [a5] at hA
  have h0 : x.items ≠ [] := fun e => by rw [e] at a3; simp at a3
  have hc := cloneS_fresh x.items h0 (by omega)
  have hlf : ((rowsOf strC x.items).all fun r => r.all flat) = true := rowsOf_flat fun x => by simp [strC, flat]
  ((try simp -implicitDefEqProofs [-loopQ_n, domC, k1, k2, k3, a1, a2, a3', a4']) <;> (repeat' (first | ((first | refine condD_dec ?_ ?_ | refine guardD_dec ?_ ?_) <;> (intro hc; (try simp -implicitDefEqProofs [-loopQ_n, hc, domC, k1, k2, k3, a1, a2, a3', a4']))) | (refine callS_mk ?_; (try simp -implicitDefEqProofs [-loopQ_n, domC, k1, k2, k3, a1, a2, a3', a4']); (first | refine callS_intro (hname) (.inl rfl) ?_ | refine callS_intro (hA) (.inl rfl) ?_); (try simp -implicitDefEqProofs [-loopQ_n, domC, k1, k2, k3, a1, a2, a3', a4'])))))
  refine fresh_intro hc (by simp) (.inl hlf) ?_
  ((try simp -implicitDefEqProofs [-loopQ_n]) <;> (repeat' (first | ((first | refine condD_dec ?_ ?_ | refine guardD_dec ?_ ?_) <;> (intro hc; (try simp -implicitDefEqProofs [-loopQ_n, hc]))))))
  refine callG_intro (sort_G (e := 9) (nb := false) (l := x.items) (by simp) (by simp) e_strC (by omega) ?_)
  ((try simp -implicitDefEqProofs [-loopQ_n]) <;> (repeat' (first | ((first | refine condD_dec ?_ ?_ | refine guardD_dec ?_ ?_) <;> (intro hc; (try simp -implicitDefEqProofs [-loopQ_n, hc]))))))
  refine call2_row (id := 1) (b := .gone) (by kernel_rfl) (by simp) rfl (by simp [isBoxO, isBox]) (comp_G (e := 9) (nb := false) (l := sortB x.items) (by simp) (by simp [sortB_len]) e_strC (by rw [sortB_len]; omega) ⟨rfl, rfl⟩) ?_
  have hsn := setB_nodup x.items
  by_cases a6 : x.items.Nodup
  · have a7 := hsn.2 a6
    have a7' : ((setB x.items).length : Int) = x.items.length := by omega
    ((try simp -implicitDefEqProofs [-loopQ_n, comp_sortB, a7']) <;> (repeat' (first | ((first | refine condD_dec ?_ ?_ | refine guardD_dec ?_ ?_) <;> (intro hc; (try simp -implicitDefEqProofs [-loopQ_n, hc, comp_sortB, a7']))) | ((first | (refine ld2_op ?_ ?_; (focus kernel_rfl)) | (refine ld2_ep ?_ ?_; (focus kernel_rfl)) | (refine nbx_intro ?_ ?_; (focus kernel_rfl)) | (refine nbx_fin ?_; (focus kernel_rfl))); (try simp -implicitDefEqProofs [-loopQ_n, comp_sortB, a7'])))))
    simp [domV, hn, k3, a1, a2, a5, a6, show 1 ≤ x.items.length by omega, show x.items.length ≤ 1000 by omega]
  · have a7' : ¬ ((setB x.items).length : Int) = x.items.length := fun e => a6 (hsn.1 (by omega))
    ((try simp -implicitDefEqProofs [-loopQ_n, comp_sortB, a7']) <;> (repeat' (first | ((first | refine condD_dec ?_ ?_ | refine guardD_dec ?_ ?_) <;> (intro hc; (try simp -implicitDefEqProofs [-loopQ_n, hc, comp_sortB, a7']))) | ((first | (refine ld2_op ?_ ?_; (focus kernel_rfl)) | (refine ld2_ep ?_ ?_; (focus kernel_rfl)) | (refine nbx_intro ?_ ?_; (focus kernel_rfl)) | (refine nbx_fin ?_; (focus kernel_rfl))); (try simp -implicitDefEqProofs [-loopQ_n, comp_sortB, a7'])))))
    simp [domV, hn, k3, a1, a2, a5, a6]
end Go.Proofs.YthemglpccpjokaaGreat
namespace Go.Proofs.YthemglpccpjokaaGreat
open Go.RowKit
variable [Glob]
theorem idxA_ge (l : List ByteArray) (x : ByteArray) : ∀ i : Int, 0 ≤ i → (0 ≤ idxA l x i ↔ x ∈ l) := by
  induction l with
  | nil => intro i _; simp [idxA]
  | cons y r ih =>
    intro i hi
    by_cases e : y = x
    · simp [idxA, e, hi]
    · simp only [idxA, if_neg e]
      rw [ih (i + 1) (by omega), List.mem_cons]
      exact ⟨.inr, fun h => h.resolve_left fun q => e q.symm⟩
theorem idxS_ge (l : List ByteArray) (x : ByteArray) : 0 ≤ idxS l x ↔ x ∈ l := idxA_ge l x 0 (by omega)
set_option maxHeartbeats 8000000 in
theorem rdom_pure (x : Dom) : Pure Tryz.prog 81 [.agg (domC x)] (.bool (domV x)) := by
  by_cases hn : isNameS x.name = true
  rotate_left
  · have hn : isNameS x.name = false := by simpa using hn
    have h := risName_pure x.name
    rw [hn] at h
    refine pure_of mixed Tryz.func81 rfl (by kernel_rfl) (of_decide_eq_true rfl) (by kernel_rfl) (vc_run ?_)
    ((try simp -implicitDefEqProofs [-loopQ_n, domC]) <;> (repeat' (first | ((first | refine condD_dec ?_ ?_ | refine guardD_dec ?_ ?_) <;> (intro hc; (try simp -implicitDefEqProofs [-loopQ_n, hc, domC]))) | (refine callS_mk ?_; (try simp -implicitDefEqProofs [-loopQ_n, domC]); (first | refine callS_intro (h) (.inl rfl) ?_); (try simp -implicitDefEqProofs [-loopQ_n, domC])))))
    simp [domV, hn]
  have hname := risName_pure x.name
  rw [hn] at hname
  by_cases k2 : x.kind = 2
  · have hlo := rnumber_pure x.low
    have hhi := rnumber_pure x.high
    by_cases b1 : numV x.low = true
    rotate_left
    · have b1 : numV x.low = false := by simpa using b1
      rw [b1] at hlo
      refine pure_of mixed Tryz.func81 rfl (by kernel_rfl) (of_decide_eq_true rfl) (by kernel_rfl) (vc_run ?_)
      ((try simp -implicitDefEqProofs [-loopQ_n, domC, k2]) <;> (repeat' (first | ((first | refine condD_dec ?_ ?_ | refine guardD_dec ?_ ?_) <;> (intro hc; (try simp -implicitDefEqProofs [-loopQ_n, hc, domC, k2]))) | (refine callS_mk ?_; (try simp -implicitDefEqProofs [-loopQ_n, domC, k2]); (first | refine callS_intro (hname) (.inl rfl) ?_ | refine callS_intro (hlo) (.inl rfl) ?_); (try simp -implicitDefEqProofs [-loopQ_n, domC, k2])))))
      simp [domV, hn, k2, b1]
    rw [b1] at hlo
    by_cases b2 : numV x.high = true
    rotate_left
    · have b2 : numV x.high = false := by simpa using b2
      rw [b2] at hhi
      refine pure_of mixed Tryz.func81 rfl (by kernel_rfl) (of_decide_eq_true rfl) (by kernel_rfl) (vc_run ?_)
      ((try simp -implicitDefEqProofs [-loopQ_n, domC, k2]) <;> (repeat' (first | ((first | refine condD_dec ?_ ?_ | refine guardD_dec ?_ ?_) <;> (intro hc; (try simp -implicitDefEqProofs [-loopQ_n, hc, domC, k2]))) | (refine callS_mk ?_; (try simp -implicitDefEqProofs [-loopQ_n, domC, k2]); (first | refine callS_intro (hname) (.inl rfl) ?_ | refine callS_intro (hlo) (.inl rfl) ?_ | refine callS_intro (hhi) (.inl rfl) ?_); (try simp -implicitDefEqProofs [-loopQ_n, domC, k2])))))
      simp [domV, hn, k2, b1, b2]
    rw [b2] at hhi
    have c1 : -4503599627370496 ≤ x.low ∧ x.low ≤ 4503599627370496 := by simpa [numV] using b1
    have c2 : -4503599627370496 ≤ x.high ∧ x.high ≤ 4503599627370496 := by simpa [numV] using b2
    have w1 : wrapI .i64 (x.high - x.low) = x.high - x.low := wrap_in (by omega) (by omega)
    refine pure_of mixed Tryz.func81 rfl (by kernel_rfl) (of_decide_eq_true rfl) (by kernel_rfl) (vc_run ?_)
    by_cases b3 : x.low ≤ x.high
    · by_cases b4 : x.high - x.low < 1000
      · by_cases a3 : x.items.length = 0
        · have : x.items = [] := List.eq_nil_of_length_eq_zero a3
          ((try simp -implicitDefEqProofs [-loopQ_n, domC, k2, b3, b4, w1, a3]) <;> (repeat' (first | ((first | refine condD_dec ?_ ?_ | refine guardD_dec ?_ ?_) <;> (intro hc; (try simp -implicitDefEqProofs [-loopQ_n, hc, domC, k2, b3, b4, w1, a3]))) | (refine callS_mk ?_; (try simp -implicitDefEqProofs [-loopQ_n, domC, k2, b3, b4, w1, a3]); (first | refine callS_intro (hname) (.inl rfl) ?_ | refine callS_intro (hlo) (.inl rfl) ?_ | refine callS_intro (hhi) (.inl rfl) ?_); (try simp -implicitDefEqProofs [-loopQ_n, domC, k2, b3, b4, w1, a3])))))
          simp [domV, hn, k2, b1, b2, b3, b4, this]
        · have : ¬ x.items = [] := fun e => a3 (by rw [e]; rfl)
          ((try simp -implicitDefEqProofs [-loopQ_n, domC, k2, b3, b4, w1, a3]) <;> (repeat' (first | ((first | refine condD_dec ?_ ?_ | refine guardD_dec ?_ ?_) <;> (intro hc; (try simp -implicitDefEqProofs [-loopQ_n, hc, domC, k2, b3, b4, w1, a3]))) | (refine callS_mk ?_; (try simp -implicitDefEqProofs [-loopQ_n, domC, k2, b3, b4, w1, a3]); (first | refine callS_intro (hname) (.inl rfl) ?_ | refine callS_intro (hlo) (.inl rfl) ?_ | refine callS_intro (hhi) (.inl rfl) ?_); (try simp -implicitDefEqProofs [-loopQ_n, domC, k2, b3, b4, w1, a3])))))
          simp [domV, hn, k2, b1, b2, b3, b4, this]
      · ((try simp -implicitDefEqProofs [-loopQ_n, domC, k2, b3, b4, w1]) <;> (repeat' (first | ((first | refine condD_dec ?_ ?_ | refine guardD_dec ?_ ?_) <;> (intro hc; (try simp -implicitDefEqProofs [-loopQ_n, hc, domC, k2, b3, b4, w1]))) | (refine callS_mk ?_; (try simp -implicitDefEqProofs [-loopQ_n, domC, k2, b3, b4, w1]); (first | refine callS_intro (hname) (.inl rfl) ?_ | refine callS_intro (hlo) (.inl rfl) ?_ | refine callS_intro (hhi) (.inl rfl) ?_); (try simp -implicitDefEqProofs [-loopQ_n, domC, k2, b3, b4, w1])))))
        simp [domV, hn, k2, b1, b2, b3, b4]
    · ((try simp -implicitDefEqProofs [-loopQ_n, domC, k2, b3, w1]) <;> (repeat' (first | ((first | refine condD_dec ?_ ?_ | refine guardD_dec ?_ ?_) <;> (intro hc; (try simp -implicitDefEqProofs [-loopQ_n, hc, domC, k2, b3, w1]))) | (refine callS_mk ?_; (try simp -implicitDefEqProofs [-loopQ_n, domC, k2, b3, w1]); (first | refine callS_intro (hname) (.inl rfl) ?_ | refine callS_intro (hlo) (.inl rfl) ?_ | refine callS_intro (hhi) (.inl rfl) ?_); (try simp -implicitDefEqProofs [-loopQ_n, domC, k2, b3, w1])))))
      simp [domV, hn, k2, b1, b2, b3]
  refine pure_of mixed Tryz.func81 rfl (by kernel_rfl) (of_decide_eq_true rfl) (by kernel_rfl) (vc_run ?_)
  by_cases a1 : x.low = 0
  rotate_left
  · ((try simp -implicitDefEqProofs [-loopQ_n, domC, k2, a1]) <;> (repeat' (first | ((first | refine condD_dec ?_ ?_ | refine guardD_dec ?_ ?_) <;> (intro hc; (try simp -implicitDefEqProofs [-loopQ_n, hc, domC, k2, a1]))) | (refine callS_mk ?_; (try simp -implicitDefEqProofs [-loopQ_n, domC, k2, a1]); (first | refine callS_intro (hname) (.inl rfl) ?_); (try simp -implicitDefEqProofs [-loopQ_n, domC, k2, a1])))))
    simp [domV, hn, k2, a1]
  by_cases a2 : x.high = 0
  rotate_left
  · ((try simp -implicitDefEqProofs [-loopQ_n, domC, k2, a1, a2]) <;> (repeat' (first | ((first | refine condD_dec ?_ ?_ | refine guardD_dec ?_ ?_) <;> (intro hc; (try simp -implicitDefEqProofs [-loopQ_n, hc, domC, k2, a1, a2]))) | (refine callS_mk ?_; (try simp -implicitDefEqProofs [-loopQ_n, domC, k2, a1, a2]); (first | refine callS_intro (hname) (.inl rfl) ?_); (try simp -implicitDefEqProofs [-loopQ_n, domC, k2, a1, a2])))))
    simp [domV, hn, k2, a1, a2]
  by_cases k1 : x.kind = 1
  · by_cases a3 : x.items.length = 0
    · ((try simp -implicitDefEqProofs [-loopQ_n, domC, k1, a1, a2, a3]) <;> (repeat' (first | ((first | refine condD_dec ?_ ?_ | refine guardD_dec ?_ ?_) <;> (intro hc; (try simp -implicitDefEqProofs [-loopQ_n, hc, domC, k1, a1, a2, a3]))) | (refine callS_mk ?_; (try simp -implicitDefEqProofs [-loopQ_n, domC, k1, a1, a2, a3]); (first | refine callS_intro (hname) (.inl rfl) ?_); (try simp -implicitDefEqProofs [-loopQ_n, domC, k1, a1, a2, a3])))))
      have : x.items = [] := List.eq_nil_of_length_eq_zero a3
      simp [domV, hn, k1, a1, a2, this]
    · ((try simp -implicitDefEqProofs [-loopQ_n, domC, k1, a1, a2, a3]) <;> (repeat' (first | ((first | refine condD_dec ?_ ?_ | refine guardD_dec ?_ ?_) <;> (intro hc; (try simp -implicitDefEqProofs [-loopQ_n, hc, domC, k1, a1, a2, a3]))) | (refine callS_mk ?_; (try simp -implicitDefEqProofs [-loopQ_n, domC, k1, a1, a2, a3]); (first | refine callS_intro (hname) (.inl rfl) ?_); (try simp -implicitDefEqProofs [-loopQ_n, domC, k1, a1, a2, a3])))))
      have : ¬ x.items = [] := fun e => a3 (by rw [e]; rfl)
      simp [domV, hn, k1, a1, a2, this]
  by_cases k3 : x.kind = 3
  rotate_left
  · ((try simp -implicitDefEqProofs [-loopQ_n, domC, k1, k2, k3, a1, a2]) <;> (repeat' (first | ((first | refine condD_dec ?_ ?_ | refine guardD_dec ?_ ?_) <;> (intro hc; (try simp -implicitDefEqProofs [-loopQ_n, hc, domC, k1, k2, k3, a1, a2]))) | (refine callS_mk ?_; (try simp -implicitDefEqProofs [-loopQ_n, domC, k1, k2, k3, a1, a2]); (first | refine callS_intro (hname) (.inl rfl) ?_); (try simp -implicitDefEqProofs [-loopQ_n, domC, k1, k2, k3, a1, a2])))))
    simp [domV, hn, k1, k2, k3]
  by_cases a3 : x.items.length < 1
  · have a3' : (x.items.length : Int) < 1 := by omega
    ((try simp -implicitDefEqProofs [-loopQ_n, domC, k1, k2, k3, a1, a2, a3']) <;> (repeat' (first | ((first | refine condD_dec ?_ ?_ | refine guardD_dec ?_ ?_) <;> (intro hc; (try simp -implicitDefEqProofs [-loopQ_n, hc, domC, k1, k2, k3, a1, a2, a3']))) | (refine callS_mk ?_; (try simp -implicitDefEqProofs [-loopQ_n, domC, k1, k2, k3, a1, a2, a3']); (first | refine callS_intro (hname) (.inl rfl) ?_); (try simp -implicitDefEqProofs [-loopQ_n, domC, k1, k2, k3, a1, a2, a3'])))))
    have : ¬ 1 ≤ x.items.length := by omega
    simp [domV, hn, k3, a1, a2, this]
  have a3' : ¬ (x.items.length : Int) < 1 := by omega
  by_cases a4 : 1000 < x.items.length
  · have a4' : (1000 : Int) < x.items.length := by omega
    ((try simp -implicitDefEqProofs [-loopQ_n, domC, k1, k2, k3, a1, a2, a3', a4']) <;> (repeat' (first | ((first | refine condD_dec ?_ ?_ | refine guardD_dec ?_ ?_) <;> (intro hc; (try simp -implicitDefEqProofs [-loopQ_n, hc, domC, k1, k2, k3, a1, a2, a3', a4']))) | (refine callS_mk ?_; (try simp -implicitDefEqProofs [-loopQ_n, domC, k1, k2, k3, a1, a2, a3', a4']); (first | refine callS_intro (hname) (.inl rfl) ?_); (try simp -implicitDefEqProofs [-loopQ_n, domC, k1, k2, k3, a1, a2, a3', a4'])))))
    have : ¬ x.items.length ≤ 1000 := by omega
    simp [domV, hn, k3, a1, a2, this]
  have a4' : ¬ (1000 : Int) < x.items.length := by omega
  ((try simp -implicitDefEqProofs [-loopQ_n, domC, k1, k2, k3, a1, a2, a3', a4']) <;> (repeat' (first | ((first | refine condD_dec ?_ ?_ | refine guardD_dec ?_ ?_) <;> (intro hc; (try simp -implicitDefEqProofs [-loopQ_n, hc, domC, k1, k2, k3, a1, a2, a3', a4']))) | (refine callS_mk ?_; (try simp -implicitDefEqProofs [-loopQ_n, domC, k1, k2, k3, a1, a2, a3', a4']); (first | refine callS_intro (hname) (.inl rfl) ?_); (try simp -implicitDefEqProofs [-loopQ_n, domC, k1, k2, k3, a1, a2, a3', a4'])))))
  refine loop_intro (σ := Nat) (fun i => ⟨[(1, .op 0 0), (3, .int .i64 i)], [.box 25 [.str x.name, .int .i64 3, .int .i64 0, .int .i64 0, .rs (rowsOf strC x.items)]]⟩) (fun i => i ≤ x.items.length ∧ (x.items.take i).all textV = true ∧ (x.items.take i).Nodup) (fun i => x.items.length - i) 0 ⟨by omega, by simp, by simp⟩ ?_ ?_
  · refine weak_of 1 0 rfl rfl ?_ ?_ <;> simp
  rintro i ⟨hi, hT, hD⟩
  by_cases h : i < x.items.length
  · have w1 := w_succB h (by omega)
    have hnv : ∀ P : Prop, (¬ (x.items.all textV = true ∧ x.items.Nodup)) → domV x = false := fun _ hh => by
      cases hd : domV x with
      | false => rfl
      | true => exfalso; simp [domV, hn, k3, a1, a2] at hd; exact hh ⟨by simpa using hd.1.2, hd.2⟩
    have htx := rvtext_pure x.items[i]
    by_cases e : textV x.items[i] = true
    · rw [e] at htx
      have hix := rindex_pure (x.items.take i) x.items[i] (by simp; omega)
      have ht : List.take i (rowsOf strC x.items) = rowsOf strC (x.items.take i) := by simp [rowsOf, List.map_take]
      by_cases f : 0 ≤ idxS (x.items.take i) x.items[i]
      · ((try simp -implicitDefEqProofs [-loopQ_n, h, hi, ht, w1, f, strC]) <;> (repeat' (first | ((first | refine condD_dec ?_ ?_ | refine guardD_dec ?_ ?_) <;> (intro hc; (try simp -implicitDefEqProofs [-loopQ_n, hc, h, hi, ht, w1, f, strC]))) | (refine callS_mk ?_; (try simp -implicitDefEqProofs [-loopQ_n, h, hi, ht, w1, f, strC]); (first | refine callS_intro (htx) (.inl rfl) ?_ | refine callS_intro (hix) (.inl rfl) ?_); (try simp -implicitDefEqProofs [-loopQ_n, h, hi, ht, w1, f, strC])))))
        refine hnv True fun hh => ?_
        have hm := (idxS_ge _ _).1 f
        have hnd := hh.2
        rw [← List.take_append_drop i x.items, List.nodup_append] at hnd
        exact hnd.2.2 _ hm x.items[i] (by rw [List.drop_eq_getElem_cons h]; exact List.mem_cons_self) rfl
      · ((try simp -implicitDefEqProofs [-loopQ_n, h, hi, ht, w1, f, strC]) <;> (repeat' (first | ((first | refine condD_dec ?_ ?_ | refine guardD_dec ?_ ?_) <;> (intro hc; (try simp -implicitDefEqProofs [-loopQ_n, hc, h, hi, ht, w1, f, strC]))) | (refine callS_mk ?_; (try simp -implicitDefEqProofs [-loopQ_n, h, hi, ht, w1, f, strC]); (first | refine callS_intro (htx) (.inl rfl) ?_ | refine callS_intro (hix) (.inl rfl) ?_); (try simp -implicitDefEqProofs [-loopQ_n, h, hi, ht, w1, f, strC])))))
        have hm : x.items[i] ∉ x.items.take i := fun hm => f ((idxS_ge _ _).2 hm)
        have htk : x.items.take (i + 1) = x.items.take i ++ [x.items[i]] := by rw [List.take_append_getElem h]
        have hall : ∀ y ∈ x.items.take i ++ [x.items[i]], textV y = true := fun y hy => by
          rcases List.mem_append.1 hy with hy | hy
          · exact List.all_eq_true.1 hT y hy
          · simp at hy; subst hy; exact e
        refine loop_next (i + 1) ⟨h, by rw [htk]; exact hall, by rw [htk, List.nodup_append]; exact ⟨hD, by simp, fun a ha b hb => by simp at hb; subst hb; exact fun q => hm (q ▸ ha)⟩⟩ (by omega) (weak_of 1 0 rfl rfl ?_ ?_) <;> simp [w1]
    · have e : textV x.items[i] = false := by simpa using e
      rw [e] at htx
      ((try simp -implicitDefEqProofs [-loopQ_n, h, w1, strC]) <;> (repeat' (first | ((first | refine condD_dec ?_ ?_ | refine guardD_dec ?_ ?_) <;> (intro hc; (try simp -implicitDefEqProofs [-loopQ_n, hc, h, w1, strC]))) | (refine callS_mk ?_; (try simp -implicitDefEqProofs [-loopQ_n, h, w1, strC]); (first | refine callS_intro (htx) (.inl rfl) ?_); (try simp -implicitDefEqProofs [-loopQ_n, h, w1, strC])))))
      refine hnv True fun hh => ?_
      have := List.all_eq_true.1 hh.1 x.items[i] (by simp)
      rw [e] at this; cases this
  · ((try simp -implicitDefEqProofs [-loopQ_n, h]) <;> (repeat' (first | ((first | refine condD_dec ?_ ?_ | refine guardD_dec ?_ ?_) <;> (intro hc; (try simp -implicitDefEqProofs [-loopQ_n, hc, h]))))))
    rw [List.take_of_length_le (by omega)] at hT hD
    simp [domV, hn, k3, a1, a2, hT, hD, show 1 ≤ x.items.length by omega, show x.items.length ≤ 1000 by omega]
end Go.Proofs.YthemglpccpjokaaGreat
namespace Go.Proofs.YthemglpccpjokaaGreat
open Go.RowKit
variable [Glob]
def sK (x : ByteArray) : AV := .str x
def bV (x : Bool) : AV := .bool x
theorem mf_s {β : Type} {vc : β → AV} (k : ByteArray) (es : List (ByteArray × β)) : mfind (false, [2]) (.str k) (mE sK vc es) 0 = some ((afind k es 0).map fun e => (e.1, vc e.2)) := by
  refine mfind_E (kc := sK) (vc := vc) (ks := (false, [2])) (fun x y => ?_) k es 0
  simp only [keq, sK, eqCs, Option.some.injEq]
  by_cases h : y = x
  · subst h; simp
  · have : ¬ x.toList = y.toList := fun e => h (ba_eq (by rw [ba_toList, ba_toList] at e; exact e.symm))
    simp [h, this]
theorem afind_none {α β : Type} [DecidableEq α] {es : List (α × β)} {k : α} : ∀ i, afind k es i = none ↔ k ∉ es.map (·.1) := by
  induction es with
  | nil => intro i; simp [afind]
  | cons e r ih =>
    intro i
    simp only [afind]
    by_cases h : e.1 = k
    · simp [h]
    · have : ¬ k = e.1 := fun q => h q.symm
      simp only [if_neg h, ih, List.map_cons, List.mem_cons, this, false_or]
def marksD (l : List Dom) : List (ByteArray × Bool) := l.map fun x => (x.name, true)
theorem marksD_find {l : List Dom} {k : ByteArray} : (k ∈ l.map (·.name) ∧ ∃ j, afind k (marksD l) 0 = some (j, true)) ∨ (k ∉ l.map (·.name) ∧ afind k (marksD l) 0 = none) := by
  have hk : (marksD l).map (·.1) = l.map (·.name) := by simp [marksD]
  cases h : afind k (marksD l) 0 with
  | none => exact .inr ⟨by rw [← hk]; exact (afind_none 0).1 h, rfl⟩
  | some e =>
    obtain ⟨j, v⟩ := e
    have h2 := afind_eq h
    have h3 : v = true := by
      simp only [marksD, List.getElem?_map, Option.map_eq_some_iff] at h2
      obtain ⟨x, _, q⟩ := h2
      exact (Prod.mk.inj q).2.symm
    subst h3
    refine .inl ⟨?_, j, rfl⟩
    rw [← hk]
    exact List.mem_map.2 ⟨_, List.mem_of_getElem? h2, rfl⟩
def domsV (l : List Dom) : Bool := l.all domV && decide (l.map (·.name)).Nodup && decide (l.length ≤ 8)
set_option maxHeartbeats 8000000 in
theorem doms_pure (l : List Dom) (hl : l.length ≤ 1000000) : Pure Tryz.prog 87 [.rs (rowsOf domC l)] (.bool (domsV l)) := by
  refine pure_of mixed Tryz.func87 rfl (by kernel_rfl) (of_decide_eq_true rfl) (by kernel_rfl) (vc_run ?_)
  ((try simp -implicitDefEqProofs [-loopQ_n]) <;> (repeat' (first | ((first | refine condD_dec ?_ ?_ | refine guardD_dec ?_ ?_) <;> (intro hc; (try simp -implicitDefEqProofs [-loopQ_n, hc]))))))
  refine loop_intro (σ := Nat) (fun i => ⟨[(0, .rs (rowsOf domC l)), (3, .mp 0), (7, .rs (rowsOf domC l)), (8, .int .i64 l.length), (9, .int .i64 i)], [.map (mE sK bV (marksD (l.take i)))]⟩)
    (fun i => i ≤ l.length ∧ (l.take i).all domV = true ∧ ((l.take i).map (·.name)).Nodup) (fun i => l.length - i) 0 ⟨by simp, by simp, by simp⟩ ?_ ?_
  · refine weak_of 1 0 rfl rfl ?_ ?_ <;> simp [mE, refsM, marksD]
  rintro i ⟨hi, hA, hD⟩
  by_cases h : i < l.length
  · have w1 := w_succB h (by omega)
    obtain ⟨x, hf⟩ : ∃ e, l[i] = e := ⟨_, rfl⟩
    have hx := dom_pure x
    have hxm : x ∈ l := by rw [← hf]; exact List.getElem_mem h
    have htk : l.take (i + 1) = l.take i ++ [x] := by rw [← hf, List.take_append_getElem h]
    by_cases e : domV x = true
    · rw [e] at hx
      simp only [domC] at hx
      rcases marksD_find (l := l.take i) (k := x.name) with ⟨m1, j, m2⟩ | ⟨m1, m2⟩
      · ((try simp -implicitDefEqProofs [-loopQ_n, h, hf, domC, w1, mf_s, m2, bV]) <;> (repeat' (first | ((first | refine condD_dec ?_ ?_ | refine guardD_dec ?_ ?_) <;> (intro hc; (try simp -implicitDefEqProofs [-loopQ_n, hc, h, hf, domC, w1, mf_s, m2, bV]))) | (refine callS_mk ?_; (try simp -implicitDefEqProofs [-loopQ_n, h, hf, domC, w1, mf_s, m2, bV]); (first | refine callS_intro (hx) (.inl rfl) ?_); (try simp -implicitDefEqProofs [-loopQ_n, h, hf, domC, w1, mf_s, m2, bV])))))
        have hnd : ¬ (l.map (·.name)).Nodup := fun hnd => by
          rw [← List.take_append_drop i l, List.map_append, List.nodup_append] at hnd
          refine hnd.2.2 _ m1 x.name ?_ rfl
          rw [List.drop_eq_getElem_cons h, hf]; exact List.mem_cons_self
        simp [domsV, hnd]
      · ((try simp -implicitDefEqProofs [-loopQ_n, h, hf, domC, w1, mf_s, m2, bV]) <;> (repeat' (first | ((first | refine condD_dec ?_ ?_ | refine guardD_dec ?_ ?_) <;> (intro hc; (try simp -implicitDefEqProofs [-loopQ_n, hc, h, hf, domC, w1, mf_s, m2, bV]))) | (refine callS_mk ?_; (try simp -implicitDefEqProofs [-loopQ_n, h, hf, domC, w1, mf_s, m2, bV]); (first | refine callS_intro (hx) (.inl rfl) ?_); (try simp -implicitDefEqProofs [-loopQ_n, h, hf, domC, w1, mf_s, m2, bV])))))
        have hall : ∀ y ∈ l.take i ++ [x], domV y = true := fun y hy => by
          rcases List.mem_append.1 hy with hy | hy
          · exact List.all_eq_true.1 hA y hy
          · simp at hy; subst hy; exact e
        have hmk : mE sK bV (marksD (l.take (i + 1))) = mE sK bV (marksD (l.take i)) ++ [(.str x.name, .bool true)] := by rw [htk]; simp [marksD, mE, sK, bV]
        refine loop_next (i + 1) ⟨h, by rw [htk]; exact hall, ?_⟩ (by omega) (weak_of 1 0 rfl rfl (by simp [w1]) ⟨⟨?_, ?_⟩, trivial⟩)
        · rw [← List.map_take, htk, List.map_append, List.nodup_append]
          exact ⟨hD, by simp, fun a ha b hb => by simp at hb; subst hb; exact fun q => m1 (q ▸ ha)⟩
        · rw [hmk]
        · rw [← hmk]; exact mE_refs (fun x => by simp [sK, refs]) fun x => by simp [bV, refs]
    · have e : domV x = false := by simpa using e
      rw [e] at hx
      simp only [domC] at hx
      ((try simp -implicitDefEqProofs [-loopQ_n, h, hf, domC, w1]) <;> (repeat' (first | ((first | refine condD_dec ?_ ?_ | refine guardD_dec ?_ ?_) <;> (intro hc; (try simp -implicitDefEqProofs [-loopQ_n, hc, h, hf, domC, w1]))) | (refine callS_mk ?_; (try simp -implicitDefEqProofs [-loopQ_n, h, hf, domC, w1]); (first | refine callS_intro (hx) (.inl rfl) ?_); (try simp -implicitDefEqProofs [-loopQ_n, h, hf, domC, w1])))))
      have : ¬ ∀ y ∈ l, domV y = true := fun q => by have := q x hxm; rw [e] at this; cases this
      simp [domsV, this]
  · rw [List.take_of_length_le (by omega)] at hA hD
    by_cases h8 : (l.length : Int) ≤ 8
    · ((try simp -implicitDefEqProofs [-loopQ_n, h, h8]) <;> (repeat' (first | ((first | refine condD_dec ?_ ?_ | refine guardD_dec ?_ ?_) <;> (intro hc; (try simp -implicitDefEqProofs [-loopQ_n, hc, h, h8]))))))
      have : l.length ≤ 8 := by omega
      simp [domsV, hD, this]
      simpa using hA
    · ((try simp -implicitDefEqProofs [-loopQ_n, h, h8]) <;> (repeat' (first | ((first | refine condD_dec ?_ ?_ | refine guardD_dec ?_ ?_) <;> (intro hc; (try simp -implicitDefEqProofs [-loopQ_n, hc, h, h8]))))))
      have : ¬ l.length ≤ 8 := by omega
      simp [domsV, this]
set_option maxHeartbeats 8000000 in
theorem rdoms_pure (l : List Dom) (hl : l.length ≤ 1000000) : Pure Tryz.prog 49 [.rs (rowsOf domC l)] (.bool (domsV l)) := by
  refine pure_of mixed Tryz.func49 rfl (by kernel_rfl) (of_decide_eq_true rfl) (by kernel_rfl) (vc_run ?_)
  by_cases h8 : (8 : Int) < l.length
  · ((try simp -implicitDefEqProofs [-loopQ_n, h8]) <;> (repeat' (first | ((first | refine condD_dec ?_ ?_ | refine guardD_dec ?_ ?_) <;> (intro hc; (try simp -implicitDefEqProofs [-loopQ_n, hc, h8]))))))
    have : ¬ l.length ≤ 8 := by omega
    simp [domsV, this]
  have h8l : l.length ≤ 8 := by omega
  ((try simp -implicitDefEqProofs [-loopQ_n, h8]) <;> (repeat' (first | ((first | refine condD_dec ?_ ?_ | refine guardD_dec ?_ ?_) <;> (intro hc; (try simp -implicitDefEqProofs [-loopQ_n, hc, h8]))))))
  refine loop_intro (σ := Nat) (fun i => ⟨[(0, .rs (rowsOf domC l)), (3, .int .i64 i)], []⟩)
    (fun i => i ≤ l.length ∧ (l.take i).all domV = true ∧ ((l.take i).map (·.name)).Nodup) (fun i => l.length - i) 0 ⟨by simp, by simp, by simp⟩ ?_ ?_
  · refine weak_of 0 0 rfl rfl ?_ ?_ <;> simp
  rintro i ⟨hi, hA, hD⟩
  by_cases h : i < l.length
  · have w1 := w_succB h (by omega)
    obtain ⟨x, hf⟩ : ∃ e, l[i] = e := ⟨_, rfl⟩
    have hx := rdom_pure x
    have hxm : x ∈ l := by rw [← hf]; exact List.getElem_mem h
    have htk : l.take (i + 1) = l.take i ++ [x] := by rw [← hf, List.take_append_getElem h]
    by_cases e : domV x = true
    · rw [e] at hx
      simp only [domC] at hx
      ((try simp -implicitDefEqProofs [-loopQ_n, h, hf, domC, w1]) <;> (repeat' (first | ((first | refine condD_dec ?_ ?_ | refine guardD_dec ?_ ?_) <;> (intro hc; (try simp -implicitDefEqProofs [-loopQ_n, hc, h, hf, domC, w1]))) | (refine callS_mk ?_; (try simp -implicitDefEqProofs [-loopQ_n, h, hf, domC, w1]); (first | refine callS_intro (hx) (.inl rfl) ?_); (try simp -implicitDefEqProofs [-loopQ_n, h, hf, domC, w1])))))
      refine loop_intro (σ := Nat) (fun k => ⟨[(0, .rs (rowsOf domC l)), (3, .int .i64 i), (4, .int .i64 k)], []⟩)
        (fun k => k ≤ i ∧ x.name ∉ (l.take k).map (·.name)) (fun k => i - k) 0 ⟨by simp, by simp⟩ ?_ ?_
      · refine weak_of 0 0 rfl rfl ?_ ?_ <;> simp
      rintro k ⟨hk, hm⟩
      by_cases g : k < i
      · have w2 := w_succB g (by omega)
        have g' : (k : Int) < i := by omega
        have hkl : k < l.length := by omega
        obtain ⟨y, hy⟩ : ∃ e, l[k] = e := ⟨_, rfl⟩
        have hky : l.take (k + 1) = l.take k ++ [y] := by rw [← hy, List.take_append_getElem hkl]
        by_cases q : y.name = x.name
        · have q' : y.name.toList = x.name.toList := by rw [q]
          ((try simp -implicitDefEqProofs [-loopQ_n, h, hf, hkl, hy, g', domC, w1, w2, q']) <;> (repeat' (first | ((first | refine condD_dec ?_ ?_ | refine guardD_dec ?_ ?_) <;> (intro hc; (try simp -implicitDefEqProofs [-loopQ_n, hc, h, hf, hkl, hy, g', domC, w1, w2, q']))))))
          have hnd : ¬ (l.map (·.name)).Nodup := fun hnd => by
            rw [← List.take_append_drop i l, List.map_append, List.nodup_append] at hnd
            refine hnd.2.2 y.name (List.mem_map.2 ⟨y, ?_, rfl⟩) x.name ?_ q
            · rw [← hy]; exact List.mem_take_iff_getElem.2 ⟨k, by omega, rfl⟩
            · rw [List.drop_eq_getElem_cons h, hf]; exact List.mem_cons_self
          simp [domsV, hnd]
        · have q' : ¬ y.name.toList = x.name.toList := fun e => q (ba_eq (by rw [ba_toList, ba_toList] at e; exact e))
          ((try simp -implicitDefEqProofs [-loopQ_n, h, hf, hkl, hy, g', domC, w1, w2, q']) <;> (repeat' (first | ((first | refine condD_dec ?_ ?_ | refine guardD_dec ?_ ?_) <;> (intro hc; (try simp -implicitDefEqProofs [-loopQ_n, hc, h, hf, hkl, hy, g', domC, w1, w2, q']))))))
          refine loop_next (k + 1) ⟨g, ?_⟩ (by omega) (weak_of 0 0 rfl rfl (by simp [w2]) trivial)
          rw [← List.map_take, hky]
          intro hin
          simp only [List.map_append, List.mem_append, List.map_cons, List.map_nil, List.mem_singleton] at hin
          exact hin.elim hm fun e => q e.symm
      · have g' : ¬ (k : Int) < i := by omega
        have hki : k = i := by omega
        subst hki
        ((try simp -implicitDefEqProofs [-loopQ_n, g']) <;> (repeat' (first | ((first | refine condD_dec ?_ ?_ | refine guardD_dec ?_ ?_) <;> (intro hc; (try simp -implicitDefEqProofs [-loopQ_n, hc, g']))))))
        have hall : ∀ y ∈ l.take k ++ [x], domV y = true := fun y hy => by
          rcases List.mem_append.1 hy with hy | hy
          · exact List.all_eq_true.1 hA y hy
          · simp at hy; subst hy; exact e
        refine loop_next (k + 1) ⟨h, by rw [htk]; exact hall, ?_⟩ (by omega) (weak_of 0 0 rfl rfl (by simp [w1]) trivial)
        rw [← List.map_take, htk, List.map_append, List.nodup_append]
        exact ⟨hD, by simp, fun a ha b hb => by simp at hb; subst hb; exact fun q => hm (q ▸ ha)⟩
    · have e : domV x = false := by simpa using e
      rw [e] at hx
      simp only [domC] at hx
      ((try simp -implicitDefEqProofs [-loopQ_n, h, hf, domC, w1]) <;> (repeat' (first | ((first | refine condD_dec ?_ ?_ | refine guardD_dec ?_ ?_) <;> (intro hc; (try simp -implicitDefEqProofs [-loopQ_n, hc, h, hf, domC, w1]))) | (refine callS_mk ?_; (try simp -implicitDefEqProofs [-loopQ_n, h, hf, domC, w1]); (first | refine callS_intro (hx) (.inl rfl) ?_); (try simp -implicitDefEqProofs [-loopQ_n, h, hf, domC, w1])))))
      have : ¬ ∀ y ∈ l, domV y = true := fun q => by have := q x hxm; rw [e] at this; cases this
      simp [domsV, this]
  · rw [List.take_of_length_le (by omega)] at hA hD
    ((try simp -implicitDefEqProofs [-loopQ_n, h]) <;> (repeat' (first | ((first | refine condD_dec ?_ ?_ | refine guardD_dec ?_ ?_) <;> (intro hc; (try simp -implicitDefEqProofs [-loopQ_n, hc, h]))))))
    simp [domsV, hD, h8l]
    simpa using hA
end Go.Proofs.YthemglpccpjokaaGreat
namespace Go.Proofs.YthemglpccpjokaaGreat
open Go.RowKit
variable [Glob]
theorem cloneV_fresh (l : List Val) (h0 : l ≠ []) (hl : l.length ≤ 1073741824) : Fresh Tryz.prog 127 [.rs (rowsOf valC l)] 49 (rowsOf valC l) := by
  refine fresh_of mixed Tryz.func127 rfl (by kernel_rfl) (of_decide_eq_true rfl) (by kernel_rfl) (vc_run ?_)
  have h1 : l.isEmpty = false := by cases l <;> simp at h0 ⊢
  have h2 : allLen 3 (rowsOf valC l) = true := rowsOf_allLen fun x => rfl
  simp -implicitDefEqProofs [h1, hl, h2]
  exact rowsOf_owns' (f := valC) fun x c hc => by simp [valC] at hc; rcases hc with rfl | rfl | rfl <;> rfl
theorem vl_info : ∃ i, Tryz.prog.info? 49 = some i ∧ i.zero = some (.agg #[.int .i64 0, .int .i64 0, .string ByteArray.empty]) ∧ i.size = 3 ∧ i.bytes = 32 := by
  obtain ⟨j, h1, h2⟩ := Option.map_eq_some_iff.1 (show (Tryz.prog.info? 49).map (fun i => (i.zero, i.size, i.bytes)) = some (some (.agg #[.int .i64 0, .int .i64 0, .string ByteArray.empty]), 3, 32) by kernel_rfl)
  simp only [Prod.mk.injEq] at h2
  exact ⟨j, h1, h2.1, h2.2.1, h2.2.2⟩
set_option maxHeartbeats 2000000 in
theorem cloneV_nil (c : Nat) (w : World) : Calls Tryz.prog 127 #[.slice none 0 c] w fun en w' => en = .returned (.slice none 0 0) ∧ w' = w := by
  have q24 : ∀ (w : World) (a : Option Addr) (n c n' c' : Nat), (binOp .eql 27 (.slice a n c) (.slice none n' c')).run Tryz.prog w = .ok (.bool a.isNone) w := fun w a n c n' c' => Lib.run_eql_slice_nil w _ _ a n c n' c' Tryz.underlying27
  go_enter Tryz.func127, Tryz.ntmps127
  go_wp2
  go_ret
  exact ⟨rfl, rfl⟩
set_option maxHeartbeats 2000000 in
theorem cloneV_zero (a : Addr) (c : Nat) (w : World) : Calls Tryz.prog 127 #[.slice (some a) 0 c] w fun en w' => ∃ v', en = .returned v' ∧ w'.ownsRow w.heap.size 49 3 v' 0 [] ∧ Below w.heap.size w w' := by
  obtain ⟨i0, hi, hz0, hz1, hz2⟩ := vl_info
  have q24 : ∀ (w : World) (a : Option Addr) (n c n' c' : Nat), (binOp .eql 27 (.slice a n c) (.slice none n' c')).run Tryz.prog w = .ok (.bool a.isNone) w := fun w a n c n' c' => Lib.run_eql_slice_nil w _ _ a n c n' c' Tryz.underlying27
  go_enter Tryz.func127, Tryz.ntmps127
  go_wp2_with (at_builtin; refine wpList_append_own _ rfl _ _ 27 rfl w.heap.size 49 i0 (.agg #[.int .i64 0, .int .i64 0, .string ByteArray.empty]) 3 32 Tryz.underlying27 hi hz0 hz1 hz2 rfl (by decide) _ _ _ rfl (World.ownsRow_made w #[] 0 (Nat.le_refl _) (Nat.zero_le _) rfl) a 0 c [] rfl rfl (by intro j u hj; simp at hj) (by intro u hu; cases hu) (by unfold maxLen; omega) (by omega) (by simp) ?_)
  intro v' w1 hown hgrow hnil
  go_wp2
  go_ret
  refine ⟨v', rfl, by simpa using hown, ?_⟩
  exact ((Below.refl _ w).alloc (Nat.le_refl _) _).grown hgrow (by simp) (by intro k hk; simp [Value.ownBlock] at hk; omega)
theorem cloneV0_G {H : List Blk} {K : AV → List Blk → Prop} (hK : ∀ nb, K (.os H.length 0) (H ++ [.row 49 nb []])) : CallG Tryz.prog 127 [.rs []] H K :=
  clone0_core (by kernel_rfl) (fun c w => cloneV_nil c w) (fun a c w => (cloneV_zero a c w).mono fun en w' ⟨v', h1, h2, h3⟩ => ⟨v', h1, by rw [show Tryz.prog.cellsOf 49 = 3 by kernel_rfl]; exact h2, h3⟩) hK
theorem cloneV_G (l : List Val) (hl : l.length ≤ 1073741824) {H : List Blk} {K : AV → List Blk → Prop} (hK : ∀ nb, K (.os H.length l.length) (H ++ [.row 49 nb (rowsOf valC l)])) : CallG Tryz.prog 127 [.rs (rowsOf valC l)] H K := by
  by_cases h0 : l = []
  · subst h0; exact cloneV0_G hK
  · have hlf : ((rowsOf valC l).all fun r => r.all flat) = true := rowsOf_flat fun x => by simp [valC, flat]
    have := fresh_callE («as» := [.rs (rowsOf valC l)]) (H := H) (cloneV_fresh l h0 hl) (by simp) (.inl hlf)
    rw [rowsOf_length] at this
    exact callE_G this (hK false)
end Go.Proofs.YthemglpccpjokaaGreat
namespace Go.Proofs.YthemglpccpjokaaGreat
open Go.RowKit
variable [Glob]
theorem dvV_idx {p : Val → Bool} {l : List Val} {g : Nat} {caps : List AV} (hp : ∀ x ∈ l, Pure Tryz.prog g (.agg (valC x) :: caps) (.bool (p x))) (hc : ∀ H k, caps.mapM (reify H (k + 5)) = some caps) (hf : refsL 0 caps = true) (hl : l.length ≤ 9223372036854775807) :
    Pure Tryz.prog 99 [.rs (rowsOf valC l), .fn g caps] (.int .i64 (idxOf p l)) := by
  refine pure_of mixed Tryz.func99 rfl (by kernel_rfl) (of_decide_eq_true rfl) (by kernel_rfl) (vc_run ?_)
  simp -implicitDefEqProofs
  refine loop_intro (σ := Nat) (fun i => ⟨[(0, .rs (rowsOf valC l)), (1, .fn g caps), (7, .int .i64 l.length), (8, .int .i64 i)], []⟩) (fun i => i ≤ l.length ∧ allF p (l.take i)) (fun i => l.length - i) 0 ⟨Nat.zero_le _, allF_nil⟩ ?_ ?_
  · refine weak_of 0 0 rfl rfl ?_ ?_ <;> simp [hf]
  · rintro i ⟨hi, hall⟩
    by_cases h : i < l.length
    · simp -implicitDefEqProofs [h, valC]
      have hc8 : ∀ H, caps.mapM (reify H 8) = some caps := fun H => hc H 3
      refine call_intro (hp l[i] (by simp)) (by simp -implicitDefEqProofs [hc8, valC]) (.inl rfl) ?_
      by_cases hpx : p l[i] = true
      · simp -implicitDefEqProofs [hpx]
        exact (idxOf_some p l i h hall hpx).symm
      · have hpx : p l[i] = false := by simpa using hpx
        simp -implicitDefEqProofs [hpx]
        refine ⟨i + 1, ⟨by omega, allF_succ hall h hpx⟩, by omega, weak_of 0 0 rfl rfl ?_ ?_⟩
        · simp [hf]
          exact (wrap_in (by omega) (by omega)).symm
        · simp
    · simp -implicitDefEqProofs [h]
      rw [idxOf_none p l (allF_all hall h)]
theorem dvV_any {p : Val → Bool} {l : List Val} {g : Nat} {caps : List AV} (hp : ∀ x ∈ l, Pure Tryz.prog g (.agg (valC x) :: caps) (.bool (p x))) (hc : ∀ H k, caps.mapM (reify H (k + 5)) = some caps) (hf : refsL 0 caps = true) (hl : l.length ≤ 9223372036854775807) :
    Pure Tryz.prog 56 [.rs (rowsOf valC l), .fn g caps] (.bool (l.any p)) := by
  refine pure_of mixed Tryz.func56 rfl (by kernel_rfl) (of_decide_eq_true rfl) (by kernel_rfl) (vc_run ?_)
  simp -implicitDefEqProofs
  have hc7 : ∀ H, caps.mapM (reify H 7) = some caps := fun H => hc H 2
  refine call_intro (dvV_idx hp hc hf hl) (by simp -implicitDefEqProofs [hc7]) (.inl rfl) ?_
  simp -implicitDefEqProofs
  rw [← ge_idxOf]
def inD (x : Dom) (v : Val) : AV := if domV x && valueV v then .tup [.bool (decide (0 ≤ placeD x v)), .int .i64 0] else .tup [.bool false, .int .i64 1]
theorem in_pure (x : Dom) (v : Val) : Pure Tryz.prog 115 [.agg (domC x), .agg (valC v)] (inD x v) := by
  have hx := dom_pure x
  have hv := value_pure v
  by_cases e : domV x = true
  · rw [e] at hx
    by_cases f : valueV v = true
    · rw [f] at hv
      have hp := place_pure x v e
      simp only [domC, valC] at hx hv hp
      refine pure_of mixed Tryz.func115 rfl (by kernel_rfl) (of_decide_eq_true rfl) (by kernel_rfl) (vc_run ?_)
      ((try simp -implicitDefEqProofs [-loopQ_n, domC, valC]) <;> (repeat' (first | ((first | refine condD_dec ?_ ?_ | refine guardD_dec ?_ ?_) <;> (intro hc; (try simp -implicitDefEqProofs [-loopQ_n, hc, domC, valC]))) | (refine callS_mk ?_; (try simp -implicitDefEqProofs [-loopQ_n, domC, valC]); (first | refine callS_intro (hx) (.inl rfl) ?_ | refine callS_intro (hv) (.inl rfl) ?_ | refine callS_intro (hp) (.inl rfl) ?_); (try simp -implicitDefEqProofs [-loopQ_n, domC, valC])))))
      simp [inD, e, f]
    · have f : valueV v = false := by simpa using f
      rw [f] at hv
      simp only [domC, valC] at hx hv
      refine pure_of mixed Tryz.func115 rfl (by kernel_rfl) (of_decide_eq_true rfl) (by kernel_rfl) (vc_run ?_)
      ((try simp -implicitDefEqProofs [-loopQ_n, domC, valC]) <;> (repeat' (first | ((first | refine condD_dec ?_ ?_ | refine guardD_dec ?_ ?_) <;> (intro hc; (try simp -implicitDefEqProofs [-loopQ_n, hc, domC, valC]))) | (refine callS_mk ?_; (try simp -implicitDefEqProofs [-loopQ_n, domC, valC]); (first | refine callS_intro (hx) (.inl rfl) ?_ | refine callS_intro (hv) (.inl rfl) ?_); (try simp -implicitDefEqProofs [-loopQ_n, domC, valC])))))
      simp [inD, e, f]
  · have e : domV x = false := by simpa using e
    rw [e] at hx
    simp only [domC, valC] at hx
    refine pure_of mixed Tryz.func115 rfl (by kernel_rfl) (of_decide_eq_true rfl) (by kernel_rfl) (vc_run ?_)
    ((try simp -implicitDefEqProofs [-loopQ_n, domC, valC]) <;> (repeat' (first | ((first | refine condD_dec ?_ ?_ | refine guardD_dec ?_ ?_) <;> (intro hc; (try simp -implicitDefEqProofs [-loopQ_n, hc, domC, valC]))) | (refine callS_mk ?_; (try simp -implicitDefEqProofs [-loopQ_n, domC, valC]); (first | refine callS_intro (hx) (.inl rfl) ?_); (try simp -implicitDefEqProofs [-loopQ_n, domC, valC])))))
    simp [inD, e]
theorem sizeV_pure (x : Dom) : Pure Tryz.prog 95 [.agg (domC x)] (if domV x = true then .tup [.int .i64 (sizeD x), .int .i64 0] else .tup [.int .i64 0, .int .i64 1]) := by
  have hx := dom_pure x
  by_cases e : domV x = true
  · rw [e] at hx
    have hp := size_pure x e
    simp only [domC] at hx hp
    rw [if_pos e]
    refine pure_of mixed Tryz.func95 rfl (by kernel_rfl) (of_decide_eq_true rfl) (by kernel_rfl) (vc_run ?_)
    ((try simp -implicitDefEqProofs [-loopQ_n, domC]) <;> (repeat' (first | ((first | refine condD_dec ?_ ?_ | refine guardD_dec ?_ ?_) <;> (intro hc; (try simp -implicitDefEqProofs [-loopQ_n, hc, domC]))) | (refine callS_mk ?_; (try simp -implicitDefEqProofs [-loopQ_n, domC]); (first | refine callS_intro (hx) (.inl rfl) ?_ | refine callS_intro (hp) (.inl rfl) ?_); (try simp -implicitDefEqProofs [-loopQ_n, domC])))))
  · have e' : domV x = false := by simpa using e
    rw [e'] at hx
    simp only [domC] at hx
    rw [if_neg e]
    refine pure_of mixed Tryz.func95 rfl (by kernel_rfl) (of_decide_eq_true rfl) (by kernel_rfl) (vc_run ?_)
    ((try simp -implicitDefEqProofs [-loopQ_n, domC]) <;> (repeat' (first | ((first | refine condD_dec ?_ ?_ | refine guardD_dec ?_ ?_) <;> (intro hc; (try simp -implicitDefEqProofs [-loopQ_n, hc, domC]))) | (refine callS_mk ?_; (try simp -implicitDefEqProofs [-loopQ_n, domC]); (first | refine callS_intro (hx) (.inl rfl) ?_); (try simp -implicitDefEqProofs [-loopQ_n, domC])))))
theorem valid1_pure (v : Val) : Pure Tryz.prog 139 [.agg (valC v)] (.bool (!valueV v)) := by
  have hv := value_pure v
  simp only [valC] at hv
  refine pure_of mixed Tryz.func139 rfl (by kernel_rfl) (of_decide_eq_true rfl) (by kernel_rfl) (vc_run ?_)
  ((try simp -implicitDefEqProofs [-loopQ_n, valC]) <;> (repeat' (first | ((first | refine condD_dec ?_ ?_ | refine guardD_dec ?_ ?_) <;> (intro hc; (try simp -implicitDefEqProofs [-loopQ_n, hc, valC]))) | (refine callS_mk ?_; (try simp -implicitDefEqProofs [-loopQ_n, valC]); (first | refine callS_intro (hv) (.inl rfl) ?_); (try simp -implicitDefEqProofs [-loopQ_n, valC])))))
def valsV (v : List Val) : Bool := v.all valueV
theorem valid_pure (l : List Dom) (v : List Val) (hl : l.length ≤ 1000000) (hv : v.length ≤ 1000000) : Pure Tryz.prog 125 [.rs (rowsOf domC l), .rs (rowsOf valC v)] (.bool (domsV l && valsV v)) := by
  have hd := doms_pure l hl
  have hA := dvV_any (p := fun x => !valueV x) (l := v) (g := 139) (caps := []) (fun x _ => valid1_pure x) (fun H k => rfl) rfl (by omega)
  rw [show (v.any fun x => !valueV x) = !valsV v by simp [valsV, List.any_eq_not_all_not]] at hA
  by_cases e : domsV l = true
  · rw [e] at hd
    refine pure_of mixed Tryz.func125 rfl (by kernel_rfl) (of_decide_eq_true rfl) (by kernel_rfl) (vc_run ?_)
    ((try simp -implicitDefEqProofs [-loopQ_n]) <;> (repeat' (first | ((first | refine condD_dec ?_ ?_ | refine guardD_dec ?_ ?_) <;> (intro hc; (try simp -implicitDefEqProofs [-loopQ_n, hc]))) | (refine callS_mk ?_; (try simp -implicitDefEqProofs [-loopQ_n]); (first | refine callS_intro (hd) (.inl rfl) ?_ | refine callS_intro (hA) (.inl rfl) ?_); (try simp -implicitDefEqProofs [-loopQ_n])))))
    simp [e]
  · have e : domsV l = false := by simpa using e
    rw [e] at hd
    refine pure_of mixed Tryz.func125 rfl (by kernel_rfl) (of_decide_eq_true rfl) (by kernel_rfl) (vc_run ?_)
    ((try simp -implicitDefEqProofs [-loopQ_n]) <;> (repeat' (first | ((first | refine condD_dec ?_ ?_ | refine guardD_dec ?_ ?_) <;> (intro hc; (try simp -implicitDefEqProofs [-loopQ_n, hc]))) | (refine callS_mk ?_; (try simp -implicitDefEqProofs [-loopQ_n]); (first | refine callS_intro (hd) (.inl rfl) ?_); (try simp -implicitDefEqProofs [-loopQ_n])))))
    simp [e]
end Go.Proofs.YthemglpccpjokaaGreat
namespace Go.Proofs.YthemglpccpjokaaGreat
open Go.RowKit
variable [Glob]
def assV (l : List Dom) (v : List Val) : Bool := decide (v.length = l.length) && (l.zip v).all fun p => decide (0 ≤ placeD p.1 p.2)
def firstA (l : List Dom) : List Val := l.map fun x => nthD x 0
def nextL : List Dom → List Val → Option (List Val)
  | x :: r, a :: s => match nextL r s with
    | some t => some (a :: t)
    | none => if placeD x a + 1 < sizeD x then some (nthD x (placeD x a + 1) :: firstA r) else none
  | _, _ => none
theorem next_split : ∀ (l : List Dom) (v : List Val) (i : Nat), v.length = l.length → i ≤ l.length →
    nextL l v = match nextL (l.drop i) (v.drop i) with | some t => some (v.take i ++ t) | none => (nextL (l.take i) (v.take i)).map (· ++ firstA (l.drop i)) := by
  intro l
  induction l with
  | nil => intro v i hv hi; have : v = [] := List.eq_nil_of_length_eq_zero (by simpa using hv); subst this; simp [nextL]
  | cons x r ih =>
    intro v i hv hi
    cases v with
    | nil => simp at hv
    | cons a s =>
      cases i with
      | zero =>
        simp only [List.drop_zero, List.take_zero, List.nil_append, nextL]
        cases (nextL r s) <;> simp
        · split <;> simp
      | succ i =>
        simp only [List.length_cons, Nat.add_right_cancel_iff] at hv
        simp only [List.length_cons, Nat.add_le_add_iff_right] at hi
        have := ih s i hv hi
        simp only [List.drop_succ_cons, List.take_succ_cons, nextL, this]
        cases nextL (r.drop i) (s.drop i) with
        | some t => simp
        | none =>
          cases nextL (r.take i) (s.take i) with
          | some t => simp
          | none =>
            simp only [Option.map_none]
            split
            · simp only [Option.map_some, List.cons_append, firstA, ← List.map_append, List.take_append_drop]
            · rfl
theorem idxA_lt (l : List ByteArray) (x : ByteArray) : ∀ i : Int, -1 ≤ idxA l x i ∨ 0 ≤ i → idxA l x i < i + l.length ∨ idxA l x i = -1 := by
  induction l with
  | nil => intro i _; exact .inr rfl
  | cons y r ih =>
    intro i hi
    by_cases e : y = x
    · simp only [idxA, if_pos e]; left; simp; omega
    · simp only [idxA, if_neg e] at hi ⊢
      rcases ih (i + 1) (hi.imp (fun h => h) (fun h => by omega)) with h | h
      · left; simp; omega
      · exact .inr h
theorem idxS_bound (l : List ByteArray) (x : ByteArray) : -1 ≤ idxS l x ∧ (idxS l x < l.length ∨ idxS l x = -1) := by
  refine ⟨?_, by simpa [idxS] using idxA_lt l x 0 (.inr (by omega))⟩
  have : ∀ (l : List ByteArray) (i : Int), 0 ≤ i → -1 ≤ idxA l x i := by
    intro l
    induction l with
    | nil => intro i _; simp [idxA]
    | cons y r ih => intro i hi; simp only [idxA]; split; omega; exact ih (i + 1) (by omega)
  exact this l 0 (by omega)
theorem place_lt {x : Dom} {v : Val} (hx : domV x = true) (hv : valueV v = true) : -1 ≤ placeD x v ∧ placeD x v < sizeD x ∧ sizeD x ≤ 1000 ∧ 1 ≤ sizeD x := by
  rcases dom_kind hx with ⟨k, q1, q2, q3⟩ | k | ⟨k, q1, q2, q3, q4⟩
  · by_cases e : v.kind = 1
    · simp [valueV, e] at hv
      simp only [placeD, sizeD, e, k]
      simp
      omega
    · simp [placeD, sizeD, e, k]
  · obtain ⟨h1, h2, h3, h4, h5⟩ := dom_num hx k
    by_cases e : v.kind = 2
    · simp only [placeD, sizeD, e, k]
      simp
      split <;> omega
    · simp only [placeD, sizeD, e, k]
      simp
      omega
  · by_cases e : v.kind = 3
    · simp only [placeD, sizeD, e, k]
      simp
      have := idxS_bound x.items v.s
      omega
    · simp only [placeD, sizeD, e, k]
      simp
      omega
set_option maxHeartbeats 4000000 in
theorem assigned_pure (l : List Dom) (v : List Val) (hl : l.length ≤ 1000000) (hvl : v.length ≤ 1000000) (hd : domsV l = true) : Pure Tryz.prog 126 [.rs (rowsOf domC l), .rs (rowsOf valC v)] (.bool (assV l v)) := by
  have hdv : ∀ x ∈ l, domV x = true := by simp [domsV] at hd; exact hd.1.1
  refine pure_of mixed Tryz.func126 rfl (by kernel_rfl) (of_decide_eq_true rfl) (by kernel_rfl) (vc_run ?_)
  by_cases e : v.length = l.length
  rotate_left
  · have e' : ¬ (v.length : Int) = l.length := by omega
    ((try simp -implicitDefEqProofs [-loopQ_n, e']) <;> (repeat' (first | ((first | refine condD_dec ?_ ?_ | refine guardD_dec ?_ ?_) <;> (intro hc; (try simp -implicitDefEqProofs [-loopQ_n, hc, e']))))))
    simp [assV, e]
  have e' : (v.length : Int) = l.length := by omega
  ((try simp -implicitDefEqProofs [-loopQ_n, e']) <;> (repeat' (first | ((first | refine condD_dec ?_ ?_ | refine guardD_dec ?_ ?_) <;> (intro hc; (try simp -implicitDefEqProofs [-loopQ_n, hc, e']))))))
  refine loop_intro (σ := Nat) (fun i => ⟨[(1, .rs (rowsOf valC v)), (12, .rs (rowsOf domC l)), (13, .int .i64 l.length), (14, .int .i64 i)], []⟩)
    (fun i => i ≤ l.length ∧ assV (l.drop i) (v.drop i) = assV l v) (fun i => l.length - i) 0 ⟨by simp, by simp⟩ ?_ ?_
  · refine weak_of 0 0 rfl rfl ?_ ?_ <;> simp [e]
  rintro i ⟨hi, hR⟩
  by_cases h : i < l.length
  · have w1 := w_succB h (by omega)
    have hv2 : i < v.length := by omega
    have hp := place_pure l[i] v[i] (hdv _ (List.getElem_mem h))
    obtain ⟨x, hf⟩ : ∃ e, l[i] = e := ⟨_, rfl⟩
    obtain ⟨a, ha⟩ : ∃ e, v[i] = e := ⟨_, rfl⟩
    rw [List.drop_eq_getElem_cons h, List.drop_eq_getElem_cons hv2, hf, ha] at hR
    rw [hf, ha] at hp
    simp only [domC, valC] at hp
    by_cases g : placeD x a < 0
    · ((try simp -implicitDefEqProofs [-loopQ_n, h, hv2, hf, ha, domC, valC, w1, g]) <;> (repeat' (first | ((first | refine condD_dec ?_ ?_ | refine guardD_dec ?_ ?_) <;> (intro hc; (try simp -implicitDefEqProofs [-loopQ_n, hc, h, hv2, hf, ha, domC, valC, w1, g]))) | (refine callS_mk ?_; (try simp -implicitDefEqProofs [-loopQ_n, h, hv2, hf, ha, domC, valC, w1, g]); (first | refine callS_intro (hp) (.inl rfl) ?_); (try simp -implicitDefEqProofs [-loopQ_n, h, hv2, hf, ha, domC, valC, w1, g])))))
      rw [← hR]
      have : ¬ 0 ≤ placeD x a := by omega
      simp [assV, this]
    · ((try simp -implicitDefEqProofs [-loopQ_n, h, hv2, hf, ha, domC, valC, w1, g]) <;> (repeat' (first | ((first | refine condD_dec ?_ ?_ | refine guardD_dec ?_ ?_) <;> (intro hc; (try simp -implicitDefEqProofs [-loopQ_n, hc, h, hv2, hf, ha, domC, valC, w1, g]))) | (refine callS_mk ?_; (try simp -implicitDefEqProofs [-loopQ_n, h, hv2, hf, ha, domC, valC, w1, g]); (first | refine callS_intro (hp) (.inl rfl) ?_); (try simp -implicitDefEqProofs [-loopQ_n, h, hv2, hf, ha, domC, valC, w1, g])))))
      have : 0 ≤ placeD x a := by omega
      refine loop_next (i + 1) ⟨h, by rw [← hR]; simp [assV, this]⟩ (by omega) (weak_of 0 0 rfl rfl ?_ ?_) <;> simp [w1]
  · have : i = l.length := by omega
    subst this
    rw [← hR, List.drop_eq_nil_of_le (Nat.le_refl _), List.drop_eq_nil_of_le (by omega)]
    ((try simp -implicitDefEqProofs [-loopQ_n, h]) <;> (repeat' (first | ((first | refine condD_dec ?_ ?_ | refine guardD_dec ?_ ?_) <;> (intro hc; (try simp -implicitDefEqProofs [-loopQ_n, hc, h]))))))
    rfl
def inAllA (l : List Dom) (v : List Val) : AV := if domsV l && valsV v then .tup [.bool (assV l v), .int .i64 0] else .tup [.bool false, .int .i64 1]
theorem inAll_pure (l : List Dom) (v : List Val) (hl : l.length ≤ 1000000) (hvl : v.length ≤ 1000000) : Pure Tryz.prog 101 [.rs (rowsOf domC l), .rs (rowsOf valC v)] (inAllA l v) := by
  have hv := valid_pure l v hl hvl
  by_cases e : (domsV l && valsV v) = true
  · rw [e] at hv
    have ha := assigned_pure l v hl hvl (by simp at e; exact e.1)
    refine pure_of mixed Tryz.func101 rfl (by kernel_rfl) (of_decide_eq_true rfl) (by kernel_rfl) (vc_run ?_)
    ((try simp -implicitDefEqProofs [-loopQ_n]) <;> (repeat' (first | ((first | refine condD_dec ?_ ?_ | refine guardD_dec ?_ ?_) <;> (intro hc; (try simp -implicitDefEqProofs [-loopQ_n, hc]))) | (refine callS_mk ?_; (try simp -implicitDefEqProofs [-loopQ_n]); (first | refine callS_intro (hv) (.inl rfl) ?_ | refine callS_intro (ha) (.inl rfl) ?_); (try simp -implicitDefEqProofs [-loopQ_n])))))
    rw [inAllA, if_pos e]
  · rw [inAllA, if_neg e]
    have e : (domsV l && valsV v) = false := by simpa using e
    rw [e] at hv
    refine pure_of mixed Tryz.func101 rfl (by kernel_rfl) (of_decide_eq_true rfl) (by kernel_rfl) (vc_run ?_)
    ((try simp -implicitDefEqProofs [-loopQ_n]) <;> (repeat' (first | ((first | refine condD_dec ?_ ?_ | refine guardD_dec ?_ ?_) <;> (intro hc; (try simp -implicitDefEqProofs [-loopQ_n, hc]))) | (refine callS_mk ?_; (try simp -implicitDefEqProofs [-loopQ_n]); (first | refine callS_intro (hv) (.inl rfl) ?_); (try simp -implicitDefEqProofs [-loopQ_n])))))
end Go.Proofs.YthemglpccpjokaaGreat
namespace Go.Proofs.YthemglpccpjokaaGreat
open Go.RowKit
variable [Glob]
theorem vals_refs {m : Nat} {l : List Val} : refsR m (rowsOf valC l) = true := rowsOf_refs fun x => by simp [valC, refs]
theorem vals_reify {H : List Blk} {n : Nat} {l : List Val} : (rowsOf valC l).mapM (fun row => row.mapM (reify H (n + 1))) = some (rowsOf valC l) := rowsOf_reify fun x => by simp [valC, reify]
theorem vals_snoc3 {l : List Val} {v : Val} : rowsOf valC l ++ [[.int .i64 v.kind, .int .i64 v.n, .str v.s]] = rowsOf valC (l ++ [v]) := by simp [rowsOf, valC]
theorem vals_snoc {l : List Val} {v : Val} : rowsOf valC l ++ [valC v] = rowsOf valC (l ++ [v]) := by simp [rowsOf]
def firstO (l : List Dom) : AV := if domsV l = true then .tup [.rs (rowsOf valC (firstA l)), .int .i64 0] else .tup [.rs [], .int .i64 1]
set_option maxHeartbeats 4000000 in
theorem first_pure (l : List Dom) (hl : l.length ≤ 1000000) : Pure Tryz.prog 97 [.rs (rowsOf domC l)] (firstO l) := by
  have hd := doms_pure l hl
  by_cases e : domsV l = true
  rotate_left
  · rw [firstO, if_neg e]
    have e : domsV l = false := by simpa using e
    rw [e] at hd
    refine pure_of mixed Tryz.func97 rfl (by kernel_rfl) (of_decide_eq_true rfl) (by kernel_rfl) (vc_run ?_)
    ((try simp -implicitDefEqProofs [-loopQ_n, rowsOf_nil]) <;> (repeat' (first | ((first | refine condD_dec ?_ ?_ | refine guardD_dec ?_ ?_) <;> (intro hc; (try simp -implicitDefEqProofs [-loopQ_n, hc, rowsOf_nil]))) | (refine callS_mk ?_; (try simp -implicitDefEqProofs [-loopQ_n, rowsOf_nil]); (first | refine callS_intro (hd) (.inl rfl) ?_); (try simp -implicitDefEqProofs [-loopQ_n, rowsOf_nil])))))
  rw [firstO, if_pos e]
  rw [e] at hd
  have hdv : ∀ x ∈ l, domV x = true := by simp [domsV] at e; exact e.1.1
  refine pure_of mixed Tryz.func97 rfl (by kernel_rfl) (of_decide_eq_true rfl) (by kernel_rfl) (vc_run ?_)
  ((try simp -implicitDefEqProofs [-loopQ_n]) <;> (repeat' (first | ((first | refine condD_dec ?_ ?_ | refine guardD_dec ?_ ?_) <;> (intro hc; (try simp -implicitDefEqProofs [-loopQ_n, hc]))) | (refine callS_mk ?_; (try simp -implicitDefEqProofs [-loopQ_n]); (first | refine callS_intro (hd) (.inl rfl) ?_); (try simp -implicitDefEqProofs [-loopQ_n])))))
  refine loop_intro (σ := Nat × List Val) (fun x => ⟨[(4, .os 0 x.2.length), (10, .rs (rowsOf domC l)), (11, .int .i64 l.length), (12, .int .i64 x.1)], [.row 49 true (rowsOf valC x.2)]⟩)
    (fun x => x.1 ≤ l.length ∧ x.2.length = x.1 ∧ x.2 ++ firstA (l.drop x.1) = firstA l) (fun x => l.length - x.1) (0, []) ⟨by simp, by simp, by simp⟩ ?_ ?_
  · refine weak_of 0 1 rfl rfl ?_ ?_ <;> simp
  rintro ⟨i, acc⟩ ⟨hi, hlen, hR⟩
  simp only at hi hlen hR
  by_cases h : i < l.length
  · have w1 := w_succB h (by omega)
    have hxm := hdv _ (List.getElem_mem h)
    obtain ⟨x, hf⟩ : ∃ e, l[i] = e := ⟨_, rfl⟩
    rw [hf] at hxm
    have hb := place_lt (v := ⟨1, 0, ByteArray.empty⟩) hxm (by simp [valueV, emptyS])
    have hn := nth_pure x 0 hxm (by omega) (by omega)
    simp only [domC, valC] at hn
    rw [List.drop_eq_getElem_cons h, hf] at hR
    have hla : acc.length + 1 ≤ 1073741824 := by omega
    ((try simp -implicitDefEqProofs [-loopQ_n, h, hf, domC, w1, hla]) <;> (repeat' (first | ((first | refine condD_dec ?_ ?_ | refine guardD_dec ?_ ?_) <;> (intro hc; (try simp -implicitDefEqProofs [-loopQ_n, hc, h, hf, domC, w1, hla]))) | (refine callS_mk ?_; (try simp -implicitDefEqProofs [-loopQ_n, h, hf, domC, w1, hla]); (first | refine callS_intro (hn) (.inl rfl) ?_); (try simp -implicitDefEqProofs [-loopQ_n, h, hf, domC, w1, hla])))))
    refine loop_next (i + 1, acc ++ [nthD x 0]) ⟨by simp only; omega, by simp [hlen], by rw [← hR]; simp [firstA]⟩ (by simp only; omega) (weak_of 1 0 rfl rfl ?_ ?_) <;> simp [w1, vals_snoc3, vals_refs]
  · rw [List.drop_eq_nil_of_le (by omega)] at hR
    simp only [firstA, List.map_nil, List.append_nil] at hR
    subst hR
    ((try simp -implicitDefEqProofs [-loopQ_n, h, vals_reify]) <;> (repeat' (first | ((first | refine condD_dec ?_ ?_ | refine guardD_dec ?_ ?_) <;> (intro hc; (try simp -implicitDefEqProofs [-loopQ_n, hc, h, vals_reify]))))))
    rfl
theorem vals_set {l : List Val} {i : Nat} {v : Val} : (rowsOf valC l).set i [.int .i64 v.kind, .int .i64 v.n, .str v.s] = rowsOf valC (l.set i v) := by simp [rowsOf, valC, List.map_set]
def nextO (l : List Dom) (v : List Val) : AV := match nextL l v with | some t => .tup [.rs (rowsOf valC t), .bool true, .int .i64 0] | none => .tup [.rs [], .bool false, .int .i64 0]
theorem next_at {l : List Dom} {v : List Val} {i : Nat} (hv : v.length = l.length) (hi : i < l.length) (h0 : nextL (l.drop (i + 1)) (v.drop (i + 1)) = none) :
    (placeD l[i] v[i] + 1 < sizeD l[i] → nextL l v = some (v.take i ++ nthD l[i] (placeD l[i] v[i] + 1) :: firstA (l.drop (i + 1)))) ∧
    (¬ placeD l[i] v[i] + 1 < sizeD l[i] → nextL (l.drop i) (v.drop i) = none) := by
  have hv2 : i < v.length := by omega
  have hd : nextL (l.drop i) (v.drop i) = if placeD l[i] v[i] + 1 < sizeD l[i] then some (nthD l[i] (placeD l[i] v[i] + 1) :: firstA (l.drop (i + 1))) else none := by
    rw [List.drop_eq_getElem_cons hi, List.drop_eq_getElem_cons hv2, nextL, h0]
  refine ⟨fun h => ?_, fun h => by rw [hd, if_neg h]⟩
  rw [next_split l v i hv (by omega), hd, if_pos h]
set_option maxHeartbeats 8000000 in
theorem next_pure (l : List Dom) (v : List Val) (hd : domsV l = true) (hvs : valsV v = true) (ha : assV l v = true) : Pure Tryz.prog 98 [.rs (rowsOf domC l), .rs (rowsOf valC v)] (nextO l v) := by
  have hlen : v.length = l.length := by simp [assV] at ha; exact ha.1
  have hl8 : l.length ≤ 8 := by simp [domsV] at hd; exact hd.2
  have hdv : ∀ x ∈ l, domV x = true := by simp [domsV] at hd; exact hd.1.1
  have hvv : ∀ x ∈ v, valueV x = true := by simpa [valsV] using hvs
  have h1 := valid_pure l v (by omega) (by omega)
  rw [hd, hvs] at h1
  have h2 := assigned_pure l v (by omega) (by omega) hd
  rw [ha] at h2
  have e' : (v.length : Int) = l.length := by omega
  have w0 : wrapI .i64 ((l.length : Int) - 1) = (l.length : Int) - 1 := wrap_in (by omega) (by omega)
  refine pure_of mixed Tryz.func98 rfl (by kernel_rfl) (of_decide_eq_true rfl) (by kernel_rfl) (vc_run ?_)
  ((try simp -implicitDefEqProofs [-loopQ_n, e']) <;> (repeat' (first | ((first | refine condD_dec ?_ ?_ | refine guardD_dec ?_ ?_) <;> (intro hc; (try simp -implicitDefEqProofs [-loopQ_n, hc, e']))) | (refine callS_mk ?_; (try simp -implicitDefEqProofs [-loopQ_n, e']); (first | refine callS_intro (h1) (.inl rfl) ?_ | refine callS_intro (h2) (.inl rfl) ?_); (try simp -implicitDefEqProofs [-loopQ_n, e'])))))
  refine callG_intro (cloneV_G v (by omega) fun nb => ?_)
  ((try simp -implicitDefEqProofs [-loopQ_n, e', w0]) <;> (repeat' (first | ((first | refine condD_dec ?_ ?_ | refine guardD_dec ?_ ?_) <;> (intro hc; (try simp -implicitDefEqProofs [-loopQ_n, hc, e', w0]))))))
  refine loop_intro (σ := Nat) (fun k => ⟨[(0, .rs (rowsOf domC l)), (1, .rs (rowsOf valC v)), (7, .os 0 l.length), (8, .int .i64 ((k : Int) - 1))], [.row 49 nb (rowsOf valC (v.take k ++ firstA (l.drop k)))]⟩)
    (fun k => k ≤ l.length ∧ nextL (l.drop k) (v.drop k) = none) (fun k => k) l.length ⟨Nat.le_refl _, by rw [List.drop_eq_nil_of_le (Nat.le_refl _), List.drop_eq_nil_of_le (by omega)]; rfl⟩ ?_ ?_
  · have ht : v.take l.length = v := List.take_of_length_le (by omega)
    refine weak_of 1 0 rfl rfl ?_ ?_ <;> simp [hlen, firstA, vals_refs, ht]
  rintro k ⟨hk, h0⟩
  by_cases h : 0 < k
  · obtain ⟨i, rfl⟩ : ∃ i, k = i + 1 := ⟨k - 1, by omega⟩
    have hil : i < l.length := by omega
    have hiv : i < v.length := by omega
    obtain ⟨n1, n2⟩ := next_at hlen hil h0
    have hxm := hdv _ (List.getElem_mem hil)
    have ham := hvv _ (List.getElem_mem hiv)
    have hp := place_pure l[i] v[i] hxm
    have hs := size_pure l[i] hxm
    have hn0 := fun (hi : 0 < sizeD l[i]) => nth_pure l[i] 0 hxm (by omega) hi
    have hn1 := fun (hq : 0 ≤ placeD l[i] v[i] + 1) (hi : placeD l[i] v[i] + 1 < sizeD l[i]) => nth_pure l[i] (placeD l[i] v[i] + 1) hxm hq hi
    have hpl : 0 ≤ placeD l[i] v[i] := by
      simp only [assV, Bool.and_eq_true, List.all_eq_true, decide_eq_true_eq] at ha
      refine ha.2 (l[i], v[i]) ?_
      exact List.mem_iff_getElem.2 ⟨i, by simp; omega, by simp⟩
    obtain ⟨b1, b2, b3, b4⟩ := place_lt hxm ham
    have hT : (v.take (i + 1)) = v.take i ++ [v[i]] := by rw [List.take_append_getElem hiv]
    have hset : ∀ z : Val, (v.take (i + 1) ++ firstA (l.drop (i + 1))).set i z = v.take i ++ z :: firstA (l.drop (i + 1)) := fun z => by
      rw [hT, List.append_assoc, List.set_append_right _ _ (by simp; omega)]
      simp [show min i v.length = i by omega]
    have hfd : firstA (l.drop i) = nthD l[i] 0 :: firstA (l.drop (i + 1)) := by rw [List.drop_eq_getElem_cons hil]; rfl
    obtain ⟨x, hf⟩ : ∃ e, l[i] = e := ⟨_, rfl⟩
    obtain ⟨a, hv'⟩ : ∃ e, v[i] = e := ⟨_, rfl⟩
    rw [hf, hv'] at n1 n2 hp b2 hpl b1 hn1
    rw [hf] at hs hn0 b3 b4 hfd
    have w1 : wrapI .i64 (placeD x a + 1) = placeD x a + 1 := wrap_in (by omega) (by omega)
    have w2 : wrapI .i64 ((i : Int) - 1) = (i : Int) - 1 := wrap_in (by omega) (by omega)
    have hof : (v.take (i + 1) ++ firstA (l.drop (i + 1))).length = l.length := by simp [firstA]; omega
    simp only [domC, valC] at hp hs hn0 hn1
    generalize hout : v.take (i + 1) ++ firstA (l.drop (i + 1)) = out at hset hof ⊢
    by_cases g : placeD x a + 1 < sizeD x
    · have hn := hn1 (by omega) g
      have n1 := n1 g
      ((try simp -implicitDefEqProofs [-loopQ_n, hil, hiv, hf, hv', domC, valC, w1, g, hof, vals_set, vals_reify]) <;> (repeat' (first | ((first | refine condD_dec ?_ ?_ | refine guardD_dec ?_ ?_) <;> (intro hc; (try simp -implicitDefEqProofs [-loopQ_n, hc, hil, hiv, hf, hv', domC, valC, w1, g, hof, vals_set, vals_reify]))) | (refine callS_mk ?_; (try simp -implicitDefEqProofs [-loopQ_n, hil, hiv, hf, hv', domC, valC, w1, g, hof, vals_set, vals_reify]); (first | refine callS_intro (hp) (.inl rfl) ?_ | refine callS_intro (hs) (.inl rfl) ?_ | refine callS_intro (hn) (.inl rfl) ?_); (try simp -implicitDefEqProofs [-loopQ_n, hil, hiv, hf, hv', domC, valC, w1, g, hof, vals_set, vals_reify])))))
      rw [hset]; simp [nextO, n1]
    · have hn := hn0 (by omega)
      ((try simp -implicitDefEqProofs [-loopQ_n, hil, hiv, hf, hv', domC, valC, w1, w2, g, hof, vals_set]) <;> (repeat' (first | ((first | refine condD_dec ?_ ?_ | refine guardD_dec ?_ ?_) <;> (intro hc; (try simp -implicitDefEqProofs [-loopQ_n, hc, hil, hiv, hf, hv', domC, valC, w1, w2, g, hof, vals_set]))) | (refine callS_mk ?_; (try simp -implicitDefEqProofs [-loopQ_n, hil, hiv, hf, hv', domC, valC, w1, w2, g, hof, vals_set]); (first | refine callS_intro (hp) (.inl rfl) ?_ | refine callS_intro (hs) (.inl rfl) ?_ | refine callS_intro (hn) (.inl rfl) ?_); (try simp -implicitDefEqProofs [-loopQ_n, hil, hiv, hf, hv', domC, valC, w1, w2, g, hof, vals_set])))))
      have n2 := n2 g
      refine loop_next i ⟨by omega, n2⟩ (by omega) (weak_of 1 0 rfl rfl ?_ ?_)
      · simp [w2]
      · simp [hset, hfd, vals_refs]
  · have : k = 0 := by omega
    subst this
    ((try simp -implicitDefEqProofs [-loopQ_n]) <;> (repeat' (first | ((first | refine condD_dec ?_ ?_ | refine guardD_dec ?_ ?_) <;> (intro hc; (try simp -implicitDefEqProofs [-loopQ_n, hc]))))))
    simp only [List.drop_zero] at h0
    simp [nextO, h0]
end Go.Proofs.YthemglpccpjokaaGreat
namespace Go.Proofs.YthemglpccpjokaaGreat
open Go.RowKit
variable [Glob]
theorem rvalAll_pure (v : List Val) (hl : v.length ≤ 1000000) : Pure Tryz.prog 85 [.rs (rowsOf valC v)] (.bool (valsV v)) := by
  refine pure_of mixed Tryz.func85 rfl (by kernel_rfl) (of_decide_eq_true rfl) (by kernel_rfl) (vc_run ?_)
  ((try simp -implicitDefEqProofs [-loopQ_n]) <;> (repeat' (first | ((first | refine condD_dec ?_ ?_ | refine guardD_dec ?_ ?_) <;> (intro hc; (try simp -implicitDefEqProofs [-loopQ_n, hc]))))))
  refine loop_intro (σ := Nat) (fun i => ⟨[(0, .rs (rowsOf valC v)), (3, .int .i64 i)], []⟩) (fun i => i ≤ v.length ∧ valsV (v.drop i) = valsV v) (fun i => v.length - i) 0 ⟨by simp, by simp⟩ ?_ ?_
  · refine weak_of 0 0 rfl rfl ?_ ?_ <;> simp
  rintro i ⟨hi, hR⟩
  by_cases h : i < v.length
  · have w1 := w_succB h (by omega)
    have hp := rvalue_pure v[i]
    obtain ⟨x, hf⟩ : ∃ e, v[i] = e := ⟨_, rfl⟩
    rw [List.drop_eq_getElem_cons h, hf] at hR
    rw [hf] at hp
    by_cases g : valueV x = true
    · rw [g] at hp
      simp only [valC] at hp
      ((try simp -implicitDefEqProofs [-loopQ_n, h, hf, valC, w1]) <;> (repeat' (first | ((first | refine condD_dec ?_ ?_ | refine guardD_dec ?_ ?_) <;> (intro hc; (try simp -implicitDefEqProofs [-loopQ_n, hc, h, hf, valC, w1]))) | (refine callS_mk ?_; (try simp -implicitDefEqProofs [-loopQ_n, h, hf, valC, w1]); (first | refine callS_intro (hp) (.inl rfl) ?_); (try simp -implicitDefEqProofs [-loopQ_n, h, hf, valC, w1])))))
      refine loop_next (i + 1) ⟨h, by rw [← hR]; simp [valsV, g]⟩ (by omega) (weak_of 0 0 rfl rfl ?_ ?_) <;> simp
    · have g : valueV x = false := by simpa using g
      rw [g] at hp
      simp only [valC] at hp
      ((try simp -implicitDefEqProofs [-loopQ_n, h, hf, valC, w1]) <;> (repeat' (first | ((first | refine condD_dec ?_ ?_ | refine guardD_dec ?_ ?_) <;> (intro hc; (try simp -implicitDefEqProofs [-loopQ_n, hc, h, hf, valC, w1]))) | (refine callS_mk ?_; (try simp -implicitDefEqProofs [-loopQ_n, h, hf, valC, w1]); (first | refine callS_intro (hp) (.inl rfl) ?_); (try simp -implicitDefEqProofs [-loopQ_n, h, hf, valC, w1])))))
      rw [← hR]; simp [valsV, g]
  · rw [List.drop_eq_nil_of_le (by omega)] at hR
    ((try simp -implicitDefEqProofs [-loopQ_n, h]) <;> (repeat' (first | ((first | refine condD_dec ?_ ?_ | refine guardD_dec ?_ ?_) <;> (intro hc; (try simp -implicitDefEqProofs [-loopQ_n, hc, h]))))))
    rw [← hR]; rfl
theorem rinAll_pure (l : List Dom) (v : List Val) (hl : l.length ≤ 1000000) (hvl : v.length ≤ 1000000) (hdv : ∀ x ∈ l, domV x = true) : Pure Tryz.prog 86 [.rs (rowsOf domC l), .rs (rowsOf valC v)] (.bool (assV l v)) := by
  refine pure_of mixed Tryz.func86 rfl (by kernel_rfl) (of_decide_eq_true rfl) (by kernel_rfl) (vc_run ?_)
  by_cases e : v.length = l.length
  rotate_left
  · have e' : ¬ (v.length : Int) = l.length := by omega
    ((try simp -implicitDefEqProofs [-loopQ_n, e']) <;> (repeat' (first | ((first | refine condD_dec ?_ ?_ | refine guardD_dec ?_ ?_) <;> (intro hc; (try simp -implicitDefEqProofs [-loopQ_n, hc, e']))))))
    simp [assV, e]
  have e' : (v.length : Int) = l.length := by omega
  ((try simp -implicitDefEqProofs [-loopQ_n, e']) <;> (repeat' (first | ((first | refine condD_dec ?_ ?_ | refine guardD_dec ?_ ?_) <;> (intro hc; (try simp -implicitDefEqProofs [-loopQ_n, hc, e']))))))
  refine loop_intro (σ := Nat) (fun i => ⟨[(0, .rs (rowsOf domC l)), (1, .rs (rowsOf valC v)), (5, .int .i64 i)], []⟩)
    (fun i => i ≤ l.length ∧ assV (l.drop i) (v.drop i) = assV l v) (fun i => l.length - i) 0 ⟨by simp, by simp⟩ ?_ ?_
  · refine weak_of 0 0 rfl rfl ?_ ?_ <;> simp
  rintro i ⟨hi, hR⟩
  by_cases h : i < l.length
  · have w1 := w_succB h (by omega)
    have hv2 : i < v.length := by omega
    have hp := rrank_pure l[i] v[i] (hdv _ (List.getElem_mem h))
    obtain ⟨x, hf⟩ : ∃ e, l[i] = e := ⟨_, rfl⟩
    obtain ⟨a, ha⟩ : ∃ e, v[i] = e := ⟨_, rfl⟩
    rw [List.drop_eq_getElem_cons h, List.drop_eq_getElem_cons hv2, hf, ha] at hR
    rw [hf, ha] at hp
    simp only [domC, valC] at hp
    by_cases g : placeD x a < 0
    · ((try simp -implicitDefEqProofs [-loopQ_n, h, hv2, hf, ha, domC, valC, w1, g]) <;> (repeat' (first | ((first | refine condD_dec ?_ ?_ | refine guardD_dec ?_ ?_) <;> (intro hc; (try simp -implicitDefEqProofs [-loopQ_n, hc, h, hv2, hf, ha, domC, valC, w1, g]))) | (refine callS_mk ?_; (try simp -implicitDefEqProofs [-loopQ_n, h, hv2, hf, ha, domC, valC, w1, g]); (first | refine callS_intro (hp) (.inl rfl) ?_); (try simp -implicitDefEqProofs [-loopQ_n, h, hv2, hf, ha, domC, valC, w1, g])))))
      rw [← hR]
      have : ¬ 0 ≤ placeD x a := by omega
      simp [assV, this]
    · ((try simp -implicitDefEqProofs [-loopQ_n, h, hv2, hf, ha, domC, valC, w1, g]) <;> (repeat' (first | ((first | refine condD_dec ?_ ?_ | refine guardD_dec ?_ ?_) <;> (intro hc; (try simp -implicitDefEqProofs [-loopQ_n, hc, h, hv2, hf, ha, domC, valC, w1, g]))) | (refine callS_mk ?_; (try simp -implicitDefEqProofs [-loopQ_n, h, hv2, hf, ha, domC, valC, w1, g]); (first | refine callS_intro (hp) (.inl rfl) ?_); (try simp -implicitDefEqProofs [-loopQ_n, h, hv2, hf, ha, domC, valC, w1, g])))))
      have : 0 ≤ placeD x a := by omega
      refine loop_next (i + 1) ⟨h, by rw [← hR]; simp [assV, this]⟩ (by omega) (weak_of 0 0 rfl rfl ?_ ?_) <;> simp [w1]
  · have : i = l.length := by omega
    subst this
    rw [← hR, List.drop_eq_nil_of_le (Nat.le_refl _), List.drop_eq_nil_of_le (by omega)]
    ((try simp -implicitDefEqProofs [-loopQ_n, h]) <;> (repeat' (first | ((first | refine condD_dec ?_ ?_ | refine guardD_dec ?_ ?_) <;> (intro hc; (try simp -implicitDefEqProofs [-loopQ_n, hc, h]))))))
    rfl
set_option maxHeartbeats 4000000 in
theorem rfirst_pure (l : List Dom) (hl : l.length ≤ 1000000) (hdv : ∀ x ∈ l, domV x = true) : Pure Tryz.prog 24 [.rs (rowsOf domC l)] (.rs (rowsOf valC (firstA l))) := by
  refine pure_of mixed Tryz.func24 rfl (by kernel_rfl) (of_decide_eq_true rfl) (by kernel_rfl) (vc_run ?_)
  ((try simp -implicitDefEqProofs [-loopQ_n]) <;> (repeat' (first | ((first | refine condD_dec ?_ ?_ | refine guardD_dec ?_ ?_) <;> (intro hc; (try simp -implicitDefEqProofs [-loopQ_n, hc]))))))
  refine loop_intro (σ := Nat × List Val) (fun x => ⟨[(0, .rs (rowsOf domC l)), (3, .os 0 x.2.length), (4, .int .i64 x.1)], [.row 49 true (rowsOf valC x.2)]⟩)
    (fun x => x.1 ≤ l.length ∧ x.2.length = x.1 ∧ x.2 ++ firstA (l.drop x.1) = firstA l) (fun x => l.length - x.1) (0, []) ⟨by simp, by simp, by simp⟩ ?_ ?_
  · refine weak_of 0 1 rfl rfl ?_ ?_ <;> simp
  rintro ⟨i, acc⟩ ⟨hi, hlen, hR⟩
  simp only at hi hlen hR
  by_cases h : i < l.length
  · have w1 := w_succB h (by omega)
    have hxm := hdv _ (List.getElem_mem h)
    obtain ⟨x, hf⟩ : ∃ e, l[i] = e := ⟨_, rfl⟩
    rw [hf] at hxm
    have hb := place_lt (v := ⟨1, 0, ByteArray.empty⟩) hxm (by simp [valueV, emptyS])
    have hn := rnth_pure x 0 hxm (by omega) (by omega)
    simp only [domC, valC] at hn
    rw [List.drop_eq_getElem_cons h, hf] at hR
    have hla : acc.length + 1 ≤ 1073741824 := by omega
    ((try simp -implicitDefEqProofs [-loopQ_n, h, hf, domC, w1, hla]) <;> (repeat' (first | ((first | refine condD_dec ?_ ?_ | refine guardD_dec ?_ ?_) <;> (intro hc; (try simp -implicitDefEqProofs [-loopQ_n, hc, h, hf, domC, w1, hla]))) | (refine callS_mk ?_; (try simp -implicitDefEqProofs [-loopQ_n, h, hf, domC, w1, hla]); (first | refine callS_intro (hn) (.inl rfl) ?_); (try simp -implicitDefEqProofs [-loopQ_n, h, hf, domC, w1, hla])))))
    refine loop_next (i + 1, acc ++ [nthD x 0]) ⟨by simp only; omega, by simp [hlen], by rw [← hR]; simp [firstA]⟩ (by simp only; omega) (weak_of 1 0 rfl rfl ?_ ?_) <;> simp [w1, vals_snoc3, vals_refs]
  · rw [List.drop_eq_nil_of_le (by omega)] at hR
    simp only [firstA, List.map_nil, List.append_nil] at hR
    subst hR
    ((try simp -implicitDefEqProofs [-loopQ_n, h, vals_reify]) <;> (repeat' (first | ((first | refine condD_dec ?_ ?_ | refine guardD_dec ?_ ?_) <;> (intro hc; (try simp -implicitDefEqProofs [-loopQ_n, hc, h, vals_reify]))))))
    rfl
def rnextO (l : List Dom) (v : List Val) : AV := match nextL l v with | some t => .tup [.rs (rowsOf valC t), .bool true] | none => .tup [.rs [], .bool false]
set_option maxHeartbeats 8000000 in
theorem rnext_pure (l : List Dom) (v : List Val) (hl : l.length ≤ 1000000) (hdv : ∀ x ∈ l, domV x = true) (hvs : valsV v = true) (ha : assV l v = true) : Pure Tryz.prog 26 [.rs (rowsOf domC l), .rs (rowsOf valC v)] (rnextO l v) := by
  have hlen : v.length = l.length := by simp [assV] at ha; exact ha.1
  have hvv : ∀ x ∈ v, valueV x = true := by simpa [valsV] using hvs
  have w0 : wrapI .i64 ((l.length : Int) - 1) = (l.length : Int) - 1 := wrap_in (by omega) (by omega)
  have hal : allLen 3 (rowsOf valC v) = true := rowsOf_allLen fun x => rfl
  have hvl : v.length ≤ 1073741824 := by omega
  refine pure_of mixed Tryz.func26 rfl (by kernel_rfl) (of_decide_eq_true rfl) (by kernel_rfl) (vc_run ?_)
  ((try simp -implicitDefEqProofs [-loopQ_n, w0, hal, hvl]) <;> (repeat' (first | ((first | refine condD_dec ?_ ?_ | refine guardD_dec ?_ ?_) <;> (intro hc; (try simp -implicitDefEqProofs [-loopQ_n, hc, w0, hal, hvl]))))))
  refine loop_intro (σ := Nat) (fun k => ⟨[(0, .rs (rowsOf domC l)), (1, .rs (rowsOf valC v)), (6, .os 0 l.length), (7, .int .i64 ((k : Int) - 1))], [.row 49 false (rowsOf valC (v.take k ++ firstA (l.drop k)))]⟩)
    (fun k => k ≤ l.length ∧ nextL (l.drop k) (v.drop k) = none) (fun k => k) l.length ⟨Nat.le_refl _, by rw [List.drop_eq_nil_of_le (Nat.le_refl _), List.drop_eq_nil_of_le (by omega)]; rfl⟩ ?_ ?_
  · have ht : v.take l.length = v := List.take_of_length_le (by omega)
    refine weak_of 1 0 rfl rfl ?_ ?_ <;> simp [hlen, firstA, vals_refs, ht]
  rintro k ⟨hk, h0⟩
  by_cases h : 0 < k
  · obtain ⟨i, rfl⟩ : ∃ i, k = i + 1 := ⟨k - 1, by omega⟩
    have hil : i < l.length := by omega
    have hiv : i < v.length := by omega
    obtain ⟨n1, n2⟩ := next_at hlen hil h0
    have hxm := hdv _ (List.getElem_mem hil)
    have ham := hvv _ (List.getElem_mem hiv)
    have hp := rrank_pure l[i] v[i] hxm
    have hs := rsize_pure l[i] hxm
    have hn0 := fun (hi : 0 < sizeD l[i]) => rnth_pure l[i] 0 hxm (by omega) hi
    have hn1 := fun (hq : 0 ≤ placeD l[i] v[i] + 1) (hi : placeD l[i] v[i] + 1 < sizeD l[i]) => rnth_pure l[i] (placeD l[i] v[i] + 1) hxm hq hi
    have hpl : 0 ≤ placeD l[i] v[i] := by
      simp only [assV, Bool.and_eq_true, List.all_eq_true, decide_eq_true_eq] at ha
      refine ha.2 (l[i], v[i]) ?_
      exact List.mem_iff_getElem.2 ⟨i, by simp; omega, by simp⟩
    obtain ⟨b1, b2, b3, b4⟩ := place_lt hxm ham
    have hT : (v.take (i + 1)) = v.take i ++ [v[i]] := by rw [List.take_append_getElem hiv]
    have hset : ∀ z : Val, (v.take (i + 1) ++ firstA (l.drop (i + 1))).set i z = v.take i ++ z :: firstA (l.drop (i + 1)) := fun z => by
      rw [hT, List.append_assoc, List.set_append_right _ _ (by simp; omega)]
      simp [show min i v.length = i by omega]
    have hfd : firstA (l.drop i) = nthD l[i] 0 :: firstA (l.drop (i + 1)) := by rw [List.drop_eq_getElem_cons hil]; rfl
    obtain ⟨x, hf⟩ : ∃ e, l[i] = e := ⟨_, rfl⟩
    obtain ⟨a, hv'⟩ : ∃ e, v[i] = e := ⟨_, rfl⟩
    rw [hf, hv'] at n1 n2 hp b2 hpl b1 hn1
    rw [hf] at hs hn0 b3 b4 hfd
    have w1 : wrapI .i64 (placeD x a + 1) = placeD x a + 1 := wrap_in (by omega) (by omega)
    have w2 : wrapI .i64 ((i : Int) - 1) = (i : Int) - 1 := wrap_in (by omega) (by omega)
    have hof : (v.take (i + 1) ++ firstA (l.drop (i + 1))).length = l.length := by simp [firstA]; omega
    simp only [domC, valC] at hp hs hn0 hn1
    generalize hout : v.take (i + 1) ++ firstA (l.drop (i + 1)) = out at hset hof ⊢
    by_cases g : placeD x a + 1 < sizeD x
    · have hn := hn1 (by omega) g
      have n1 := n1 g
      ((try simp -implicitDefEqProofs [-loopQ_n, hil, hiv, hf, hv', domC, valC, w1, g, hof, vals_set, vals_reify]) <;> (repeat' (first | ((first | refine condD_dec ?_ ?_ | refine guardD_dec ?_ ?_) <;> (intro hc; (try simp -implicitDefEqProofs [-loopQ_n, hc, hil, hiv, hf, hv', domC, valC, w1, g, hof, vals_set, vals_reify]))) | (refine callS_mk ?_; (try simp -implicitDefEqProofs [-loopQ_n, hil, hiv, hf, hv', domC, valC, w1, g, hof, vals_set, vals_reify]); (first | refine callS_intro (hp) (.inl rfl) ?_ | refine callS_intro (hs) (.inl rfl) ?_ | refine callS_intro (hn) (.inl rfl) ?_); (try simp -implicitDefEqProofs [-loopQ_n, hil, hiv, hf, hv', domC, valC, w1, g, hof, vals_set, vals_reify])))))
      rw [hset]; simp [rnextO, n1]
    · have hn := hn0 (by omega)
      ((try simp -implicitDefEqProofs [-loopQ_n, hil, hiv, hf, hv', domC, valC, w1, w2, g, hof, vals_set]) <;> (repeat' (first | ((first | refine condD_dec ?_ ?_ | refine guardD_dec ?_ ?_) <;> (intro hc; (try simp -implicitDefEqProofs [-loopQ_n, hc, hil, hiv, hf, hv', domC, valC, w1, w2, g, hof, vals_set]))) | (refine callS_mk ?_; (try simp -implicitDefEqProofs [-loopQ_n, hil, hiv, hf, hv', domC, valC, w1, w2, g, hof, vals_set]); (first | refine callS_intro (hp) (.inl rfl) ?_ | refine callS_intro (hs) (.inl rfl) ?_ | refine callS_intro (hn) (.inl rfl) ?_); (try simp -implicitDefEqProofs [-loopQ_n, hil, hiv, hf, hv', domC, valC, w1, w2, g, hof, vals_set])))))
      have n2 := n2 g
      refine loop_next i ⟨by omega, n2⟩ (by omega) (weak_of 1 0 rfl rfl ?_ ?_)
      · simp [w2]
      · simp [hset, hfd, vals_refs]
  · have : k = 0 := by omega
    subst this
    ((try simp -implicitDefEqProofs [-loopQ_n]) <;> (repeat' (first | ((first | refine condD_dec ?_ ?_ | refine guardD_dec ?_ ?_) <;> (intro hc; (try simp -implicitDefEqProofs [-loopQ_n, hc]))))))
    simp only [List.drop_zero] at h0
    simp [rnextO, h0]
end Go.Proofs.YthemglpccpjokaaGreat
namespace Go.Proofs.YthemglpccpjokaaGreat
open Go.RowKit
variable [Glob]
def cI (a b : Int) : Int := if a < b then -1 else if b < a then 1 else 0
theorem cmpI_pure (a b : Int) : Pure Tryz.prog 154 [.int .i64 a, .int .i64 b] (.int .i64 (cI a b)) := by
  have hn : ∀ x : Int, Pure Tryz.prog 162 [.int .i64 x] (.bool false) := fun x => by
    refine pure_of mixed Tryz.func162 rfl (by kernel_rfl) (of_decide_eq_true rfl) (by kernel_rfl) (vc_run ?_)
    ((try simp -implicitDefEqProofs [-loopQ_n]) <;> (repeat' (first | ((first | refine condD_dec ?_ ?_ | refine guardD_dec ?_ ?_) <;> (intro hc; (try simp -implicitDefEqProofs [-loopQ_n, hc]))) | ((first | refine condD_intro ?_ ?_ | refine guardD_intro ?_ ?_) <;> (intro hd; have hc := hd; (try simp at hc) <;> (try simp -implicitDefEqProofs [-loopQ_n, hd, hc]))) | (refine ldD_ep ?_ ?_; (focus kernel_rfl); (try simp -implicitDefEqProofs [-loopQ_n])))))
  unfold cI
  refine pure_of mixed Tryz.func154 rfl (by kernel_rfl) (of_decide_eq_true rfl) (by kernel_rfl) (vc_run ?_)
  by_cases c1 : a < b
  · ((try simp -implicitDefEqProofs [-loopQ_n, c1]) <;> (repeat' (first | ((first | refine condD_dec ?_ ?_ | refine guardD_dec ?_ ?_) <;> (intro hc; (try simp -implicitDefEqProofs [-loopQ_n, hc, c1]))) | ((first | refine condD_intro ?_ ?_ | refine guardD_intro ?_ ?_) <;> (intro hd; have hc := hd; (try simp at hc) <;> (try simp -implicitDefEqProofs [-loopQ_n, hd, hc, c1]))) | ((first | (refine ldD_ep ?_ ?_; (focus kernel_rfl)) | (refine callS_mk ?_; (try simp -implicitDefEqProofs [-loopQ_n, c1]); (first | refine callS_intro (hn _) (.inl rfl) ?_))); (try simp -implicitDefEqProofs [-loopQ_n, c1])))))
  · by_cases c2 : b < a
    · ((try simp -implicitDefEqProofs [-loopQ_n, c1, c2]) <;> (repeat' (first | ((first | refine condD_dec ?_ ?_ | refine guardD_dec ?_ ?_) <;> (intro hc; (try simp -implicitDefEqProofs [-loopQ_n, hc, c1, c2]))) | ((first | refine condD_intro ?_ ?_ | refine guardD_intro ?_ ?_) <;> (intro hd; have hc := hd; (try simp at hc) <;> (try simp -implicitDefEqProofs [-loopQ_n, hd, hc, c1, c2]))) | ((first | (refine ldD_ep ?_ ?_; (focus kernel_rfl)) | (refine callS_mk ?_; (try simp -implicitDefEqProofs [-loopQ_n, c1, c2]); (first | refine callS_intro (hn _) (.inl rfl) ?_))); (try simp -implicitDefEqProofs [-loopQ_n, c1, c2])))))
    · ((try simp -implicitDefEqProofs [-loopQ_n, c1, c2]) <;> (repeat' (first | ((first | refine condD_dec ?_ ?_ | refine guardD_dec ?_ ?_) <;> (intro hc; (try simp -implicitDefEqProofs [-loopQ_n, hc, c1, c2]))) | ((first | refine condD_intro ?_ ?_ | refine guardD_intro ?_ ?_) <;> (intro hd; have hc := hd; (try simp at hc) <;> (try simp -implicitDefEqProofs [-loopQ_n, hd, hc, c1, c2]))) | ((first | (refine ldD_ep ?_ ?_; (focus kernel_rfl)) | (refine callS_mk ?_; (try simp -implicitDefEqProofs [-loopQ_n, c1, c2]); (first | refine callS_intro (hn _) (.inl rfl) ?_))); (try simp -implicitDefEqProofs [-loopQ_n, c1, c2])))))
theorem or3_pure (a b c : Int) : Pure Tryz.prog 153 [.rs (rowsOf intC [a, b, c])] (.int .i64 (if a = 0 then (if b = 0 then c else b) else a)) := by
  refine pure_of mixed Tryz.func153 rfl (by kernel_rfl) (of_decide_eq_true rfl) (by kernel_rfl) (vc_run ?_)
  ((try simp -implicitDefEqProofs [-loopQ_n]) <;> (repeat' (first | ((first | refine condD_dec ?_ ?_ | refine guardD_dec ?_ ?_) <;> (intro hc; (try simp -implicitDefEqProofs [-loopQ_n, hc]))) | ((first | refine condD_intro ?_ ?_ | refine guardD_intro ?_ ?_) <;> (intro hd; have hc := hd; (try simp at hc) <;> (try simp -implicitDefEqProofs [-loopQ_n, hd, hc]))) | (refine ldD_ep ?_ ?_; (focus kernel_rfl); (try simp -implicitDefEqProofs [-loopQ_n])))))
  refine loop_intro (σ := Nat) (fun i => ⟨[(3, .int .i64 0), (6, .rs (rowsOf intC [a, b, c])), (7, .int .i64 3), (8, .int .i64 i)], []⟩) (fun i => i ≤ 3 ∧ (1 ≤ i → a = 0) ∧ (2 ≤ i → b = 0) ∧ (3 ≤ i → c = 0)) (fun i => 3 - i) 0 (by simp) ?_ ?_
  · refine weak_of 0 0 rfl rfl ?_ ?_ <;> simp
  rintro i ⟨h1, h2, h3, h4⟩
  have u1 : wrapI .i64 1 = 1 := wrap_in (by omega) (by omega)
  have u2 : wrapI .i64 2 = 2 := wrap_in (by omega) (by omega)
  have u3 : wrapI .i64 3 = 3 := wrap_in (by omega) (by omega)
  by_cases h : i < 3
  · match i, h with
    | 0, _ =>
      by_cases q : a = 0
      · subst q
        ((try simp -implicitDefEqProofs [-loopQ_n, rowsOf, intC, u1]) <;> (repeat' (first | ((first | refine condD_dec ?_ ?_ | refine guardD_dec ?_ ?_) <;> (intro hc; (try simp -implicitDefEqProofs [-loopQ_n, hc, rowsOf, intC, u1]))) | ((first | refine condD_intro ?_ ?_ | refine guardD_intro ?_ ?_) <;> (intro hd; have hc := hd; (try simp at hc) <;> (try simp -implicitDefEqProofs [-loopQ_n, hd, hc, rowsOf, intC, u1]))) | (refine ldD_ep ?_ ?_; (focus kernel_rfl); (try simp -implicitDefEqProofs [-loopQ_n, rowsOf, intC, u1])))))
        refine loop_next 1 ⟨by omega, by simp⟩ (by omega) (weak_of 0 0 rfl rfl ?_ ?_) <;> simp [u1]
      · ((try simp -implicitDefEqProofs [-loopQ_n, rowsOf, intC, q]) <;> (repeat' (first | ((first | refine condD_dec ?_ ?_ | refine guardD_dec ?_ ?_) <;> (intro hc; (try simp -implicitDefEqProofs [-loopQ_n, hc, rowsOf, intC, q]))) | ((first | refine condD_intro ?_ ?_ | refine guardD_intro ?_ ?_) <;> (intro hd; have hc := hd; (try simp at hc) <;> (try simp -implicitDefEqProofs [-loopQ_n, hd, hc, rowsOf, intC, q]))) | (refine ldD_ep ?_ ?_; (focus kernel_rfl); (try simp -implicitDefEqProofs [-loopQ_n, rowsOf, intC, q])))))
    | 1, _ =>
      have ha := h2 (by omega)
      subst ha
      by_cases q : b = 0
      · subst q
        ((try simp -implicitDefEqProofs [-loopQ_n, rowsOf, intC, u2]) <;> (repeat' (first | ((first | refine condD_dec ?_ ?_ | refine guardD_dec ?_ ?_) <;> (intro hc; (try simp -implicitDefEqProofs [-loopQ_n, hc, rowsOf, intC, u2]))) | ((first | refine condD_intro ?_ ?_ | refine guardD_intro ?_ ?_) <;> (intro hd; have hc := hd; (try simp at hc) <;> (try simp -implicitDefEqProofs [-loopQ_n, hd, hc, rowsOf, intC, u2]))) | (refine ldD_ep ?_ ?_; (focus kernel_rfl); (try simp -implicitDefEqProofs [-loopQ_n, rowsOf, intC, u2])))))
        refine loop_next 2 ⟨by omega, by simp⟩ (by omega) (weak_of 0 0 rfl rfl ?_ ?_) <;> simp [u2]
      · ((try simp -implicitDefEqProofs [-loopQ_n, rowsOf, intC, q]) <;> (repeat' (first | ((first | refine condD_dec ?_ ?_ | refine guardD_dec ?_ ?_) <;> (intro hc; (try simp -implicitDefEqProofs [-loopQ_n, hc, rowsOf, intC, q]))) | ((first | refine condD_intro ?_ ?_ | refine guardD_intro ?_ ?_) <;> (intro hd; have hc := hd; (try simp at hc) <;> (try simp -implicitDefEqProofs [-loopQ_n, hd, hc, rowsOf, intC, q]))) | (refine ldD_ep ?_ ?_; (focus kernel_rfl); (try simp -implicitDefEqProofs [-loopQ_n, rowsOf, intC, q])))))
    | 2, _ =>
      have ha := h2 (by omega)
      have hb := h3 (by omega)
      subst ha hb
      by_cases q : c = 0
      · subst q
        ((try simp -implicitDefEqProofs [-loopQ_n, rowsOf, intC, u3]) <;> (repeat' (first | ((first | refine condD_dec ?_ ?_ | refine guardD_dec ?_ ?_) <;> (intro hc; (try simp -implicitDefEqProofs [-loopQ_n, hc, rowsOf, intC, u3]))) | ((first | refine condD_intro ?_ ?_ | refine guardD_intro ?_ ?_) <;> (intro hd; have hc := hd; (try simp at hc) <;> (try simp -implicitDefEqProofs [-loopQ_n, hd, hc, rowsOf, intC, u3]))) | (refine ldD_ep ?_ ?_; (focus kernel_rfl); (try simp -implicitDefEqProofs [-loopQ_n, rowsOf, intC, u3])))))
        refine loop_next 3 (by simp) (by omega) (weak_of 0 0 rfl rfl ?_ ?_) <;> simp [u3]
      · ((try simp -implicitDefEqProofs [-loopQ_n, rowsOf, intC, q]) <;> (repeat' (first | ((first | refine condD_dec ?_ ?_ | refine guardD_dec ?_ ?_) <;> (intro hc; (try simp -implicitDefEqProofs [-loopQ_n, hc, rowsOf, intC, q]))) | ((first | refine condD_intro ?_ ?_ | refine guardD_intro ?_ ?_) <;> (intro hd; have hc := hd; (try simp at hc) <;> (try simp -implicitDefEqProofs [-loopQ_n, hd, hc, rowsOf, intC, q]))) | (refine ldD_ep ?_ ?_; (focus kernel_rfl); (try simp -implicitDefEqProofs [-loopQ_n, rowsOf, intC, q])))))
  · have : i = 3 := by omega
    subst this
    have ha := h2 (by omega)
    have hb := h3 (by omega)
    have hc := h4 (by omega)
    subst ha hb hc
    ((try simp -implicitDefEqProofs [-loopQ_n, rowsOf, intC]) <;> (repeat' (first | ((first | refine condD_dec ?_ ?_ | refine guardD_dec ?_ ?_) <;> (intro hc; (try simp -implicitDefEqProofs [-loopQ_n, hc, rowsOf, intC]))) | ((first | refine condD_intro ?_ ?_ | refine guardD_intro ?_ ?_) <;> (intro hd; have hc := hd; (try simp at hc) <;> (try simp -implicitDefEqProofs [-loopQ_n, hd, hc, rowsOf, intC]))) | (refine ldD_ep ?_ ?_; (focus kernel_rfl); (try simp -implicitDefEqProofs [-loopQ_n, rowsOf, intC])))))
def cmpV (a b : Val) : Int := if a.kind < b.kind then -1 else if b.kind < a.kind then 1 else if a.n < b.n then -1 else if b.n < a.n then 1 else cmpB a.s b.s
theorem or3_cmpV (a b : Val) : (if cI a.kind b.kind = 0 then (if cI a.n b.n = 0 then cmpB a.s b.s else cI a.n b.n) else cI a.kind b.kind) = cmpV a b := by
  unfold cmpV cI
  by_cases h1 : a.kind < b.kind
  · simp [h1]
  · by_cases h2 : b.kind < a.kind
    · simp [h1, h2]
    · by_cases h3 : a.n < b.n
      · simp [h1, h2, h3]
      · by_cases h4 : b.n < a.n
        · simp [h1, h2, h3, h4]
        · simp [h1, h2, h3, h4]
def cmpO (a b : Val) : AV := if valueV a && valueV b then .tup [.int .i64 (cmpV a b), .int .i64 0] else .tup [.int .i64 0, .int .i64 1]
set_option maxHeartbeats 4000000 in
theorem vcmp_pure (a b : Val) : Pure Tryz.prog 135 [.agg (valC a), .agg (valC b)] (cmpO a b) := by
  have ha := value_pure a
  have hb := value_pure b
  by_cases e : valueV a = true
  rotate_left
  · have e : valueV a = false := by simpa using e
    rw [e] at ha
    simp only [valC] at ha
    refine pure_of mixed Tryz.func135 rfl (by kernel_rfl) (of_decide_eq_true rfl) (by kernel_rfl) (vc_run ?_)
    ((try simp -implicitDefEqProofs [-loopQ_n, valC]) <;> (repeat' (first | ((first | refine condD_dec ?_ ?_ | refine guardD_dec ?_ ?_) <;> (intro hc; (try simp -implicitDefEqProofs [-loopQ_n, hc, valC]))) | ((first | refine condD_intro ?_ ?_ | refine guardD_intro ?_ ?_) <;> (intro hd; have hc := hd; (try simp at hc) <;> (try simp -implicitDefEqProofs [-loopQ_n, hd, hc, valC]))) | ((first | (refine ldD_ep ?_ ?_; (focus kernel_rfl)) | (refine callS_mk ?_; (try simp -implicitDefEqProofs [-loopQ_n, valC]); (first | refine callS_intro (ha) (.inl rfl) ?_))); (try simp -implicitDefEqProofs [-loopQ_n, valC])))))
    simp [cmpO, e]
  rw [e] at ha
  by_cases f : valueV b = true
  rotate_left
  · have f : valueV b = false := by simpa using f
    rw [f] at hb
    simp only [valC] at ha hb
    refine pure_of mixed Tryz.func135 rfl (by kernel_rfl) (of_decide_eq_true rfl) (by kernel_rfl) (vc_run ?_)
    ((try simp -implicitDefEqProofs [-loopQ_n, valC]) <;> (repeat' (first | ((first | refine condD_dec ?_ ?_ | refine guardD_dec ?_ ?_) <;> (intro hc; (try simp -implicitDefEqProofs [-loopQ_n, hc, valC]))) | ((first | refine condD_intro ?_ ?_ | refine guardD_intro ?_ ?_) <;> (intro hd; have hc := hd; (try simp at hc) <;> (try simp -implicitDefEqProofs [-loopQ_n, hd, hc, valC]))) | ((first | (refine ldD_ep ?_ ?_; (focus kernel_rfl)) | (refine callS_mk ?_; (try simp -implicitDefEqProofs [-loopQ_n, valC]); (first | refine callS_intro (ha) (.inl rfl) ?_ | refine callS_intro (hb) (.inl rfl) ?_))); (try simp -implicitDefEqProofs [-loopQ_n, valC])))))
    simp [cmpO, e, f]
  rw [f] at hb
  have h3 := or3_pure (cI a.kind b.kind) (cI a.n b.n) (cmpB a.s b.s)
  rw [or3_cmpV] at h3
  simp only [valC] at ha hb
  refine pure_of mixed Tryz.func135 rfl (by kernel_rfl) (of_decide_eq_true rfl) (by kernel_rfl) (vc_run ?_)
  ((try simp -implicitDefEqProofs [-loopQ_n, valC, rowsOf, intC]) <;> (repeat' (first | ((first | refine condD_dec ?_ ?_ | refine guardD_dec ?_ ?_) <;> (intro hc; (try simp -implicitDefEqProofs [-loopQ_n, hc, valC, rowsOf, intC]))) | ((first | refine condD_intro ?_ ?_ | refine guardD_intro ?_ ?_) <;> (intro hd; have hc := hd; (try simp at hc) <;> (try simp -implicitDefEqProofs [-loopQ_n, hd, hc, valC, rowsOf, intC]))) | ((first | (refine ldD_ep ?_ ?_; (focus kernel_rfl)) | (refine callS_mk ?_; (try simp -implicitDefEqProofs [-loopQ_n, valC, rowsOf, intC]); (first | refine callS_intro (ha) (.inl rfl) ?_ | refine callS_intro (hb) (.inl rfl) ?_ | refine callS_intro (cmpI_pure a.kind b.kind) (.inl rfl) ?_ | refine callS_intro (cmpI_pure a.n b.n) (.inl rfl) ?_ | refine callS_intro (cmpB_pure a.s b.s) (.inl rfl) ?_ | refine callS_intro (h3) (.inl rfl) ?_))); (try simp -implicitDefEqProofs [-loopQ_n, valC, rowsOf, intC])))))
  simp [cmpO, e, f]
set_option maxHeartbeats 4000000 in
theorem rcmp_pure (a b : Val) : Pure Tryz.prog 138 [.agg (valC a), .agg (valC b)] (.int .i64 (cmpV a b)) := by
  refine pure_of mixed Tryz.func138 rfl (by kernel_rfl) (of_decide_eq_true rfl) (by kernel_rfl) (vc_run ?_)
  unfold cmpV
  by_cases h1 : a.kind < b.kind
  · ((try simp -implicitDefEqProofs [-loopQ_n, valC, h1]) <;> (repeat' (first | ((first | refine condD_dec ?_ ?_ | refine guardD_dec ?_ ?_) <;> (intro hc; (try simp -implicitDefEqProofs [-loopQ_n, hc, valC, h1]))) | ((first | refine condD_intro ?_ ?_ | refine guardD_intro ?_ ?_) <;> (intro hd; have hc := hd; (try simp at hc) <;> (try simp -implicitDefEqProofs [-loopQ_n, hd, hc, valC, h1]))) | (refine ldD_ep ?_ ?_; (focus kernel_rfl); (try simp -implicitDefEqProofs [-loopQ_n, valC, h1])))))
  by_cases h2 : b.kind < a.kind
  · have h3 : ¬ a.kind = b.kind := by omega
    ((try simp -implicitDefEqProofs [-loopQ_n, valC, h1, h2, h3]) <;> (repeat' (first | ((first | refine condD_dec ?_ ?_ | refine guardD_dec ?_ ?_) <;> (intro hc; (try simp -implicitDefEqProofs [-loopQ_n, hc, valC, h1, h2, h3]))) | ((first | refine condD_intro ?_ ?_ | refine guardD_intro ?_ ?_) <;> (intro hd; have hc := hd; (try simp at hc) <;> (try simp -implicitDefEqProofs [-loopQ_n, hd, hc, valC, h1, h2, h3]))) | (refine ldD_ep ?_ ?_; (focus kernel_rfl); (try simp -implicitDefEqProofs [-loopQ_n, valC, h1, h2, h3])))))
    exact h3 hc.1
  have h3 : a.kind = b.kind := by omega
  by_cases h4 : a.n < b.n
  · ((try simp -implicitDefEqProofs [-loopQ_n, valC, h3, h4]) <;> (repeat' (first | ((first | refine condD_dec ?_ ?_ | refine guardD_dec ?_ ?_) <;> (intro hc; (try simp -implicitDefEqProofs [-loopQ_n, hc, valC, h3, h4]))) | ((first | refine condD_intro ?_ ?_ | refine guardD_intro ?_ ?_) <;> (intro hd; have hc := hd; (try simp at hc) <;> (try simp -implicitDefEqProofs [-loopQ_n, hd, hc, valC, h3, h4]))) | (refine ldD_ep ?_ ?_; (focus kernel_rfl); (try simp -implicitDefEqProofs [-loopQ_n, valC, h3, h4])))))
  by_cases h5 : b.n < a.n
  · have h6 : ¬ a.n = b.n := by omega
    ((try simp -implicitDefEqProofs [-loopQ_n, valC, h3, h4, h5, h6]) <;> (repeat' (first | ((first | refine condD_dec ?_ ?_ | refine guardD_dec ?_ ?_) <;> (intro hc; (try simp -implicitDefEqProofs [-loopQ_n, hc, valC, h3, h4, h5, h6]))) | ((first | refine condD_intro ?_ ?_ | refine guardD_intro ?_ ?_) <;> (intro hd; have hc := hd; (try simp at hc) <;> (try simp -implicitDefEqProofs [-loopQ_n, hd, hc, valC, h3, h4, h5, h6]))) | (refine ldD_ep ?_ ?_; (focus kernel_rfl); (try simp -implicitDefEqProofs [-loopQ_n, valC, h3, h4, h5, h6])))))
    exact h6 hc.1
  have h6 : a.n = b.n := by omega
  rcases str_tri a.s b.s with q | q | q
  · ((try simp -implicitDefEqProofs [-loopQ_n, valC, h3, h6, q.a, q.b, q.c, q.c']) <;> (repeat' (first | ((first | refine condD_dec ?_ ?_ | refine guardD_dec ?_ ?_) <;> (intro hc; (try simp -implicitDefEqProofs [-loopQ_n, hc, valC, h3, h6, q.a, q.b, q.c, q.c']))) | ((first | refine condD_intro ?_ ?_ | refine guardD_intro ?_ ?_) <;> (intro hd; have hc := hd; (try simp at hc) <;> (try simp -implicitDefEqProofs [-loopQ_n, hd, hc, valC, h3, h6, q.a, q.b, q.c, q.c']))) | (refine ldD_ep ?_ ?_; (focus kernel_rfl); (try simp -implicitDefEqProofs [-loopQ_n, valC, h3, h6, q.a, q.b, q.c, q.c'])))))
    simp [cmpB, q.d]
  · ((try simp -implicitDefEqProofs [-loopQ_n, valC, h3, h6, q, str_irr]) <;> (repeat' (first | ((first | refine condD_dec ?_ ?_ | refine guardD_dec ?_ ?_) <;> (intro hc; (try simp -implicitDefEqProofs [-loopQ_n, hc, valC, h3, h6, q, str_irr]))) | ((first | refine condD_intro ?_ ?_ | refine guardD_intro ?_ ?_) <;> (intro hd; have hc := hd; (try simp at hc) <;> (try simp -implicitDefEqProofs [-loopQ_n, hd, hc, valC, h3, h6, q, str_irr]))) | (refine ldD_ep ?_ ?_; (focus kernel_rfl); (try simp -implicitDefEqProofs [-loopQ_n, valC, h3, h6, q, str_irr])))))
    simp [cmpB, ltS_irr]
  · ((try simp -implicitDefEqProofs [-loopQ_n, valC, h3, h6, q.a, q.b, q.c, q.c']) <;> (repeat' (first | ((first | refine condD_dec ?_ ?_ | refine guardD_dec ?_ ?_) <;> (intro hc; (try simp -implicitDefEqProofs [-loopQ_n, hc, valC, h3, h6, q.a, q.b, q.c, q.c']))) | ((first | refine condD_intro ?_ ?_ | refine guardD_intro ?_ ?_) <;> (intro hd; have hc := hd; (try simp at hc) <;> (try simp -implicitDefEqProofs [-loopQ_n, hd, hc, valC, h3, h6, q.a, q.b, q.c, q.c']))) | (refine ldD_ep ?_ ?_; (focus kernel_rfl); (try simp -implicitDefEqProofs [-loopQ_n, valC, h3, h6, q.a, q.b, q.c, q.c'])))))
    simp [cmpB, q.d, q.e]
end Go.Proofs.YthemglpccpjokaaGreat
namespace Go.Proofs.YthemglpccpjokaaGreat
open Go.RowKit
variable [Glob]
theorem din_pure (x : Dom) (v : Val) (hx : domV x = true) : Pure Tryz.prog 79 [.agg (domC x), .agg (valC v)] (.bool (valueV v && decide (0 ≤ placeD x v))) := by
  have h := in_pure x v
  unfold inD at h
  simp only [hx, Bool.true_and] at h
  by_cases f : valueV v = true
  · rw [if_pos f] at h
    simp only [domC, valC] at h
    refine pure_of mixed Tryz.func79 rfl (by kernel_rfl) (of_decide_eq_true rfl) (by kernel_rfl) (vc_run ?_)
    by_cases g : 0 ≤ placeD x v
    · ((try simp -implicitDefEqProofs [-loopQ_n, domC, valC, g]) <;> (repeat' (first | ((first | refine condD_dec ?_ ?_ | refine guardD_dec ?_ ?_) <;> (intro hc; (try simp -implicitDefEqProofs [-loopQ_n, hc, domC, valC, g]))) | (refine callS_mk ?_; (try simp -implicitDefEqProofs [-loopQ_n, domC, valC, g]); (first | refine callS_intro (h) (.inl rfl) ?_); (try simp -implicitDefEqProofs [-loopQ_n, domC, valC, g])))))
      try simp [f, g]
    · ((try simp -implicitDefEqProofs [-loopQ_n, domC, valC, g]) <;> (repeat' (first | ((first | refine condD_dec ?_ ?_ | refine guardD_dec ?_ ?_) <;> (intro hc; (try simp -implicitDefEqProofs [-loopQ_n, hc, domC, valC, g]))) | (refine callS_mk ?_; (try simp -implicitDefEqProofs [-loopQ_n, domC, valC, g]); (first | refine callS_intro (h) (.inl rfl) ?_); (try simp -implicitDefEqProofs [-loopQ_n, domC, valC, g])))))
      try simp [f, g]
  · rw [if_neg f] at h
    have f : valueV v = false := by simpa using f
    simp only [domC, valC] at h
    refine pure_of mixed Tryz.func79 rfl (by kernel_rfl) (of_decide_eq_true rfl) (by kernel_rfl) (vc_run ?_)
    ((try simp -implicitDefEqProofs [-loopQ_n, domC, valC]) <;> (repeat' (first | ((first | refine condD_dec ?_ ?_ | refine guardD_dec ?_ ?_) <;> (intro hc; (try simp -implicitDefEqProofs [-loopQ_n, hc, domC, valC]))) | (refine callS_mk ?_; (try simp -implicitDefEqProofs [-loopQ_n, domC, valC]); (first | refine callS_intro (h) (.inl rfl) ?_); (try simp -implicitDefEqProofs [-loopQ_n, domC, valC])))))
    simp [f]
def itemsG (x : Dom) : Option Val → List Val → Bool
  | _, [] => true
  | u, v :: r => (valueV v && decide (0 ≤ placeD x v)) && (match u with | none => true | some u => decide (cmpV u v < 0)) && itemsG x (some v) r
theorem itemsG_cons {x : Dom} {u : Option Val} {v : Val} {r : List Val} : itemsG x u (v :: r) = ((valueV v && decide (0 ≤ placeD x v)) && (match u with | none => true | some u => decide (cmpV u v < 0)) && itemsG x (some v) r) := by cases u <;> rfl
def itemsV (x : Dom) (l : List Val) : Bool := itemsG x none l && decide (0 < l.length)
def prevA (l : List Val) (i : Nat) : Option Val := if i = 0 then none else l[i - 1]?
theorem prevA_succ {l : List Val} {i : Nat} (h : i < l.length) : prevA l (i + 1) = some l[i] := by simp [prevA, h]
set_option maxHeartbeats 8000000 in
theorem ditems_pure (x : Dom) (l : List Val) (hx : domV x = true) (hl : l.length ≤ 1000000) : Pure Tryz.prog 114 [.agg (domC x), .rs (rowsOf valC l)] (.bool (itemsV x l)) := by
  refine pure_of mixed Tryz.func114 rfl (by kernel_rfl) (of_decide_eq_true rfl) (by kernel_rfl) (vc_run ?_)
  ((try simp -implicitDefEqProofs [-loopQ_n, domC]) <;> (repeat' (first | ((first | refine condD_dec ?_ ?_ | refine guardD_dec ?_ ?_) <;> (intro hc; (try simp -implicitDefEqProofs [-loopQ_n, hc, domC]))))))
  refine loop_intro (σ := Nat) (fun i => ⟨[(1, .rs (rowsOf valC l)), (2, .op 0 0), (9, .rs (rowsOf valC l)), (10, .int .i64 l.length), (11, .int .i64 i)], [.box 25 [.str x.name, .int .i64 x.kind, .int .i64 x.low, .int .i64 x.high, .rs (rowsOf strC x.items)]]⟩)
    (fun i => i ≤ l.length ∧ (∀ u, prevA l i = some u → valueV u = true) ∧ itemsG x (prevA l i) (l.drop i) = itemsG x none l) (fun i => l.length - i) 0 ⟨by simp, by simp [prevA], by simp [prevA]⟩ ?_ ?_
  · refine weak_of 1 0 rfl rfl ?_ ?_ <;> simp
  rintro i ⟨hi, hu, hR⟩
  by_cases h : i < l.length
  · have w1 := w_succB h (by omega)
    have hp := din_pure x l[i] hx
    have hps := prevA_succ h
    obtain ⟨v, hf⟩ : ∃ e, l[i] = e := ⟨_, rfl⟩
    rw [List.drop_eq_getElem_cons h, hf, itemsG_cons] at hR
    rw [hf] at hp hps
    by_cases g : (valueV v && decide (0 ≤ placeD x v)) = true
    rotate_left
    · have g : (valueV v && decide (0 ≤ placeD x v)) = false := by simpa using g
      rw [g] at hp hR
      simp only [domC, valC] at hp
      simp only [Bool.false_and] at hR
      ((try simp -implicitDefEqProofs [-loopQ_n, h, hf, valC, w1]) <;> (repeat' (first | ((first | refine condD_dec ?_ ?_ | refine guardD_dec ?_ ?_) <;> (intro hc; (try simp -implicitDefEqProofs [-loopQ_n, hc, h, hf, valC, w1]))) | (refine callS_mk ?_; (try simp -implicitDefEqProofs [-loopQ_n, h, hf, valC, w1]); (first | refine callS_intro (hp) (.inl rfl) ?_); (try simp -implicitDefEqProofs [-loopQ_n, h, hf, valC, w1])))))
      simp [itemsV, ← hR]
    rw [g] at hp hR
    have hvv : valueV v = true := by simp at g; exact g.1
    simp only [domC, valC] at hp
    simp only [Bool.true_and] at hR
    by_cases h0 : 0 < i
    · obtain ⟨k, rfl⟩ : ∃ k, i = k + 1 := ⟨i - 1, by omega⟩
      have hk : k < l.length := by omega
      obtain ⟨u, hku⟩ : ∃ e, l[k] = e := ⟨_, rfl⟩
      have hpu : prevA l (k + 1) = some u := by rw [prevA_succ hk, hku]
      have huv := hu u hpu
      rw [hpu] at hR
      have hcv := vcmp_pure u v
      unfold cmpO at hcv
      rw [if_pos (by simp [huv, hvv])] at hcv
      simp only [valC] at hcv
      have w2 : wrapI .i64 ((k : Int) + 1 - 1) = k := by rw [wrap_in (by omega) (by omega)]; omega
      have w3 : wrapI .i64 (k : Int) = k := by rw [wrap_in (by omega) (by omega)]
      have h' : (k : Int) + 1 < l.length := by omega
      have t1 : ((k : Int) + 1).toNat = k + 1 := by omega
      have t2 : 0 ≤ (k : Int) + 1 := by omega
      have t3 : 0 < (k : Int) + 1 := by omega
      have w4 : wrapI .i64 ((k : Int) + 1 + 1) = (k : Int) + 1 + 1 := wrap_in (by omega) (by omega)
      by_cases c : 0 ≤ cmpV u v
      · ((try simp -implicitDefEqProofs [-loopQ_n, h, h', hf, hk, hku, valC, w2, w3, w4, t1, t2, t3, c]) <;> (repeat' (first | ((first | refine condD_dec ?_ ?_ | refine guardD_dec ?_ ?_) <;> (intro hc; (try simp -implicitDefEqProofs [-loopQ_n, hc, h, h', hf, hk, hku, valC, w2, w3, w4, t1, t2, t3, c]))) | (refine callS_mk ?_; (try simp -implicitDefEqProofs [-loopQ_n, h, h', hf, hk, hku, valC, w2, w3, w4, t1, t2, t3, c]); (first | refine callS_intro (hp) (.inl rfl) ?_ | refine callS_intro (hcv) (.inl rfl) ?_); (try simp -implicitDefEqProofs [-loopQ_n, h, h', hf, hk, hku, valC, w2, w3, w4, t1, t2, t3, c])))))
        have : ¬ cmpV u v < 0 := by omega
        simp only [this, decide_false, Bool.false_and] at hR
        simp [itemsV, ← hR]
      · ((try simp -implicitDefEqProofs [-loopQ_n, h, h', hf, hk, hku, valC, w2, w3, w4, t1, t2, t3, c]) <;> (repeat' (first | ((first | refine condD_dec ?_ ?_ | refine guardD_dec ?_ ?_) <;> (intro hc; (try simp -implicitDefEqProofs [-loopQ_n, hc, h, h', hf, hk, hku, valC, w2, w3, w4, t1, t2, t3, c]))) | (refine callS_mk ?_; (try simp -implicitDefEqProofs [-loopQ_n, h, h', hf, hk, hku, valC, w2, w3, w4, t1, t2, t3, c]); (first | refine callS_intro (hp) (.inl rfl) ?_ | refine callS_intro (hcv) (.inl rfl) ?_); (try simp -implicitDefEqProofs [-loopQ_n, h, h', hf, hk, hku, valC, w2, w3, w4, t1, t2, t3, c])))))
        have : cmpV u v < 0 := by omega
        simp only [this, decide_true, Bool.true_and] at hR
        refine loop_next (k + 1 + 1) ⟨by omega, by rw [hps]; intro u' e; cases e; exact hvv, by rw [hps]; exact hR⟩ (by omega) (weak_of 1 0 rfl rfl ?_ ?_) <;> simp [w4]
    · have : i = 0 := by omega
      subst this
      have h' : (0 : Int) < l.length := by omega
      have w5 : wrapI .i64 1 = 1 := wrap_in (by omega) (by omega)
      ((try simp -implicitDefEqProofs [-loopQ_n, h, h', hf, valC, w5]) <;> (repeat' (first | ((first | refine condD_dec ?_ ?_ | refine guardD_dec ?_ ?_) <;> (intro hc; (try simp -implicitDefEqProofs [-loopQ_n, hc, h, h', hf, valC, w5]))) | (refine callS_mk ?_; (try simp -implicitDefEqProofs [-loopQ_n, h, h', hf, valC, w5]); (first | refine callS_intro (hp) (.inl rfl) ?_); (try simp -implicitDefEqProofs [-loopQ_n, h, h', hf, valC, w5])))))
      refine loop_next 1 ⟨by omega, by rw [hps]; intro u' e; cases e; exact hvv, by rw [hps]; simpa [prevA] using hR⟩ (by omega) (weak_of 1 0 rfl rfl ?_ ?_) <;> simp [w5]
  · rw [List.drop_eq_nil_of_le (by omega)] at hR
    simp only [itemsG] at hR
    by_cases h0 : 0 < l.length
    · have h0' : (0 : Int) < l.length := by omega
      ((try simp -implicitDefEqProofs [-loopQ_n, h, h0, h0']) <;> (repeat' (first | ((first | refine condD_dec ?_ ?_ | refine guardD_dec ?_ ?_) <;> (intro hc; (try simp -implicitDefEqProofs [-loopQ_n, hc, h, h0, h0']))))))
      simp [itemsV, ← hR, h0]
    · have h0' : ¬ (0 : Int) < l.length := by omega
      ((try simp -implicitDefEqProofs [-loopQ_n, h, h0, h0']) <;> (repeat' (first | ((first | refine condD_dec ?_ ?_ | refine guardD_dec ?_ ?_) <;> (intro hc; (try simp -implicitDefEqProofs [-loopQ_n, hc, h, h0, h0']))))))
      simp [itemsV, h0]
end Go.Proofs.YthemglpccpjokaaGreat
namespace Go.Proofs.YthemglpccpjokaaGreat
open Go.RowKit
variable [Glob]
set_option maxHeartbeats 8000000 in
theorem ritems_pure (x : Dom) (l : List Val) (hx : domV x = true) (hl : l.length ≤ 1000000) : Pure Tryz.prog 121 [.agg (domC x), .rs (rowsOf valC l)] (.bool (itemsV x l)) := by
  refine pure_of mixed Tryz.func121 rfl (by kernel_rfl) (of_decide_eq_true rfl) (by kernel_rfl) (vc_run ?_)
  ((try simp -implicitDefEqProofs [-loopQ_n, domC]) <;> (repeat' (first | ((first | refine condD_dec ?_ ?_ | refine guardD_dec ?_ ?_) <;> (intro hc; (try simp -implicitDefEqProofs [-loopQ_n, hc, domC]))))))
  refine loop_intro (σ := Nat) (fun i => ⟨[(1, .rs (rowsOf valC l)), (2, .op 0 0), (5, .int .i64 i)], [.box 25 [.str x.name, .int .i64 x.kind, .int .i64 x.low, .int .i64 x.high, .rs (rowsOf strC x.items)]]⟩)
    (fun i => i ≤ l.length ∧ itemsG x (prevA l i) (l.drop i) = itemsG x none l) (fun i => l.length - i) 0 ⟨by simp, by simp [prevA]⟩ ?_ ?_
  · refine weak_of 1 0 rfl rfl ?_ ?_ <;> simp
  rintro i ⟨hi, hR⟩
  by_cases h : i < l.length
  · have w1 := w_succB h (by omega)
    have hp := rvalue_pure l[i]
    have hq := rrank_pure x l[i] hx
    have hps := prevA_succ h
    obtain ⟨v, hf⟩ : ∃ e, l[i] = e := ⟨_, rfl⟩
    rw [List.drop_eq_getElem_cons h, hf, itemsG_cons] at hR
    rw [hf] at hp hq hps
    simp only [domC, valC] at hq
    by_cases g : valueV v = true
    rotate_left
    · have g : valueV v = false := by simpa using g
      rw [g] at hp hR
      simp only [valC] at hp
      simp only [Bool.false_and] at hR
      ((try simp -implicitDefEqProofs [-loopQ_n, h, hf, valC, w1]) <;> (repeat' (first | ((first | refine condD_dec ?_ ?_ | refine guardD_dec ?_ ?_) <;> (intro hc; (try simp -implicitDefEqProofs [-loopQ_n, hc, h, hf, valC, w1]))) | (refine callS_mk ?_; (try simp -implicitDefEqProofs [-loopQ_n, h, hf, valC, w1]); (first | refine callS_intro (hp) (.inl rfl) ?_); (try simp -implicitDefEqProofs [-loopQ_n, h, hf, valC, w1])))))
      simp [itemsV, ← hR]
    rw [g] at hp hR
    simp only [valC] at hp
    by_cases gp : placeD x v < 0
    · have gp' : ¬ 0 ≤ placeD x v := by omega
      simp only [gp', decide_false, Bool.and_false, Bool.false_and] at hR
      ((try simp -implicitDefEqProofs [-loopQ_n, h, hf, valC, w1, gp]) <;> (repeat' (first | ((first | refine condD_dec ?_ ?_ | refine guardD_dec ?_ ?_) <;> (intro hc; (try simp -implicitDefEqProofs [-loopQ_n, hc, h, hf, valC, w1, gp]))) | (refine callS_mk ?_; (try simp -implicitDefEqProofs [-loopQ_n, h, hf, valC, w1, gp]); (first | refine callS_intro (hp) (.inl rfl) ?_ | refine callS_intro (hq) (.inl rfl) ?_); (try simp -implicitDefEqProofs [-loopQ_n, h, hf, valC, w1, gp])))))
      simp [itemsV, ← hR]
    have gp' : 0 ≤ placeD x v := by omega
    simp only [gp', decide_true, Bool.and_true, Bool.true_and] at hR
    by_cases h0 : 0 < i
    · obtain ⟨k, rfl⟩ : ∃ k, i = k + 1 := ⟨i - 1, by omega⟩
      have hk : k < l.length := by omega
      obtain ⟨u, hku⟩ : ∃ e, l[k] = e := ⟨_, rfl⟩
      have hpu : prevA l (k + 1) = some u := by rw [prevA_succ hk, hku]
      rw [hpu] at hR
      have hcv := rcmp_pure u v
      simp only [valC] at hcv
      have w3 : wrapI .i64 (k : Int) = k := by rw [wrap_in (by omega) (by omega)]
      have h' : (k : Int) + 1 < l.length := by omega
      have t1 : ((k : Int) + 1).toNat = k + 1 := by omega
      have t2 : 0 ≤ (k : Int) + 1 := by omega
      have t3 : 0 < (k : Int) + 1 := by omega
      have w4 : wrapI .i64 ((k : Int) + 1 + 1) = (k : Int) + 1 + 1 := wrap_in (by omega) (by omega)
      by_cases c : 0 ≤ cmpV u v
      · ((try simp -implicitDefEqProofs [-loopQ_n, h, h', hf, hk, hku, valC, w3, w4, t1, t2, t3, gp, c]) <;> (repeat' (first | ((first | refine condD_dec ?_ ?_ | refine guardD_dec ?_ ?_) <;> (intro hc; (try simp -implicitDefEqProofs [-loopQ_n, hc, h, h', hf, hk, hku, valC, w3, w4, t1, t2, t3, gp, c]))) | (refine callS_mk ?_; (try simp -implicitDefEqProofs [-loopQ_n, h, h', hf, hk, hku, valC, w3, w4, t1, t2, t3, gp, c]); (first | refine callS_intro (hp) (.inl rfl) ?_ | refine callS_intro (hq) (.inl rfl) ?_ | refine callS_intro (hcv) (.inl rfl) ?_); (try simp -implicitDefEqProofs [-loopQ_n, h, h', hf, hk, hku, valC, w3, w4, t1, t2, t3, gp, c])))))
        have : ¬ cmpV u v < 0 := by omega
        simp only [this, decide_false, Bool.false_and] at hR
        simp [itemsV, ← hR]
      · ((try simp -implicitDefEqProofs [-loopQ_n, h, h', hf, hk, hku, valC, w3, w4, t1, t2, t3, gp, c]) <;> (repeat' (first | ((first | refine condD_dec ?_ ?_ | refine guardD_dec ?_ ?_) <;> (intro hc; (try simp -implicitDefEqProofs [-loopQ_n, hc, h, h', hf, hk, hku, valC, w3, w4, t1, t2, t3, gp, c]))) | (refine callS_mk ?_; (try simp -implicitDefEqProofs [-loopQ_n, h, h', hf, hk, hku, valC, w3, w4, t1, t2, t3, gp, c]); (first | refine callS_intro (hp) (.inl rfl) ?_ | refine callS_intro (hq) (.inl rfl) ?_ | refine callS_intro (hcv) (.inl rfl) ?_); (try simp -implicitDefEqProofs [-loopQ_n, h, h', hf, hk, hku, valC, w3, w4, t1, t2, t3, gp, c])))))
        have : cmpV u v < 0 := by omega
        simp only [this, decide_true, Bool.true_and] at hR
        refine loop_next (k + 1 + 1) ⟨by omega, by rw [hps]; exact hR⟩ (by omega) (weak_of 1 0 rfl rfl ?_ ?_) <;> simp [w4]
    · have : i = 0 := by omega
      subst this
      have h' : (0 : Int) < l.length := by omega
      have w5 : wrapI .i64 1 = 1 := wrap_in (by omega) (by omega)
      ((try simp -implicitDefEqProofs [-loopQ_n, h, h', hf, valC, w5, gp]) <;> (repeat' (first | ((first | refine condD_dec ?_ ?_ | refine guardD_dec ?_ ?_) <;> (intro hc; (try simp -implicitDefEqProofs [-loopQ_n, hc, h, h', hf, valC, w5, gp]))) | (refine callS_mk ?_; (try simp -implicitDefEqProofs [-loopQ_n, h, h', hf, valC, w5, gp]); (first | refine callS_intro (hp) (.inl rfl) ?_ | refine callS_intro (hq) (.inl rfl) ?_); (try simp -implicitDefEqProofs [-loopQ_n, h, h', hf, valC, w5, gp])))))
      refine loop_next 1 ⟨by omega, by rw [hps]; simpa [prevA] using hR⟩ (by omega) (weak_of 1 0 rfl rfl ?_ ?_) <;> simp [w5]
  · rw [List.drop_eq_nil_of_le (by omega)] at hR
    simp only [itemsG] at hR
    by_cases h0 : 0 < l.length
    · have h0' : (0 : Int) < l.length := by omega
      ((try simp -implicitDefEqProofs [-loopQ_n, h, h0, h0']) <;> (repeat' (first | ((first | refine condD_dec ?_ ?_ | refine guardD_dec ?_ ?_) <;> (intro hc; (try simp -implicitDefEqProofs [-loopQ_n, hc, h, h0, h0']))))))
      simp [itemsV, ← hR, h0]
    · have h0' : ¬ (0 : Int) < l.length := by omega
      ((try simp -implicitDefEqProofs [-loopQ_n, h, h0, h0']) <;> (repeat' (first | ((first | refine condD_dec ?_ ?_ | refine guardD_dec ?_ ?_) <;> (intro hc; (try simp -implicitDefEqProofs [-loopQ_n, hc, h, h0, h0']))))))
      simp [itemsV, h0]
end Go.Proofs.YthemglpccpjokaaGreat
namespace Go.Proofs.YthemglpccpjokaaGreat
open Go.RowKit
variable [Glob]
deriving instance DecidableEq for Val
theorem val_ne {a b : Val} (h : a ≠ b) : ¬ (a.kind = b.kind ∧ a.n = b.n ∧ a.s.toList = b.s.toList) := fun ⟨h1, h2, h3⟩ => by
  have h4 : a.s = b.s := ba_eq (by rw [← ba_toList, ← ba_toList]; exact h3)
  refine h ?_
  obtain ⟨a1, a2, a3⟩ := a
  obtain ⟨b1, b2, b3⟩ := b
  simp only at h1 h2 h4
  rw [h1, h2, h4]
def idxVA : List Val → Val → Int → Int
  | [], _, _ => -1
  | y :: r, x, i => if y = x then i else idxVA r x (i + 1)
def idxV (l : List Val) (x : Val) : Int := idxVA l x 0
theorem idxVA_ge (l : List Val) (x : Val) : ∀ i : Int, 0 ≤ i → (0 ≤ idxVA l x i ↔ x ∈ l) := by
  induction l with
  | nil => intro i _; simp [idxVA]
  | cons y r ih =>
    intro i hi
    by_cases e : y = x
    · simp [idxVA, e, hi]
    · simp only [idxVA, if_neg e]
      rw [ih (i + 1) (by omega), List.mem_cons]
      exact ⟨.inr, fun h => h.resolve_left fun q => e q.symm⟩
theorem idxV_ge (l : List Val) (x : Val) : 0 ≤ idxV l x ↔ x ∈ l := idxVA_ge l x 0 (by omega)
theorem vindex_pure (l : List Val) (v : Val) (hl : l.length ≤ 1000000) : Pure Tryz.prog 103 [.rs (rowsOf valC l), .agg (valC v)] (.int .i64 (idxV l v)) := by
  refine pure_of mixed Tryz.func103 rfl (by kernel_rfl) (of_decide_eq_true rfl) (by kernel_rfl) (vc_run ?_)
  ((try simp -implicitDefEqProofs [-loopQ_n, valC]) <;> (repeat' (first | ((first | refine condD_dec ?_ ?_ | refine guardD_dec ?_ ?_) <;> (intro hc; (try simp -implicitDefEqProofs [-loopQ_n, hc, valC]))) | ((first | refine condD_intro ?_ ?_ | refine guardD_intro ?_ ?_) <;> (intro hd; have hc := hd; (try simp at hc) <;> (try simp -implicitDefEqProofs [-loopQ_n, hd, hc, valC]))) | (refine ldD_ep ?_ ?_; (focus kernel_rfl); (try simp -implicitDefEqProofs [-loopQ_n, valC])))))
  refine loop_intro (σ := Nat) (fun i => ⟨[(0, .rs (rowsOf valC l)), (3, .op 0 0), (7, .int .i64 l.length), (8, .int .i64 i)], [.box 49 [.int .i64 v.kind, .int .i64 v.n, .str v.s]]⟩) (fun i => i ≤ l.length ∧ idxVA (l.drop i) v i = idxV l v) (fun i => l.length - i) 0 ⟨by omega, by simp [idxV]⟩ ?_ ?_
  · refine weak_of 1 0 rfl rfl ?_ ?_ <;> simp
  rintro i ⟨hi, hR⟩
  by_cases h : i < l.length
  · have w1 := w_succB h (by omega)
    obtain ⟨x, hf⟩ : ∃ e, l[i] = e := ⟨_, rfl⟩
    rw [List.drop_eq_getElem_cons h, hf, idxVA] at hR
    by_cases e : x = v
    · subst e
      rw [if_pos rfl] at hR
      ((try simp -implicitDefEqProofs [-loopQ_n, h, hf, valC, w1]) <;> (repeat' (first | ((first | refine condD_dec ?_ ?_ | refine guardD_dec ?_ ?_) <;> (intro hc; (try simp -implicitDefEqProofs [-loopQ_n, hc, h, hf, valC, w1]))) | ((first | refine condD_intro ?_ ?_ | refine guardD_intro ?_ ?_) <;> (intro hd; have hc := hd; (try simp at hc) <;> (try simp -implicitDefEqProofs [-loopQ_n, hd, hc, h, hf, valC, w1]))) | (refine ldD_ep ?_ ?_; (focus kernel_rfl); (try simp -implicitDefEqProofs [-loopQ_n, h, hf, valC, w1])))))
      rw [← hR]
    · rw [if_neg e] at hR
      have hne := val_ne (fun q : v = x => e q.symm)
      ((try simp -implicitDefEqProofs [-loopQ_n, h, hf, valC, w1]) <;> (repeat' (first | ((first | refine condD_dec ?_ ?_ | refine guardD_dec ?_ ?_) <;> (intro hc; (try simp -implicitDefEqProofs [-loopQ_n, hc, h, hf, valC, w1]))) | ((first | refine condD_intro ?_ ?_ | refine guardD_intro ?_ ?_) <;> (intro hd; have hc := hd; (try simp at hc) <;> (try simp -implicitDefEqProofs [-loopQ_n, hd, hc, h, hf, valC, w1]))) | (refine ldD_ep ?_ ?_; (focus kernel_rfl); (try simp -implicitDefEqProofs [-loopQ_n, h, hf, valC, w1])))))
      · exact absurd hc hne
      · refine loop_next (i + 1) ⟨h, by simpa using hR⟩ (by omega) (weak_of 1 0 rfl rfl ?_ ?_) <;> simp [w1]
  · rw [List.drop_eq_nil_of_le (by omega), idxVA] at hR
    ((try simp -implicitDefEqProofs [-loopQ_n, h]) <;> (repeat' (first | ((first | refine condD_dec ?_ ?_ | refine guardD_dec ?_ ?_) <;> (intro hc; (try simp -implicitDefEqProofs [-loopQ_n, hc, h]))) | ((first | refine condD_intro ?_ ?_ | refine guardD_intro ?_ ?_) <;> (intro hd; have hc := hd; (try simp at hc) <;> (try simp -implicitDefEqProofs [-loopQ_n, hd, hc, h]))) | (refine ldD_ep ?_ ?_; (focus kernel_rfl); (try simp -implicitDefEqProofs [-loopQ_n, h])))))
    rw [← hR]
theorem rfind_pure (l : List Val) (v : Val) (hl : l.length ≤ 1000000) : Pure Tryz.prog 89 [.rs (rowsOf valC l), .agg (valC v)] (.int .i64 (idxV l v)) := by
  refine pure_of mixed Tryz.func89 rfl (by kernel_rfl) (of_decide_eq_true rfl) (by kernel_rfl) (vc_run ?_)
  ((try simp -implicitDefEqProofs [-loopQ_n, valC]) <;> (repeat' (first | ((first | refine condD_dec ?_ ?_ | refine guardD_dec ?_ ?_) <;> (intro hc; (try simp -implicitDefEqProofs [-loopQ_n, hc, valC]))) | ((first | refine condD_intro ?_ ?_ | refine guardD_intro ?_ ?_) <;> (intro hd; have hc := hd; (try simp at hc) <;> (try simp -implicitDefEqProofs [-loopQ_n, hd, hc, valC]))) | (refine ldD_ep ?_ ?_; (focus kernel_rfl); (try simp -implicitDefEqProofs [-loopQ_n, valC])))))
  refine loop_intro (σ := Nat) (fun i => ⟨[(0, .rs (rowsOf valC l)), (3, .op 0 0), (5, .int .i64 i)], [.box 49 [.int .i64 v.kind, .int .i64 v.n, .str v.s]]⟩) (fun i => i ≤ l.length ∧ idxVA (l.drop i) v i = idxV l v) (fun i => l.length - i) 0 ⟨by omega, by simp [idxV]⟩ ?_ ?_
  · refine weak_of 1 0 rfl rfl ?_ ?_ <;> simp
  rintro i ⟨hi, hR⟩
  by_cases h : i < l.length
  · have w1 := w_succB h (by omega)
    obtain ⟨x, hf⟩ : ∃ e, l[i] = e := ⟨_, rfl⟩
    rw [List.drop_eq_getElem_cons h, hf, idxVA] at hR
    by_cases e : x = v
    · subst e
      rw [if_pos rfl] at hR
      ((try simp -implicitDefEqProofs [-loopQ_n, h, hf, valC, w1]) <;> (repeat' (first | ((first | refine condD_dec ?_ ?_ | refine guardD_dec ?_ ?_) <;> (intro hc; (try simp -implicitDefEqProofs [-loopQ_n, hc, h, hf, valC, w1]))) | ((first | refine condD_intro ?_ ?_ | refine guardD_intro ?_ ?_) <;> (intro hd; have hc := hd; (try simp at hc) <;> (try simp -implicitDefEqProofs [-loopQ_n, hd, hc, h, hf, valC, w1]))) | (refine ldD_ep ?_ ?_; (focus kernel_rfl); (try simp -implicitDefEqProofs [-loopQ_n, h, hf, valC, w1])))))
      rw [← hR]
    · rw [if_neg e] at hR
      have hne := val_ne e
      ((try simp -implicitDefEqProofs [-loopQ_n, h, hf, valC, w1]) <;> (repeat' (first | ((first | refine condD_dec ?_ ?_ | refine guardD_dec ?_ ?_) <;> (intro hc; (try simp -implicitDefEqProofs [-loopQ_n, hc, h, hf, valC, w1]))) | ((first | refine condD_intro ?_ ?_ | refine guardD_intro ?_ ?_) <;> (intro hd; have hc := hd; (try simp at hc) <;> (try simp -implicitDefEqProofs [-loopQ_n, hd, hc, h, hf, valC, w1]))) | (refine ldD_ep ?_ ?_; (focus kernel_rfl); (try simp -implicitDefEqProofs [-loopQ_n, h, hf, valC, w1])))))
      · exact absurd hc hne
      · refine loop_next (i + 1) ⟨h, by simpa using hR⟩ (by omega) (weak_of 1 0 rfl rfl ?_ ?_) <;> simp [w1]
  · rw [List.drop_eq_nil_of_le (by omega), idxVA] at hR
    ((try simp -implicitDefEqProofs [-loopQ_n, h]) <;> (repeat' (first | ((first | refine condD_dec ?_ ?_ | refine guardD_dec ?_ ?_) <;> (intro hc; (try simp -implicitDefEqProofs [-loopQ_n, hc, h]))) | ((first | refine condD_intro ?_ ?_ | refine guardD_intro ?_ ?_) <;> (intro hd; have hc := hd; (try simp at hc) <;> (try simp -implicitDefEqProofs [-loopQ_n, hd, hc, h]))) | (refine ldD_ep ?_ ?_; (focus kernel_rfl); (try simp -implicitDefEqProofs [-loopQ_n, h])))))
    rw [← hR]
theorem vcontains_pure (l : List Val) (v : Val) (hl : l.length ≤ 1000000) : Pure Tryz.prog 116 [.rs (rowsOf valC l), .agg (valC v)] (.bool (decide (v ∈ l))) := by
  have h := vindex_pure l v hl
  simp only [valC] at h
  have hi := idxV_ge l v
  refine pure_of mixed Tryz.func116 rfl (by kernel_rfl) (of_decide_eq_true rfl) (by kernel_rfl) (vc_run ?_)
  ((try simp -implicitDefEqProofs [-loopQ_n, valC]) <;> (repeat' (first | ((first | refine condD_dec ?_ ?_ | refine guardD_dec ?_ ?_) <;> (intro hc; (try simp -implicitDefEqProofs [-loopQ_n, hc, valC]))) | ((first | refine condD_intro ?_ ?_ | refine guardD_intro ?_ ?_) <;> (intro hd; have hc := hd; (try simp at hc) <;> (try simp -implicitDefEqProofs [-loopQ_n, hd, hc, valC]))) | ((first | (refine ldD_ep ?_ ?_; (focus kernel_rfl)) | (refine callS_mk ?_; (try simp -implicitDefEqProofs [-loopQ_n, valC]); (first | refine callS_intro (h) (.inl rfl) ?_))); (try simp -implicitDefEqProofs [-loopQ_n, valC])))))
  exact hi
end Go.Proofs.YthemglpccpjokaaGreat
namespace Go.Proofs.YthemglpccpjokaaGreat
open Go.RowKit
variable [Glob]
structure Tst where
  kind : Int
  v : Val
  low : Int
  high : Int
  items : List Val
def tstC (t : Tst) : List AV := [.int .i64 t.kind, .int .i64 t.v.kind, .int .i64 t.v.n, .str t.v.s, .int .i64 t.low, .int .i64 t.high, .rs (rowsOf valC t.items)]
def tstT (t : Tst) (v : Val) : Bool := if t.kind = 2 then decide (v = t.v) else if t.kind = 3 then decide (t.low ≤ v.n) && decide (v.n ≤ t.high) else if t.kind = 4 then decide (v ∈ t.items) else if t.kind = 5 then decide (v ∉ t.items) else true
set_option maxHeartbeats 4000000 in
theorem tof_pure (t : Tst) (v : Val) (hl : t.items.length ≤ 1000000) : Pure Tryz.prog 80 [.agg (tstC t), .agg (valC v)] (.bool (tstT t v)) := by
  have hc2 := vcontains_pure t.items v hl
  simp only [valC] at hc2
  refine pure_of mixed Tryz.func80 rfl (by kernel_rfl) (of_decide_eq_true rfl) (by kernel_rfl) (vc_run ?_)
  by_cases k2 : t.kind = 2
  · by_cases e : v = t.v
    · ((try simp -implicitDefEqProofs [-loopQ_n, tstC, valC, k2, e]) <;> (repeat' (first | ((first | refine condD_dec ?_ ?_ | refine guardD_dec ?_ ?_) <;> (intro hc; (try simp -implicitDefEqProofs [-loopQ_n, hc, tstC, valC, k2, e]))) | ((first | refine condD_intro ?_ ?_ | refine guardD_intro ?_ ?_) <;> (intro hd; have hc := hd; (try simp at hc) <;> (try simp -implicitDefEqProofs [-loopQ_n, hd, hc, tstC, valC, k2, e]))) | (refine ldD_ep ?_ ?_; (focus kernel_rfl); (try simp -implicitDefEqProofs [-loopQ_n, tstC, valC, k2, e])))))
      simp [tstT, k2, e]
    · have hne := val_ne e
      ((try simp -implicitDefEqProofs [-loopQ_n, tstC, valC, k2, hne]) <;> (repeat' (first | ((first | refine condD_dec ?_ ?_ | refine guardD_dec ?_ ?_) <;> (intro hc; (try simp -implicitDefEqProofs [-loopQ_n, hc, tstC, valC, k2, hne]))) | ((first | refine condD_intro ?_ ?_ | refine guardD_intro ?_ ?_) <;> (intro hd; have hc := hd; (try simp at hc) <;> (try simp -implicitDefEqProofs [-loopQ_n, hd, hc, tstC, valC, k2, hne]))) | (refine ldD_ep ?_ ?_; (focus kernel_rfl); (try simp -implicitDefEqProofs [-loopQ_n, tstC, valC, k2, hne])))))
      simp only [tstT, k2, if_true, e, decide_false]
      simpa using hne
  by_cases k3 : t.kind = 3
  · by_cases g1 : t.low ≤ v.n
    · by_cases g2 : v.n ≤ t.high
      · ((try simp -implicitDefEqProofs [-loopQ_n, tstC, valC, k2, k3, g1, g2]) <;> (repeat' (first | ((first | refine condD_dec ?_ ?_ | refine guardD_dec ?_ ?_) <;> (intro hc; (try simp -implicitDefEqProofs [-loopQ_n, hc, tstC, valC, k2, k3, g1, g2]))) | ((first | refine condD_intro ?_ ?_ | refine guardD_intro ?_ ?_) <;> (intro hd; have hc := hd; (try simp at hc) <;> (try simp -implicitDefEqProofs [-loopQ_n, hd, hc, tstC, valC, k2, k3, g1, g2]))) | (refine ldD_ep ?_ ?_; (focus kernel_rfl); (try simp -implicitDefEqProofs [-loopQ_n, tstC, valC, k2, k3, g1, g2])))))
        simp [tstT, k3, g1, g2]
      · ((try simp -implicitDefEqProofs [-loopQ_n, tstC, valC, k2, k3, g1, g2]) <;> (repeat' (first | ((first | refine condD_dec ?_ ?_ | refine guardD_dec ?_ ?_) <;> (intro hc; (try simp -implicitDefEqProofs [-loopQ_n, hc, tstC, valC, k2, k3, g1, g2]))) | ((first | refine condD_intro ?_ ?_ | refine guardD_intro ?_ ?_) <;> (intro hd; have hc := hd; (try simp at hc) <;> (try simp -implicitDefEqProofs [-loopQ_n, hd, hc, tstC, valC, k2, k3, g1, g2]))) | (refine ldD_ep ?_ ?_; (focus kernel_rfl); (try simp -implicitDefEqProofs [-loopQ_n, tstC, valC, k2, k3, g1, g2])))))
        simp [tstT, k3, g1, g2]
    · ((try simp -implicitDefEqProofs [-loopQ_n, tstC, valC, k2, k3, g1]) <;> (repeat' (first | ((first | refine condD_dec ?_ ?_ | refine guardD_dec ?_ ?_) <;> (intro hc; (try simp -implicitDefEqProofs [-loopQ_n, hc, tstC, valC, k2, k3, g1]))) | ((first | refine condD_intro ?_ ?_ | refine guardD_intro ?_ ?_) <;> (intro hd; have hc := hd; (try simp at hc) <;> (try simp -implicitDefEqProofs [-loopQ_n, hd, hc, tstC, valC, k2, k3, g1]))) | (refine ldD_ep ?_ ?_; (focus kernel_rfl); (try simp -implicitDefEqProofs [-loopQ_n, tstC, valC, k2, k3, g1])))))
      simp [tstT, k3, g1]
  by_cases k4 : t.kind = 4
  · ((try simp -implicitDefEqProofs [-loopQ_n, tstC, valC, k2, k3, k4]) <;> (repeat' (first | ((first | refine condD_dec ?_ ?_ | refine guardD_dec ?_ ?_) <;> (intro hc; (try simp -implicitDefEqProofs [-loopQ_n, hc, tstC, valC, k2, k3, k4]))) | ((first | refine condD_intro ?_ ?_ | refine guardD_intro ?_ ?_) <;> (intro hd; have hc := hd; (try simp at hc) <;> (try simp -implicitDefEqProofs [-loopQ_n, hd, hc, tstC, valC, k2, k3, k4]))) | ((first | (refine ldD_ep ?_ ?_; (focus kernel_rfl)) | (refine callS_mk ?_; (try simp -implicitDefEqProofs [-loopQ_n, tstC, valC, k2, k3, k4]); (first | refine callS_intro (hc2) (.inl rfl) ?_))); (try simp -implicitDefEqProofs [-loopQ_n, tstC, valC, k2, k3, k4])))))
    simp [tstT, k4]
  by_cases k5 : t.kind = 5
  · ((try simp -implicitDefEqProofs [-loopQ_n, tstC, valC, k2, k3, k4, k5]) <;> (repeat' (first | ((first | refine condD_dec ?_ ?_ | refine guardD_dec ?_ ?_) <;> (intro hc; (try simp -implicitDefEqProofs [-loopQ_n, hc, tstC, valC, k2, k3, k4, k5]))) | ((first | refine condD_intro ?_ ?_ | refine guardD_intro ?_ ?_) <;> (intro hd; have hc := hd; (try simp at hc) <;> (try simp -implicitDefEqProofs [-loopQ_n, hd, hc, tstC, valC, k2, k3, k4, k5]))) | ((first | (refine ldD_ep ?_ ?_; (focus kernel_rfl)) | (refine callS_mk ?_; (try simp -implicitDefEqProofs [-loopQ_n, tstC, valC, k2, k3, k4, k5]); (first | refine callS_intro (hc2) (.inl rfl) ?_))); (try simp -implicitDefEqProofs [-loopQ_n, tstC, valC, k2, k3, k4, k5])))))
    simp [tstT, k5]
  · ((try simp -implicitDefEqProofs [-loopQ_n, tstC, valC, k2, k3, k4, k5]) <;> (repeat' (first | ((first | refine condD_dec ?_ ?_ | refine guardD_dec ?_ ?_) <;> (intro hc; (try simp -implicitDefEqProofs [-loopQ_n, hc, tstC, valC, k2, k3, k4, k5]))) | ((first | refine condD_intro ?_ ?_ | refine guardD_intro ?_ ?_) <;> (intro hd; have hc := hd; (try simp at hc) <;> (try simp -implicitDefEqProofs [-loopQ_n, hd, hc, tstC, valC, k2, k3, k4, k5]))) | (refine ldD_ep ?_ ?_; (focus kernel_rfl); (try simp -implicitDefEqProofs [-loopQ_n, tstC, valC, k2, k3, k4, k5])))))
    simp [tstT, k2, k3, k4, k5]
set_option maxHeartbeats 4000000 in
theorem rtrue_pure (t : Tst) (v : Val) (hl : t.items.length ≤ 1000000) : Pure Tryz.prog 84 [.agg (tstC t), .agg (valC v)] (.bool (tstT t v)) := by
  have hc2 := rfind_pure t.items v hl
  have hi := idxV_ge t.items v
  simp only [valC] at hc2
  refine pure_of mixed Tryz.func84 rfl (by kernel_rfl) (of_decide_eq_true rfl) (by kernel_rfl) (vc_run ?_)
  by_cases k2 : t.kind = 2
  · by_cases e : v = t.v
    · ((try simp -implicitDefEqProofs [-loopQ_n, tstC, valC, k2, e]) <;> (repeat' (first | ((first | refine condD_dec ?_ ?_ | refine guardD_dec ?_ ?_) <;> (intro hc; (try simp -implicitDefEqProofs [-loopQ_n, hc, tstC, valC, k2, e]))) | ((first | refine condD_intro ?_ ?_ | refine guardD_intro ?_ ?_) <;> (intro hd; have hc := hd; (try simp at hc) <;> (try simp -implicitDefEqProofs [-loopQ_n, hd, hc, tstC, valC, k2, e]))) | (refine ldD_ep ?_ ?_; (focus kernel_rfl); (try simp -implicitDefEqProofs [-loopQ_n, tstC, valC, k2, e])))))
      simp [tstT, k2, e]
    · have hne := val_ne e
      ((try simp -implicitDefEqProofs [-loopQ_n, tstC, valC, k2, hne]) <;> (repeat' (first | ((first | refine condD_dec ?_ ?_ | refine guardD_dec ?_ ?_) <;> (intro hc; (try simp -implicitDefEqProofs [-loopQ_n, hc, tstC, valC, k2, hne]))) | ((first | refine condD_intro ?_ ?_ | refine guardD_intro ?_ ?_) <;> (intro hd; have hc := hd; (try simp at hc) <;> (try simp -implicitDefEqProofs [-loopQ_n, hd, hc, tstC, valC, k2, hne]))) | (refine ldD_ep ?_ ?_; (focus kernel_rfl); (try simp -implicitDefEqProofs [-loopQ_n, tstC, valC, k2, hne])))))
      simp only [tstT, k2, if_true, e, decide_false]
      simpa using hne
  by_cases k3 : t.kind = 3
  · by_cases g1 : t.low ≤ v.n
    · by_cases g2 : v.n ≤ t.high
      · ((try simp -implicitDefEqProofs [-loopQ_n, tstC, valC, k2, k3, g1, g2]) <;> (repeat' (first | ((first | refine condD_dec ?_ ?_ | refine guardD_dec ?_ ?_) <;> (intro hc; (try simp -implicitDefEqProofs [-loopQ_n, hc, tstC, valC, k2, k3, g1, g2]))) | ((first | refine condD_intro ?_ ?_ | refine guardD_intro ?_ ?_) <;> (intro hd; have hc := hd; (try simp at hc) <;> (try simp -implicitDefEqProofs [-loopQ_n, hd, hc, tstC, valC, k2, k3, g1, g2]))) | (refine ldD_ep ?_ ?_; (focus kernel_rfl); (try simp -implicitDefEqProofs [-loopQ_n, tstC, valC, k2, k3, g1, g2])))))
        simp [tstT, k3, g1, g2]
      · ((try simp -implicitDefEqProofs [-loopQ_n, tstC, valC, k2, k3, g1, g2]) <;> (repeat' (first | ((first | refine condD_dec ?_ ?_ | refine guardD_dec ?_ ?_) <;> (intro hc; (try simp -implicitDefEqProofs [-loopQ_n, hc, tstC, valC, k2, k3, g1, g2]))) | ((first | refine condD_intro ?_ ?_ | refine guardD_intro ?_ ?_) <;> (intro hd; have hc := hd; (try simp at hc) <;> (try simp -implicitDefEqProofs [-loopQ_n, hd, hc, tstC, valC, k2, k3, g1, g2]))) | (refine ldD_ep ?_ ?_; (focus kernel_rfl); (try simp -implicitDefEqProofs [-loopQ_n, tstC, valC, k2, k3, g1, g2])))))
        simp [tstT, k3, g1, g2]
    · ((try simp -implicitDefEqProofs [-loopQ_n, tstC, valC, k2, k3, g1]) <;> (repeat' (first | ((first | refine condD_dec ?_ ?_ | refine guardD_dec ?_ ?_) <;> (intro hc; (try simp -implicitDefEqProofs [-loopQ_n, hc, tstC, valC, k2, k3, g1]))) | ((first | refine condD_intro ?_ ?_ | refine guardD_intro ?_ ?_) <;> (intro hd; have hc := hd; (try simp at hc) <;> (try simp -implicitDefEqProofs [-loopQ_n, hd, hc, tstC, valC, k2, k3, g1]))) | (refine ldD_ep ?_ ?_; (focus kernel_rfl); (try simp -implicitDefEqProofs [-loopQ_n, tstC, valC, k2, k3, g1])))))
      simp [tstT, k3, g1]
  by_cases k4 : t.kind = 4
  · ((try simp -implicitDefEqProofs [-loopQ_n, tstC, valC, k2, k3, k4]) <;> (repeat' (first | ((first | refine condD_dec ?_ ?_ | refine guardD_dec ?_ ?_) <;> (intro hc; (try simp -implicitDefEqProofs [-loopQ_n, hc, tstC, valC, k2, k3, k4]))) | ((first | refine condD_intro ?_ ?_ | refine guardD_intro ?_ ?_) <;> (intro hd; have hc := hd; (try simp at hc) <;> (try simp -implicitDefEqProofs [-loopQ_n, hd, hc, tstC, valC, k2, k3, k4]))) | ((first | (refine ldD_ep ?_ ?_; (focus kernel_rfl)) | (refine callS_mk ?_; (try simp -implicitDefEqProofs [-loopQ_n, tstC, valC, k2, k3, k4]); (first | refine callS_intro (hc2) (.inl rfl) ?_))); (try simp -implicitDefEqProofs [-loopQ_n, tstC, valC, k2, k3, k4])))))
    simp [tstT, k4, hi]
  by_cases k5 : t.kind = 5
  · ((try simp -implicitDefEqProofs [-loopQ_n, tstC, valC, k2, k3, k4, k5]) <;> (repeat' (first | ((first | refine condD_dec ?_ ?_ | refine guardD_dec ?_ ?_) <;> (intro hc; (try simp -implicitDefEqProofs [-loopQ_n, hc, tstC, valC, k2, k3, k4, k5]))) | ((first | refine condD_intro ?_ ?_ | refine guardD_intro ?_ ?_) <;> (intro hd; have hc := hd; (try simp at hc) <;> (try simp -implicitDefEqProofs [-loopQ_n, hd, hc, tstC, valC, k2, k3, k4, k5]))) | ((first | (refine ldD_ep ?_ ?_; (focus kernel_rfl)) | (refine callS_mk ?_; (try simp -implicitDefEqProofs [-loopQ_n, tstC, valC, k2, k3, k4, k5]); (first | refine callS_intro (hc2) (.inl rfl) ?_))); (try simp -implicitDefEqProofs [-loopQ_n, tstC, valC, k2, k3, k4, k5])))))
    have : (idxV t.items v < 0) ↔ v ∉ t.items := by rw [← hi]; omega
    simp [tstT, k5, this]
  · ((try simp -implicitDefEqProofs [-loopQ_n, tstC, valC, k2, k3, k4, k5]) <;> (repeat' (first | ((first | refine condD_dec ?_ ?_ | refine guardD_dec ?_ ?_) <;> (intro hc; (try simp -implicitDefEqProofs [-loopQ_n, hc, tstC, valC, k2, k3, k4, k5]))) | ((first | refine condD_intro ?_ ?_ | refine guardD_intro ?_ ?_) <;> (intro hd; have hc := hd; (try simp at hc) <;> (try simp -implicitDefEqProofs [-loopQ_n, hd, hc, tstC, valC, k2, k3, k4, k5]))) | (refine ldD_ep ?_ ?_; (focus kernel_rfl); (try simp -implicitDefEqProofs [-loopQ_n, tstC, valC, k2, k3, k4, k5])))))
    simp [tstT, k2, k3, k4, k5]
end Go.Proofs.YthemglpccpjokaaGreat
