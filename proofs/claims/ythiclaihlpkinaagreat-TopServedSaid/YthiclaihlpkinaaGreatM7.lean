/- Several texts of the abstract machine, one behind the other. -/
import Derived.Test.YthiclaihlpkinaaGreatM6
import Derived.Test.YthiclaihlpkinaaGreatM4
import Derived.Test.YthiclaihlpkinaaGreatLib
import Derived.Test.YthiclaihlpkinaaGreatAbBase
set_option linter.unusedSimpArgs false
set_option linter.unusedVariables false
set_option linter.unnecessarySimpa false
set_option linter.unusedSectionVars false
set_option maxRecDepth 100000
namespace Go.Proofs.YthiclaihlpkinaaGreat
open Go.RowKit
variable [Glob]
theorem dvI_idx {p : Int → Bool} {l : List Int} {g : Nat} {caps : List AV} (hp : ∀ x ∈ l, Pure Tryz.prog g (.int .i64 x :: caps) (.bool (p x))) (hc : ∀ H k, caps.mapM (reify H (k + 5)) = some caps) (hf : refsL 0 caps = true) (hl : l.length ≤ 9223372036854775807) :
    Pure Tryz.prog 35 [.rs (rowsOf intC l), .fn g caps] (.int .i64 (idxOf p l)) := by
  refine pure_of mixed Tryz.func35 rfl (by kernel_rfl) (of_decide_eq_true rfl) (by kernel_rfl) (vc_run ?_)
  simp -implicitDefEqProofs
  refine loop_intro (σ := Nat) (fun i => ⟨[(0, .rs (rowsOf intC l)), (1, .fn g caps), (7, .int .i64 l.length), (8, .int .i64 i)], []⟩) (fun i => i ≤ l.length ∧ allF p (l.take i)) (fun i => l.length - i) 0 ⟨Nat.zero_le _, allF_nil⟩ ?_ ?_
  · refine weak_of 0 0 rfl rfl ?_ ?_ <;> simp [hf]
  · rintro i ⟨hi, hall⟩
    by_cases h : i < l.length
    · simp -implicitDefEqProofs [h, intC]
      have hc8 : ∀ H, caps.mapM (reify H 8) = some caps := fun H => hc H 3
      refine call_intro (hp l[i] (by simp)) (by simp -implicitDefEqProofs [hc8, intC]) (.inl rfl) ?_
      by_cases hpx : p l[i] = true
      · simp -implicitDefEqProofs [hpx]
        exact (idxOf_some p l i h hall hpx).symm
      · have hpx : p l[i] = false := by simpa using hpx
        simp -implicitDefEqProofs [hpx]
        refine ⟨i + 1, ⟨by omega, allF_succ hall h hpx⟩, by omega, weak_of 0 0 rfl rfl ?_ ?_⟩
        · simp [hf]
          exact (wrap_in (by omega) (by omega)).symm
        · simp
    · simp -implicitDefEqProofs [h]
      rw [idxOf_none p l (allF_all hall h)]
theorem dvI_any {p : Int → Bool} {l : List Int} {g : Nat} {caps : List AV} (hp : ∀ x ∈ l, Pure Tryz.prog g (.int .i64 x :: caps) (.bool (p x))) (hc : ∀ H k, caps.mapM (reify H (k + 5)) = some caps) (hf : refsL 0 caps = true) (hl : l.length ≤ 9223372036854775807) :
    Pure Tryz.prog 68 [.rs (rowsOf intC l), .fn g caps] (.bool (l.any p)) := by
  refine pure_of mixed Tryz.func68 rfl (by kernel_rfl) (of_decide_eq_true rfl) (by kernel_rfl) (vc_run ?_)
  simp -implicitDefEqProofs
  have hc7 : ∀ H, caps.mapM (reify H 7) = some caps := fun H => hc H 2
  refine call_intro (dvI_idx hp hc hf hl) (by simp -implicitDefEqProofs [hc7]) (.inl rfl) ?_
  simp -implicitDefEqProofs
  rw [← ge_idxOf]
def goodE (e : List Int) (i : Nat) : Bool := decide (0 ≤ e.getD i 0) && (decide (e.getD i 0 ≤ 1073741824) && (decide (i = 0) || decide (e.getD (i - 1) 0 < e.getD i 0)))
def goodTo (e : List Int) (i : Nat) : Bool := (List.range i).all (goodE e)
theorem goodTo_zero {e : List Int} : goodTo e 0 = true := rfl
theorem goodTo_succ {e : List Int} {i : Nat} (h : goodTo e i = true) (hg : goodE e i = true) : goodTo e (i + 1) = true := by
  unfold goodTo at *
  rw [List.range_succ, List.all_append, h]
  simp [hg]
def properO (e : List Int) : Bool := decide (2 ≤ e.length) && (decide (e.length ≤ 20) && goodTo e e.length)
def badC (n : Int) : Bool := decide (n < 0) || decide (1048576 < n)
def validO (e c : List Int) : Bool := properO e && (decide (c.length + 1 = e.length) && !c.any badC)
theorem goodE_at {e : List Int} {i : Nat} (h : i < e.length) : e.getD i 0 = e[i] := by simp [h]
theorem prop_false {e : List Int} {i : Nat} (h : i < e.length) (hg : goodE e i = false) : properO e = false := by
  have : goodTo e e.length = false := by
    unfold goodTo
    rw [List.all_eq_false]; exact ⟨i, by simpa using h, by simp [hg]⟩
  simp [properO, this]
set_option maxHeartbeats 4000000 in
theorem tproper_pure (e : List Int) : Pure Tryz.prog 75 [.rs (rowsOf intC e)] (.bool (properO e)) := by
  by_cases q1 : (e.length : Int) < 2
  · have : ¬ 2 ≤ e.length := by omega
    refine pure_of mixed Tryz.func75 rfl (by kernel_rfl) (of_decide_eq_true rfl) (by kernel_rfl) (vc_run ?_)
    ((try simp -implicitDefEqProofs [-loopQ_n, q1]) <;> (repeat' (first | ((first | refine condD_dec ?_ ?_ | refine guardD_dec ?_ ?_) <;> (intro hc; (try simp -implicitDefEqProofs [-loopQ_n, hc, q1]))) | ((first | refine condD_intro ?_ ?_ | refine guardD_intro ?_ ?_) <;> (intro hd; have hc := hd; (try simp at hc) <;> (try simp -implicitDefEqProofs [-loopQ_n, hd, hc, q1]))) | (refine ldD_ep ?_ ?_; (focus kernel_rfl); (try simp -implicitDefEqProofs [-loopQ_n, q1])))))
    simp [properO, this]
  by_cases q2 : (20 : Int) < e.length
  · have : ¬ e.length ≤ 20 := by omega
    refine pure_of mixed Tryz.func75 rfl (by kernel_rfl) (of_decide_eq_true rfl) (by kernel_rfl) (vc_run ?_)
    ((try simp -implicitDefEqProofs [-loopQ_n, q1, q2]) <;> (repeat' (first | ((first | refine condD_dec ?_ ?_ | refine guardD_dec ?_ ?_) <;> (intro hc; (try simp -implicitDefEqProofs [-loopQ_n, hc, q1, q2]))) | ((first | refine condD_intro ?_ ?_ | refine guardD_intro ?_ ?_) <;> (intro hd; have hc := hd; (try simp at hc) <;> (try simp -implicitDefEqProofs [-loopQ_n, hd, hc, q1, q2]))) | (refine ldD_ep ?_ ?_; (focus kernel_rfl); (try simp -implicitDefEqProofs [-loopQ_n, q1, q2])))))
    simp [properO, this]
  have p1 : 2 ≤ e.length := by omega
  have p2 : e.length ≤ 20 := by omega
  refine pure_of mixed Tryz.func75 rfl (by kernel_rfl) (of_decide_eq_true rfl) (by kernel_rfl) (vc_run ?_)
  ((try simp -implicitDefEqProofs [-loopQ_n, q1, q2]) <;> (repeat' (first | ((first | refine condD_dec ?_ ?_ | refine guardD_dec ?_ ?_) <;> (intro hc; (try simp -implicitDefEqProofs [-loopQ_n, hc, q1, q2]))) | ((first | refine condD_intro ?_ ?_ | refine guardD_intro ?_ ?_) <;> (intro hd; have hc := hd; (try simp at hc) <;> (try simp -implicitDefEqProofs [-loopQ_n, hd, hc, q1, q2]))) | (refine ldD_ep ?_ ?_; (focus kernel_rfl); (try simp -implicitDefEqProofs [-loopQ_n, q1, q2])))))
  refine loop_intro (σ := Nat) (fun i => ⟨[(0, .rs (rowsOf intC e)), (13, .rs (rowsOf intC e)), (14, .int .i64 e.length), (15, .int .i64 i)], []⟩) (fun i => i ≤ e.length ∧ goodTo e i = true) (fun i => e.length - i) 0 ⟨by omega, goodTo_zero⟩ ?_ ?_
  · refine weak_of 0 0 rfl rfl ?_ ?_ <;> simp
  rintro i ⟨hi, ha⟩
  by_cases h : i < e.length
  · have w1 : wrapI .i64 ((i : Int) + 1) = ((i + 1 : Nat) : Int) := by rw [wrap_in (by omega) (by omega)]; omega
    obtain ⟨x, hx⟩ : ∃ x, e[i] = x := ⟨_, rfl⟩
    have hgx : e.getD i 0 = x := by rw [goodE_at h, hx]
    by_cases c1 : x < 0
    · rw [prop_false h (by simp only [goodE, hgx]; simp; omega)]
      ((try simp -implicitDefEqProofs [-loopQ_n, h, hx, intC, c1]) <;> (repeat' (first | ((first | refine condD_dec ?_ ?_ | refine guardD_dec ?_ ?_) <;> (intro hc; (try simp -implicitDefEqProofs [-loopQ_n, hc, h, hx, intC, c1]))) | ((first | refine condD_intro ?_ ?_ | refine guardD_intro ?_ ?_) <;> (intro hd; have hc := hd; (try simp at hc) <;> (try simp -implicitDefEqProofs [-loopQ_n, hd, hc, h, hx, intC, c1]))) | (refine ldD_ep ?_ ?_; (focus kernel_rfl); (try simp -implicitDefEqProofs [-loopQ_n, h, hx, intC, c1])))))
    by_cases c2 : (1073741824 : Int) < x
    · rw [prop_false h (by simp only [goodE, hgx]; simp; omega)]
      ((try simp -implicitDefEqProofs [-loopQ_n, h, hx, intC, c1, c2]) <;> (repeat' (first | ((first | refine condD_dec ?_ ?_ | refine guardD_dec ?_ ?_) <;> (intro hc; (try simp -implicitDefEqProofs [-loopQ_n, hc, h, hx, intC, c1, c2]))) | ((first | refine condD_intro ?_ ?_ | refine guardD_intro ?_ ?_) <;> (intro hd; have hc := hd; (try simp at hc) <;> (try simp -implicitDefEqProofs [-loopQ_n, hd, hc, h, hx, intC, c1, c2]))) | (refine ldD_ep ?_ ?_; (focus kernel_rfl); (try simp -implicitDefEqProofs [-loopQ_n, h, hx, intC, c1, c2])))))
    by_cases c0 : i = 0
    · subst c0
      have w1 : wrapI .i64 1 = 1 := wrap_in (by omega) (by omega)
      ((try simp -implicitDefEqProofs [-loopQ_n, h, hx, intC, c1, c2, w1]) <;> (repeat' (first | ((first | refine condD_dec ?_ ?_ | refine guardD_dec ?_ ?_) <;> (intro hc; (try simp -implicitDefEqProofs [-loopQ_n, hc, h, hx, intC, c1, c2, w1]))) | ((first | refine condD_intro ?_ ?_ | refine guardD_intro ?_ ?_) <;> (intro hd; have hc := hd; (try simp at hc) <;> (try simp -implicitDefEqProofs [-loopQ_n, hd, hc, h, hx, intC, c1, c2, w1]))) | (refine ldD_ep ?_ ?_; (focus kernel_rfl); (try simp -implicitDefEqProofs [-loopQ_n, h, hx, intC, c1, c2, w1])))))
      refine loop_next 1 ⟨h, goodTo_succ ha (by simp only [goodE, hgx]; simp; omega)⟩ (by omega) (weak_of 0 0 rfl rfl ?_ ?_) <;> simp
    have c3 : 0 < i := by omega
    have e1 : wrapI .i64 ((i : Int) - 1) = ((i - 1 : Nat) : Int) := by rw [wrap_in (by omega) (by omega)]; omega
    have h2 : i - 1 < e.length := by omega
    obtain ⟨y, hy⟩ : ∃ y, e[i - 1] = y := ⟨_, rfl⟩
    have hgy : e.getD (i - 1) 0 = y := by rw [goodE_at h2, hy]
    by_cases c4 : x ≤ y
    · rw [prop_false h (by simp only [goodE, hgx, hgy]; simp [c0]; omega)]
      ((try simp -implicitDefEqProofs [-loopQ_n, h, hx, intC, c1, c2, c3, e1, h2, hy, c4]) <;> (repeat' (first | ((first | refine condD_dec ?_ ?_ | refine guardD_dec ?_ ?_) <;> (intro hc; (try simp -implicitDefEqProofs [-loopQ_n, hc, h, hx, intC, c1, c2, c3, e1, h2, hy, c4]))) | ((first | refine condD_intro ?_ ?_ | refine guardD_intro ?_ ?_) <;> (intro hd; have hc := hd; (try simp at hc) <;> (try simp -implicitDefEqProofs [-loopQ_n, hd, hc, h, hx, intC, c1, c2, c3, e1, h2, hy, c4]))) | (refine ldD_ep ?_ ?_; (focus kernel_rfl); (try simp -implicitDefEqProofs [-loopQ_n, h, hx, intC, c1, c2, c3, e1, h2, hy, c4])))))
    · ((try simp -implicitDefEqProofs [-loopQ_n, h, hx, intC, c1, c2, c3, e1, h2, hy, c4, w1]) <;> (repeat' (first | ((first | refine condD_dec ?_ ?_ | refine guardD_dec ?_ ?_) <;> (intro hc; (try simp -implicitDefEqProofs [-loopQ_n, hc, h, hx, intC, c1, c2, c3, e1, h2, hy, c4, w1]))) | ((first | refine condD_intro ?_ ?_ | refine guardD_intro ?_ ?_) <;> (intro hd; have hc := hd; (try simp at hc) <;> (try simp -implicitDefEqProofs [-loopQ_n, hd, hc, h, hx, intC, c1, c2, c3, e1, h2, hy, c4, w1]))) | (refine ldD_ep ?_ ?_; (focus kernel_rfl); (try simp -implicitDefEqProofs [-loopQ_n, h, hx, intC, c1, c2, c3, e1, h2, hy, c4, w1])))))
      refine loop_next (i + 1) ⟨h, goodTo_succ ha (by simp only [goodE, hgx, hgy]; simp [c0]; omega)⟩ (by omega) (weak_of 0 0 rfl rfl ?_ ?_) <;> simp
  · have : i = e.length := by omega
    subst this
    ((try simp -implicitDefEqProofs [-loopQ_n, h]) <;> (repeat' (first | ((first | refine condD_dec ?_ ?_ | refine guardD_dec ?_ ?_) <;> (intro hc; (try simp -implicitDefEqProofs [-loopQ_n, hc, h]))) | ((first | refine condD_intro ?_ ?_ | refine guardD_intro ?_ ?_) <;> (intro hd; have hc := hd; (try simp at hc) <;> (try simp -implicitDefEqProofs [-loopQ_n, hd, hc, h]))) | (refine ldD_ep ?_ ?_; (focus kernel_rfl); (try simp -implicitDefEqProofs [-loopQ_n, h])))))
    simp [properO, p1, p2, ha]
theorem valid1_pure (n : Int) : Pure Tryz.prog 76 [.int .i64 n] (.bool (badC n)) := by
  refine pure_of mixed Tryz.func76 rfl (by kernel_rfl) (of_decide_eq_true rfl) (by kernel_rfl) (vc_run ?_)
  ((try simp -implicitDefEqProofs [-loopQ_n]) <;> (repeat' (first | ((first | refine condD_dec ?_ ?_ | refine guardD_dec ?_ ?_) <;> (intro hc; (try simp -implicitDefEqProofs [-loopQ_n, hc]))) | ((first | refine condD_intro ?_ ?_ | refine guardD_intro ?_ ?_) <;> (intro hd; have hc := hd; (try simp at hc) <;> (try simp -implicitDefEqProofs [-loopQ_n, hd, hc]))) | (refine ldD_ep ?_ ?_; (focus kernel_rfl); (try simp -implicitDefEqProofs [-loopQ_n])))))
  all_goals simp [badC]
  all_goals omega
set_option maxHeartbeats 4000000 in
theorem tvalid_pure (e c : List Int) (hc : c.length ≤ 4611686018427387904) : Pure Tryz.prog 48 [.agg [.rs (rowsOf intC e), .rs (rowsOf intC c)]] (.bool (validO e c)) := by
  have h1 := tproper_pure e
  have hA := dvI_any (p := badC) (l := c) (g := 76) (caps := []) (fun x _ => valid1_pure x) (fun H k => rfl) rfl (by omega)
  unfold validO
  by_cases q : properO e = true
  rotate_left
  · have q : properO e = false := by simpa using q
    rw [q] at h1 ⊢
    refine pure_of mixed Tryz.func48 rfl (by kernel_rfl) (of_decide_eq_true rfl) (by kernel_rfl) (vc_run ?_)
    ((try simp -implicitDefEqProofs [-loopQ_n]) <;> (repeat' (first | ((first | refine condD_dec ?_ ?_ | refine guardD_dec ?_ ?_) <;> (intro hc; (try simp -implicitDefEqProofs [-loopQ_n, hc]))) | ((first | refine condD_intro ?_ ?_ | refine guardD_intro ?_ ?_) <;> (intro hd; have hc := hd; (try simp at hc) <;> (try simp -implicitDefEqProofs [-loopQ_n, hd, hc]))) | ((first | (refine ldD_ep ?_ ?_; (focus kernel_rfl)) | (refine callS_mk ?_; (try simp -implicitDefEqProofs [-loopQ_n]); (first | refine callS_intro (h1) (.inl rfl) ?_))); (try simp -implicitDefEqProofs [-loopQ_n])))))
  rw [q] at h1 ⊢
  have hp : 2 ≤ e.length ∧ e.length ≤ 20 := by simp only [properO, Bool.and_eq_true, decide_eq_true_eq] at q; omega
  have w1 : wrapI .i64 ((e.length : Int) - 1) = (e.length : Int) - 1 := wrap_in (by omega) (by omega)
  by_cases r : c.length + 1 = e.length
  · have r2 : (c.length : Int) = e.length - 1 := by omega
    refine pure_of mixed Tryz.func48 rfl (by kernel_rfl) (of_decide_eq_true rfl) (by kernel_rfl) (vc_run ?_)
    ((try simp -implicitDefEqProofs [-loopQ_n, w1, r2]) <;> (repeat' (first | ((first | refine condD_dec ?_ ?_ | refine guardD_dec ?_ ?_) <;> (intro hc; (try simp -implicitDefEqProofs [-loopQ_n, hc, w1, r2]))) | ((first | refine condD_intro ?_ ?_ | refine guardD_intro ?_ ?_) <;> (intro hd; have hc := hd; (try simp at hc) <;> (try simp -implicitDefEqProofs [-loopQ_n, hd, hc, w1, r2]))) | ((first | (refine ldD_ep ?_ ?_; (focus kernel_rfl)) | (refine callS_mk ?_; (try simp -implicitDefEqProofs [-loopQ_n, w1, r2]); (first | refine callS_intro (h1) (.inl rfl) ?_ | refine callS_intro (hA) (.inl rfl) ?_))); (try simp -implicitDefEqProofs [-loopQ_n, w1, r2])))))
    all_goals simp [r]
  · have r2 : ¬ (c.length : Int) = e.length - 1 := by omega
    clear hA
    refine pure_of mixed Tryz.func48 rfl (by kernel_rfl) (of_decide_eq_true rfl) (by kernel_rfl) (vc_run ?_)
    ((try simp -implicitDefEqProofs [-loopQ_n, w1, r2]) <;> (repeat' (first | ((first | refine condD_dec ?_ ?_ | refine guardD_dec ?_ ?_) <;> (intro hc; (try simp -implicitDefEqProofs [-loopQ_n, hc, w1, r2]))) | ((first | refine condD_intro ?_ ?_ | refine guardD_intro ?_ ?_) <;> (intro hd; have hc := hd; (try simp at hc) <;> (try simp -implicitDefEqProofs [-loopQ_n, hd, hc, w1, r2]))) | ((first | (refine ldD_ep ?_ ?_; (focus kernel_rfl)) | (refine callS_mk ?_; (try simp -implicitDefEqProofs [-loopQ_n, w1, r2]); (first | refine callS_intro (h1) (.inl rfl) ?_))); (try simp -implicitDefEqProofs [-loopQ_n, w1, r2])))))
    all_goals simp [r]
theorem sum_take_succ {c : List Int} {i : Nat} (h : i < c.length) : (c.take (i + 1)).sum = (c.take i).sum + c[i] := by
  rw [List.take_succ_eq_append_getElem h, List.sum_append]; simp
theorem sum_bd {M : Int} : ∀ (c : List Int), (∀ x ∈ c, 0 ≤ x ∧ x ≤ M) → 0 ≤ c.sum ∧ c.sum ≤ c.length * M := by
  intro c
  induction c with
  | nil => intro _; simp
  | cons x c ih =>
    intro h
    have h1 := ih fun y hy => h y (by simp [hy])
    have h2 := h x (by simp)
    simp only [List.sum_cons, List.length_cons]
    push_cast
    rw [Int.add_mul, Int.one_mul]
    omega
theorem validO_bd {e c : List Int} (h : validO e c = true) : c.length + 1 = e.length ∧ e.length ≤ 20 ∧ (∀ x ∈ c, 0 ≤ x ∧ x ≤ 1048576) ∧ (∀ x ∈ e, 0 ≤ x ∧ x ≤ 1073741824) ∧ ∀ i, i + 1 < e.length → e.getD i 0 < e.getD (i + 1) 0 := by
  simp only [validO, properO, goodTo, Bool.and_eq_true, decide_eq_true_eq, Bool.not_eq_true', List.any_eq_false, List.all_eq_true, List.mem_range] at h
  obtain ⟨⟨h1, h2, h3⟩, h4, h5⟩ := h
  refine ⟨h4, h2, fun x hx => ?_, fun x hx => ?_, fun i hi => ?_⟩
  · have := h5 x hx
    simp [badC] at this
    omega
  · obtain ⟨i, hi, rfl⟩ := List.getElem_of_mem hx
    have := h3 i hi
    simp only [goodE, goodE_at hi, Bool.and_eq_true, decide_eq_true_eq] at this
    omega
  · have := h3 (i + 1) hi
    simp [goodE] at this
    simp
    omega
set_option maxHeartbeats 4000000 in
theorem ttotal_pure (e c : List Int) (hc : c.length ≤ 1000000) (hb : ∀ x ∈ c, 0 ≤ x ∧ x ≤ 1048576) : Pure Tryz.prog 49 [.agg [.rs (rowsOf intC e), .rs (rowsOf intC c)]] (.int .i64 c.sum) := by
  have hbd : ∀ i, 0 ≤ (c.take i).sum ∧ (c.take i).sum ≤ 1048576000000 := fun i => by
    have h1 := sum_bd (M := 1048576) (c.take i) fun x hx => hb x (List.mem_of_mem_take hx)
    have : ((c.take i).length : Int) ≤ 1000000 := by rw [List.length_take]; omega
    have h3 : ((c.take i).length : Int) * 1048576 ≤ 1000000 * 1048576 := by omega
    omega
  refine pure_of mixed Tryz.func49 rfl (by kernel_rfl) (of_decide_eq_true rfl) (by kernel_rfl) (vc_run ?_)
  ((try simp -implicitDefEqProofs [-loopQ_n]) <;> (repeat' (first | ((first | refine condD_dec ?_ ?_ | refine guardD_dec ?_ ?_) <;> (intro hc; (try simp -implicitDefEqProofs [-loopQ_n, hc]))) | ((first | refine condD_intro ?_ ?_ | refine guardD_intro ?_ ?_) <;> (intro hd; have hc := hd; (try simp at hc) <;> (try simp -implicitDefEqProofs [-loopQ_n, hd, hc]))) | (refine ldD_ep ?_ ?_; (focus kernel_rfl); (try simp -implicitDefEqProofs [-loopQ_n])))))
  refine loop_intro (σ := Nat) (fun i => ⟨[(3, .int .i64 (c.take i).sum), (7, .rs (rowsOf intC c)), (8, .int .i64 c.length), (9, .int .i64 i)], []⟩) (fun i => i ≤ c.length) (fun i => c.length - i) 0 (by simp) ?_ ?_
  · refine weak_of 0 0 rfl rfl ?_ ?_ <;> simp
  rintro i hi
  by_cases h : i < c.length
  · have w1 : wrapI .i64 ((i : Int) + 1) = ((i + 1 : Nat) : Int) := by rw [wrap_in (by omega) (by omega)]; omega
    obtain ⟨x, hx⟩ : ∃ x, c[i] = x := ⟨_, rfl⟩
    have w2 : wrapI .i64 ((c.take i).sum + x) = (c.take (i + 1)).sum := by
      have h1 := hbd (i + 1)
      have h2 := sum_take_succ h
      rw [hx] at h2
      rw [← h2]
      exact wrap_in (by omega) (by omega)
    ((try simp -implicitDefEqProofs [-loopQ_n, h, hx, intC, w1, w2]) <;> (repeat' (first | ((first | refine condD_dec ?_ ?_ | refine guardD_dec ?_ ?_) <;> (intro hc; (try simp -implicitDefEqProofs [-loopQ_n, hc, h, hx, intC, w1, w2]))) | ((first | refine condD_intro ?_ ?_ | refine guardD_intro ?_ ?_) <;> (intro hd; have hc := hd; (try simp at hc) <;> (try simp -implicitDefEqProofs [-loopQ_n, hd, hc, h, hx, intC, w1, w2]))) | (refine ldD_ep ?_ ?_; (focus kernel_rfl); (try simp -implicitDefEqProofs [-loopQ_n, h, hx, intC, w1, w2])))))
    refine loop_next (i + 1) h (by omega) (weak_of 0 0 rfl rfl ?_ ?_) <;> simp
  · have : i = c.length := by omega
    subst this
    ((try simp -implicitDefEqProofs [-loopQ_n, h]) <;> (repeat' (first | ((first | refine condD_dec ?_ ?_ | refine guardD_dec ?_ ?_) <;> (intro hc; (try simp -implicitDefEqProofs [-loopQ_n, hc, h]))) | ((first | refine condD_intro ?_ ?_ | refine guardD_intro ?_ ?_) <;> (intro hd; have hc := hd; (try simp at hc) <;> (try simp -implicitDefEqProofs [-loopQ_n, hd, hc, h]))) | (refine ldD_ep ?_ ?_; (focus kernel_rfl); (try simp -implicitDefEqProofs [-loopQ_n, h])))))
    all_goals simp
def totO (e c : List Int) : AV := if validO e c = true then .tup [.int .i64 c.sum, .int .i64 0] else .tup [.int .i64 0, .int .i64 1]
theorem tTotal_pure (e c : List Int) (hc : c.length ≤ 1000000) : Pure Tryz.prog 17 [.agg [.rs (rowsOf intC e), .rs (rowsOf intC c)]] (totO e c) := by
  have h1 := tvalid_pure e c (by omega)
  unfold totO
  by_cases q : validO e c = true
  · rw [if_pos q]
    have h2 := ttotal_pure e c hc (validO_bd q).2.2.1
    rw [q] at h1
    refine pure_of mixed Tryz.func17 rfl (by kernel_rfl) (of_decide_eq_true rfl) (by kernel_rfl) (vc_run ?_)
    ((try simp -implicitDefEqProofs [-loopQ_n]) <;> (repeat' (first | ((first | refine condD_dec ?_ ?_ | refine guardD_dec ?_ ?_) <;> (intro hc; (try simp -implicitDefEqProofs [-loopQ_n, hc]))) | ((first | refine condD_intro ?_ ?_ | refine guardD_intro ?_ ?_) <;> (intro hd; have hc := hd; (try simp at hc) <;> (try simp -implicitDefEqProofs [-loopQ_n, hd, hc]))) | ((first | (refine ldD_ep ?_ ?_; (focus kernel_rfl)) | (refine callS_mk ?_; (try simp -implicitDefEqProofs [-loopQ_n]); (first | refine callS_intro (h1) (.inl rfl) ?_ | refine callS_intro (h2) (.inl rfl) ?_))); (try simp -implicitDefEqProofs [-loopQ_n])))))
  · rw [if_neg q]
    have q : validO e c = false := by simpa using q
    rw [q] at h1
    refine pure_of mixed Tryz.func17 rfl (by kernel_rfl) (of_decide_eq_true rfl) (by kernel_rfl) (vc_run ?_)
    ((try simp -implicitDefEqProofs [-loopQ_n]) <;> (repeat' (first | ((first | refine condD_dec ?_ ?_ | refine guardD_dec ?_ ?_) <;> (intro hc; (try simp -implicitDefEqProofs [-loopQ_n, hc]))) | ((first | refine condD_intro ?_ ?_ | refine guardD_intro ?_ ?_) <;> (intro hd; have hc := hd; (try simp at hc) <;> (try simp -implicitDefEqProofs [-loopQ_n, hd, hc]))) | ((first | (refine ldD_ep ?_ ?_; (focus kernel_rfl)) | (refine callS_mk ?_; (try simp -implicitDefEqProofs [-loopQ_n]); (first | refine callS_intro (h1) (.inl rfl) ?_))); (try simp -implicitDefEqProofs [-loopQ_n])))))
set_option maxHeartbeats 4000000 in
theorem tsample_pure (e c : List Int) (n : Int) (hv : validO e c = true) (h0 : 0 ≤ n) (h1 : n < c.sum) : Pure Tryz.prog 19 [.agg [.rs (rowsOf intC e), .rs (rowsOf intC c)], .int .i64 n] (.tup [.int .i64 (smpO e c n), .int .i64 0]) := by
  obtain ⟨v1, v2, v3, v4, v5⟩ := validO_bd hv
  have k1 := tvalid_pure e c (by omega)
  rw [hv] at k1
  have k2 := ttotal_pure e c (by omega) v3
  have g0 : ¬ n < 0 := by omega
  have g1 : ¬ c.sum ≤ n := by omega
  have hsb := (sum_bd (M := 1048576) c v3).2
  have hsb2 : (c.length : Int) * 1048576 ≤ 20 * 1048576 := by omega
  refine pure_of mixed Tryz.func19 rfl (by kernel_rfl) (of_decide_eq_true rfl) (by kernel_rfl) (vc_run ?_)
  ((try simp -implicitDefEqProofs [-loopQ_n, g0, g1]) <;> (repeat' (first | ((first | refine condD_dec ?_ ?_ | refine guardD_dec ?_ ?_) <;> (intro hc; (try simp -implicitDefEqProofs [-loopQ_n, hc, g0, g1]))) | ((first | refine condD_intro ?_ ?_ | refine guardD_intro ?_ ?_) <;> (intro hd; have hc := hd; (try simp at hc) <;> (try simp -implicitDefEqProofs [-loopQ_n, hd, hc, g0, g1]))) | ((first | (refine ldD_ep ?_ ?_; (focus kernel_rfl)) | (refine callS_mk ?_; (try simp -implicitDefEqProofs [-loopQ_n, g0, g1]); (first | refine callS_intro (k1) (.inl rfl) ?_ | refine callS_intro (k2) (.inl rfl) ?_))); (try simp -implicitDefEqProofs [-loopQ_n, g0, g1])))))
  refine loop_intro (σ := Nat × Int) (fun p => ⟨[(1, .int .i64 p.2), (2, .op 0 0), (6, .int .i64 p.1)], [.box 24 [.rs (rowsOf intC e), .rs (rowsOf intC c)]]⟩) (fun p => p.1 ≤ c.length ∧ 0 ≤ p.2 ∧ p.2 < (c.drop p.1).sum ∧ p.2 ≤ n ∧ locH c n = ((locH (c.drop p.1) p.2).1 + p.1, (locH (c.drop p.1) p.2).2)) (fun p => c.length - p.1) (0, n) (by simp; omega) ?_ ?_
  · refine weak_of 1 0 rfl rfl ?_ ?_ <;> simp
  rintro ⟨i, m⟩ ⟨hi, hm0, hm1, hmn, hloc⟩
  simp only at hi hm0 hm1 hmn hloc
  have h : i < c.length := by
    rcases Nat.lt_or_ge i c.length with h | h
    · exact h
    · rw [List.drop_of_length_le h] at hm1; simp at hm1; omega
  have w1 : wrapI .i64 ((i : Int) + 1) = ((i + 1 : Nat) : Int) := by rw [wrap_in (by omega) (by omega)]; omega
  obtain ⟨x, hx⟩ : ∃ x, c[i] = x := ⟨_, rfl⟩
  have hxb := v3 x (by rw [← hx]; exact List.getElem_mem h)
  rw [List.drop_eq_getElem_cons h, hx] at hm1 hloc
  simp only [List.sum_cons] at hm1
  by_cases q : x ≤ m
  · have w2 : wrapI .i64 (m - x) = m - x := wrap_in (by omega) (by omega)
    rw [locH, if_pos q] at hloc
    ((try simp -implicitDefEqProofs [-loopQ_n, h, hx, intC, q, w1, w2]) <;> (repeat' (first | ((first | refine condD_dec ?_ ?_ | refine guardD_dec ?_ ?_) <;> (intro hc; (try simp -implicitDefEqProofs [-loopQ_n, hc, h, hx, intC, q, w1, w2]))) | ((first | refine condD_intro ?_ ?_ | refine guardD_intro ?_ ?_) <;> (intro hd; have hc := hd; (try simp at hc) <;> (try simp -implicitDefEqProofs [-loopQ_n, hd, hc, h, hx, intC, q, w1, w2]))) | (refine ldD_ep ?_ ?_; (focus kernel_rfl); (try simp -implicitDefEqProofs [-loopQ_n, h, hx, intC, q, w1, w2])))))
    refine loop_next (i + 1, m - x) ⟨by simp only; omega, by simp only; omega, by simp only; omega, by simp only; omega, by simp only [hloc]; rw [Nat.add_assoc, Nat.add_comm 1 i]⟩ (by simp only; omega) (weak_of 1 0 rfl rfl ?_ ?_) <;> simp
  · rw [locH, if_neg q] at hloc
    simp only [Nat.zero_add] at hloc
    have he1 : i < e.length := by omega
    have he2 : i + 1 < e.length := by omega
    obtain ⟨y, hy⟩ : ∃ y, e[i] = y := ⟨_, rfl⟩
    obtain ⟨z, hz⟩ : ∃ z, e[i + 1] = z := ⟨_, rfl⟩
    have hgy : e.getD i 0 = y := by rw [goodE_at he1, hy]
    have hgz : e.getD (i + 1) 0 = z := by rw [goodE_at he2, hz]
    have hyz := v5 i he2
    rw [hgy, hgz] at hyz
    have hyb := v4 y (by rw [← hy]; exact List.getElem_mem he1)
    have hzb := v4 z (by rw [← hz]; exact List.getElem_mem he2)
    have hs : smpO e c n = y + (m * (z - y)).tdiv x := by
      unfold smpO
      rw [hloc]
      simp only [hgy, hgz, goodE_at h, hx]
    have hxp : 0 < x := by omega
    have hmz : 0 ≤ m * (z - y) ∧ m * (z - y) ≤ 1048576 * 1073741824 := ⟨Int.mul_nonneg hm0 (by omega), Int.le_trans (Int.mul_le_mul_of_nonneg_right (show m ≤ 1048576 by omega) (by omega)) (Int.mul_le_mul_of_nonneg_left (by omega) (by omega))⟩
    have htd := tdiv_between (x := m) (d := z - y) (c := x) hm0 (by omega) (by omega)
    have w2 : wrapI .i64 (z - y) = z - y := wrap_in (by omega) (by omega)
    have w3 : wrapI .i64 (m * (z - y)) = m * (z - y) := wrap_in (by omega) (by omega)
    have w4 : wrapI .i64 ((m * (z - y)).tdiv x) = (m * (z - y)).tdiv x := wrap_in (by omega) (by omega)
    have w5 : wrapI .i64 (y + (m * (z - y)).tdiv x) = y + (m * (z - y)).tdiv x := wrap_in (by omega) (by omega)
    have hx0 : ¬ x = 0 := by omega
    have t1 : ((i : Int) + 1).toNat = i + 1 := by omega
    have t2 : (0 : Int) ≤ (i : Int) + 1 := by omega
    have t3 : (i : Int) + 1 < e.length := by omega
    ((try simp -implicitDefEqProofs [-loopQ_n, h, hx, intC, q, w1, he1, he2, hy, hz, w2, w3, w4, w5, hx0, t1, t2, t3, hs]) <;> (repeat' (first | ((first | refine condD_dec ?_ ?_ | refine guardD_dec ?_ ?_) <;> (intro hc; (try simp -implicitDefEqProofs [-loopQ_n, hc, h, hx, intC, q, w1, he1, he2, hy, hz, w2, w3, w4, w5, hx0, t1, t2, t3, hs]))) | ((first | refine condD_intro ?_ ?_ | refine guardD_intro ?_ ?_) <;> (intro hd; have hc := hd; (try simp at hc) <;> (try simp -implicitDefEqProofs [-loopQ_n, hd, hc, h, hx, intC, q, w1, he1, he2, hy, hz, w2, w3, w4, w5, hx0, t1, t2, t3, hs]))) | (refine ldD_ep ?_ ?_; (focus kernel_rfl); (try simp -implicitDefEqProofs [-loopQ_n, h, hx, intC, q, w1, he1, he2, hy, hz, w2, w3, w4, w5, hx0, t1, t2, t3, hs])))))
end Go.Proofs.YthiclaihlpkinaaGreat
namespace Go.Proofs.YthiclaihlpkinaaGreat
open Go.RowKit
variable [Glob]
def cuC (x : Cu) : List AV := [.int .i64 x.a, .int .i64 x.s, .int .i64 x.st, .int .i64 x.en]
theorem cu_snoc {l : List Cu} {x : Cu} : rowsOf cuC l ++ [[.int .i64 x.a, .int .i64 x.s, .int .i64 x.st, .int .i64 x.en]] = rowsOf cuC (l ++ [x]) := by simp [rowsOf, cuC]
theorem cu_refs {m : Nat} {l : List Cu} : refsR m (rowsOf cuC l) = true := rowsOf_refs fun x => by simp [cuC, refs]
theorem cu_reify {H : List Blk} {n : Nat} {l : List Cu} : (rowsOf cuC l).mapM (fun row => row.mapM (reify H (n + 1))) = some (rowsOf cuC l) := rowsOf_reify fun x => by simp [cuC, reify]
theorem ni_refs {m : Nat} {l : List Int} : refsR m (rowsOf intC l) = true := rowsOf_refs fun x => by simp [intC, refs]
theorem ni_reify {H : List Blk} {n : Nat} {l : List Int} : (rowsOf intC l).mapM (fun row => row.mapM (reify H (n + 1))) = some (rowsOf intC l) := rowsOf_reify fun x => by simp [intC, reify]
theorem entry_pure (n : Int) : Pure Tryz.prog 18 [.int .i64 n] (.bool (decide (0 ≤ n ∧ n ≤ 1048576))) := by
  refine pure_of mixed Tryz.func18 rfl (by kernel_rfl) (of_decide_eq_true rfl) (by kernel_rfl) (vc_run ?_)
  by_cases c1 : 0 ≤ n
  · by_cases c2 : n ≤ 1048576
    · ((try simp -implicitDefEqProofs [-loopQ_n, c1, c2]) <;> (repeat' (first | ((first | refine condD_dec ?_ ?_ | refine guardD_dec ?_ ?_) <;> (intro hc; (try simp -implicitDefEqProofs [-loopQ_n, hc, c1, c2]))) | ((first | refine condD_intro ?_ ?_ | refine guardD_intro ?_ ?_) <;> (intro hd; have hc := hd; (try simp at hc) <;> (try simp -implicitDefEqProofs [-loopQ_n, hd, hc, c1, c2]))) | (refine ldD_ep ?_ ?_; (focus kernel_rfl); (try simp -implicitDefEqProofs [-loopQ_n, c1, c2])))))
    · ((try simp -implicitDefEqProofs [-loopQ_n, c1, c2]) <;> (repeat' (first | ((first | refine condD_dec ?_ ?_ | refine guardD_dec ?_ ?_) <;> (intro hc; (try simp -implicitDefEqProofs [-loopQ_n, hc, c1, c2]))) | ((first | refine condD_intro ?_ ?_ | refine guardD_intro ?_ ?_) <;> (intro hd; have hc := hd; (try simp at hc) <;> (try simp -implicitDefEqProofs [-loopQ_n, hd, hc, c1, c2]))) | (refine ldD_ep ?_ ?_; (focus kernel_rfl); (try simp -implicitDefEqProofs [-loopQ_n, c1, c2])))))
  · ((try simp -implicitDefEqProofs [-loopQ_n, c1]) <;> (repeat' (first | ((first | refine condD_dec ?_ ?_ | refine guardD_dec ?_ ?_) <;> (intro hc; (try simp -implicitDefEqProofs [-loopQ_n, hc, c1]))) | ((first | refine condD_intro ?_ ?_ | refine guardD_intro ?_ ?_) <;> (intro hd; have hc := hd; (try simp at hc) <;> (try simp -implicitDefEqProofs [-loopQ_n, hd, hc, c1]))) | (refine ldD_ep ?_ ?_; (focus kernel_rfl); (try simp -implicitDefEqProofs [-loopQ_n, c1])))))
set_option maxHeartbeats 4000000 in
theorem random_pure (s n : Int) (hs : 0 ≤ s ∧ s ≤ 1048576) (hn : 0 ≤ n ∧ n ≤ 100000) : Pure Tryz.prog 20 [.int .i64 s, .int .i64 n] (.int .i64 (rndO s n)) := by
  have w1 : wrapI .i64 (s + 1) = s + 1 := wrap_in (by omega) (by omega)
  have w2 : wrapI .i64 (48271 * (s + 1)) = 48271 * (s + 1) := wrap_in (by omega) (by omega)
  have w3 : wrapI .i64 (n + 1) = n + 1 := wrap_in (by omega) (by omega)
  have w4 : wrapI .i64 (69621 * (n + 1)) = 69621 * (n + 1) := wrap_in (by omega) (by omega)
  have w5 : wrapI .i64 (48271 * (s + 1) + 69621 * (n + 1)) = 48271 * (s + 1) + 69621 * (n + 1) := wrap_in (by omega) (by omega)
  have e0 : (48271 * (s + 1) + 69621 * (n + 1)).tmod 2147483647 = rnd0 s n := rfl
  have hr0 := rnd0_rng hs.1 hn.1
  generalize hR : rnd0 s n = r0 at *
  have hres : rndO s n = rndN 3 r0 := by rw [← hR]; rfl
  rw [hres]
  refine pure_of mixed Tryz.func20 rfl (by kernel_rfl) (of_decide_eq_true rfl) (by kernel_rfl) (vc_run ?_)
  ((try simp -implicitDefEqProofs [-loopQ_n, w1, w2, w3, w4, w5, e0]) <;> (repeat' (first | ((first | refine condD_dec ?_ ?_ | refine guardD_dec ?_ ?_) <;> (intro hc; (try simp -implicitDefEqProofs [-loopQ_n, hc, w1, w2, w3, w4, w5, e0]))) | ((first | refine condD_intro ?_ ?_ | refine guardD_intro ?_ ?_) <;> (intro hd; have hc := hd; (try simp at hc) <;> (try simp -implicitDefEqProofs [-loopQ_n, hd, hc, w1, w2, w3, w4, w5, e0]))) | (refine ldD_ep ?_ ?_; (focus kernel_rfl); (try simp -implicitDefEqProofs [-loopQ_n, w1, w2, w3, w4, w5, e0])))))
  refine loop_intro (σ := Nat) (fun i => ⟨[(5, .int .i64 (rndN i r0)), (14, .int .i64 i)], []⟩) (fun i => i ≤ 3) (fun i => 3 - i) 0 (by simp) ?_ ?_
  · refine weak_of 0 0 rfl rfl ?_ ?_ <;> simp [rndN]
  rintro i hi
  by_cases h : i < 3
  · have h2 : (i : Int) < 3 := by omega
    have v1 : wrapI .i64 ((i : Int) + 1) = ((i + 1 : Nat) : Int) := by rw [wrap_in (by omega) (by omega)]; omega
    have hb := rndN_rng hr0 i
    have e1 : rndN (i + 1) r0 = (16807 * rndN i r0 + 12345).tmod 2147483647 := rfl
    generalize rndN i r0 = r at *
    have v2 : wrapI .i64 (16807 * r) = 16807 * r := wrap_in (by omega) (by omega)
    have v3 : wrapI .i64 (16807 * r + 12345) = 16807 * r + 12345 := wrap_in (by omega) (by omega)
    ((try simp -implicitDefEqProofs [-loopQ_n, h, h2, v1, v2, v3]) <;> (repeat' (first | ((first | refine condD_dec ?_ ?_ | refine guardD_dec ?_ ?_) <;> (intro hc; (try simp -implicitDefEqProofs [-loopQ_n, hc, h, h2, v1, v2, v3]))) | ((first | refine condD_intro ?_ ?_ | refine guardD_intro ?_ ?_) <;> (intro hd; have hc := hd; (try simp at hc) <;> (try simp -implicitDefEqProofs [-loopQ_n, hd, hc, h, h2, v1, v2, v3]))) | (refine ldD_ep ?_ ?_; (focus kernel_rfl); (try simp -implicitDefEqProofs [-loopQ_n, h, h2, v1, v2, v3])))))
    refine loop_next (i + 1) h (by omega) (weak_of 0 0 rfl rfl ?_ ?_) <;> simp [e1]
  · have : i = 3 := by omega
    subst this
    ((try simp -implicitDefEqProofs [-loopQ_n, h]) <;> (repeat' (first | ((first | refine condD_dec ?_ ?_ | refine guardD_dec ?_ ?_) <;> (intro hc; (try simp -implicitDefEqProofs [-loopQ_n, hc, h]))) | ((first | refine condD_intro ?_ ?_ | refine guardD_intro ?_ ?_) <;> (intro hd; have hc := hd; (try simp at hc) <;> (try simp -implicitDefEqProofs [-loopQ_n, hd, hc, h]))) | (refine ldD_ep ?_ ?_; (focus kernel_rfl); (try simp -implicitDefEqProofs [-loopQ_n, h])))))
def faO (e c : List Int) (seed : Int) (k : Nat) : Int := smpO e c ((rndO seed (2 * (k : Int))).tmod c.sum)
def fsO (e c : List Int) (seed : Int) (k : Nat) : Int := smpO e c ((rndO seed (2 * (k : Int) + 1)).tmod c.sum)
def custR (e c e2 c2 : List Int) (seed : Int) (n : Nat) : List Cu × Int :=
  if validO e c = true ∧ validO e2 c2 = true then (if 0 ≤ seed ∧ seed ≤ 1048576 then (if c.sum = 0 ∨ c2.sum = 0 then ([], 10) else (custL (faO e c seed) (fsO e2 c2 seed) n, 0)) else ([], 2)) else ([], 1)
def cusA (r : List Cu × Int) : AV := .tup [.rs (rowsOf cuC r.1), .int .i64 r.2]
theorem smp_ok {e c : List Int} {x : Int} (hv : validO e c = true) (hs : c.sum ≠ 0) (hx : 0 ≤ x) : (0 ≤ x.tmod c.sum ∧ x.tmod c.sum < c.sum) ∧ 0 ≤ smpO e c (x.tmod c.sum) ∧ smpO e c (x.tmod c.sum) ≤ 1073741824 := by
  obtain ⟨v1, v2, v3, v4, v5⟩ := validO_bd hv
  have hb := sum_bd (M := 1048576) c v3
  have hr := tmod_rng (m := c.sum) hx (by omega)
  exact ⟨hr, smpO_rng v1 v4 v5 (fun x hx => (v3 x hx).1) hr.1 hr.2⟩
set_option maxHeartbeats 8000000 in
theorem customers_pure (e c e2 c2 : List Int) (seed : Int) (n : Nat) (hc : c.length ≤ 1000000) (hc2 : c2.length ≤ 1000000) (hn : n ≤ 30) :
    Pure Tryz.prog 5 [.agg [.rs (rowsOf intC e), .rs (rowsOf intC c)], .agg [.rs (rowsOf intC e2), .rs (rowsOf intC c2)], .int .i64 seed, .int .i64 n] (cusA (custR e c e2 c2 seed n)) := by
  have k1 := tTotal_pure e c hc
  have k2 := tTotal_pure e2 c2 hc2
  have k3 := entry_pure seed
  have hn0 : ¬ (n : Int) < 0 := by omega
  have hn1 : ¬ (1000 : Int) < n := by omega
  unfold totO at k1 k2
  unfold custR cusA
  by_cases q1 : validO e c = true
  rotate_left
  · rw [if_neg q1] at k1
    rw [if_neg (by simp [q1])]
    by_cases q2 : validO e2 c2 = true
    · rw [if_pos q2] at k2
      refine pure_of mixed Tryz.func5 rfl (by kernel_rfl) (of_decide_eq_true rfl) (by kernel_rfl) (vc_run ?_)
      ((try simp -implicitDefEqProofs [-loopQ_n]) <;> (repeat' (first | ((first | refine condD_dec ?_ ?_ | refine guardD_dec ?_ ?_) <;> (intro hc; (try simp -implicitDefEqProofs [-loopQ_n, hc]))) | ((first | refine condD_intro ?_ ?_ | refine guardD_intro ?_ ?_) <;> (intro hd; have hc := hd; (try simp at hc) <;> (try simp -implicitDefEqProofs [-loopQ_n, hd, hc]))) | ((first | (refine ldD_ep ?_ ?_; (focus kernel_rfl)) | (refine callS_mk ?_; (try simp -implicitDefEqProofs [-loopQ_n]); (first | refine callS_intro (k1) (.inl rfl) ?_ | refine callS_intro (k2) (.inl rfl) ?_))); (try simp -implicitDefEqProofs [-loopQ_n])))))
      all_goals simp [rowsOf]
    · rw [if_neg q2] at k2
      refine pure_of mixed Tryz.func5 rfl (by kernel_rfl) (of_decide_eq_true rfl) (by kernel_rfl) (vc_run ?_)
      ((try simp -implicitDefEqProofs [-loopQ_n]) <;> (repeat' (first | ((first | refine condD_dec ?_ ?_ | refine guardD_dec ?_ ?_) <;> (intro hc; (try simp -implicitDefEqProofs [-loopQ_n, hc]))) | ((first | refine condD_intro ?_ ?_ | refine guardD_intro ?_ ?_) <;> (intro hd; have hc := hd; (try simp at hc) <;> (try simp -implicitDefEqProofs [-loopQ_n, hd, hc]))) | ((first | (refine ldD_ep ?_ ?_; (focus kernel_rfl)) | (refine callS_mk ?_; (try simp -implicitDefEqProofs [-loopQ_n]); (first | refine callS_intro (k1) (.inl rfl) ?_ | refine callS_intro (k2) (.inl rfl) ?_))); (try simp -implicitDefEqProofs [-loopQ_n])))))
      all_goals simp [rowsOf]
  rw [if_pos q1] at k1
  by_cases q2 : validO e2 c2 = true
  rotate_left
  · rw [if_neg q2] at k2
    rw [if_neg (by simp [q2])]
    refine pure_of mixed Tryz.func5 rfl (by kernel_rfl) (of_decide_eq_true rfl) (by kernel_rfl) (vc_run ?_)
    ((try simp -implicitDefEqProofs [-loopQ_n]) <;> (repeat' (first | ((first | refine condD_dec ?_ ?_ | refine guardD_dec ?_ ?_) <;> (intro hc; (try simp -implicitDefEqProofs [-loopQ_n, hc]))) | ((first | refine condD_intro ?_ ?_ | refine guardD_intro ?_ ?_) <;> (intro hd; have hc := hd; (try simp at hc) <;> (try simp -implicitDefEqProofs [-loopQ_n, hd, hc]))) | ((first | (refine ldD_ep ?_ ?_; (focus kernel_rfl)) | (refine callS_mk ?_; (try simp -implicitDefEqProofs [-loopQ_n]); (first | refine callS_intro (k1) (.inl rfl) ?_ | refine callS_intro (k2) (.inl rfl) ?_))); (try simp -implicitDefEqProofs [-loopQ_n])))))
    all_goals simp [rowsOf]
  rw [if_pos q2] at k2
  rw [if_pos ⟨q1, q2⟩]
  by_cases q3 : 0 ≤ seed ∧ seed ≤ 1048576
  rotate_left
  · rw [if_neg q3]
    rw [decide_eq_false q3] at k3
    refine pure_of mixed Tryz.func5 rfl (by kernel_rfl) (of_decide_eq_true rfl) (by kernel_rfl) (vc_run ?_)
    ((try simp -implicitDefEqProofs [-loopQ_n]) <;> (repeat' (first | ((first | refine condD_dec ?_ ?_ | refine guardD_dec ?_ ?_) <;> (intro hc; (try simp -implicitDefEqProofs [-loopQ_n, hc]))) | ((first | refine condD_intro ?_ ?_ | refine guardD_intro ?_ ?_) <;> (intro hd; have hc := hd; (try simp at hc) <;> (try simp -implicitDefEqProofs [-loopQ_n, hd, hc]))) | ((first | (refine ldD_ep ?_ ?_; (focus kernel_rfl)) | (refine callS_mk ?_; (try simp -implicitDefEqProofs [-loopQ_n]); (first | refine callS_intro (k1) (.inl rfl) ?_ | refine callS_intro (k2) (.inl rfl) ?_ | refine callS_intro (k3) (.inl rfl) ?_))); (try simp -implicitDefEqProofs [-loopQ_n])))))
    all_goals simp [rowsOf]
  rw [if_pos q3]
  rw [decide_eq_true q3] at k3
  by_cases q4 : c.sum = 0
  · rw [if_pos (.inl q4)]
    refine pure_of mixed Tryz.func5 rfl (by kernel_rfl) (of_decide_eq_true rfl) (by kernel_rfl) (vc_run ?_)
    ((try simp -implicitDefEqProofs [-loopQ_n, q4, hn0, hn1]) <;> (repeat' (first | ((first | refine condD_dec ?_ ?_ | refine guardD_dec ?_ ?_) <;> (intro hc; (try simp -implicitDefEqProofs [-loopQ_n, hc, q4, hn0, hn1]))) | ((first | refine condD_intro ?_ ?_ | refine guardD_intro ?_ ?_) <;> (intro hd; have hc := hd; (try simp at hc) <;> (try simp -implicitDefEqProofs [-loopQ_n, hd, hc, q4, hn0, hn1]))) | ((first | (refine ldD_ep ?_ ?_; (focus kernel_rfl)) | (refine callS_mk ?_; (try simp -implicitDefEqProofs [-loopQ_n, q4, hn0, hn1]); (first | refine callS_intro (k1) (.inl rfl) ?_ | refine callS_intro (k2) (.inl rfl) ?_ | refine callS_intro (k3) (.inl rfl) ?_))); (try simp -implicitDefEqProofs [-loopQ_n, q4, hn0, hn1])))))
    all_goals simp [rowsOf]
  by_cases q5 : c2.sum = 0
  · rw [if_pos (.inr q5)]
    refine pure_of mixed Tryz.func5 rfl (by kernel_rfl) (of_decide_eq_true rfl) (by kernel_rfl) (vc_run ?_)
    ((try simp -implicitDefEqProofs [-loopQ_n, q4, q5, hn0, hn1]) <;> (repeat' (first | ((first | refine condD_dec ?_ ?_ | refine guardD_dec ?_ ?_) <;> (intro hc; (try simp -implicitDefEqProofs [-loopQ_n, hc, q4, q5, hn0, hn1]))) | ((first | refine condD_intro ?_ ?_ | refine guardD_intro ?_ ?_) <;> (intro hd; have hc := hd; (try simp at hc) <;> (try simp -implicitDefEqProofs [-loopQ_n, hd, hc, q4, q5, hn0, hn1]))) | ((first | (refine ldD_ep ?_ ?_; (focus kernel_rfl)) | (refine callS_mk ?_; (try simp -implicitDefEqProofs [-loopQ_n, q4, q5, hn0, hn1]); (first | refine callS_intro (k1) (.inl rfl) ?_ | refine callS_intro (k2) (.inl rfl) ?_ | refine callS_intro (k3) (.inl rfl) ?_))); (try simp -implicitDefEqProofs [-loopQ_n, q4, q5, hn0, hn1])))))
    all_goals simp [rowsOf]
  rw [if_neg (by simp [q4, q5])]
  have hfa : ∀ k, 0 ≤ faO e c seed k ∧ faO e c seed k ≤ 1073741824 := fun k => (smp_ok q1 q4 (rndO_rng q3.1 (by omega)).1).2
  have hL := custL_len (faO e c seed) (fsO e2 c2 seed)
  refine pure_of mixed Tryz.func5 rfl (by kernel_rfl) (of_decide_eq_true rfl) (by kernel_rfl) (vc_run ?_)
  ((try simp -implicitDefEqProofs [-loopQ_n, q4, q5, hn0, hn1]) <;> (repeat' (first | ((first | refine condD_dec ?_ ?_ | refine guardD_dec ?_ ?_) <;> (intro hc; (try simp -implicitDefEqProofs [-loopQ_n, hc, q4, q5, hn0, hn1]))) | ((first | refine condD_intro ?_ ?_ | refine guardD_intro ?_ ?_) <;> (intro hd; have hc := hd; (try simp at hc) <;> (try simp -implicitDefEqProofs [-loopQ_n, hd, hc, q4, q5, hn0, hn1]))) | ((first | (refine ldD_ep ?_ ?_; (focus kernel_rfl)) | (refine callS_mk ?_; (try simp -implicitDefEqProofs [-loopQ_n, q4, q5, hn0, hn1]); (first | refine callS_intro (k1) (.inl rfl) ?_ | refine callS_intro (k2) (.inl rfl) ?_ | refine callS_intro (k3) (.inl rfl) ?_))); (try simp -implicitDefEqProofs [-loopQ_n, q4, q5, hn0, hn1])))))
  refine loop_intro (σ := Nat) (fun i => ⟨[(2, .int .i64 seed), (4, .op 0 0), (5, .op 1 0), (10, .int .i64 c.sum), (12, .int .i64 c2.sum), (14, .os 2 i), (15, .int .i64 (arrO (faO e c seed) i)), (57, .int .i64 n), (58, .int .i64 i)], [.box 24 [.rs (rowsOf intC e), .rs (rowsOf intC c)], .box 24 [.rs (rowsOf intC e2), .rs (rowsOf intC c2)], .row 32 true (rowsOf cuC (custL (faO e c seed) (fsO e2 c2 seed) i))]⟩) (fun i => i ≤ n) (fun i => n - i) 0 (by simp) ?_ ?_
  · refine weak_of 2 1 rfl rfl ?_ ?_ <;> simp [arrO, custL, rowsOf]
  rintro i hi
  by_cases h : i < n
  · have hz : (i : Int) < n := by omega
    have v1 : wrapI .i64 ((i : Int) + 1) = ((i + 1 : Nat) : Int) := by rw [wrap_in (by omega) (by omega)]; omega
    have v2 : wrapI .i64 (2 * (i : Int)) = 2 * i := wrap_in (by omega) (by omega)
    have v3 : wrapI .i64 (2 * (i : Int) + 1) = 2 * i + 1 := wrap_in (by omega) (by omega)
    have r1 := random_pure seed (2 * i) q3 (by omega)
    have r2 := random_pure seed (2 * i + 1) q3 (by omega)
    obtain ⟨a1, a2⟩ := smp_ok q1 q4 (rndO_rng q3.1 (show (0 : Int) ≤ 2 * i by omega)).1
    obtain ⟨b1, b2⟩ := smp_ok q2 q5 (rndO_rng q3.1 (show (0 : Int) ≤ 2 * i + 1 by omega)).1
    have s1 := tsample_pure e c _ q1 a1.1 a1.2
    have s2 := tsample_pure e2 c2 _ q2 b1.1 b1.2
    have hab := arrO_bd hfa i
    have hab2 := hfa i
    have hi30 : (i : Int) * 1073741824 ≤ 30 * 1073741824 := by omega
    have v4 : wrapI .i64 (arrO (faO e c seed) i + smpO e c ((rndO seed (2 * (i : Int))).tmod c.sum)) = arrO (faO e c seed) (i + 1) := by
      rw [show smpO e c ((rndO seed (2 * (i : Int))).tmod c.sum) = faO e c seed i from rfl, wrap_in (by omega) (by omega)]; rfl
    have hcl : (custL (faO e c seed) (fsO e2 c2 seed) i).length = i := hL i
    have hcs := custL_succ (faO e c seed) (fsO e2 c2 seed) i
    have hap : i + 1 ≤ 1073741824 := by omega
    ((try simp -implicitDefEqProofs [-loopQ_n, h, hz, hcl, hap, q4, q5, v1, v2, v3, v4]) <;> (repeat' (first | ((first | refine condD_dec ?_ ?_ | refine guardD_dec ?_ ?_) <;> (intro hc; (try simp -implicitDefEqProofs [-loopQ_n, hc, h, hz, hcl, hap, q4, q5, v1, v2, v3, v4]))) | ((first | refine condD_intro ?_ ?_ | refine guardD_intro ?_ ?_) <;> (intro hd; have hc := hd; (try simp at hc) <;> (try simp -implicitDefEqProofs [-loopQ_n, hd, hc, h, hz, hcl, hap, q4, q5, v1, v2, v3, v4]))) | ((first | (refine ldD_ep ?_ ?_; (focus kernel_rfl)) | (refine callS_mk ?_; (try simp -implicitDefEqProofs [-loopQ_n, h, hz, hcl, hap, q4, q5, v1, v2, v3, v4]); (first | refine callS_intro (r1) (.inl rfl) ?_ | refine callS_intro (r2) (.inl rfl) ?_ | refine callS_intro (s1) (.inl rfl) ?_ | refine callS_intro (s2) (.inl rfl) ?_))); (try simp -implicitDefEqProofs [-loopQ_n, h, hz, hcl, hap, q4, q5, v1, v2, v3, v4])))))
    refine loop_next (i + 1) h (by omega) (weak_of 3 0 rfl rfl ?_ ?_)
    · simp [refs]
    · rw [hcs]
      have := cu_refs (m := 3) (l := custL (faO e c seed) (fsO e2 c2 seed) i ++ [⟨arrO (faO e c seed) (i + 1), fsO e2 c2 seed i, 0, 0⟩])
      simpa [cuC, rowsOf, fsO] using this
  · have : i = n := by omega
    subst this
    have hcl : (custL (faO e c seed) (fsO e2 c2 seed) i).length = i := hL i
    ((try simp -implicitDefEqProofs [-loopQ_n, h, hcl]) <;> (repeat' (first | ((first | refine condD_dec ?_ ?_ | refine guardD_dec ?_ ?_) <;> (intro hc; (try simp -implicitDefEqProofs [-loopQ_n, hc, h, hcl]))) | ((first | refine condD_intro ?_ ?_ | refine guardD_intro ?_ ?_) <;> (intro hd; have hc := hd; (try simp at hc) <;> (try simp -implicitDefEqProofs [-loopQ_n, hd, hc, h, hcl]))) | (refine ldD_ep ?_ ?_; (focus kernel_rfl); (try simp -implicitDefEqProofs [-loopQ_n, h, hcl])))))
    all_goals simp [cu_reify, hcl]
end Go.Proofs.YthiclaihlpkinaaGreat
namespace Go.Proofs.YthiclaihlpkinaaGreat
open Go.RowKit
variable [Glob]
theorem minL_step {l : List Int} {i : Nat} (h : i < l.length) (h1 : 1 ≤ i) : minL (l.take (i + 1)) = min (minL (l.take i)) l[i] := by
  cases l with
  | nil => simp at h
  | cons x r =>
    obtain ⟨j, rfl⟩ : ∃ j, i = j + 1 := ⟨i - 1, by omega⟩
    have hj : j < r.length := by simpa using h
    simp only [List.take_succ_cons, minL, List.getElem_cons_succ]
    rw [List.take_succ_eq_append_getElem hj, List.foldl_append]
    rfl
set_option maxHeartbeats 4000000 in
theorem imin_pure (l : List Int) (h0 : 0 < l.length) (hl : l.length ≤ 1000000) : Pure Tryz.prog 51 [.rs (rowsOf intC l)] (.int .i64 (minL l)) := by
  have q1 : ¬ (l.length : Int) < 1 := by omega
  obtain ⟨x0, hx0⟩ : ∃ x, l[0] = x := ⟨_, rfl⟩
  have hm1 : minL (l.take 1) = x0 := by
    cases l with
    | nil => simp at h0
    | cons x r => simp at hx0; simp [minL, hx0]
  refine pure_of mixed Tryz.func51 rfl (by kernel_rfl) (of_decide_eq_true rfl) (by kernel_rfl) (vc_run ?_)
  ((try simp -implicitDefEqProofs [-loopQ_n, q1, h0, hx0, intC]) <;> (repeat' (first | ((first | refine condD_dec ?_ ?_ | refine guardD_dec ?_ ?_) <;> (intro hc; (try simp -implicitDefEqProofs [-loopQ_n, hc, q1, h0, hx0, intC]))) | ((first | refine condD_intro ?_ ?_ | refine guardD_intro ?_ ?_) <;> (intro hd; have hc := hd; (try simp at hc) <;> (try simp -implicitDefEqProofs [-loopQ_n, hd, hc, q1, h0, hx0, intC]))) | (refine ldD_ep ?_ ?_; (focus kernel_rfl); (try simp -implicitDefEqProofs [-loopQ_n, q1, h0, hx0, intC])))))
  refine loop_intro (σ := Nat) (fun i => ⟨[(0, .rs (rowsOf intC l)), (3, .int .i64 (minL (l.take i))), (4, .int .i64 i)], []⟩) (fun i => 1 ≤ i ∧ i ≤ l.length) (fun i => l.length - i) 1 ⟨by omega, by omega⟩ ?_ ?_
  · refine weak_of 0 0 rfl rfl ?_ ?_ <;> simp [hm1]
  rintro i ⟨h1, hi⟩
  by_cases h : i < l.length
  · have w1 : wrapI .i64 ((i : Int) + 1) = ((i + 1 : Nat) : Int) := by rw [wrap_in (by omega) (by omega)]; omega
    obtain ⟨x, hx⟩ : ∃ x, l[i] = x := ⟨_, rfl⟩
    have hs := minL_step h h1
    rw [hx] at hs
    have hs : (if x < minL (l.take i) then x else minL (l.take i)) = minL (l.take (i + 1)) := by rw [hs]; split <;> omega
    ((try simp -implicitDefEqProofs [-loopQ_n, h, hx, intC, w1]) <;> (repeat' (first | ((first | refine condD_dec ?_ ?_ | refine guardD_dec ?_ ?_) <;> (intro hc; (try simp -implicitDefEqProofs [-loopQ_n, hc, h, hx, intC, w1]))) | ((first | refine condD_intro ?_ ?_ | refine guardD_intro ?_ ?_) <;> (intro hd; have hc := hd; (try simp at hc) <;> (try simp -implicitDefEqProofs [-loopQ_n, hd, hc, h, hx, intC, w1]))) | (refine ldD_ep ?_ ?_; (focus kernel_rfl); (try simp -implicitDefEqProofs [-loopQ_n, h, hx, intC, w1])))))
    refine loop_next (i + 1) ⟨by omega, h⟩ (by omega) (weak_of 0 0 rfl rfl ?_ ?_) <;> simp [hs]
  · have : i = l.length := by omega
    subst this
    ((try simp -implicitDefEqProofs [-loopQ_n, h]) <;> (repeat' (first | ((first | refine condD_dec ?_ ?_ | refine guardD_dec ?_ ?_) <;> (intro hc; (try simp -implicitDefEqProofs [-loopQ_n, hc, h]))) | ((first | refine condD_intro ?_ ?_ | refine guardD_intro ?_ ?_) <;> (intro hd; have hc := hd; (try simp at hc) <;> (try simp -implicitDefEqProofs [-loopQ_n, hd, hc, h]))) | (refine ldD_ep ?_ ?_; (focus kernel_rfl); (try simp -implicitDefEqProofs [-loopQ_n, h])))))
    all_goals simp
def maxL : List Int → Int
  | [] => 0
  | x :: l => l.foldl max x
theorem foldl_max (l : List Int) : ∀ x : Int, l.foldl max x = x ∨ l.foldl max x ∈ l := by
  induction l with
  | nil => intro x; simp
  | cons y l ih =>
    intro x
    simp only [List.foldl_cons]
    rcases ih (max x y) with h | h
    · by_cases hxy : y ≤ x
      · left; omega
      · right; rw [h]; simp; left; omega
    · right; simp [h]
theorem maxL_mem {l : List Int} (h : l ≠ []) : maxL l ∈ l := by
  cases l with
  | nil => exact absurd rfl h
  | cons x l =>
    rcases foldl_max l x with h3 | h3
    · simp [maxL, h3]
    · simp [maxL, h3]
theorem maxL_step {l : List Int} {i : Nat} (h : i < l.length) (h1 : 1 ≤ i) : maxL (l.take (i + 1)) = max (maxL (l.take i)) l[i] := by
  cases l with
  | nil => simp at h
  | cons x r =>
    obtain ⟨j, rfl⟩ : ∃ j, i = j + 1 := ⟨i - 1, by omega⟩
    have hj : j < r.length := by simpa using h
    simp only [List.take_succ_cons, maxL, List.getElem_cons_succ]
    rw [List.take_succ_eq_append_getElem hj, List.foldl_append]
    rfl
set_option maxHeartbeats 4000000 in
theorem imax_pure (l : List Int) (h0 : 0 < l.length) (hl : l.length ≤ 1000000) : Pure Tryz.prog 13 [.rs (rowsOf intC l)] (.int .i64 (maxL l)) := by
  have q1 : ¬ (l.length : Int) < 1 := by omega
  obtain ⟨x0, hx0⟩ : ∃ x, l[0] = x := ⟨_, rfl⟩
  have hm1 : maxL (l.take 1) = x0 := by
    cases l with
    | nil => simp at h0
    | cons x r => simp at hx0; simp [maxL, hx0]
  refine pure_of mixed Tryz.func13 rfl (by kernel_rfl) (of_decide_eq_true rfl) (by kernel_rfl) (vc_run ?_)
  ((try simp -implicitDefEqProofs [-loopQ_n, q1, h0, hx0, intC]) <;> (repeat' (first | ((first | refine condD_dec ?_ ?_ | refine guardD_dec ?_ ?_) <;> (intro hc; (try simp -implicitDefEqProofs [-loopQ_n, hc, q1, h0, hx0, intC]))) | ((first | refine condD_intro ?_ ?_ | refine guardD_intro ?_ ?_) <;> (intro hd; have hc := hd; (try simp at hc) <;> (try simp -implicitDefEqProofs [-loopQ_n, hd, hc, q1, h0, hx0, intC]))) | (refine ldD_ep ?_ ?_; (focus kernel_rfl); (try simp -implicitDefEqProofs [-loopQ_n, q1, h0, hx0, intC])))))
  refine loop_intro (σ := Nat) (fun i => ⟨[(0, .rs (rowsOf intC l)), (3, .int .i64 (maxL (l.take i))), (4, .int .i64 i)], []⟩) (fun i => 1 ≤ i ∧ i ≤ l.length) (fun i => l.length - i) 1 ⟨by omega, by omega⟩ ?_ ?_
  · refine weak_of 0 0 rfl rfl ?_ ?_ <;> simp [hm1]
  rintro i ⟨h1, hi⟩
  by_cases h : i < l.length
  · have w1 : wrapI .i64 ((i : Int) + 1) = ((i + 1 : Nat) : Int) := by rw [wrap_in (by omega) (by omega)]; omega
    obtain ⟨x, hx⟩ : ∃ x, l[i] = x := ⟨_, rfl⟩
    have hs := maxL_step h h1
    rw [hx] at hs
    have hs : (if maxL (l.take i) < x then x else maxL (l.take i)) = maxL (l.take (i + 1)) := by rw [hs]; split <;> omega
    ((try simp -implicitDefEqProofs [-loopQ_n, h, hx, intC, w1]) <;> (repeat' (first | ((first | refine condD_dec ?_ ?_ | refine guardD_dec ?_ ?_) <;> (intro hc; (try simp -implicitDefEqProofs [-loopQ_n, hc, h, hx, intC, w1]))) | ((first | refine condD_intro ?_ ?_ | refine guardD_intro ?_ ?_) <;> (intro hd; have hc := hd; (try simp at hc) <;> (try simp -implicitDefEqProofs [-loopQ_n, hd, hc, h, hx, intC, w1]))) | (refine ldD_ep ?_ ?_; (focus kernel_rfl); (try simp -implicitDefEqProofs [-loopQ_n, h, hx, intC, w1])))))
    refine loop_next (i + 1) ⟨by omega, h⟩ (by omega) (weak_of 0 0 rfl rfl ?_ ?_) <;> simp [hs]
  · have : i = l.length := by omega
    subst this
    ((try simp -implicitDefEqProofs [-loopQ_n, h]) <;> (repeat' (first | ((first | refine condD_dec ?_ ?_ | refine guardD_dec ?_ ?_) <;> (intro hc; (try simp -implicitDefEqProofs [-loopQ_n, hc, h]))) | ((first | refine condD_intro ?_ ?_ | refine guardD_intro ?_ ?_) <;> (intro hd; have hc := hd; (try simp at hc) <;> (try simp -implicitDefEqProofs [-loopQ_n, hd, hc, h]))) | (refine ldD_ep ?_ ?_; (focus kernel_rfl); (try simp -implicitDefEqProofs [-loopQ_n, h])))))
    all_goals simp
theorem idx_first {x : Int} : ∀ (l : List Int) (i : Nat) (h : i < l.length), i ≤ l.idxOf x → (l[i] = x → l.idxOf x = i) ∧ (l[i] ≠ x → i + 1 ≤ l.idxOf x) := by
  intro l
  induction l with
  | nil => intro i h; simp at h
  | cons y l ih =>
    intro i h hi
    by_cases e : y = x
    · have : (y :: l).idxOf x = 0 := by simp [List.idxOf_cons, e]
      rw [this] at hi ⊢
      have : i = 0 := by omega
      subst this
      exact ⟨fun _ => rfl, fun q => absurd e (by simpa using q)⟩
    · have e0 : (y == x) = false := by simp [e]
      have e2 : (y :: l).idxOf x = l.idxOf x + 1 := by simp [List.idxOf_cons, e0]
      rw [e2] at hi ⊢
      cases i with
      | zero => exact ⟨fun q => absurd (by simpa using q) e, fun _ => by omega⟩
      | succ i =>
        have := ih i (by simpa using h) (by omega)
        simp only [List.getElem_cons_succ]
        exact ⟨fun q => by rw [this.1 q], fun q => by have := this.2 q; omega⟩
set_option maxHeartbeats 4000000 in
theorem iidx_pure (l : List Int) (x : Int) (hx : x ∈ l) (hl : l.length ≤ 1000000) : Pure Tryz.prog 50 [.rs (rowsOf intC l), .int .i64 x] (.int .i64 (l.idxOf x : Nat)) := by
  have hlt := List.idxOf_lt_length_of_mem hx
  generalize hK : l.idxOf x = K at *
  refine pure_of mixed Tryz.func50 rfl (by kernel_rfl) (of_decide_eq_true rfl) (by kernel_rfl) (vc_run ?_)
  ((try simp -implicitDefEqProofs [-loopQ_n]) <;> (repeat' (first | ((first | refine condD_dec ?_ ?_ | refine guardD_dec ?_ ?_) <;> (intro hc; (try simp -implicitDefEqProofs [-loopQ_n, hc]))) | ((first | refine condD_intro ?_ ?_ | refine guardD_intro ?_ ?_) <;> (intro hd; have hc := hd; (try simp at hc) <;> (try simp -implicitDefEqProofs [-loopQ_n, hd, hc]))) | (refine ldD_ep ?_ ?_; (focus kernel_rfl); (try simp -implicitDefEqProofs [-loopQ_n])))))
  refine loop_intro (σ := Nat) (fun i => ⟨[(0, .rs (rowsOf intC l)), (1, .int .i64 x), (7, .int .i64 l.length), (8, .int .i64 i)], []⟩) (fun i => i ≤ K) (fun i => l.length - i) 0 (by simp) ?_ ?_
  · refine weak_of 0 0 rfl rfl ?_ ?_ <;> simp
  rintro i hi
  have h : i < l.length := by omega
  have w1 : wrapI .i64 ((i : Int) + 1) = ((i + 1 : Nat) : Int) := by rw [wrap_in (by omega) (by omega)]; omega
  obtain ⟨f1, f2⟩ := idx_first (x := x) l i h (by omega)
  obtain ⟨y, hy⟩ : ∃ y, l[i] = y := ⟨_, rfl⟩
  rw [hy, hK] at f1 f2
  by_cases e : x = y
  · have := f1 e.symm
    subst this
    subst e
    ((try simp -implicitDefEqProofs [-loopQ_n, h, hy, intC]) <;> (repeat' (first | ((first | refine condD_dec ?_ ?_ | refine guardD_dec ?_ ?_) <;> (intro hc; (try simp -implicitDefEqProofs [-loopQ_n, hc, h, hy, intC]))) | ((first | refine condD_intro ?_ ?_ | refine guardD_intro ?_ ?_) <;> (intro hd; have hc := hd; (try simp at hc) <;> (try simp -implicitDefEqProofs [-loopQ_n, hd, hc, h, hy, intC]))) | (refine ldD_ep ?_ ?_; (focus kernel_rfl); (try simp -implicitDefEqProofs [-loopQ_n, h, hy, intC])))))
  · have := f2 fun q => e q.symm
    ((try simp -implicitDefEqProofs [-loopQ_n, h, hy, intC, e]) <;> (repeat' (first | ((first | refine condD_dec ?_ ?_ | refine guardD_dec ?_ ?_) <;> (intro hc; (try simp -implicitDefEqProofs [-loopQ_n, hc, h, hy, intC, e]))) | ((first | refine condD_intro ?_ ?_ | refine guardD_intro ?_ ?_) <;> (intro hd; have hc := hd; (try simp at hc) <;> (try simp -implicitDefEqProofs [-loopQ_n, hd, hc, h, hy, intC, e]))) | (refine ldD_ep ?_ ?_; (focus kernel_rfl); (try simp -implicitDefEqProofs [-loopQ_n, h, hy, intC, e])))))
    refine loop_next (i + 1) (by omega) (by omega) (weak_of 0 0 rfl rfl ?_ ?_) <;> simp [w1]
end Go.Proofs.YthiclaihlpkinaaGreat
namespace Go.Proofs.YthiclaihlpkinaaGreat
open Go.RowKit
variable [Glob]
theorem cust_prev {l : List Cu} (h : l.Pairwise fun c d => c.a ≤ d.a) {i : Nat} (hi : i < l.length) (h0 : 0 < i) : l[i - 1].a ≤ l[i].a := (List.pairwise_iff_getElem.1 h) (i - 1) i (by omega) hi (by omega)
set_option maxHeartbeats 4000000 in
theorem sproper_pure (l : List Cu) (hl : CustOk l) : Pure Tryz.prog 24 [.rs (rowsOf cuC l)] (.bool true) := by
  have hlen := hl.len
  have q1 : (l.length : Int) ≤ 1000 := by omega
  refine pure_of mixed Tryz.func24 rfl (by kernel_rfl) (of_decide_eq_true rfl) (by kernel_rfl) (vc_run ?_)
  ((try simp -implicitDefEqProofs [-loopQ_n]) <;> (repeat' (first | ((first | refine condD_dec ?_ ?_ | refine guardD_dec ?_ ?_) <;> (intro hc; (try simp -implicitDefEqProofs [-loopQ_n, hc]))) | ((first | refine condD_intro ?_ ?_ | refine guardD_intro ?_ ?_) <;> (intro hd; have hc := hd; (try simp at hc) <;> (try simp -implicitDefEqProofs [-loopQ_n, hd, hc]))) | (refine ldD_ep ?_ ?_; (focus kernel_rfl); (try simp -implicitDefEqProofs [-loopQ_n])))))
  refine loop_intro (σ := Nat) (fun i => ⟨[(0, .rs (rowsOf cuC l)), (5, .rs (rowsOf cuC l)), (6, .int .i64 l.length), (7, .int .i64 i)], []⟩) (fun i => i ≤ l.length) (fun i => l.length - i) 0 (by simp) ?_ ?_
  · refine weak_of 0 0 rfl rfl ?_ ?_ <;> simp
  rintro i hi
  by_cases h : i < l.length
  · have w1 : wrapI .i64 ((i : Int) + 1) = ((i + 1 : Nat) : Int) := by rw [wrap_in (by omega) (by omega)]; omega
    obtain ⟨b1, b2, b3, b4⟩ := hl.bd l[i] (List.getElem_mem h)
    have hpv := fun h0 => cust_prev hl.ord h h0
    obtain ⟨x, hx⟩ : ∃ x, l[i] = x := ⟨_, rfl⟩
    rw [hx] at b1 b2 b3 b4
    simp only [hx] at hpv
    have c1 : ¬ x.a < 0 := by omega
    have c2 : ¬ (1099511627776 : Int) < x.a := by omega
    have c3 : ¬ x.s < 0 := by omega
    have c4 : ¬ (1099511627776 : Int) < x.s := by omega
    by_cases c0 : i = 0
    · subst c0
      have w1 : wrapI .i64 1 = 1 := wrap_in (by omega) (by omega)
      ((try simp -implicitDefEqProofs [-loopQ_n, h, hx, cuC, c1, c2, c3, c4, w1]) <;> (repeat' (first | ((first | refine condD_dec ?_ ?_ | refine guardD_dec ?_ ?_) <;> (intro hc; (try simp -implicitDefEqProofs [-loopQ_n, hc, h, hx, cuC, c1, c2, c3, c4, w1]))) | ((first | refine condD_intro ?_ ?_ | refine guardD_intro ?_ ?_) <;> (intro hd; have hc := hd; (try simp at hc) <;> (try simp -implicitDefEqProofs [-loopQ_n, hd, hc, h, hx, cuC, c1, c2, c3, c4, w1]))) | (refine ldD_ep ?_ ?_; (focus kernel_rfl); (try simp -implicitDefEqProofs [-loopQ_n, h, hx, cuC, c1, c2, c3, c4, w1])))))
      refine loop_next 1 h (by omega) (weak_of 0 0 rfl rfl ?_ ?_) <;> simp
    have p0 : 0 < i := by omega
    have e1 : wrapI .i64 ((i : Int) - 1) = ((i - 1 : Nat) : Int) := by rw [wrap_in (by omega) (by omega)]; omega
    have h2 : i - 1 < l.length := by omega
    have hp := hpv p0
    obtain ⟨y, hy⟩ : ∃ y, l[i - 1] = y := ⟨_, rfl⟩
    rw [hy] at hp
    have c5 : ¬ x.a < y.a := by omega
    ((try simp -implicitDefEqProofs [-loopQ_n, h, hx, cuC, c1, c2, c3, c4, p0, e1, h2, hy, c5, w1]) <;> (repeat' (first | ((first | refine condD_dec ?_ ?_ | refine guardD_dec ?_ ?_) <;> (intro hc; (try simp -implicitDefEqProofs [-loopQ_n, hc, h, hx, cuC, c1, c2, c3, c4, p0, e1, h2, hy, c5, w1]))) | ((first | refine condD_intro ?_ ?_ | refine guardD_intro ?_ ?_) <;> (intro hd; have hc := hd; (try simp at hc) <;> (try simp -implicitDefEqProofs [-loopQ_n, hd, hc, h, hx, cuC, c1, c2, c3, c4, p0, e1, h2, hy, c5, w1]))) | (refine ldD_ep ?_ ?_; (focus kernel_rfl); (try simp -implicitDefEqProofs [-loopQ_n, h, hx, cuC, c1, c2, c3, c4, p0, e1, h2, hy, c5, w1])))))
    refine loop_next (i + 1) h (by omega) (weak_of 0 0 rfl rfl ?_ ?_) <;> simp
  · have : i = l.length := by omega
    subst this
    ((try simp -implicitDefEqProofs [-loopQ_n, h, q1]) <;> (repeat' (first | ((first | refine condD_dec ?_ ?_ | refine guardD_dec ?_ ?_) <;> (intro hc; (try simp -implicitDefEqProofs [-loopQ_n, hc, h, q1]))) | ((first | refine condD_intro ?_ ?_ | refine guardD_intro ?_ ?_) <;> (intro hd; have hc := hd; (try simp at hc) <;> (try simp -implicitDefEqProofs [-loopQ_n, hd, hc, h, q1]))) | (refine ldD_ep ?_ ?_; (focus kernel_rfl); (try simp -implicitDefEqProofs [-loopQ_n, h, q1])))))
theorem given_pure (l : List Cu) (m : Int) (hl : CustOk l) : Pure Tryz.prog 21 [.rs (rowsOf cuC l), .int .i64 m] (.int .i64 (if 1 ≤ m ∧ m ≤ 20 then 0 else 2)) := by
  have h1 := sproper_pure l hl
  by_cases c1 : m < 1
  · rw [if_neg (by omega)]
    refine pure_of mixed Tryz.func21 rfl (by kernel_rfl) (of_decide_eq_true rfl) (by kernel_rfl) (vc_run ?_)
    ((try simp -implicitDefEqProofs [-loopQ_n, c1]) <;> (repeat' (first | ((first | refine condD_dec ?_ ?_ | refine guardD_dec ?_ ?_) <;> (intro hc; (try simp -implicitDefEqProofs [-loopQ_n, hc, c1]))) | ((first | refine condD_intro ?_ ?_ | refine guardD_intro ?_ ?_) <;> (intro hd; have hc := hd; (try simp at hc) <;> (try simp -implicitDefEqProofs [-loopQ_n, hd, hc, c1]))) | ((first | (refine ldD_ep ?_ ?_; (focus kernel_rfl)) | (refine callS_mk ?_; (try simp -implicitDefEqProofs [-loopQ_n, c1]); (first | refine callS_intro (h1) (.inl rfl) ?_))); (try simp -implicitDefEqProofs [-loopQ_n, c1])))))
  by_cases c2 : (20 : Int) < m
  · rw [if_neg (by omega)]
    refine pure_of mixed Tryz.func21 rfl (by kernel_rfl) (of_decide_eq_true rfl) (by kernel_rfl) (vc_run ?_)
    ((try simp -implicitDefEqProofs [-loopQ_n, c1, c2]) <;> (repeat' (first | ((first | refine condD_dec ?_ ?_ | refine guardD_dec ?_ ?_) <;> (intro hc; (try simp -implicitDefEqProofs [-loopQ_n, hc, c1, c2]))) | ((first | refine condD_intro ?_ ?_ | refine guardD_intro ?_ ?_) <;> (intro hd; have hc := hd; (try simp at hc) <;> (try simp -implicitDefEqProofs [-loopQ_n, hd, hc, c1, c2]))) | ((first | (refine ldD_ep ?_ ?_; (focus kernel_rfl)) | (refine callS_mk ?_; (try simp -implicitDefEqProofs [-loopQ_n, c1, c2]); (first | refine callS_intro (h1) (.inl rfl) ?_))); (try simp -implicitDefEqProofs [-loopQ_n, c1, c2])))))
  rw [if_pos (by omega)]
  refine pure_of mixed Tryz.func21 rfl (by kernel_rfl) (of_decide_eq_true rfl) (by kernel_rfl) (vc_run ?_)
  ((try simp -implicitDefEqProofs [-loopQ_n, c1, c2]) <;> (repeat' (first | ((first | refine condD_dec ?_ ?_ | refine guardD_dec ?_ ?_) <;> (intro hc; (try simp -implicitDefEqProofs [-loopQ_n, hc, c1, c2]))) | ((first | refine condD_intro ?_ ?_ | refine guardD_intro ?_ ?_) <;> (intro hd; have hc := hd; (try simp at hc) <;> (try simp -implicitDefEqProofs [-loopQ_n, hd, hc, c1, c2]))) | ((first | (refine ldD_ep ?_ ?_; (focus kernel_rfl)) | (refine callS_mk ?_; (try simp -implicitDefEqProofs [-loopQ_n, c1, c2]); (first | refine callS_intro (h1) (.inl rfl) ?_))); (try simp -implicitDefEqProofs [-loopQ_n, c1, c2])))))
theorem plain_pure (a b : Int) : Pure Tryz.prog 23 [.int .i64 a, .int .i64 b] (.tup [.int .i64 (wrapI .i64 (a + b)), .int .i64 0]) := by
  refine pure_of mixed Tryz.func23 rfl (by kernel_rfl) (of_decide_eq_true rfl) (by kernel_rfl) (vc_run ?_)
  ((try simp -implicitDefEqProofs [-loopQ_n]) <;> (repeat' (first | ((first | refine condD_dec ?_ ?_ | refine guardD_dec ?_ ?_) <;> (intro hc; (try simp -implicitDefEqProofs [-loopQ_n, hc]))) | ((first | refine condD_intro ?_ ?_ | refine guardD_intro ?_ ?_) <;> (intro hd; have hc := hd; (try simp at hc) <;> (try simp -implicitDefEqProofs [-loopQ_n, hd, hc]))) | (refine ldD_ep ?_ ?_; (focus kernel_rfl); (try simp -implicitDefEqProofs [-loopQ_n])))))
def frN (m : Nat) (l : List Cu) (i : Nat) : List Int := (l.take i).foldl frS (fr0 m)
theorem frN_succ {m : Nat} {l : List Cu} {i : Nat} (h : i < l.length) : frN m l (i + 1) = frS (frN m l i) l[i] := by
  unfold frN
  rw [List.take_succ_eq_append_getElem h, List.foldl_append]; rfl
theorem foldl_frS_len : ∀ (l : List Cu) (f : List Int), (l.foldl frS f).length = f.length := by
  intro l
  induction l with
  | nil => intro f; rfl
  | cons c l ih => intro f; rw [List.foldl_cons, ih, frS_len]
theorem frN_len {m : Nat} {l : List Cu} {i : Nat} : (frN m l i).length = m := by unfold frN; rw [foldl_frS_len]; simp [fr0]
def xsN (m : Nat) (l : List Cu) (i : Nat) : List Cu := serveL (fr0 m) (l.take i)
theorem xsN_len {m : Nat} {l : List Cu} {i : Nat} (h : i ≤ l.length) : (xsN m l i).length = i := by unfold xsN; rw [serveL_len, List.length_take]; omega
theorem xsN_succ {m : Nat} {l : List Cu} {i : Nat} (h : i < l.length) : xsN m l (i + 1) = xsN m l i ++ [cuS (frN m l i) l[i]] := by
  unfold xsN frN
  rw [List.take_succ_eq_append_getElem h, serveL_append]; rfl
theorem frS_bd {f : List Int} {c : Cu} {B S : Int} (hne : f ≠ []) (hf : ∀ y ∈ f, 0 ≤ y ∧ y ≤ B) (ha : 0 ≤ c.a ∧ c.a ≤ B) (hs : 0 ≤ c.s ∧ c.s ≤ S) : (0 ≤ stS f c ∧ stS f c ≤ B) ∧ ∀ y ∈ frS f c, 0 ≤ y ∧ y ≤ B + S := by
  have hm := hf _ (minL_mem hne)
  have h1 : 0 ≤ stS f c ∧ stS f c ≤ B := by unfold stS; omega
  refine ⟨h1, fun y hy => ?_⟩
  rcases List.mem_or_eq_of_mem_set hy with hy | rfl
  · have := hf y hy; omega
  · omega
theorem frN_bd {l : List Cu} (hl : CustOk l) {m : Nat} (hm : 1 ≤ m) : ∀ i, i ≤ l.length → ∀ y ∈ frN m l i, 0 ≤ y ∧ y ≤ 32212254720 + i * 1073741824
  | 0, _, y, hy => by
    have : y = 0 := by simp [frN, fr0] at hy; exact hy.2
    omega
  | i + 1, h, y, hy => by
    have hi : i < l.length := by omega
    rw [frN_succ hi] at hy
    obtain ⟨b1, b2, b3, b4⟩ := hl.bd l[i] (List.getElem_mem hi)
    have hne : frN m l i ≠ [] := by intro e; have := congrArg List.length e; rw [frN_len] at this; simp at this; omega
    have := (frS_bd (B := 32212254720 + i * 1073741824) (S := 1073741824) hne (frN_bd hl hm i (by omega)) (by omega) ⟨b3, b4⟩).2 y hy
    push_cast
    omega
set_option maxHeartbeats 8000000 in
theorem serve_pure (l : List Cu) (m : Nat) (hl : CustOk l) (hm : 1 ≤ m ∧ m ≤ 20) : Pure Tryz.prog 22 [.rs (rowsOf cuC l), .int .i64 m, .fn 23 []] (cusA (serveL (fr0 m) l, 0)) := by
  have hlen := hl.len
  have m0 : (0 : Int) ≤ m := by omega
  have m1 : (m : Int) ≤ 1073741824 := by omega
  have hz : List.replicate m [AV.int .i64 0] = rowsOf intC (fr0 m) := by simp [rowsOf, intC, fr0]
  unfold cusA
  refine pure_of mixed Tryz.func22 rfl (by kernel_rfl) (of_decide_eq_true rfl) (by kernel_rfl) (vc_run ?_)
  ((try simp -implicitDefEqProofs [-loopQ_n, m0, m1, hz]) <;> (repeat' (first | ((first | refine condD_dec ?_ ?_ | refine guardD_dec ?_ ?_) <;> (intro hc; (try simp -implicitDefEqProofs [-loopQ_n, hc, m0, m1, hz]))) | ((first | refine condD_intro ?_ ?_ | refine guardD_intro ?_ ?_) <;> (intro hd; have hc := hd; (try simp at hc) <;> (try simp -implicitDefEqProofs [-loopQ_n, hd, hc, m0, m1, hz]))) | (refine ldD_ep ?_ ?_; (focus kernel_rfl); (try simp -implicitDefEqProofs [-loopQ_n, m0, m1, hz])))))
  refine loop_intro (σ := Nat) (fun i => ⟨[(2, .fn 23 []), (8, .os 0 m), (9, .os 1 i), (17, .rs (rowsOf cuC l)), (18, .int .i64 l.length), (19, .int .i64 i)], [.row 3 false (rowsOf intC (frN m l i)), .row 32 true (rowsOf cuC (xsN m l i))]⟩) (fun i => i ≤ l.length) (fun i => l.length - i) 0 (by simp) ?_ ?_
  · refine weak_of 1 1 rfl rfl ?_ ?_ <;> simp [frN, xsN, serveL, ni_refs]
  rintro i hi
  by_cases h : i < l.length
  · have w1 : wrapI .i64 ((i : Int) + 1) = ((i + 1 : Nat) : Int) := by rw [wrap_in (by omega) (by omega)]; omega
    have hfl : (frN m l i).length = m := frN_len
    have hne : frN m l i ≠ [] := by intro e; have := congrArg List.length e; rw [hfl] at this; simp at this; omega
    have hfb := frN_bd hl hm.1 i hi
    obtain ⟨b1, b2, b3, b4⟩ := hl.bd l[i] (List.getElem_mem h)
    obtain ⟨hst, _⟩ := frS_bd (c := l[i]) (B := 32212254720 + i * 1073741824) (S := 1073741824) hne hfb (by omega) ⟨b3, b4⟩
    have hfs := frN_succ (m := m) h
    have hxs := xsN_succ (m := m) h
    have hxl : (xsN m l i).length = i := xsN_len hi
    obtain ⟨c, hc⟩ : ∃ c, l[i] = c := ⟨_, rfl⟩
    rw [hc] at b1 b2 b3 b4 hst hfs hxs
    have p1 := imin_pure (frN m l i) (by omega) (by omega)
    have p2 := iidx_pure (frN m l i) (minL (frN m l i)) (minL_mem hne) (by omega)
    have hmem := minL_mem hne
    have hk := List.idxOf_lt_length_of_mem hmem
    have hg : (frN m l i)[(frN m l i).idxOf (minL (frN m l i))] = minL (frN m l i) := by simp
    have hmx : (if c.a < minL (frN m l i) then minL (frN m l i) else c.a) = stS (frN m l i) c := by unfold stS; split <;> omega
    have hfr : frS (frN m l i) c = (frN m l i).set ((frN m l i).idxOf (minL (frN m l i))) (stS (frN m l i) c + c.s) := rfl
    have hcu : cuS (frN m l i) c = ⟨c.a, c.s, stS (frN m l i) c, stS (frN m l i) c + c.s⟩ := rfl
    rw [hfr] at hfs
    rw [hcu] at hxs
    rw [hfl] at hk
    generalize hS : stS (frN m l i) c = S at *
    generalize hM : minL (frN m l i) = M at *
    generalize hF : frN m l i = F at *
    generalize hK : F.idxOf M = K at *
    have p3 := plain_pure S c.s
    have w2 : wrapI .i64 (S + c.s) = S + c.s := wrap_in (by omega) (by omega)
    rw [w2] at p3
    have hk2 : (K : Int) < m := by omega
    have hk3 : K < F.length := by omega
    have hap : i + 1 ≤ 1073741824 := by omega
    have hset : (rowsOf intC F).set K [AV.int .i64 (S + c.s)] = rowsOf intC (frN m l (i + 1)) := by rw [hfs]; simp [rowsOf, List.map_set, intC]
    have hsn : rowsOf cuC (xsN m l i) ++ [[AV.int .i64 c.a, .int .i64 c.s, .int .i64 S, .int .i64 (S + c.s)]] = rowsOf cuC (xsN m l (i + 1)) := by rw [hxs]; simp [rowsOf, cuC]
    ((try simp -implicitDefEqProofs [-loopQ_n, h, hc, cuC, hfl, hk, hk2, hk3, hg, hmx, hxl, hap, intC, ni_reify, w1, hset, hsn]) <;> (repeat' (first | ((first | refine condD_dec ?_ ?_ | refine guardD_dec ?_ ?_) <;> (intro hc; (try simp -implicitDefEqProofs [-loopQ_n, hc, h, hc, cuC, hfl, hk, hk2, hk3, hg, hmx, hxl, hap, intC, ni_reify, w1, hset, hsn]))) | ((first | refine condD_intro ?_ ?_ | refine guardD_intro ?_ ?_) <;> (intro hd; have hc := hd; (try simp at hc) <;> (try simp -implicitDefEqProofs [-loopQ_n, hd, hc, h, hc, cuC, hfl, hk, hk2, hk3, hg, hmx, hxl, hap, intC, ni_reify, w1, hset, hsn]))) | ((first | (refine ldD_ep ?_ ?_; (focus kernel_rfl)) | (refine callS_mk ?_; (try simp -implicitDefEqProofs [-loopQ_n, h, hc, cuC, hfl, hk, hk2, hk3, hg, hmx, hxl, hap, intC, ni_reify, w1, hset, hsn]); (first | refine callS_intro (p1) (.inl rfl) ?_ | refine callS_intro (p2) (.inl rfl) ?_ | refine callS_intro (p3) (.inl rfl) ?_))); (try simp -implicitDefEqProofs [-loopQ_n, h, hc, cuC, hfl, hk, hk2, hk3, hg, hmx, hxl, hap, intC, ni_reify, w1, hset, hsn])))))
    refine loop_next (i + 1) h (by omega) (weak_of 2 0 rfl rfl ?_ ?_)
    · simp [refs]
    · simp [ni_refs, cu_refs]
  · have : i = l.length := by omega
    subst this
    have hx : xsN m l l.length = serveL (fr0 m) l := by unfold xsN; rw [List.take_length]
    ((try simp -implicitDefEqProofs [-loopQ_n, h]) <;> (repeat' (first | ((first | refine condD_dec ?_ ?_ | refine guardD_dec ?_ ?_) <;> (intro hc; (try simp -implicitDefEqProofs [-loopQ_n, hc, h]))) | ((first | refine condD_intro ?_ ?_ | refine guardD_intro ?_ ?_) <;> (intro hd; have hc := hd; (try simp at hc) <;> (try simp -implicitDefEqProofs [-loopQ_n, hd, hc, h]))) | (refine ldD_ep ?_ ?_; (focus kernel_rfl); (try simp -implicitDefEqProofs [-loopQ_n, h])))))
    all_goals simp [cu_reify, hx, serveL_len]
end Go.Proofs.YthiclaihlpkinaaGreat
namespace Go.Proofs.YthiclaihlpkinaaGreat
open Go.RowKit
variable [Glob]
theorem dvK_idx {p : Cu → Bool} {l : List Cu} {g : Nat} {caps : List AV} (hp : ∀ x ∈ l, Pure Tryz.prog g (.agg (cuC x) :: caps) (.bool (p x))) (hc : ∀ H k, caps.mapM (reify H (k + 5)) = some caps) (hf : refsL 0 caps = true) (hl : l.length ≤ 9223372036854775807) :
    Pure Tryz.prog 52 [.rs (rowsOf cuC l), .fn g caps] (.int .i64 (idxOf p l)) := by
  refine pure_of mixed Tryz.func52 rfl (by kernel_rfl) (of_decide_eq_true rfl) (by kernel_rfl) (vc_run ?_)
  simp -implicitDefEqProofs
  refine loop_intro (σ := Nat) (fun i => ⟨[(0, .rs (rowsOf cuC l)), (1, .fn g caps), (7, .int .i64 l.length), (8, .int .i64 i)], []⟩) (fun i => i ≤ l.length ∧ allF p (l.take i)) (fun i => l.length - i) 0 ⟨Nat.zero_le _, allF_nil⟩ ?_ ?_
  · refine weak_of 0 0 rfl rfl ?_ ?_ <;> simp [hf]
  · rintro i ⟨hi, hall⟩
    by_cases h : i < l.length
    · simp -implicitDefEqProofs [h, cuC]
      have hc8 : ∀ H, caps.mapM (reify H 8) = some caps := fun H => hc H 3
      refine call_intro (hp l[i] (by simp)) (by simp -implicitDefEqProofs [hc8, cuC]) (.inl rfl) ?_
      by_cases hpx : p l[i] = true
      · simp -implicitDefEqProofs [hpx]
        exact (idxOf_some p l i h hall hpx).symm
      · have hpx : p l[i] = false := by simpa using hpx
        simp -implicitDefEqProofs [hpx]
        refine ⟨i + 1, ⟨by omega, allF_succ hall h hpx⟩, by omega, weak_of 0 0 rfl rfl ?_ ?_⟩
        · simp [hf]
          exact (wrap_in (by omega) (by omega)).symm
        · simp
    · simp -implicitDefEqProofs [h]
      rw [idxOf_none p l (allF_all hall h)]
theorem dvK_any {p : Cu → Bool} {l : List Cu} {g : Nat} {caps : List AV} (hp : ∀ x ∈ l, Pure Tryz.prog g (.agg (cuC x) :: caps) (.bool (p x))) (hc : ∀ H k, caps.mapM (reify H (k + 5)) = some caps) (hf : refsL 0 caps = true) (hl : l.length ≤ 9223372036854775807) :
    Pure Tryz.prog 25 [.rs (rowsOf cuC l), .fn g caps] (.bool (l.any p)) := by
  refine pure_of mixed Tryz.func25 rfl (by kernel_rfl) (of_decide_eq_true rfl) (by kernel_rfl) (vc_run ?_)
  simp -implicitDefEqProofs
  have hc7 : ∀ H, caps.mapM (reify H 7) = some caps := fun H => hc H 2
  refine call_intro (dvK_idx hp hc hf hl) (by simp -implicitDefEqProofs [hc7]) (.inl rfl) ?_
  simp -implicitDefEqProofs
  rw [← ge_idxOf]
def servR (l : List Cu) (m : Int) : List Cu × Int := if 1 ≤ m ∧ m ≤ 20 then (serveL (fr0 m.toNat) l, 0) else ([], 2)
theorem Serve_pure (l : List Cu) (m : Int) (hl : CustOk l) : Pure Tryz.prog 7 [.rs (rowsOf cuC l), .int .i64 m] (cusA (servR l m)) := by
  have h1 := given_pure l m hl
  unfold servR
  by_cases q : 1 ≤ m ∧ m ≤ 20
  · rw [if_pos q] at h1 ⊢
    have h2 := serve_pure l m.toNat hl (by omega)
    rw [show ((m.toNat : Nat) : Int) = m by omega] at h2
    unfold cusA at h2 ⊢
    refine pure_of mixed Tryz.func7 rfl (by kernel_rfl) (of_decide_eq_true rfl) (by kernel_rfl) (vc_run ?_)
    ((try simp -implicitDefEqProofs [-loopQ_n]) <;> (repeat' (first | ((first | refine condD_dec ?_ ?_ | refine guardD_dec ?_ ?_) <;> (intro hc; (try simp -implicitDefEqProofs [-loopQ_n, hc]))) | ((first | refine condD_intro ?_ ?_ | refine guardD_intro ?_ ?_) <;> (intro hd; have hc := hd; (try simp at hc) <;> (try simp -implicitDefEqProofs [-loopQ_n, hd, hc]))) | ((first | (refine ldD_ep ?_ ?_; (focus kernel_rfl)) | (refine callS_mk ?_; (try simp -implicitDefEqProofs [-loopQ_n]); (first | refine callS_intro (h1) (.inl rfl) ?_ | refine callS_intro (h2) (.inr ⟨rfl, rfl⟩) ?_))); (try simp -implicitDefEqProofs [-loopQ_n])))))
  · rw [if_neg q] at h1 ⊢
    unfold cusA
    refine pure_of mixed Tryz.func7 rfl (by kernel_rfl) (of_decide_eq_true rfl) (by kernel_rfl) (vc_run ?_)
    ((try simp -implicitDefEqProofs [-loopQ_n]) <;> (repeat' (first | ((first | refine condD_dec ?_ ?_ | refine guardD_dec ?_ ?_) <;> (intro hc; (try simp -implicitDefEqProofs [-loopQ_n, hc]))) | ((first | refine condD_intro ?_ ?_ | refine guardD_intro ?_ ?_) <;> (intro hd; have hc := hd; (try simp at hc) <;> (try simp -implicitDefEqProofs [-loopQ_n, hd, hc]))) | ((first | (refine ldD_ep ?_ ?_; (focus kernel_rfl)) | (refine callS_mk ?_; (try simp -implicitDefEqProofs [-loopQ_n]); (first | refine callS_intro (h1) (.inl rfl) ?_))); (try simp -implicitDefEqProofs [-loopQ_n])))))
    all_goals simp [rowsOf]
set_option maxHeartbeats 4000000 in
theorem ceq_pure (l : List Cu) (hl : l.length ≤ 1000000) : Pure Tryz.prog 6 [.rs (rowsOf cuC l), .rs (rowsOf cuC l)] (.bool true) := by
  refine pure_of mixed Tryz.func6 rfl (by kernel_rfl) (of_decide_eq_true rfl) (by kernel_rfl) (vc_run ?_)
  ((try simp -implicitDefEqProofs [-loopQ_n]) <;> (repeat' (first | ((first | refine condD_dec ?_ ?_ | refine guardD_dec ?_ ?_) <;> (intro hc; (try simp -implicitDefEqProofs [-loopQ_n, hc]))) | ((first | refine condD_intro ?_ ?_ | refine guardD_intro ?_ ?_) <;> (intro hd; have hc := hd; (try simp at hc) <;> (try simp -implicitDefEqProofs [-loopQ_n, hd, hc]))) | (refine ldD_ep ?_ ?_; (focus kernel_rfl); (try simp -implicitDefEqProofs [-loopQ_n])))))
  refine loop_intro (σ := Nat) (fun i => ⟨[(0, .rs (rowsOf cuC l)), (1, .rs (rowsOf cuC l)), (12, .int .i64 l.length), (13, .int .i64 i)], []⟩) (fun i => i ≤ l.length) (fun i => l.length - i) 0 (by simp) ?_ ?_
  · refine weak_of 0 0 rfl rfl ?_ ?_ <;> simp
  rintro i hi
  by_cases h : i < l.length
  · have w1 : wrapI .i64 ((i : Int) + 1) = ((i + 1 : Nat) : Int) := by rw [wrap_in (by omega) (by omega)]; omega
    obtain ⟨x, hx⟩ : ∃ x, l[i] = x := ⟨_, rfl⟩
    ((try simp -implicitDefEqProofs [-loopQ_n, h, hx, cuC, w1]) <;> (repeat' (first | ((first | refine condD_dec ?_ ?_ | refine guardD_dec ?_ ?_) <;> (intro hc; (try simp -implicitDefEqProofs [-loopQ_n, hc, h, hx, cuC, w1]))) | ((first | refine condD_intro ?_ ?_ | refine guardD_intro ?_ ?_) <;> (intro hd; have hc := hd; (try simp at hc) <;> (try simp -implicitDefEqProofs [-loopQ_n, hd, hc, h, hx, cuC, w1]))) | (refine ldD_ep ?_ ?_; (focus kernel_rfl); (try simp -implicitDefEqProofs [-loopQ_n, h, hx, cuC, w1])))))
    refine loop_next (i + 1) h (by omega) (weak_of 0 0 rfl rfl ?_ ?_) <;> simp
  · have : i = l.length := by omega
    subst this
    ((try simp -implicitDefEqProofs [-loopQ_n, h]) <;> (repeat' (first | ((first | refine condD_dec ?_ ?_ | refine guardD_dec ?_ ?_) <;> (intro hc; (try simp -implicitDefEqProofs [-loopQ_n, hc, h]))) | ((first | refine condD_intro ?_ ?_ | refine guardD_intro ?_ ?_) <;> (intro hd; have hc := hd; (try simp at hc) <;> (try simp -implicitDefEqProofs [-loopQ_n, hd, hc, h]))) | (refine ldD_ep ?_ ?_; (focus kernel_rfl); (try simp -implicitDefEqProofs [-loopQ_n, h])))))
theorem Valid_pure (x : List Cu) (m : Int) (hx : CustOk x) (hm : 1 ≤ m ∧ m ≤ 20) (hid : serveL (fr0 m.toNat) x = x) : Pure Tryz.prog 10 [.rs (rowsOf cuC x), .int .i64 m] (.bool true) := by
  have h1 := Serve_pure x m hx
  have hlen := hx.len
  have h2 := ceq_pure x (by omega)
  rw [servR, if_pos hm, hid, cusA] at h1
  refine pure_of mixed Tryz.func10 rfl (by kernel_rfl) (of_decide_eq_true rfl) (by kernel_rfl) (vc_run ?_)
  ((try simp -implicitDefEqProofs [-loopQ_n]) <;> (repeat' (first | ((first | refine condD_dec ?_ ?_ | refine guardD_dec ?_ ?_) <;> (intro hc; (try simp -implicitDefEqProofs [-loopQ_n, hc]))) | ((first | refine condD_intro ?_ ?_ | refine guardD_intro ?_ ?_) <;> (intro hd; have hc := hd; (try simp at hc) <;> (try simp -implicitDefEqProofs [-loopQ_n, hd, hc]))) | ((first | (refine ldD_ep ?_ ?_; (focus kernel_rfl)) | (refine callS_mk ?_; (try simp -implicitDefEqProofs [-loopQ_n]); (first | refine callS_intro (h1) (.inr ⟨rfl, rfl⟩) ?_ | refine callS_intro (h2) (.inl rfl) ?_))); (try simp -implicitDefEqProofs [-loopQ_n])))))
def badW (c : Cu) : Bool := decide (c.st < c.a) || decide (4503599627370496 < c.st)
theorem waits1_pure (c : Cu) : Pure Tryz.prog 26 [.agg (cuC c)] (.bool (badW c)) := by
  refine pure_of mixed Tryz.func26 rfl (by kernel_rfl) (of_decide_eq_true rfl) (by kernel_rfl) (vc_run ?_)
  ((try simp -implicitDefEqProofs [-loopQ_n, cuC]) <;> (repeat' (first | ((first | refine condD_dec ?_ ?_ | refine guardD_dec ?_ ?_) <;> (intro hc; (try simp -implicitDefEqProofs [-loopQ_n, hc, cuC]))) | ((first | refine condD_intro ?_ ?_ | refine guardD_intro ?_ ?_) <;> (intro hd; have hc := hd; (try simp at hc) <;> (try simp -implicitDefEqProofs [-loopQ_n, hd, hc, cuC]))) | (refine ldD_ep ?_ ?_; (focus kernel_rfl); (try simp -implicitDefEqProofs [-loopQ_n, cuC])))))
  all_goals simp [badW]
  all_goals omega
def waitL (x : List Cu) : List Int := x.map fun c => c.st - c.a
set_option maxHeartbeats 4000000 in
theorem Waits_pure (x : List Cu) (hx : CustOk x) (hb : ∀ c ∈ x, c.a ≤ c.st ∧ c.st ≤ 64424509440) : Pure Tryz.prog 8 [.rs (rowsOf cuC x)] (.tup [.rs (rowsOf intC (waitL x)), .int .i64 0]) := by
  have hlen := hx.len
  have h1 := sproper_pure x hx
  have hA := dvK_any (p := badW) (l := x) (g := 26) (caps := []) (fun c _ => by have := waits1_pure c; simp only [cuC] at this ⊢; exact this) (fun H k => rfl) rfl (by omega)
  have hany : x.any badW = false := by
    rw [List.any_eq_false]
    intro c hc
    have := hb c hc
    simp [badW]
    omega
  rw [hany] at hA
  refine pure_of mixed Tryz.func8 rfl (by kernel_rfl) (of_decide_eq_true rfl) (by kernel_rfl) (vc_run ?_)
  ((try simp -implicitDefEqProofs [-loopQ_n]) <;> (repeat' (first | ((first | refine condD_dec ?_ ?_ | refine guardD_dec ?_ ?_) <;> (intro hc; (try simp -implicitDefEqProofs [-loopQ_n, hc]))) | ((first | refine condD_intro ?_ ?_ | refine guardD_intro ?_ ?_) <;> (intro hd; have hc := hd; (try simp at hc) <;> (try simp -implicitDefEqProofs [-loopQ_n, hd, hc]))) | ((first | (refine ldD_ep ?_ ?_; (focus kernel_rfl)) | (refine callS_mk ?_; (try simp -implicitDefEqProofs [-loopQ_n]); (first | refine callS_intro (h1) (.inl rfl) ?_ | refine callS_intro (hA) (.inl rfl) ?_))); (try simp -implicitDefEqProofs [-loopQ_n])))))
  refine loop_intro (σ := Nat) (fun i => ⟨[(4, .os 0 i), (14, .rs (rowsOf cuC x)), (15, .int .i64 x.length), (16, .int .i64 i)], [.row 3 true (rowsOf intC (waitL (x.take i)))]⟩) (fun i => i ≤ x.length) (fun i => x.length - i) 0 (by simp) ?_ ?_
  · refine weak_of 0 1 rfl rfl ?_ ?_ <;> simp [waitL, rowsOf]
  rintro i hi
  by_cases h : i < x.length
  · have w1 : wrapI .i64 ((i : Int) + 1) = ((i + 1 : Nat) : Int) := by rw [wrap_in (by omega) (by omega)]; omega
    have hbc := hb x[i] (List.getElem_mem h)
    have hba := hx.bd x[i] (List.getElem_mem h)
    have hsn : rowsOf intC (waitL (x.take i)) ++ [[AV.int .i64 (x[i].st - x[i].a)]] = rowsOf intC (waitL (x.take (i + 1))) := by
      rw [List.take_succ_eq_append_getElem h]; simp only [waitL, rowsOf, List.map_append, List.map_cons, List.map_nil, intC]
    have hwl : (waitL (x.take i)).length = i := by simp [waitL]; omega
    obtain ⟨c, hc⟩ : ∃ c, x[i] = c := ⟨_, rfl⟩
    rw [hc] at hbc hba hsn
    have w2 : wrapI .i64 (c.st - c.a) = c.st - c.a := wrap_in (by omega) (by omega)
    have hap : i + 1 ≤ 1073741824 := by omega
    ((try simp -implicitDefEqProofs [-loopQ_n, h, hc, cuC, w1, w2, hwl, hap, hsn]) <;> (repeat' (first | ((first | refine condD_dec ?_ ?_ | refine guardD_dec ?_ ?_) <;> (intro hc; (try simp -implicitDefEqProofs [-loopQ_n, hc, h, hc, cuC, w1, w2, hwl, hap, hsn]))) | ((first | refine condD_intro ?_ ?_ | refine guardD_intro ?_ ?_) <;> (intro hd; have hc := hd; (try simp at hc) <;> (try simp -implicitDefEqProofs [-loopQ_n, hd, hc, h, hc, cuC, w1, w2, hwl, hap, hsn]))) | (refine ldD_ep ?_ ?_; (focus kernel_rfl); (try simp -implicitDefEqProofs [-loopQ_n, h, hc, cuC, w1, w2, hwl, hap, hsn])))))
    refine loop_next (i + 1) h (by omega) (weak_of 1 0 rfl rfl ?_ ?_) <;> simp [refs, ni_refs]
  · have : i = x.length := by omega
    subst this
    have hwl : (waitL x).length = x.length := by simp [waitL]
    ((try simp -implicitDefEqProofs [-loopQ_n, h]) <;> (repeat' (first | ((first | refine condD_dec ?_ ?_ | refine guardD_dec ?_ ?_) <;> (intro hc; (try simp -implicitDefEqProofs [-loopQ_n, hc, h]))) | ((first | refine condD_intro ?_ ?_ | refine guardD_intro ?_ ?_) <;> (intro hd; have hc := hd; (try simp at hc) <;> (try simp -implicitDefEqProofs [-loopQ_n, hd, hc, h]))) | (refine ldD_ep ?_ ?_; (focus kernel_rfl); (try simp -implicitDefEqProofs [-loopQ_n, h])))))
    all_goals simp [ni_reify, hwl]
def sumW (x : List Cu) : Int := (waitL x).sum
theorem sumW_succ {x : List Cu} {i : Nat} (h : i < x.length) : sumW (x.take (i + 1)) = sumW (x.take i) + (x[i].st - x[i].a) := by
  unfold sumW waitL
  rw [List.take_succ_eq_append_getElem h, List.map_append, List.sum_append]; simp
theorem sumW_bd {x : List Cu} (h : ∀ c ∈ x, 0 ≤ c.a ∧ c.a ≤ c.st ∧ c.st ≤ 64424509440) : 0 ≤ sumW x ∧ sumW x ≤ x.length * 64424509440 := by
  have := sum_bd (M := 64424509440) (waitL x) fun w hw => by
    obtain ⟨c, hc, rfl⟩ := List.mem_map.1 hw
    have := h c hc
    omega
  simpa [sumW, waitL] using this
def lsC (l : List Cu) : List AV := [.rs (rowsOf cuC l)]
set_option maxHeartbeats 8000000 in
theorem Replicate_pure (h1 h2 : AV) (L X : List Cu) (seed : Int) (n : Nat) (m : Int) (hC : Pure Tryz.prog 5 [h1, h2, .int .i64 seed, .int .i64 n] (cusA (L, 0))) (hS : Pure Tryz.prog 7 [.rs (rowsOf cuC L), .int .i64 m] (cusA (X, 0)))
    (hb : ∀ c ∈ X, 0 ≤ c.a ∧ c.a ≤ c.st ∧ c.st ≤ 64424509440) (hX : X.length ≤ 30) (e c e2 c2 : List Int) (e1 : h1 = .agg [.rs (rowsOf intC e), .rs (rowsOf intC c)]) (e2' : h2 = .agg [.rs (rowsOf intC e2), .rs (rowsOf intC c2)]) :
    Pure Tryz.prog 9 [h1, h2, .int .i64 m, .int .i64 n, .rs (rowsOf intC [seed])] (.tup [.rs (rowsOf intC [sumW X]), .int .i64 0]) := by
  subst e1 e2'
  unfold cusA at hC hS
  have hbt : ∀ i, 0 ≤ sumW (X.take i) ∧ sumW (X.take i) ≤ 30 * 64424509440 := fun i => by
    have h := sumW_bd (x := X.take i) fun c hc => hb c (List.mem_of_mem_take hc)
    have h2 : ((X.take i).length : Int) ≤ 30 := by rw [List.length_take]; omega
    omega
  refine pure_of mixed Tryz.func9 rfl (by kernel_rfl) (of_decide_eq_true rfl) (by kernel_rfl) (vc_run ?_)
  ((try simp -implicitDefEqProofs [-loopQ_n, rowsOf, intC]) <;> (repeat' (first | ((first | refine condD_dec ?_ ?_ | refine guardD_dec ?_ ?_) <;> (intro hc; (try simp -implicitDefEqProofs [-loopQ_n, hc, rowsOf, intC]))) | ((first | refine condD_intro ?_ ?_ | refine guardD_intro ?_ ?_) <;> (intro hd; have hc := hd; (try simp at hc) <;> (try simp -implicitDefEqProofs [-loopQ_n, hd, hc, rowsOf, intC]))) | (refine ldD_ep ?_ ?_; (focus kernel_rfl); (try simp -implicitDefEqProofs [-loopQ_n, rowsOf, intC])))))
  refine loop_intro (σ := Nat) (fun i => ⟨[(2, .int .i64 m), (3, .int .i64 n), (5, .op 0 0), (6, .op 1 0), (12, .os 2 i), (28, .rs [[.int .i64 seed]]), (29, .int .i64 1), (30, .int .i64 i)], [.box 24 [.rs (rowsOf intC e), .rs (rowsOf intC c)], .box 24 [.rs (rowsOf intC e2), .rs (rowsOf intC c2)], .row 26 true (rowsOf lsC (List.replicate i L))]⟩) (fun i => i ≤ 1) (fun i => 1 - i) 0 (by simp) ?_ ?_
  · refine weak_of 2 1 rfl rfl ?_ ?_ <;> simp [rowsOf]
  rintro i hi
  by_cases h : i < 1
  · have : i = 0 := by omega
    subst this
    have w1 : wrapI .i64 1 = 1 := wrap_in (by omega) (by omega)
    ((try simp -implicitDefEqProofs [-loopQ_n, w1, roS]) <;> (repeat' (first | ((first | refine condD_dec ?_ ?_ | refine guardD_dec ?_ ?_) <;> (intro hc; (try simp -implicitDefEqProofs [-loopQ_n, hc, w1, roS]))) | ((first | refine condD_intro ?_ ?_ | refine guardD_intro ?_ ?_) <;> (intro hd; have hc := hd; (try simp at hc) <;> (try simp -implicitDefEqProofs [-loopQ_n, hd, hc, w1, roS]))) | ((first | (refine ldD_ep ?_ ?_; (focus kernel_rfl)) | (refine callS_mk ?_; (try simp -implicitDefEqProofs [-loopQ_n, w1, roS]); (first | refine callS_intro (hC) (.inr ⟨rfl, rfl⟩) ?_))); (try simp -implicitDefEqProofs [-loopQ_n, w1, roS])))))
    refine loop_next 1 (by omega) (by omega) (weak_of 3 0 rfl rfl ?_ ?_)
    · simp [refs]
    · simp [rowsOf, lsC, refs, refsL, refsR]
  have : i = 1 := by omega
  subst this
  ((try simp -implicitDefEqProofs [-loopQ_n]) <;> (repeat' (first | ((first | refine condD_dec ?_ ?_ | refine guardD_dec ?_ ?_) <;> (intro hc; (try simp -implicitDefEqProofs [-loopQ_n, hc]))) | ((first | refine condD_intro ?_ ?_ | refine guardD_intro ?_ ?_) <;> (intro hd; have hc := hd; (try simp at hc) <;> (try simp -implicitDefEqProofs [-loopQ_n, hd, hc]))) | (refine ldD_ep ?_ ?_; (focus kernel_rfl); (try simp -implicitDefEqProofs [-loopQ_n])))))
  refine loop_intro (σ := Nat) (fun i => ⟨[(2, .int .i64 m), (17, .os 3 i), (50, .os 2 1), (51, .int .i64 1), (52, .int .i64 i)], [.gone, .gone, .row 26 true (rowsOf lsC [L]), .row 3 true (rowsOf intC (List.replicate i (sumW X)))]⟩) (fun i => i ≤ 1) (fun i => 1 - i) 0 (by simp) ?_ ?_
  · refine weak_of 3 1 rfl rfl ?_ ?_ <;> simp [rowsOf, lsC, refs, refsL, refsR]
  rintro i hi
  by_cases h : i < 1
  · have : i = 0 := by omega
    subst this
    have w1 : wrapI .i64 1 = 1 := wrap_in (by omega) (by omega)
    have hap : 0 + 1 ≤ 1073741824 := by omega
    ((try simp -implicitDefEqProofs [-loopQ_n, rowsOf, lsC]) <;> (repeat' (first | ((first | refine condD_dec ?_ ?_ | refine guardD_dec ?_ ?_) <;> (intro hc; (try simp -implicitDefEqProofs [-loopQ_n, hc, rowsOf, lsC]))) | ((first | refine condD_intro ?_ ?_ | refine guardD_intro ?_ ?_) <;> (intro hd; have hc := hd; (try simp at hc) <;> (try simp -implicitDefEqProofs [-loopQ_n, hd, hc, rowsOf, lsC]))) | ((first | (refine ldD_ep ?_ ?_; (focus kernel_rfl)) | (refine callS_mk ?_; (try simp -implicitDefEqProofs [-loopQ_n, rowsOf, lsC]); (first | refine callS_intro (hS) (.inr ⟨rfl, rfl⟩) ?_))); (try simp -implicitDefEqProofs [-loopQ_n, rowsOf, lsC])))))
    refine loop_intro (σ := Nat) (fun j => ⟨[(2, .int .i64 m), (17, .os 3 0), (22, .int .i64 (sumW (X.take j))), (50, .os 2 1), (51, .int .i64 1), (52, .int .i64 0), (65, .rs (rowsOf cuC X)), (66, .int .i64 X.length), (67, .int .i64 j)], [.gone, .gone, .row 26 true (rowsOf lsC [L]), .row 3 true (rowsOf intC [])]⟩) (fun j => j ≤ X.length) (fun j => X.length - j) 0 (by simp) ?_ ?_
    · refine weak_of 4 0 rfl rfl ?_ ?_ <;> simp [rowsOf, lsC, refs, refsL, refsR, sumW, waitL]
    rintro j hj
    by_cases g : j < X.length
    · have v1 : wrapI .i64 ((j : Int) + 1) = ((j + 1 : Nat) : Int) := by rw [wrap_in (by omega) (by omega)]; omega
      have hs := sumW_succ g
      have hb1 := hbt (j + 1)
      have hb2 := hb X[j] (List.getElem_mem g)
      obtain ⟨c, hc⟩ : ∃ c, X[j] = c := ⟨_, rfl⟩
      rw [hc] at hs hb2
      have v2 : wrapI .i64 (c.st - c.a) = c.st - c.a := wrap_in (by omega) (by omega)
      have v3 : wrapI .i64 (sumW (X.take j) + (c.st - c.a)) = sumW (X.take (j + 1)) := by rw [hs, wrap_in (by omega) (by omega)]
      ((try simp -implicitDefEqProofs [-loopQ_n, g, hc, cuC, v1, v2, v3]) <;> (repeat' (first | ((first | refine condD_dec ?_ ?_ | refine guardD_dec ?_ ?_) <;> (intro hc; (try simp -implicitDefEqProofs [-loopQ_n, hc, g, hc, cuC, v1, v2, v3]))) | ((first | refine condD_intro ?_ ?_ | refine guardD_intro ?_ ?_) <;> (intro hd; have hc := hd; (try simp at hc) <;> (try simp -implicitDefEqProofs [-loopQ_n, hd, hc, g, hc, cuC, v1, v2, v3]))) | (refine ldD_ep ?_ ?_; (focus kernel_rfl); (try simp -implicitDefEqProofs [-loopQ_n, g, hc, cuC, v1, v2, v3])))))
      refine loop_next (j + 1) g (by omega) (weak_of 4 0 rfl rfl ?_ ?_) <;> simp [rowsOf, lsC, refs, refsL, refsR]
    · have : j = X.length := by omega
      subst this
      ((try simp -implicitDefEqProofs [-loopQ_n, g, w1]) <;> (repeat' (first | ((first | refine condD_dec ?_ ?_ | refine guardD_dec ?_ ?_) <;> (intro hc; (try simp -implicitDefEqProofs [-loopQ_n, hc, g, w1]))) | ((first | refine condD_intro ?_ ?_ | refine guardD_intro ?_ ?_) <;> (intro hd; have hc := hd; (try simp at hc) <;> (try simp -implicitDefEqProofs [-loopQ_n, hd, hc, g, w1]))) | (refine ldD_ep ?_ ?_; (focus kernel_rfl); (try simp -implicitDefEqProofs [-loopQ_n, g, w1])))))
      refine loop_next 1 (by omega) (by omega) (weak_of 4 0 rfl rfl ?_ ?_) <;> simp [rowsOf, lsC, refs, refsL, refsR, intC]
  have : i = 1 := by omega
  subst this
  ((try simp -implicitDefEqProofs [-loopQ_n]) <;> (repeat' (first | ((first | refine condD_dec ?_ ?_ | refine guardD_dec ?_ ?_) <;> (intro hc; (try simp -implicitDefEqProofs [-loopQ_n, hc]))) | ((first | refine condD_intro ?_ ?_ | refine guardD_intro ?_ ?_) <;> (intro hd; have hc := hd; (try simp at hc) <;> (try simp -implicitDefEqProofs [-loopQ_n, hd, hc]))) | (refine ldD_ep ?_ ?_; (focus kernel_rfl); (try simp -implicitDefEqProofs [-loopQ_n])))))
  all_goals simp [rowsOf, intC, reify]
end Go.Proofs.YthiclaihlpkinaaGreat
