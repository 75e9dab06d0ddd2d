/- Texts of instants: the reference's Parse. -/
import Derived.Test.YtlnnboegghjdhaaDoorClkZ
namespace Go.Proofs.YtlnnboegghjdhaaDoor
set_option linter.unusedSimpArgs false
set_option linter.unusedVariables false
set_option linter.unnecessarySimpa false
set_option linter.unusedSectionVars false
open Go.RowKit
variable [Glob]
set_option maxRecDepth 100000
def tokN : Nat → Bt → Nat
  | 0, _ => 0
  | _ + 1, [] => 0
  | n + 1, c :: r => if dg c = true then tokN n r + 1 else 0
theorem tok_ok : ∀ (n : Nat) (l : Bt), tokN n l ≤ n ∧ tokN n l ≤ l.length ∧ (l.take (tokN n l)).all dg = true ∧ (tokN n l < n → ∀ c, l[tokN n l]? = some c → dg c = false) := by
  intro n
  induction n with
  | zero => intro l; simp [tokN]
  | succ n ih =>
    intro l
    cases l with
    | nil => simp [tokN]
    | cons c r =>
      obtain ⟨h1, h2, h3, h4⟩ := ih r
      by_cases hc : dg c = true
      · have e : tokN (n + 1) (c :: r) = tokN n r + 1 := by simp [tokN, hc]
        rw [e]
        refine ⟨by omega, by simp; omega, by simp only [List.take_succ_cons, List.all_cons, hc, h3, Bool.and_self], fun h x hx => ?_⟩
        rw [List.getElem?_cons_succ] at hx
        exact h4 (by omega) x hx
      · have e : tokN (n + 1) (c :: r) = 0 := by simp [tokN, hc]
        rw [e]
        refine ⟨by omega, by simp, by simp, fun h x hx => ?_⟩
        simp at hx
        subst hx
        simpa using hc
theorem tok_app : ∀ (n : Nat) (D : Bt) (c : UInt8) (R : Bt), D.all dg = true → D.length ≤ n → dg c = false → tokN n (D ++ c :: R) = D.length := by
  intro n
  induction n with
  | zero => intro D c R _ h _; simp [tokN]; omega
  | succ n ih =>
    intro D c R hD hl hc
    cases D with
    | nil => simp [tokN, hc]
    | cons x D =>
      simp only [List.all_cons, Bool.and_eq_true] at hD
      simp only [List.cons_append, tokN, if_pos hD.1, List.length_cons]
      rw [ih D c R hD.2 (by simpa using hl) hc]
theorem tok_good {l D : Bt} {a b c d : UInt8} (h : Good l D a b c d) : tokN 9 l = D.length := by
  rw [h.eq]; exact tok_app 9 D 100 _ h.dig h.nine dg_100
theorem tn1 {i : Nat} : ((i : Int) + 1).toNat = i + 1 := by omega
theorem tn2 {i : Nat} : ((i : Int) + 2).toNat = i + 2 := by omega
theorem tn3 {i : Nat} : ((i : Int) + 3).toNat = i + 3 := by omega
theorem tn4 {i : Nat} : ((i : Int) + 4).toNat = i + 4 := by omega
theorem tn5 {i : Nat} : ((i : Int) + 5).toNat = i + 5 := by omega
theorem tn6 {i : Nat} : ((i : Int) + 6).toNat = i + 6 := by omega
theorem seven {l : Bt} (h : l.length = 7) : ∃ y0 y1 y2 y3 y4 y5 y6, l = [y0, y1, y2, y3, y4, y5, y6] := by
  match l, h with
  | [a, b, c, d, e, f, g], _ => exact ⟨a, b, c, d, e, f, g, rfl⟩
def intR (l : List Int) : List (List AV) := l.map fun n => [.int .i64 n]
set_option maxHeartbeats 16000000 in
theorem rparse_pure (s : ByteArray) (hs : s.size ≤ 1000) : Pure Tryd.prog 8 [.str s] (parT (parseL (bl s))) := by
  obtain ⟨R, hR⟩ : ∃ R, parseL (bl s) = R := ⟨_, rfl⟩
  have rbad : (∀ D a b c d, ¬ Good (bl s) D a b c d) → R = (0, 3) := fun h => by rw [← hR, parseL_bad h]
  have rgood : ∀ D a b c d, Good (bl s) D a b c d → R = finV D a b c d := fun D a b c d h => by rw [← hR, parseL_good h]
  have htok : ∀ D a b c d, Good (bl s) D a b c d → tokN 9 (bl s) = D.length := fun D a b c d h => tok_good h
  obtain ⟨t1, t2, t3, t4⟩ := tok_ok 9 (bl s)
  have hcl : (bl s).length = s.size := by simp [bl]
  rw [hR]
  clear hR
  generalize tokN 9 (bl s) = K at *
  have hget : ∀ (i : Nat) (h : i < (bl s).length), s.data[i]? = some (bl s)[i] := fun i h => by simp [bl, Array.getElem?_eq_getElem (show i < s.data.size by simpa using h)]
  have hgetE : ∀ (i : Nat) (h : i < (bl s).length) (h' : i < s.data.size), s.data[i]'h' = (bl s)[i] := fun i h h' => by simp [bl]
  have hg2 : ∀ (i : Nat) (c : UInt8), (bl s)[i]? = some c → s.data[i]? = some c ∧ ∀ h' : i < s.data.size, s.data[i]'h' = c := fun i c h => by
    have h1 := (List.getElem?_eq_some_iff.1 h)
    obtain ⟨h1, h2⟩ := h1
    exact ⟨by rw [hget i h1, h2], fun h' => by rw [hgetE i h1 h', h2]⟩
  refine pure_of mixed Tryd.func8 rfl (by kernel_rfl) (of_decide_eq_true rfl) (by kernel_rfl) (vc_run ?_)
  ((try simp -implicitDefEqProofs [-loopQ_n]) <;> (repeat' (first | (refine condD_dec ?_ ?_ <;> (intro hc; (try simp -implicitDefEqProofs [-loopQ_n, hc]))) | (refine guardD_dec ?_ ?_ <;> (intro hc; (try simp -implicitDefEqProofs [-loopQ_n, hc]))) | (refine condD_intro ?_ ?_ <;> (intro hd; have hc := hd; (try simp at hc) <;> (try simp -implicitDefEqProofs [-loopQ_n, hd, hc]))) | (refine guardD_intro ?_ ?_ <;> (intro hd; have hc := hd; (try simp at hc) <;> (try simp -implicitDefEqProofs [-loopQ_n, hd, hc]))) | (refine ldD_ep ?_ ?_; (focus kernel_rfl); (try simp -implicitDefEqProofs [-loopQ_n])))))
  refine loop_intro (σ := Nat × Int) (fun x => ⟨[(0, .str s), (4, .int .i64 x.1), (5, .int .i64 x.2)], []⟩) (fun x => x.1 ≤ K ∧ val 0 ((bl s).take x.1) = x.2) (fun x => K - x.1) (0, 0) ⟨by simp, by simp [val]⟩ ?_ ?_
  · refine weak_of 0 0 rfl rfl ?_ ?_ <;> simp
  rintro ⟨i, n⟩ ⟨hi, hn⟩
  simp only at hi hn
  by_cases h : i < K
  · have hil : i < (bl s).length := by omega
    obtain ⟨c, hc⟩ : ∃ c, (bl s)[i] = c := ⟨_, rfl⟩
    have g1 := hget i hil
    have g2 := fun h' => hgetE i hil h'
    rw [hc] at g1
    simp only [hc] at g2
    have hd : ((bl s).take i).all dg = true := by
      rw [List.all_eq_true] at t3 ⊢
      intro x hx
      refine t3 x ?_
      have : (bl s).take i = ((bl s).take K).take i := by rw [List.take_take, Nat.min_eq_left (by omega)]
      rw [this] at hx
      exact List.mem_of_mem_take hx
    have hdc : dg c = true := by
      have := all_get t3 (i := i) (by simp; omega)
      rwa [List.getElem_take, hc] at this
    have b1 := val0_bd hd (by simp; omega)
    rw [hn] at b1
    have hdb := dg_iff.1 hdc
    have h1 : (i : Int) < s.size := by omega
    have h1' : i < s.size := by omega
    have h2 : (i : Int) < 9 := by omega
    have h2' : i < 9 := by omega
    have h3 : (48 : Int) ≤ c.toNat := by omega
    have h4 : (c.toNat : Int) ≤ 57 := by omega
    have w1 : wrapI .i64 ((i : Int) + 1) = (i : Int) + 1 := wrap_in (by omega) (by omega)
    have w2 : wrapI .i64 (n * 10) = n * 10 := wrap_in (by omega) (by omega)
    have w3 : wrapI .i64 (n * 10 + (c.toNat : Int)) = n * 10 + (c.toNat : Int) := wrap_in (by omega) (by omega)
    have w5 : wrapI .i64 ((c.toNat : Int)) = (c.toNat : Int) := wrap_in (by omega) (by omega)
    have w4 : wrapI .i64 (n * 10 + (c.toNat : Int) - 48) = 10 * n + dv c := by rw [wrap_in (by omega) (by omega)]; unfold dv; omega
    ((try simp -implicitDefEqProofs [-loopQ_n, h1, h1', h2, h2', h3, h4, hdb, g1, g2, w1, w2, w3, w4, w5]) <;> (repeat' (first | (refine condD_dec ?_ ?_ <;> (intro hc; (try simp -implicitDefEqProofs [-loopQ_n, hc, h1, h1', h2, h2', h3, h4, hdb, g1, g2, w1, w2, w3, w4, w5]))) | (refine guardD_dec ?_ ?_ <;> (intro hc; (try simp -implicitDefEqProofs [-loopQ_n, hc, h1, h1', h2, h2', h3, h4, hdb, g1, g2, w1, w2, w3, w4, w5]))) | (refine condD_intro ?_ ?_ <;> (intro hd; have hc := hd; (try simp at hc) <;> (try simp -implicitDefEqProofs [-loopQ_n, hd, hc, h1, h1', h2, h2', h3, h4, hdb, g1, g2, w1, w2, w3, w4, w5]))) | (refine guardD_intro ?_ ?_ <;> (intro hd; have hc := hd; (try simp at hc) <;> (try simp -implicitDefEqProofs [-loopQ_n, hd, hc, h1, h1', h2, h2', h3, h4, hdb, g1, g2, w1, w2, w3, w4, w5]))) | (refine ldD_ep ?_ ?_; (focus kernel_rfl); (try simp -implicitDefEqProofs [-loopQ_n, h1, h1', h2, h2', h3, h4, hdb, g1, g2, w1, w2, w3, w4, w5])))))
    all_goals (try (exfalso; omega))
    refine loop_next (i + 1, 10 * n + dv c) ⟨by simp only; omega, ?_⟩ (by simp only; omega) (weak_of 0 0 rfl rfl ?_ ?_) <;> try simp [w1, w4]
    rw [← List.take_append_getElem hil, hc, val_snoc, hn]
  have hiK : i = K := by omega
  subst hiK
  clear h hi
  have bV := val0_bd t3 (by simp; omega)
  rw [hn] at bV
  have z1 : (0 : Int) ≤ (i : Int) + 1 := by omega
  have z2 : (0 : Int) ≤ (i : Int) + 2 := by omega
  have z3 : (0 : Int) ≤ (i : Int) + 3 := by omega
  have z4 : (0 : Int) ≤ (i : Int) + 4 := by omega
  have z5 : (0 : Int) ≤ (i : Int) + 5 := by omega
  have z6 : (0 : Int) ≤ (i : Int) + 6 := by omega
  have w1 : wrapI .i64 ((i : Int) + 1) = (i : Int) + 1 := wrap_in (by omega) (by omega)
  have w2 : wrapI .i64 ((i : Int) + 2) = (i : Int) + 2 := wrap_in (by omega) (by omega)
  have w3 : wrapI .i64 ((i : Int) + 3) = (i : Int) + 3 := wrap_in (by omega) (by omega)
  have w4 : wrapI .i64 ((i : Int) + 4) = (i : Int) + 4 := wrap_in (by omega) (by omega)
  have w5 : wrapI .i64 ((i : Int) + 5) = (i : Int) + 5 := wrap_in (by omega) (by omega)
  have w6 : wrapI .i64 ((i : Int) + 6) = (i : Int) + 6 := wrap_in (by omega) (by omega)
  have w7 : wrapI .i64 ((i : Int) + 7) = (i : Int) + 7 := wrap_in (by omega) (by omega)
  by_cases e1 : i < (bl s).length
  rotate_left
  · have e1' : ¬ (i : Int) < s.size := by omega
    have e1 : ¬ i < s.size := by omega
    by_cases n0 : i = 0
    · subst n0
      have := rbad fun D a b c d h => by
        have h1 := htok D a b c d h
        have h2 := congrArg List.length h.eq
        have h3 := h.eq
        have h4 := h.pos
        have h5 := h.nine
        have h6 := h.lead
        simp at h2
        omega
      subst this
      ((try simp -implicitDefEqProofs [-loopQ_n, parT, e1, e1']) <;> (repeat' (first | (refine condD_dec ?_ ?_ <;> (intro hc; (try simp -implicitDefEqProofs [-loopQ_n, hc, parT, e1, e1']))) | (refine guardD_dec ?_ ?_ <;> (intro hc; (try simp -implicitDefEqProofs [-loopQ_n, hc, parT, e1, e1']))) | (refine condD_intro ?_ ?_ <;> (intro hd; have hc := hd; (try simp at hc) <;> (try simp -implicitDefEqProofs [-loopQ_n, hd, hc, parT, e1, e1']))) | (refine guardD_intro ?_ ?_ <;> (intro hd; have hc := hd; (try simp at hc) <;> (try simp -implicitDefEqProofs [-loopQ_n, hd, hc, parT, e1, e1']))) | (refine ldD_ep ?_ ?_; (focus kernel_rfl); (try simp -implicitDefEqProofs [-loopQ_n, parT, e1, e1'])))))
      all_goals (try (exfalso; omega))
    · have n0' : ¬ (i : Int) = 0 := by omega
      obtain ⟨x0, hx0⟩ : ∃ x0, (bl s)[0]? = some x0 := ⟨_, List.getElem?_eq_getElem (show 0 < (bl s).length by omega)⟩
      obtain ⟨p1, p2⟩ := hg2 0 x0 hx0
      by_cases n1 : 1 < i
      · have n1' : (1 : Int) < i := by omega
        by_cases n2 : x0.toNat = 48
        · have n2' : (x0.toNat : Int) = 48 := by omega
          have := rbad fun D a b c d h => by
            have h1 := htok D a b c d h
            have h2 := congrArg List.length h.eq
            have h3 := h.eq
            have h4 := h.pos
            have h5 := h.nine
            have h6 := h.lead
            simp at h2
            refine h6 ⟨by omega, ?_⟩
            rw [h3] at hx0
            have hD : 0 < D.length := by omega
            rw [List.getElem?_append_left hD] at hx0
            rw [List.head?_eq_getElem?, hx0]
            exact congrArg some (UInt8.toNat_inj.1 n2)
          subst this
          ((try simp -implicitDefEqProofs [-loopQ_n, parT, n0, n0', n1, n1', n2, n2', p1, p2, e1, e1']) <;> (repeat' (first | (refine condD_dec ?_ ?_ <;> (intro hc; (try simp -implicitDefEqProofs [-loopQ_n, hc, parT, n0, n0', n1, n1', n2, n2', p1, p2, e1, e1']))) | (refine guardD_dec ?_ ?_ <;> (intro hc; (try simp -implicitDefEqProofs [-loopQ_n, hc, parT, n0, n0', n1, n1', n2, n2', p1, p2, e1, e1']))) | (refine condD_intro ?_ ?_ <;> (intro hd; have hc := hd; (try simp at hc) <;> (try simp -implicitDefEqProofs [-loopQ_n, hd, hc, parT, n0, n0', n1, n1', n2, n2', p1, p2, e1, e1']))) | (refine guardD_intro ?_ ?_ <;> (intro hd; have hc := hd; (try simp at hc) <;> (try simp -implicitDefEqProofs [-loopQ_n, hd, hc, parT, n0, n0', n1, n1', n2, n2', p1, p2, e1, e1']))) | (refine ldD_ep ?_ ?_; (focus kernel_rfl); (try simp -implicitDefEqProofs [-loopQ_n, parT, n0, n0', n1, n1', n2, n2', p1, p2, e1, e1'])))))
          all_goals (try (exfalso; omega))
        · have n2' : ¬ (x0.toNat : Int) = 48 := by omega
          have n3 : ¬ (s.size : Int) = (i : Int) + 7 := by omega
          have n3' : ¬ s.size = i + 7 := by omega
          have := rbad fun D a b c d h => by
            have h1 := htok D a b c d h
            have h2 := congrArg List.length h.eq
            have h3 := h.eq
            have h4 := h.pos
            have h5 := h.nine
            have h6 := h.lead
            simp at h2
            omega
          subst this
          ((try simp -implicitDefEqProofs [-loopQ_n, parT, n0, n0', n1, n1', n2, n2', p1, p2, n3, n3', w7, w1, w2, w3, w4, w5, w6, z1, z2, z3, z4, z5, z6, tn1, tn2, tn3, tn4, tn5, tn6, e1, e1']) <;> (repeat' (first | (refine condD_dec ?_ ?_ <;> (intro hc; (try simp -implicitDefEqProofs [-loopQ_n, hc, parT, n0, n0', n1, n1', n2, n2', p1, p2, n3, n3', w7, w1, w2, w3, w4, w5, w6, z1, z2, z3, z4, z5, z6, tn1, tn2, tn3, tn4, tn5, tn6, e1, e1']))) | (refine guardD_dec ?_ ?_ <;> (intro hc; (try simp -implicitDefEqProofs [-loopQ_n, hc, parT, n0, n0', n1, n1', n2, n2', p1, p2, n3, n3', w7, w1, w2, w3, w4, w5, w6, z1, z2, z3, z4, z5, z6, tn1, tn2, tn3, tn4, tn5, tn6, e1, e1']))) | (refine condD_intro ?_ ?_ <;> (intro hd; have hc := hd; (try simp at hc) <;> (try simp -implicitDefEqProofs [-loopQ_n, hd, hc, parT, n0, n0', n1, n1', n2, n2', p1, p2, n3, n3', w7, w1, w2, w3, w4, w5, w6, z1, z2, z3, z4, z5, z6, tn1, tn2, tn3, tn4, tn5, tn6, e1, e1']))) | (refine guardD_intro ?_ ?_ <;> (intro hd; have hc := hd; (try simp at hc) <;> (try simp -implicitDefEqProofs [-loopQ_n, hd, hc, parT, n0, n0', n1, n1', n2, n2', p1, p2, n3, n3', w7, w1, w2, w3, w4, w5, w6, z1, z2, z3, z4, z5, z6, tn1, tn2, tn3, tn4, tn5, tn6, e1, e1']))) | (refine ldD_ep ?_ ?_; (focus kernel_rfl); (try simp -implicitDefEqProofs [-loopQ_n, parT, n0, n0', n1, n1', n2, n2', p1, p2, n3, n3', w7, w1, w2, w3, w4, w5, w6, z1, z2, z3, z4, z5, z6, tn1, tn2, tn3, tn4, tn5, tn6, e1, e1'])))))
          all_goals (try (exfalso; omega))
      · have n1' : ¬ (1 : Int) < i := by omega
        have n3 : ¬ (s.size : Int) = (i : Int) + 7 := by omega
        have n3' : ¬ s.size = i + 7 := by omega
        have := rbad fun D a b c d h => by
          have h1 := htok D a b c d h
          have h2 := congrArg List.length h.eq
          have h3 := h.eq
          have h4 := h.pos
          have h5 := h.nine
          have h6 := h.lead
          simp at h2
          omega
        subst this
        ((try simp -implicitDefEqProofs [-loopQ_n, parT, n0, n0', n1, n1', p1, p2, n3, n3', w7, w1, w2, w3, w4, w5, w6, z1, z2, z3, z4, z5, z6, tn1, tn2, tn3, tn4, tn5, tn6, e1, e1']) <;> (repeat' (first | (refine condD_dec ?_ ?_ <;> (intro hc; (try simp -implicitDefEqProofs [-loopQ_n, hc, parT, n0, n0', n1, n1', p1, p2, n3, n3', w7, w1, w2, w3, w4, w5, w6, z1, z2, z3, z4, z5, z6, tn1, tn2, tn3, tn4, tn5, tn6, e1, e1']))) | (refine guardD_dec ?_ ?_ <;> (intro hc; (try simp -implicitDefEqProofs [-loopQ_n, hc, parT, n0, n0', n1, n1', p1, p2, n3, n3', w7, w1, w2, w3, w4, w5, w6, z1, z2, z3, z4, z5, z6, tn1, tn2, tn3, tn4, tn5, tn6, e1, e1']))) | (refine condD_intro ?_ ?_ <;> (intro hd; have hc := hd; (try simp at hc) <;> (try simp -implicitDefEqProofs [-loopQ_n, hd, hc, parT, n0, n0', n1, n1', p1, p2, n3, n3', w7, w1, w2, w3, w4, w5, w6, z1, z2, z3, z4, z5, z6, tn1, tn2, tn3, tn4, tn5, tn6, e1, e1']))) | (refine guardD_intro ?_ ?_ <;> (intro hd; have hc := hd; (try simp at hc) <;> (try simp -implicitDefEqProofs [-loopQ_n, hd, hc, parT, n0, n0', n1, n1', p1, p2, n3, n3', w7, w1, w2, w3, w4, w5, w6, z1, z2, z3, z4, z5, z6, tn1, tn2, tn3, tn4, tn5, tn6, e1, e1']))) | (refine ldD_ep ?_ ?_; (focus kernel_rfl); (try simp -implicitDefEqProofs [-loopQ_n, parT, n0, n0', n1, n1', p1, p2, n3, n3', w7, w1, w2, w3, w4, w5, w6, z1, z2, z3, z4, z5, z6, tn1, tn2, tn3, tn4, tn5, tn6, e1, e1'])))))
        all_goals (try (exfalso; omega))
  have e1' : (i : Int) < s.size := by omega
  have e1 : i < s.size := by omega
  obtain ⟨y, hy⟩ : ∃ y, (bl s)[i]? = some y := ⟨_, List.getElem?_eq_getElem (show i < (bl s).length by omega)⟩
  obtain ⟨q1, q2⟩ := hg2 i y hy
  by_cases e2 : i < 9
  · have e2' : (i : Int) < 9 := by omega
    have hyd := t4 e2 y hy
    by_cases e3' : y.toNat < 48
    · have e3 : ¬ (48 : Int) ≤ y.toNat := by omega
      by_cases n0 : i = 0
      · subst n0
        have := rbad fun D a b c d h => by
          have h1 := htok D a b c d h
          have h2 := congrArg List.length h.eq
          have h3 := h.eq
          have h4 := h.pos
          have h5 := h.nine
          have h6 := h.lead
          simp at h2
          omega
        subst this
        ((try simp -implicitDefEqProofs [-loopQ_n, parT, e1, e1', e2, e2', e3, e3', q1, q2]) <;> (repeat' (first | (refine condD_dec ?_ ?_ <;> (intro hc; (try simp -implicitDefEqProofs [-loopQ_n, hc, parT, e1, e1', e2, e2', e3, e3', q1, q2]))) | (refine guardD_dec ?_ ?_ <;> (intro hc; (try simp -implicitDefEqProofs [-loopQ_n, hc, parT, e1, e1', e2, e2', e3, e3', q1, q2]))) | (refine condD_intro ?_ ?_ <;> (intro hd; have hc := hd; (try simp at hc) <;> (try simp -implicitDefEqProofs [-loopQ_n, hd, hc, parT, e1, e1', e2, e2', e3, e3', q1, q2]))) | (refine guardD_intro ?_ ?_ <;> (intro hd; have hc := hd; (try simp at hc) <;> (try simp -implicitDefEqProofs [-loopQ_n, hd, hc, parT, e1, e1', e2, e2', e3, e3', q1, q2]))) | (refine ldD_ep ?_ ?_; (focus kernel_rfl); (try simp -implicitDefEqProofs [-loopQ_n, parT, e1, e1', e2, e2', e3, e3', q1, q2])))))
        all_goals (try (exfalso; omega))
      · have n0' : ¬ (i : Int) = 0 := by omega
        obtain ⟨x0, hx0⟩ : ∃ x0, (bl s)[0]? = some x0 := ⟨_, List.getElem?_eq_getElem (show 0 < (bl s).length by omega)⟩
        obtain ⟨p1, p2⟩ := hg2 0 x0 hx0
        by_cases n1 : 1 < i
        · have n1' : (1 : Int) < i := by omega
          by_cases n2 : x0.toNat = 48
          · have n2' : (x0.toNat : Int) = 48 := by omega
            have := rbad fun D a b c d h => by
              have h1 := htok D a b c d h
              have h2 := congrArg List.length h.eq
              have h3 := h.eq
              have h4 := h.pos
              have h5 := h.nine
              have h6 := h.lead
              simp at h2
              refine h6 ⟨by omega, ?_⟩
              rw [h3] at hx0
              have hD : 0 < D.length := by omega
              rw [List.getElem?_append_left hD] at hx0
              rw [List.head?_eq_getElem?, hx0]
              exact congrArg some (UInt8.toNat_inj.1 n2)
            subst this
            ((try simp -implicitDefEqProofs [-loopQ_n, parT, n0, n0', n1, n1', n2, n2', p1, p2, e1, e1', e2, e2', e3, e3', q1, q2]) <;> (repeat' (first | (refine condD_dec ?_ ?_ <;> (intro hc; (try simp -implicitDefEqProofs [-loopQ_n, hc, parT, n0, n0', n1, n1', n2, n2', p1, p2, e1, e1', e2, e2', e3, e3', q1, q2]))) | (refine guardD_dec ?_ ?_ <;> (intro hc; (try simp -implicitDefEqProofs [-loopQ_n, hc, parT, n0, n0', n1, n1', n2, n2', p1, p2, e1, e1', e2, e2', e3, e3', q1, q2]))) | (refine condD_intro ?_ ?_ <;> (intro hd; have hc := hd; (try simp at hc) <;> (try simp -implicitDefEqProofs [-loopQ_n, hd, hc, parT, n0, n0', n1, n1', n2, n2', p1, p2, e1, e1', e2, e2', e3, e3', q1, q2]))) | (refine guardD_intro ?_ ?_ <;> (intro hd; have hc := hd; (try simp at hc) <;> (try simp -implicitDefEqProofs [-loopQ_n, hd, hc, parT, n0, n0', n1, n1', n2, n2', p1, p2, e1, e1', e2, e2', e3, e3', q1, q2]))) | (refine ldD_ep ?_ ?_; (focus kernel_rfl); (try simp -implicitDefEqProofs [-loopQ_n, parT, n0, n0', n1, n1', n2, n2', p1, p2, e1, e1', e2, e2', e3, e3', q1, q2])))))
            all_goals (try (exfalso; omega))
          · have n2' : ¬ (x0.toNat : Int) = 48 := by omega
            have n4 : ¬ (y.toNat : Int) = 100 := by omega
            have n4' : ¬ y.toNat = 100 := by omega
            have := rbad fun D a b c d h => by
              have h1 := htok D a b c d h
              have h2 := congrArg List.length h.eq
              have h3 := h.eq
              have h4 := h.pos
              have h5 := h.nine
              have h6 := h.lead
              simp at h2
              rw [h3, h1, List.getElem?_append_right (Nat.le_refl _)] at hy
              simp at hy
              rw [← hy] at e3'
              exact absurd e3' (by decide)
            subst this
            ((try simp -implicitDefEqProofs [-loopQ_n, parT, n0, n0', n1, n1', n2, n2', p1, p2, n4, n4', w7, w1, w2, w3, w4, w5, w6, z1, z2, z3, z4, z5, z6, tn1, tn2, tn3, tn4, tn5, tn6, e1, e1', e2, e2', e3, e3', q1, q2]) <;> (repeat' (first | (refine condD_dec ?_ ?_ <;> (intro hc; (try simp -implicitDefEqProofs [-loopQ_n, hc, parT, n0, n0', n1, n1', n2, n2', p1, p2, n4, n4', w7, w1, w2, w3, w4, w5, w6, z1, z2, z3, z4, z5, z6, tn1, tn2, tn3, tn4, tn5, tn6, e1, e1', e2, e2', e3, e3', q1, q2]))) | (refine guardD_dec ?_ ?_ <;> (intro hc; (try simp -implicitDefEqProofs [-loopQ_n, hc, parT, n0, n0', n1, n1', n2, n2', p1, p2, n4, n4', w7, w1, w2, w3, w4, w5, w6, z1, z2, z3, z4, z5, z6, tn1, tn2, tn3, tn4, tn5, tn6, e1, e1', e2, e2', e3, e3', q1, q2]))) | (refine condD_intro ?_ ?_ <;> (intro hd; have hc := hd; (try simp at hc) <;> (try simp -implicitDefEqProofs [-loopQ_n, hd, hc, parT, n0, n0', n1, n1', n2, n2', p1, p2, n4, n4', w7, w1, w2, w3, w4, w5, w6, z1, z2, z3, z4, z5, z6, tn1, tn2, tn3, tn4, tn5, tn6, e1, e1', e2, e2', e3, e3', q1, q2]))) | (refine guardD_intro ?_ ?_ <;> (intro hd; have hc := hd; (try simp at hc) <;> (try simp -implicitDefEqProofs [-loopQ_n, hd, hc, parT, n0, n0', n1, n1', n2, n2', p1, p2, n4, n4', w7, w1, w2, w3, w4, w5, w6, z1, z2, z3, z4, z5, z6, tn1, tn2, tn3, tn4, tn5, tn6, e1, e1', e2, e2', e3, e3', q1, q2]))) | (refine ldD_ep ?_ ?_; (focus kernel_rfl); (try simp -implicitDefEqProofs [-loopQ_n, parT, n0, n0', n1, n1', n2, n2', p1, p2, n4, n4', w7, w1, w2, w3, w4, w5, w6, z1, z2, z3, z4, z5, z6, tn1, tn2, tn3, tn4, tn5, tn6, e1, e1', e2, e2', e3, e3', q1, q2])))))
            all_goals (try (exfalso; omega))
        · have n1' : ¬ (1 : Int) < i := by omega
          have n4 : ¬ (y.toNat : Int) = 100 := by omega
          have n4' : ¬ y.toNat = 100 := by omega
          have := rbad fun D a b c d h => by
            have h1 := htok D a b c d h
            have h2 := congrArg List.length h.eq
            have h3 := h.eq
            have h4 := h.pos
            have h5 := h.nine
            have h6 := h.lead
            simp at h2
            rw [h3, h1, List.getElem?_append_right (Nat.le_refl _)] at hy
            simp at hy
            rw [← hy] at e3'
            exact absurd e3' (by decide)
          subst this
          ((try simp -implicitDefEqProofs [-loopQ_n, parT, n0, n0', n1, n1', p1, p2, n4, n4', w7, w1, w2, w3, w4, w5, w6, z1, z2, z3, z4, z5, z6, tn1, tn2, tn3, tn4, tn5, tn6, e1, e1', e2, e2', e3, e3', q1, q2]) <;> (repeat' (first | (refine condD_dec ?_ ?_ <;> (intro hc; (try simp -implicitDefEqProofs [-loopQ_n, hc, parT, n0, n0', n1, n1', p1, p2, n4, n4', w7, w1, w2, w3, w4, w5, w6, z1, z2, z3, z4, z5, z6, tn1, tn2, tn3, tn4, tn5, tn6, e1, e1', e2, e2', e3, e3', q1, q2]))) | (refine guardD_dec ?_ ?_ <;> (intro hc; (try simp -implicitDefEqProofs [-loopQ_n, hc, parT, n0, n0', n1, n1', p1, p2, n4, n4', w7, w1, w2, w3, w4, w5, w6, z1, z2, z3, z4, z5, z6, tn1, tn2, tn3, tn4, tn5, tn6, e1, e1', e2, e2', e3, e3', q1, q2]))) | (refine condD_intro ?_ ?_ <;> (intro hd; have hc := hd; (try simp at hc) <;> (try simp -implicitDefEqProofs [-loopQ_n, hd, hc, parT, n0, n0', n1, n1', p1, p2, n4, n4', w7, w1, w2, w3, w4, w5, w6, z1, z2, z3, z4, z5, z6, tn1, tn2, tn3, tn4, tn5, tn6, e1, e1', e2, e2', e3, e3', q1, q2]))) | (refine guardD_intro ?_ ?_ <;> (intro hd; have hc := hd; (try simp at hc) <;> (try simp -implicitDefEqProofs [-loopQ_n, hd, hc, parT, n0, n0', n1, n1', p1, p2, n4, n4', w7, w1, w2, w3, w4, w5, w6, z1, z2, z3, z4, z5, z6, tn1, tn2, tn3, tn4, tn5, tn6, e1, e1', e2, e2', e3, e3', q1, q2]))) | (refine ldD_ep ?_ ?_; (focus kernel_rfl); (try simp -implicitDefEqProofs [-loopQ_n, parT, n0, n0', n1, n1', p1, p2, n4, n4', w7, w1, w2, w3, w4, w5, w6, z1, z2, z3, z4, z5, z6, tn1, tn2, tn3, tn4, tn5, tn6, e1, e1', e2, e2', e3, e3', q1, q2])))))
          all_goals (try (exfalso; omega))
    have e3 : (48 : Int) ≤ y.toNat := by omega
    have e4 : ¬ (y.toNat : Int) ≤ 57 := fun q => by rw [show dg y = true from dg_iff.2 (by omega)] at hyd; cases hyd
    have e4' : ¬ y.toNat ≤ 57 := by omega
    have e3' : 48 ≤ y.toNat := by omega
    by_cases n0 : i = 0
    · subst n0
      have := rbad fun D a b c d h => by
        have h1 := htok D a b c d h
        have h2 := congrArg List.length h.eq
        have h3 := h.eq
        have h4 := h.pos
        have h5 := h.nine
        have h6 := h.lead
        simp at h2
        omega
      subst this
      ((try simp -implicitDefEqProofs [-loopQ_n, parT, e1, e1', e2, e2', e3, e3', e4, e4', q1, q2]) <;> (repeat' (first | (refine condD_dec ?_ ?_ <;> (intro hc; (try simp -implicitDefEqProofs [-loopQ_n, hc, parT, e1, e1', e2, e2', e3, e3', e4, e4', q1, q2]))) | (refine guardD_dec ?_ ?_ <;> (intro hc; (try simp -implicitDefEqProofs [-loopQ_n, hc, parT, e1, e1', e2, e2', e3, e3', e4, e4', q1, q2]))) | (refine condD_intro ?_ ?_ <;> (intro hd; have hc := hd; (try simp at hc) <;> (try simp -implicitDefEqProofs [-loopQ_n, hd, hc, parT, e1, e1', e2, e2', e3, e3', e4, e4', q1, q2]))) | (refine guardD_intro ?_ ?_ <;> (intro hd; have hc := hd; (try simp at hc) <;> (try simp -implicitDefEqProofs [-loopQ_n, hd, hc, parT, e1, e1', e2, e2', e3, e3', e4, e4', q1, q2]))) | (refine ldD_ep ?_ ?_; (focus kernel_rfl); (try simp -implicitDefEqProofs [-loopQ_n, parT, e1, e1', e2, e2', e3, e3', e4, e4', q1, q2])))))
      all_goals (try (exfalso; omega))
    · have n0' : ¬ (i : Int) = 0 := by omega
      obtain ⟨x0, hx0⟩ : ∃ x0, (bl s)[0]? = some x0 := ⟨_, List.getElem?_eq_getElem (show 0 < (bl s).length by omega)⟩
      obtain ⟨p1, p2⟩ := hg2 0 x0 hx0
      by_cases n1 : 1 < i
      · have n1' : (1 : Int) < i := by omega
        by_cases n2 : x0.toNat = 48
        · have n2' : (x0.toNat : Int) = 48 := by omega
          have := rbad fun D a b c d h => by
            have h1 := htok D a b c d h
            have h2 := congrArg List.length h.eq
            have h3 := h.eq
            have h4 := h.pos
            have h5 := h.nine
            have h6 := h.lead
            simp at h2
            refine h6 ⟨by omega, ?_⟩
            rw [h3] at hx0
            have hD : 0 < D.length := by omega
            rw [List.getElem?_append_left hD] at hx0
            rw [List.head?_eq_getElem?, hx0]
            exact congrArg some (UInt8.toNat_inj.1 n2)
          subst this
          ((try simp -implicitDefEqProofs [-loopQ_n, parT, n0, n0', n1, n1', n2, n2', p1, p2, e1, e1', e2, e2', e3, e3', e4, e4', q1, q2]) <;> (repeat' (first | (refine condD_dec ?_ ?_ <;> (intro hc; (try simp -implicitDefEqProofs [-loopQ_n, hc, parT, n0, n0', n1, n1', n2, n2', p1, p2, e1, e1', e2, e2', e3, e3', e4, e4', q1, q2]))) | (refine guardD_dec ?_ ?_ <;> (intro hc; (try simp -implicitDefEqProofs [-loopQ_n, hc, parT, n0, n0', n1, n1', n2, n2', p1, p2, e1, e1', e2, e2', e3, e3', e4, e4', q1, q2]))) | (refine condD_intro ?_ ?_ <;> (intro hd; have hc := hd; (try simp at hc) <;> (try simp -implicitDefEqProofs [-loopQ_n, hd, hc, parT, n0, n0', n1, n1', n2, n2', p1, p2, e1, e1', e2, e2', e3, e3', e4, e4', q1, q2]))) | (refine guardD_intro ?_ ?_ <;> (intro hd; have hc := hd; (try simp at hc) <;> (try simp -implicitDefEqProofs [-loopQ_n, hd, hc, parT, n0, n0', n1, n1', n2, n2', p1, p2, e1, e1', e2, e2', e3, e3', e4, e4', q1, q2]))) | (refine ldD_ep ?_ ?_; (focus kernel_rfl); (try simp -implicitDefEqProofs [-loopQ_n, parT, n0, n0', n1, n1', n2, n2', p1, p2, e1, e1', e2, e2', e3, e3', e4, e4', q1, q2])))))
          all_goals (try (exfalso; omega))
        · have n2' : ¬ (x0.toNat : Int) = 48 := by omega
          by_cases n3 : (bl s).length = i + 7
          rotate_left
          · have n3i : ¬ (s.size : Int) = (i : Int) + 7 := by omega
            have n3' : ¬ s.size = i + 7 := by omega
            have := rbad fun D a b c d h => by
              have h1 := htok D a b c d h
              have h2 := congrArg List.length h.eq
              have h3 := h.eq
              have h4 := h.pos
              have h5 := h.nine
              have h6 := h.lead
              simp at h2
              omega
            subst this
            ((try simp -implicitDefEqProofs [-loopQ_n, parT, n0, n0', n1, n1', n2, n2', p1, p2, n3i, n3', w7, w1, w2, w3, w4, w5, w6, z1, z2, z3, z4, z5, z6, tn1, tn2, tn3, tn4, tn5, tn6, e1, e1', e2, e2', e3, e3', e4, e4', q1, q2]) <;> (repeat' (first | (refine condD_dec ?_ ?_ <;> (intro hc; (try simp -implicitDefEqProofs [-loopQ_n, hc, parT, n0, n0', n1, n1', n2, n2', p1, p2, n3i, n3', w7, w1, w2, w3, w4, w5, w6, z1, z2, z3, z4, z5, z6, tn1, tn2, tn3, tn4, tn5, tn6, e1, e1', e2, e2', e3, e3', e4, e4', q1, q2]))) | (refine guardD_dec ?_ ?_ <;> (intro hc; (try simp -implicitDefEqProofs [-loopQ_n, hc, parT, n0, n0', n1, n1', n2, n2', p1, p2, n3i, n3', w7, w1, w2, w3, w4, w5, w6, z1, z2, z3, z4, z5, z6, tn1, tn2, tn3, tn4, tn5, tn6, e1, e1', e2, e2', e3, e3', e4, e4', q1, q2]))) | (refine condD_intro ?_ ?_ <;> (intro hd; have hc := hd; (try simp at hc) <;> (try simp -implicitDefEqProofs [-loopQ_n, hd, hc, parT, n0, n0', n1, n1', n2, n2', p1, p2, n3i, n3', w7, w1, w2, w3, w4, w5, w6, z1, z2, z3, z4, z5, z6, tn1, tn2, tn3, tn4, tn5, tn6, e1, e1', e2, e2', e3, e3', e4, e4', q1, q2]))) | (refine guardD_intro ?_ ?_ <;> (intro hd; have hc := hd; (try simp at hc) <;> (try simp -implicitDefEqProofs [-loopQ_n, hd, hc, parT, n0, n0', n1, n1', n2, n2', p1, p2, n3i, n3', w7, w1, w2, w3, w4, w5, w6, z1, z2, z3, z4, z5, z6, tn1, tn2, tn3, tn4, tn5, tn6, e1, e1', e2, e2', e3, e3', e4, e4', q1, q2]))) | (refine ldD_ep ?_ ?_; (focus kernel_rfl); (try simp -implicitDefEqProofs [-loopQ_n, parT, n0, n0', n1, n1', n2, n2', p1, p2, n3i, n3', w7, w1, w2, w3, w4, w5, w6, z1, z2, z3, z4, z5, z6, tn1, tn2, tn3, tn4, tn5, tn6, e1, e1', e2, e2', e3, e3', e4, e4', q1, q2])))))
            all_goals (try (exfalso; omega))
          have n3i : ((s.size : Int) = (i : Int) + 7) = True := eq_true (by omega)
          have n3' : (s.size = i + 7) = True := eq_true (by omega)
          obtain ⟨y0, y1, y2, y3, y4, y5, y6, hE⟩ : ∃ y0 y1 y2 y3 y4 y5 y6, (bl s).drop i = [y0, y1, y2, y3, y4, y5, y6] := seven (by simp; omega)
          have hyk : ∀ j : Nat, (bl s)[i + j]? = [y0, y1, y2, y3, y4, y5, y6][j]? := fun j => by rw [← hE, List.getElem?_drop]
          have hyy : y0 = y := by
            have := hyk 0
            rw [Nat.add_zero, hy] at this
            simpa using this.symm
          subst hyy
          obtain ⟨r0, s0⟩ := hg2 (i + 0) y0 (hyk 0)
          obtain ⟨r1, s1⟩ := hg2 (i + 1) y1 (hyk 1)
          obtain ⟨r2, s2⟩ := hg2 (i + 2) y2 (hyk 2)
          obtain ⟨r3, s3⟩ := hg2 (i + 3) y3 (hyk 3)
          obtain ⟨r4, s4⟩ := hg2 (i + 4) y4 (hyk 4)
          obtain ⟨r5, s5⟩ := hg2 (i + 5) y5 (hyk 5)
          obtain ⟨r6, s6⟩ := hg2 (i + 6) y6 (hyk 6)
          rw [Nat.add_zero] at r0
          simp only [Nat.add_zero] at s0
          have hgd : ∀ D a b c d, Good (bl s) D a b c d → [y0, y1, y2, y3, y4, y5, y6] = [100, 32, a, b, 58, c, d] := fun D a b c d h => by rw [← hE, htok D a b c d h, h.eq, List.drop_left]
          have hll : bl s = (bl s).take i ++ [y0, y1, y2, y3, y4, y5, y6] := by rw [← hE, List.take_append_drop]
          by_cases k0 : y0.toNat = 100
          rotate_left
          · have k0i : ¬ (y0.toNat : Int) = 100 := by omega
            have := rbad fun D a b c d h => by
              have h1 := htok D a b c d h
              have h2 := congrArg List.length h.eq
              have h3 := h.eq
              have h4 := h.pos
              have h5 := h.nine
              have h6 := h.lead
              simp at h2
              have h7 := hgd D a b c d h
              simp only [List.cons.injEq] at h7
              exact k0 (by simp [h7])
            subst this
            ((try simp -implicitDefEqProofs [-loopQ_n, parT, n0, n0', n1, n1', n2, n2', p1, p2, n3i, n3', k0, k0i, r0, s0, r1, s1, r2, s2, r3, s3, r4, s4, r5, s5, r6, s6, w7, w1, w2, w3, w4, w5, w6, z1, z2, z3, z4, z5, z6, tn1, tn2, tn3, tn4, tn5, tn6, e1, e1', e2, e2', e3, e3', e4, e4', q1, q2]) <;> (repeat' (first | (refine condD_dec ?_ ?_ <;> (intro hc; (try simp -implicitDefEqProofs [-loopQ_n, hc, parT, n0, n0', n1, n1', n2, n2', p1, p2, n3i, n3', k0, k0i, r0, s0, r1, s1, r2, s2, r3, s3, r4, s4, r5, s5, r6, s6, w7, w1, w2, w3, w4, w5, w6, z1, z2, z3, z4, z5, z6, tn1, tn2, tn3, tn4, tn5, tn6, e1, e1', e2, e2', e3, e3', e4, e4', q1, q2]))) | (refine guardD_dec ?_ ?_ <;> (intro hc; (try simp -implicitDefEqProofs [-loopQ_n, hc, parT, n0, n0', n1, n1', n2, n2', p1, p2, n3i, n3', k0, k0i, r0, s0, r1, s1, r2, s2, r3, s3, r4, s4, r5, s5, r6, s6, w7, w1, w2, w3, w4, w5, w6, z1, z2, z3, z4, z5, z6, tn1, tn2, tn3, tn4, tn5, tn6, e1, e1', e2, e2', e3, e3', e4, e4', q1, q2]))) | (refine condD_intro ?_ ?_ <;> (intro hd; have hc := hd; (try simp at hc) <;> (try simp -implicitDefEqProofs [-loopQ_n, hd, hc, parT, n0, n0', n1, n1', n2, n2', p1, p2, n3i, n3', k0, k0i, r0, s0, r1, s1, r2, s2, r3, s3, r4, s4, r5, s5, r6, s6, w7, w1, w2, w3, w4, w5, w6, z1, z2, z3, z4, z5, z6, tn1, tn2, tn3, tn4, tn5, tn6, e1, e1', e2, e2', e3, e3', e4, e4', q1, q2]))) | (refine guardD_intro ?_ ?_ <;> (intro hd; have hc := hd; (try simp at hc) <;> (try simp -implicitDefEqProofs [-loopQ_n, hd, hc, parT, n0, n0', n1, n1', n2, n2', p1, p2, n3i, n3', k0, k0i, r0, s0, r1, s1, r2, s2, r3, s3, r4, s4, r5, s5, r6, s6, w7, w1, w2, w3, w4, w5, w6, z1, z2, z3, z4, z5, z6, tn1, tn2, tn3, tn4, tn5, tn6, e1, e1', e2, e2', e3, e3', e4, e4', q1, q2]))) | (refine ldD_ep ?_ ?_; (focus kernel_rfl); (try simp -implicitDefEqProofs [-loopQ_n, parT, n0, n0', n1, n1', n2, n2', p1, p2, n3i, n3', k0, k0i, r0, s0, r1, s1, r2, s2, r3, s3, r4, s4, r5, s5, r6, s6, w7, w1, w2, w3, w4, w5, w6, z1, z2, z3, z4, z5, z6, tn1, tn2, tn3, tn4, tn5, tn6, e1, e1', e2, e2', e3, e3', e4, e4', q1, q2])))))
            all_goals (try (exfalso; omega))
          have k0i : (y0.toNat : Int) = 100 := by omega
          by_cases k1 : y1.toNat = 32
          rotate_left
          · have k1i : ¬ (y1.toNat : Int) = 32 := by omega
            have := rbad fun D a b c d h => by
              have h1 := htok D a b c d h
              have h2 := congrArg List.length h.eq
              have h3 := h.eq
              have h4 := h.pos
              have h5 := h.nine
              have h6 := h.lead
              simp at h2
              have h7 := hgd D a b c d h
              simp only [List.cons.injEq] at h7
              exact k1 (by simp [h7])
            subst this
            ((try simp -implicitDefEqProofs [-loopQ_n, parT, n0, n0', n1, n1', n2, n2', p1, p2, n3i, n3', k0, k0i, k1, k1i, r0, s0, r1, s1, r2, s2, r3, s3, r4, s4, r5, s5, r6, s6, w7, w1, w2, w3, w4, w5, w6, z1, z2, z3, z4, z5, z6, tn1, tn2, tn3, tn4, tn5, tn6, e1, e1', e2, e2', e3, e3', e4, e4', q1, q2]) <;> (repeat' (first | (refine condD_dec ?_ ?_ <;> (intro hc; (try simp -implicitDefEqProofs [-loopQ_n, hc, parT, n0, n0', n1, n1', n2, n2', p1, p2, n3i, n3', k0, k0i, k1, k1i, r0, s0, r1, s1, r2, s2, r3, s3, r4, s4, r5, s5, r6, s6, w7, w1, w2, w3, w4, w5, w6, z1, z2, z3, z4, z5, z6, tn1, tn2, tn3, tn4, tn5, tn6, e1, e1', e2, e2', e3, e3', e4, e4', q1, q2]))) | (refine guardD_dec ?_ ?_ <;> (intro hc; (try simp -implicitDefEqProofs [-loopQ_n, hc, parT, n0, n0', n1, n1', n2, n2', p1, p2, n3i, n3', k0, k0i, k1, k1i, r0, s0, r1, s1, r2, s2, r3, s3, r4, s4, r5, s5, r6, s6, w7, w1, w2, w3, w4, w5, w6, z1, z2, z3, z4, z5, z6, tn1, tn2, tn3, tn4, tn5, tn6, e1, e1', e2, e2', e3, e3', e4, e4', q1, q2]))) | (refine condD_intro ?_ ?_ <;> (intro hd; have hc := hd; (try simp at hc) <;> (try simp -implicitDefEqProofs [-loopQ_n, hd, hc, parT, n0, n0', n1, n1', n2, n2', p1, p2, n3i, n3', k0, k0i, k1, k1i, r0, s0, r1, s1, r2, s2, r3, s3, r4, s4, r5, s5, r6, s6, w7, w1, w2, w3, w4, w5, w6, z1, z2, z3, z4, z5, z6, tn1, tn2, tn3, tn4, tn5, tn6, e1, e1', e2, e2', e3, e3', e4, e4', q1, q2]))) | (refine guardD_intro ?_ ?_ <;> (intro hd; have hc := hd; (try simp at hc) <;> (try simp -implicitDefEqProofs [-loopQ_n, hd, hc, parT, n0, n0', n1, n1', n2, n2', p1, p2, n3i, n3', k0, k0i, k1, k1i, r0, s0, r1, s1, r2, s2, r3, s3, r4, s4, r5, s5, r6, s6, w7, w1, w2, w3, w4, w5, w6, z1, z2, z3, z4, z5, z6, tn1, tn2, tn3, tn4, tn5, tn6, e1, e1', e2, e2', e3, e3', e4, e4', q1, q2]))) | (refine ldD_ep ?_ ?_; (focus kernel_rfl); (try simp -implicitDefEqProofs [-loopQ_n, parT, n0, n0', n1, n1', n2, n2', p1, p2, n3i, n3', k0, k0i, k1, k1i, r0, s0, r1, s1, r2, s2, r3, s3, r4, s4, r5, s5, r6, s6, w7, w1, w2, w3, w4, w5, w6, z1, z2, z3, z4, z5, z6, tn1, tn2, tn3, tn4, tn5, tn6, e1, e1', e2, e2', e3, e3', e4, e4', q1, q2])))))
            all_goals (try (exfalso; omega))
          have k1i : (y1.toNat : Int) = 32 := by omega
          by_cases k4 : y4.toNat = 58
          rotate_left
          · have k4i : ¬ (y4.toNat : Int) = 58 := by omega
            have := rbad fun D a b c d h => by
              have h1 := htok D a b c d h
              have h2 := congrArg List.length h.eq
              have h3 := h.eq
              have h4 := h.pos
              have h5 := h.nine
              have h6 := h.lead
              simp at h2
              have h7 := hgd D a b c d h
              simp only [List.cons.injEq] at h7
              exact k4 (by simp [h7])
            subst this
            ((try simp -implicitDefEqProofs [-loopQ_n, parT, n0, n0', n1, n1', n2, n2', p1, p2, n3i, n3', k0, k0i, k1, k1i, k4, k4i, r0, s0, r1, s1, r2, s2, r3, s3, r4, s4, r5, s5, r6, s6, w7, w1, w2, w3, w4, w5, w6, z1, z2, z3, z4, z5, z6, tn1, tn2, tn3, tn4, tn5, tn6, e1, e1', e2, e2', e3, e3', e4, e4', q1, q2]) <;> (repeat' (first | (refine condD_dec ?_ ?_ <;> (intro hc; (try simp -implicitDefEqProofs [-loopQ_n, hc, parT, n0, n0', n1, n1', n2, n2', p1, p2, n3i, n3', k0, k0i, k1, k1i, k4, k4i, r0, s0, r1, s1, r2, s2, r3, s3, r4, s4, r5, s5, r6, s6, w7, w1, w2, w3, w4, w5, w6, z1, z2, z3, z4, z5, z6, tn1, tn2, tn3, tn4, tn5, tn6, e1, e1', e2, e2', e3, e3', e4, e4', q1, q2]))) | (refine guardD_dec ?_ ?_ <;> (intro hc; (try simp -implicitDefEqProofs [-loopQ_n, hc, parT, n0, n0', n1, n1', n2, n2', p1, p2, n3i, n3', k0, k0i, k1, k1i, k4, k4i, r0, s0, r1, s1, r2, s2, r3, s3, r4, s4, r5, s5, r6, s6, w7, w1, w2, w3, w4, w5, w6, z1, z2, z3, z4, z5, z6, tn1, tn2, tn3, tn4, tn5, tn6, e1, e1', e2, e2', e3, e3', e4, e4', q1, q2]))) | (refine condD_intro ?_ ?_ <;> (intro hd; have hc := hd; (try simp at hc) <;> (try simp -implicitDefEqProofs [-loopQ_n, hd, hc, parT, n0, n0', n1, n1', n2, n2', p1, p2, n3i, n3', k0, k0i, k1, k1i, k4, k4i, r0, s0, r1, s1, r2, s2, r3, s3, r4, s4, r5, s5, r6, s6, w7, w1, w2, w3, w4, w5, w6, z1, z2, z3, z4, z5, z6, tn1, tn2, tn3, tn4, tn5, tn6, e1, e1', e2, e2', e3, e3', e4, e4', q1, q2]))) | (refine guardD_intro ?_ ?_ <;> (intro hd; have hc := hd; (try simp at hc) <;> (try simp -implicitDefEqProofs [-loopQ_n, hd, hc, parT, n0, n0', n1, n1', n2, n2', p1, p2, n3i, n3', k0, k0i, k1, k1i, k4, k4i, r0, s0, r1, s1, r2, s2, r3, s3, r4, s4, r5, s5, r6, s6, w7, w1, w2, w3, w4, w5, w6, z1, z2, z3, z4, z5, z6, tn1, tn2, tn3, tn4, tn5, tn6, e1, e1', e2, e2', e3, e3', e4, e4', q1, q2]))) | (refine ldD_ep ?_ ?_; (focus kernel_rfl); (try simp -implicitDefEqProofs [-loopQ_n, parT, n0, n0', n1, n1', n2, n2', p1, p2, n3i, n3', k0, k0i, k1, k1i, k4, k4i, r0, s0, r1, s1, r2, s2, r3, s3, r4, s4, r5, s5, r6, s6, w7, w1, w2, w3, w4, w5, w6, z1, z2, z3, z4, z5, z6, tn1, tn2, tn3, tn4, tn5, tn6, e1, e1', e2, e2', e3, e3', e4, e4', q1, q2])))))
            all_goals (try (exfalso; omega))
          have k4i : (y4.toNat : Int) = 58 := by omega
          obtain rfl : y0 = 100 := UInt8.toNat_inj.1 k0
          obtain rfl : y1 = 32 := UInt8.toNat_inj.1 k1
          obtain rfl : y4 = 58 := UInt8.toNat_inj.1 k4
          ((try simp -implicitDefEqProofs [-loopQ_n, n0, n0', n1, n1', n2, n2', p1, p2, n3i, n3', k0, k0i, k1, k1i, k4, k4i, r0, s0, r1, s1, r2, s2, r3, s3, r4, s4, r5, s5, r6, s6, w7, w1, w2, w3, w4, w5, w6, z1, z2, z3, z4, z5, z6, tn1, tn2, tn3, tn4, tn5, tn6, e1, e1', e2, e2', e3, e3', e4, e4', q1, q2]) <;> (repeat' (first | (refine condD_dec ?_ ?_ <;> (intro hc; (try simp -implicitDefEqProofs [-loopQ_n, hc, n0, n0', n1, n1', n2, n2', p1, p2, n3i, n3', k0, k0i, k1, k1i, k4, k4i, r0, s0, r1, s1, r2, s2, r3, s3, r4, s4, r5, s5, r6, s6, w7, w1, w2, w3, w4, w5, w6, z1, z2, z3, z4, z5, z6, tn1, tn2, tn3, tn4, tn5, tn6, e1, e1', e2, e2', e3, e3', e4, e4', q1, q2]))) | (refine guardD_dec ?_ ?_ <;> (intro hc; (try simp -implicitDefEqProofs [-loopQ_n, hc, n0, n0', n1, n1', n2, n2', p1, p2, n3i, n3', k0, k0i, k1, k1i, k4, k4i, r0, s0, r1, s1, r2, s2, r3, s3, r4, s4, r5, s5, r6, s6, w7, w1, w2, w3, w4, w5, w6, z1, z2, z3, z4, z5, z6, tn1, tn2, tn3, tn4, tn5, tn6, e1, e1', e2, e2', e3, e3', e4, e4', q1, q2]))) | (refine condD_intro ?_ ?_ <;> (intro hd; have hc := hd; (try simp at hc) <;> (try simp -implicitDefEqProofs [-loopQ_n, hd, hc, n0, n0', n1, n1', n2, n2', p1, p2, n3i, n3', k0, k0i, k1, k1i, k4, k4i, r0, s0, r1, s1, r2, s2, r3, s3, r4, s4, r5, s5, r6, s6, w7, w1, w2, w3, w4, w5, w6, z1, z2, z3, z4, z5, z6, tn1, tn2, tn3, tn4, tn5, tn6, e1, e1', e2, e2', e3, e3', e4, e4', q1, q2]))) | (refine guardD_intro ?_ ?_ <;> (intro hd; have hc := hd; (try simp at hc) <;> (try simp -implicitDefEqProofs [-loopQ_n, hd, hc, n0, n0', n1, n1', n2, n2', p1, p2, n3i, n3', k0, k0i, k1, k1i, k4, k4i, r0, s0, r1, s1, r2, s2, r3, s3, r4, s4, r5, s5, r6, s6, w7, w1, w2, w3, w4, w5, w6, z1, z2, z3, z4, z5, z6, tn1, tn2, tn3, tn4, tn5, tn6, e1, e1', e2, e2', e3, e3', e4, e4', q1, q2]))) | (refine ldD_ep ?_ ?_; (focus kernel_rfl); (try simp -implicitDefEqProofs [-loopQ_n, n0, n0', n1, n1', n2, n2', p1, p2, n3i, n3', k0, k0i, k1, k1i, k4, k4i, r0, s0, r1, s1, r2, s2, r3, s3, r4, s4, r5, s5, r6, s6, w7, w1, w2, w3, w4, w5, w6, z1, z2, z3, z4, z5, z6, tn1, tn2, tn3, tn4, tn5, tn6, e1, e1', e2, e2', e3, e3', e4, e4', q1, q2])))))
          all_goals (try (exfalso; omega))
          have hld : ¬ (1 < i ∧ x0.toNat = 48) := by omega
          refine loop_intro (σ := Nat) (fun j => ⟨[(0, .str s), (4, .int .i64 i), (5, .int .i64 n), (87, .os 0 4), (88, .int .i64 4), (89, .int .i64 j)], [.row 3 false [[.int .i64 ((i : Int) + 2)], [.int .i64 ((i : Int) + 3)], [.int .i64 ((i : Int) + 5)], [.int .i64 ((i : Int) + 6)]]]⟩) (fun j => j ≤ 4 ∧ (0 < j → dg y2 = true) ∧ (1 < j → dg y3 = true) ∧ (2 < j → dg y5 = true) ∧ (3 < j → dg y6 = true)) (fun j => 4 - j) 0 ⟨by omega, by omega, by omega, by omega, by omega⟩ ?_ ?_
          · refine weak_of 1 0 rfl rfl ?_ ?_ <;> simp [refsR, refs]
          rintro j ⟨hj, v0, v1, v2, v3⟩
          by_cases j0 : j = 0
          · subst j0
            by_cases hd : dg y2 = true
            rotate_left
            · by_cases d1 : (y2.toNat : Int) < 48
              · have d1' : y2.toNat < 48 := by omega
                have := rbad fun D a b c d h => by
                  have h7 := hgd D a b c d h
                  simp only [List.cons.injEq] at h7
                  obtain ⟨_, _, rfl, rfl, _, rfl, rfl, _⟩ := h7
                  exact hd h.a
                subst this
                ((try simp -implicitDefEqProofs [-loopQ_n, parT, d1, d1', r0, s0, r1, s1, r2, s2, r3, s3, r4, s4, r5, s5, r6, s6, w7, w1, w2, w3, w4, w5, w6, z1, z2, z3, z4, z5, z6, tn1, tn2, tn3, tn4, tn5, tn6]) <;> (repeat' (first | (refine condD_dec ?_ ?_ <;> (intro hc; (try simp -implicitDefEqProofs [-loopQ_n, hc, parT, d1, d1', r0, s0, r1, s1, r2, s2, r3, s3, r4, s4, r5, s5, r6, s6, w7, w1, w2, w3, w4, w5, w6, z1, z2, z3, z4, z5, z6, tn1, tn2, tn3, tn4, tn5, tn6]))) | (refine guardD_dec ?_ ?_ <;> (intro hc; (try simp -implicitDefEqProofs [-loopQ_n, hc, parT, d1, d1', r0, s0, r1, s1, r2, s2, r3, s3, r4, s4, r5, s5, r6, s6, w7, w1, w2, w3, w4, w5, w6, z1, z2, z3, z4, z5, z6, tn1, tn2, tn3, tn4, tn5, tn6]))) | (refine condD_intro ?_ ?_ <;> (intro hd; have hc := hd; (try simp at hc) <;> (try simp -implicitDefEqProofs [-loopQ_n, hd, hc, parT, d1, d1', r0, s0, r1, s1, r2, s2, r3, s3, r4, s4, r5, s5, r6, s6, w7, w1, w2, w3, w4, w5, w6, z1, z2, z3, z4, z5, z6, tn1, tn2, tn3, tn4, tn5, tn6]))) | (refine guardD_intro ?_ ?_ <;> (intro hd; have hc := hd; (try simp at hc) <;> (try simp -implicitDefEqProofs [-loopQ_n, hd, hc, parT, d1, d1', r0, s0, r1, s1, r2, s2, r3, s3, r4, s4, r5, s5, r6, s6, w7, w1, w2, w3, w4, w5, w6, z1, z2, z3, z4, z5, z6, tn1, tn2, tn3, tn4, tn5, tn6]))) | (refine ldD_ep ?_ ?_; (focus kernel_rfl); (try simp -implicitDefEqProofs [-loopQ_n, parT, d1, d1', r0, s0, r1, s1, r2, s2, r3, s3, r4, s4, r5, s5, r6, s6, w7, w1, w2, w3, w4, w5, w6, z1, z2, z3, z4, z5, z6, tn1, tn2, tn3, tn4, tn5, tn6])))))
                all_goals (try (exfalso; omega))
              · have d2 : (57 : Int) < y2.toNat := by (apply Decidable.byContradiction; intro q; exact hd (dg_iff.2 (by omega)))
                have d2' : 57 < y2.toNat := by omega
                have d1' : ¬ y2.toNat < 48 := by omega
                have := rbad fun D a b c d h => by
                  have h7 := hgd D a b c d h
                  simp only [List.cons.injEq] at h7
                  obtain ⟨_, _, rfl, rfl, _, rfl, rfl, _⟩ := h7
                  exact hd h.a
                subst this
                ((try simp -implicitDefEqProofs [-loopQ_n, parT, d1, d1', d2, d2', r0, s0, r1, s1, r2, s2, r3, s3, r4, s4, r5, s5, r6, s6, w7, w1, w2, w3, w4, w5, w6, z1, z2, z3, z4, z5, z6, tn1, tn2, tn3, tn4, tn5, tn6]) <;> (repeat' (first | (refine condD_dec ?_ ?_ <;> (intro hc; (try simp -implicitDefEqProofs [-loopQ_n, hc, parT, d1, d1', d2, d2', r0, s0, r1, s1, r2, s2, r3, s3, r4, s4, r5, s5, r6, s6, w7, w1, w2, w3, w4, w5, w6, z1, z2, z3, z4, z5, z6, tn1, tn2, tn3, tn4, tn5, tn6]))) | (refine guardD_dec ?_ ?_ <;> (intro hc; (try simp -implicitDefEqProofs [-loopQ_n, hc, parT, d1, d1', d2, d2', r0, s0, r1, s1, r2, s2, r3, s3, r4, s4, r5, s5, r6, s6, w7, w1, w2, w3, w4, w5, w6, z1, z2, z3, z4, z5, z6, tn1, tn2, tn3, tn4, tn5, tn6]))) | (refine condD_intro ?_ ?_ <;> (intro hd; have hc := hd; (try simp at hc) <;> (try simp -implicitDefEqProofs [-loopQ_n, hd, hc, parT, d1, d1', d2, d2', r0, s0, r1, s1, r2, s2, r3, s3, r4, s4, r5, s5, r6, s6, w7, w1, w2, w3, w4, w5, w6, z1, z2, z3, z4, z5, z6, tn1, tn2, tn3, tn4, tn5, tn6]))) | (refine guardD_intro ?_ ?_ <;> (intro hd; have hc := hd; (try simp at hc) <;> (try simp -implicitDefEqProofs [-loopQ_n, hd, hc, parT, d1, d1', d2, d2', r0, s0, r1, s1, r2, s2, r3, s3, r4, s4, r5, s5, r6, s6, w7, w1, w2, w3, w4, w5, w6, z1, z2, z3, z4, z5, z6, tn1, tn2, tn3, tn4, tn5, tn6]))) | (refine ldD_ep ?_ ?_; (focus kernel_rfl); (try simp -implicitDefEqProofs [-loopQ_n, parT, d1, d1', d2, d2', r0, s0, r1, s1, r2, s2, r3, s3, r4, s4, r5, s5, r6, s6, w7, w1, w2, w3, w4, w5, w6, z1, z2, z3, z4, z5, z6, tn1, tn2, tn3, tn4, tn5, tn6])))))
                all_goals (try (exfalso; omega))
            have hdd := dg_iff.1 hd
            have d1 : ¬ (y2.toNat : Int) < 48 := by omega
            have d1' : ¬ y2.toNat < 48 := by omega
            have d2 : ¬ (57 : Int) < y2.toNat := by omega
            have d2' : ¬ 57 < y2.toNat := by omega
            have ww : wrapI .i64 (1 : Int) = 1 := wrap_in (by omega) (by omega)
            ((try simp -implicitDefEqProofs [-loopQ_n, d1, d1', d2, d2', ww, r0, s0, r1, s1, r2, s2, r3, s3, r4, s4, r5, s5, r6, s6, w7, w1, w2, w3, w4, w5, w6, z1, z2, z3, z4, z5, z6, tn1, tn2, tn3, tn4, tn5, tn6]) <;> (repeat' (first | (refine condD_dec ?_ ?_ <;> (intro hc; (try simp -implicitDefEqProofs [-loopQ_n, hc, d1, d1', d2, d2', ww, r0, s0, r1, s1, r2, s2, r3, s3, r4, s4, r5, s5, r6, s6, w7, w1, w2, w3, w4, w5, w6, z1, z2, z3, z4, z5, z6, tn1, tn2, tn3, tn4, tn5, tn6]))) | (refine guardD_dec ?_ ?_ <;> (intro hc; (try simp -implicitDefEqProofs [-loopQ_n, hc, d1, d1', d2, d2', ww, r0, s0, r1, s1, r2, s2, r3, s3, r4, s4, r5, s5, r6, s6, w7, w1, w2, w3, w4, w5, w6, z1, z2, z3, z4, z5, z6, tn1, tn2, tn3, tn4, tn5, tn6]))) | (refine condD_intro ?_ ?_ <;> (intro hd; have hc := hd; (try simp at hc) <;> (try simp -implicitDefEqProofs [-loopQ_n, hd, hc, d1, d1', d2, d2', ww, r0, s0, r1, s1, r2, s2, r3, s3, r4, s4, r5, s5, r6, s6, w7, w1, w2, w3, w4, w5, w6, z1, z2, z3, z4, z5, z6, tn1, tn2, tn3, tn4, tn5, tn6]))) | (refine guardD_intro ?_ ?_ <;> (intro hd; have hc := hd; (try simp at hc) <;> (try simp -implicitDefEqProofs [-loopQ_n, hd, hc, d1, d1', d2, d2', ww, r0, s0, r1, s1, r2, s2, r3, s3, r4, s4, r5, s5, r6, s6, w7, w1, w2, w3, w4, w5, w6, z1, z2, z3, z4, z5, z6, tn1, tn2, tn3, tn4, tn5, tn6]))) | (refine ldD_ep ?_ ?_; (focus kernel_rfl); (try simp -implicitDefEqProofs [-loopQ_n, d1, d1', d2, d2', ww, r0, s0, r1, s1, r2, s2, r3, s3, r4, s4, r5, s5, r6, s6, w7, w1, w2, w3, w4, w5, w6, z1, z2, z3, z4, z5, z6, tn1, tn2, tn3, tn4, tn5, tn6])))))
            all_goals (try (exfalso; omega))
            refine loop_next 1 ⟨by omega, fun _ => hd, by omega, by omega, by omega⟩ (by omega) (weak_of 1 0 rfl rfl ?_ ?_) <;> simp [refsR, refs, ww]
          by_cases j1 : j = 1
          · subst j1
            by_cases hd : dg y3 = true
            rotate_left
            · by_cases d1 : (y3.toNat : Int) < 48
              · have d1' : y3.toNat < 48 := by omega
                have := rbad fun D a b c d h => by
                  have h7 := hgd D a b c d h
                  simp only [List.cons.injEq] at h7
                  obtain ⟨_, _, rfl, rfl, _, rfl, rfl, _⟩ := h7
                  exact hd h.b
                subst this
                ((try simp -implicitDefEqProofs [-loopQ_n, parT, d1, d1', r0, s0, r1, s1, r2, s2, r3, s3, r4, s4, r5, s5, r6, s6, w7, w1, w2, w3, w4, w5, w6, z1, z2, z3, z4, z5, z6, tn1, tn2, tn3, tn4, tn5, tn6]) <;> (repeat' (first | (refine condD_dec ?_ ?_ <;> (intro hc; (try simp -implicitDefEqProofs [-loopQ_n, hc, parT, d1, d1', r0, s0, r1, s1, r2, s2, r3, s3, r4, s4, r5, s5, r6, s6, w7, w1, w2, w3, w4, w5, w6, z1, z2, z3, z4, z5, z6, tn1, tn2, tn3, tn4, tn5, tn6]))) | (refine guardD_dec ?_ ?_ <;> (intro hc; (try simp -implicitDefEqProofs [-loopQ_n, hc, parT, d1, d1', r0, s0, r1, s1, r2, s2, r3, s3, r4, s4, r5, s5, r6, s6, w7, w1, w2, w3, w4, w5, w6, z1, z2, z3, z4, z5, z6, tn1, tn2, tn3, tn4, tn5, tn6]))) | (refine condD_intro ?_ ?_ <;> (intro hd; have hc := hd; (try simp at hc) <;> (try simp -implicitDefEqProofs [-loopQ_n, hd, hc, parT, d1, d1', r0, s0, r1, s1, r2, s2, r3, s3, r4, s4, r5, s5, r6, s6, w7, w1, w2, w3, w4, w5, w6, z1, z2, z3, z4, z5, z6, tn1, tn2, tn3, tn4, tn5, tn6]))) | (refine guardD_intro ?_ ?_ <;> (intro hd; have hc := hd; (try simp at hc) <;> (try simp -implicitDefEqProofs [-loopQ_n, hd, hc, parT, d1, d1', r0, s0, r1, s1, r2, s2, r3, s3, r4, s4, r5, s5, r6, s6, w7, w1, w2, w3, w4, w5, w6, z1, z2, z3, z4, z5, z6, tn1, tn2, tn3, tn4, tn5, tn6]))) | (refine ldD_ep ?_ ?_; (focus kernel_rfl); (try simp -implicitDefEqProofs [-loopQ_n, parT, d1, d1', r0, s0, r1, s1, r2, s2, r3, s3, r4, s4, r5, s5, r6, s6, w7, w1, w2, w3, w4, w5, w6, z1, z2, z3, z4, z5, z6, tn1, tn2, tn3, tn4, tn5, tn6])))))
                all_goals (try (exfalso; omega))
              · have d2 : (57 : Int) < y3.toNat := by (apply Decidable.byContradiction; intro q; exact hd (dg_iff.2 (by omega)))
                have d2' : 57 < y3.toNat := by omega
                have d1' : ¬ y3.toNat < 48 := by omega
                have := rbad fun D a b c d h => by
                  have h7 := hgd D a b c d h
                  simp only [List.cons.injEq] at h7
                  obtain ⟨_, _, rfl, rfl, _, rfl, rfl, _⟩ := h7
                  exact hd h.b
                subst this
                ((try simp -implicitDefEqProofs [-loopQ_n, parT, d1, d1', d2, d2', r0, s0, r1, s1, r2, s2, r3, s3, r4, s4, r5, s5, r6, s6, w7, w1, w2, w3, w4, w5, w6, z1, z2, z3, z4, z5, z6, tn1, tn2, tn3, tn4, tn5, tn6]) <;> (repeat' (first | (refine condD_dec ?_ ?_ <;> (intro hc; (try simp -implicitDefEqProofs [-loopQ_n, hc, parT, d1, d1', d2, d2', r0, s0, r1, s1, r2, s2, r3, s3, r4, s4, r5, s5, r6, s6, w7, w1, w2, w3, w4, w5, w6, z1, z2, z3, z4, z5, z6, tn1, tn2, tn3, tn4, tn5, tn6]))) | (refine guardD_dec ?_ ?_ <;> (intro hc; (try simp -implicitDefEqProofs [-loopQ_n, hc, parT, d1, d1', d2, d2', r0, s0, r1, s1, r2, s2, r3, s3, r4, s4, r5, s5, r6, s6, w7, w1, w2, w3, w4, w5, w6, z1, z2, z3, z4, z5, z6, tn1, tn2, tn3, tn4, tn5, tn6]))) | (refine condD_intro ?_ ?_ <;> (intro hd; have hc := hd; (try simp at hc) <;> (try simp -implicitDefEqProofs [-loopQ_n, hd, hc, parT, d1, d1', d2, d2', r0, s0, r1, s1, r2, s2, r3, s3, r4, s4, r5, s5, r6, s6, w7, w1, w2, w3, w4, w5, w6, z1, z2, z3, z4, z5, z6, tn1, tn2, tn3, tn4, tn5, tn6]))) | (refine guardD_intro ?_ ?_ <;> (intro hd; have hc := hd; (try simp at hc) <;> (try simp -implicitDefEqProofs [-loopQ_n, hd, hc, parT, d1, d1', d2, d2', r0, s0, r1, s1, r2, s2, r3, s3, r4, s4, r5, s5, r6, s6, w7, w1, w2, w3, w4, w5, w6, z1, z2, z3, z4, z5, z6, tn1, tn2, tn3, tn4, tn5, tn6]))) | (refine ldD_ep ?_ ?_; (focus kernel_rfl); (try simp -implicitDefEqProofs [-loopQ_n, parT, d1, d1', d2, d2', r0, s0, r1, s1, r2, s2, r3, s3, r4, s4, r5, s5, r6, s6, w7, w1, w2, w3, w4, w5, w6, z1, z2, z3, z4, z5, z6, tn1, tn2, tn3, tn4, tn5, tn6])))))
                all_goals (try (exfalso; omega))
            have hdd := dg_iff.1 hd
            have d1 : ¬ (y3.toNat : Int) < 48 := by omega
            have d1' : ¬ y3.toNat < 48 := by omega
            have d2 : ¬ (57 : Int) < y3.toNat := by omega
            have d2' : ¬ 57 < y3.toNat := by omega
            have ww : wrapI .i64 (2 : Int) = 2 := wrap_in (by omega) (by omega)
            ((try simp -implicitDefEqProofs [-loopQ_n, d1, d1', d2, d2', ww, r0, s0, r1, s1, r2, s2, r3, s3, r4, s4, r5, s5, r6, s6, w7, w1, w2, w3, w4, w5, w6, z1, z2, z3, z4, z5, z6, tn1, tn2, tn3, tn4, tn5, tn6]) <;> (repeat' (first | (refine condD_dec ?_ ?_ <;> (intro hc; (try simp -implicitDefEqProofs [-loopQ_n, hc, d1, d1', d2, d2', ww, r0, s0, r1, s1, r2, s2, r3, s3, r4, s4, r5, s5, r6, s6, w7, w1, w2, w3, w4, w5, w6, z1, z2, z3, z4, z5, z6, tn1, tn2, tn3, tn4, tn5, tn6]))) | (refine guardD_dec ?_ ?_ <;> (intro hc; (try simp -implicitDefEqProofs [-loopQ_n, hc, d1, d1', d2, d2', ww, r0, s0, r1, s1, r2, s2, r3, s3, r4, s4, r5, s5, r6, s6, w7, w1, w2, w3, w4, w5, w6, z1, z2, z3, z4, z5, z6, tn1, tn2, tn3, tn4, tn5, tn6]))) | (refine condD_intro ?_ ?_ <;> (intro hd; have hc := hd; (try simp at hc) <;> (try simp -implicitDefEqProofs [-loopQ_n, hd, hc, d1, d1', d2, d2', ww, r0, s0, r1, s1, r2, s2, r3, s3, r4, s4, r5, s5, r6, s6, w7, w1, w2, w3, w4, w5, w6, z1, z2, z3, z4, z5, z6, tn1, tn2, tn3, tn4, tn5, tn6]))) | (refine guardD_intro ?_ ?_ <;> (intro hd; have hc := hd; (try simp at hc) <;> (try simp -implicitDefEqProofs [-loopQ_n, hd, hc, d1, d1', d2, d2', ww, r0, s0, r1, s1, r2, s2, r3, s3, r4, s4, r5, s5, r6, s6, w7, w1, w2, w3, w4, w5, w6, z1, z2, z3, z4, z5, z6, tn1, tn2, tn3, tn4, tn5, tn6]))) | (refine ldD_ep ?_ ?_; (focus kernel_rfl); (try simp -implicitDefEqProofs [-loopQ_n, d1, d1', d2, d2', ww, r0, s0, r1, s1, r2, s2, r3, s3, r4, s4, r5, s5, r6, s6, w7, w1, w2, w3, w4, w5, w6, z1, z2, z3, z4, z5, z6, tn1, tn2, tn3, tn4, tn5, tn6])))))
            all_goals (try (exfalso; omega))
            refine loop_next 2 ⟨by omega, fun _ => v0 (by omega), fun _ => hd, by omega, by omega⟩ (by omega) (weak_of 1 0 rfl rfl ?_ ?_) <;> simp [refsR, refs, ww]
          by_cases j2 : j = 2
          · subst j2
            by_cases hd : dg y5 = true
            rotate_left
            · by_cases d1 : (y5.toNat : Int) < 48
              · have d1' : y5.toNat < 48 := by omega
                have := rbad fun D a b c d h => by
                  have h7 := hgd D a b c d h
                  simp only [List.cons.injEq] at h7
                  obtain ⟨_, _, rfl, rfl, _, rfl, rfl, _⟩ := h7
                  exact hd h.c
                subst this
                ((try simp -implicitDefEqProofs [-loopQ_n, parT, d1, d1', r0, s0, r1, s1, r2, s2, r3, s3, r4, s4, r5, s5, r6, s6, w7, w1, w2, w3, w4, w5, w6, z1, z2, z3, z4, z5, z6, tn1, tn2, tn3, tn4, tn5, tn6]) <;> (repeat' (first | (refine condD_dec ?_ ?_ <;> (intro hc; (try simp -implicitDefEqProofs [-loopQ_n, hc, parT, d1, d1', r0, s0, r1, s1, r2, s2, r3, s3, r4, s4, r5, s5, r6, s6, w7, w1, w2, w3, w4, w5, w6, z1, z2, z3, z4, z5, z6, tn1, tn2, tn3, tn4, tn5, tn6]))) | (refine guardD_dec ?_ ?_ <;> (intro hc; (try simp -implicitDefEqProofs [-loopQ_n, hc, parT, d1, d1', r0, s0, r1, s1, r2, s2, r3, s3, r4, s4, r5, s5, r6, s6, w7, w1, w2, w3, w4, w5, w6, z1, z2, z3, z4, z5, z6, tn1, tn2, tn3, tn4, tn5, tn6]))) | (refine condD_intro ?_ ?_ <;> (intro hd; have hc := hd; (try simp at hc) <;> (try simp -implicitDefEqProofs [-loopQ_n, hd, hc, parT, d1, d1', r0, s0, r1, s1, r2, s2, r3, s3, r4, s4, r5, s5, r6, s6, w7, w1, w2, w3, w4, w5, w6, z1, z2, z3, z4, z5, z6, tn1, tn2, tn3, tn4, tn5, tn6]))) | (refine guardD_intro ?_ ?_ <;> (intro hd; have hc := hd; (try simp at hc) <;> (try simp -implicitDefEqProofs [-loopQ_n, hd, hc, parT, d1, d1', r0, s0, r1, s1, r2, s2, r3, s3, r4, s4, r5, s5, r6, s6, w7, w1, w2, w3, w4, w5, w6, z1, z2, z3, z4, z5, z6, tn1, tn2, tn3, tn4, tn5, tn6]))) | (refine ldD_ep ?_ ?_; (focus kernel_rfl); (try simp -implicitDefEqProofs [-loopQ_n, parT, d1, d1', r0, s0, r1, s1, r2, s2, r3, s3, r4, s4, r5, s5, r6, s6, w7, w1, w2, w3, w4, w5, w6, z1, z2, z3, z4, z5, z6, tn1, tn2, tn3, tn4, tn5, tn6])))))
                all_goals (try (exfalso; omega))
              · have d2 : (57 : Int) < y5.toNat := by (apply Decidable.byContradiction; intro q; exact hd (dg_iff.2 (by omega)))
                have d2' : 57 < y5.toNat := by omega
                have d1' : ¬ y5.toNat < 48 := by omega
                have := rbad fun D a b c d h => by
                  have h7 := hgd D a b c d h
                  simp only [List.cons.injEq] at h7
                  obtain ⟨_, _, rfl, rfl, _, rfl, rfl, _⟩ := h7
                  exact hd h.c
                subst this
                ((try simp -implicitDefEqProofs [-loopQ_n, parT, d1, d1', d2, d2', r0, s0, r1, s1, r2, s2, r3, s3, r4, s4, r5, s5, r6, s6, w7, w1, w2, w3, w4, w5, w6, z1, z2, z3, z4, z5, z6, tn1, tn2, tn3, tn4, tn5, tn6]) <;> (repeat' (first | (refine condD_dec ?_ ?_ <;> (intro hc; (try simp -implicitDefEqProofs [-loopQ_n, hc, parT, d1, d1', d2, d2', r0, s0, r1, s1, r2, s2, r3, s3, r4, s4, r5, s5, r6, s6, w7, w1, w2, w3, w4, w5, w6, z1, z2, z3, z4, z5, z6, tn1, tn2, tn3, tn4, tn5, tn6]))) | (refine guardD_dec ?_ ?_ <;> (intro hc; (try simp -implicitDefEqProofs [-loopQ_n, hc, parT, d1, d1', d2, d2', r0, s0, r1, s1, r2, s2, r3, s3, r4, s4, r5, s5, r6, s6, w7, w1, w2, w3, w4, w5, w6, z1, z2, z3, z4, z5, z6, tn1, tn2, tn3, tn4, tn5, tn6]))) | (refine condD_intro ?_ ?_ <;> (intro hd; have hc := hd; (try simp at hc) <;> (try simp -implicitDefEqProofs [-loopQ_n, hd, hc, parT, d1, d1', d2, d2', r0, s0, r1, s1, r2, s2, r3, s3, r4, s4, r5, s5, r6, s6, w7, w1, w2, w3, w4, w5, w6, z1, z2, z3, z4, z5, z6, tn1, tn2, tn3, tn4, tn5, tn6]))) | (refine guardD_intro ?_ ?_ <;> (intro hd; have hc := hd; (try simp at hc) <;> (try simp -implicitDefEqProofs [-loopQ_n, hd, hc, parT, d1, d1', d2, d2', r0, s0, r1, s1, r2, s2, r3, s3, r4, s4, r5, s5, r6, s6, w7, w1, w2, w3, w4, w5, w6, z1, z2, z3, z4, z5, z6, tn1, tn2, tn3, tn4, tn5, tn6]))) | (refine ldD_ep ?_ ?_; (focus kernel_rfl); (try simp -implicitDefEqProofs [-loopQ_n, parT, d1, d1', d2, d2', r0, s0, r1, s1, r2, s2, r3, s3, r4, s4, r5, s5, r6, s6, w7, w1, w2, w3, w4, w5, w6, z1, z2, z3, z4, z5, z6, tn1, tn2, tn3, tn4, tn5, tn6])))))
                all_goals (try (exfalso; omega))
            have hdd := dg_iff.1 hd
            have d1 : ¬ (y5.toNat : Int) < 48 := by omega
            have d1' : ¬ y5.toNat < 48 := by omega
            have d2 : ¬ (57 : Int) < y5.toNat := by omega
            have d2' : ¬ 57 < y5.toNat := by omega
            have ww : wrapI .i64 (3 : Int) = 3 := wrap_in (by omega) (by omega)
            ((try simp -implicitDefEqProofs [-loopQ_n, d1, d1', d2, d2', ww, r0, s0, r1, s1, r2, s2, r3, s3, r4, s4, r5, s5, r6, s6, w7, w1, w2, w3, w4, w5, w6, z1, z2, z3, z4, z5, z6, tn1, tn2, tn3, tn4, tn5, tn6]) <;> (repeat' (first | (refine condD_dec ?_ ?_ <;> (intro hc; (try simp -implicitDefEqProofs [-loopQ_n, hc, d1, d1', d2, d2', ww, r0, s0, r1, s1, r2, s2, r3, s3, r4, s4, r5, s5, r6, s6, w7, w1, w2, w3, w4, w5, w6, z1, z2, z3, z4, z5, z6, tn1, tn2, tn3, tn4, tn5, tn6]))) | (refine guardD_dec ?_ ?_ <;> (intro hc; (try simp -implicitDefEqProofs [-loopQ_n, hc, d1, d1', d2, d2', ww, r0, s0, r1, s1, r2, s2, r3, s3, r4, s4, r5, s5, r6, s6, w7, w1, w2, w3, w4, w5, w6, z1, z2, z3, z4, z5, z6, tn1, tn2, tn3, tn4, tn5, tn6]))) | (refine condD_intro ?_ ?_ <;> (intro hd; have hc := hd; (try simp at hc) <;> (try simp -implicitDefEqProofs [-loopQ_n, hd, hc, d1, d1', d2, d2', ww, r0, s0, r1, s1, r2, s2, r3, s3, r4, s4, r5, s5, r6, s6, w7, w1, w2, w3, w4, w5, w6, z1, z2, z3, z4, z5, z6, tn1, tn2, tn3, tn4, tn5, tn6]))) | (refine guardD_intro ?_ ?_ <;> (intro hd; have hc := hd; (try simp at hc) <;> (try simp -implicitDefEqProofs [-loopQ_n, hd, hc, d1, d1', d2, d2', ww, r0, s0, r1, s1, r2, s2, r3, s3, r4, s4, r5, s5, r6, s6, w7, w1, w2, w3, w4, w5, w6, z1, z2, z3, z4, z5, z6, tn1, tn2, tn3, tn4, tn5, tn6]))) | (refine ldD_ep ?_ ?_; (focus kernel_rfl); (try simp -implicitDefEqProofs [-loopQ_n, d1, d1', d2, d2', ww, r0, s0, r1, s1, r2, s2, r3, s3, r4, s4, r5, s5, r6, s6, w7, w1, w2, w3, w4, w5, w6, z1, z2, z3, z4, z5, z6, tn1, tn2, tn3, tn4, tn5, tn6])))))
            all_goals (try (exfalso; omega))
            refine loop_next 3 ⟨by omega, fun _ => v0 (by omega), fun _ => v1 (by omega), fun _ => hd, by omega⟩ (by omega) (weak_of 1 0 rfl rfl ?_ ?_) <;> simp [refsR, refs, ww]
          by_cases j3 : j = 3
          · subst j3
            by_cases hd : dg y6 = true
            rotate_left
            · by_cases d1 : (y6.toNat : Int) < 48
              · have d1' : y6.toNat < 48 := by omega
                have := rbad fun D a b c d h => by
                  have h7 := hgd D a b c d h
                  simp only [List.cons.injEq] at h7
                  obtain ⟨_, _, rfl, rfl, _, rfl, rfl, _⟩ := h7
                  exact hd h.d
                subst this
                ((try simp -implicitDefEqProofs [-loopQ_n, parT, d1, d1', r0, s0, r1, s1, r2, s2, r3, s3, r4, s4, r5, s5, r6, s6, w7, w1, w2, w3, w4, w5, w6, z1, z2, z3, z4, z5, z6, tn1, tn2, tn3, tn4, tn5, tn6]) <;> (repeat' (first | (refine condD_dec ?_ ?_ <;> (intro hc; (try simp -implicitDefEqProofs [-loopQ_n, hc, parT, d1, d1', r0, s0, r1, s1, r2, s2, r3, s3, r4, s4, r5, s5, r6, s6, w7, w1, w2, w3, w4, w5, w6, z1, z2, z3, z4, z5, z6, tn1, tn2, tn3, tn4, tn5, tn6]))) | (refine guardD_dec ?_ ?_ <;> (intro hc; (try simp -implicitDefEqProofs [-loopQ_n, hc, parT, d1, d1', r0, s0, r1, s1, r2, s2, r3, s3, r4, s4, r5, s5, r6, s6, w7, w1, w2, w3, w4, w5, w6, z1, z2, z3, z4, z5, z6, tn1, tn2, tn3, tn4, tn5, tn6]))) | (refine condD_intro ?_ ?_ <;> (intro hd; have hc := hd; (try simp at hc) <;> (try simp -implicitDefEqProofs [-loopQ_n, hd, hc, parT, d1, d1', r0, s0, r1, s1, r2, s2, r3, s3, r4, s4, r5, s5, r6, s6, w7, w1, w2, w3, w4, w5, w6, z1, z2, z3, z4, z5, z6, tn1, tn2, tn3, tn4, tn5, tn6]))) | (refine guardD_intro ?_ ?_ <;> (intro hd; have hc := hd; (try simp at hc) <;> (try simp -implicitDefEqProofs [-loopQ_n, hd, hc, parT, d1, d1', r0, s0, r1, s1, r2, s2, r3, s3, r4, s4, r5, s5, r6, s6, w7, w1, w2, w3, w4, w5, w6, z1, z2, z3, z4, z5, z6, tn1, tn2, tn3, tn4, tn5, tn6]))) | (refine ldD_ep ?_ ?_; (focus kernel_rfl); (try simp -implicitDefEqProofs [-loopQ_n, parT, d1, d1', r0, s0, r1, s1, r2, s2, r3, s3, r4, s4, r5, s5, r6, s6, w7, w1, w2, w3, w4, w5, w6, z1, z2, z3, z4, z5, z6, tn1, tn2, tn3, tn4, tn5, tn6])))))
                all_goals (try (exfalso; omega))
              · have d2 : (57 : Int) < y6.toNat := by (apply Decidable.byContradiction; intro q; exact hd (dg_iff.2 (by omega)))
                have d2' : 57 < y6.toNat := by omega
                have d1' : ¬ y6.toNat < 48 := by omega
                have := rbad fun D a b c d h => by
                  have h7 := hgd D a b c d h
                  simp only [List.cons.injEq] at h7
                  obtain ⟨_, _, rfl, rfl, _, rfl, rfl, _⟩ := h7
                  exact hd h.d
                subst this
                ((try simp -implicitDefEqProofs [-loopQ_n, parT, d1, d1', d2, d2', r0, s0, r1, s1, r2, s2, r3, s3, r4, s4, r5, s5, r6, s6, w7, w1, w2, w3, w4, w5, w6, z1, z2, z3, z4, z5, z6, tn1, tn2, tn3, tn4, tn5, tn6]) <;> (repeat' (first | (refine condD_dec ?_ ?_ <;> (intro hc; (try simp -implicitDefEqProofs [-loopQ_n, hc, parT, d1, d1', d2, d2', r0, s0, r1, s1, r2, s2, r3, s3, r4, s4, r5, s5, r6, s6, w7, w1, w2, w3, w4, w5, w6, z1, z2, z3, z4, z5, z6, tn1, tn2, tn3, tn4, tn5, tn6]))) | (refine guardD_dec ?_ ?_ <;> (intro hc; (try simp -implicitDefEqProofs [-loopQ_n, hc, parT, d1, d1', d2, d2', r0, s0, r1, s1, r2, s2, r3, s3, r4, s4, r5, s5, r6, s6, w7, w1, w2, w3, w4, w5, w6, z1, z2, z3, z4, z5, z6, tn1, tn2, tn3, tn4, tn5, tn6]))) | (refine condD_intro ?_ ?_ <;> (intro hd; have hc := hd; (try simp at hc) <;> (try simp -implicitDefEqProofs [-loopQ_n, hd, hc, parT, d1, d1', d2, d2', r0, s0, r1, s1, r2, s2, r3, s3, r4, s4, r5, s5, r6, s6, w7, w1, w2, w3, w4, w5, w6, z1, z2, z3, z4, z5, z6, tn1, tn2, tn3, tn4, tn5, tn6]))) | (refine guardD_intro ?_ ?_ <;> (intro hd; have hc := hd; (try simp at hc) <;> (try simp -implicitDefEqProofs [-loopQ_n, hd, hc, parT, d1, d1', d2, d2', r0, s0, r1, s1, r2, s2, r3, s3, r4, s4, r5, s5, r6, s6, w7, w1, w2, w3, w4, w5, w6, z1, z2, z3, z4, z5, z6, tn1, tn2, tn3, tn4, tn5, tn6]))) | (refine ldD_ep ?_ ?_; (focus kernel_rfl); (try simp -implicitDefEqProofs [-loopQ_n, parT, d1, d1', d2, d2', r0, s0, r1, s1, r2, s2, r3, s3, r4, s4, r5, s5, r6, s6, w7, w1, w2, w3, w4, w5, w6, z1, z2, z3, z4, z5, z6, tn1, tn2, tn3, tn4, tn5, tn6])))))
                all_goals (try (exfalso; omega))
            have hdd := dg_iff.1 hd
            have d1 : ¬ (y6.toNat : Int) < 48 := by omega
            have d1' : ¬ y6.toNat < 48 := by omega
            have d2 : ¬ (57 : Int) < y6.toNat := by omega
            have d2' : ¬ 57 < y6.toNat := by omega
            have ww : wrapI .i64 (4 : Int) = 4 := wrap_in (by omega) (by omega)
            ((try simp -implicitDefEqProofs [-loopQ_n, d1, d1', d2, d2', ww, r0, s0, r1, s1, r2, s2, r3, s3, r4, s4, r5, s5, r6, s6, w7, w1, w2, w3, w4, w5, w6, z1, z2, z3, z4, z5, z6, tn1, tn2, tn3, tn4, tn5, tn6]) <;> (repeat' (first | (refine condD_dec ?_ ?_ <;> (intro hc; (try simp -implicitDefEqProofs [-loopQ_n, hc, d1, d1', d2, d2', ww, r0, s0, r1, s1, r2, s2, r3, s3, r4, s4, r5, s5, r6, s6, w7, w1, w2, w3, w4, w5, w6, z1, z2, z3, z4, z5, z6, tn1, tn2, tn3, tn4, tn5, tn6]))) | (refine guardD_dec ?_ ?_ <;> (intro hc; (try simp -implicitDefEqProofs [-loopQ_n, hc, d1, d1', d2, d2', ww, r0, s0, r1, s1, r2, s2, r3, s3, r4, s4, r5, s5, r6, s6, w7, w1, w2, w3, w4, w5, w6, z1, z2, z3, z4, z5, z6, tn1, tn2, tn3, tn4, tn5, tn6]))) | (refine condD_intro ?_ ?_ <;> (intro hd; have hc := hd; (try simp at hc) <;> (try simp -implicitDefEqProofs [-loopQ_n, hd, hc, d1, d1', d2, d2', ww, r0, s0, r1, s1, r2, s2, r3, s3, r4, s4, r5, s5, r6, s6, w7, w1, w2, w3, w4, w5, w6, z1, z2, z3, z4, z5, z6, tn1, tn2, tn3, tn4, tn5, tn6]))) | (refine guardD_intro ?_ ?_ <;> (intro hd; have hc := hd; (try simp at hc) <;> (try simp -implicitDefEqProofs [-loopQ_n, hd, hc, d1, d1', d2, d2', ww, r0, s0, r1, s1, r2, s2, r3, s3, r4, s4, r5, s5, r6, s6, w7, w1, w2, w3, w4, w5, w6, z1, z2, z3, z4, z5, z6, tn1, tn2, tn3, tn4, tn5, tn6]))) | (refine ldD_ep ?_ ?_; (focus kernel_rfl); (try simp -implicitDefEqProofs [-loopQ_n, d1, d1', d2, d2', ww, r0, s0, r1, s1, r2, s2, r3, s3, r4, s4, r5, s5, r6, s6, w7, w1, w2, w3, w4, w5, w6, z1, z2, z3, z4, z5, z6, tn1, tn2, tn3, tn4, tn5, tn6])))))
            all_goals (try (exfalso; omega))
            refine loop_next 4 ⟨by omega, fun _ => v0 (by omega), fun _ => v1 (by omega), fun _ => v2 (by omega), fun _ => hd⟩ (by omega) (weak_of 1 0 rfl rfl ?_ ?_) <;> simp [refsR, refs, ww]
          have j4 : j = 4 := by omega
          subst j4
          have D0 := v0 (by omega)
          have B0 := dv_bd D0
          have E0 := dg_iff.1 D0
          have u0 : wrapI .u8 ((y2.toNat : Int) - 48) = dv y2 := by rw [wrap8 (by omega) (by omega)]; rfl
          have U0 : wrapI .i64 (dv y2) = dv y2 := wrap_in (by omega) (by omega)
          have T0 : wrapI .i64 (dv y2 * 10) = dv y2 * 10 := wrap_in (by omega) (by omega)
          have D1 := v1 (by omega)
          have B1 := dv_bd D1
          have E1 := dg_iff.1 D1
          have u1 : wrapI .u8 ((y3.toNat : Int) - 48) = dv y3 := by rw [wrap8 (by omega) (by omega)]; rfl
          have U1 : wrapI .i64 (dv y3) = dv y3 := wrap_in (by omega) (by omega)
          have T1 : wrapI .i64 (dv y3 * 10) = dv y3 * 10 := wrap_in (by omega) (by omega)
          have D2 := v2 (by omega)
          have B2 := dv_bd D2
          have E2 := dg_iff.1 D2
          have u2 : wrapI .u8 ((y5.toNat : Int) - 48) = dv y5 := by rw [wrap8 (by omega) (by omega)]; rfl
          have U2 : wrapI .i64 (dv y5) = dv y5 := wrap_in (by omega) (by omega)
          have T2 : wrapI .i64 (dv y5 * 10) = dv y5 * 10 := wrap_in (by omega) (by omega)
          have D3 := v3 (by omega)
          have B3 := dv_bd D3
          have E3 := dg_iff.1 D3
          have u3 : wrapI .u8 ((y6.toNat : Int) - 48) = dv y6 := by rw [wrap8 (by omega) (by omega)]; rfl
          have U3 : wrapI .i64 (dv y6) = dv y6 := wrap_in (by omega) (by omega)
          have T3 : wrapI .i64 (dv y6 * 10) = dv y6 * 10 := wrap_in (by omega) (by omega)
          have := rgood ((bl s).take i) y2 y3 y5 y6 ⟨hll, t3, by simp; omega, by simp; omega, fun q => hld ⟨by have := q.1; simp at this; omega, by have := q.2; rw [List.head?_eq_getElem?, List.getElem?_take_of_lt (by omega), hx0] at this; simp only [Option.some.injEq] at this; rw [this]; rfl⟩, D0, D1, D2, D3⟩
          subst this
          unfold finV
          rw [hn]
          obtain ⟨H, hH⟩ : ∃ H, dv y2 * 10 + dv y3 = H := ⟨_, rfl⟩
          obtain ⟨M, hM⟩ : ∃ M, dv y5 * 10 + dv y6 = M := ⟨_, rfl⟩
          rw [show 10 * dv y2 + dv y3 = H by omega, show 10 * dv y5 + dv y6 = M by omega]
          have W1 : wrapI .i64 (n * 1440) = n * 1440 := wrap_in (by omega) (by omega)
          have W2 : wrapI .i64 (H * 60) = H * 60 := wrap_in (by omega) (by omega)
          have W3 : wrapI .i64 (n * 1440 + H * 60) = n * 1440 + H * 60 := wrap_in (by omega) (by omega)
          have W4 : wrapI .i64 (n * 1440 + H * 60 + M) = n * 1440 + H * 60 + M := wrap_in (by omega) (by omega)
          have W5 : wrapI .i64 H = H := wrap_in (by omega) (by omega)
          have W6 : wrapI .i64 M = M := wrap_in (by omega) (by omega)
          have hI := rinstant_pure (n * 1440 + H * 60 + M)
          by_cases c10 : 23 < H
          · rw [if_pos (.inl c10)]
            ((try simp -implicitDefEqProofs [-loopQ_n, parT, c10, r0, s0, r1, s1, r2, s2, r3, s3, r4, s4, r5, s5, r6, s6, w7, w1, w2, w3, w4, w5, w6, z1, z2, z3, z4, z5, z6, tn1, tn2, tn3, tn4, tn5, tn6, u0, u1, u2, u3, U0, U1, U2, U3, T0, T2, hH, hM, W5, W6]) <;> (repeat' (first | (refine condD_dec ?_ ?_ <;> (intro hc; (try simp -implicitDefEqProofs [-loopQ_n, hc, parT, c10, r0, s0, r1, s1, r2, s2, r3, s3, r4, s4, r5, s5, r6, s6, w7, w1, w2, w3, w4, w5, w6, z1, z2, z3, z4, z5, z6, tn1, tn2, tn3, tn4, tn5, tn6, u0, u1, u2, u3, U0, U1, U2, U3, T0, T2, hH, hM, W5, W6]))) | (refine guardD_dec ?_ ?_ <;> (intro hc; (try simp -implicitDefEqProofs [-loopQ_n, hc, parT, c10, r0, s0, r1, s1, r2, s2, r3, s3, r4, s4, r5, s5, r6, s6, w7, w1, w2, w3, w4, w5, w6, z1, z2, z3, z4, z5, z6, tn1, tn2, tn3, tn4, tn5, tn6, u0, u1, u2, u3, U0, U1, U2, U3, T0, T2, hH, hM, W5, W6]))) | (refine condD_intro ?_ ?_ <;> (intro hd; have hc := hd; (try simp at hc) <;> (try simp -implicitDefEqProofs [-loopQ_n, hd, hc, parT, c10, r0, s0, r1, s1, r2, s2, r3, s3, r4, s4, r5, s5, r6, s6, w7, w1, w2, w3, w4, w5, w6, z1, z2, z3, z4, z5, z6, tn1, tn2, tn3, tn4, tn5, tn6, u0, u1, u2, u3, U0, U1, U2, U3, T0, T2, hH, hM, W5, W6]))) | (refine guardD_intro ?_ ?_ <;> (intro hd; have hc := hd; (try simp at hc) <;> (try simp -implicitDefEqProofs [-loopQ_n, hd, hc, parT, c10, r0, s0, r1, s1, r2, s2, r3, s3, r4, s4, r5, s5, r6, s6, w7, w1, w2, w3, w4, w5, w6, z1, z2, z3, z4, z5, z6, tn1, tn2, tn3, tn4, tn5, tn6, u0, u1, u2, u3, U0, U1, U2, U3, T0, T2, hH, hM, W5, W6]))) | (refine ldD_ep ?_ ?_; (focus kernel_rfl); (try simp -implicitDefEqProofs [-loopQ_n, parT, c10, r0, s0, r1, s1, r2, s2, r3, s3, r4, s4, r5, s5, r6, s6, w7, w1, w2, w3, w4, w5, w6, z1, z2, z3, z4, z5, z6, tn1, tn2, tn3, tn4, tn5, tn6, u0, u1, u2, u3, U0, U1, U2, U3, T0, T2, hH, hM, W5, W6])))))
          by_cases c11 : 59 < M
          · rw [if_pos (.inr c11)]
            ((try simp -implicitDefEqProofs [-loopQ_n, parT, c10, c11, r0, s0, r1, s1, r2, s2, r3, s3, r4, s4, r5, s5, r6, s6, w7, w1, w2, w3, w4, w5, w6, z1, z2, z3, z4, z5, z6, tn1, tn2, tn3, tn4, tn5, tn6, u0, u1, u2, u3, U0, U1, U2, U3, T0, T2, hH, hM, W5, W6]) <;> (repeat' (first | (refine condD_dec ?_ ?_ <;> (intro hc; (try simp -implicitDefEqProofs [-loopQ_n, hc, parT, c10, c11, r0, s0, r1, s1, r2, s2, r3, s3, r4, s4, r5, s5, r6, s6, w7, w1, w2, w3, w4, w5, w6, z1, z2, z3, z4, z5, z6, tn1, tn2, tn3, tn4, tn5, tn6, u0, u1, u2, u3, U0, U1, U2, U3, T0, T2, hH, hM, W5, W6]))) | (refine guardD_dec ?_ ?_ <;> (intro hc; (try simp -implicitDefEqProofs [-loopQ_n, hc, parT, c10, c11, r0, s0, r1, s1, r2, s2, r3, s3, r4, s4, r5, s5, r6, s6, w7, w1, w2, w3, w4, w5, w6, z1, z2, z3, z4, z5, z6, tn1, tn2, tn3, tn4, tn5, tn6, u0, u1, u2, u3, U0, U1, U2, U3, T0, T2, hH, hM, W5, W6]))) | (refine condD_intro ?_ ?_ <;> (intro hd; have hc := hd; (try simp at hc) <;> (try simp -implicitDefEqProofs [-loopQ_n, hd, hc, parT, c10, c11, r0, s0, r1, s1, r2, s2, r3, s3, r4, s4, r5, s5, r6, s6, w7, w1, w2, w3, w4, w5, w6, z1, z2, z3, z4, z5, z6, tn1, tn2, tn3, tn4, tn5, tn6, u0, u1, u2, u3, U0, U1, U2, U3, T0, T2, hH, hM, W5, W6]))) | (refine guardD_intro ?_ ?_ <;> (intro hd; have hc := hd; (try simp at hc) <;> (try simp -implicitDefEqProofs [-loopQ_n, hd, hc, parT, c10, c11, r0, s0, r1, s1, r2, s2, r3, s3, r4, s4, r5, s5, r6, s6, w7, w1, w2, w3, w4, w5, w6, z1, z2, z3, z4, z5, z6, tn1, tn2, tn3, tn4, tn5, tn6, u0, u1, u2, u3, U0, U1, U2, U3, T0, T2, hH, hM, W5, W6]))) | (refine ldD_ep ?_ ?_; (focus kernel_rfl); (try simp -implicitDefEqProofs [-loopQ_n, parT, c10, c11, r0, s0, r1, s1, r2, s2, r3, s3, r4, s4, r5, s5, r6, s6, w7, w1, w2, w3, w4, w5, w6, z1, z2, z3, z4, z5, z6, tn1, tn2, tn3, tn4, tn5, tn6, u0, u1, u2, u3, U0, U1, U2, U3, T0, T2, hH, hM, W5, W6])))))
          rw [if_neg (by omega)]
          generalize hT : n * 1440 + H * 60 + M = T at *
          cases hv : inst T with
          | true =>
            rw [hv] at hI
            ((try simp -implicitDefEqProofs [-loopQ_n, parT, c10, c11, r0, s0, r1, s1, r2, s2, r3, s3, r4, s4, r5, s5, r6, s6, w7, w1, w2, w3, w4, w5, w6, z1, z2, z3, z4, z5, z6, tn1, tn2, tn3, tn4, tn5, tn6, u0, u1, u2, u3, U0, U1, U2, U3, T0, T2, hH, hM, W5, W6, W1, W2, W3, hT, W4]) <;> (repeat' (first | (refine condD_dec ?_ ?_ <;> (intro hc; (try simp -implicitDefEqProofs [-loopQ_n, hc, parT, c10, c11, r0, s0, r1, s1, r2, s2, r3, s3, r4, s4, r5, s5, r6, s6, w7, w1, w2, w3, w4, w5, w6, z1, z2, z3, z4, z5, z6, tn1, tn2, tn3, tn4, tn5, tn6, u0, u1, u2, u3, U0, U1, U2, U3, T0, T2, hH, hM, W5, W6, W1, W2, W3, hT, W4]))) | (refine guardD_dec ?_ ?_ <;> (intro hc; (try simp -implicitDefEqProofs [-loopQ_n, hc, parT, c10, c11, r0, s0, r1, s1, r2, s2, r3, s3, r4, s4, r5, s5, r6, s6, w7, w1, w2, w3, w4, w5, w6, z1, z2, z3, z4, z5, z6, tn1, tn2, tn3, tn4, tn5, tn6, u0, u1, u2, u3, U0, U1, U2, U3, T0, T2, hH, hM, W5, W6, W1, W2, W3, hT, W4]))) | (refine condD_intro ?_ ?_ <;> (intro hd; have hc := hd; (try simp at hc) <;> (try simp -implicitDefEqProofs [-loopQ_n, hd, hc, parT, c10, c11, r0, s0, r1, s1, r2, s2, r3, s3, r4, s4, r5, s5, r6, s6, w7, w1, w2, w3, w4, w5, w6, z1, z2, z3, z4, z5, z6, tn1, tn2, tn3, tn4, tn5, tn6, u0, u1, u2, u3, U0, U1, U2, U3, T0, T2, hH, hM, W5, W6, W1, W2, W3, hT, W4]))) | (refine guardD_intro ?_ ?_ <;> (intro hd; have hc := hd; (try simp at hc) <;> (try simp -implicitDefEqProofs [-loopQ_n, hd, hc, parT, c10, c11, r0, s0, r1, s1, r2, s2, r3, s3, r4, s4, r5, s5, r6, s6, w7, w1, w2, w3, w4, w5, w6, z1, z2, z3, z4, z5, z6, tn1, tn2, tn3, tn4, tn5, tn6, u0, u1, u2, u3, U0, U1, U2, U3, T0, T2, hH, hM, W5, W6, W1, W2, W3, hT, W4]))) | (refine ldD_ep ?_ ?_; (focus kernel_rfl); (try simp -implicitDefEqProofs [-loopQ_n, parT, c10, c11, r0, s0, r1, s1, r2, s2, r3, s3, r4, s4, r5, s5, r6, s6, w7, w1, w2, w3, w4, w5, w6, z1, z2, z3, z4, z5, z6, tn1, tn2, tn3, tn4, tn5, tn6, u0, u1, u2, u3, U0, U1, U2, U3, T0, T2, hH, hM, W5, W6, W1, W2, W3, hT, W4])) | (refine callS_mk ?_; (try simp -implicitDefEqProofs [-loopQ_n, parT, c10, c11, r0, s0, r1, s1, r2, s2, r3, s3, r4, s4, r5, s5, r6, s6, w7, w1, w2, w3, w4, w5, w6, z1, z2, z3, z4, z5, z6, tn1, tn2, tn3, tn4, tn5, tn6, u0, u1, u2, u3, U0, U1, U2, U3, T0, T2, hH, hM, W5, W6, W1, W2, W3, hT, W4]); (first | refine callS_intro (hI) (.inl rfl) ?_); (try simp -implicitDefEqProofs [-loopQ_n, parT, c10, c11, r0, s0, r1, s1, r2, s2, r3, s3, r4, s4, r5, s5, r6, s6, w7, w1, w2, w3, w4, w5, w6, z1, z2, z3, z4, z5, z6, tn1, tn2, tn3, tn4, tn5, tn6, u0, u1, u2, u3, U0, U1, U2, U3, T0, T2, hH, hM, W5, W6, W1, W2, W3, hT, W4])))))
          | false =>
            rw [hv] at hI
            ((try simp -implicitDefEqProofs [-loopQ_n, parT, c10, c11, r0, s0, r1, s1, r2, s2, r3, s3, r4, s4, r5, s5, r6, s6, w7, w1, w2, w3, w4, w5, w6, z1, z2, z3, z4, z5, z6, tn1, tn2, tn3, tn4, tn5, tn6, u0, u1, u2, u3, U0, U1, U2, U3, T0, T2, hH, hM, W5, W6, W1, W2, W3, hT, W4]) <;> (repeat' (first | (refine condD_dec ?_ ?_ <;> (intro hc; (try simp -implicitDefEqProofs [-loopQ_n, hc, parT, c10, c11, r0, s0, r1, s1, r2, s2, r3, s3, r4, s4, r5, s5, r6, s6, w7, w1, w2, w3, w4, w5, w6, z1, z2, z3, z4, z5, z6, tn1, tn2, tn3, tn4, tn5, tn6, u0, u1, u2, u3, U0, U1, U2, U3, T0, T2, hH, hM, W5, W6, W1, W2, W3, hT, W4]))) | (refine guardD_dec ?_ ?_ <;> (intro hc; (try simp -implicitDefEqProofs [-loopQ_n, hc, parT, c10, c11, r0, s0, r1, s1, r2, s2, r3, s3, r4, s4, r5, s5, r6, s6, w7, w1, w2, w3, w4, w5, w6, z1, z2, z3, z4, z5, z6, tn1, tn2, tn3, tn4, tn5, tn6, u0, u1, u2, u3, U0, U1, U2, U3, T0, T2, hH, hM, W5, W6, W1, W2, W3, hT, W4]))) | (refine condD_intro ?_ ?_ <;> (intro hd; have hc := hd; (try simp at hc) <;> (try simp -implicitDefEqProofs [-loopQ_n, hd, hc, parT, c10, c11, r0, s0, r1, s1, r2, s2, r3, s3, r4, s4, r5, s5, r6, s6, w7, w1, w2, w3, w4, w5, w6, z1, z2, z3, z4, z5, z6, tn1, tn2, tn3, tn4, tn5, tn6, u0, u1, u2, u3, U0, U1, U2, U3, T0, T2, hH, hM, W5, W6, W1, W2, W3, hT, W4]))) | (refine guardD_intro ?_ ?_ <;> (intro hd; have hc := hd; (try simp at hc) <;> (try simp -implicitDefEqProofs [-loopQ_n, hd, hc, parT, c10, c11, r0, s0, r1, s1, r2, s2, r3, s3, r4, s4, r5, s5, r6, s6, w7, w1, w2, w3, w4, w5, w6, z1, z2, z3, z4, z5, z6, tn1, tn2, tn3, tn4, tn5, tn6, u0, u1, u2, u3, U0, U1, U2, U3, T0, T2, hH, hM, W5, W6, W1, W2, W3, hT, W4]))) | (refine ldD_ep ?_ ?_; (focus kernel_rfl); (try simp -implicitDefEqProofs [-loopQ_n, parT, c10, c11, r0, s0, r1, s1, r2, s2, r3, s3, r4, s4, r5, s5, r6, s6, w7, w1, w2, w3, w4, w5, w6, z1, z2, z3, z4, z5, z6, tn1, tn2, tn3, tn4, tn5, tn6, u0, u1, u2, u3, U0, U1, U2, U3, T0, T2, hH, hM, W5, W6, W1, W2, W3, hT, W4])) | (refine callS_mk ?_; (try simp -implicitDefEqProofs [-loopQ_n, parT, c10, c11, r0, s0, r1, s1, r2, s2, r3, s3, r4, s4, r5, s5, r6, s6, w7, w1, w2, w3, w4, w5, w6, z1, z2, z3, z4, z5, z6, tn1, tn2, tn3, tn4, tn5, tn6, u0, u1, u2, u3, U0, U1, U2, U3, T0, T2, hH, hM, W5, W6, W1, W2, W3, hT, W4]); (first | refine callS_intro (hI) (.inl rfl) ?_); (try simp -implicitDefEqProofs [-loopQ_n, parT, c10, c11, r0, s0, r1, s1, r2, s2, r3, s3, r4, s4, r5, s5, r6, s6, w7, w1, w2, w3, w4, w5, w6, z1, z2, z3, z4, z5, z6, tn1, tn2, tn3, tn4, tn5, tn6, u0, u1, u2, u3, U0, U1, U2, U3, T0, T2, hH, hM, W5, W6, W1, W2, W3, hT, W4])))))
      · have n1' : ¬ (1 : Int) < i := by omega
        by_cases n3 : (bl s).length = i + 7
        rotate_left
        · have n3i : ¬ (s.size : Int) = (i : Int) + 7 := by omega
          have n3' : ¬ s.size = i + 7 := by omega
          have := rbad fun D a b c d h => by
            have h1 := htok D a b c d h
            have h2 := congrArg List.length h.eq
            have h3 := h.eq
            have h4 := h.pos
            have h5 := h.nine
            have h6 := h.lead
            simp at h2
            omega
          subst this
          ((try simp -implicitDefEqProofs [-loopQ_n, parT, n0, n0', n1, n1', p1, p2, n3i, n3', w7, w1, w2, w3, w4, w5, w6, z1, z2, z3, z4, z5, z6, tn1, tn2, tn3, tn4, tn5, tn6, e1, e1', e2, e2', e3, e3', e4, e4', q1, q2]) <;> (repeat' (first | (refine condD_dec ?_ ?_ <;> (intro hc; (try simp -implicitDefEqProofs [-loopQ_n, hc, parT, n0, n0', n1, n1', p1, p2, n3i, n3', w7, w1, w2, w3, w4, w5, w6, z1, z2, z3, z4, z5, z6, tn1, tn2, tn3, tn4, tn5, tn6, e1, e1', e2, e2', e3, e3', e4, e4', q1, q2]))) | (refine guardD_dec ?_ ?_ <;> (intro hc; (try simp -implicitDefEqProofs [-loopQ_n, hc, parT, n0, n0', n1, n1', p1, p2, n3i, n3', w7, w1, w2, w3, w4, w5, w6, z1, z2, z3, z4, z5, z6, tn1, tn2, tn3, tn4, tn5, tn6, e1, e1', e2, e2', e3, e3', e4, e4', q1, q2]))) | (refine condD_intro ?_ ?_ <;> (intro hd; have hc := hd; (try simp at hc) <;> (try simp -implicitDefEqProofs [-loopQ_n, hd, hc, parT, n0, n0', n1, n1', p1, p2, n3i, n3', w7, w1, w2, w3, w4, w5, w6, z1, z2, z3, z4, z5, z6, tn1, tn2, tn3, tn4, tn5, tn6, e1, e1', e2, e2', e3, e3', e4, e4', q1, q2]))) | (refine guardD_intro ?_ ?_ <;> (intro hd; have hc := hd; (try simp at hc) <;> (try simp -implicitDefEqProofs [-loopQ_n, hd, hc, parT, n0, n0', n1, n1', p1, p2, n3i, n3', w7, w1, w2, w3, w4, w5, w6, z1, z2, z3, z4, z5, z6, tn1, tn2, tn3, tn4, tn5, tn6, e1, e1', e2, e2', e3, e3', e4, e4', q1, q2]))) | (refine ldD_ep ?_ ?_; (focus kernel_rfl); (try simp -implicitDefEqProofs [-loopQ_n, parT, n0, n0', n1, n1', p1, p2, n3i, n3', w7, w1, w2, w3, w4, w5, w6, z1, z2, z3, z4, z5, z6, tn1, tn2, tn3, tn4, tn5, tn6, e1, e1', e2, e2', e3, e3', e4, e4', q1, q2])))))
          all_goals (try (exfalso; omega))
        have n3i : ((s.size : Int) = (i : Int) + 7) = True := eq_true (by omega)
        have n3' : (s.size = i + 7) = True := eq_true (by omega)
        obtain ⟨y0, y1, y2, y3, y4, y5, y6, hE⟩ : ∃ y0 y1 y2 y3 y4 y5 y6, (bl s).drop i = [y0, y1, y2, y3, y4, y5, y6] := seven (by simp; omega)
        have hyk : ∀ j : Nat, (bl s)[i + j]? = [y0, y1, y2, y3, y4, y5, y6][j]? := fun j => by rw [← hE, List.getElem?_drop]
        have hyy : y0 = y := by
          have := hyk 0
          rw [Nat.add_zero, hy] at this
          simpa using this.symm
        subst hyy
        obtain ⟨r0, s0⟩ := hg2 (i + 0) y0 (hyk 0)
        obtain ⟨r1, s1⟩ := hg2 (i + 1) y1 (hyk 1)
        obtain ⟨r2, s2⟩ := hg2 (i + 2) y2 (hyk 2)
        obtain ⟨r3, s3⟩ := hg2 (i + 3) y3 (hyk 3)
        obtain ⟨r4, s4⟩ := hg2 (i + 4) y4 (hyk 4)
        obtain ⟨r5, s5⟩ := hg2 (i + 5) y5 (hyk 5)
        obtain ⟨r6, s6⟩ := hg2 (i + 6) y6 (hyk 6)
        rw [Nat.add_zero] at r0
        simp only [Nat.add_zero] at s0
        have hgd : ∀ D a b c d, Good (bl s) D a b c d → [y0, y1, y2, y3, y4, y5, y6] = [100, 32, a, b, 58, c, d] := fun D a b c d h => by rw [← hE, htok D a b c d h, h.eq, List.drop_left]
        have hll : bl s = (bl s).take i ++ [y0, y1, y2, y3, y4, y5, y6] := by rw [← hE, List.take_append_drop]
        by_cases k0 : y0.toNat = 100
        rotate_left
        · have k0i : ¬ (y0.toNat : Int) = 100 := by omega
          have := rbad fun D a b c d h => by
            have h1 := htok D a b c d h
            have h2 := congrArg List.length h.eq
            have h3 := h.eq
            have h4 := h.pos
            have h5 := h.nine
            have h6 := h.lead
            simp at h2
            have h7 := hgd D a b c d h
            simp only [List.cons.injEq] at h7
            exact k0 (by simp [h7])
          subst this
          ((try simp -implicitDefEqProofs [-loopQ_n, parT, n0, n0', n1, n1', p1, p2, n3i, n3', k0, k0i, r0, s0, r1, s1, r2, s2, r3, s3, r4, s4, r5, s5, r6, s6, w7, w1, w2, w3, w4, w5, w6, z1, z2, z3, z4, z5, z6, tn1, tn2, tn3, tn4, tn5, tn6, e1, e1', e2, e2', e3, e3', e4, e4', q1, q2]) <;> (repeat' (first | (refine condD_dec ?_ ?_ <;> (intro hc; (try simp -implicitDefEqProofs [-loopQ_n, hc, parT, n0, n0', n1, n1', p1, p2, n3i, n3', k0, k0i, r0, s0, r1, s1, r2, s2, r3, s3, r4, s4, r5, s5, r6, s6, w7, w1, w2, w3, w4, w5, w6, z1, z2, z3, z4, z5, z6, tn1, tn2, tn3, tn4, tn5, tn6, e1, e1', e2, e2', e3, e3', e4, e4', q1, q2]))) | (refine guardD_dec ?_ ?_ <;> (intro hc; (try simp -implicitDefEqProofs [-loopQ_n, hc, parT, n0, n0', n1, n1', p1, p2, n3i, n3', k0, k0i, r0, s0, r1, s1, r2, s2, r3, s3, r4, s4, r5, s5, r6, s6, w7, w1, w2, w3, w4, w5, w6, z1, z2, z3, z4, z5, z6, tn1, tn2, tn3, tn4, tn5, tn6, e1, e1', e2, e2', e3, e3', e4, e4', q1, q2]))) | (refine condD_intro ?_ ?_ <;> (intro hd; have hc := hd; (try simp at hc) <;> (try simp -implicitDefEqProofs [-loopQ_n, hd, hc, parT, n0, n0', n1, n1', p1, p2, n3i, n3', k0, k0i, r0, s0, r1, s1, r2, s2, r3, s3, r4, s4, r5, s5, r6, s6, w7, w1, w2, w3, w4, w5, w6, z1, z2, z3, z4, z5, z6, tn1, tn2, tn3, tn4, tn5, tn6, e1, e1', e2, e2', e3, e3', e4, e4', q1, q2]))) | (refine guardD_intro ?_ ?_ <;> (intro hd; have hc := hd; (try simp at hc) <;> (try simp -implicitDefEqProofs [-loopQ_n, hd, hc, parT, n0, n0', n1, n1', p1, p2, n3i, n3', k0, k0i, r0, s0, r1, s1, r2, s2, r3, s3, r4, s4, r5, s5, r6, s6, w7, w1, w2, w3, w4, w5, w6, z1, z2, z3, z4, z5, z6, tn1, tn2, tn3, tn4, tn5, tn6, e1, e1', e2, e2', e3, e3', e4, e4', q1, q2]))) | (refine ldD_ep ?_ ?_; (focus kernel_rfl); (try simp -implicitDefEqProofs [-loopQ_n, parT, n0, n0', n1, n1', p1, p2, n3i, n3', k0, k0i, r0, s0, r1, s1, r2, s2, r3, s3, r4, s4, r5, s5, r6, s6, w7, w1, w2, w3, w4, w5, w6, z1, z2, z3, z4, z5, z6, tn1, tn2, tn3, tn4, tn5, tn6, e1, e1', e2, e2', e3, e3', e4, e4', q1, q2])))))
          all_goals (try (exfalso; omega))
        have k0i : (y0.toNat : Int) = 100 := by omega
        by_cases k1 : y1.toNat = 32
        rotate_left
        · have k1i : ¬ (y1.toNat : Int) = 32 := by omega
          have := rbad fun D a b c d h => by
            have h1 := htok D a b c d h
            have h2 := congrArg List.length h.eq
            have h3 := h.eq
            have h4 := h.pos
            have h5 := h.nine
            have h6 := h.lead
            simp at h2
            have h7 := hgd D a b c d h
            simp only [List.cons.injEq] at h7
            exact k1 (by simp [h7])
          subst this
          ((try simp -implicitDefEqProofs [-loopQ_n, parT, n0, n0', n1, n1', p1, p2, n3i, n3', k0, k0i, k1, k1i, r0, s0, r1, s1, r2, s2, r3, s3, r4, s4, r5, s5, r6, s6, w7, w1, w2, w3, w4, w5, w6, z1, z2, z3, z4, z5, z6, tn1, tn2, tn3, tn4, tn5, tn6, e1, e1', e2, e2', e3, e3', e4, e4', q1, q2]) <;> (repeat' (first | (refine condD_dec ?_ ?_ <;> (intro hc; (try simp -implicitDefEqProofs [-loopQ_n, hc, parT, n0, n0', n1, n1', p1, p2, n3i, n3', k0, k0i, k1, k1i, r0, s0, r1, s1, r2, s2, r3, s3, r4, s4, r5, s5, r6, s6, w7, w1, w2, w3, w4, w5, w6, z1, z2, z3, z4, z5, z6, tn1, tn2, tn3, tn4, tn5, tn6, e1, e1', e2, e2', e3, e3', e4, e4', q1, q2]))) | (refine guardD_dec ?_ ?_ <;> (intro hc; (try simp -implicitDefEqProofs [-loopQ_n, hc, parT, n0, n0', n1, n1', p1, p2, n3i, n3', k0, k0i, k1, k1i, r0, s0, r1, s1, r2, s2, r3, s3, r4, s4, r5, s5, r6, s6, w7, w1, w2, w3, w4, w5, w6, z1, z2, z3, z4, z5, z6, tn1, tn2, tn3, tn4, tn5, tn6, e1, e1', e2, e2', e3, e3', e4, e4', q1, q2]))) | (refine condD_intro ?_ ?_ <;> (intro hd; have hc := hd; (try simp at hc) <;> (try simp -implicitDefEqProofs [-loopQ_n, hd, hc, parT, n0, n0', n1, n1', p1, p2, n3i, n3', k0, k0i, k1, k1i, r0, s0, r1, s1, r2, s2, r3, s3, r4, s4, r5, s5, r6, s6, w7, w1, w2, w3, w4, w5, w6, z1, z2, z3, z4, z5, z6, tn1, tn2, tn3, tn4, tn5, tn6, e1, e1', e2, e2', e3, e3', e4, e4', q1, q2]))) | (refine guardD_intro ?_ ?_ <;> (intro hd; have hc := hd; (try simp at hc) <;> (try simp -implicitDefEqProofs [-loopQ_n, hd, hc, parT, n0, n0', n1, n1', p1, p2, n3i, n3', k0, k0i, k1, k1i, r0, s0, r1, s1, r2, s2, r3, s3, r4, s4, r5, s5, r6, s6, w7, w1, w2, w3, w4, w5, w6, z1, z2, z3, z4, z5, z6, tn1, tn2, tn3, tn4, tn5, tn6, e1, e1', e2, e2', e3, e3', e4, e4', q1, q2]))) | (refine ldD_ep ?_ ?_; (focus kernel_rfl); (try simp -implicitDefEqProofs [-loopQ_n, parT, n0, n0', n1, n1', p1, p2, n3i, n3', k0, k0i, k1, k1i, r0, s0, r1, s1, r2, s2, r3, s3, r4, s4, r5, s5, r6, s6, w7, w1, w2, w3, w4, w5, w6, z1, z2, z3, z4, z5, z6, tn1, tn2, tn3, tn4, tn5, tn6, e1, e1', e2, e2', e3, e3', e4, e4', q1, q2])))))
          all_goals (try (exfalso; omega))
        have k1i : (y1.toNat : Int) = 32 := by omega
        by_cases k4 : y4.toNat = 58
        rotate_left
        · have k4i : ¬ (y4.toNat : Int) = 58 := by omega
          have := rbad fun D a b c d h => by
            have h1 := htok D a b c d h
            have h2 := congrArg List.length h.eq
            have h3 := h.eq
            have h4 := h.pos
            have h5 := h.nine
            have h6 := h.lead
            simp at h2
            have h7 := hgd D a b c d h
            simp only [List.cons.injEq] at h7
            exact k4 (by simp [h7])
          subst this
          ((try simp -implicitDefEqProofs [-loopQ_n, parT, n0, n0', n1, n1', p1, p2, n3i, n3', k0, k0i, k1, k1i, k4, k4i, r0, s0, r1, s1, r2, s2, r3, s3, r4, s4, r5, s5, r6, s6, w7, w1, w2, w3, w4, w5, w6, z1, z2, z3, z4, z5, z6, tn1, tn2, tn3, tn4, tn5, tn6, e1, e1', e2, e2', e3, e3', e4, e4', q1, q2]) <;> (repeat' (first | (refine condD_dec ?_ ?_ <;> (intro hc; (try simp -implicitDefEqProofs [-loopQ_n, hc, parT, n0, n0', n1, n1', p1, p2, n3i, n3', k0, k0i, k1, k1i, k4, k4i, r0, s0, r1, s1, r2, s2, r3, s3, r4, s4, r5, s5, r6, s6, w7, w1, w2, w3, w4, w5, w6, z1, z2, z3, z4, z5, z6, tn1, tn2, tn3, tn4, tn5, tn6, e1, e1', e2, e2', e3, e3', e4, e4', q1, q2]))) | (refine guardD_dec ?_ ?_ <;> (intro hc; (try simp -implicitDefEqProofs [-loopQ_n, hc, parT, n0, n0', n1, n1', p1, p2, n3i, n3', k0, k0i, k1, k1i, k4, k4i, r0, s0, r1, s1, r2, s2, r3, s3, r4, s4, r5, s5, r6, s6, w7, w1, w2, w3, w4, w5, w6, z1, z2, z3, z4, z5, z6, tn1, tn2, tn3, tn4, tn5, tn6, e1, e1', e2, e2', e3, e3', e4, e4', q1, q2]))) | (refine condD_intro ?_ ?_ <;> (intro hd; have hc := hd; (try simp at hc) <;> (try simp -implicitDefEqProofs [-loopQ_n, hd, hc, parT, n0, n0', n1, n1', p1, p2, n3i, n3', k0, k0i, k1, k1i, k4, k4i, r0, s0, r1, s1, r2, s2, r3, s3, r4, s4, r5, s5, r6, s6, w7, w1, w2, w3, w4, w5, w6, z1, z2, z3, z4, z5, z6, tn1, tn2, tn3, tn4, tn5, tn6, e1, e1', e2, e2', e3, e3', e4, e4', q1, q2]))) | (refine guardD_intro ?_ ?_ <;> (intro hd; have hc := hd; (try simp at hc) <;> (try simp -implicitDefEqProofs [-loopQ_n, hd, hc, parT, n0, n0', n1, n1', p1, p2, n3i, n3', k0, k0i, k1, k1i, k4, k4i, r0, s0, r1, s1, r2, s2, r3, s3, r4, s4, r5, s5, r6, s6, w7, w1, w2, w3, w4, w5, w6, z1, z2, z3, z4, z5, z6, tn1, tn2, tn3, tn4, tn5, tn6, e1, e1', e2, e2', e3, e3', e4, e4', q1, q2]))) | (refine ldD_ep ?_ ?_; (focus kernel_rfl); (try simp -implicitDefEqProofs [-loopQ_n, parT, n0, n0', n1, n1', p1, p2, n3i, n3', k0, k0i, k1, k1i, k4, k4i, r0, s0, r1, s1, r2, s2, r3, s3, r4, s4, r5, s5, r6, s6, w7, w1, w2, w3, w4, w5, w6, z1, z2, z3, z4, z5, z6, tn1, tn2, tn3, tn4, tn5, tn6, e1, e1', e2, e2', e3, e3', e4, e4', q1, q2])))))
          all_goals (try (exfalso; omega))
        have k4i : (y4.toNat : Int) = 58 := by omega
        obtain rfl : y0 = 100 := UInt8.toNat_inj.1 k0
        obtain rfl : y1 = 32 := UInt8.toNat_inj.1 k1
        obtain rfl : y4 = 58 := UInt8.toNat_inj.1 k4
        ((try simp -implicitDefEqProofs [-loopQ_n, n0, n0', n1, n1', p1, p2, n3i, n3', k0, k0i, k1, k1i, k4, k4i, r0, s0, r1, s1, r2, s2, r3, s3, r4, s4, r5, s5, r6, s6, w7, w1, w2, w3, w4, w5, w6, z1, z2, z3, z4, z5, z6, tn1, tn2, tn3, tn4, tn5, tn6, e1, e1', e2, e2', e3, e3', e4, e4', q1, q2]) <;> (repeat' (first | (refine condD_dec ?_ ?_ <;> (intro hc; (try simp -implicitDefEqProofs [-loopQ_n, hc, n0, n0', n1, n1', p1, p2, n3i, n3', k0, k0i, k1, k1i, k4, k4i, r0, s0, r1, s1, r2, s2, r3, s3, r4, s4, r5, s5, r6, s6, w7, w1, w2, w3, w4, w5, w6, z1, z2, z3, z4, z5, z6, tn1, tn2, tn3, tn4, tn5, tn6, e1, e1', e2, e2', e3, e3', e4, e4', q1, q2]))) | (refine guardD_dec ?_ ?_ <;> (intro hc; (try simp -implicitDefEqProofs [-loopQ_n, hc, n0, n0', n1, n1', p1, p2, n3i, n3', k0, k0i, k1, k1i, k4, k4i, r0, s0, r1, s1, r2, s2, r3, s3, r4, s4, r5, s5, r6, s6, w7, w1, w2, w3, w4, w5, w6, z1, z2, z3, z4, z5, z6, tn1, tn2, tn3, tn4, tn5, tn6, e1, e1', e2, e2', e3, e3', e4, e4', q1, q2]))) | (refine condD_intro ?_ ?_ <;> (intro hd; have hc := hd; (try simp at hc) <;> (try simp -implicitDefEqProofs [-loopQ_n, hd, hc, n0, n0', n1, n1', p1, p2, n3i, n3', k0, k0i, k1, k1i, k4, k4i, r0, s0, r1, s1, r2, s2, r3, s3, r4, s4, r5, s5, r6, s6, w7, w1, w2, w3, w4, w5, w6, z1, z2, z3, z4, z5, z6, tn1, tn2, tn3, tn4, tn5, tn6, e1, e1', e2, e2', e3, e3', e4, e4', q1, q2]))) | (refine guardD_intro ?_ ?_ <;> (intro hd; have hc := hd; (try simp at hc) <;> (try simp -implicitDefEqProofs [-loopQ_n, hd, hc, n0, n0', n1, n1', p1, p2, n3i, n3', k0, k0i, k1, k1i, k4, k4i, r0, s0, r1, s1, r2, s2, r3, s3, r4, s4, r5, s5, r6, s6, w7, w1, w2, w3, w4, w5, w6, z1, z2, z3, z4, z5, z6, tn1, tn2, tn3, tn4, tn5, tn6, e1, e1', e2, e2', e3, e3', e4, e4', q1, q2]))) | (refine ldD_ep ?_ ?_; (focus kernel_rfl); (try simp -implicitDefEqProofs [-loopQ_n, n0, n0', n1, n1', p1, p2, n3i, n3', k0, k0i, k1, k1i, k4, k4i, r0, s0, r1, s1, r2, s2, r3, s3, r4, s4, r5, s5, r6, s6, w7, w1, w2, w3, w4, w5, w6, z1, z2, z3, z4, z5, z6, tn1, tn2, tn3, tn4, tn5, tn6, e1, e1', e2, e2', e3, e3', e4, e4', q1, q2])))))
        all_goals (try (exfalso; omega))
        have hld : ¬ (1 < i ∧ x0.toNat = 48) := by omega
        refine loop_intro (σ := Nat) (fun j => ⟨[(0, .str s), (4, .int .i64 i), (5, .int .i64 n), (87, .os 0 4), (88, .int .i64 4), (89, .int .i64 j)], [.row 3 false [[.int .i64 ((i : Int) + 2)], [.int .i64 ((i : Int) + 3)], [.int .i64 ((i : Int) + 5)], [.int .i64 ((i : Int) + 6)]]]⟩) (fun j => j ≤ 4 ∧ (0 < j → dg y2 = true) ∧ (1 < j → dg y3 = true) ∧ (2 < j → dg y5 = true) ∧ (3 < j → dg y6 = true)) (fun j => 4 - j) 0 ⟨by omega, by omega, by omega, by omega, by omega⟩ ?_ ?_
        · refine weak_of 1 0 rfl rfl ?_ ?_ <;> simp [refsR, refs]
        rintro j ⟨hj, v0, v1, v2, v3⟩
        by_cases j0 : j = 0
        · subst j0
          by_cases hd : dg y2 = true
          rotate_left
          · by_cases d1 : (y2.toNat : Int) < 48
            · have d1' : y2.toNat < 48 := by omega
              have := rbad fun D a b c d h => by
                have h7 := hgd D a b c d h
                simp only [List.cons.injEq] at h7
                obtain ⟨_, _, rfl, rfl, _, rfl, rfl, _⟩ := h7
                exact hd h.a
              subst this
              ((try simp -implicitDefEqProofs [-loopQ_n, parT, d1, d1', r0, s0, r1, s1, r2, s2, r3, s3, r4, s4, r5, s5, r6, s6, w7, w1, w2, w3, w4, w5, w6, z1, z2, z3, z4, z5, z6, tn1, tn2, tn3, tn4, tn5, tn6]) <;> (repeat' (first | (refine condD_dec ?_ ?_ <;> (intro hc; (try simp -implicitDefEqProofs [-loopQ_n, hc, parT, d1, d1', r0, s0, r1, s1, r2, s2, r3, s3, r4, s4, r5, s5, r6, s6, w7, w1, w2, w3, w4, w5, w6, z1, z2, z3, z4, z5, z6, tn1, tn2, tn3, tn4, tn5, tn6]))) | (refine guardD_dec ?_ ?_ <;> (intro hc; (try simp -implicitDefEqProofs [-loopQ_n, hc, parT, d1, d1', r0, s0, r1, s1, r2, s2, r3, s3, r4, s4, r5, s5, r6, s6, w7, w1, w2, w3, w4, w5, w6, z1, z2, z3, z4, z5, z6, tn1, tn2, tn3, tn4, tn5, tn6]))) | (refine condD_intro ?_ ?_ <;> (intro hd; have hc := hd; (try simp at hc) <;> (try simp -implicitDefEqProofs [-loopQ_n, hd, hc, parT, d1, d1', r0, s0, r1, s1, r2, s2, r3, s3, r4, s4, r5, s5, r6, s6, w7, w1, w2, w3, w4, w5, w6, z1, z2, z3, z4, z5, z6, tn1, tn2, tn3, tn4, tn5, tn6]))) | (refine guardD_intro ?_ ?_ <;> (intro hd; have hc := hd; (try simp at hc) <;> (try simp -implicitDefEqProofs [-loopQ_n, hd, hc, parT, d1, d1', r0, s0, r1, s1, r2, s2, r3, s3, r4, s4, r5, s5, r6, s6, w7, w1, w2, w3, w4, w5, w6, z1, z2, z3, z4, z5, z6, tn1, tn2, tn3, tn4, tn5, tn6]))) | (refine ldD_ep ?_ ?_; (focus kernel_rfl); (try simp -implicitDefEqProofs [-loopQ_n, parT, d1, d1', r0, s0, r1, s1, r2, s2, r3, s3, r4, s4, r5, s5, r6, s6, w7, w1, w2, w3, w4, w5, w6, z1, z2, z3, z4, z5, z6, tn1, tn2, tn3, tn4, tn5, tn6])))))
              all_goals (try (exfalso; omega))
            · have d2 : (57 : Int) < y2.toNat := by (apply Decidable.byContradiction; intro q; exact hd (dg_iff.2 (by omega)))
              have d2' : 57 < y2.toNat := by omega
              have d1' : ¬ y2.toNat < 48 := by omega
              have := rbad fun D a b c d h => by
                have h7 := hgd D a b c d h
                simp only [List.cons.injEq] at h7
                obtain ⟨_, _, rfl, rfl, _, rfl, rfl, _⟩ := h7
                exact hd h.a
              subst this
              ((try simp -implicitDefEqProofs [-loopQ_n, parT, d1, d1', d2, d2', r0, s0, r1, s1, r2, s2, r3, s3, r4, s4, r5, s5, r6, s6, w7, w1, w2, w3, w4, w5, w6, z1, z2, z3, z4, z5, z6, tn1, tn2, tn3, tn4, tn5, tn6]) <;> (repeat' (first | (refine condD_dec ?_ ?_ <;> (intro hc; (try simp -implicitDefEqProofs [-loopQ_n, hc, parT, d1, d1', d2, d2', r0, s0, r1, s1, r2, s2, r3, s3, r4, s4, r5, s5, r6, s6, w7, w1, w2, w3, w4, w5, w6, z1, z2, z3, z4, z5, z6, tn1, tn2, tn3, tn4, tn5, tn6]))) | (refine guardD_dec ?_ ?_ <;> (intro hc; (try simp -implicitDefEqProofs [-loopQ_n, hc, parT, d1, d1', d2, d2', r0, s0, r1, s1, r2, s2, r3, s3, r4, s4, r5, s5, r6, s6, w7, w1, w2, w3, w4, w5, w6, z1, z2, z3, z4, z5, z6, tn1, tn2, tn3, tn4, tn5, tn6]))) | (refine condD_intro ?_ ?_ <;> (intro hd; have hc := hd; (try simp at hc) <;> (try simp -implicitDefEqProofs [-loopQ_n, hd, hc, parT, d1, d1', d2, d2', r0, s0, r1, s1, r2, s2, r3, s3, r4, s4, r5, s5, r6, s6, w7, w1, w2, w3, w4, w5, w6, z1, z2, z3, z4, z5, z6, tn1, tn2, tn3, tn4, tn5, tn6]))) | (refine guardD_intro ?_ ?_ <;> (intro hd; have hc := hd; (try simp at hc) <;> (try simp -implicitDefEqProofs [-loopQ_n, hd, hc, parT, d1, d1', d2, d2', r0, s0, r1, s1, r2, s2, r3, s3, r4, s4, r5, s5, r6, s6, w7, w1, w2, w3, w4, w5, w6, z1, z2, z3, z4, z5, z6, tn1, tn2, tn3, tn4, tn5, tn6]))) | (refine ldD_ep ?_ ?_; (focus kernel_rfl); (try simp -implicitDefEqProofs [-loopQ_n, parT, d1, d1', d2, d2', r0, s0, r1, s1, r2, s2, r3, s3, r4, s4, r5, s5, r6, s6, w7, w1, w2, w3, w4, w5, w6, z1, z2, z3, z4, z5, z6, tn1, tn2, tn3, tn4, tn5, tn6])))))
              all_goals (try (exfalso; omega))
          have hdd := dg_iff.1 hd
          have d1 : ¬ (y2.toNat : Int) < 48 := by omega
          have d1' : ¬ y2.toNat < 48 := by omega
          have d2 : ¬ (57 : Int) < y2.toNat := by omega
          have d2' : ¬ 57 < y2.toNat := by omega
          have ww : wrapI .i64 (1 : Int) = 1 := wrap_in (by omega) (by omega)
          ((try simp -implicitDefEqProofs [-loopQ_n, d1, d1', d2, d2', ww, r0, s0, r1, s1, r2, s2, r3, s3, r4, s4, r5, s5, r6, s6, w7, w1, w2, w3, w4, w5, w6, z1, z2, z3, z4, z5, z6, tn1, tn2, tn3, tn4, tn5, tn6]) <;> (repeat' (first | (refine condD_dec ?_ ?_ <;> (intro hc; (try simp -implicitDefEqProofs [-loopQ_n, hc, d1, d1', d2, d2', ww, r0, s0, r1, s1, r2, s2, r3, s3, r4, s4, r5, s5, r6, s6, w7, w1, w2, w3, w4, w5, w6, z1, z2, z3, z4, z5, z6, tn1, tn2, tn3, tn4, tn5, tn6]))) | (refine guardD_dec ?_ ?_ <;> (intro hc; (try simp -implicitDefEqProofs [-loopQ_n, hc, d1, d1', d2, d2', ww, r0, s0, r1, s1, r2, s2, r3, s3, r4, s4, r5, s5, r6, s6, w7, w1, w2, w3, w4, w5, w6, z1, z2, z3, z4, z5, z6, tn1, tn2, tn3, tn4, tn5, tn6]))) | (refine condD_intro ?_ ?_ <;> (intro hd; have hc := hd; (try simp at hc) <;> (try simp -implicitDefEqProofs [-loopQ_n, hd, hc, d1, d1', d2, d2', ww, r0, s0, r1, s1, r2, s2, r3, s3, r4, s4, r5, s5, r6, s6, w7, w1, w2, w3, w4, w5, w6, z1, z2, z3, z4, z5, z6, tn1, tn2, tn3, tn4, tn5, tn6]))) | (refine guardD_intro ?_ ?_ <;> (intro hd; have hc := hd; (try simp at hc) <;> (try simp -implicitDefEqProofs [-loopQ_n, hd, hc, d1, d1', d2, d2', ww, r0, s0, r1, s1, r2, s2, r3, s3, r4, s4, r5, s5, r6, s6, w7, w1, w2, w3, w4, w5, w6, z1, z2, z3, z4, z5, z6, tn1, tn2, tn3, tn4, tn5, tn6]))) | (refine ldD_ep ?_ ?_; (focus kernel_rfl); (try simp -implicitDefEqProofs [-loopQ_n, d1, d1', d2, d2', ww, r0, s0, r1, s1, r2, s2, r3, s3, r4, s4, r5, s5, r6, s6, w7, w1, w2, w3, w4, w5, w6, z1, z2, z3, z4, z5, z6, tn1, tn2, tn3, tn4, tn5, tn6])))))
          all_goals (try (exfalso; omega))
          refine loop_next 1 ⟨by omega, fun _ => hd, by omega, by omega, by omega⟩ (by omega) (weak_of 1 0 rfl rfl ?_ ?_) <;> simp [refsR, refs, ww]
        by_cases j1 : j = 1
        · subst j1
          by_cases hd : dg y3 = true
          rotate_left
          · by_cases d1 : (y3.toNat : Int) < 48
            · have d1' : y3.toNat < 48 := by omega
              have := rbad fun D a b c d h => by
                have h7 := hgd D a b c d h
                simp only [List.cons.injEq] at h7
                obtain ⟨_, _, rfl, rfl, _, rfl, rfl, _⟩ := h7
                exact hd h.b
              subst this
              ((try simp -implicitDefEqProofs [-loopQ_n, parT, d1, d1', r0, s0, r1, s1, r2, s2, r3, s3, r4, s4, r5, s5, r6, s6, w7, w1, w2, w3, w4, w5, w6, z1, z2, z3, z4, z5, z6, tn1, tn2, tn3, tn4, tn5, tn6]) <;> (repeat' (first | (refine condD_dec ?_ ?_ <;> (intro hc; (try simp -implicitDefEqProofs [-loopQ_n, hc, parT, d1, d1', r0, s0, r1, s1, r2, s2, r3, s3, r4, s4, r5, s5, r6, s6, w7, w1, w2, w3, w4, w5, w6, z1, z2, z3, z4, z5, z6, tn1, tn2, tn3, tn4, tn5, tn6]))) | (refine guardD_dec ?_ ?_ <;> (intro hc; (try simp -implicitDefEqProofs [-loopQ_n, hc, parT, d1, d1', r0, s0, r1, s1, r2, s2, r3, s3, r4, s4, r5, s5, r6, s6, w7, w1, w2, w3, w4, w5, w6, z1, z2, z3, z4, z5, z6, tn1, tn2, tn3, tn4, tn5, tn6]))) | (refine condD_intro ?_ ?_ <;> (intro hd; have hc := hd; (try simp at hc) <;> (try simp -implicitDefEqProofs [-loopQ_n, hd, hc, parT, d1, d1', r0, s0, r1, s1, r2, s2, r3, s3, r4, s4, r5, s5, r6, s6, w7, w1, w2, w3, w4, w5, w6, z1, z2, z3, z4, z5, z6, tn1, tn2, tn3, tn4, tn5, tn6]))) | (refine guardD_intro ?_ ?_ <;> (intro hd; have hc := hd; (try simp at hc) <;> (try simp -implicitDefEqProofs [-loopQ_n, hd, hc, parT, d1, d1', r0, s0, r1, s1, r2, s2, r3, s3, r4, s4, r5, s5, r6, s6, w7, w1, w2, w3, w4, w5, w6, z1, z2, z3, z4, z5, z6, tn1, tn2, tn3, tn4, tn5, tn6]))) | (refine ldD_ep ?_ ?_; (focus kernel_rfl); (try simp -implicitDefEqProofs [-loopQ_n, parT, d1, d1', r0, s0, r1, s1, r2, s2, r3, s3, r4, s4, r5, s5, r6, s6, w7, w1, w2, w3, w4, w5, w6, z1, z2, z3, z4, z5, z6, tn1, tn2, tn3, tn4, tn5, tn6])))))
              all_goals (try (exfalso; omega))
            · have d2 : (57 : Int) < y3.toNat := by (apply Decidable.byContradiction; intro q; exact hd (dg_iff.2 (by omega)))
              have d2' : 57 < y3.toNat := by omega
              have d1' : ¬ y3.toNat < 48 := by omega
              have := rbad fun D a b c d h => by
                have h7 := hgd D a b c d h
                simp only [List.cons.injEq] at h7
                obtain ⟨_, _, rfl, rfl, _, rfl, rfl, _⟩ := h7
                exact hd h.b
              subst this
              ((try simp -implicitDefEqProofs [-loopQ_n, parT, d1, d1', d2, d2', r0, s0, r1, s1, r2, s2, r3, s3, r4, s4, r5, s5, r6, s6, w7, w1, w2, w3, w4, w5, w6, z1, z2, z3, z4, z5, z6, tn1, tn2, tn3, tn4, tn5, tn6]) <;> (repeat' (first | (refine condD_dec ?_ ?_ <;> (intro hc; (try simp -implicitDefEqProofs [-loopQ_n, hc, parT, d1, d1', d2, d2', r0, s0, r1, s1, r2, s2, r3, s3, r4, s4, r5, s5, r6, s6, w7, w1, w2, w3, w4, w5, w6, z1, z2, z3, z4, z5, z6, tn1, tn2, tn3, tn4, tn5, tn6]))) | (refine guardD_dec ?_ ?_ <;> (intro hc; (try simp -implicitDefEqProofs [-loopQ_n, hc, parT, d1, d1', d2, d2', r0, s0, r1, s1, r2, s2, r3, s3, r4, s4, r5, s5, r6, s6, w7, w1, w2, w3, w4, w5, w6, z1, z2, z3, z4, z5, z6, tn1, tn2, tn3, tn4, tn5, tn6]))) | (refine condD_intro ?_ ?_ <;> (intro hd; have hc := hd; (try simp at hc) <;> (try simp -implicitDefEqProofs [-loopQ_n, hd, hc, parT, d1, d1', d2, d2', r0, s0, r1, s1, r2, s2, r3, s3, r4, s4, r5, s5, r6, s6, w7, w1, w2, w3, w4, w5, w6, z1, z2, z3, z4, z5, z6, tn1, tn2, tn3, tn4, tn5, tn6]))) | (refine guardD_intro ?_ ?_ <;> (intro hd; have hc := hd; (try simp at hc) <;> (try simp -implicitDefEqProofs [-loopQ_n, hd, hc, parT, d1, d1', d2, d2', r0, s0, r1, s1, r2, s2, r3, s3, r4, s4, r5, s5, r6, s6, w7, w1, w2, w3, w4, w5, w6, z1, z2, z3, z4, z5, z6, tn1, tn2, tn3, tn4, tn5, tn6]))) | (refine ldD_ep ?_ ?_; (focus kernel_rfl); (try simp -implicitDefEqProofs [-loopQ_n, parT, d1, d1', d2, d2', r0, s0, r1, s1, r2, s2, r3, s3, r4, s4, r5, s5, r6, s6, w7, w1, w2, w3, w4, w5, w6, z1, z2, z3, z4, z5, z6, tn1, tn2, tn3, tn4, tn5, tn6])))))
              all_goals (try (exfalso; omega))
          have hdd := dg_iff.1 hd
          have d1 : ¬ (y3.toNat : Int) < 48 := by omega
          have d1' : ¬ y3.toNat < 48 := by omega
          have d2 : ¬ (57 : Int) < y3.toNat := by omega
          have d2' : ¬ 57 < y3.toNat := by omega
          have ww : wrapI .i64 (2 : Int) = 2 := wrap_in (by omega) (by omega)
          ((try simp -implicitDefEqProofs [-loopQ_n, d1, d1', d2, d2', ww, r0, s0, r1, s1, r2, s2, r3, s3, r4, s4, r5, s5, r6, s6, w7, w1, w2, w3, w4, w5, w6, z1, z2, z3, z4, z5, z6, tn1, tn2, tn3, tn4, tn5, tn6]) <;> (repeat' (first | (refine condD_dec ?_ ?_ <;> (intro hc; (try simp -implicitDefEqProofs [-loopQ_n, hc, d1, d1', d2, d2', ww, r0, s0, r1, s1, r2, s2, r3, s3, r4, s4, r5, s5, r6, s6, w7, w1, w2, w3, w4, w5, w6, z1, z2, z3, z4, z5, z6, tn1, tn2, tn3, tn4, tn5, tn6]))) | (refine guardD_dec ?_ ?_ <;> (intro hc; (try simp -implicitDefEqProofs [-loopQ_n, hc, d1, d1', d2, d2', ww, r0, s0, r1, s1, r2, s2, r3, s3, r4, s4, r5, s5, r6, s6, w7, w1, w2, w3, w4, w5, w6, z1, z2, z3, z4, z5, z6, tn1, tn2, tn3, tn4, tn5, tn6]))) | (refine condD_intro ?_ ?_ <;> (intro hd; have hc := hd; (try simp at hc) <;> (try simp -implicitDefEqProofs [-loopQ_n, hd, hc, d1, d1', d2, d2', ww, r0, s0, r1, s1, r2, s2, r3, s3, r4, s4, r5, s5, r6, s6, w7, w1, w2, w3, w4, w5, w6, z1, z2, z3, z4, z5, z6, tn1, tn2, tn3, tn4, tn5, tn6]))) | (refine guardD_intro ?_ ?_ <;> (intro hd; have hc := hd; (try simp at hc) <;> (try simp -implicitDefEqProofs [-loopQ_n, hd, hc, d1, d1', d2, d2', ww, r0, s0, r1, s1, r2, s2, r3, s3, r4, s4, r5, s5, r6, s6, w7, w1, w2, w3, w4, w5, w6, z1, z2, z3, z4, z5, z6, tn1, tn2, tn3, tn4, tn5, tn6]))) | (refine ldD_ep ?_ ?_; (focus kernel_rfl); (try simp -implicitDefEqProofs [-loopQ_n, d1, d1', d2, d2', ww, r0, s0, r1, s1, r2, s2, r3, s3, r4, s4, r5, s5, r6, s6, w7, w1, w2, w3, w4, w5, w6, z1, z2, z3, z4, z5, z6, tn1, tn2, tn3, tn4, tn5, tn6])))))
          all_goals (try (exfalso; omega))
          refine loop_next 2 ⟨by omega, fun _ => v0 (by omega), fun _ => hd, by omega, by omega⟩ (by omega) (weak_of 1 0 rfl rfl ?_ ?_) <;> simp [refsR, refs, ww]
        by_cases j2 : j = 2
        · subst j2
          by_cases hd : dg y5 = true
          rotate_left
          · by_cases d1 : (y5.toNat : Int) < 48
            · have d1' : y5.toNat < 48 := by omega
              have := rbad fun D a b c d h => by
                have h7 := hgd D a b c d h
                simp only [List.cons.injEq] at h7
                obtain ⟨_, _, rfl, rfl, _, rfl, rfl, _⟩ := h7
                exact hd h.c
              subst this
              ((try simp -implicitDefEqProofs [-loopQ_n, parT, d1, d1', r0, s0, r1, s1, r2, s2, r3, s3, r4, s4, r5, s5, r6, s6, w7, w1, w2, w3, w4, w5, w6, z1, z2, z3, z4, z5, z6, tn1, tn2, tn3, tn4, tn5, tn6]) <;> (repeat' (first | (refine condD_dec ?_ ?_ <;> (intro hc; (try simp -implicitDefEqProofs [-loopQ_n, hc, parT, d1, d1', r0, s0, r1, s1, r2, s2, r3, s3, r4, s4, r5, s5, r6, s6, w7, w1, w2, w3, w4, w5, w6, z1, z2, z3, z4, z5, z6, tn1, tn2, tn3, tn4, tn5, tn6]))) | (refine guardD_dec ?_ ?_ <;> (intro hc; (try simp -implicitDefEqProofs [-loopQ_n, hc, parT, d1, d1', r0, s0, r1, s1, r2, s2, r3, s3, r4, s4, r5, s5, r6, s6, w7, w1, w2, w3, w4, w5, w6, z1, z2, z3, z4, z5, z6, tn1, tn2, tn3, tn4, tn5, tn6]))) | (refine condD_intro ?_ ?_ <;> (intro hd; have hc := hd; (try simp at hc) <;> (try simp -implicitDefEqProofs [-loopQ_n, hd, hc, parT, d1, d1', r0, s0, r1, s1, r2, s2, r3, s3, r4, s4, r5, s5, r6, s6, w7, w1, w2, w3, w4, w5, w6, z1, z2, z3, z4, z5, z6, tn1, tn2, tn3, tn4, tn5, tn6]))) | (refine guardD_intro ?_ ?_ <;> (intro hd; have hc := hd; (try simp at hc) <;> (try simp -implicitDefEqProofs [-loopQ_n, hd, hc, parT, d1, d1', r0, s0, r1, s1, r2, s2, r3, s3, r4, s4, r5, s5, r6, s6, w7, w1, w2, w3, w4, w5, w6, z1, z2, z3, z4, z5, z6, tn1, tn2, tn3, tn4, tn5, tn6]))) | (refine ldD_ep ?_ ?_; (focus kernel_rfl); (try simp -implicitDefEqProofs [-loopQ_n, parT, d1, d1', r0, s0, r1, s1, r2, s2, r3, s3, r4, s4, r5, s5, r6, s6, w7, w1, w2, w3, w4, w5, w6, z1, z2, z3, z4, z5, z6, tn1, tn2, tn3, tn4, tn5, tn6])))))
              all_goals (try (exfalso; omega))
            · have d2 : (57 : Int) < y5.toNat := by (apply Decidable.byContradiction; intro q; exact hd (dg_iff.2 (by omega)))
              have d2' : 57 < y5.toNat := by omega
              have d1' : ¬ y5.toNat < 48 := by omega
              have := rbad fun D a b c d h => by
                have h7 := hgd D a b c d h
                simp only [List.cons.injEq] at h7
                obtain ⟨_, _, rfl, rfl, _, rfl, rfl, _⟩ := h7
                exact hd h.c
              subst this
              ((try simp -implicitDefEqProofs [-loopQ_n, parT, d1, d1', d2, d2', r0, s0, r1, s1, r2, s2, r3, s3, r4, s4, r5, s5, r6, s6, w7, w1, w2, w3, w4, w5, w6, z1, z2, z3, z4, z5, z6, tn1, tn2, tn3, tn4, tn5, tn6]) <;> (repeat' (first | (refine condD_dec ?_ ?_ <;> (intro hc; (try simp -implicitDefEqProofs [-loopQ_n, hc, parT, d1, d1', d2, d2', r0, s0, r1, s1, r2, s2, r3, s3, r4, s4, r5, s5, r6, s6, w7, w1, w2, w3, w4, w5, w6, z1, z2, z3, z4, z5, z6, tn1, tn2, tn3, tn4, tn5, tn6]))) | (refine guardD_dec ?_ ?_ <;> (intro hc; (try simp -implicitDefEqProofs [-loopQ_n, hc, parT, d1, d1', d2, d2', r0, s0, r1, s1, r2, s2, r3, s3, r4, s4, r5, s5, r6, s6, w7, w1, w2, w3, w4, w5, w6, z1, z2, z3, z4, z5, z6, tn1, tn2, tn3, tn4, tn5, tn6]))) | (refine condD_intro ?_ ?_ <;> (intro hd; have hc := hd; (try simp at hc) <;> (try simp -implicitDefEqProofs [-loopQ_n, hd, hc, parT, d1, d1', d2, d2', r0, s0, r1, s1, r2, s2, r3, s3, r4, s4, r5, s5, r6, s6, w7, w1, w2, w3, w4, w5, w6, z1, z2, z3, z4, z5, z6, tn1, tn2, tn3, tn4, tn5, tn6]))) | (refine guardD_intro ?_ ?_ <;> (intro hd; have hc := hd; (try simp at hc) <;> (try simp -implicitDefEqProofs [-loopQ_n, hd, hc, parT, d1, d1', d2, d2', r0, s0, r1, s1, r2, s2, r3, s3, r4, s4, r5, s5, r6, s6, w7, w1, w2, w3, w4, w5, w6, z1, z2, z3, z4, z5, z6, tn1, tn2, tn3, tn4, tn5, tn6]))) | (refine ldD_ep ?_ ?_; (focus kernel_rfl); (try simp -implicitDefEqProofs [-loopQ_n, parT, d1, d1', d2, d2', r0, s0, r1, s1, r2, s2, r3, s3, r4, s4, r5, s5, r6, s6, w7, w1, w2, w3, w4, w5, w6, z1, z2, z3, z4, z5, z6, tn1, tn2, tn3, tn4, tn5, tn6])))))
              all_goals (try (exfalso; omega))
          have hdd := dg_iff.1 hd
          have d1 : ¬ (y5.toNat : Int) < 48 := by omega
          have d1' : ¬ y5.toNat < 48 := by omega
          have d2 : ¬ (57 : Int) < y5.toNat := by omega
          have d2' : ¬ 57 < y5.toNat := by omega
          have ww : wrapI .i64 (3 : Int) = 3 := wrap_in (by omega) (by omega)
          ((try simp -implicitDefEqProofs [-loopQ_n, d1, d1', d2, d2', ww, r0, s0, r1, s1, r2, s2, r3, s3, r4, s4, r5, s5, r6, s6, w7, w1, w2, w3, w4, w5, w6, z1, z2, z3, z4, z5, z6, tn1, tn2, tn3, tn4, tn5, tn6]) <;> (repeat' (first | (refine condD_dec ?_ ?_ <;> (intro hc; (try simp -implicitDefEqProofs [-loopQ_n, hc, d1, d1', d2, d2', ww, r0, s0, r1, s1, r2, s2, r3, s3, r4, s4, r5, s5, r6, s6, w7, w1, w2, w3, w4, w5, w6, z1, z2, z3, z4, z5, z6, tn1, tn2, tn3, tn4, tn5, tn6]))) | (refine guardD_dec ?_ ?_ <;> (intro hc; (try simp -implicitDefEqProofs [-loopQ_n, hc, d1, d1', d2, d2', ww, r0, s0, r1, s1, r2, s2, r3, s3, r4, s4, r5, s5, r6, s6, w7, w1, w2, w3, w4, w5, w6, z1, z2, z3, z4, z5, z6, tn1, tn2, tn3, tn4, tn5, tn6]))) | (refine condD_intro ?_ ?_ <;> (intro hd; have hc := hd; (try simp at hc) <;> (try simp -implicitDefEqProofs [-loopQ_n, hd, hc, d1, d1', d2, d2', ww, r0, s0, r1, s1, r2, s2, r3, s3, r4, s4, r5, s5, r6, s6, w7, w1, w2, w3, w4, w5, w6, z1, z2, z3, z4, z5, z6, tn1, tn2, tn3, tn4, tn5, tn6]))) | (refine guardD_intro ?_ ?_ <;> (intro hd; have hc := hd; (try simp at hc) <;> (try simp -implicitDefEqProofs [-loopQ_n, hd, hc, d1, d1', d2, d2', ww, r0, s0, r1, s1, r2, s2, r3, s3, r4, s4, r5, s5, r6, s6, w7, w1, w2, w3, w4, w5, w6, z1, z2, z3, z4, z5, z6, tn1, tn2, tn3, tn4, tn5, tn6]))) | (refine ldD_ep ?_ ?_; (focus kernel_rfl); (try simp -implicitDefEqProofs [-loopQ_n, d1, d1', d2, d2', ww, r0, s0, r1, s1, r2, s2, r3, s3, r4, s4, r5, s5, r6, s6, w7, w1, w2, w3, w4, w5, w6, z1, z2, z3, z4, z5, z6, tn1, tn2, tn3, tn4, tn5, tn6])))))
          all_goals (try (exfalso; omega))
          refine loop_next 3 ⟨by omega, fun _ => v0 (by omega), fun _ => v1 (by omega), fun _ => hd, by omega⟩ (by omega) (weak_of 1 0 rfl rfl ?_ ?_) <;> simp [refsR, refs, ww]
        by_cases j3 : j = 3
        · subst j3
          by_cases hd : dg y6 = true
          rotate_left
          · by_cases d1 : (y6.toNat : Int) < 48
            · have d1' : y6.toNat < 48 := by omega
              have := rbad fun D a b c d h => by
                have h7 := hgd D a b c d h
                simp only [List.cons.injEq] at h7
                obtain ⟨_, _, rfl, rfl, _, rfl, rfl, _⟩ := h7
                exact hd h.d
              subst this
              ((try simp -implicitDefEqProofs [-loopQ_n, parT, d1, d1', r0, s0, r1, s1, r2, s2, r3, s3, r4, s4, r5, s5, r6, s6, w7, w1, w2, w3, w4, w5, w6, z1, z2, z3, z4, z5, z6, tn1, tn2, tn3, tn4, tn5, tn6]) <;> (repeat' (first | (refine condD_dec ?_ ?_ <;> (intro hc; (try simp -implicitDefEqProofs [-loopQ_n, hc, parT, d1, d1', r0, s0, r1, s1, r2, s2, r3, s3, r4, s4, r5, s5, r6, s6, w7, w1, w2, w3, w4, w5, w6, z1, z2, z3, z4, z5, z6, tn1, tn2, tn3, tn4, tn5, tn6]))) | (refine guardD_dec ?_ ?_ <;> (intro hc; (try simp -implicitDefEqProofs [-loopQ_n, hc, parT, d1, d1', r0, s0, r1, s1, r2, s2, r3, s3, r4, s4, r5, s5, r6, s6, w7, w1, w2, w3, w4, w5, w6, z1, z2, z3, z4, z5, z6, tn1, tn2, tn3, tn4, tn5, tn6]))) | (refine condD_intro ?_ ?_ <;> (intro hd; have hc := hd; (try simp at hc) <;> (try simp -implicitDefEqProofs [-loopQ_n, hd, hc, parT, d1, d1', r0, s0, r1, s1, r2, s2, r3, s3, r4, s4, r5, s5, r6, s6, w7, w1, w2, w3, w4, w5, w6, z1, z2, z3, z4, z5, z6, tn1, tn2, tn3, tn4, tn5, tn6]))) | (refine guardD_intro ?_ ?_ <;> (intro hd; have hc := hd; (try simp at hc) <;> (try simp -implicitDefEqProofs [-loopQ_n, hd, hc, parT, d1, d1', r0, s0, r1, s1, r2, s2, r3, s3, r4, s4, r5, s5, r6, s6, w7, w1, w2, w3, w4, w5, w6, z1, z2, z3, z4, z5, z6, tn1, tn2, tn3, tn4, tn5, tn6]))) | (refine ldD_ep ?_ ?_; (focus kernel_rfl); (try simp -implicitDefEqProofs [-loopQ_n, parT, d1, d1', r0, s0, r1, s1, r2, s2, r3, s3, r4, s4, r5, s5, r6, s6, w7, w1, w2, w3, w4, w5, w6, z1, z2, z3, z4, z5, z6, tn1, tn2, tn3, tn4, tn5, tn6])))))
              all_goals (try (exfalso; omega))
            · have d2 : (57 : Int) < y6.toNat := by (apply Decidable.byContradiction; intro q; exact hd (dg_iff.2 (by omega)))
              have d2' : 57 < y6.toNat := by omega
              have d1' : ¬ y6.toNat < 48 := by omega
              have := rbad fun D a b c d h => by
                have h7 := hgd D a b c d h
                simp only [List.cons.injEq] at h7
                obtain ⟨_, _, rfl, rfl, _, rfl, rfl, _⟩ := h7
                exact hd h.d
              subst this
              ((try simp -implicitDefEqProofs [-loopQ_n, parT, d1, d1', d2, d2', r0, s0, r1, s1, r2, s2, r3, s3, r4, s4, r5, s5, r6, s6, w7, w1, w2, w3, w4, w5, w6, z1, z2, z3, z4, z5, z6, tn1, tn2, tn3, tn4, tn5, tn6]) <;> (repeat' (first | (refine condD_dec ?_ ?_ <;> (intro hc; (try simp -implicitDefEqProofs [-loopQ_n, hc, parT, d1, d1', d2, d2', r0, s0, r1, s1, r2, s2, r3, s3, r4, s4, r5, s5, r6, s6, w7, w1, w2, w3, w4, w5, w6, z1, z2, z3, z4, z5, z6, tn1, tn2, tn3, tn4, tn5, tn6]))) | (refine guardD_dec ?_ ?_ <;> (intro hc; (try simp -implicitDefEqProofs [-loopQ_n, hc, parT, d1, d1', d2, d2', r0, s0, r1, s1, r2, s2, r3, s3, r4, s4, r5, s5, r6, s6, w7, w1, w2, w3, w4, w5, w6, z1, z2, z3, z4, z5, z6, tn1, tn2, tn3, tn4, tn5, tn6]))) | (refine condD_intro ?_ ?_ <;> (intro hd; have hc := hd; (try simp at hc) <;> (try simp -implicitDefEqProofs [-loopQ_n, hd, hc, parT, d1, d1', d2, d2', r0, s0, r1, s1, r2, s2, r3, s3, r4, s4, r5, s5, r6, s6, w7, w1, w2, w3, w4, w5, w6, z1, z2, z3, z4, z5, z6, tn1, tn2, tn3, tn4, tn5, tn6]))) | (refine guardD_intro ?_ ?_ <;> (intro hd; have hc := hd; (try simp at hc) <;> (try simp -implicitDefEqProofs [-loopQ_n, hd, hc, parT, d1, d1', d2, d2', r0, s0, r1, s1, r2, s2, r3, s3, r4, s4, r5, s5, r6, s6, w7, w1, w2, w3, w4, w5, w6, z1, z2, z3, z4, z5, z6, tn1, tn2, tn3, tn4, tn5, tn6]))) | (refine ldD_ep ?_ ?_; (focus kernel_rfl); (try simp -implicitDefEqProofs [-loopQ_n, parT, d1, d1', d2, d2', r0, s0, r1, s1, r2, s2, r3, s3, r4, s4, r5, s5, r6, s6, w7, w1, w2, w3, w4, w5, w6, z1, z2, z3, z4, z5, z6, tn1, tn2, tn3, tn4, tn5, tn6])))))
              all_goals (try (exfalso; omega))
          have hdd := dg_iff.1 hd
          have d1 : ¬ (y6.toNat : Int) < 48 := by omega
          have d1' : ¬ y6.toNat < 48 := by omega
          have d2 : ¬ (57 : Int) < y6.toNat := by omega
          have d2' : ¬ 57 < y6.toNat := by omega
          have ww : wrapI .i64 (4 : Int) = 4 := wrap_in (by omega) (by omega)
          ((try simp -implicitDefEqProofs [-loopQ_n, d1, d1', d2, d2', ww, r0, s0, r1, s1, r2, s2, r3, s3, r4, s4, r5, s5, r6, s6, w7, w1, w2, w3, w4, w5, w6, z1, z2, z3, z4, z5, z6, tn1, tn2, tn3, tn4, tn5, tn6]) <;> (repeat' (first | (refine condD_dec ?_ ?_ <;> (intro hc; (try simp -implicitDefEqProofs [-loopQ_n, hc, d1, d1', d2, d2', ww, r0, s0, r1, s1, r2, s2, r3, s3, r4, s4, r5, s5, r6, s6, w7, w1, w2, w3, w4, w5, w6, z1, z2, z3, z4, z5, z6, tn1, tn2, tn3, tn4, tn5, tn6]))) | (refine guardD_dec ?_ ?_ <;> (intro hc; (try simp -implicitDefEqProofs [-loopQ_n, hc, d1, d1', d2, d2', ww, r0, s0, r1, s1, r2, s2, r3, s3, r4, s4, r5, s5, r6, s6, w7, w1, w2, w3, w4, w5, w6, z1, z2, z3, z4, z5, z6, tn1, tn2, tn3, tn4, tn5, tn6]))) | (refine condD_intro ?_ ?_ <;> (intro hd; have hc := hd; (try simp at hc) <;> (try simp -implicitDefEqProofs [-loopQ_n, hd, hc, d1, d1', d2, d2', ww, r0, s0, r1, s1, r2, s2, r3, s3, r4, s4, r5, s5, r6, s6, w7, w1, w2, w3, w4, w5, w6, z1, z2, z3, z4, z5, z6, tn1, tn2, tn3, tn4, tn5, tn6]))) | (refine guardD_intro ?_ ?_ <;> (intro hd; have hc := hd; (try simp at hc) <;> (try simp -implicitDefEqProofs [-loopQ_n, hd, hc, d1, d1', d2, d2', ww, r0, s0, r1, s1, r2, s2, r3, s3, r4, s4, r5, s5, r6, s6, w7, w1, w2, w3, w4, w5, w6, z1, z2, z3, z4, z5, z6, tn1, tn2, tn3, tn4, tn5, tn6]))) | (refine ldD_ep ?_ ?_; (focus kernel_rfl); (try simp -implicitDefEqProofs [-loopQ_n, d1, d1', d2, d2', ww, r0, s0, r1, s1, r2, s2, r3, s3, r4, s4, r5, s5, r6, s6, w7, w1, w2, w3, w4, w5, w6, z1, z2, z3, z4, z5, z6, tn1, tn2, tn3, tn4, tn5, tn6])))))
          all_goals (try (exfalso; omega))
          refine loop_next 4 ⟨by omega, fun _ => v0 (by omega), fun _ => v1 (by omega), fun _ => v2 (by omega), fun _ => hd⟩ (by omega) (weak_of 1 0 rfl rfl ?_ ?_) <;> simp [refsR, refs, ww]
        have j4 : j = 4 := by omega
        subst j4
        have D0 := v0 (by omega)
        have B0 := dv_bd D0
        have E0 := dg_iff.1 D0
        have u0 : wrapI .u8 ((y2.toNat : Int) - 48) = dv y2 := by rw [wrap8 (by omega) (by omega)]; rfl
        have U0 : wrapI .i64 (dv y2) = dv y2 := wrap_in (by omega) (by omega)
        have T0 : wrapI .i64 (dv y2 * 10) = dv y2 * 10 := wrap_in (by omega) (by omega)
        have D1 := v1 (by omega)
        have B1 := dv_bd D1
        have E1 := dg_iff.1 D1
        have u1 : wrapI .u8 ((y3.toNat : Int) - 48) = dv y3 := by rw [wrap8 (by omega) (by omega)]; rfl
        have U1 : wrapI .i64 (dv y3) = dv y3 := wrap_in (by omega) (by omega)
        have T1 : wrapI .i64 (dv y3 * 10) = dv y3 * 10 := wrap_in (by omega) (by omega)
        have D2 := v2 (by omega)
        have B2 := dv_bd D2
        have E2 := dg_iff.1 D2
        have u2 : wrapI .u8 ((y5.toNat : Int) - 48) = dv y5 := by rw [wrap8 (by omega) (by omega)]; rfl
        have U2 : wrapI .i64 (dv y5) = dv y5 := wrap_in (by omega) (by omega)
        have T2 : wrapI .i64 (dv y5 * 10) = dv y5 * 10 := wrap_in (by omega) (by omega)
        have D3 := v3 (by omega)
        have B3 := dv_bd D3
        have E3 := dg_iff.1 D3
        have u3 : wrapI .u8 ((y6.toNat : Int) - 48) = dv y6 := by rw [wrap8 (by omega) (by omega)]; rfl
        have U3 : wrapI .i64 (dv y6) = dv y6 := wrap_in (by omega) (by omega)
        have T3 : wrapI .i64 (dv y6 * 10) = dv y6 * 10 := wrap_in (by omega) (by omega)
        have := rgood ((bl s).take i) y2 y3 y5 y6 ⟨hll, t3, by simp; omega, by simp; omega, fun q => hld ⟨by have := q.1; simp at this; omega, by have := q.2; rw [List.head?_eq_getElem?, List.getElem?_take_of_lt (by omega), hx0] at this; simp only [Option.some.injEq] at this; rw [this]; rfl⟩, D0, D1, D2, D3⟩
        subst this
        unfold finV
        rw [hn]
        obtain ⟨H, hH⟩ : ∃ H, dv y2 * 10 + dv y3 = H := ⟨_, rfl⟩
        obtain ⟨M, hM⟩ : ∃ M, dv y5 * 10 + dv y6 = M := ⟨_, rfl⟩
        rw [show 10 * dv y2 + dv y3 = H by omega, show 10 * dv y5 + dv y6 = M by omega]
        have W1 : wrapI .i64 (n * 1440) = n * 1440 := wrap_in (by omega) (by omega)
        have W2 : wrapI .i64 (H * 60) = H * 60 := wrap_in (by omega) (by omega)
        have W3 : wrapI .i64 (n * 1440 + H * 60) = n * 1440 + H * 60 := wrap_in (by omega) (by omega)
        have W4 : wrapI .i64 (n * 1440 + H * 60 + M) = n * 1440 + H * 60 + M := wrap_in (by omega) (by omega)
        have W5 : wrapI .i64 H = H := wrap_in (by omega) (by omega)
        have W6 : wrapI .i64 M = M := wrap_in (by omega) (by omega)
        have hI := rinstant_pure (n * 1440 + H * 60 + M)
        by_cases c10 : 23 < H
        · rw [if_pos (.inl c10)]
          ((try simp -implicitDefEqProofs [-loopQ_n, parT, c10, r0, s0, r1, s1, r2, s2, r3, s3, r4, s4, r5, s5, r6, s6, w7, w1, w2, w3, w4, w5, w6, z1, z2, z3, z4, z5, z6, tn1, tn2, tn3, tn4, tn5, tn6, u0, u1, u2, u3, U0, U1, U2, U3, T0, T2, hH, hM, W5, W6]) <;> (repeat' (first | (refine condD_dec ?_ ?_ <;> (intro hc; (try simp -implicitDefEqProofs [-loopQ_n, hc, parT, c10, r0, s0, r1, s1, r2, s2, r3, s3, r4, s4, r5, s5, r6, s6, w7, w1, w2, w3, w4, w5, w6, z1, z2, z3, z4, z5, z6, tn1, tn2, tn3, tn4, tn5, tn6, u0, u1, u2, u3, U0, U1, U2, U3, T0, T2, hH, hM, W5, W6]))) | (refine guardD_dec ?_ ?_ <;> (intro hc; (try simp -implicitDefEqProofs [-loopQ_n, hc, parT, c10, r0, s0, r1, s1, r2, s2, r3, s3, r4, s4, r5, s5, r6, s6, w7, w1, w2, w3, w4, w5, w6, z1, z2, z3, z4, z5, z6, tn1, tn2, tn3, tn4, tn5, tn6, u0, u1, u2, u3, U0, U1, U2, U3, T0, T2, hH, hM, W5, W6]))) | (refine condD_intro ?_ ?_ <;> (intro hd; have hc := hd; (try simp at hc) <;> (try simp -implicitDefEqProofs [-loopQ_n, hd, hc, parT, c10, r0, s0, r1, s1, r2, s2, r3, s3, r4, s4, r5, s5, r6, s6, w7, w1, w2, w3, w4, w5, w6, z1, z2, z3, z4, z5, z6, tn1, tn2, tn3, tn4, tn5, tn6, u0, u1, u2, u3, U0, U1, U2, U3, T0, T2, hH, hM, W5, W6]))) | (refine guardD_intro ?_ ?_ <;> (intro hd; have hc := hd; (try simp at hc) <;> (try simp -implicitDefEqProofs [-loopQ_n, hd, hc, parT, c10, r0, s0, r1, s1, r2, s2, r3, s3, r4, s4, r5, s5, r6, s6, w7, w1, w2, w3, w4, w5, w6, z1, z2, z3, z4, z5, z6, tn1, tn2, tn3, tn4, tn5, tn6, u0, u1, u2, u3, U0, U1, U2, U3, T0, T2, hH, hM, W5, W6]))) | (refine ldD_ep ?_ ?_; (focus kernel_rfl); (try simp -implicitDefEqProofs [-loopQ_n, parT, c10, r0, s0, r1, s1, r2, s2, r3, s3, r4, s4, r5, s5, r6, s6, w7, w1, w2, w3, w4, w5, w6, z1, z2, z3, z4, z5, z6, tn1, tn2, tn3, tn4, tn5, tn6, u0, u1, u2, u3, U0, U1, U2, U3, T0, T2, hH, hM, W5, W6])))))
        by_cases c11 : 59 < M
        · rw [if_pos (.inr c11)]
          ((try simp -implicitDefEqProofs [-loopQ_n, parT, c10, c11, r0, s0, r1, s1, r2, s2, r3, s3, r4, s4, r5, s5, r6, s6, w7, w1, w2, w3, w4, w5, w6, z1, z2, z3, z4, z5, z6, tn1, tn2, tn3, tn4, tn5, tn6, u0, u1, u2, u3, U0, U1, U2, U3, T0, T2, hH, hM, W5, W6]) <;> (repeat' (first | (refine condD_dec ?_ ?_ <;> (intro hc; (try simp -implicitDefEqProofs [-loopQ_n, hc, parT, c10, c11, r0, s0, r1, s1, r2, s2, r3, s3, r4, s4, r5, s5, r6, s6, w7, w1, w2, w3, w4, w5, w6, z1, z2, z3, z4, z5, z6, tn1, tn2, tn3, tn4, tn5, tn6, u0, u1, u2, u3, U0, U1, U2, U3, T0, T2, hH, hM, W5, W6]))) | (refine guardD_dec ?_ ?_ <;> (intro hc; (try simp -implicitDefEqProofs [-loopQ_n, hc, parT, c10, c11, r0, s0, r1, s1, r2, s2, r3, s3, r4, s4, r5, s5, r6, s6, w7, w1, w2, w3, w4, w5, w6, z1, z2, z3, z4, z5, z6, tn1, tn2, tn3, tn4, tn5, tn6, u0, u1, u2, u3, U0, U1, U2, U3, T0, T2, hH, hM, W5, W6]))) | (refine condD_intro ?_ ?_ <;> (intro hd; have hc := hd; (try simp at hc) <;> (try simp -implicitDefEqProofs [-loopQ_n, hd, hc, parT, c10, c11, r0, s0, r1, s1, r2, s2, r3, s3, r4, s4, r5, s5, r6, s6, w7, w1, w2, w3, w4, w5, w6, z1, z2, z3, z4, z5, z6, tn1, tn2, tn3, tn4, tn5, tn6, u0, u1, u2, u3, U0, U1, U2, U3, T0, T2, hH, hM, W5, W6]))) | (refine guardD_intro ?_ ?_ <;> (intro hd; have hc := hd; (try simp at hc) <;> (try simp -implicitDefEqProofs [-loopQ_n, hd, hc, parT, c10, c11, r0, s0, r1, s1, r2, s2, r3, s3, r4, s4, r5, s5, r6, s6, w7, w1, w2, w3, w4, w5, w6, z1, z2, z3, z4, z5, z6, tn1, tn2, tn3, tn4, tn5, tn6, u0, u1, u2, u3, U0, U1, U2, U3, T0, T2, hH, hM, W5, W6]))) | (refine ldD_ep ?_ ?_; (focus kernel_rfl); (try simp -implicitDefEqProofs [-loopQ_n, parT, c10, c11, r0, s0, r1, s1, r2, s2, r3, s3, r4, s4, r5, s5, r6, s6, w7, w1, w2, w3, w4, w5, w6, z1, z2, z3, z4, z5, z6, tn1, tn2, tn3, tn4, tn5, tn6, u0, u1, u2, u3, U0, U1, U2, U3, T0, T2, hH, hM, W5, W6])))))
        rw [if_neg (by omega)]
        generalize hT : n * 1440 + H * 60 + M = T at *
        cases hv : inst T with
        | true =>
          rw [hv] at hI
          ((try simp -implicitDefEqProofs [-loopQ_n, parT, c10, c11, r0, s0, r1, s1, r2, s2, r3, s3, r4, s4, r5, s5, r6, s6, w7, w1, w2, w3, w4, w5, w6, z1, z2, z3, z4, z5, z6, tn1, tn2, tn3, tn4, tn5, tn6, u0, u1, u2, u3, U0, U1, U2, U3, T0, T2, hH, hM, W5, W6, W1, W2, W3, hT, W4]) <;> (repeat' (first | (refine condD_dec ?_ ?_ <;> (intro hc; (try simp -implicitDefEqProofs [-loopQ_n, hc, parT, c10, c11, r0, s0, r1, s1, r2, s2, r3, s3, r4, s4, r5, s5, r6, s6, w7, w1, w2, w3, w4, w5, w6, z1, z2, z3, z4, z5, z6, tn1, tn2, tn3, tn4, tn5, tn6, u0, u1, u2, u3, U0, U1, U2, U3, T0, T2, hH, hM, W5, W6, W1, W2, W3, hT, W4]))) | (refine guardD_dec ?_ ?_ <;> (intro hc; (try simp -implicitDefEqProofs [-loopQ_n, hc, parT, c10, c11, r0, s0, r1, s1, r2, s2, r3, s3, r4, s4, r5, s5, r6, s6, w7, w1, w2, w3, w4, w5, w6, z1, z2, z3, z4, z5, z6, tn1, tn2, tn3, tn4, tn5, tn6, u0, u1, u2, u3, U0, U1, U2, U3, T0, T2, hH, hM, W5, W6, W1, W2, W3, hT, W4]))) | (refine condD_intro ?_ ?_ <;> (intro hd; have hc := hd; (try simp at hc) <;> (try simp -implicitDefEqProofs [-loopQ_n, hd, hc, parT, c10, c11, r0, s0, r1, s1, r2, s2, r3, s3, r4, s4, r5, s5, r6, s6, w7, w1, w2, w3, w4, w5, w6, z1, z2, z3, z4, z5, z6, tn1, tn2, tn3, tn4, tn5, tn6, u0, u1, u2, u3, U0, U1, U2, U3, T0, T2, hH, hM, W5, W6, W1, W2, W3, hT, W4]))) | (refine guardD_intro ?_ ?_ <;> (intro hd; have hc := hd; (try simp at hc) <;> (try simp -implicitDefEqProofs [-loopQ_n, hd, hc, parT, c10, c11, r0, s0, r1, s1, r2, s2, r3, s3, r4, s4, r5, s5, r6, s6, w7, w1, w2, w3, w4, w5, w6, z1, z2, z3, z4, z5, z6, tn1, tn2, tn3, tn4, tn5, tn6, u0, u1, u2, u3, U0, U1, U2, U3, T0, T2, hH, hM, W5, W6, W1, W2, W3, hT, W4]))) | (refine ldD_ep ?_ ?_; (focus kernel_rfl); (try simp -implicitDefEqProofs [-loopQ_n, parT, c10, c11, r0, s0, r1, s1, r2, s2, r3, s3, r4, s4, r5, s5, r6, s6, w7, w1, w2, w3, w4, w5, w6, z1, z2, z3, z4, z5, z6, tn1, tn2, tn3, tn4, tn5, tn6, u0, u1, u2, u3, U0, U1, U2, U3, T0, T2, hH, hM, W5, W6, W1, W2, W3, hT, W4])) | (refine callS_mk ?_; (try simp -implicitDefEqProofs [-loopQ_n, parT, c10, c11, r0, s0, r1, s1, r2, s2, r3, s3, r4, s4, r5, s5, r6, s6, w7, w1, w2, w3, w4, w5, w6, z1, z2, z3, z4, z5, z6, tn1, tn2, tn3, tn4, tn5, tn6, u0, u1, u2, u3, U0, U1, U2, U3, T0, T2, hH, hM, W5, W6, W1, W2, W3, hT, W4]); (first | refine callS_intro (hI) (.inl rfl) ?_); (try simp -implicitDefEqProofs [-loopQ_n, parT, c10, c11, r0, s0, r1, s1, r2, s2, r3, s3, r4, s4, r5, s5, r6, s6, w7, w1, w2, w3, w4, w5, w6, z1, z2, z3, z4, z5, z6, tn1, tn2, tn3, tn4, tn5, tn6, u0, u1, u2, u3, U0, U1, U2, U3, T0, T2, hH, hM, W5, W6, W1, W2, W3, hT, W4])))))
        | false =>
          rw [hv] at hI
          ((try simp -implicitDefEqProofs [-loopQ_n, parT, c10, c11, r0, s0, r1, s1, r2, s2, r3, s3, r4, s4, r5, s5, r6, s6, w7, w1, w2, w3, w4, w5, w6, z1, z2, z3, z4, z5, z6, tn1, tn2, tn3, tn4, tn5, tn6, u0, u1, u2, u3, U0, U1, U2, U3, T0, T2, hH, hM, W5, W6, W1, W2, W3, hT, W4]) <;> (repeat' (first | (refine condD_dec ?_ ?_ <;> (intro hc; (try simp -implicitDefEqProofs [-loopQ_n, hc, parT, c10, c11, r0, s0, r1, s1, r2, s2, r3, s3, r4, s4, r5, s5, r6, s6, w7, w1, w2, w3, w4, w5, w6, z1, z2, z3, z4, z5, z6, tn1, tn2, tn3, tn4, tn5, tn6, u0, u1, u2, u3, U0, U1, U2, U3, T0, T2, hH, hM, W5, W6, W1, W2, W3, hT, W4]))) | (refine guardD_dec ?_ ?_ <;> (intro hc; (try simp -implicitDefEqProofs [-loopQ_n, hc, parT, c10, c11, r0, s0, r1, s1, r2, s2, r3, s3, r4, s4, r5, s5, r6, s6, w7, w1, w2, w3, w4, w5, w6, z1, z2, z3, z4, z5, z6, tn1, tn2, tn3, tn4, tn5, tn6, u0, u1, u2, u3, U0, U1, U2, U3, T0, T2, hH, hM, W5, W6, W1, W2, W3, hT, W4]))) | (refine condD_intro ?_ ?_ <;> (intro hd; have hc := hd; (try simp at hc) <;> (try simp -implicitDefEqProofs [-loopQ_n, hd, hc, parT, c10, c11, r0, s0, r1, s1, r2, s2, r3, s3, r4, s4, r5, s5, r6, s6, w7, w1, w2, w3, w4, w5, w6, z1, z2, z3, z4, z5, z6, tn1, tn2, tn3, tn4, tn5, tn6, u0, u1, u2, u3, U0, U1, U2, U3, T0, T2, hH, hM, W5, W6, W1, W2, W3, hT, W4]))) | (refine guardD_intro ?_ ?_ <;> (intro hd; have hc := hd; (try simp at hc) <;> (try simp -implicitDefEqProofs [-loopQ_n, hd, hc, parT, c10, c11, r0, s0, r1, s1, r2, s2, r3, s3, r4, s4, r5, s5, r6, s6, w7, w1, w2, w3, w4, w5, w6, z1, z2, z3, z4, z5, z6, tn1, tn2, tn3, tn4, tn5, tn6, u0, u1, u2, u3, U0, U1, U2, U3, T0, T2, hH, hM, W5, W6, W1, W2, W3, hT, W4]))) | (refine ldD_ep ?_ ?_; (focus kernel_rfl); (try simp -implicitDefEqProofs [-loopQ_n, parT, c10, c11, r0, s0, r1, s1, r2, s2, r3, s3, r4, s4, r5, s5, r6, s6, w7, w1, w2, w3, w4, w5, w6, z1, z2, z3, z4, z5, z6, tn1, tn2, tn3, tn4, tn5, tn6, u0, u1, u2, u3, U0, U1, U2, U3, T0, T2, hH, hM, W5, W6, W1, W2, W3, hT, W4])) | (refine callS_mk ?_; (try simp -implicitDefEqProofs [-loopQ_n, parT, c10, c11, r0, s0, r1, s1, r2, s2, r3, s3, r4, s4, r5, s5, r6, s6, w7, w1, w2, w3, w4, w5, w6, z1, z2, z3, z4, z5, z6, tn1, tn2, tn3, tn4, tn5, tn6, u0, u1, u2, u3, U0, U1, U2, U3, T0, T2, hH, hM, W5, W6, W1, W2, W3, hT, W4]); (first | refine callS_intro (hI) (.inl rfl) ?_); (try simp -implicitDefEqProofs [-loopQ_n, parT, c10, c11, r0, s0, r1, s1, r2, s2, r3, s3, r4, s4, r5, s5, r6, s6, w7, w1, w2, w3, w4, w5, w6, z1, z2, z3, z4, z5, z6, tn1, tn2, tn3, tn4, tn5, tn6, u0, u1, u2, u3, U0, U1, U2, U3, T0, T2, hH, hM, W5, W6, W1, W2, W3, hT, W4])))))
  · have e2' : ¬ (i : Int) < 9 := by omega
    have n0 : ¬ i = 0 := by omega
    have n0' : ¬ (i : Int) = 0 := by omega
    obtain ⟨x0, hx0⟩ : ∃ x0, (bl s)[0]? = some x0 := ⟨_, List.getElem?_eq_getElem (show 0 < (bl s).length by omega)⟩
    obtain ⟨p1, p2⟩ := hg2 0 x0 hx0
    have n1 : 1 < i := by omega
    have n1' : (1 : Int) < i := by omega
    by_cases n2 : x0.toNat = 48
    · have n2' : (x0.toNat : Int) = 48 := by omega
      have := rbad fun D a b c d h => by
        have h1 := htok D a b c d h
        have h2 := congrArg List.length h.eq
        have h3 := h.eq
        have h4 := h.pos
        have h5 := h.nine
        have h6 := h.lead
        simp at h2
        refine h6 ⟨by omega, ?_⟩
        rw [h3] at hx0
        have hD : 0 < D.length := by omega
        rw [List.getElem?_append_left hD] at hx0
        rw [List.head?_eq_getElem?, hx0]
        exact congrArg some (UInt8.toNat_inj.1 n2)
      subst this
      ((try simp -implicitDefEqProofs [-loopQ_n, parT, n0, n0', n1, n1', n2, n2', p1, p2, e1, e1', e2, e2']) <;> (repeat' (first | (refine condD_dec ?_ ?_ <;> (intro hc; (try simp -implicitDefEqProofs [-loopQ_n, hc, parT, n0, n0', n1, n1', n2, n2', p1, p2, e1, e1', e2, e2']))) | (refine guardD_dec ?_ ?_ <;> (intro hc; (try simp -implicitDefEqProofs [-loopQ_n, hc, parT, n0, n0', n1, n1', n2, n2', p1, p2, e1, e1', e2, e2']))) | (refine condD_intro ?_ ?_ <;> (intro hd; have hc := hd; (try simp at hc) <;> (try simp -implicitDefEqProofs [-loopQ_n, hd, hc, parT, n0, n0', n1, n1', n2, n2', p1, p2, e1, e1', e2, e2']))) | (refine guardD_intro ?_ ?_ <;> (intro hd; have hc := hd; (try simp at hc) <;> (try simp -implicitDefEqProofs [-loopQ_n, hd, hc, parT, n0, n0', n1, n1', n2, n2', p1, p2, e1, e1', e2, e2']))) | (refine ldD_ep ?_ ?_; (focus kernel_rfl); (try simp -implicitDefEqProofs [-loopQ_n, parT, n0, n0', n1, n1', n2, n2', p1, p2, e1, e1', e2, e2'])))))
      all_goals (try (exfalso; omega))
    · have n2' : ¬ (x0.toNat : Int) = 48 := by omega
      by_cases n3 : (bl s).length = i + 7
      rotate_left
      · have n3i : ¬ (s.size : Int) = (i : Int) + 7 := by omega
        have n3' : ¬ s.size = i + 7 := by omega
        have := rbad fun D a b c d h => by
          have h1 := htok D a b c d h
          have h2 := congrArg List.length h.eq
          have h3 := h.eq
          have h4 := h.pos
          have h5 := h.nine
          have h6 := h.lead
          simp at h2
          omega
        subst this
        ((try simp -implicitDefEqProofs [-loopQ_n, parT, n0, n0', n1, n1', n2, n2', p1, p2, n3i, n3', w7, w1, w2, w3, w4, w5, w6, z1, z2, z3, z4, z5, z6, tn1, tn2, tn3, tn4, tn5, tn6, e1, e1', e2, e2']) <;> (repeat' (first | (refine condD_dec ?_ ?_ <;> (intro hc; (try simp -implicitDefEqProofs [-loopQ_n, hc, parT, n0, n0', n1, n1', n2, n2', p1, p2, n3i, n3', w7, w1, w2, w3, w4, w5, w6, z1, z2, z3, z4, z5, z6, tn1, tn2, tn3, tn4, tn5, tn6, e1, e1', e2, e2']))) | (refine guardD_dec ?_ ?_ <;> (intro hc; (try simp -implicitDefEqProofs [-loopQ_n, hc, parT, n0, n0', n1, n1', n2, n2', p1, p2, n3i, n3', w7, w1, w2, w3, w4, w5, w6, z1, z2, z3, z4, z5, z6, tn1, tn2, tn3, tn4, tn5, tn6, e1, e1', e2, e2']))) | (refine condD_intro ?_ ?_ <;> (intro hd; have hc := hd; (try simp at hc) <;> (try simp -implicitDefEqProofs [-loopQ_n, hd, hc, parT, n0, n0', n1, n1', n2, n2', p1, p2, n3i, n3', w7, w1, w2, w3, w4, w5, w6, z1, z2, z3, z4, z5, z6, tn1, tn2, tn3, tn4, tn5, tn6, e1, e1', e2, e2']))) | (refine guardD_intro ?_ ?_ <;> (intro hd; have hc := hd; (try simp at hc) <;> (try simp -implicitDefEqProofs [-loopQ_n, hd, hc, parT, n0, n0', n1, n1', n2, n2', p1, p2, n3i, n3', w7, w1, w2, w3, w4, w5, w6, z1, z2, z3, z4, z5, z6, tn1, tn2, tn3, tn4, tn5, tn6, e1, e1', e2, e2']))) | (refine ldD_ep ?_ ?_; (focus kernel_rfl); (try simp -implicitDefEqProofs [-loopQ_n, parT, n0, n0', n1, n1', n2, n2', p1, p2, n3i, n3', w7, w1, w2, w3, w4, w5, w6, z1, z2, z3, z4, z5, z6, tn1, tn2, tn3, tn4, tn5, tn6, e1, e1', e2, e2'])))))
        all_goals (try (exfalso; omega))
      have n3i : ((s.size : Int) = (i : Int) + 7) = True := eq_true (by omega)
      have n3' : (s.size = i + 7) = True := eq_true (by omega)
      obtain ⟨y0, y1, y2, y3, y4, y5, y6, hE⟩ : ∃ y0 y1 y2 y3 y4 y5 y6, (bl s).drop i = [y0, y1, y2, y3, y4, y5, y6] := seven (by simp; omega)
      have hyk : ∀ j : Nat, (bl s)[i + j]? = [y0, y1, y2, y3, y4, y5, y6][j]? := fun j => by rw [← hE, List.getElem?_drop]
      have hyy : y0 = y := by
        have := hyk 0
        rw [Nat.add_zero, hy] at this
        simpa using this.symm
      subst hyy
      obtain ⟨r0, s0⟩ := hg2 (i + 0) y0 (hyk 0)
      obtain ⟨r1, s1⟩ := hg2 (i + 1) y1 (hyk 1)
      obtain ⟨r2, s2⟩ := hg2 (i + 2) y2 (hyk 2)
      obtain ⟨r3, s3⟩ := hg2 (i + 3) y3 (hyk 3)
      obtain ⟨r4, s4⟩ := hg2 (i + 4) y4 (hyk 4)
      obtain ⟨r5, s5⟩ := hg2 (i + 5) y5 (hyk 5)
      obtain ⟨r6, s6⟩ := hg2 (i + 6) y6 (hyk 6)
      rw [Nat.add_zero] at r0
      simp only [Nat.add_zero] at s0
      have hgd : ∀ D a b c d, Good (bl s) D a b c d → [y0, y1, y2, y3, y4, y5, y6] = [100, 32, a, b, 58, c, d] := fun D a b c d h => by rw [← hE, htok D a b c d h, h.eq, List.drop_left]
      have hll : bl s = (bl s).take i ++ [y0, y1, y2, y3, y4, y5, y6] := by rw [← hE, List.take_append_drop]
      by_cases k0 : y0.toNat = 100
      rotate_left
      · have k0i : ¬ (y0.toNat : Int) = 100 := by omega
        have := rbad fun D a b c d h => by
          have h1 := htok D a b c d h
          have h2 := congrArg List.length h.eq
          have h3 := h.eq
          have h4 := h.pos
          have h5 := h.nine
          have h6 := h.lead
          simp at h2
          have h7 := hgd D a b c d h
          simp only [List.cons.injEq] at h7
          exact k0 (by simp [h7])
        subst this
        ((try simp -implicitDefEqProofs [-loopQ_n, parT, n0, n0', n1, n1', n2, n2', p1, p2, n3i, n3', k0, k0i, r0, s0, r1, s1, r2, s2, r3, s3, r4, s4, r5, s5, r6, s6, w7, w1, w2, w3, w4, w5, w6, z1, z2, z3, z4, z5, z6, tn1, tn2, tn3, tn4, tn5, tn6, e1, e1', e2, e2']) <;> (repeat' (first | (refine condD_dec ?_ ?_ <;> (intro hc; (try simp -implicitDefEqProofs [-loopQ_n, hc, parT, n0, n0', n1, n1', n2, n2', p1, p2, n3i, n3', k0, k0i, r0, s0, r1, s1, r2, s2, r3, s3, r4, s4, r5, s5, r6, s6, w7, w1, w2, w3, w4, w5, w6, z1, z2, z3, z4, z5, z6, tn1, tn2, tn3, tn4, tn5, tn6, e1, e1', e2, e2']))) | (refine guardD_dec ?_ ?_ <;> (intro hc; (try simp -implicitDefEqProofs [-loopQ_n, hc, parT, n0, n0', n1, n1', n2, n2', p1, p2, n3i, n3', k0, k0i, r0, s0, r1, s1, r2, s2, r3, s3, r4, s4, r5, s5, r6, s6, w7, w1, w2, w3, w4, w5, w6, z1, z2, z3, z4, z5, z6, tn1, tn2, tn3, tn4, tn5, tn6, e1, e1', e2, e2']))) | (refine condD_intro ?_ ?_ <;> (intro hd; have hc := hd; (try simp at hc) <;> (try simp -implicitDefEqProofs [-loopQ_n, hd, hc, parT, n0, n0', n1, n1', n2, n2', p1, p2, n3i, n3', k0, k0i, r0, s0, r1, s1, r2, s2, r3, s3, r4, s4, r5, s5, r6, s6, w7, w1, w2, w3, w4, w5, w6, z1, z2, z3, z4, z5, z6, tn1, tn2, tn3, tn4, tn5, tn6, e1, e1', e2, e2']))) | (refine guardD_intro ?_ ?_ <;> (intro hd; have hc := hd; (try simp at hc) <;> (try simp -implicitDefEqProofs [-loopQ_n, hd, hc, parT, n0, n0', n1, n1', n2, n2', p1, p2, n3i, n3', k0, k0i, r0, s0, r1, s1, r2, s2, r3, s3, r4, s4, r5, s5, r6, s6, w7, w1, w2, w3, w4, w5, w6, z1, z2, z3, z4, z5, z6, tn1, tn2, tn3, tn4, tn5, tn6, e1, e1', e2, e2']))) | (refine ldD_ep ?_ ?_; (focus kernel_rfl); (try simp -implicitDefEqProofs [-loopQ_n, parT, n0, n0', n1, n1', n2, n2', p1, p2, n3i, n3', k0, k0i, r0, s0, r1, s1, r2, s2, r3, s3, r4, s4, r5, s5, r6, s6, w7, w1, w2, w3, w4, w5, w6, z1, z2, z3, z4, z5, z6, tn1, tn2, tn3, tn4, tn5, tn6, e1, e1', e2, e2'])))))
        all_goals (try (exfalso; omega))
      have k0i : (y0.toNat : Int) = 100 := by omega
      by_cases k1 : y1.toNat = 32
      rotate_left
      · have k1i : ¬ (y1.toNat : Int) = 32 := by omega
        have := rbad fun D a b c d h => by
          have h1 := htok D a b c d h
          have h2 := congrArg List.length h.eq
          have h3 := h.eq
          have h4 := h.pos
          have h5 := h.nine
          have h6 := h.lead
          simp at h2
          have h7 := hgd D a b c d h
          simp only [List.cons.injEq] at h7
          exact k1 (by simp [h7])
        subst this
        ((try simp -implicitDefEqProofs [-loopQ_n, parT, n0, n0', n1, n1', n2, n2', p1, p2, n3i, n3', k0, k0i, k1, k1i, r0, s0, r1, s1, r2, s2, r3, s3, r4, s4, r5, s5, r6, s6, w7, w1, w2, w3, w4, w5, w6, z1, z2, z3, z4, z5, z6, tn1, tn2, tn3, tn4, tn5, tn6, e1, e1', e2, e2']) <;> (repeat' (first | (refine condD_dec ?_ ?_ <;> (intro hc; (try simp -implicitDefEqProofs [-loopQ_n, hc, parT, n0, n0', n1, n1', n2, n2', p1, p2, n3i, n3', k0, k0i, k1, k1i, r0, s0, r1, s1, r2, s2, r3, s3, r4, s4, r5, s5, r6, s6, w7, w1, w2, w3, w4, w5, w6, z1, z2, z3, z4, z5, z6, tn1, tn2, tn3, tn4, tn5, tn6, e1, e1', e2, e2']))) | (refine guardD_dec ?_ ?_ <;> (intro hc; (try simp -implicitDefEqProofs [-loopQ_n, hc, parT, n0, n0', n1, n1', n2, n2', p1, p2, n3i, n3', k0, k0i, k1, k1i, r0, s0, r1, s1, r2, s2, r3, s3, r4, s4, r5, s5, r6, s6, w7, w1, w2, w3, w4, w5, w6, z1, z2, z3, z4, z5, z6, tn1, tn2, tn3, tn4, tn5, tn6, e1, e1', e2, e2']))) | (refine condD_intro ?_ ?_ <;> (intro hd; have hc := hd; (try simp at hc) <;> (try simp -implicitDefEqProofs [-loopQ_n, hd, hc, parT, n0, n0', n1, n1', n2, n2', p1, p2, n3i, n3', k0, k0i, k1, k1i, r0, s0, r1, s1, r2, s2, r3, s3, r4, s4, r5, s5, r6, s6, w7, w1, w2, w3, w4, w5, w6, z1, z2, z3, z4, z5, z6, tn1, tn2, tn3, tn4, tn5, tn6, e1, e1', e2, e2']))) | (refine guardD_intro ?_ ?_ <;> (intro hd; have hc := hd; (try simp at hc) <;> (try simp -implicitDefEqProofs [-loopQ_n, hd, hc, parT, n0, n0', n1, n1', n2, n2', p1, p2, n3i, n3', k0, k0i, k1, k1i, r0, s0, r1, s1, r2, s2, r3, s3, r4, s4, r5, s5, r6, s6, w7, w1, w2, w3, w4, w5, w6, z1, z2, z3, z4, z5, z6, tn1, tn2, tn3, tn4, tn5, tn6, e1, e1', e2, e2']))) | (refine ldD_ep ?_ ?_; (focus kernel_rfl); (try simp -implicitDefEqProofs [-loopQ_n, parT, n0, n0', n1, n1', n2, n2', p1, p2, n3i, n3', k0, k0i, k1, k1i, r0, s0, r1, s1, r2, s2, r3, s3, r4, s4, r5, s5, r6, s6, w7, w1, w2, w3, w4, w5, w6, z1, z2, z3, z4, z5, z6, tn1, tn2, tn3, tn4, tn5, tn6, e1, e1', e2, e2'])))))
        all_goals (try (exfalso; omega))
      have k1i : (y1.toNat : Int) = 32 := by omega
      by_cases k4 : y4.toNat = 58
      rotate_left
      · have k4i : ¬ (y4.toNat : Int) = 58 := by omega
        have := rbad fun D a b c d h => by
          have h1 := htok D a b c d h
          have h2 := congrArg List.length h.eq
          have h3 := h.eq
          have h4 := h.pos
          have h5 := h.nine
          have h6 := h.lead
          simp at h2
          have h7 := hgd D a b c d h
          simp only [List.cons.injEq] at h7
          exact k4 (by simp [h7])
        subst this
        ((try simp -implicitDefEqProofs [-loopQ_n, parT, n0, n0', n1, n1', n2, n2', p1, p2, n3i, n3', k0, k0i, k1, k1i, k4, k4i, r0, s0, r1, s1, r2, s2, r3, s3, r4, s4, r5, s5, r6, s6, w7, w1, w2, w3, w4, w5, w6, z1, z2, z3, z4, z5, z6, tn1, tn2, tn3, tn4, tn5, tn6, e1, e1', e2, e2']) <;> (repeat' (first | (refine condD_dec ?_ ?_ <;> (intro hc; (try simp -implicitDefEqProofs [-loopQ_n, hc, parT, n0, n0', n1, n1', n2, n2', p1, p2, n3i, n3', k0, k0i, k1, k1i, k4, k4i, r0, s0, r1, s1, r2, s2, r3, s3, r4, s4, r5, s5, r6, s6, w7, w1, w2, w3, w4, w5, w6, z1, z2, z3, z4, z5, z6, tn1, tn2, tn3, tn4, tn5, tn6, e1, e1', e2, e2']))) | (refine guardD_dec ?_ ?_ <;> (intro hc; (try simp -implicitDefEqProofs [-loopQ_n, hc, parT, n0, n0', n1, n1', n2, n2', p1, p2, n3i, n3', k0, k0i, k1, k1i, k4, k4i, r0, s0, r1, s1, r2, s2, r3, s3, r4, s4, r5, s5, r6, s6, w7, w1, w2, w3, w4, w5, w6, z1, z2, z3, z4, z5, z6, tn1, tn2, tn3, tn4, tn5, tn6, e1, e1', e2, e2']))) | (refine condD_intro ?_ ?_ <;> (intro hd; have hc := hd; (try simp at hc) <;> (try simp -implicitDefEqProofs [-loopQ_n, hd, hc, parT, n0, n0', n1, n1', n2, n2', p1, p2, n3i, n3', k0, k0i, k1, k1i, k4, k4i, r0, s0, r1, s1, r2, s2, r3, s3, r4, s4, r5, s5, r6, s6, w7, w1, w2, w3, w4, w5, w6, z1, z2, z3, z4, z5, z6, tn1, tn2, tn3, tn4, tn5, tn6, e1, e1', e2, e2']))) | (refine guardD_intro ?_ ?_ <;> (intro hd; have hc := hd; (try simp at hc) <;> (try simp -implicitDefEqProofs [-loopQ_n, hd, hc, parT, n0, n0', n1, n1', n2, n2', p1, p2, n3i, n3', k0, k0i, k1, k1i, k4, k4i, r0, s0, r1, s1, r2, s2, r3, s3, r4, s4, r5, s5, r6, s6, w7, w1, w2, w3, w4, w5, w6, z1, z2, z3, z4, z5, z6, tn1, tn2, tn3, tn4, tn5, tn6, e1, e1', e2, e2']))) | (refine ldD_ep ?_ ?_; (focus kernel_rfl); (try simp -implicitDefEqProofs [-loopQ_n, parT, n0, n0', n1, n1', n2, n2', p1, p2, n3i, n3', k0, k0i, k1, k1i, k4, k4i, r0, s0, r1, s1, r2, s2, r3, s3, r4, s4, r5, s5, r6, s6, w7, w1, w2, w3, w4, w5, w6, z1, z2, z3, z4, z5, z6, tn1, tn2, tn3, tn4, tn5, tn6, e1, e1', e2, e2'])))))
        all_goals (try (exfalso; omega))
      have k4i : (y4.toNat : Int) = 58 := by omega
      obtain rfl : y0 = 100 := UInt8.toNat_inj.1 k0
      obtain rfl : y1 = 32 := UInt8.toNat_inj.1 k1
      obtain rfl : y4 = 58 := UInt8.toNat_inj.1 k4
      ((try simp -implicitDefEqProofs [-loopQ_n, n0, n0', n1, n1', n2, n2', p1, p2, n3i, n3', k0, k0i, k1, k1i, k4, k4i, r0, s0, r1, s1, r2, s2, r3, s3, r4, s4, r5, s5, r6, s6, w7, w1, w2, w3, w4, w5, w6, z1, z2, z3, z4, z5, z6, tn1, tn2, tn3, tn4, tn5, tn6, e1, e1', e2, e2']) <;> (repeat' (first | (refine condD_dec ?_ ?_ <;> (intro hc; (try simp -implicitDefEqProofs [-loopQ_n, hc, n0, n0', n1, n1', n2, n2', p1, p2, n3i, n3', k0, k0i, k1, k1i, k4, k4i, r0, s0, r1, s1, r2, s2, r3, s3, r4, s4, r5, s5, r6, s6, w7, w1, w2, w3, w4, w5, w6, z1, z2, z3, z4, z5, z6, tn1, tn2, tn3, tn4, tn5, tn6, e1, e1', e2, e2']))) | (refine guardD_dec ?_ ?_ <;> (intro hc; (try simp -implicitDefEqProofs [-loopQ_n, hc, n0, n0', n1, n1', n2, n2', p1, p2, n3i, n3', k0, k0i, k1, k1i, k4, k4i, r0, s0, r1, s1, r2, s2, r3, s3, r4, s4, r5, s5, r6, s6, w7, w1, w2, w3, w4, w5, w6, z1, z2, z3, z4, z5, z6, tn1, tn2, tn3, tn4, tn5, tn6, e1, e1', e2, e2']))) | (refine condD_intro ?_ ?_ <;> (intro hd; have hc := hd; (try simp at hc) <;> (try simp -implicitDefEqProofs [-loopQ_n, hd, hc, n0, n0', n1, n1', n2, n2', p1, p2, n3i, n3', k0, k0i, k1, k1i, k4, k4i, r0, s0, r1, s1, r2, s2, r3, s3, r4, s4, r5, s5, r6, s6, w7, w1, w2, w3, w4, w5, w6, z1, z2, z3, z4, z5, z6, tn1, tn2, tn3, tn4, tn5, tn6, e1, e1', e2, e2']))) | (refine guardD_intro ?_ ?_ <;> (intro hd; have hc := hd; (try simp at hc) <;> (try simp -implicitDefEqProofs [-loopQ_n, hd, hc, n0, n0', n1, n1', n2, n2', p1, p2, n3i, n3', k0, k0i, k1, k1i, k4, k4i, r0, s0, r1, s1, r2, s2, r3, s3, r4, s4, r5, s5, r6, s6, w7, w1, w2, w3, w4, w5, w6, z1, z2, z3, z4, z5, z6, tn1, tn2, tn3, tn4, tn5, tn6, e1, e1', e2, e2']))) | (refine ldD_ep ?_ ?_; (focus kernel_rfl); (try simp -implicitDefEqProofs [-loopQ_n, n0, n0', n1, n1', n2, n2', p1, p2, n3i, n3', k0, k0i, k1, k1i, k4, k4i, r0, s0, r1, s1, r2, s2, r3, s3, r4, s4, r5, s5, r6, s6, w7, w1, w2, w3, w4, w5, w6, z1, z2, z3, z4, z5, z6, tn1, tn2, tn3, tn4, tn5, tn6, e1, e1', e2, e2'])))))
      all_goals (try (exfalso; omega))
      have hld : ¬ (1 < i ∧ x0.toNat = 48) := by omega
      refine loop_intro (σ := Nat) (fun j => ⟨[(0, .str s), (4, .int .i64 i), (5, .int .i64 n), (87, .os 0 4), (88, .int .i64 4), (89, .int .i64 j)], [.row 3 false [[.int .i64 ((i : Int) + 2)], [.int .i64 ((i : Int) + 3)], [.int .i64 ((i : Int) + 5)], [.int .i64 ((i : Int) + 6)]]]⟩) (fun j => j ≤ 4 ∧ (0 < j → dg y2 = true) ∧ (1 < j → dg y3 = true) ∧ (2 < j → dg y5 = true) ∧ (3 < j → dg y6 = true)) (fun j => 4 - j) 0 ⟨by omega, by omega, by omega, by omega, by omega⟩ ?_ ?_
      · refine weak_of 1 0 rfl rfl ?_ ?_ <;> simp [refsR, refs]
      rintro j ⟨hj, v0, v1, v2, v3⟩
      by_cases j0 : j = 0
      · subst j0
        by_cases hd : dg y2 = true
        rotate_left
        · by_cases d1 : (y2.toNat : Int) < 48
          · have d1' : y2.toNat < 48 := by omega
            have := rbad fun D a b c d h => by
              have h7 := hgd D a b c d h
              simp only [List.cons.injEq] at h7
              obtain ⟨_, _, rfl, rfl, _, rfl, rfl, _⟩ := h7
              exact hd h.a
            subst this
            ((try simp -implicitDefEqProofs [-loopQ_n, parT, d1, d1', r0, s0, r1, s1, r2, s2, r3, s3, r4, s4, r5, s5, r6, s6, w7, w1, w2, w3, w4, w5, w6, z1, z2, z3, z4, z5, z6, tn1, tn2, tn3, tn4, tn5, tn6]) <;> (repeat' (first | (refine condD_dec ?_ ?_ <;> (intro hc; (try simp -implicitDefEqProofs [-loopQ_n, hc, parT, d1, d1', r0, s0, r1, s1, r2, s2, r3, s3, r4, s4, r5, s5, r6, s6, w7, w1, w2, w3, w4, w5, w6, z1, z2, z3, z4, z5, z6, tn1, tn2, tn3, tn4, tn5, tn6]))) | (refine guardD_dec ?_ ?_ <;> (intro hc; (try simp -implicitDefEqProofs [-loopQ_n, hc, parT, d1, d1', r0, s0, r1, s1, r2, s2, r3, s3, r4, s4, r5, s5, r6, s6, w7, w1, w2, w3, w4, w5, w6, z1, z2, z3, z4, z5, z6, tn1, tn2, tn3, tn4, tn5, tn6]))) | (refine condD_intro ?_ ?_ <;> (intro hd; have hc := hd; (try simp at hc) <;> (try simp -implicitDefEqProofs [-loopQ_n, hd, hc, parT, d1, d1', r0, s0, r1, s1, r2, s2, r3, s3, r4, s4, r5, s5, r6, s6, w7, w1, w2, w3, w4, w5, w6, z1, z2, z3, z4, z5, z6, tn1, tn2, tn3, tn4, tn5, tn6]))) | (refine guardD_intro ?_ ?_ <;> (intro hd; have hc := hd; (try simp at hc) <;> (try simp -implicitDefEqProofs [-loopQ_n, hd, hc, parT, d1, d1', r0, s0, r1, s1, r2, s2, r3, s3, r4, s4, r5, s5, r6, s6, w7, w1, w2, w3, w4, w5, w6, z1, z2, z3, z4, z5, z6, tn1, tn2, tn3, tn4, tn5, tn6]))) | (refine ldD_ep ?_ ?_; (focus kernel_rfl); (try simp -implicitDefEqProofs [-loopQ_n, parT, d1, d1', r0, s0, r1, s1, r2, s2, r3, s3, r4, s4, r5, s5, r6, s6, w7, w1, w2, w3, w4, w5, w6, z1, z2, z3, z4, z5, z6, tn1, tn2, tn3, tn4, tn5, tn6])))))
            all_goals (try (exfalso; omega))
          · have d2 : (57 : Int) < y2.toNat := by (apply Decidable.byContradiction; intro q; exact hd (dg_iff.2 (by omega)))
            have d2' : 57 < y2.toNat := by omega
            have d1' : ¬ y2.toNat < 48 := by omega
            have := rbad fun D a b c d h => by
              have h7 := hgd D a b c d h
              simp only [List.cons.injEq] at h7
              obtain ⟨_, _, rfl, rfl, _, rfl, rfl, _⟩ := h7
              exact hd h.a
            subst this
            ((try simp -implicitDefEqProofs [-loopQ_n, parT, d1, d1', d2, d2', r0, s0, r1, s1, r2, s2, r3, s3, r4, s4, r5, s5, r6, s6, w7, w1, w2, w3, w4, w5, w6, z1, z2, z3, z4, z5, z6, tn1, tn2, tn3, tn4, tn5, tn6]) <;> (repeat' (first | (refine condD_dec ?_ ?_ <;> (intro hc; (try simp -implicitDefEqProofs [-loopQ_n, hc, parT, d1, d1', d2, d2', r0, s0, r1, s1, r2, s2, r3, s3, r4, s4, r5, s5, r6, s6, w7, w1, w2, w3, w4, w5, w6, z1, z2, z3, z4, z5, z6, tn1, tn2, tn3, tn4, tn5, tn6]))) | (refine guardD_dec ?_ ?_ <;> (intro hc; (try simp -implicitDefEqProofs [-loopQ_n, hc, parT, d1, d1', d2, d2', r0, s0, r1, s1, r2, s2, r3, s3, r4, s4, r5, s5, r6, s6, w7, w1, w2, w3, w4, w5, w6, z1, z2, z3, z4, z5, z6, tn1, tn2, tn3, tn4, tn5, tn6]))) | (refine condD_intro ?_ ?_ <;> (intro hd; have hc := hd; (try simp at hc) <;> (try simp -implicitDefEqProofs [-loopQ_n, hd, hc, parT, d1, d1', d2, d2', r0, s0, r1, s1, r2, s2, r3, s3, r4, s4, r5, s5, r6, s6, w7, w1, w2, w3, w4, w5, w6, z1, z2, z3, z4, z5, z6, tn1, tn2, tn3, tn4, tn5, tn6]))) | (refine guardD_intro ?_ ?_ <;> (intro hd; have hc := hd; (try simp at hc) <;> (try simp -implicitDefEqProofs [-loopQ_n, hd, hc, parT, d1, d1', d2, d2', r0, s0, r1, s1, r2, s2, r3, s3, r4, s4, r5, s5, r6, s6, w7, w1, w2, w3, w4, w5, w6, z1, z2, z3, z4, z5, z6, tn1, tn2, tn3, tn4, tn5, tn6]))) | (refine ldD_ep ?_ ?_; (focus kernel_rfl); (try simp -implicitDefEqProofs [-loopQ_n, parT, d1, d1', d2, d2', r0, s0, r1, s1, r2, s2, r3, s3, r4, s4, r5, s5, r6, s6, w7, w1, w2, w3, w4, w5, w6, z1, z2, z3, z4, z5, z6, tn1, tn2, tn3, tn4, tn5, tn6])))))
            all_goals (try (exfalso; omega))
        have hdd := dg_iff.1 hd
        have d1 : ¬ (y2.toNat : Int) < 48 := by omega
        have d1' : ¬ y2.toNat < 48 := by omega
        have d2 : ¬ (57 : Int) < y2.toNat := by omega
        have d2' : ¬ 57 < y2.toNat := by omega
        have ww : wrapI .i64 (1 : Int) = 1 := wrap_in (by omega) (by omega)
        ((try simp -implicitDefEqProofs [-loopQ_n, d1, d1', d2, d2', ww, r0, s0, r1, s1, r2, s2, r3, s3, r4, s4, r5, s5, r6, s6, w7, w1, w2, w3, w4, w5, w6, z1, z2, z3, z4, z5, z6, tn1, tn2, tn3, tn4, tn5, tn6]) <;> (repeat' (first | (refine condD_dec ?_ ?_ <;> (intro hc; (try simp -implicitDefEqProofs [-loopQ_n, hc, d1, d1', d2, d2', ww, r0, s0, r1, s1, r2, s2, r3, s3, r4, s4, r5, s5, r6, s6, w7, w1, w2, w3, w4, w5, w6, z1, z2, z3, z4, z5, z6, tn1, tn2, tn3, tn4, tn5, tn6]))) | (refine guardD_dec ?_ ?_ <;> (intro hc; (try simp -implicitDefEqProofs [-loopQ_n, hc, d1, d1', d2, d2', ww, r0, s0, r1, s1, r2, s2, r3, s3, r4, s4, r5, s5, r6, s6, w7, w1, w2, w3, w4, w5, w6, z1, z2, z3, z4, z5, z6, tn1, tn2, tn3, tn4, tn5, tn6]))) | (refine condD_intro ?_ ?_ <;> (intro hd; have hc := hd; (try simp at hc) <;> (try simp -implicitDefEqProofs [-loopQ_n, hd, hc, d1, d1', d2, d2', ww, r0, s0, r1, s1, r2, s2, r3, s3, r4, s4, r5, s5, r6, s6, w7, w1, w2, w3, w4, w5, w6, z1, z2, z3, z4, z5, z6, tn1, tn2, tn3, tn4, tn5, tn6]))) | (refine guardD_intro ?_ ?_ <;> (intro hd; have hc := hd; (try simp at hc) <;> (try simp -implicitDefEqProofs [-loopQ_n, hd, hc, d1, d1', d2, d2', ww, r0, s0, r1, s1, r2, s2, r3, s3, r4, s4, r5, s5, r6, s6, w7, w1, w2, w3, w4, w5, w6, z1, z2, z3, z4, z5, z6, tn1, tn2, tn3, tn4, tn5, tn6]))) | (refine ldD_ep ?_ ?_; (focus kernel_rfl); (try simp -implicitDefEqProofs [-loopQ_n, d1, d1', d2, d2', ww, r0, s0, r1, s1, r2, s2, r3, s3, r4, s4, r5, s5, r6, s6, w7, w1, w2, w3, w4, w5, w6, z1, z2, z3, z4, z5, z6, tn1, tn2, tn3, tn4, tn5, tn6])))))
        all_goals (try (exfalso; omega))
        refine loop_next 1 ⟨by omega, fun _ => hd, by omega, by omega, by omega⟩ (by omega) (weak_of 1 0 rfl rfl ?_ ?_) <;> simp [refsR, refs, ww]
      by_cases j1 : j = 1
      · subst j1
        by_cases hd : dg y3 = true
        rotate_left
        · by_cases d1 : (y3.toNat : Int) < 48
          · have d1' : y3.toNat < 48 := by omega
            have := rbad fun D a b c d h => by
              have h7 := hgd D a b c d h
              simp only [List.cons.injEq] at h7
              obtain ⟨_, _, rfl, rfl, _, rfl, rfl, _⟩ := h7
              exact hd h.b
            subst this
            ((try simp -implicitDefEqProofs [-loopQ_n, parT, d1, d1', r0, s0, r1, s1, r2, s2, r3, s3, r4, s4, r5, s5, r6, s6, w7, w1, w2, w3, w4, w5, w6, z1, z2, z3, z4, z5, z6, tn1, tn2, tn3, tn4, tn5, tn6]) <;> (repeat' (first | (refine condD_dec ?_ ?_ <;> (intro hc; (try simp -implicitDefEqProofs [-loopQ_n, hc, parT, d1, d1', r0, s0, r1, s1, r2, s2, r3, s3, r4, s4, r5, s5, r6, s6, w7, w1, w2, w3, w4, w5, w6, z1, z2, z3, z4, z5, z6, tn1, tn2, tn3, tn4, tn5, tn6]))) | (refine guardD_dec ?_ ?_ <;> (intro hc; (try simp -implicitDefEqProofs [-loopQ_n, hc, parT, d1, d1', r0, s0, r1, s1, r2, s2, r3, s3, r4, s4, r5, s5, r6, s6, w7, w1, w2, w3, w4, w5, w6, z1, z2, z3, z4, z5, z6, tn1, tn2, tn3, tn4, tn5, tn6]))) | (refine condD_intro ?_ ?_ <;> (intro hd; have hc := hd; (try simp at hc) <;> (try simp -implicitDefEqProofs [-loopQ_n, hd, hc, parT, d1, d1', r0, s0, r1, s1, r2, s2, r3, s3, r4, s4, r5, s5, r6, s6, w7, w1, w2, w3, w4, w5, w6, z1, z2, z3, z4, z5, z6, tn1, tn2, tn3, tn4, tn5, tn6]))) | (refine guardD_intro ?_ ?_ <;> (intro hd; have hc := hd; (try simp at hc) <;> (try simp -implicitDefEqProofs [-loopQ_n, hd, hc, parT, d1, d1', r0, s0, r1, s1, r2, s2, r3, s3, r4, s4, r5, s5, r6, s6, w7, w1, w2, w3, w4, w5, w6, z1, z2, z3, z4, z5, z6, tn1, tn2, tn3, tn4, tn5, tn6]))) | (refine ldD_ep ?_ ?_; (focus kernel_rfl); (try simp -implicitDefEqProofs [-loopQ_n, parT, d1, d1', r0, s0, r1, s1, r2, s2, r3, s3, r4, s4, r5, s5, r6, s6, w7, w1, w2, w3, w4, w5, w6, z1, z2, z3, z4, z5, z6, tn1, tn2, tn3, tn4, tn5, tn6])))))
            all_goals (try (exfalso; omega))
          · have d2 : (57 : Int) < y3.toNat := by (apply Decidable.byContradiction; intro q; exact hd (dg_iff.2 (by omega)))
            have d2' : 57 < y3.toNat := by omega
            have d1' : ¬ y3.toNat < 48 := by omega
            have := rbad fun D a b c d h => by
              have h7 := hgd D a b c d h
              simp only [List.cons.injEq] at h7
              obtain ⟨_, _, rfl, rfl, _, rfl, rfl, _⟩ := h7
              exact hd h.b
            subst this
            ((try simp -implicitDefEqProofs [-loopQ_n, parT, d1, d1', d2, d2', r0, s0, r1, s1, r2, s2, r3, s3, r4, s4, r5, s5, r6, s6, w7, w1, w2, w3, w4, w5, w6, z1, z2, z3, z4, z5, z6, tn1, tn2, tn3, tn4, tn5, tn6]) <;> (repeat' (first | (refine condD_dec ?_ ?_ <;> (intro hc; (try simp -implicitDefEqProofs [-loopQ_n, hc, parT, d1, d1', d2, d2', r0, s0, r1, s1, r2, s2, r3, s3, r4, s4, r5, s5, r6, s6, w7, w1, w2, w3, w4, w5, w6, z1, z2, z3, z4, z5, z6, tn1, tn2, tn3, tn4, tn5, tn6]))) | (refine guardD_dec ?_ ?_ <;> (intro hc; (try simp -implicitDefEqProofs [-loopQ_n, hc, parT, d1, d1', d2, d2', r0, s0, r1, s1, r2, s2, r3, s3, r4, s4, r5, s5, r6, s6, w7, w1, w2, w3, w4, w5, w6, z1, z2, z3, z4, z5, z6, tn1, tn2, tn3, tn4, tn5, tn6]))) | (refine condD_intro ?_ ?_ <;> (intro hd; have hc := hd; (try simp at hc) <;> (try simp -implicitDefEqProofs [-loopQ_n, hd, hc, parT, d1, d1', d2, d2', r0, s0, r1, s1, r2, s2, r3, s3, r4, s4, r5, s5, r6, s6, w7, w1, w2, w3, w4, w5, w6, z1, z2, z3, z4, z5, z6, tn1, tn2, tn3, tn4, tn5, tn6]))) | (refine guardD_intro ?_ ?_ <;> (intro hd; have hc := hd; (try simp at hc) <;> (try simp -implicitDefEqProofs [-loopQ_n, hd, hc, parT, d1, d1', d2, d2', r0, s0, r1, s1, r2, s2, r3, s3, r4, s4, r5, s5, r6, s6, w7, w1, w2, w3, w4, w5, w6, z1, z2, z3, z4, z5, z6, tn1, tn2, tn3, tn4, tn5, tn6]))) | (refine ldD_ep ?_ ?_; (focus kernel_rfl); (try simp -implicitDefEqProofs [-loopQ_n, parT, d1, d1', d2, d2', r0, s0, r1, s1, r2, s2, r3, s3, r4, s4, r5, s5, r6, s6, w7, w1, w2, w3, w4, w5, w6, z1, z2, z3, z4, z5, z6, tn1, tn2, tn3, tn4, tn5, tn6])))))
            all_goals (try (exfalso; omega))
        have hdd := dg_iff.1 hd
        have d1 : ¬ (y3.toNat : Int) < 48 := by omega
        have d1' : ¬ y3.toNat < 48 := by omega
        have d2 : ¬ (57 : Int) < y3.toNat := by omega
        have d2' : ¬ 57 < y3.toNat := by omega
        have ww : wrapI .i64 (2 : Int) = 2 := wrap_in (by omega) (by omega)
        ((try simp -implicitDefEqProofs [-loopQ_n, d1, d1', d2, d2', ww, r0, s0, r1, s1, r2, s2, r3, s3, r4, s4, r5, s5, r6, s6, w7, w1, w2, w3, w4, w5, w6, z1, z2, z3, z4, z5, z6, tn1, tn2, tn3, tn4, tn5, tn6]) <;> (repeat' (first | (refine condD_dec ?_ ?_ <;> (intro hc; (try simp -implicitDefEqProofs [-loopQ_n, hc, d1, d1', d2, d2', ww, r0, s0, r1, s1, r2, s2, r3, s3, r4, s4, r5, s5, r6, s6, w7, w1, w2, w3, w4, w5, w6, z1, z2, z3, z4, z5, z6, tn1, tn2, tn3, tn4, tn5, tn6]))) | (refine guardD_dec ?_ ?_ <;> (intro hc; (try simp -implicitDefEqProofs [-loopQ_n, hc, d1, d1', d2, d2', ww, r0, s0, r1, s1, r2, s2, r3, s3, r4, s4, r5, s5, r6, s6, w7, w1, w2, w3, w4, w5, w6, z1, z2, z3, z4, z5, z6, tn1, tn2, tn3, tn4, tn5, tn6]))) | (refine condD_intro ?_ ?_ <;> (intro hd; have hc := hd; (try simp at hc) <;> (try simp -implicitDefEqProofs [-loopQ_n, hd, hc, d1, d1', d2, d2', ww, r0, s0, r1, s1, r2, s2, r3, s3, r4, s4, r5, s5, r6, s6, w7, w1, w2, w3, w4, w5, w6, z1, z2, z3, z4, z5, z6, tn1, tn2, tn3, tn4, tn5, tn6]))) | (refine guardD_intro ?_ ?_ <;> (intro hd; have hc := hd; (try simp at hc) <;> (try simp -implicitDefEqProofs [-loopQ_n, hd, hc, d1, d1', d2, d2', ww, r0, s0, r1, s1, r2, s2, r3, s3, r4, s4, r5, s5, r6, s6, w7, w1, w2, w3, w4, w5, w6, z1, z2, z3, z4, z5, z6, tn1, tn2, tn3, tn4, tn5, tn6]))) | (refine ldD_ep ?_ ?_; (focus kernel_rfl); (try simp -implicitDefEqProofs [-loopQ_n, d1, d1', d2, d2', ww, r0, s0, r1, s1, r2, s2, r3, s3, r4, s4, r5, s5, r6, s6, w7, w1, w2, w3, w4, w5, w6, z1, z2, z3, z4, z5, z6, tn1, tn2, tn3, tn4, tn5, tn6])))))
        all_goals (try (exfalso; omega))
        refine loop_next 2 ⟨by omega, fun _ => v0 (by omega), fun _ => hd, by omega, by omega⟩ (by omega) (weak_of 1 0 rfl rfl ?_ ?_) <;> simp [refsR, refs, ww]
      by_cases j2 : j = 2
      · subst j2
        by_cases hd : dg y5 = true
        rotate_left
        · by_cases d1 : (y5.toNat : Int) < 48
          · have d1' : y5.toNat < 48 := by omega
            have := rbad fun D a b c d h => by
              have h7 := hgd D a b c d h
              simp only [List.cons.injEq] at h7
              obtain ⟨_, _, rfl, rfl, _, rfl, rfl, _⟩ := h7
              exact hd h.c
            subst this
            ((try simp -implicitDefEqProofs [-loopQ_n, parT, d1, d1', r0, s0, r1, s1, r2, s2, r3, s3, r4, s4, r5, s5, r6, s6, w7, w1, w2, w3, w4, w5, w6, z1, z2, z3, z4, z5, z6, tn1, tn2, tn3, tn4, tn5, tn6]) <;> (repeat' (first | (refine condD_dec ?_ ?_ <;> (intro hc; (try simp -implicitDefEqProofs [-loopQ_n, hc, parT, d1, d1', r0, s0, r1, s1, r2, s2, r3, s3, r4, s4, r5, s5, r6, s6, w7, w1, w2, w3, w4, w5, w6, z1, z2, z3, z4, z5, z6, tn1, tn2, tn3, tn4, tn5, tn6]))) | (refine guardD_dec ?_ ?_ <;> (intro hc; (try simp -implicitDefEqProofs [-loopQ_n, hc, parT, d1, d1', r0, s0, r1, s1, r2, s2, r3, s3, r4, s4, r5, s5, r6, s6, w7, w1, w2, w3, w4, w5, w6, z1, z2, z3, z4, z5, z6, tn1, tn2, tn3, tn4, tn5, tn6]))) | (refine condD_intro ?_ ?_ <;> (intro hd; have hc := hd; (try simp at hc) <;> (try simp -implicitDefEqProofs [-loopQ_n, hd, hc, parT, d1, d1', r0, s0, r1, s1, r2, s2, r3, s3, r4, s4, r5, s5, r6, s6, w7, w1, w2, w3, w4, w5, w6, z1, z2, z3, z4, z5, z6, tn1, tn2, tn3, tn4, tn5, tn6]))) | (refine guardD_intro ?_ ?_ <;> (intro hd; have hc := hd; (try simp at hc) <;> (try simp -implicitDefEqProofs [-loopQ_n, hd, hc, parT, d1, d1', r0, s0, r1, s1, r2, s2, r3, s3, r4, s4, r5, s5, r6, s6, w7, w1, w2, w3, w4, w5, w6, z1, z2, z3, z4, z5, z6, tn1, tn2, tn3, tn4, tn5, tn6]))) | (refine ldD_ep ?_ ?_; (focus kernel_rfl); (try simp -implicitDefEqProofs [-loopQ_n, parT, d1, d1', r0, s0, r1, s1, r2, s2, r3, s3, r4, s4, r5, s5, r6, s6, w7, w1, w2, w3, w4, w5, w6, z1, z2, z3, z4, z5, z6, tn1, tn2, tn3, tn4, tn5, tn6])))))
            all_goals (try (exfalso; omega))
          · have d2 : (57 : Int) < y5.toNat := by (apply Decidable.byContradiction; intro q; exact hd (dg_iff.2 (by omega)))
            have d2' : 57 < y5.toNat := by omega
            have d1' : ¬ y5.toNat < 48 := by omega
            have := rbad fun D a b c d h => by
              have h7 := hgd D a b c d h
              simp only [List.cons.injEq] at h7
              obtain ⟨_, _, rfl, rfl, _, rfl, rfl, _⟩ := h7
              exact hd h.c
            subst this
            ((try simp -implicitDefEqProofs [-loopQ_n, parT, d1, d1', d2, d2', r0, s0, r1, s1, r2, s2, r3, s3, r4, s4, r5, s5, r6, s6, w7, w1, w2, w3, w4, w5, w6, z1, z2, z3, z4, z5, z6, tn1, tn2, tn3, tn4, tn5, tn6]) <;> (repeat' (first | (refine condD_dec ?_ ?_ <;> (intro hc; (try simp -implicitDefEqProofs [-loopQ_n, hc, parT, d1, d1', d2, d2', r0, s0, r1, s1, r2, s2, r3, s3, r4, s4, r5, s5, r6, s6, w7, w1, w2, w3, w4, w5, w6, z1, z2, z3, z4, z5, z6, tn1, tn2, tn3, tn4, tn5, tn6]))) | (refine guardD_dec ?_ ?_ <;> (intro hc; (try simp -implicitDefEqProofs [-loopQ_n, hc, parT, d1, d1', d2, d2', r0, s0, r1, s1, r2, s2, r3, s3, r4, s4, r5, s5, r6, s6, w7, w1, w2, w3, w4, w5, w6, z1, z2, z3, z4, z5, z6, tn1, tn2, tn3, tn4, tn5, tn6]))) | (refine condD_intro ?_ ?_ <;> (intro hd; have hc := hd; (try simp at hc) <;> (try simp -implicitDefEqProofs [-loopQ_n, hd, hc, parT, d1, d1', d2, d2', r0, s0, r1, s1, r2, s2, r3, s3, r4, s4, r5, s5, r6, s6, w7, w1, w2, w3, w4, w5, w6, z1, z2, z3, z4, z5, z6, tn1, tn2, tn3, tn4, tn5, tn6]))) | (refine guardD_intro ?_ ?_ <;> (intro hd; have hc := hd; (try simp at hc) <;> (try simp -implicitDefEqProofs [-loopQ_n, hd, hc, parT, d1, d1', d2, d2', r0, s0, r1, s1, r2, s2, r3, s3, r4, s4, r5, s5, r6, s6, w7, w1, w2, w3, w4, w5, w6, z1, z2, z3, z4, z5, z6, tn1, tn2, tn3, tn4, tn5, tn6]))) | (refine ldD_ep ?_ ?_; (focus kernel_rfl); (try simp -implicitDefEqProofs [-loopQ_n, parT, d1, d1', d2, d2', r0, s0, r1, s1, r2, s2, r3, s3, r4, s4, r5, s5, r6, s6, w7, w1, w2, w3, w4, w5, w6, z1, z2, z3, z4, z5, z6, tn1, tn2, tn3, tn4, tn5, tn6])))))
            all_goals (try (exfalso; omega))
        have hdd := dg_iff.1 hd
        have d1 : ¬ (y5.toNat : Int) < 48 := by omega
        have d1' : ¬ y5.toNat < 48 := by omega
        have d2 : ¬ (57 : Int) < y5.toNat := by omega
        have d2' : ¬ 57 < y5.toNat := by omega
        have ww : wrapI .i64 (3 : Int) = 3 := wrap_in (by omega) (by omega)
        ((try simp -implicitDefEqProofs [-loopQ_n, d1, d1', d2, d2', ww, r0, s0, r1, s1, r2, s2, r3, s3, r4, s4, r5, s5, r6, s6, w7, w1, w2, w3, w4, w5, w6, z1, z2, z3, z4, z5, z6, tn1, tn2, tn3, tn4, tn5, tn6]) <;> (repeat' (first | (refine condD_dec ?_ ?_ <;> (intro hc; (try simp -implicitDefEqProofs [-loopQ_n, hc, d1, d1', d2, d2', ww, r0, s0, r1, s1, r2, s2, r3, s3, r4, s4, r5, s5, r6, s6, w7, w1, w2, w3, w4, w5, w6, z1, z2, z3, z4, z5, z6, tn1, tn2, tn3, tn4, tn5, tn6]))) | (refine guardD_dec ?_ ?_ <;> (intro hc; (try simp -implicitDefEqProofs [-loopQ_n, hc, d1, d1', d2, d2', ww, r0, s0, r1, s1, r2, s2, r3, s3, r4, s4, r5, s5, r6, s6, w7, w1, w2, w3, w4, w5, w6, z1, z2, z3, z4, z5, z6, tn1, tn2, tn3, tn4, tn5, tn6]))) | (refine condD_intro ?_ ?_ <;> (intro hd; have hc := hd; (try simp at hc) <;> (try simp -implicitDefEqProofs [-loopQ_n, hd, hc, d1, d1', d2, d2', ww, r0, s0, r1, s1, r2, s2, r3, s3, r4, s4, r5, s5, r6, s6, w7, w1, w2, w3, w4, w5, w6, z1, z2, z3, z4, z5, z6, tn1, tn2, tn3, tn4, tn5, tn6]))) | (refine guardD_intro ?_ ?_ <;> (intro hd; have hc := hd; (try simp at hc) <;> (try simp -implicitDefEqProofs [-loopQ_n, hd, hc, d1, d1', d2, d2', ww, r0, s0, r1, s1, r2, s2, r3, s3, r4, s4, r5, s5, r6, s6, w7, w1, w2, w3, w4, w5, w6, z1, z2, z3, z4, z5, z6, tn1, tn2, tn3, tn4, tn5, tn6]))) | (refine ldD_ep ?_ ?_; (focus kernel_rfl); (try simp -implicitDefEqProofs [-loopQ_n, d1, d1', d2, d2', ww, r0, s0, r1, s1, r2, s2, r3, s3, r4, s4, r5, s5, r6, s6, w7, w1, w2, w3, w4, w5, w6, z1, z2, z3, z4, z5, z6, tn1, tn2, tn3, tn4, tn5, tn6])))))
        all_goals (try (exfalso; omega))
        refine loop_next 3 ⟨by omega, fun _ => v0 (by omega), fun _ => v1 (by omega), fun _ => hd, by omega⟩ (by omega) (weak_of 1 0 rfl rfl ?_ ?_) <;> simp [refsR, refs, ww]
      by_cases j3 : j = 3
      · subst j3
        by_cases hd : dg y6 = true
        rotate_left
        · by_cases d1 : (y6.toNat : Int) < 48
          · have d1' : y6.toNat < 48 := by omega
            have := rbad fun D a b c d h => by
              have h7 := hgd D a b c d h
              simp only [List.cons.injEq] at h7
              obtain ⟨_, _, rfl, rfl, _, rfl, rfl, _⟩ := h7
              exact hd h.d
            subst this
            ((try simp -implicitDefEqProofs [-loopQ_n, parT, d1, d1', r0, s0, r1, s1, r2, s2, r3, s3, r4, s4, r5, s5, r6, s6, w7, w1, w2, w3, w4, w5, w6, z1, z2, z3, z4, z5, z6, tn1, tn2, tn3, tn4, tn5, tn6]) <;> (repeat' (first | (refine condD_dec ?_ ?_ <;> (intro hc; (try simp -implicitDefEqProofs [-loopQ_n, hc, parT, d1, d1', r0, s0, r1, s1, r2, s2, r3, s3, r4, s4, r5, s5, r6, s6, w7, w1, w2, w3, w4, w5, w6, z1, z2, z3, z4, z5, z6, tn1, tn2, tn3, tn4, tn5, tn6]))) | (refine guardD_dec ?_ ?_ <;> (intro hc; (try simp -implicitDefEqProofs [-loopQ_n, hc, parT, d1, d1', r0, s0, r1, s1, r2, s2, r3, s3, r4, s4, r5, s5, r6, s6, w7, w1, w2, w3, w4, w5, w6, z1, z2, z3, z4, z5, z6, tn1, tn2, tn3, tn4, tn5, tn6]))) | (refine condD_intro ?_ ?_ <;> (intro hd; have hc := hd; (try simp at hc) <;> (try simp -implicitDefEqProofs [-loopQ_n, hd, hc, parT, d1, d1', r0, s0, r1, s1, r2, s2, r3, s3, r4, s4, r5, s5, r6, s6, w7, w1, w2, w3, w4, w5, w6, z1, z2, z3, z4, z5, z6, tn1, tn2, tn3, tn4, tn5, tn6]))) | (refine guardD_intro ?_ ?_ <;> (intro hd; have hc := hd; (try simp at hc) <;> (try simp -implicitDefEqProofs [-loopQ_n, hd, hc, parT, d1, d1', r0, s0, r1, s1, r2, s2, r3, s3, r4, s4, r5, s5, r6, s6, w7, w1, w2, w3, w4, w5, w6, z1, z2, z3, z4, z5, z6, tn1, tn2, tn3, tn4, tn5, tn6]))) | (refine ldD_ep ?_ ?_; (focus kernel_rfl); (try simp -implicitDefEqProofs [-loopQ_n, parT, d1, d1', r0, s0, r1, s1, r2, s2, r3, s3, r4, s4, r5, s5, r6, s6, w7, w1, w2, w3, w4, w5, w6, z1, z2, z3, z4, z5, z6, tn1, tn2, tn3, tn4, tn5, tn6])))))
            all_goals (try (exfalso; omega))
          · have d2 : (57 : Int) < y6.toNat := by (apply Decidable.byContradiction; intro q; exact hd (dg_iff.2 (by omega)))
            have d2' : 57 < y6.toNat := by omega
            have d1' : ¬ y6.toNat < 48 := by omega
            have := rbad fun D a b c d h => by
              have h7 := hgd D a b c d h
              simp only [List.cons.injEq] at h7
              obtain ⟨_, _, rfl, rfl, _, rfl, rfl, _⟩ := h7
              exact hd h.d
            subst this
            ((try simp -implicitDefEqProofs [-loopQ_n, parT, d1, d1', d2, d2', r0, s0, r1, s1, r2, s2, r3, s3, r4, s4, r5, s5, r6, s6, w7, w1, w2, w3, w4, w5, w6, z1, z2, z3, z4, z5, z6, tn1, tn2, tn3, tn4, tn5, tn6]) <;> (repeat' (first | (refine condD_dec ?_ ?_ <;> (intro hc; (try simp -implicitDefEqProofs [-loopQ_n, hc, parT, d1, d1', d2, d2', r0, s0, r1, s1, r2, s2, r3, s3, r4, s4, r5, s5, r6, s6, w7, w1, w2, w3, w4, w5, w6, z1, z2, z3, z4, z5, z6, tn1, tn2, tn3, tn4, tn5, tn6]))) | (refine guardD_dec ?_ ?_ <;> (intro hc; (try simp -implicitDefEqProofs [-loopQ_n, hc, parT, d1, d1', d2, d2', r0, s0, r1, s1, r2, s2, r3, s3, r4, s4, r5, s5, r6, s6, w7, w1, w2, w3, w4, w5, w6, z1, z2, z3, z4, z5, z6, tn1, tn2, tn3, tn4, tn5, tn6]))) | (refine condD_intro ?_ ?_ <;> (intro hd; have hc := hd; (try simp at hc) <;> (try simp -implicitDefEqProofs [-loopQ_n, hd, hc, parT, d1, d1', d2, d2', r0, s0, r1, s1, r2, s2, r3, s3, r4, s4, r5, s5, r6, s6, w7, w1, w2, w3, w4, w5, w6, z1, z2, z3, z4, z5, z6, tn1, tn2, tn3, tn4, tn5, tn6]))) | (refine guardD_intro ?_ ?_ <;> (intro hd; have hc := hd; (try simp at hc) <;> (try simp -implicitDefEqProofs [-loopQ_n, hd, hc, parT, d1, d1', d2, d2', r0, s0, r1, s1, r2, s2, r3, s3, r4, s4, r5, s5, r6, s6, w7, w1, w2, w3, w4, w5, w6, z1, z2, z3, z4, z5, z6, tn1, tn2, tn3, tn4, tn5, tn6]))) | (refine ldD_ep ?_ ?_; (focus kernel_rfl); (try simp -implicitDefEqProofs [-loopQ_n, parT, d1, d1', d2, d2', r0, s0, r1, s1, r2, s2, r3, s3, r4, s4, r5, s5, r6, s6, w7, w1, w2, w3, w4, w5, w6, z1, z2, z3, z4, z5, z6, tn1, tn2, tn3, tn4, tn5, tn6])))))
            all_goals (try (exfalso; omega))
        have hdd := dg_iff.1 hd
        have d1 : ¬ (y6.toNat : Int) < 48 := by omega
        have d1' : ¬ y6.toNat < 48 := by omega
        have d2 : ¬ (57 : Int) < y6.toNat := by omega
        have d2' : ¬ 57 < y6.toNat := by omega
        have ww : wrapI .i64 (4 : Int) = 4 := wrap_in (by omega) (by omega)
        ((try simp -implicitDefEqProofs [-loopQ_n, d1, d1', d2, d2', ww, r0, s0, r1, s1, r2, s2, r3, s3, r4, s4, r5, s5, r6, s6, w7, w1, w2, w3, w4, w5, w6, z1, z2, z3, z4, z5, z6, tn1, tn2, tn3, tn4, tn5, tn6]) <;> (repeat' (first | (refine condD_dec ?_ ?_ <;> (intro hc; (try simp -implicitDefEqProofs [-loopQ_n, hc, d1, d1', d2, d2', ww, r0, s0, r1, s1, r2, s2, r3, s3, r4, s4, r5, s5, r6, s6, w7, w1, w2, w3, w4, w5, w6, z1, z2, z3, z4, z5, z6, tn1, tn2, tn3, tn4, tn5, tn6]))) | (refine guardD_dec ?_ ?_ <;> (intro hc; (try simp -implicitDefEqProofs [-loopQ_n, hc, d1, d1', d2, d2', ww, r0, s0, r1, s1, r2, s2, r3, s3, r4, s4, r5, s5, r6, s6, w7, w1, w2, w3, w4, w5, w6, z1, z2, z3, z4, z5, z6, tn1, tn2, tn3, tn4, tn5, tn6]))) | (refine condD_intro ?_ ?_ <;> (intro hd; have hc := hd; (try simp at hc) <;> (try simp -implicitDefEqProofs [-loopQ_n, hd, hc, d1, d1', d2, d2', ww, r0, s0, r1, s1, r2, s2, r3, s3, r4, s4, r5, s5, r6, s6, w7, w1, w2, w3, w4, w5, w6, z1, z2, z3, z4, z5, z6, tn1, tn2, tn3, tn4, tn5, tn6]))) | (refine guardD_intro ?_ ?_ <;> (intro hd; have hc := hd; (try simp at hc) <;> (try simp -implicitDefEqProofs [-loopQ_n, hd, hc, d1, d1', d2, d2', ww, r0, s0, r1, s1, r2, s2, r3, s3, r4, s4, r5, s5, r6, s6, w7, w1, w2, w3, w4, w5, w6, z1, z2, z3, z4, z5, z6, tn1, tn2, tn3, tn4, tn5, tn6]))) | (refine ldD_ep ?_ ?_; (focus kernel_rfl); (try simp -implicitDefEqProofs [-loopQ_n, d1, d1', d2, d2', ww, r0, s0, r1, s1, r2, s2, r3, s3, r4, s4, r5, s5, r6, s6, w7, w1, w2, w3, w4, w5, w6, z1, z2, z3, z4, z5, z6, tn1, tn2, tn3, tn4, tn5, tn6])))))
        all_goals (try (exfalso; omega))
        refine loop_next 4 ⟨by omega, fun _ => v0 (by omega), fun _ => v1 (by omega), fun _ => v2 (by omega), fun _ => hd⟩ (by omega) (weak_of 1 0 rfl rfl ?_ ?_) <;> simp [refsR, refs, ww]
      have j4 : j = 4 := by omega
      subst j4
      have D0 := v0 (by omega)
      have B0 := dv_bd D0
      have E0 := dg_iff.1 D0
      have u0 : wrapI .u8 ((y2.toNat : Int) - 48) = dv y2 := by rw [wrap8 (by omega) (by omega)]; rfl
      have U0 : wrapI .i64 (dv y2) = dv y2 := wrap_in (by omega) (by omega)
      have T0 : wrapI .i64 (dv y2 * 10) = dv y2 * 10 := wrap_in (by omega) (by omega)
      have D1 := v1 (by omega)
      have B1 := dv_bd D1
      have E1 := dg_iff.1 D1
      have u1 : wrapI .u8 ((y3.toNat : Int) - 48) = dv y3 := by rw [wrap8 (by omega) (by omega)]; rfl
      have U1 : wrapI .i64 (dv y3) = dv y3 := wrap_in (by omega) (by omega)
      have T1 : wrapI .i64 (dv y3 * 10) = dv y3 * 10 := wrap_in (by omega) (by omega)
      have D2 := v2 (by omega)
      have B2 := dv_bd D2
      have E2 := dg_iff.1 D2
      have u2 : wrapI .u8 ((y5.toNat : Int) - 48) = dv y5 := by rw [wrap8 (by omega) (by omega)]; rfl
      have U2 : wrapI .i64 (dv y5) = dv y5 := wrap_in (by omega) (by omega)
      have T2 : wrapI .i64 (dv y5 * 10) = dv y5 * 10 := wrap_in (by omega) (by omega)
      have D3 := v3 (by omega)
      have B3 := dv_bd D3
      have E3 := dg_iff.1 D3
      have u3 : wrapI .u8 ((y6.toNat : Int) - 48) = dv y6 := by rw [wrap8 (by omega) (by omega)]; rfl
      have U3 : wrapI .i64 (dv y6) = dv y6 := wrap_in (by omega) (by omega)
      have T3 : wrapI .i64 (dv y6 * 10) = dv y6 * 10 := wrap_in (by omega) (by omega)
      have := rgood ((bl s).take i) y2 y3 y5 y6 ⟨hll, t3, by simp; omega, by simp; omega, fun q => hld ⟨by have := q.1; simp at this; omega, by have := q.2; rw [List.head?_eq_getElem?, List.getElem?_take_of_lt (by omega), hx0] at this; simp only [Option.some.injEq] at this; rw [this]; rfl⟩, D0, D1, D2, D3⟩
      subst this
      unfold finV
      rw [hn]
      obtain ⟨H, hH⟩ : ∃ H, dv y2 * 10 + dv y3 = H := ⟨_, rfl⟩
      obtain ⟨M, hM⟩ : ∃ M, dv y5 * 10 + dv y6 = M := ⟨_, rfl⟩
      rw [show 10 * dv y2 + dv y3 = H by omega, show 10 * dv y5 + dv y6 = M by omega]
      have W1 : wrapI .i64 (n * 1440) = n * 1440 := wrap_in (by omega) (by omega)
      have W2 : wrapI .i64 (H * 60) = H * 60 := wrap_in (by omega) (by omega)
      have W3 : wrapI .i64 (n * 1440 + H * 60) = n * 1440 + H * 60 := wrap_in (by omega) (by omega)
      have W4 : wrapI .i64 (n * 1440 + H * 60 + M) = n * 1440 + H * 60 + M := wrap_in (by omega) (by omega)
      have W5 : wrapI .i64 H = H := wrap_in (by omega) (by omega)
      have W6 : wrapI .i64 M = M := wrap_in (by omega) (by omega)
      have hI := rinstant_pure (n * 1440 + H * 60 + M)
      by_cases c10 : 23 < H
      · rw [if_pos (.inl c10)]
        ((try simp -implicitDefEqProofs [-loopQ_n, parT, c10, r0, s0, r1, s1, r2, s2, r3, s3, r4, s4, r5, s5, r6, s6, w7, w1, w2, w3, w4, w5, w6, z1, z2, z3, z4, z5, z6, tn1, tn2, tn3, tn4, tn5, tn6, u0, u1, u2, u3, U0, U1, U2, U3, T0, T2, hH, hM, W5, W6]) <;> (repeat' (first | (refine condD_dec ?_ ?_ <;> (intro hc; (try simp -implicitDefEqProofs [-loopQ_n, hc, parT, c10, r0, s0, r1, s1, r2, s2, r3, s3, r4, s4, r5, s5, r6, s6, w7, w1, w2, w3, w4, w5, w6, z1, z2, z3, z4, z5, z6, tn1, tn2, tn3, tn4, tn5, tn6, u0, u1, u2, u3, U0, U1, U2, U3, T0, T2, hH, hM, W5, W6]))) | (refine guardD_dec ?_ ?_ <;> (intro hc; (try simp -implicitDefEqProofs [-loopQ_n, hc, parT, c10, r0, s0, r1, s1, r2, s2, r3, s3, r4, s4, r5, s5, r6, s6, w7, w1, w2, w3, w4, w5, w6, z1, z2, z3, z4, z5, z6, tn1, tn2, tn3, tn4, tn5, tn6, u0, u1, u2, u3, U0, U1, U2, U3, T0, T2, hH, hM, W5, W6]))) | (refine condD_intro ?_ ?_ <;> (intro hd; have hc := hd; (try simp at hc) <;> (try simp -implicitDefEqProofs [-loopQ_n, hd, hc, parT, c10, r0, s0, r1, s1, r2, s2, r3, s3, r4, s4, r5, s5, r6, s6, w7, w1, w2, w3, w4, w5, w6, z1, z2, z3, z4, z5, z6, tn1, tn2, tn3, tn4, tn5, tn6, u0, u1, u2, u3, U0, U1, U2, U3, T0, T2, hH, hM, W5, W6]))) | (refine guardD_intro ?_ ?_ <;> (intro hd; have hc := hd; (try simp at hc) <;> (try simp -implicitDefEqProofs [-loopQ_n, hd, hc, parT, c10, r0, s0, r1, s1, r2, s2, r3, s3, r4, s4, r5, s5, r6, s6, w7, w1, w2, w3, w4, w5, w6, z1, z2, z3, z4, z5, z6, tn1, tn2, tn3, tn4, tn5, tn6, u0, u1, u2, u3, U0, U1, U2, U3, T0, T2, hH, hM, W5, W6]))) | (refine ldD_ep ?_ ?_; (focus kernel_rfl); (try simp -implicitDefEqProofs [-loopQ_n, parT, c10, r0, s0, r1, s1, r2, s2, r3, s3, r4, s4, r5, s5, r6, s6, w7, w1, w2, w3, w4, w5, w6, z1, z2, z3, z4, z5, z6, tn1, tn2, tn3, tn4, tn5, tn6, u0, u1, u2, u3, U0, U1, U2, U3, T0, T2, hH, hM, W5, W6])))))
      by_cases c11 : 59 < M
      · rw [if_pos (.inr c11)]
        ((try simp -implicitDefEqProofs [-loopQ_n, parT, c10, c11, r0, s0, r1, s1, r2, s2, r3, s3, r4, s4, r5, s5, r6, s6, w7, w1, w2, w3, w4, w5, w6, z1, z2, z3, z4, z5, z6, tn1, tn2, tn3, tn4, tn5, tn6, u0, u1, u2, u3, U0, U1, U2, U3, T0, T2, hH, hM, W5, W6]) <;> (repeat' (first | (refine condD_dec ?_ ?_ <;> (intro hc; (try simp -implicitDefEqProofs [-loopQ_n, hc, parT, c10, c11, r0, s0, r1, s1, r2, s2, r3, s3, r4, s4, r5, s5, r6, s6, w7, w1, w2, w3, w4, w5, w6, z1, z2, z3, z4, z5, z6, tn1, tn2, tn3, tn4, tn5, tn6, u0, u1, u2, u3, U0, U1, U2, U3, T0, T2, hH, hM, W5, W6]))) | (refine guardD_dec ?_ ?_ <;> (intro hc; (try simp -implicitDefEqProofs [-loopQ_n, hc, parT, c10, c11, r0, s0, r1, s1, r2, s2, r3, s3, r4, s4, r5, s5, r6, s6, w7, w1, w2, w3, w4, w5, w6, z1, z2, z3, z4, z5, z6, tn1, tn2, tn3, tn4, tn5, tn6, u0, u1, u2, u3, U0, U1, U2, U3, T0, T2, hH, hM, W5, W6]))) | (refine condD_intro ?_ ?_ <;> (intro hd; have hc := hd; (try simp at hc) <;> (try simp -implicitDefEqProofs [-loopQ_n, hd, hc, parT, c10, c11, r0, s0, r1, s1, r2, s2, r3, s3, r4, s4, r5, s5, r6, s6, w7, w1, w2, w3, w4, w5, w6, z1, z2, z3, z4, z5, z6, tn1, tn2, tn3, tn4, tn5, tn6, u0, u1, u2, u3, U0, U1, U2, U3, T0, T2, hH, hM, W5, W6]))) | (refine guardD_intro ?_ ?_ <;> (intro hd; have hc := hd; (try simp at hc) <;> (try simp -implicitDefEqProofs [-loopQ_n, hd, hc, parT, c10, c11, r0, s0, r1, s1, r2, s2, r3, s3, r4, s4, r5, s5, r6, s6, w7, w1, w2, w3, w4, w5, w6, z1, z2, z3, z4, z5, z6, tn1, tn2, tn3, tn4, tn5, tn6, u0, u1, u2, u3, U0, U1, U2, U3, T0, T2, hH, hM, W5, W6]))) | (refine ldD_ep ?_ ?_; (focus kernel_rfl); (try simp -implicitDefEqProofs [-loopQ_n, parT, c10, c11, r0, s0, r1, s1, r2, s2, r3, s3, r4, s4, r5, s5, r6, s6, w7, w1, w2, w3, w4, w5, w6, z1, z2, z3, z4, z5, z6, tn1, tn2, tn3, tn4, tn5, tn6, u0, u1, u2, u3, U0, U1, U2, U3, T0, T2, hH, hM, W5, W6])))))
      rw [if_neg (by omega)]
      generalize hT : n * 1440 + H * 60 + M = T at *
      cases hv : inst T with
      | true =>
        rw [hv] at hI
        ((try simp -implicitDefEqProofs [-loopQ_n, parT, c10, c11, r0, s0, r1, s1, r2, s2, r3, s3, r4, s4, r5, s5, r6, s6, w7, w1, w2, w3, w4, w5, w6, z1, z2, z3, z4, z5, z6, tn1, tn2, tn3, tn4, tn5, tn6, u0, u1, u2, u3, U0, U1, U2, U3, T0, T2, hH, hM, W5, W6, W1, W2, W3, hT, W4]) <;> (repeat' (first | (refine condD_dec ?_ ?_ <;> (intro hc; (try simp -implicitDefEqProofs [-loopQ_n, hc, parT, c10, c11, r0, s0, r1, s1, r2, s2, r3, s3, r4, s4, r5, s5, r6, s6, w7, w1, w2, w3, w4, w5, w6, z1, z2, z3, z4, z5, z6, tn1, tn2, tn3, tn4, tn5, tn6, u0, u1, u2, u3, U0, U1, U2, U3, T0, T2, hH, hM, W5, W6, W1, W2, W3, hT, W4]))) | (refine guardD_dec ?_ ?_ <;> (intro hc; (try simp -implicitDefEqProofs [-loopQ_n, hc, parT, c10, c11, r0, s0, r1, s1, r2, s2, r3, s3, r4, s4, r5, s5, r6, s6, w7, w1, w2, w3, w4, w5, w6, z1, z2, z3, z4, z5, z6, tn1, tn2, tn3, tn4, tn5, tn6, u0, u1, u2, u3, U0, U1, U2, U3, T0, T2, hH, hM, W5, W6, W1, W2, W3, hT, W4]))) | (refine condD_intro ?_ ?_ <;> (intro hd; have hc := hd; (try simp at hc) <;> (try simp -implicitDefEqProofs [-loopQ_n, hd, hc, parT, c10, c11, r0, s0, r1, s1, r2, s2, r3, s3, r4, s4, r5, s5, r6, s6, w7, w1, w2, w3, w4, w5, w6, z1, z2, z3, z4, z5, z6, tn1, tn2, tn3, tn4, tn5, tn6, u0, u1, u2, u3, U0, U1, U2, U3, T0, T2, hH, hM, W5, W6, W1, W2, W3, hT, W4]))) | (refine guardD_intro ?_ ?_ <;> (intro hd; have hc := hd; (try simp at hc) <;> (try simp -implicitDefEqProofs [-loopQ_n, hd, hc, parT, c10, c11, r0, s0, r1, s1, r2, s2, r3, s3, r4, s4, r5, s5, r6, s6, w7, w1, w2, w3, w4, w5, w6, z1, z2, z3, z4, z5, z6, tn1, tn2, tn3, tn4, tn5, tn6, u0, u1, u2, u3, U0, U1, U2, U3, T0, T2, hH, hM, W5, W6, W1, W2, W3, hT, W4]))) | (refine ldD_ep ?_ ?_; (focus kernel_rfl); (try simp -implicitDefEqProofs [-loopQ_n, parT, c10, c11, r0, s0, r1, s1, r2, s2, r3, s3, r4, s4, r5, s5, r6, s6, w7, w1, w2, w3, w4, w5, w6, z1, z2, z3, z4, z5, z6, tn1, tn2, tn3, tn4, tn5, tn6, u0, u1, u2, u3, U0, U1, U2, U3, T0, T2, hH, hM, W5, W6, W1, W2, W3, hT, W4])) | (refine callS_mk ?_; (try simp -implicitDefEqProofs [-loopQ_n, parT, c10, c11, r0, s0, r1, s1, r2, s2, r3, s3, r4, s4, r5, s5, r6, s6, w7, w1, w2, w3, w4, w5, w6, z1, z2, z3, z4, z5, z6, tn1, tn2, tn3, tn4, tn5, tn6, u0, u1, u2, u3, U0, U1, U2, U3, T0, T2, hH, hM, W5, W6, W1, W2, W3, hT, W4]); (first | refine callS_intro (hI) (.inl rfl) ?_); (try simp -implicitDefEqProofs [-loopQ_n, parT, c10, c11, r0, s0, r1, s1, r2, s2, r3, s3, r4, s4, r5, s5, r6, s6, w7, w1, w2, w3, w4, w5, w6, z1, z2, z3, z4, z5, z6, tn1, tn2, tn3, tn4, tn5, tn6, u0, u1, u2, u3, U0, U1, U2, U3, T0, T2, hH, hM, W5, W6, W1, W2, W3, hT, W4])))))
      | false =>
        rw [hv] at hI
        ((try simp -implicitDefEqProofs [-loopQ_n, parT, c10, c11, r0, s0, r1, s1, r2, s2, r3, s3, r4, s4, r5, s5, r6, s6, w7, w1, w2, w3, w4, w5, w6, z1, z2, z3, z4, z5, z6, tn1, tn2, tn3, tn4, tn5, tn6, u0, u1, u2, u3, U0, U1, U2, U3, T0, T2, hH, hM, W5, W6, W1, W2, W3, hT, W4]) <;> (repeat' (first | (refine condD_dec ?_ ?_ <;> (intro hc; (try simp -implicitDefEqProofs [-loopQ_n, hc, parT, c10, c11, r0, s0, r1, s1, r2, s2, r3, s3, r4, s4, r5, s5, r6, s6, w7, w1, w2, w3, w4, w5, w6, z1, z2, z3, z4, z5, z6, tn1, tn2, tn3, tn4, tn5, tn6, u0, u1, u2, u3, U0, U1, U2, U3, T0, T2, hH, hM, W5, W6, W1, W2, W3, hT, W4]))) | (refine guardD_dec ?_ ?_ <;> (intro hc; (try simp -implicitDefEqProofs [-loopQ_n, hc, parT, c10, c11, r0, s0, r1, s1, r2, s2, r3, s3, r4, s4, r5, s5, r6, s6, w7, w1, w2, w3, w4, w5, w6, z1, z2, z3, z4, z5, z6, tn1, tn2, tn3, tn4, tn5, tn6, u0, u1, u2, u3, U0, U1, U2, U3, T0, T2, hH, hM, W5, W6, W1, W2, W3, hT, W4]))) | (refine condD_intro ?_ ?_ <;> (intro hd; have hc := hd; (try simp at hc) <;> (try simp -implicitDefEqProofs [-loopQ_n, hd, hc, parT, c10, c11, r0, s0, r1, s1, r2, s2, r3, s3, r4, s4, r5, s5, r6, s6, w7, w1, w2, w3, w4, w5, w6, z1, z2, z3, z4, z5, z6, tn1, tn2, tn3, tn4, tn5, tn6, u0, u1, u2, u3, U0, U1, U2, U3, T0, T2, hH, hM, W5, W6, W1, W2, W3, hT, W4]))) | (refine guardD_intro ?_ ?_ <;> (intro hd; have hc := hd; (try simp at hc) <;> (try simp -implicitDefEqProofs [-loopQ_n, hd, hc, parT, c10, c11, r0, s0, r1, s1, r2, s2, r3, s3, r4, s4, r5, s5, r6, s6, w7, w1, w2, w3, w4, w5, w6, z1, z2, z3, z4, z5, z6, tn1, tn2, tn3, tn4, tn5, tn6, u0, u1, u2, u3, U0, U1, U2, U3, T0, T2, hH, hM, W5, W6, W1, W2, W3, hT, W4]))) | (refine ldD_ep ?_ ?_; (focus kernel_rfl); (try simp -implicitDefEqProofs [-loopQ_n, parT, c10, c11, r0, s0, r1, s1, r2, s2, r3, s3, r4, s4, r5, s5, r6, s6, w7, w1, w2, w3, w4, w5, w6, z1, z2, z3, z4, z5, z6, tn1, tn2, tn3, tn4, tn5, tn6, u0, u1, u2, u3, U0, U1, U2, U3, T0, T2, hH, hM, W5, W6, W1, W2, W3, hT, W4])) | (refine callS_mk ?_; (try simp -implicitDefEqProofs [-loopQ_n, parT, c10, c11, r0, s0, r1, s1, r2, s2, r3, s3, r4, s4, r5, s5, r6, s6, w7, w1, w2, w3, w4, w5, w6, z1, z2, z3, z4, z5, z6, tn1, tn2, tn3, tn4, tn5, tn6, u0, u1, u2, u3, U0, U1, U2, U3, T0, T2, hH, hM, W5, W6, W1, W2, W3, hT, W4]); (first | refine callS_intro (hI) (.inl rfl) ?_); (try simp -implicitDefEqProofs [-loopQ_n, parT, c10, c11, r0, s0, r1, s1, r2, s2, r3, s3, r4, s4, r5, s5, r6, s6, w7, w1, w2, w3, w4, w5, w6, z1, z2, z3, z4, z5, z6, tn1, tn2, tn3, tn4, tn5, tn6, u0, u1, u2, u3, U0, U1, U2, U3, T0, T2, hH, hM, W5, W6, W1, W2, W3, hT, W4])))))
end Go.Proofs.YtlnnboegghjdhaaDoor
