/- What the law ObjectsParts needs beside: copies and Delete of events, IsSorted, Equal, ContainsFunc at lists of numbers. -/
import Derived.Test.YtdkcmfafganhhaaDoorObD
import Derived.Test.YtdkcmfafganhhaaDoorObj15
import Derived.Test.YtdkcmfafganhhaaDoorGrD
import Derived.Test.YtdkcmfafganhhaaDoorAbFrz
import Derived.Test.YtdkcmfafganhhaaDoorAbMv
namespace Go.Proofs.YtdkcmfafganhhaaDoor
set_option linter.unusedSimpArgs false
set_option linter.unusedVariables false
set_option linter.unnecessarySimpa false
set_option linter.unusedSectionVars false
open Go.RowKit
variable [Glob]
set_option maxRecDepth 100000
theorem obj_all {l : List Obj} : allLen 3 (rowsOf objC l) = true := rowsOf_allLen fun x => rfl
theorem obj_own : ∀ {l : List Obj}, ∀ r ∈ rowsOf objC l, ∀ c ∈ r, owns c = false := rowsOf_owns' fun s c hc => by simp [objC] at hc; rcases hc with rfl | rfl | rfl <;> rfl
theorem obj_mB {ρ : Nat → Nat} {t : TypeId} {nb : Bool} {l : List Obj} : mB ρ (.row t nb (rowsOf objC l)) = .row t nb (rowsOf objC l) := by
  simp only [mB, rowsOf, List.map_map]
  congr 1
/-- Only what the slots hold is forgotten. -/
def subT (T T' : List (Nat × AV)) : Prop := ∀ p ∈ T', tget T p.1 = p.2
theorem subT_get {T : List (Nat × AV)} : ∀ {T' : List (Nat × AV)}, subT T T' → ∀ k, tget T' k = .any ∨ tget T k = tget T' k := by
  intro T'
  induction T' with
  | nil => intro _ k; exact .inl rfl
  | cons p r ih =>
    intro h k
    obtain ⟨j, v⟩ := p
    simp only [tget]
    by_cases e : j = k
    · rw [if_pos e]; subst e; exact .inr (h (j, v) (by simp))
    · rw [if_neg e]; exact ih (fun q hq => h q (by simp [hq])) k
theorem weak_slots {P : Program} {L : Nat} {T T' : List (Nat × AV)} {H : List Blk} (h : subT T T') : Weak P L ⟨T, H⟩ ⟨T', H⟩ := by
  intro B w0 X N φ a w hB hr
  refine ⟨φ, hr.hr, hr.tn, fun k => ?_, hr.size, hr.df⟩
  rcases subT_get h k with e | e
  · show RV _ _ _ _ _ (tget T' k) _
    rw [e]; exact .ro .any
  · have := hr.t k
    show RV _ _ _ _ _ (tget T' k) _
    rw [← e]; exact this
theorem intR_reify {H : List Blk} {n : Nat} {l : List Int} : (rowsOf intC l).mapM (fun row => row.mapM (reify H (n + 1))) = some (rowsOf intC l) := rowsOf_reify fun x => by simp [intC, reify]
theorem intR_refs {m : Nat} {l : List Int} : refsR m (rowsOf intC l) = true := rowsOf_refs fun x => by simp [intC, refs]
theorem eqI2_pure (a b : List Int) (ha : a.length ≤ 1000000) (hb : b.length ≤ 1000000) : Pure Tryd.prog 34 [.rs (rowsOf intC a), .rs (rowsOf intC b)] (.bool (decide (a = b))) := by
  by_cases hlen : a.length = b.length
  rotate_left
  · have hne : ¬ a = b := fun e => hlen (by rw [e])
    have hl2 : ¬ (a.length : Int) = b.length := by omega
    rw [decide_eq_false hne]
    refine pure_of mixed Tryd.func34 rfl (by kernel_rfl) (of_decide_eq_true rfl) (by kernel_rfl) (vc_run ?_)
    ((try simp -implicitDefEqProofs [-loopQ_n, hl2]) <;> (repeat' (first | (refine condD_dec ?_ ?_ <;> (intro hc; (try simp -implicitDefEqProofs [-loopQ_n, hc, hl2]))) | (refine guardD_dec ?_ ?_ <;> (intro hc; (try simp -implicitDefEqProofs [-loopQ_n, hc, hl2]))) | (refine condD_intro ?_ ?_ <;> (intro hd; have hc := hd; (try simp at hc) <;> (try simp -implicitDefEqProofs [-loopQ_n, hd, hc, hl2]))) | (refine guardD_intro ?_ ?_ <;> (intro hd; have hc := hd; (try simp at hc) <;> (try simp -implicitDefEqProofs [-loopQ_n, hd, hc, hl2]))) | (refine ldD_ep ?_ ?_; (focus kernel_rfl); (try simp -implicitDefEqProofs [-loopQ_n, hl2])))))
  have hl2 : (a.length : Int) = b.length := by omega
  refine pure_of mixed Tryd.func34 rfl (by kernel_rfl) (of_decide_eq_true rfl) (by kernel_rfl) (vc_run ?_)
  ((try simp -implicitDefEqProofs [-loopQ_n, hl2]) <;> (repeat' (first | (refine condD_dec ?_ ?_ <;> (intro hc; (try simp -implicitDefEqProofs [-loopQ_n, hc, hl2]))) | (refine guardD_dec ?_ ?_ <;> (intro hc; (try simp -implicitDefEqProofs [-loopQ_n, hc, hl2]))) | (refine condD_intro ?_ ?_ <;> (intro hd; have hc := hd; (try simp at hc) <;> (try simp -implicitDefEqProofs [-loopQ_n, hd, hc, hl2]))) | (refine guardD_intro ?_ ?_ <;> (intro hd; have hc := hd; (try simp at hc) <;> (try simp -implicitDefEqProofs [-loopQ_n, hd, hc, hl2]))) | (refine ldD_ep ?_ ?_; (focus kernel_rfl); (try simp -implicitDefEqProofs [-loopQ_n, hl2])))))
  refine loop_intro (σ := Nat) (fun i => ⟨[(0, .rs (rowsOf intC a)), (1, .rs (rowsOf intC b)), (12, .int .i64 b.length), (13, .int .i64 i)], []⟩) (fun i => i ≤ b.length ∧ a.take i = b.take i) (fun i => b.length - i) 0 (by simp) ?_ ?_
  · refine weak_of 0 0 rfl rfl ?_ ?_ <;> simp [intR_refs, hl2]
  rintro i ⟨hi, ht⟩
  by_cases h : i < b.length
  · have h2 : i < a.length := by omega
    have w1 : wrapI .i64 ((i : Int) + 1) = ((i + 1 : Nat) : Int) := by rw [wrap_in (by omega) (by omega)]; omega
    have hts : a[i] = b[i] → a.take (i + 1) = b.take (i + 1) := fun e => by rw [List.take_succ_eq_append_getElem h, List.take_succ_eq_append_getElem h2, ht, e]
    have hne : a[i] ≠ b[i] → a ≠ b := fun e q => e (by subst q; rfl)
    obtain ⟨x, hx⟩ : ∃ x, a[i] = x := ⟨_, rfl⟩
    obtain ⟨y, hy⟩ : ∃ y, b[i] = y := ⟨_, rfl⟩
    rw [hx, hy] at hts hne
    by_cases c1 : x = y
    · subst c1
      ((try simp -implicitDefEqProofs [-loopQ_n, h, h2, hx, hy, intC, w1]) <;> (repeat' (first | (refine condD_dec ?_ ?_ <;> (intro hc; (try simp -implicitDefEqProofs [-loopQ_n, hc, h, h2, hx, hy, intC, w1]))) | (refine guardD_dec ?_ ?_ <;> (intro hc; (try simp -implicitDefEqProofs [-loopQ_n, hc, h, h2, hx, hy, intC, w1]))) | (refine condD_intro ?_ ?_ <;> (intro hd; have hc := hd; (try simp at hc) <;> (try simp -implicitDefEqProofs [-loopQ_n, hd, hc, h, h2, hx, hy, intC, w1]))) | (refine guardD_intro ?_ ?_ <;> (intro hd; have hc := hd; (try simp at hc) <;> (try simp -implicitDefEqProofs [-loopQ_n, hd, hc, h, h2, hx, hy, intC, w1]))) | (refine ldD_ep ?_ ?_; (focus kernel_rfl); (try simp -implicitDefEqProofs [-loopQ_n, h, h2, hx, hy, intC, w1])))))
      refine loop_next (i + 1) ⟨h, hts rfl⟩ (by omega) (weak_of 0 0 rfl rfl ?_ ?_) <;> simp [intR_refs]
    · rw [decide_eq_false (hne c1)]
      ((try simp -implicitDefEqProofs [-loopQ_n, h, h2, hx, hy, intC, w1, c1]) <;> (repeat' (first | (refine condD_dec ?_ ?_ <;> (intro hc; (try simp -implicitDefEqProofs [-loopQ_n, hc, h, h2, hx, hy, intC, w1, c1]))) | (refine guardD_dec ?_ ?_ <;> (intro hc; (try simp -implicitDefEqProofs [-loopQ_n, hc, h, h2, hx, hy, intC, w1, c1]))) | (refine condD_intro ?_ ?_ <;> (intro hd; have hc := hd; (try simp at hc) <;> (try simp -implicitDefEqProofs [-loopQ_n, hd, hc, h, h2, hx, hy, intC, w1, c1]))) | (refine guardD_intro ?_ ?_ <;> (intro hd; have hc := hd; (try simp at hc) <;> (try simp -implicitDefEqProofs [-loopQ_n, hd, hc, h, h2, hx, hy, intC, w1, c1]))) | (refine ldD_ep ?_ ?_; (focus kernel_rfl); (try simp -implicitDefEqProofs [-loopQ_n, h, h2, hx, hy, intC, w1, c1])))))
  · have : a = b := by rwa [List.take_of_length_le (by omega), List.take_of_length_le (by omega)] at ht
    rw [decide_eq_true this]
    ((try simp -implicitDefEqProofs [-loopQ_n, h]) <;> (repeat' (first | (refine condD_dec ?_ ?_ <;> (intro hc; (try simp -implicitDefEqProofs [-loopQ_n, hc, h]))) | (refine guardD_dec ?_ ?_ <;> (intro hc; (try simp -implicitDefEqProofs [-loopQ_n, hc, h]))) | (refine condD_intro ?_ ?_ <;> (intro hd; have hc := hd; (try simp at hc) <;> (try simp -implicitDefEqProofs [-loopQ_n, hd, hc, h]))) | (refine guardD_intro ?_ ?_ <;> (intro hd; have hc := hd; (try simp at hc) <;> (try simp -implicitDefEqProofs [-loopQ_n, hd, hc, h]))) | (refine ldD_ep ?_ ?_; (focus kernel_rfl); (try simp -implicitDefEqProofs [-loopQ_n, h])))))
theorem objV_at' {l : List Obj} (h : objV l = true) (i : Nat) (hi : i < l.length) : objOk l i l[i] = true := by
  simp only [objV, objsB, Bool.and_eq_true, List.all_eq_true, List.mem_range] at h
  have := h.2 i hi
  rwa [List.getElem?_eq_getElem hi] at this
theorem objOk_iff {l : List Obj} {i : Nat} {o : Obj} : objOk l i o = true ↔ isNameS o.act = true ∧ lastT l i ≤ o.time ∧ o.time ≤ 1099511627776 ∧ (o.refs.length : Int) ≤ 20 ∧ refsB o.refs = true := by
  simp [objOk, and_assoc]
/-- A valid log without one of its events is valid. -/
theorem objV_erase {l : List Obj} (h : objV l = true) (k : Nat) (hk : k < l.length) : objV (l.eraseIdx k) = true := by
  have hat := fun i hi => objOk_iff.1 (objV_at' h i hi)
  have hlen : (l.eraseIdx k).length = l.length - 1 := by rw [List.length_eraseIdx, if_pos hk]
  have hsm := (objV_small h).1
  have hnn : ∀ i (hi : i < l.length), 0 ≤ l[i].time := by
    intro i
    induction i with
    | zero => intro hi; have := (hat 0 hi).2.1; simpa [lastT] using this
    | succ i ih =>
      intro hi
      have h1 := (hat (i + 1) hi).2.1
      have h2 := ih (by omega)
      simp only [lastT, List.getElem?_eq_getElem (show i < l.length by omega)] at h1
      omega
  have hstep : ∀ i (hi : i + 1 < l.length), l[i].time ≤ l[i + 1].time := fun i hi => by
    have h1 := (hat (i + 1) hi).2.1
    simpa only [lastT, List.getElem?_eq_getElem (show i < l.length by omega)] using h1
  have hget : ∀ i, i < l.length - 1 → (l.eraseIdx k)[i]? = l[unN k i]? := fun i hi => by
    rw [List.getElem?_eraseIdx]
    unfold unN
    split <;> rfl
  have hall : objsOk (l.eraseIdx k) (l.eraseIdx k).length := fun i hi _ => by
    have hi' : i < l.length - 1 := by omega
    have hu := un_lt hk hi'
    have he : (l.eraseIdx k)[i] = l[unN k i] := by
      have := hget i hi'
      rw [List.getElem?_eq_getElem hi, List.getElem?_eq_getElem hu] at this
      exact Option.some.inj this
    obtain ⟨a1, a2, a3, a4, a5⟩ := hat _ hu
    rw [he]
    refine objOk_iff.2 ⟨a1, ?_, a3, a4, a5⟩
    cases i with
    | zero => exact hnn _ hu
    | succ i =>
      have hi2 : i < l.length - 1 := by omega
      have hu2 := un_lt hk hi2
      show (match (l.eraseIdx k)[i]? with | some o => o.time | none => 0) ≤ _
      rw [hget i hi2, List.getElem?_eq_getElem hu2]
      simp only
      by_cases q : i + 1 < k
      · have e1 : unN k i = i := by unfold unN; rw [if_pos (by omega)]
        have e2 : unN k (i + 1) = i + 1 := by unfold unN; rw [if_pos q]
        simp only [e1, e2]
        exact hstep i (by omega)
      · by_cases q2 : i + 1 = k
        · have e1 : unN k i = i := by unfold unN; rw [if_pos (by omega)]
          have e2 : unN k (i + 1) = i + 2 := by unfold unN; rw [if_neg (by omega)]
          simp only [e1, e2]
          exact Int.le_trans (hstep i (by omega)) (hstep (i + 1) (by omega))
        · have e1 : unN k i = i + 1 := by unfold unN; rw [if_neg (by omega)]
          have e2 : unN k (i + 1) = i + 2 := by unfold unN; rw [if_neg (by omega)]
          simp only [e1, e2]
          exact hstep (i + 1) (by omega)
  have hb := objsB_all (i := (l.eraseIdx k).length) hall (by omega)
  simp only [objV, hb, Bool.and_true, decide_eq_true_eq]
  omega
theorem share_up {l : List Obj} {k : Nat} (hk : k < l.length) (i j : Nat) (h : shareR (l.eraseIdx k) i j) : shareR l (unN k i) (unN k j) := by
  obtain ⟨a, b, h1, h2, h3⟩ := h
  have hget : ∀ i, (l.eraseIdx k)[i]? = l[unN k i]? := fun i => by
    rw [List.getElem?_eraseIdx]
    unfold unN
    split <;> rfl
  rw [hget] at h1 h2
  exact ⟨a, b, h1, h2, h3⟩
theorem share_down {l : List Obj} {k : Nat} (hk : k < l.length) (i j : Nat) (hi : i ≠ k) (hj : j ≠ k) (h : shareR l i j) : shareR (l.eraseIdx k) (shN k i) (shN k j) := by
  obtain ⟨a, b, h1, h2, h3⟩ := h
  have hget : ∀ i, (l.eraseIdx k)[i]? = l[unN k i]? := fun i => by
    rw [List.getElem?_eraseIdx]
    unfold unN
    split <;> rfl
  exact ⟨a, b, by rw [hget, un_sh hi]; exact h1, by rw [hget, un_sh hj]; exact h2, h3⟩
theorem nat_int {p : List Nat} : rowsOf natC p = rowsOf intC (nI p) := by
  unfold rowsOf nI
  rw [List.map_map]
  rfl
/-- The program's answer. -/
theorem comp_pure (l : List Obj) (hV : objV l = true) : ∃ p : List Nat, isParts (shareR l) l.length p ∧ Pure Tryd.prog 7 [.agg [.rs (rowsOf objC l)]] (.tup [.rs ((compR 0 (nI p) ([], [])).map fun l => [.rs (rowsOf intC l)]), .int .i64 0]) := by
  obtain ⟨p, hp, hP⟩ := oparts_pure l hV
  rw [nat_int] at hP
  exact ⟨p, hp, ocomp_pure l (nI p) hP hV (by have := (objV_small hV).1; simp [nI, hp.1]; omega)⟩
theorem comp_bad (l : List Obj) (hV : objV l = false) : Pure Tryd.prog 7 [.agg [.rs (rowsOf objC l)]] (.tup [.rs [], .int .i64 1]) := by
  refine pure_of mixed Tryd.func7 rfl (by kernel_rfl) (of_decide_eq_true rfl) (by kernel_rfl) (vc_run ?_)
  ((try simp -implicitDefEqProofs [-loopQ_n, hV]) <;> (repeat' (first | (refine condD_dec ?_ ?_ <;> (intro hc; (try simp -implicitDefEqProofs [-loopQ_n, hc, hV]))) | (refine guardD_dec ?_ ?_ <;> (intro hc; (try simp -implicitDefEqProofs [-loopQ_n, hc, hV]))) | (refine condD_intro ?_ ?_ <;> (intro hd; have hc := hd; (try simp at hc) <;> (try simp -implicitDefEqProofs [-loopQ_n, hd, hc, hV]))) | (refine guardD_intro ?_ ?_ <;> (intro hd; have hc := hd; (try simp at hc) <;> (try simp -implicitDefEqProofs [-loopQ_n, hd, hc, hV]))) | (refine ldD_ep ?_ ?_; (focus kernel_rfl); (try simp -implicitDefEqProofs [-loopQ_n, hV])) | (refine callS_mk ?_; (try simp -implicitDefEqProofs [-loopQ_n, hV]); (first | refine callS_intro (ovalid_pure l) (.inl rfl) ?_); (try simp -implicitDefEqProofs [-loopQ_n, hV])))))
end Go.Proofs.YtdkcmfafganhhaaDoor
