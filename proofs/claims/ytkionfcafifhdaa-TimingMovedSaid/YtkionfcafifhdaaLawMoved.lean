/- Times between activities do not change if the log is shifted, or other cases are left out (the law TimingMoved holds for every input; no condition). -/
import Derived.Test.YtkionfcafifhdaaRows
import Derived.Test.YtkionfcafifhdaaMovP
import Derived.Test.YtkionfcafifhdaaSortI
import Derived.Test.YtkionfcafifhdaaAbFrz
import Derived.Test.YtkionfcafifhdaaDecL
import Derived.Test.YtkionfcafifhdaaEl1
namespace Go.Proofs.Ytkionfcafifhdaa.lawMoved
set_option linter.unusedSimpArgs false
set_option linter.unusedVariables false
set_option linter.unnecessarySimpa false
set_option linter.unusedSectionVars false
open Go.ChangeShapes Go.WideShapes Go.ChangeAt Go.RowKit Go.Joins Go.Deep
section
variable [Glob]
set_option maxRecDepth 100000
theorem awake_pure : Pure Try.prog 4 [] (.bool true) := exF_pure (m := 4096) (n := 20) mixed noHook (by kernel_rfl)
theorem mvI_idx {p : Int → Bool} {l : List Int} {g : Nat} {caps : List AV} (hp : ∀ x ∈ l, Pure Try.prog g (.int .i64 x :: caps) (.bool (p x))) (hc : ∀ H k, caps.mapM (reify H (k + 5)) = some caps) (hf : refsL 0 caps = true) (hl : l.length ≤ 9223372036854775807) :
    Pure Try.prog 26 [.rs (rowsOf intC l), .fn g caps] (.int .i64 (idxOf p l)) := by
  refine pure_of mixed Try.func26 rfl (by kernel_rfl) (of_decide_eq_true rfl) (by kernel_rfl) (vc_run ?_)
  simp -implicitDefEqProofs
  refine loop_intro (σ := Nat) (fun i => ⟨[(0, .rs (rowsOf intC l)), (1, .fn g caps), (7, .int .i64 l.length), (8, .int .i64 i)], []⟩) (fun i => i ≤ l.length ∧ allF p (l.take i)) (fun i => l.length - i) 0 ⟨Nat.zero_le _, allF_nil⟩ ?_ ?_
  · refine weak_of 0 0 rfl rfl ?_ ?_ <;> simp [hf]
  · rintro i ⟨hi, hall⟩
    by_cases h : i < l.length
    · simp -implicitDefEqProofs [h, intC]
      have hc8 : ∀ H, caps.mapM (reify H 8) = some caps := fun H => hc H 3
      refine call_intro (hp l[i] (by simp)) (by simp -implicitDefEqProofs [hc8, intC]) (.inl rfl) ?_
      by_cases hpx : p l[i] = true
      · simp -implicitDefEqProofs [hpx]
        exact (idxOf_some p l i h hall hpx).symm
      · have hpx : p l[i] = false := by simpa using hpx
        simp -implicitDefEqProofs [hpx]
        refine ⟨i + 1, ⟨by omega, allF_succ hall h hpx⟩, by omega, weak_of 0 0 rfl rfl ?_ ?_⟩
        · simp [hf]
          exact (wrap_in (by omega) (by omega)).symm
        · simp
    · simp -implicitDefEqProofs [h]
      rw [idxOf_none p l (allF_all hall h)]
theorem mvI_any {p : Int → Bool} {l : List Int} {g : Nat} {caps : List AV} (hp : ∀ x ∈ l, Pure Try.prog g (.int .i64 x :: caps) (.bool (p x))) (hc : ∀ H k, caps.mapM (reify H (k + 5)) = some caps) (hf : refsL 0 caps = true) (hl : l.length ≤ 9223372036854775807) :
    Pure Try.prog 7 [.rs (rowsOf intC l), .fn g caps] (.bool (l.any p)) := by
  refine pure_of mixed Try.func7 rfl (by kernel_rfl) (of_decide_eq_true rfl) (by kernel_rfl) (vc_run ?_)
  simp -implicitDefEqProofs
  have hc7 : ∀ H, caps.mapM (reify H 7) = some caps := fun H => hc H 2
  refine call_intro (mvI_idx hp hc hf hl) (by simp -implicitDefEqProofs [hc7]) (.inl rfl) ?_
  simp -implicitDefEqProofs
  rw [← ge_idxOf]

theorem mov1_pure (n : Int) : Pure Try.prog 8 [.int .i64 n] (.bool (decide (n < 0))) := by
  refine pure_of mixed Try.func8 rfl (by kernel_rfl) (of_decide_eq_true rfl) (by kernel_rfl) (vc_run ?_)
  ((try simp -implicitDefEqProofs [-loopQ_n]) <;> (repeat' (first | (refine condD_dec ?_ ?_ <;> (intro hc; (try simp -implicitDefEqProofs [-loopQ_n, hc]))) | (refine guardD_dec ?_ ?_ <;> (intro hc; (try simp -implicitDefEqProofs [-loopQ_n, hc]))) | (refine condD_intro ?_ ?_ <;> (intro hd; have hc := hd; (try simp at hc) <;> (try simp -implicitDefEqProofs [-loopQ_n, hd, hc]))) | (refine guardD_intro ?_ ?_ <;> (intro hd; have hc := hd; (try simp at hc) <;> (try simp -implicitDefEqProofs [-loopQ_n, hd, hc]))) | (refine ldD_ep ?_ ?_; (focus kernel_rfl); (try simp -implicitDefEqProofs [-loopQ_n])))))
theorem ecases_pure (l : List Evt) (hl : l.length ≤ 2000) (hsz : ∀ e ∈ l, e.case_.size ≤ maxLen) (hV : logV l = true) : Pure Try.prog 11 [.agg [.rs (rowsOf evtC l)]] (.tup [.rs (rowsOf strC (casesL l)), .int .i64 0]) := by
  refine pure_of mixed Try.func11 rfl (by kernel_rfl) (of_decide_eq_true rfl) (by kernel_rfl) (vc_run ?_)
  ((try simp -implicitDefEqProofs [-loopQ_n, hV]) <;> (repeat' (first | (refine condD_dec ?_ ?_ <;> (intro hc; (try simp -implicitDefEqProofs [-loopQ_n, hc, hV]))) | (refine guardD_dec ?_ ?_ <;> (intro hc; (try simp -implicitDefEqProofs [-loopQ_n, hc, hV]))) | (refine condD_intro ?_ ?_ <;> (intro hd; have hc := hd; (try simp at hc) <;> (try simp -implicitDefEqProofs [-loopQ_n, hd, hc, hV]))) | (refine guardD_intro ?_ ?_ <;> (intro hd; have hc := hd; (try simp at hc) <;> (try simp -implicitDefEqProofs [-loopQ_n, hd, hc, hV]))) | (refine ldD_ep ?_ ?_; (focus kernel_rfl); (try simp -implicitDefEqProofs [-loopQ_n, hV])) | (refine callS_mk ?_; (try simp -implicitDefEqProofs [-loopQ_n, hV]); (first | refine callS_intro (log_pure _) (.inl rfl) ?_ | refine callS_intro (cases_pure l hl hsz) (.inr ⟨rfl, rfl⟩) ?_); (try simp -implicitDefEqProofs [-loopQ_n, hV])))))
theorem mi_reify {H : List Blk} {n : Nat} {l : List Int} : (rowsOf intC l).mapM (fun row => row.mapM (reify H (n + 1))) = some (rowsOf intC l) := rowsOf_reify fun x => by simp [intC, reify]
theorem mi_refs {m : Nat} {l : List Int} : refsR m (rowsOf intC l) = true := rowsOf_refs fun x => by simp [intC, refs]
theorem eqI_self (a : List Int) (ha : a.length ≤ 9223372036854775807) : Pure Try.prog 10 [.rs (rowsOf intC a), .rs (rowsOf intC a)] (.bool true) := by
  refine pure_of mixed Try.func10 rfl (by kernel_rfl) (of_decide_eq_true rfl) (by kernel_rfl) (vc_run ?_)
  ((try simp -implicitDefEqProofs [-loopQ_n]) <;> (repeat' (first | (refine condD_dec ?_ ?_ <;> (intro hc; (try simp -implicitDefEqProofs [-loopQ_n, hc]))) | (refine guardD_dec ?_ ?_ <;> (intro hc; (try simp -implicitDefEqProofs [-loopQ_n, hc]))) | (refine condD_intro ?_ ?_ <;> (intro hd; have hc := hd; (try simp at hc) <;> (try simp -implicitDefEqProofs [-loopQ_n, hd, hc]))) | (refine guardD_intro ?_ ?_ <;> (intro hd; have hc := hd; (try simp at hc) <;> (try simp -implicitDefEqProofs [-loopQ_n, hd, hc]))) | (refine ldD_ep ?_ ?_; (focus kernel_rfl); (try simp -implicitDefEqProofs [-loopQ_n])))))
  refine loop_intro (σ := Nat) (fun i => ⟨[(0, .rs (rowsOf intC a)), (1, .rs (rowsOf intC a)), (12, .int .i64 a.length), (13, .int .i64 i)], []⟩) (fun i => i ≤ a.length) (fun i => a.length - i) 0 (by simp) ?_ ?_
  · refine weak_of 0 0 rfl rfl ?_ ?_ <;> simp [mi_refs]
  intro i hi
  by_cases h : i < a.length
  · have w1 : wrapI .i64 ((i : Int) + 1) = ((i + 1 : Nat) : Int) := by rw [wrap_in (by omega) (by omega)]; omega
    ((try simp -implicitDefEqProofs [-loopQ_n, h, intC, w1]) <;> (repeat' (first | (refine condD_dec ?_ ?_ <;> (intro hc; (try simp -implicitDefEqProofs [-loopQ_n, hc, h, intC, w1]))) | (refine guardD_dec ?_ ?_ <;> (intro hc; (try simp -implicitDefEqProofs [-loopQ_n, hc, h, intC, w1]))) | (refine condD_intro ?_ ?_ <;> (intro hd; have hc := hd; (try simp at hc) <;> (try simp -implicitDefEqProofs [-loopQ_n, hd, hc, h, intC, w1]))) | (refine guardD_intro ?_ ?_ <;> (intro hd; have hc := hd; (try simp at hc) <;> (try simp -implicitDefEqProofs [-loopQ_n, hd, hc, h, intC, w1]))) | (refine ldD_ep ?_ ?_; (focus kernel_rfl); (try simp -implicitDefEqProofs [-loopQ_n, h, intC, w1])))))
    refine loop_next (i + 1) h (by omega) (weak_of 0 0 rfl rfl ?_ ?_) <;> simp [mi_refs]
  · ((try simp -implicitDefEqProofs [-loopQ_n, h]) <;> (repeat' (first | (refine condD_dec ?_ ?_ <;> (intro hc; (try simp -implicitDefEqProofs [-loopQ_n, hc, h]))) | (refine guardD_dec ?_ ?_ <;> (intro hc; (try simp -implicitDefEqProofs [-loopQ_n, hc, h]))) | (refine condD_intro ?_ ?_ <;> (intro hd; have hc := hd; (try simp at hc) <;> (try simp -implicitDefEqProofs [-loopQ_n, hd, hc, h]))) | (refine guardD_intro ?_ ?_ <;> (intro hd; have hc := hd; (try simp at hc) <;> (try simp -implicitDefEqProofs [-loopQ_n, hd, hc, h]))) | (refine ldD_ep ?_ ?_; (focus kernel_rfl); (try simp -implicitDefEqProofs [-loopQ_n, h])))))
set_option maxHeartbeats 16000000 in
theorem main (l : List Evt) (a b : ByteArray) (k : Int) (ll : l.length ≤ maxLen) (ld : ∀ e ∈ l, e.data.length ≤ maxLen) : Pure Try.prog 3 [.agg [.rs (rowsOf evtC l)], .str a, .str b, .int .i64 k] (.bool true) := by
  have hS := small_pure l (by unfold maxLen at ll; omega) (fun e he => by have := ld e he; unfold maxLen at this; omega)
  by_cases hs : smallL l = true
  rotate_left
  · have hs : smallL l = false := by simpa using hs
    refine pure_of mixed Try.func3 rfl (by kernel_rfl) (of_decide_eq_true rfl) (by kernel_rfl) (vc_run ?_)
    ((try simp -implicitDefEqProofs [-loopQ_n, hs]) <;> (repeat' (first | (refine condD_dec ?_ ?_ <;> (intro hc; (try simp -implicitDefEqProofs [-loopQ_n, hc, hs]))) | (refine guardD_dec ?_ ?_ <;> (intro hc; (try simp -implicitDefEqProofs [-loopQ_n, hc, hs]))) | (refine condD_intro ?_ ?_ <;> (intro hd; have hc := hd; (try simp at hc) <;> (try simp -implicitDefEqProofs [-loopQ_n, hd, hc, hs]))) | (refine guardD_intro ?_ ?_ <;> (intro hd; have hc := hd; (try simp at hc) <;> (try simp -implicitDefEqProofs [-loopQ_n, hd, hc, hs]))) | (refine ldD_ep ?_ ?_; (focus kernel_rfl); (try simp -implicitDefEqProofs [-loopQ_n, hs])) | (refine callS_mk ?_; (try simp -implicitDefEqProofs [-loopQ_n, hs]); (first | refine callS_intro (awake_pure) (.inl rfl) ?_ | refine callS_intro (hS) (.inl rfl) ?_); (try simp -implicitDefEqProofs [-loopQ_n, hs])))))
  by_cases ha : (60 : Int) < a.size
  · skip
    refine pure_of mixed Try.func3 rfl (by kernel_rfl) (of_decide_eq_true rfl) (by kernel_rfl) (vc_run ?_)
    ((try simp -implicitDefEqProofs [-loopQ_n, hs, ha]) <;> (repeat' (first | (refine condD_dec ?_ ?_ <;> (intro hc; (try simp -implicitDefEqProofs [-loopQ_n, hc, hs, ha]))) | (refine guardD_dec ?_ ?_ <;> (intro hc; (try simp -implicitDefEqProofs [-loopQ_n, hc, hs, ha]))) | (refine condD_intro ?_ ?_ <;> (intro hd; have hc := hd; (try simp at hc) <;> (try simp -implicitDefEqProofs [-loopQ_n, hd, hc, hs, ha]))) | (refine guardD_intro ?_ ?_ <;> (intro hd; have hc := hd; (try simp at hc) <;> (try simp -implicitDefEqProofs [-loopQ_n, hd, hc, hs, ha]))) | (refine ldD_ep ?_ ?_; (focus kernel_rfl); (try simp -implicitDefEqProofs [-loopQ_n, hs, ha])) | (refine callS_mk ?_; (try simp -implicitDefEqProofs [-loopQ_n, hs, ha]); (first | refine callS_intro (awake_pure) (.inl rfl) ?_ | refine callS_intro (hS) (.inl rfl) ?_); (try simp -implicitDefEqProofs [-loopQ_n, hs, ha])))))
  by_cases hb : (60 : Int) < b.size
  · skip
    refine pure_of mixed Try.func3 rfl (by kernel_rfl) (of_decide_eq_true rfl) (by kernel_rfl) (vc_run ?_)
    ((try simp -implicitDefEqProofs [-loopQ_n, hs, ha, hb]) <;> (repeat' (first | (refine condD_dec ?_ ?_ <;> (intro hc; (try simp -implicitDefEqProofs [-loopQ_n, hc, hs, ha, hb]))) | (refine guardD_dec ?_ ?_ <;> (intro hc; (try simp -implicitDefEqProofs [-loopQ_n, hc, hs, ha, hb]))) | (refine condD_intro ?_ ?_ <;> (intro hd; have hc := hd; (try simp at hc) <;> (try simp -implicitDefEqProofs [-loopQ_n, hd, hc, hs, ha, hb]))) | (refine guardD_intro ?_ ?_ <;> (intro hd; have hc := hd; (try simp at hc) <;> (try simp -implicitDefEqProofs [-loopQ_n, hd, hc, hs, ha, hb]))) | (refine ldD_ep ?_ ?_; (focus kernel_rfl); (try simp -implicitDefEqProofs [-loopQ_n, hs, ha, hb])) | (refine callS_mk ?_; (try simp -implicitDefEqProofs [-loopQ_n, hs, ha, hb]); (first | refine callS_intro (awake_pure) (.inl rfl) ?_ | refine callS_intro (hS) (.inl rfl) ?_); (try simp -implicitDefEqProofs [-loopQ_n, hs, ha, hb])))))
  have hB := between_pure l a b
  by_cases hn : (logV l && isNameS a && isNameS b) = true
  rotate_left
  · rw [if_neg hn, if_neg hn] at hB
    refine pure_of mixed Try.func3 rfl (by kernel_rfl) (of_decide_eq_true rfl) (by kernel_rfl) (vc_run ?_)
    ((try simp -implicitDefEqProofs [-loopQ_n, hs, ha, hb, rowsOf_nil]) <;> (repeat' (first | (refine condD_dec ?_ ?_ <;> (intro hc; (try simp -implicitDefEqProofs [-loopQ_n, hc, hs, ha, hb, rowsOf_nil]))) | (refine guardD_dec ?_ ?_ <;> (intro hc; (try simp -implicitDefEqProofs [-loopQ_n, hc, hs, ha, hb, rowsOf_nil]))) | (refine condD_intro ?_ ?_ <;> (intro hd; have hc := hd; (try simp at hc) <;> (try simp -implicitDefEqProofs [-loopQ_n, hd, hc, hs, ha, hb, rowsOf_nil]))) | (refine guardD_intro ?_ ?_ <;> (intro hd; have hc := hd; (try simp at hc) <;> (try simp -implicitDefEqProofs [-loopQ_n, hd, hc, hs, ha, hb, rowsOf_nil]))) | (refine ldD_ep ?_ ?_; (focus kernel_rfl); (try simp -implicitDefEqProofs [-loopQ_n, hs, ha, hb, rowsOf_nil])) | (refine callS_mk ?_; (try simp -implicitDefEqProofs [-loopQ_n, hs, ha, hb, rowsOf_nil]); (first | refine callS_intro (awake_pure) (.inl rfl) ?_ | refine callS_intro (hS) (.inl rfl) ?_ | refine callS_intro (hB) (.inr ⟨rfl, rfl⟩) ?_); (try simp -implicitDefEqProofs [-loopQ_n, hs, ha, hb, rowsOf_nil])))))
  rw [if_pos hn, if_pos hn, betw_go] at hB
  simp only [Bool.and_eq_true] at hn
  obtain ⟨⟨hV, hna⟩, hnb⟩ := hn
  have hbet : ∀ s : List Evt, logV s = true → Pure Try.prog 6 [.agg [.rs (rowsOf evtC s)], .str a, .str b] (.tup [.rs (rowsOf intC (goB a b s)), .int .i64 0]) := fun s hs => by
    have := between_pure s a b
    rw [hs, hna, hnb, betw_go] at this
    exact this
  have hx := goB_nn a b l (mv_iff.1 hV).2.2
  have hl2 := log_lenE hV
  have hXl : (goB a b l).length ≤ 2000 := by rw [← betw_go]; have := betw_len l a b l.length; omega
  have hany : (goB a b l).any (fun n => decide (n < 0)) = false := by
    rw [List.any_eq_false]
    intro t ht
    have := hx t ht
    simp; omega
  have hCF := mvI_any (p := fun n => decide (n < 0)) (l := goB a b l) (g := 8) (caps := []) (fun x _ => mov1_pure x) (fun H k => rfl) rfl (by omega)
  rw [hany] at hCF
  have hSh := shift_pure l k
  have hCa := ecases_pure l hl2 (fun e he => by
    have h1 := (evt_bd (log_evt hV e he)).2.2.2.1
    simp only [isNameS, Bool.and_eq_true, decide_eq_true_eq] at h1
    unfold maxLen; omega) hV
  have hCn : (casesL l).Nodup := mv_asc (setB_asc _)
  have hCm : ∀ c, c ∈ casesL l ↔ c ∈ l.map (·.case_) := fun c => setB_mem _ _
  have hCl : (casesL l).length ≤ 2000 := by
    have := mv_len hCn (fun c hc => (hCm c).1 hc)
    simp only [List.length_map] at this; omega
  have hcn : ∀ c ∈ casesL l, isNameS c = true := fun c hc => by
    obtain ⟨e, he, rfl⟩ := List.mem_map.1 ((hCm c).1 hc)
    exact (evt_bd (log_evt hV e he)).2.2.2.1
  have hP := goB_cases a b hCn l (fun e he => (hCm _).2 (List.mem_map.2 ⟨e, he, rfl⟩))
  obtain ⟨A, hA⟩ : ∃ A, ((casesL l).flatMap fun c => goB a b (ofC c l)) = A := ⟨_, rfl⟩
  rw [hA] at hP
  have hAl : A.length = (goB a b l).length := hP.length_eq
  have hsrt : sortI A = sortI (goB a b l) := sorted_perm (sortI_asc _) (sortI_asc _) ((sortI_perm _).trans (hP.trans (sortI_perm _).symm))
  have hSel : ∀ c ∈ casesL l, Pure Try.prog 12 [.agg [.rs (rowsOf evtC l)], .rs [[.str c]]] (.tup [.agg [.rs (rowsOf evtC (ofC c l))], .int .i64 0]) := fun c hc => by
    have h1 := select_pure l [c] (by simp)
    have e : selectR l [c] = (ofC c l, 0) := by
      rw [selectR, if_pos ⟨hV, by simp [namesL, hcn c hc]⟩, if_neg (by simp)]
      unfold ofC
      simp only [hasB_one]
    rw [e] at h1
    exact h1
  have hBc : ∀ c, Pure Try.prog 6 [.agg [.rs (rowsOf evtC (ofC c l))], .str a, .str b] (.tup [.rs (rowsOf intC (goB a b (ofC c l))), .int .i64 0]) := fun c => hbet _ (mv_ofC hV c)
  obtain ⟨R, f, hR⟩ : ∃ R f, shiftR l k = (R, f) := ⟨_, _, rfl⟩
  rw [hR] at hSh
  simp only [logO] at hSh
  have hBR : f = 0 → Pure Try.prog 6 [.agg [.rs (rowsOf evtC R)], .str a, .str b] (.tup [.rs (rowsOf intC (goB a b l)), .int .i64 0]) := fun hf => by
    subst hf
    obtain ⟨h1, h2⟩ := shift_knows hV hR
    have := hbet R h2
    rw [h1, goB_shift] at this
    rw [h1]
    exact this
  have hEq := eqI_self (goB a b l) (by omega)
  generalize casesL l = C at *
  generalize goB a b l = X at *
  clear hbet hR hany hx
  have hgo : ∀ (i : Nat) (h : i < C.length), isNameS C[i] = true := fun i h => hcn _ (List.getElem_mem h)
  have hSel' : ∀ (i : Nat) (h : i < C.length), Pure Try.prog 12 [.agg [.rs (rowsOf evtC l)], .rs [[.str C[i]]]] (.tup [.agg [.rs (rowsOf evtC (ofC C[i] l))], .int .i64 0]) := fun i h => hSel _ (List.getElem_mem h)
  clear hSel hcn hgo hCm
  have hBR2 : f ≠ 0 ∨ (f = 0 ∧ Pure Try.prog 6 [.agg [.rs (rowsOf evtC R)], .str a, .str b] (.tup [.rs (rowsOf intC X), .int .i64 0])) := by
    by_cases hf : f = 0
    · exact .inr ⟨hf, hBR hf⟩
    · exact .inl hf
  clear hBR
  refine pure_of mixed Try.func3 rfl (by kernel_rfl) (of_decide_eq_true rfl) (by kernel_rfl) (vc_run ?_)
  rcases hBR2 with hf | ⟨rfl, hBR⟩
  · ((try simp -implicitDefEqProofs [-loopQ_n, hs, ha, hb, hf, evt_reify, mi_reify]) <;> (repeat' (first | (refine condD_dec ?_ ?_ <;> (intro hc; (try simp -implicitDefEqProofs [-loopQ_n, hc, hs, ha, hb, hf, evt_reify, mi_reify]))) | (refine guardD_dec ?_ ?_ <;> (intro hc; (try simp -implicitDefEqProofs [-loopQ_n, hc, hs, ha, hb, hf, evt_reify, mi_reify]))) | (refine condD_intro ?_ ?_ <;> (intro hd; have hc := hd; (try simp at hc) <;> (try simp -implicitDefEqProofs [-loopQ_n, hd, hc, hs, ha, hb, hf, evt_reify, mi_reify]))) | (refine guardD_intro ?_ ?_ <;> (intro hd; have hc := hd; (try simp at hc) <;> (try simp -implicitDefEqProofs [-loopQ_n, hd, hc, hs, ha, hb, hf, evt_reify, mi_reify]))) | (refine ldD_ep ?_ ?_; (focus kernel_rfl); (try simp -implicitDefEqProofs [-loopQ_n, hs, ha, hb, hf, evt_reify, mi_reify])) | (refine callS_mk ?_; (try simp -implicitDefEqProofs [-loopQ_n, hs, ha, hb, hf, evt_reify, mi_reify]); (first | refine callS_intro (awake_pure) (.inl rfl) ?_ | refine callS_intro (hS) (.inl rfl) ?_ | refine callS_intro (hB) (.inr ⟨rfl, rfl⟩) ?_ | refine callS_intro (hCF) (.inl rfl) ?_ | refine callS_intro (hSh) (.inr ⟨rfl, rfl⟩) ?_ | refine callS_intro (hCa) (.inr ⟨rfl, rfl⟩) ?_); (try simp -implicitDefEqProofs [-loopQ_n, hs, ha, hb, hf, evt_reify, mi_reify])))))
    refine loop_intro (σ := Nat × List Int) (fun x => ⟨[(1, .str a), (2, .str b), (4, .op 0 0), (9, .rs (rowsOf intC X)), (17, .os 2 x.2.length), (86, .rs (rowsOf strC C)), (87, .int .i64 C.length), (88, .int .i64 x.1)], [.box 24 [.rs (rowsOf evtC l)], .gone, .row 3 true (rowsOf intC x.2)]⟩)
      (fun x => x.1 ≤ C.length ∧ x.2 ++ ((C.drop x.1).flatMap fun c => goB a b (ofC c l)) = A) (fun x => C.length - x.1) (0, []) ⟨by simp, by simpa using hA⟩ ?_ ?_
    · refine weak_of 2 1 rfl rfl ?_ ?_ <;> simp [mi_refs, evt_refs, rowsOf_nil]
    rintro ⟨i, acc⟩ ⟨hi, hR⟩
    simp only at hi hR
    by_cases h : i < C.length
    · have w1 : wrapI .i64 ((i : Int) + 1) = ((i + 1 : Nat) : Int) := by rw [wrap_in (by omega) (by omega)]; omega
      have hS2 := hSel' i h
      rw [List.drop_eq_getElem_cons h, List.flatMap_cons] at hR
      obtain ⟨c, hc⟩ : ∃ c, C[i] = c := ⟨_, rfl⟩
      rw [hc] at hR hS2
      have hB2 := hBc c
      obtain ⟨Y, hY⟩ : ∃ Y, goB a b (ofC c l) = Y := ⟨_, rfl⟩
      rw [hY] at hR hB2
      have hlen : acc.length + Y.length ≤ 2000 := by
        have := congrArg List.length hR
        simp only [List.length_append] at this; omega
      have hlen2 : acc.length + Y.length ≤ 1073741824 := by omega
      have hap : rowsOf intC acc ++ rowsOf intC Y = rowsOf intC (acc ++ Y) := by simp [rowsOf]
      have hal : allLen 1 (rowsOf intC Y) = true := rowsOf_allLen fun x => rfl
      have hfr : (rowsOf intC acc).map (frL 3 [[.str c]]) = rowsOf intC acc := by
        unfold rowsOf
        rw [List.map_map]
        exact List.map_congr_left fun x _ => rfl
      ((try simp -implicitDefEqProofs [-loopQ_n, h, hc, strC]) <;> (repeat' (first | (refine condD_dec ?_ ?_ <;> (intro hc; (try simp -implicitDefEqProofs [-loopQ_n, hc, h, hc, strC]))) | (refine guardD_dec ?_ ?_ <;> (intro hc; (try simp -implicitDefEqProofs [-loopQ_n, hc, h, hc, strC]))) | (refine condD_intro ?_ ?_ <;> (intro hd; have hc := hd; (try simp at hc) <;> (try simp -implicitDefEqProofs [-loopQ_n, hd, hc, h, hc, strC]))) | (refine guardD_intro ?_ ?_ <;> (intro hd; have hc := hd; (try simp at hc) <;> (try simp -implicitDefEqProofs [-loopQ_n, hd, hc, h, hc, strC]))) | (refine ldD_ep ?_ ?_; (focus kernel_rfl); (try simp -implicitDefEqProofs [-loopQ_n, h, hc, strC])))))
      refine callG_intro (frz_G (id := 3) hS2 rfl (fun r hr x hx => by simp at hr; subst hr; simp at hx; subst hx; rfl) ?_ rfl ?_)
      · simp [frL, frA]
      ((try simp -implicitDefEqProofs [-loopQ_n, frH, frB, frL, frA, evt_reify, mi_reify, hlen2, hap, hal, hfr]) <;> (repeat' (first | (refine condD_dec ?_ ?_ <;> (intro hc; (try simp -implicitDefEqProofs [-loopQ_n, hc, frH, frB, frL, frA, evt_reify, mi_reify, hlen2, hap, hal, hfr]))) | (refine guardD_dec ?_ ?_ <;> (intro hc; (try simp -implicitDefEqProofs [-loopQ_n, hc, frH, frB, frL, frA, evt_reify, mi_reify, hlen2, hap, hal, hfr]))) | (refine condD_intro ?_ ?_ <;> (intro hd; have hc := hd; (try simp at hc) <;> (try simp -implicitDefEqProofs [-loopQ_n, hd, hc, frH, frB, frL, frA, evt_reify, mi_reify, hlen2, hap, hal, hfr]))) | (refine guardD_intro ?_ ?_ <;> (intro hd; have hc := hd; (try simp at hc) <;> (try simp -implicitDefEqProofs [-loopQ_n, hd, hc, frH, frB, frL, frA, evt_reify, mi_reify, hlen2, hap, hal, hfr]))) | (refine ldD_ep ?_ ?_; (focus kernel_rfl); (try simp -implicitDefEqProofs [-loopQ_n, frH, frB, frL, frA, evt_reify, mi_reify, hlen2, hap, hal, hfr])) | (refine callS_mk ?_; (try simp -implicitDefEqProofs [-loopQ_n, frH, frB, frL, frA, evt_reify, mi_reify, hlen2, hap, hal, hfr]); (first | refine callS_intro (hB2) (.inr ⟨rfl, rfl⟩) ?_); (try simp -implicitDefEqProofs [-loopQ_n, frH, frB, frL, frA, evt_reify, mi_reify, hlen2, hap, hal, hfr])))))
      refine loop_next (i + 1, acc ++ Y) ⟨h, by rw [← hR]; simp⟩ (by simp only; omega) (weak_of 3 0 rfl rfl ?_ ?_) <;> simp [mi_refs, evt_refs, w1]
    · rw [List.drop_eq_nil_of_le (by omega), List.flatMap_nil, List.append_nil] at hR
      subst hR
      ((try simp -implicitDefEqProofs [-loopQ_n, h]) <;> (repeat' (first | (refine condD_dec ?_ ?_ <;> (intro hc; (try simp -implicitDefEqProofs [-loopQ_n, hc, h]))) | (refine guardD_dec ?_ ?_ <;> (intro hc; (try simp -implicitDefEqProofs [-loopQ_n, hc, h]))) | (refine condD_intro ?_ ?_ <;> (intro hd; have hc := hd; (try simp at hc) <;> (try simp -implicitDefEqProofs [-loopQ_n, hd, hc, h]))) | (refine guardD_intro ?_ ?_ <;> (intro hd; have hc := hd; (try simp at hc) <;> (try simp -implicitDefEqProofs [-loopQ_n, hd, hc, h]))) | (refine ldD_ep ?_ ?_; (focus kernel_rfl); (try simp -implicitDefEqProofs [-loopQ_n, h])))))
      refine callG_intro (sortI_G (l := acc) rfl rfl (by kernel_rfl) (by omega) ?_)
      rw [hsrt, hAl]
      have hZl : (sortI X).length = X.length := sortI_len X
      have hE2 := eqI_self (sortI X) (by omega)
      by_cases h0 : X = []
      · subst h0
        have hZ : sortI [] = [] := by simp [sortI]
        rw [hZ] at hE2 ⊢
        ((try simp -implicitDefEqProofs [-loopQ_n, rowsOf_nil]) <;> (repeat' (first | (refine condD_dec ?_ ?_ <;> (intro hc; (try simp -implicitDefEqProofs [-loopQ_n, hc, rowsOf_nil]))) | (refine guardD_dec ?_ ?_ <;> (intro hc; (try simp -implicitDefEqProofs [-loopQ_n, hc, rowsOf_nil]))) | (refine condD_intro ?_ ?_ <;> (intro hd; have hc := hd; (try simp at hc) <;> (try simp -implicitDefEqProofs [-loopQ_n, hd, hc, rowsOf_nil]))) | (refine guardD_intro ?_ ?_ <;> (intro hd; have hc := hd; (try simp at hc) <;> (try simp -implicitDefEqProofs [-loopQ_n, hd, hc, rowsOf_nil]))) | (refine ldD_ep ?_ ?_; (focus kernel_rfl); (try simp -implicitDefEqProofs [-loopQ_n, rowsOf_nil])))))
        refine callG_intro (cloneN0_G fun nb => ?_)
        ((try simp -implicitDefEqProofs [-loopQ_n, rowsOf_nil]) <;> (repeat' (first | (refine condD_dec ?_ ?_ <;> (intro hc; (try simp -implicitDefEqProofs [-loopQ_n, hc, rowsOf_nil]))) | (refine guardD_dec ?_ ?_ <;> (intro hc; (try simp -implicitDefEqProofs [-loopQ_n, hc, rowsOf_nil]))) | (refine condD_intro ?_ ?_ <;> (intro hd; have hc := hd; (try simp at hc) <;> (try simp -implicitDefEqProofs [-loopQ_n, hd, hc, rowsOf_nil]))) | (refine guardD_intro ?_ ?_ <;> (intro hd; have hc := hd; (try simp at hc) <;> (try simp -implicitDefEqProofs [-loopQ_n, hd, hc, rowsOf_nil]))) | (refine ldD_ep ?_ ?_; (focus kernel_rfl); (try simp -implicitDefEqProofs [-loopQ_n, rowsOf_nil])))))
        refine callG_intro (sortI_G (l := []) rfl rfl (by kernel_rfl) (by simp) ?_)
        rw [hZ]
        simp only [rowsOf_nil] at hE2
        ((try simp -implicitDefEqProofs [-loopQ_n, rowsOf_nil]) <;> (repeat' (first | (refine condD_dec ?_ ?_ <;> (intro hc; (try simp -implicitDefEqProofs [-loopQ_n, hc, rowsOf_nil]))) | (refine guardD_dec ?_ ?_ <;> (intro hc; (try simp -implicitDefEqProofs [-loopQ_n, hc, rowsOf_nil]))) | (refine condD_intro ?_ ?_ <;> (intro hd; have hc := hd; (try simp at hc) <;> (try simp -implicitDefEqProofs [-loopQ_n, hd, hc, rowsOf_nil]))) | (refine guardD_intro ?_ ?_ <;> (intro hd; have hc := hd; (try simp at hc) <;> (try simp -implicitDefEqProofs [-loopQ_n, hd, hc, rowsOf_nil]))) | (refine ldD_ep ?_ ?_; (focus kernel_rfl); (try simp -implicitDefEqProofs [-loopQ_n, rowsOf_nil])) | (refine callS_mk ?_; (try simp -implicitDefEqProofs [-loopQ_n, rowsOf_nil]); (first | refine callS_intro (hE2) (.inl rfl) ?_); (try simp -implicitDefEqProofs [-loopQ_n, rowsOf_nil])))))
      · have hlf : ((rowsOf intC X).all fun r => r.all flat) = true := rowsOf_flat fun x => by simp [intC, flat]
        ((try simp -implicitDefEqProofs [-loopQ_n]) <;> (repeat' (first | (refine condD_dec ?_ ?_ <;> (intro hc; (try simp -implicitDefEqProofs [-loopQ_n, hc]))) | (refine guardD_dec ?_ ?_ <;> (intro hc; (try simp -implicitDefEqProofs [-loopQ_n, hc]))) | (refine condD_intro ?_ ?_ <;> (intro hd; have hc := hd; (try simp at hc) <;> (try simp -implicitDefEqProofs [-loopQ_n, hd, hc]))) | (refine guardD_intro ?_ ?_ <;> (intro hd; have hc := hd; (try simp at hc) <;> (try simp -implicitDefEqProofs [-loopQ_n, hd, hc]))) | (refine ldD_ep ?_ ?_; (focus kernel_rfl); (try simp -implicitDefEqProofs [-loopQ_n])))))
        refine fresh_intro (cloneN_fresh X h0 (by omega)) (by simp) (.inl hlf) ?_
        ((try simp -implicitDefEqProofs [-loopQ_n]) <;> (repeat' (first | (refine condD_dec ?_ ?_ <;> (intro hc; (try simp -implicitDefEqProofs [-loopQ_n, hc]))) | (refine guardD_dec ?_ ?_ <;> (intro hc; (try simp -implicitDefEqProofs [-loopQ_n, hc]))) | (refine condD_intro ?_ ?_ <;> (intro hd; have hc := hd; (try simp at hc) <;> (try simp -implicitDefEqProofs [-loopQ_n, hd, hc]))) | (refine guardD_intro ?_ ?_ <;> (intro hd; have hc := hd; (try simp at hc) <;> (try simp -implicitDefEqProofs [-loopQ_n, hd, hc]))) | (refine ldD_ep ?_ ?_; (focus kernel_rfl); (try simp -implicitDefEqProofs [-loopQ_n])))))
        refine callG_intro (sortI_G (l := X) rfl (by simp) (by kernel_rfl) (by omega) ?_)
        generalize sortI X = Z at *
        ((try simp -implicitDefEqProofs [-loopQ_n, hZl, mi_reify]) <;> (repeat' (first | (refine condD_dec ?_ ?_ <;> (intro hc; (try simp -implicitDefEqProofs [-loopQ_n, hc, hZl, mi_reify]))) | (refine guardD_dec ?_ ?_ <;> (intro hc; (try simp -implicitDefEqProofs [-loopQ_n, hc, hZl, mi_reify]))) | (refine condD_intro ?_ ?_ <;> (intro hd; have hc := hd; (try simp at hc) <;> (try simp -implicitDefEqProofs [-loopQ_n, hd, hc, hZl, mi_reify]))) | (refine guardD_intro ?_ ?_ <;> (intro hd; have hc := hd; (try simp at hc) <;> (try simp -implicitDefEqProofs [-loopQ_n, hd, hc, hZl, mi_reify]))) | (refine ldD_ep ?_ ?_; (focus kernel_rfl); (try simp -implicitDefEqProofs [-loopQ_n, hZl, mi_reify])) | (refine callS_mk ?_; (try simp -implicitDefEqProofs [-loopQ_n, hZl, mi_reify]); (first | refine callS_intro (hE2) (.inl rfl) ?_); (try simp -implicitDefEqProofs [-loopQ_n, hZl, mi_reify])))))
  · ((try simp -implicitDefEqProofs [-loopQ_n, hs, ha, hb, evt_reify, mi_reify]) <;> (repeat' (first | (refine condD_dec ?_ ?_ <;> (intro hc; (try simp -implicitDefEqProofs [-loopQ_n, hc, hs, ha, hb, evt_reify, mi_reify]))) | (refine guardD_dec ?_ ?_ <;> (intro hc; (try simp -implicitDefEqProofs [-loopQ_n, hc, hs, ha, hb, evt_reify, mi_reify]))) | (refine condD_intro ?_ ?_ <;> (intro hd; have hc := hd; (try simp at hc) <;> (try simp -implicitDefEqProofs [-loopQ_n, hd, hc, hs, ha, hb, evt_reify, mi_reify]))) | (refine guardD_intro ?_ ?_ <;> (intro hd; have hc := hd; (try simp at hc) <;> (try simp -implicitDefEqProofs [-loopQ_n, hd, hc, hs, ha, hb, evt_reify, mi_reify]))) | (refine ldD_ep ?_ ?_; (focus kernel_rfl); (try simp -implicitDefEqProofs [-loopQ_n, hs, ha, hb, evt_reify, mi_reify])) | (refine callS_mk ?_; (try simp -implicitDefEqProofs [-loopQ_n, hs, ha, hb, evt_reify, mi_reify]); (first | refine callS_intro (awake_pure) (.inl rfl) ?_ | refine callS_intro (hS) (.inl rfl) ?_ | refine callS_intro (hB) (.inr ⟨rfl, rfl⟩) ?_ | refine callS_intro (hCF) (.inl rfl) ?_ | refine callS_intro (hSh) (.inr ⟨rfl, rfl⟩) ?_ | refine callS_intro (hBR) (.inr ⟨rfl, rfl⟩) ?_ | refine callS_intro (hEq) (.inl rfl) ?_ | refine callS_intro (hCa) (.inr ⟨rfl, rfl⟩) ?_); (try simp -implicitDefEqProofs [-loopQ_n, hs, ha, hb, evt_reify, mi_reify])))))
    refine loop_intro (σ := Nat × List Int) (fun x => ⟨[(1, .str a), (2, .str b), (4, .op 0 0), (9, .rs (rowsOf intC X)), (17, .os 2 x.2.length), (86, .rs (rowsOf strC C)), (87, .int .i64 C.length), (88, .int .i64 x.1)], [.box 24 [.rs (rowsOf evtC l)], .gone, .row 3 true (rowsOf intC x.2)]⟩)
      (fun x => x.1 ≤ C.length ∧ x.2 ++ ((C.drop x.1).flatMap fun c => goB a b (ofC c l)) = A) (fun x => C.length - x.1) (0, []) ⟨by simp, by simpa using hA⟩ ?_ ?_
    · refine weak_of 2 1 rfl rfl ?_ ?_ <;> simp [mi_refs, evt_refs, rowsOf_nil]
    rintro ⟨i, acc⟩ ⟨hi, hR⟩
    simp only at hi hR
    by_cases h : i < C.length
    · have w1 : wrapI .i64 ((i : Int) + 1) = ((i + 1 : Nat) : Int) := by rw [wrap_in (by omega) (by omega)]; omega
      have hS2 := hSel' i h
      rw [List.drop_eq_getElem_cons h, List.flatMap_cons] at hR
      obtain ⟨c, hc⟩ : ∃ c, C[i] = c := ⟨_, rfl⟩
      rw [hc] at hR hS2
      have hB2 := hBc c
      obtain ⟨Y, hY⟩ : ∃ Y, goB a b (ofC c l) = Y := ⟨_, rfl⟩
      rw [hY] at hR hB2
      have hlen : acc.length + Y.length ≤ 2000 := by
        have := congrArg List.length hR
        simp only [List.length_append] at this; omega
      have hlen2 : acc.length + Y.length ≤ 1073741824 := by omega
      have hap : rowsOf intC acc ++ rowsOf intC Y = rowsOf intC (acc ++ Y) := by simp [rowsOf]
      have hal : allLen 1 (rowsOf intC Y) = true := rowsOf_allLen fun x => rfl
      have hfr : (rowsOf intC acc).map (frL 3 [[.str c]]) = rowsOf intC acc := by
        unfold rowsOf
        rw [List.map_map]
        exact List.map_congr_left fun x _ => rfl
      ((try simp -implicitDefEqProofs [-loopQ_n, h, hc, strC]) <;> (repeat' (first | (refine condD_dec ?_ ?_ <;> (intro hc; (try simp -implicitDefEqProofs [-loopQ_n, hc, h, hc, strC]))) | (refine guardD_dec ?_ ?_ <;> (intro hc; (try simp -implicitDefEqProofs [-loopQ_n, hc, h, hc, strC]))) | (refine condD_intro ?_ ?_ <;> (intro hd; have hc := hd; (try simp at hc) <;> (try simp -implicitDefEqProofs [-loopQ_n, hd, hc, h, hc, strC]))) | (refine guardD_intro ?_ ?_ <;> (intro hd; have hc := hd; (try simp at hc) <;> (try simp -implicitDefEqProofs [-loopQ_n, hd, hc, h, hc, strC]))) | (refine ldD_ep ?_ ?_; (focus kernel_rfl); (try simp -implicitDefEqProofs [-loopQ_n, h, hc, strC])))))
      refine callG_intro (frz_G (id := 3) hS2 rfl (fun r hr x hx => by simp at hr; subst hr; simp at hx; subst hx; rfl) ?_ rfl ?_)
      · simp [frL, frA]
      ((try simp -implicitDefEqProofs [-loopQ_n, frH, frB, frL, frA, evt_reify, mi_reify, hlen2, hap, hal, hfr]) <;> (repeat' (first | (refine condD_dec ?_ ?_ <;> (intro hc; (try simp -implicitDefEqProofs [-loopQ_n, hc, frH, frB, frL, frA, evt_reify, mi_reify, hlen2, hap, hal, hfr]))) | (refine guardD_dec ?_ ?_ <;> (intro hc; (try simp -implicitDefEqProofs [-loopQ_n, hc, frH, frB, frL, frA, evt_reify, mi_reify, hlen2, hap, hal, hfr]))) | (refine condD_intro ?_ ?_ <;> (intro hd; have hc := hd; (try simp at hc) <;> (try simp -implicitDefEqProofs [-loopQ_n, hd, hc, frH, frB, frL, frA, evt_reify, mi_reify, hlen2, hap, hal, hfr]))) | (refine guardD_intro ?_ ?_ <;> (intro hd; have hc := hd; (try simp at hc) <;> (try simp -implicitDefEqProofs [-loopQ_n, hd, hc, frH, frB, frL, frA, evt_reify, mi_reify, hlen2, hap, hal, hfr]))) | (refine ldD_ep ?_ ?_; (focus kernel_rfl); (try simp -implicitDefEqProofs [-loopQ_n, frH, frB, frL, frA, evt_reify, mi_reify, hlen2, hap, hal, hfr])) | (refine callS_mk ?_; (try simp -implicitDefEqProofs [-loopQ_n, frH, frB, frL, frA, evt_reify, mi_reify, hlen2, hap, hal, hfr]); (first | refine callS_intro (hB2) (.inr ⟨rfl, rfl⟩) ?_); (try simp -implicitDefEqProofs [-loopQ_n, frH, frB, frL, frA, evt_reify, mi_reify, hlen2, hap, hal, hfr])))))
      refine loop_next (i + 1, acc ++ Y) ⟨h, by rw [← hR]; simp⟩ (by simp only; omega) (weak_of 3 0 rfl rfl ?_ ?_) <;> simp [mi_refs, evt_refs, w1]
    · rw [List.drop_eq_nil_of_le (by omega), List.flatMap_nil, List.append_nil] at hR
      subst hR
      ((try simp -implicitDefEqProofs [-loopQ_n, h]) <;> (repeat' (first | (refine condD_dec ?_ ?_ <;> (intro hc; (try simp -implicitDefEqProofs [-loopQ_n, hc, h]))) | (refine guardD_dec ?_ ?_ <;> (intro hc; (try simp -implicitDefEqProofs [-loopQ_n, hc, h]))) | (refine condD_intro ?_ ?_ <;> (intro hd; have hc := hd; (try simp at hc) <;> (try simp -implicitDefEqProofs [-loopQ_n, hd, hc, h]))) | (refine guardD_intro ?_ ?_ <;> (intro hd; have hc := hd; (try simp at hc) <;> (try simp -implicitDefEqProofs [-loopQ_n, hd, hc, h]))) | (refine ldD_ep ?_ ?_; (focus kernel_rfl); (try simp -implicitDefEqProofs [-loopQ_n, h])))))
      refine callG_intro (sortI_G (l := acc) rfl rfl (by kernel_rfl) (by omega) ?_)
      rw [hsrt, hAl]
      have hZl : (sortI X).length = X.length := sortI_len X
      have hE2 := eqI_self (sortI X) (by omega)
      by_cases h0 : X = []
      · subst h0
        have hZ : sortI [] = [] := by simp [sortI]
        rw [hZ] at hE2 ⊢
        ((try simp -implicitDefEqProofs [-loopQ_n, rowsOf_nil]) <;> (repeat' (first | (refine condD_dec ?_ ?_ <;> (intro hc; (try simp -implicitDefEqProofs [-loopQ_n, hc, rowsOf_nil]))) | (refine guardD_dec ?_ ?_ <;> (intro hc; (try simp -implicitDefEqProofs [-loopQ_n, hc, rowsOf_nil]))) | (refine condD_intro ?_ ?_ <;> (intro hd; have hc := hd; (try simp at hc) <;> (try simp -implicitDefEqProofs [-loopQ_n, hd, hc, rowsOf_nil]))) | (refine guardD_intro ?_ ?_ <;> (intro hd; have hc := hd; (try simp at hc) <;> (try simp -implicitDefEqProofs [-loopQ_n, hd, hc, rowsOf_nil]))) | (refine ldD_ep ?_ ?_; (focus kernel_rfl); (try simp -implicitDefEqProofs [-loopQ_n, rowsOf_nil])))))
        refine callG_intro (cloneN0_G fun nb => ?_)
        ((try simp -implicitDefEqProofs [-loopQ_n, rowsOf_nil]) <;> (repeat' (first | (refine condD_dec ?_ ?_ <;> (intro hc; (try simp -implicitDefEqProofs [-loopQ_n, hc, rowsOf_nil]))) | (refine guardD_dec ?_ ?_ <;> (intro hc; (try simp -implicitDefEqProofs [-loopQ_n, hc, rowsOf_nil]))) | (refine condD_intro ?_ ?_ <;> (intro hd; have hc := hd; (try simp at hc) <;> (try simp -implicitDefEqProofs [-loopQ_n, hd, hc, rowsOf_nil]))) | (refine guardD_intro ?_ ?_ <;> (intro hd; have hc := hd; (try simp at hc) <;> (try simp -implicitDefEqProofs [-loopQ_n, hd, hc, rowsOf_nil]))) | (refine ldD_ep ?_ ?_; (focus kernel_rfl); (try simp -implicitDefEqProofs [-loopQ_n, rowsOf_nil])))))
        refine callG_intro (sortI_G (l := []) rfl rfl (by kernel_rfl) (by simp) ?_)
        rw [hZ]
        simp only [rowsOf_nil] at hE2
        ((try simp -implicitDefEqProofs [-loopQ_n, rowsOf_nil]) <;> (repeat' (first | (refine condD_dec ?_ ?_ <;> (intro hc; (try simp -implicitDefEqProofs [-loopQ_n, hc, rowsOf_nil]))) | (refine guardD_dec ?_ ?_ <;> (intro hc; (try simp -implicitDefEqProofs [-loopQ_n, hc, rowsOf_nil]))) | (refine condD_intro ?_ ?_ <;> (intro hd; have hc := hd; (try simp at hc) <;> (try simp -implicitDefEqProofs [-loopQ_n, hd, hc, rowsOf_nil]))) | (refine guardD_intro ?_ ?_ <;> (intro hd; have hc := hd; (try simp at hc) <;> (try simp -implicitDefEqProofs [-loopQ_n, hd, hc, rowsOf_nil]))) | (refine ldD_ep ?_ ?_; (focus kernel_rfl); (try simp -implicitDefEqProofs [-loopQ_n, rowsOf_nil])) | (refine callS_mk ?_; (try simp -implicitDefEqProofs [-loopQ_n, rowsOf_nil]); (first | refine callS_intro (hE2) (.inl rfl) ?_); (try simp -implicitDefEqProofs [-loopQ_n, rowsOf_nil])))))
      · have hlf : ((rowsOf intC X).all fun r => r.all flat) = true := rowsOf_flat fun x => by simp [intC, flat]
        ((try simp -implicitDefEqProofs [-loopQ_n]) <;> (repeat' (first | (refine condD_dec ?_ ?_ <;> (intro hc; (try simp -implicitDefEqProofs [-loopQ_n, hc]))) | (refine guardD_dec ?_ ?_ <;> (intro hc; (try simp -implicitDefEqProofs [-loopQ_n, hc]))) | (refine condD_intro ?_ ?_ <;> (intro hd; have hc := hd; (try simp at hc) <;> (try simp -implicitDefEqProofs [-loopQ_n, hd, hc]))) | (refine guardD_intro ?_ ?_ <;> (intro hd; have hc := hd; (try simp at hc) <;> (try simp -implicitDefEqProofs [-loopQ_n, hd, hc]))) | (refine ldD_ep ?_ ?_; (focus kernel_rfl); (try simp -implicitDefEqProofs [-loopQ_n])))))
        refine fresh_intro (cloneN_fresh X h0 (by omega)) (by simp) (.inl hlf) ?_
        ((try simp -implicitDefEqProofs [-loopQ_n]) <;> (repeat' (first | (refine condD_dec ?_ ?_ <;> (intro hc; (try simp -implicitDefEqProofs [-loopQ_n, hc]))) | (refine guardD_dec ?_ ?_ <;> (intro hc; (try simp -implicitDefEqProofs [-loopQ_n, hc]))) | (refine condD_intro ?_ ?_ <;> (intro hd; have hc := hd; (try simp at hc) <;> (try simp -implicitDefEqProofs [-loopQ_n, hd, hc]))) | (refine guardD_intro ?_ ?_ <;> (intro hd; have hc := hd; (try simp at hc) <;> (try simp -implicitDefEqProofs [-loopQ_n, hd, hc]))) | (refine ldD_ep ?_ ?_; (focus kernel_rfl); (try simp -implicitDefEqProofs [-loopQ_n])))))
        refine callG_intro (sortI_G (l := X) rfl (by simp) (by kernel_rfl) (by omega) ?_)
        generalize sortI X = Z at *
        ((try simp -implicitDefEqProofs [-loopQ_n, hZl, mi_reify]) <;> (repeat' (first | (refine condD_dec ?_ ?_ <;> (intro hc; (try simp -implicitDefEqProofs [-loopQ_n, hc, hZl, mi_reify]))) | (refine guardD_dec ?_ ?_ <;> (intro hc; (try simp -implicitDefEqProofs [-loopQ_n, hc, hZl, mi_reify]))) | (refine condD_intro ?_ ?_ <;> (intro hd; have hc := hd; (try simp at hc) <;> (try simp -implicitDefEqProofs [-loopQ_n, hd, hc, hZl, mi_reify]))) | (refine guardD_intro ?_ ?_ <;> (intro hd; have hc := hd; (try simp at hc) <;> (try simp -implicitDefEqProofs [-loopQ_n, hd, hc, hZl, mi_reify]))) | (refine ldD_ep ?_ ?_; (focus kernel_rfl); (try simp -implicitDefEqProofs [-loopQ_n, hZl, mi_reify])) | (refine callS_mk ?_; (try simp -implicitDefEqProofs [-loopQ_n, hZl, mi_reify]); (first | refine callS_intro (hE2) (.inl rfl) ?_); (try simp -implicitDefEqProofs [-loopQ_n, hZl, mi_reify])))))
theorem both (x0 : AV) (s0 : argS Try.prog 24 x0) (x1 : AV) (s1 : argS Try.prog 9 x1) (x2 : AV) (s2 : argS Try.prog 9 x2) (x3 : AV) (s3 : argS Try.prog 3 x3) : Pure Try.prog 3 [x0, x1, x2, x3] (.bool true) := by
  obtain ⟨l, rfl, ll, ld⟩ := log_dec s0
  obtain ⟨a, rfl, _⟩ := arg_str Try.underlying9 s1
  obtain ⟨b, rfl, _⟩ := arg_str Try.underlying9 s2
  obtain ⟨k, rfl, _⟩ := arg_int Try.underlying3 s3
  exact main l a b k ll ld
theorem walk (W : World) (hvo : VarsOk W (fun _ => False)) (v0 : Value) (x0 : AV) (r0 : RO W (fun _ => False) x0 v0) (s0 : argS Try.prog 24 x0) (v1 : Value) (x1 : AV) (r1 : RO W (fun _ => False) x1 v1) (s1 : argS Try.prog 9 x1) (v2 : Value) (x2 : AV) (r2 : RO W (fun _ => False) x2 v2) (s2 : argS Try.prog 9 x2) (v3 : Value) (x3 : AV) (r3 : RO W (fun _ => False) x3 v3) (s3 : argS Try.prog 3 x3) :
    Calls Try.prog 3 #[v0, v1, v2, v3] W fun e w' => e = .returned (.bool true) ∧ Below W.heap.size W w' := by
  refine ((both x0 s0 x1 s1 x2 s2 x3 s3).2 W (fun _ => False) _ (fun _ h => h.elim) hvo rfl ?_).mono ?_
  · intro j x v hj hv
    match j with
    | 0 => simp at hj hv; subst hj hv; exact r0
    | 1 => simp at hj hv; subst hj hv; exact r1
    | 2 => simp at hj hv; subst hj hv; exact r2
    | 3 => simp at hj hv; subst hj hv; exact r3
    | j + 4 => simp at hj
  · rintro e w' ⟨v, rfl, hv, hb⟩
    rw [ro_tt hv]
    exact ⟨rfl, hb⟩
end
set_option maxRecDepth 100000 in
theorem lifted (os : Os) (started : os.Started) (H : Type) (enc : TypeId × Value → H) :
    ReturnsInHanded {} Try.checked os 3 .any (Rows.timingMovedSpec.pre6 enc Try.prog Try.f3 Rows.timingMovedRow.domain false) (Rows.timingMovedSpec.post enc Try.prog Try.f3 false true false false) := by
  refine returnsInHanded_of_change (C := Try.checked) (@ownK ⟨fun _ => none⟩) started (by kernel_rfl) Try.func3
    (ChangeSpec.witness6 (enc := enc) (C := Try.checked) false ⟨#[], #[.agg #[.slice none 0 0], .string ByteArray.empty, .string ByteArray.empty, .int .i64 0], []⟩ 8 (by kernel_rfl) (by kernel_rfl) (by kernel_rfl) (by kernel_rfl)) ?_
  intro W base args ds gs before hval0 hW hcnd _
  have hval : ∀ (j : Nat) t v, Try.f3.params[j]? = some t → args[j]? = some v → Value.okWide Try.prog W .any base t v := hval0
  have hW' := hW
  obtain ⟨p, q, hA0, hV, rfl, hfz, hnd⟩ := hW
  have hA : DataW.TrodAll enc Try.prog W 0 (fun _ => true) true Try.f3.params.toList args.toList ds p := hA0
  rw [Try.params3] at hA hval
  obtain ⟨v0, vs0, d0, ds0, p0, q0, hargs, rfl, rfl, h0, r0⟩ := trodAll_cons hA
  obtain ⟨v1, vs1, d1, ds1, p1, q1, rfl, rfl, rfl, h1, r1⟩ := trodAll_cons r0
  obtain ⟨v2, vs2, d2, ds2, p2, q2, rfl, rfl, rfl, h2, r2⟩ := trodAll_cons r1
  obtain ⟨v3, vs3, d3, ds3, p3, q3, rfl, rfl, rfl, h3, r3⟩ := trodAll_cons r2
  obtain ⟨rfl, rfl, rfl⟩ := trodAll_nil r3
  obtain rfl : args = #[v0, v1, v2, v3] := by cases args; simp_all
  obtain ⟨rfl, rfl⟩ := trodVars_none hV
  letI : Glob := ⟨fun _ => none⟩
  have k0 := h0
  have lt0 : ∀ x ∈ p0, x.block < W.heap.size := by obtain ⟨m, hm⟩ := k0; exact DataW.trod_lt m _ _ _ hm
  obtain ⟨x0, y0, s0⟩ := arg_open (P := Try.prog) (t := 24) (by kernel_rfl) (by kernel_rfl) (hval 0 24 v0 rfl rfl) h0
  have k1 := h1
  have lt1 : ∀ x ∈ p1, x.block < W.heap.size := by obtain ⟨m, hm⟩ := k1; exact DataW.trod_lt m _ _ _ hm
  obtain ⟨x1, y1, s1⟩ := arg_open (P := Try.prog) (t := 9) (by kernel_rfl) (by kernel_rfl) (hval 1 9 v1 rfl rfl) h1
  have k2 := h2
  have lt2 : ∀ x ∈ p2, x.block < W.heap.size := by obtain ⟨m, hm⟩ := k2; exact DataW.trod_lt m _ _ _ hm
  obtain ⟨x2, y2, s2⟩ := arg_open (P := Try.prog) (t := 9) (by kernel_rfl) (by kernel_rfl) (hval 2 9 v2 rfl rfl) h2
  have k3 := h3
  have lt3 : ∀ x ∈ p3, x.block < W.heap.size := by obtain ⟨m, hm⟩ := k3; exact DataW.trod_lt m _ _ _ hm
  obtain ⟨x3, y3, s3⟩ := arg_open (P := Try.prog) (t := 3) (by kernel_rfl) (by kernel_rfl) (hval 3 3 v3 rfl rfl) h3
  clear hA0 hval0
  refine (walk W (fun g row h => by cases h) v0 x0 y0 s0 v1 x1 y1 s1 v2 x2 y2 s2 v3 x3 y3 s3).mono fun e W' ⟨he, bel⟩ => ?_
  subst he
  exact ⟨_, rfl, _, _, _, [], _, [], hW', trodAll_mk1 (shut_bool Try.underlying4 _), (trodAll_cons_mk (Below.trod laidK (by kernel_rfl) (of_decide_eq_true (by kernel_rfl)) k0 bel lt0) (trodAll_cons_mk (Below.trod laidK (by kernel_rfl) (of_decide_eq_true (by kernel_rfl)) k1 bel lt1) (trodAll_cons_mk (Below.trod laidK (by kernel_rfl) (of_decide_eq_true (by kernel_rfl)) k2 bel lt2) (trodAll_cons_mk (Below.trod laidK (by kernel_rfl) (of_decide_eq_true (by kernel_rfl)) k3 bel lt3) trodAll_mk0)))), rfl, bel.frame _, fun h => by cases h⟩

theorem over : Rows.timingMovedRow.holds Try.pinned (OpenSpec.ofChange Rows.timingMovedSpec) :=
  OpenClaim.holds_of_wide 3 Try.f3 rfl rfl rfl rfl rfl rfl rfl ⟨rfl, rfl, rfl, rfl, rfl⟩ rfl rfl rfl rfl rfl (by kernel_rfl) Try.func3 (by kernel_rfl)
    (of_decide_eq_true (by kernel_rfl)) (by unfold Func.isWrapper; first | (rw [if_pos (by decide +kernel)]; kernel_rfl) | (rw [if_neg (by decide +kernel)]; exact ⟨rfl, rfl⟩))
    (fun os started H enc _ => lifted os started H enc)

theorem proved : Rows.TimingMovedSaid := over
end Go.Proofs.Ytkionfcafifhdaa.lawMoved
