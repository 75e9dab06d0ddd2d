/- What the law SpansLives needs beside: apart, single, slices.DeleteFunc with a plain function, slices.Equal of instances. -/
import Derived.Test.YtpgoefakhecdnaaInsX
import Derived.Test.YtpgoefakhecdnaaInsW
import Derived.Test.YtpgoefakhecdnaaInsT
import Derived.Test.YtpgoefakhecdnaaCl0
import Derived.Test.YtpgoefakhecdnaaAbMv
import Derived.Lib.SliceRun
import Derived.Lib.Walk
namespace Go.Proofs.Ytpgoefakhecdnaa
set_option linter.unusedSimpArgs false
set_option linter.unusedVariables false
set_option linter.unnecessarySimpa false
set_option linter.unusedSectionVars false
open Go.RowKit
variable [Glob]
set_option maxRecDepth 100000
theorem insI_set {M : List Ins} {i : Nat} {c a r : ByteArray} {t1 t2 t3 : Int} : (rowsOf insC M).set i [.str c, .str a, .str r, .int .i64 t1, .int .i64 t2, .int .i64 t3] = rowsOf insC (M.set i ⟨c, a, r, t1, t2, t3⟩) := by simp [rowsOf, insC, List.map_set]
def zIn : List AV := [.str ByteArray.empty, .str ByteArray.empty, .str ByteArray.empty, .int .i64 0, .int .i64 0, .int .i64 0]
theorem ins_mvL {id n m N : Nat} {l : List Ins} : (rowsOf insC l).map (mvL id n m N) = rowsOf insC l := by
  unfold rowsOf
  rw [List.map_map]
  exact List.map_congr_left fun x _ => rfl
theorem putR_take {rows ys : List (List AV)} {k : Nat} (h : k ≤ rows.length) : (putR rows k ys).take k = rows.take k := by
  unfold putR
  rw [List.append_assoc, List.take_append_of_le_length (by simp; omega), List.take_of_length_le (by simp; omega)]
theorem find_ofI {α : Type} {p : α → Bool} {l : List α} : (l.findIdx? p = none ∧ l.filter (fun x => !p x) = l) ∨ ∃ k, ∃ (h : k < l.length), l.findIdx? p = some k ∧ (∀ x ∈ l.take k, p x = false) ∧ p l[k] = true := by
  cases hk : l.findIdx? p with
  | none =>
    refine .inl ⟨rfl, ?_⟩
    rw [List.findIdx?_eq_none_iff] at hk
    exact List.filter_eq_self.2 fun x hx => by simp [hk x hx]
  | some k =>
    refine .inr ⟨k, ?_⟩
    rw [List.findIdx?_eq_some_iff_getElem] at hk
    obtain ⟨h1, h2, h3⟩ := hk
    refine ⟨h1, rfl, fun x hx => ?_, h2⟩
    obtain ⟨j, hj, rfl⟩ := List.getElem_of_mem hx
    have hjk : j < k := by simp at hj; omega
    rw [List.getElem_take]
    simpa using h3 j hjk
theorem cloneIn_fresh (l : List Ins) (h0 : l ≠ []) (hl : l.length ≤ 1073741824) : Fresh Try.prog 19 [.rs (rowsOf insC l)] 26 (rowsOf insC l) := by
  refine fresh_of mixed Try.func19 rfl (by kernel_rfl) (of_decide_eq_true rfl) (by kernel_rfl) (vc_run ?_)
  have h1 : l.isEmpty = false := by cases l <;> simp at h0 ⊢
  have h2 : allLen 6 (rowsOf insC l) = true := rowsOf_allLen fun x => rfl
  simp -implicitDefEqProofs [h1, hl, h2]
  exact rowsOf_owns' (f := insC) fun x c hc => by simp [insC] at hc; rcases hc with rfl | rfl | rfl | rfl | rfl | rfl <;> rfl
theorem in_info : ∃ i, Try.prog.info? 26 = some i ∧ i.zero = some (.agg #[.string ByteArray.empty, .string ByteArray.empty, .string ByteArray.empty, .int .i64 0, .int .i64 0, .int .i64 0]) ∧ i.size = 6 ∧ i.bytes = 72 := by
  obtain ⟨j, h1, h2⟩ := Option.map_eq_some_iff.1 (show (Try.prog.info? 26).map (fun i => (i.zero, i.size, i.bytes)) = some (some (.agg #[.string ByteArray.empty, .string ByteArray.empty, .string ByteArray.empty, .int .i64 0, .int .i64 0, .int .i64 0]), 6, 72) by kernel_rfl)
  simp only [Prod.mk.injEq] at h2
  exact ⟨j, h1, h2.1, h2.2.1, h2.2.2⟩
set_option maxHeartbeats 2000000 in
theorem cloneIn_nil (c : Nat) (w : World) : Calls Try.prog 19 #[.slice none 0 c] w fun en w' => en = .returned (.slice none 0 0) ∧ w' = w := by
  have q24 : ∀ (w : World) (a : Option Addr) (n c n' c' : Nat), (binOp .eql 30 (.slice a n c) (.slice none n' c')).run Try.prog w = .ok (.bool a.isNone) w := fun w a n c n' c' => Lib.run_eql_slice_nil w _ _ a n c n' c' Try.underlying30
  go_enter Try.func19, Try.ntmps19
  go_wp2
  go_ret
  exact ⟨rfl, rfl⟩
set_option maxHeartbeats 2000000 in
theorem cloneIn_zero (a : Addr) (c : Nat) (w : World) : Calls Try.prog 19 #[.slice (some a) 0 c] w fun en w' => ∃ v', en = .returned v' ∧ w'.ownsRow w.heap.size 26 6 v' 0 [] ∧ Below w.heap.size w w' := by
  obtain ⟨i0, hi, hz0, hz1, hz2⟩ := in_info
  have q24 : ∀ (w : World) (a : Option Addr) (n c n' c' : Nat), (binOp .eql 30 (.slice a n c) (.slice none n' c')).run Try.prog w = .ok (.bool a.isNone) w := fun w a n c n' c' => Lib.run_eql_slice_nil w _ _ a n c n' c' Try.underlying30
  go_enter Try.func19, Try.ntmps19
  go_wp2_with (at_builtin; refine wpList_append_own _ rfl _ _ 30 rfl w.heap.size 26 i0 (.agg #[.string ByteArray.empty, .string ByteArray.empty, .string ByteArray.empty, .int .i64 0, .int .i64 0, .int .i64 0]) 6 72 Try.underlying30 hi hz0 hz1 hz2 rfl (by decide) _ _ _ rfl (World.ownsRow_made w #[] 0 (Nat.le_refl _) (Nat.zero_le _) rfl) a 0 c [] rfl rfl (by intro j u hj; simp at hj) (by intro u hu; cases hu) (by unfold maxLen; omega) (by omega) (by simp) ?_)
  intro v' w1 hown hgrow hnil
  go_wp2
  go_ret
  refine ⟨v', rfl, by simpa using hown, ?_⟩
  exact ((Below.refl _ w).alloc (Nat.le_refl _) _).grown hgrow (by simp) (by intro k hk; simp [Value.ownBlock] at hk; omega)
theorem cloneIn0_G {H : List Blk} {K : AV → List Blk → Prop} (hK : ∀ nb, K (.os H.length 0) (H ++ [.row 26 nb []])) : CallG Try.prog 19 [.rs []] H K :=
  clone0_core (by kernel_rfl) (fun c w => cloneIn_nil c w) (fun a c w => (cloneIn_zero a c w).mono fun en w' ⟨v', h1, h2, h3⟩ => ⟨v', h1, by rw [show Try.prog.cellsOf 26 = 6 by kernel_rfl]; exact h2, h3⟩) hK
/-- A copy, of an empty slice or not. -/
theorem cloneIn_G (l : List Ins) (hl : l.length ≤ 1073741824) {H : List Blk} {K : AV → List Blk → Prop} (hK : ∀ nb, K (.os H.length l.length) (H ++ [.row 26 nb (rowsOf insC l)])) : CallG Try.prog 19 [.rs (rowsOf insC l)] H K := by
  by_cases h0 : l = []
  · subst h0; exact cloneIn0_G hK
  · have hlf : ((rowsOf insC l).all fun r => r.all flat) = true := rowsOf_flat fun x => by simp [insC, flat]
    have := fresh_callE («as» := [.rs (rowsOf insC l)]) (H := H) (cloneIn_fresh l h0 hl) (by simp) (.inl hlf)
    rw [rowsOf_length] at this
    exact callE_G this (hK false)
theorem apart_pure (e : Evt) : Pure Try.prog 16 [.agg (evtC e)] (.agg (evtC (apE e))) := by
  obtain ⟨c, a, r, li, t, d⟩ := e
  refine pure_of mixed Try.func16 rfl (by kernel_rfl) (of_decide_eq_true rfl) (by kernel_rfl) (vc_run ?_)
  ((try simp -implicitDefEqProofs [-loopQ_n, evtC, apE, apB]) <;> (repeat' (first | (refine condD_dec ?_ ?_ <;> (intro hc; (try simp -implicitDefEqProofs [-loopQ_n, hc, evtC, apE, apB]))) | (refine guardD_dec ?_ ?_ <;> (intro hc; (try simp -implicitDefEqProofs [-loopQ_n, hc, evtC, apE, apB]))) | (refine condD_intro ?_ ?_ <;> (intro hd; have hc := hd; (try simp at hc) <;> (try simp -implicitDefEqProofs [-loopQ_n, hd, hc, evtC, apE, apB]))) | (refine guardD_intro ?_ ?_ <;> (intro hd; have hc := hd; (try simp at hc) <;> (try simp -implicitDefEqProofs [-loopQ_n, hd, hc, evtC, apE, apB]))) | (refine ldD_ep ?_ ?_; (focus kernel_rfl); (try simp -implicitDefEqProofs [-loopQ_n, evtC, apE, apB])))))
theorem liv1_pure (e : Evt) (y : Ins) : Pure Try.prog 14 [.agg (evtC e), .rp (insC y)] (.bool (decide (e.case_ = y.case_) && decide (e.act = y.act) && decide (e.time = y.ready))) := by
  obtain ⟨c, a, r, li, t, d⟩ := e
  obtain ⟨c2, a2, r2, t1, t2, t3⟩ := y
  refine pure_of mixed Try.func14 rfl (by kernel_rfl) (of_decide_eq_true rfl) (by kernel_rfl) (vc_run ?_)
  by_cases c1 : c = c2
  · subst c1
    by_cases k2 : a = a2
    · subst k2
      by_cases k3 : t = t1
      · subst k3
        ((try simp -implicitDefEqProofs [-loopQ_n, evtC, insC]) <;> (repeat' (first | (refine condD_dec ?_ ?_ <;> (intro hc; (try simp -implicitDefEqProofs [-loopQ_n, hc, evtC, insC]))) | (refine guardD_dec ?_ ?_ <;> (intro hc; (try simp -implicitDefEqProofs [-loopQ_n, hc, evtC, insC]))) | (refine condD_intro ?_ ?_ <;> (intro hd; have hc := hd; (try simp at hc) <;> (try simp -implicitDefEqProofs [-loopQ_n, hd, hc, evtC, insC]))) | (refine guardD_intro ?_ ?_ <;> (intro hd; have hc := hd; (try simp at hc) <;> (try simp -implicitDefEqProofs [-loopQ_n, hd, hc, evtC, insC]))) | (refine ldD_ep ?_ ?_; (focus kernel_rfl); (try simp -implicitDefEqProofs [-loopQ_n, evtC, insC])))))
      · ((try simp -implicitDefEqProofs [-loopQ_n, evtC, insC, k3]) <;> (repeat' (first | (refine condD_dec ?_ ?_ <;> (intro hc; (try simp -implicitDefEqProofs [-loopQ_n, hc, evtC, insC, k3]))) | (refine guardD_dec ?_ ?_ <;> (intro hc; (try simp -implicitDefEqProofs [-loopQ_n, hc, evtC, insC, k3]))) | (refine condD_intro ?_ ?_ <;> (intro hd; have hc := hd; (try simp at hc) <;> (try simp -implicitDefEqProofs [-loopQ_n, hd, hc, evtC, insC, k3]))) | (refine guardD_intro ?_ ?_ <;> (intro hd; have hc := hd; (try simp at hc) <;> (try simp -implicitDefEqProofs [-loopQ_n, hd, hc, evtC, insC, k3]))) | (refine ldD_ep ?_ ?_; (focus kernel_rfl); (try simp -implicitDefEqProofs [-loopQ_n, evtC, insC, k3])))))
    · have k2' := baT_ne k2
      have k2'' : (a = a2) = False := eq_false k2
      ((try simp -implicitDefEqProofs [-loopQ_n, evtC, insC, k2', k2'']) <;> (repeat' (first | (refine condD_dec ?_ ?_ <;> (intro hc; (try simp -implicitDefEqProofs [-loopQ_n, hc, evtC, insC, k2', k2'']))) | (refine guardD_dec ?_ ?_ <;> (intro hc; (try simp -implicitDefEqProofs [-loopQ_n, hc, evtC, insC, k2', k2'']))) | (refine condD_intro ?_ ?_ <;> (intro hd; have hc := hd; (try simp at hc) <;> (try simp -implicitDefEqProofs [-loopQ_n, hd, hc, evtC, insC, k2', k2'']))) | (refine guardD_intro ?_ ?_ <;> (intro hd; have hc := hd; (try simp at hc) <;> (try simp -implicitDefEqProofs [-loopQ_n, hd, hc, evtC, insC, k2', k2'']))) | (refine ldD_ep ?_ ?_; (focus kernel_rfl); (try simp -implicitDefEqProofs [-loopQ_n, evtC, insC, k2', k2''])))))
  · have c1' := baT_ne c1
    have c1'' : (c = c2) = False := eq_false c1
    ((try simp -implicitDefEqProofs [-loopQ_n, evtC, insC, c1', c1'']) <;> (repeat' (first | (refine condD_dec ?_ ?_ <;> (intro hc; (try simp -implicitDefEqProofs [-loopQ_n, hc, evtC, insC, c1', c1'']))) | (refine guardD_dec ?_ ?_ <;> (intro hc; (try simp -implicitDefEqProofs [-loopQ_n, hc, evtC, insC, c1', c1'']))) | (refine condD_intro ?_ ?_ <;> (intro hd; have hc := hd; (try simp at hc) <;> (try simp -implicitDefEqProofs [-loopQ_n, hd, hc, evtC, insC, c1', c1'']))) | (refine guardD_intro ?_ ?_ <;> (intro hd; have hc := hd; (try simp at hc) <;> (try simp -implicitDefEqProofs [-loopQ_n, hd, hc, evtC, insC, c1', c1'']))) | (refine ldD_ep ?_ ?_; (focus kernel_rfl); (try simp -implicitDefEqProofs [-loopQ_n, evtC, insC, c1', c1''])))))
theorem liv2_pure (e : Evt) : Pure Try.prog 17 [.agg (evtC e)] (.bool (!ownE e)) := by
  obtain ⟨c, a, r, li, t, d⟩ := e
  refine pure_of mixed Try.func17 rfl (by kernel_rfl) (of_decide_eq_true rfl) (by kernel_rfl) (vc_run ?_)
  by_cases c1 : c = apB
  · subst c1
    ((try simp -implicitDefEqProofs [-loopQ_n, evtC, apB, ownE]) <;> (repeat' (first | (refine condD_dec ?_ ?_ <;> (intro hc; (try simp -implicitDefEqProofs [-loopQ_n, hc, evtC, apB, ownE]))) | (refine guardD_dec ?_ ?_ <;> (intro hc; (try simp -implicitDefEqProofs [-loopQ_n, hc, evtC, apB, ownE]))) | (refine condD_intro ?_ ?_ <;> (intro hd; have hc := hd; (try simp at hc) <;> (try simp -implicitDefEqProofs [-loopQ_n, hd, hc, evtC, apB, ownE]))) | (refine guardD_intro ?_ ?_ <;> (intro hd; have hc := hd; (try simp at hc) <;> (try simp -implicitDefEqProofs [-loopQ_n, hd, hc, evtC, apB, ownE]))) | (refine ldD_ep ?_ ?_; (focus kernel_rfl); (try simp -implicitDefEqProofs [-loopQ_n, evtC, apB, ownE])))))
  · have c1' : ¬ c.toList = [97, 112, 97, 114, 116] := fun q => baT_ne c1 (q.trans (by rw [ba_toList]; rfl))
    have c2 : ownE ⟨c, a, r, li, t, d⟩ = true := by simp [ownE, c1]
    rw [c2]
    ((try simp -implicitDefEqProofs [-loopQ_n, evtC, c1']) <;> (repeat' (first | (refine condD_dec ?_ ?_ <;> (intro hc; (try simp -implicitDefEqProofs [-loopQ_n, hc, evtC, c1']))) | (refine guardD_dec ?_ ?_ <;> (intro hc; (try simp -implicitDefEqProofs [-loopQ_n, hc, evtC, c1']))) | (refine condD_intro ?_ ?_ <;> (intro hd; have hc := hd; (try simp at hc) <;> (try simp -implicitDefEqProofs [-loopQ_n, hd, hc, evtC, c1']))) | (refine guardD_intro ?_ ?_ <;> (intro hd; have hc := hd; (try simp at hc) <;> (try simp -implicitDefEqProofs [-loopQ_n, hd, hc, evtC, c1']))) | (refine ldD_ep ?_ ?_; (focus kernel_rfl); (try simp -implicitDefEqProofs [-loopQ_n, evtC, c1'])))))
theorem liv3_pure (y : Ins) : Pure Try.prog 20 [.agg (insC y)] (.bool (!ownI y)) := by
  obtain ⟨c, a, r, t1, t2, t3⟩ := y
  refine pure_of mixed Try.func20 rfl (by kernel_rfl) (of_decide_eq_true rfl) (by kernel_rfl) (vc_run ?_)
  by_cases c1 : c = apB
  · subst c1
    ((try simp -implicitDefEqProofs [-loopQ_n, insC, apB, ownI]) <;> (repeat' (first | (refine condD_dec ?_ ?_ <;> (intro hc; (try simp -implicitDefEqProofs [-loopQ_n, hc, insC, apB, ownI]))) | (refine guardD_dec ?_ ?_ <;> (intro hc; (try simp -implicitDefEqProofs [-loopQ_n, hc, insC, apB, ownI]))) | (refine condD_intro ?_ ?_ <;> (intro hd; have hc := hd; (try simp at hc) <;> (try simp -implicitDefEqProofs [-loopQ_n, hd, hc, insC, apB, ownI]))) | (refine guardD_intro ?_ ?_ <;> (intro hd; have hc := hd; (try simp at hc) <;> (try simp -implicitDefEqProofs [-loopQ_n, hd, hc, insC, apB, ownI]))) | (refine ldD_ep ?_ ?_; (focus kernel_rfl); (try simp -implicitDefEqProofs [-loopQ_n, insC, apB, ownI])))))
  · have c1' : ¬ c.toList = [97, 112, 97, 114, 116] := fun q => baT_ne c1 (q.trans (by rw [ba_toList]; rfl))
    have c2 : ownI ⟨c, a, r, t1, t2, t3⟩ = true := by simp [ownI, c1]
    rw [c2]
    ((try simp -implicitDefEqProofs [-loopQ_n, insC, c1']) <;> (repeat' (first | (refine condD_dec ?_ ?_ <;> (intro hc; (try simp -implicitDefEqProofs [-loopQ_n, hc, insC, c1']))) | (refine guardD_dec ?_ ?_ <;> (intro hc; (try simp -implicitDefEqProofs [-loopQ_n, hc, insC, c1']))) | (refine condD_intro ?_ ?_ <;> (intro hd; have hc := hd; (try simp at hc) <;> (try simp -implicitDefEqProofs [-loopQ_n, hd, hc, insC, c1']))) | (refine guardD_intro ?_ ?_ <;> (intro hd; have hc := hd; (try simp at hc) <;> (try simp -implicitDefEqProofs [-loopQ_n, hd, hc, insC, c1']))) | (refine ldD_ep ?_ ?_; (focus kernel_rfl); (try simp -implicitDefEqProofs [-loopQ_n, insC, c1'])))))
theorem sing1_pure (e e0 : Evt) (l : List Evt) : Pure Try.prog 43 [.agg (evtC e), .rp [.rs (rowsOf evtC (e0 :: l))]] (.bool (!decide (e.case_ = e0.case_))) := by
  obtain ⟨c, a, r, li, t, d⟩ := e
  obtain ⟨⟨c2, a2, r2, li2, t2, d2⟩, he⟩ : ∃ x, e0 = x := ⟨_, rfl⟩
  subst he
  refine pure_of mixed Try.func43 rfl (by kernel_rfl) (of_decide_eq_true rfl) (by kernel_rfl) (vc_run ?_)
  by_cases c1 : c = c2
  · subst c1
    ((try simp -implicitDefEqProofs [-loopQ_n, evtC, rowsOf]) <;> (repeat' (first | (refine condD_dec ?_ ?_ <;> (intro hc; (try simp -implicitDefEqProofs [-loopQ_n, hc, evtC, rowsOf]))) | (refine guardD_dec ?_ ?_ <;> (intro hc; (try simp -implicitDefEqProofs [-loopQ_n, hc, evtC, rowsOf]))) | (refine condD_intro ?_ ?_ <;> (intro hd; have hc := hd; (try simp at hc) <;> (try simp -implicitDefEqProofs [-loopQ_n, hd, hc, evtC, rowsOf]))) | (refine guardD_intro ?_ ?_ <;> (intro hd; have hc := hd; (try simp at hc) <;> (try simp -implicitDefEqProofs [-loopQ_n, hd, hc, evtC, rowsOf]))) | (refine ldD_ep ?_ ?_; (focus kernel_rfl); (try simp -implicitDefEqProofs [-loopQ_n, evtC, rowsOf])))))
  · have c1' := baT_ne c1
    have c1'' : (c = c2) = False := eq_false c1
    ((try simp -implicitDefEqProofs [-loopQ_n, evtC, rowsOf, c1', c1'']) <;> (repeat' (first | (refine condD_dec ?_ ?_ <;> (intro hc; (try simp -implicitDefEqProofs [-loopQ_n, hc, evtC, rowsOf, c1', c1'']))) | (refine guardD_dec ?_ ?_ <;> (intro hc; (try simp -implicitDefEqProofs [-loopQ_n, hc, evtC, rowsOf, c1', c1'']))) | (refine condD_intro ?_ ?_ <;> (intro hd; have hc := hd; (try simp at hc) <;> (try simp -implicitDefEqProofs [-loopQ_n, hd, hc, evtC, rowsOf, c1', c1'']))) | (refine guardD_intro ?_ ?_ <;> (intro hd; have hc := hd; (try simp at hc) <;> (try simp -implicitDefEqProofs [-loopQ_n, hd, hc, evtC, rowsOf, c1', c1'']))) | (refine ldD_ep ?_ ?_; (focus kernel_rfl); (try simp -implicitDefEqProofs [-loopQ_n, evtC, rowsOf, c1', c1''])))))
def singB (l : List Evt) : Bool := match l with | [] => true | e0 :: r => !(e0 :: r).any fun e => !decide (e.case_ = e0.case_)
theorem singB_spec {l : List Evt} (h : singB l = true) : ∀ e ∈ l, ∀ e' ∈ l, e.case_ = e'.case_ := by
  cases l with
  | nil => intro e he; cases he
  | cons e0 r =>
    unfold singB at h
    simp only [Bool.not_eq_true', List.any_eq_false] at h
    intro e he e' he'
    have h1 := h e he
    have h2 := h e' he'
    simp at h1 h2
    rw [h1, h2]
theorem sing_pure (l : List Evt) (hl : l.length ≤ 9223372036854775807) : Pure Try.prog 21 [.agg [.rs (rowsOf evtC l)]] (.bool (singB l)) := by
  cases l with
  | nil =>
    have hA := lgEvt_any (p := fun _ => false) (l := []) (g := 43) (caps := [.rp [.rs (rowsOf evtC [])]]) (fun x hx => by cases hx) (fun H k => by simp [rowsOf]) rfl (by simp)
    refine pure_of mixed Try.func21 rfl (by kernel_rfl) (of_decide_eq_true rfl) (by kernel_rfl) (vc_run ?_)
    ((try simp -implicitDefEqProofs [-loopQ_n, rowsOf_nil, singB]) <;> (repeat' (first | (refine condD_dec ?_ ?_ <;> (intro hc; (try simp -implicitDefEqProofs [-loopQ_n, hc, rowsOf_nil, singB]))) | (refine guardD_dec ?_ ?_ <;> (intro hc; (try simp -implicitDefEqProofs [-loopQ_n, hc, rowsOf_nil, singB]))) | (refine condD_intro ?_ ?_ <;> (intro hd; have hc := hd; (try simp at hc) <;> (try simp -implicitDefEqProofs [-loopQ_n, hd, hc, rowsOf_nil, singB]))) | (refine guardD_intro ?_ ?_ <;> (intro hd; have hc := hd; (try simp at hc) <;> (try simp -implicitDefEqProofs [-loopQ_n, hd, hc, rowsOf_nil, singB]))) | (refine ldD_ep ?_ ?_; (focus kernel_rfl); (try simp -implicitDefEqProofs [-loopQ_n, rowsOf_nil, singB])) | (refine callS_mk ?_; (try simp -implicitDefEqProofs [-loopQ_n, rowsOf_nil, singB]); (first | refine callS_intro (hA) (.inl rfl) ?_); (try simp -implicitDefEqProofs [-loopQ_n, rowsOf_nil, singB])))))
  | cons e0 r =>
    have hA := lgEvt_any (p := fun e => !decide (e.case_ = e0.case_)) (l := e0 :: r) (g := 43) (caps := [.rp [.rs (rowsOf evtC (e0 :: r))]]) (fun x hx => sing1_pure x e0 r) (fun H k => by simp) (by simp [refsL, refs]) hl
    obtain ⟨q, hq⟩ : ∃ q, (e0 :: r).any (fun e => !decide (e.case_ = e0.case_)) = q := ⟨_, rfl⟩
    rw [hq] at hA
    have hs : singB (e0 :: r) = !q := by rw [← hq]; rfl
    rw [hs]
    refine pure_of mixed Try.func21 rfl (by kernel_rfl) (of_decide_eq_true rfl) (by kernel_rfl) (vc_run ?_)
    ((try simp -implicitDefEqProofs [-loopQ_n]) <;> (repeat' (first | (refine condD_dec ?_ ?_ <;> (intro hc; (try simp -implicitDefEqProofs [-loopQ_n, hc]))) | (refine guardD_dec ?_ ?_ <;> (intro hc; (try simp -implicitDefEqProofs [-loopQ_n, hc]))) | (refine condD_intro ?_ ?_ <;> (intro hd; have hc := hd; (try simp at hc) <;> (try simp -implicitDefEqProofs [-loopQ_n, hd, hc]))) | (refine guardD_intro ?_ ?_ <;> (intro hd; have hc := hd; (try simp at hc) <;> (try simp -implicitDefEqProofs [-loopQ_n, hd, hc]))) | (refine ldD_ep ?_ ?_; (focus kernel_rfl); (try simp -implicitDefEqProofs [-loopQ_n])) | (refine callS_mk ?_; (try simp -implicitDefEqProofs [-loopQ_n]); (first | refine callS_intro (hA) (.inl rfl) ?_); (try simp -implicitDefEqProofs [-loopQ_n])))))
theorem eqIn_self (a : List Ins) (ha : a.length ≤ 1000000) : Pure Try.prog 22 [.rs (rowsOf insC a), .rs (rowsOf insC a)] (.bool true) := by
  refine pure_of mixed Try.func22 rfl (by kernel_rfl) (of_decide_eq_true rfl) (by kernel_rfl) (vc_run ?_)
  ((try simp -implicitDefEqProofs [-loopQ_n]) <;> (repeat' (first | (refine condD_dec ?_ ?_ <;> (intro hc; (try simp -implicitDefEqProofs [-loopQ_n, hc]))) | (refine guardD_dec ?_ ?_ <;> (intro hc; (try simp -implicitDefEqProofs [-loopQ_n, hc]))) | (refine condD_intro ?_ ?_ <;> (intro hd; have hc := hd; (try simp at hc) <;> (try simp -implicitDefEqProofs [-loopQ_n, hd, hc]))) | (refine guardD_intro ?_ ?_ <;> (intro hd; have hc := hd; (try simp at hc) <;> (try simp -implicitDefEqProofs [-loopQ_n, hd, hc]))) | (refine ldD_ep ?_ ?_; (focus kernel_rfl); (try simp -implicitDefEqProofs [-loopQ_n])))))
  refine loop_intro (σ := Nat) (fun i => ⟨[(0, .rs (rowsOf insC a)), (1, .rs (rowsOf insC a)), (12, .int .i64 a.length), (13, .int .i64 i)], []⟩) (fun i => i ≤ a.length) (fun i => a.length - i) 0 (by simp) ?_ ?_
  · refine weak_of 0 0 rfl rfl ?_ ?_ <;> simp [ins_refs]
  intro i hi
  by_cases h : i < a.length
  · have w1 := w_succ' h (by omega)
    obtain ⟨⟨c, b, r, t1, t2, t3⟩, hf⟩ : ∃ e, a[i] = e := ⟨_, rfl⟩
    ((try simp -implicitDefEqProofs [-loopQ_n, h, hf, insC, w1]) <;> (repeat' (first | (refine condD_dec ?_ ?_ <;> (intro hc; (try simp -implicitDefEqProofs [-loopQ_n, hc, h, hf, insC, w1]))) | (refine guardD_dec ?_ ?_ <;> (intro hc; (try simp -implicitDefEqProofs [-loopQ_n, hc, h, hf, insC, w1]))) | (refine condD_intro ?_ ?_ <;> (intro hd; have hc := hd; (try simp at hc) <;> (try simp -implicitDefEqProofs [-loopQ_n, hd, hc, h, hf, insC, w1]))) | (refine guardD_intro ?_ ?_ <;> (intro hd; have hc := hd; (try simp at hc) <;> (try simp -implicitDefEqProofs [-loopQ_n, hd, hc, h, hf, insC, w1]))) | (refine ldD_ep ?_ ?_; (focus kernel_rfl); (try simp -implicitDefEqProofs [-loopQ_n, h, hf, insC, w1])))))
    refine loop_next (i + 1) h (by omega) (weak_of 0 0 rfl rfl ?_ ?_) <;> simp [ins_refs]
  · ((try simp -implicitDefEqProofs [-loopQ_n, h]) <;> (repeat' (first | (refine condD_dec ?_ ?_ <;> (intro hc; (try simp -implicitDefEqProofs [-loopQ_n, hc, h]))) | (refine guardD_dec ?_ ?_ <;> (intro hc; (try simp -implicitDefEqProofs [-loopQ_n, hc, h]))) | (refine condD_intro ?_ ?_ <;> (intro hd; have hc := hd; (try simp at hc) <;> (try simp -implicitDefEqProofs [-loopQ_n, hd, hc, h]))) | (refine guardD_intro ?_ ?_ <;> (intro hd; have hc := hd; (try simp at hc) <;> (try simp -implicitDefEqProofs [-loopQ_n, hd, hc, h]))) | (refine ldD_ep ?_ ?_; (focus kernel_rfl); (try simp -implicitDefEqProofs [-loopQ_n, h])))))
def DelC (e : Nat) (nb : Bool) (l : List Ins) (p : Ins → Bool) (r : AV) (H : List Blk) : Prop :=
  (r = .os 0 l.length ∧ H = [.row e nb (rowsOf insC l)] ∧ l.filter (fun x => !p x) = l) ∨
  (∃ F, l.filter (fun x => !p x) = F ∧ r = .os 1 F.length ∧ H = [.gone, .row e nb (rowsOf insC F)])
set_option maxHeartbeats 16000000 in
/-- An own slice, of which those are left that p does not hold of. -/
theorem delC_G {g : Nat} {p : Ins → Bool} (hp : ∀ x, Pure Try.prog g [.agg (insC x)] (.bool (p x))) (nb : Bool) (l : List Ins) (hl : l.length ≤ 2000) :
    CallG Try.prog 18 [.os 0 l.length, .fn g []] [.row 26 nb (rowsOf insC l)] (DelC 26 nb l p) := by
  have hI := ins_idx (p := p) (l := l) (g := g) (caps := []) (fun x _ => hp x) (fun H k => by simp) rfl (by omega)
  rcases find_ofI (p := p) (l := l) with ⟨f1, f2⟩ | ⟨k, hk, f1, f2, f3⟩
  · have hx : idxOf p l = -1 := by simp [idxOf, f1]
    rw [hx] at hI
    refine inl_G mixed Try.func18 rfl (by kernel_rfl) (of_decide_eq_true rfl) (by kernel_rfl) (vc_run ?_)
    ((try simp -implicitDefEqProofs [-loopQ_n, ins_reify]) <;> (repeat' (first | (refine condD_dec ?_ ?_ <;> (intro hc; (try simp -implicitDefEqProofs [-loopQ_n, hc, ins_reify]))) | (refine guardD_dec ?_ ?_ <;> (intro hc; (try simp -implicitDefEqProofs [-loopQ_n, hc, ins_reify]))) | (refine condD_intro ?_ ?_ <;> (intro hd; have hc := hd; (try simp at hc) <;> (try simp -implicitDefEqProofs [-loopQ_n, hd, hc, ins_reify]))) | (refine guardD_intro ?_ ?_ <;> (intro hd; have hc := hd; (try simp at hc) <;> (try simp -implicitDefEqProofs [-loopQ_n, hd, hc, ins_reify]))) | (refine ldD_ep ?_ ?_; (focus kernel_rfl); (try simp -implicitDefEqProofs [-loopQ_n, ins_reify])) | (refine callS_mk ?_; (try simp -implicitDefEqProofs [-loopQ_n, ins_reify]); (first | refine callS_intro (hI) (.inl rfl) ?_); (try simp -implicitDefEqProofs [-loopQ_n, ins_reify])))))
    exact endG_r (.os 0 l.length) (by simp) (.inl ⟨rfl, rfl, f2⟩)
  · have hx : idxOf p l = (k : Int) := by simp [idxOf, f1]
    rw [hx] at hI
    have n1 : ¬ (k : Int) = -1 := by omega
    have w0 := w_succ' (i := k) (n := l.length) hk (by omega)
    obtain ⟨n, hn⟩ : ∃ n, l.length = n := ⟨_, rfl⟩
    rw [hn] at hl hk
    refine inl_G mixed Try.func18 rfl (by kernel_rfl) (of_decide_eq_true rfl) (by kernel_rfl) (vc_run ?_)
    ((try simp -implicitDefEqProofs [-loopQ_n, n1, w0, hn, ins_reify]) <;> (repeat' (first | (refine condD_dec ?_ ?_ <;> (intro hc; (try simp -implicitDefEqProofs [-loopQ_n, hc, n1, w0, hn, ins_reify]))) | (refine guardD_dec ?_ ?_ <;> (intro hc; (try simp -implicitDefEqProofs [-loopQ_n, hc, n1, w0, hn, ins_reify]))) | (refine condD_intro ?_ ?_ <;> (intro hd; have hc := hd; (try simp at hc) <;> (try simp -implicitDefEqProofs [-loopQ_n, hd, hc, n1, w0, hn, ins_reify]))) | (refine guardD_intro ?_ ?_ <;> (intro hd; have hc := hd; (try simp at hc) <;> (try simp -implicitDefEqProofs [-loopQ_n, hd, hc, n1, w0, hn, ins_reify]))) | (refine ldD_ep ?_ ?_; (focus kernel_rfl); (try simp -implicitDefEqProofs [-loopQ_n, n1, w0, hn, ins_reify])) | (refine callS_mk ?_; (try simp -implicitDefEqProofs [-loopQ_n, n1, w0, hn, ins_reify]); (first | refine callS_intro (hI) (.inl rfl) ?_); (try simp -implicitDefEqProofs [-loopQ_n, n1, w0, hn, ins_reify])))))
    refine loop_intro (σ := Nat × Nat × List Ins) (fun x => ⟨[(0, .os 0 n), (1, .fn g []), (5, .int .i64 x.2.1), (6, .int .i64 x.1)], [.row 26 nb (rowsOf insC x.2.2)]⟩)
      (fun x => x.1 ≤ n ∧ x.2.1 < x.1 ∧ x.2.2.length = n ∧ x.2.2.drop x.1 = l.drop x.1 ∧ x.2.2.take x.2.1 = (l.take x.1).filter (fun x => !p x) ∧ x.2.1 = ((l.take x.1).filter (fun x => !p x)).length) (fun x => n - x.1) (k + 1, k, l) ?_ ?_ ?_
    · have h3 : (l.take k).filter (fun x => !p x) = l.take k := List.filter_eq_self.2 fun x hx => by simpa using f2 x hx
      have h4 : (l.take (k + 1)).filter (fun x => !p x) = l.take k := by
        rw [List.take_succ_eq_append_getElem (by omega), List.filter_append, h3]
        simp [f3]
      exact ⟨by simp only; omega, by simp, hn, rfl, by rw [h4], by rw [h4]; simp; omega⟩
    · refine weak_ofL 1 0 (by simp) (by simp) rfl ?_ ?_ <;> simp [ins_refs]
    rintro ⟨j, i, M⟩ ⟨hj, hij, hM, hd, ht, hc⟩
    simp only at hj hij hM hd ht hc
    by_cases h : j < n
    · have h2 : j < M.length := by omega
      have h2' : j < l.length := by omega
      have w1 := w_succ' h (by omega)
      have w2 := w_succ' (i := i) (n := n) (by omega) (by omega)
      have he : M[j] = l[j] := by
        have := congrArg (fun z : List Ins => z[0]?) hd
        simp only [List.getElem?_drop, Nat.add_zero] at this
        rw [List.getElem?_eq_getElem h2, List.getElem?_eq_getElem h2'] at this
        simpa using this
      have hd1 : M.drop (j + 1) = l.drop (j + 1) := by
        have := congrArg (List.drop 1) hd
        simpa [List.drop_drop, Nat.add_comm] using this
      have hP := hp l[j]
      have hts : (l.take (j + 1)).filter (fun x => !p x) = (l.take j).filter (fun x => !p x) ++ [l[j]].filter (fun x => !p x) := by
        rw [List.take_succ_eq_append_getElem h2', List.filter_append]
      obtain ⟨⟨c, a, r, t1, t2, t3⟩, hf⟩ : ∃ e, l[j] = e := ⟨_, rfl⟩
      rw [hf] at he hP hts
      simp only [insC] at hP
      cases hv : p ⟨c, a, r, t1, t2, t3⟩ with
      | true =>
        rw [hv] at hP
        simp only [List.filter_cons, hv, Bool.not_true, Bool.false_eq_true, if_false, List.filter_nil, List.append_nil] at hts
        ((try simp -implicitDefEqProofs [-loopQ_n, h, h2, hM, he, insC, w1]) <;> (repeat' (first | (refine condD_dec ?_ ?_ <;> (intro hc; (try simp -implicitDefEqProofs [-loopQ_n, hc, h, h2, hM, he, insC, w1]))) | (refine guardD_dec ?_ ?_ <;> (intro hc; (try simp -implicitDefEqProofs [-loopQ_n, hc, h, h2, hM, he, insC, w1]))) | (refine condD_intro ?_ ?_ <;> (intro hd; have hc := hd; (try simp at hc) <;> (try simp -implicitDefEqProofs [-loopQ_n, hd, hc, h, h2, hM, he, insC, w1]))) | (refine guardD_intro ?_ ?_ <;> (intro hd; have hc := hd; (try simp at hc) <;> (try simp -implicitDefEqProofs [-loopQ_n, hd, hc, h, h2, hM, he, insC, w1]))) | (refine ldD_ep ?_ ?_; (focus kernel_rfl); (try simp -implicitDefEqProofs [-loopQ_n, h, h2, hM, he, insC, w1])) | (refine callS_mk ?_; (try simp -implicitDefEqProofs [-loopQ_n, h, h2, hM, he, insC, w1]); (first | refine callS_intro (hP) (.inl rfl) ?_); (try simp -implicitDefEqProofs [-loopQ_n, h, h2, hM, he, insC, w1])))))
        refine loop_next (j + 1, i, M) ⟨by simp only; omega, by simp only; omega, hM, hd1, by rw [hts]; exact ht, by rw [hts]; exact hc⟩ (by simp only; omega) (weak_ofL 1 0 (by simp) (by simp) rfl ?_ ?_) <;> simp [ins_refs]
      | false =>
        rw [hv] at hP
        simp only [List.filter_cons, hv, Bool.not_false, if_true, List.filter_nil] at hts
        have h3 : i < n := by omega
        ((try simp -implicitDefEqProofs [-loopQ_n, h, h2, h3, hM, he, insC, w1, w2, insI_set]) <;> (repeat' (first | (refine condD_dec ?_ ?_ <;> (intro hc; (try simp -implicitDefEqProofs [-loopQ_n, hc, h, h2, h3, hM, he, insC, w1, w2, insI_set]))) | (refine guardD_dec ?_ ?_ <;> (intro hc; (try simp -implicitDefEqProofs [-loopQ_n, hc, h, h2, h3, hM, he, insC, w1, w2, insI_set]))) | (refine condD_intro ?_ ?_ <;> (intro hd; have hc := hd; (try simp at hc) <;> (try simp -implicitDefEqProofs [-loopQ_n, hd, hc, h, h2, h3, hM, he, insC, w1, w2, insI_set]))) | (refine guardD_intro ?_ ?_ <;> (intro hd; have hc := hd; (try simp at hc) <;> (try simp -implicitDefEqProofs [-loopQ_n, hd, hc, h, h2, h3, hM, he, insC, w1, w2, insI_set]))) | (refine ldD_ep ?_ ?_; (focus kernel_rfl); (try simp -implicitDefEqProofs [-loopQ_n, h, h2, h3, hM, he, insC, w1, w2, insI_set])) | (refine callS_mk ?_; (try simp -implicitDefEqProofs [-loopQ_n, h, h2, h3, hM, he, insC, w1, w2, insI_set]); (first | refine callS_intro (hP) (.inl rfl) ?_); (try simp -implicitDefEqProofs [-loopQ_n, h, h2, h3, hM, he, insC, w1, w2, insI_set])))))
        refine loop_next (j + 1, i + 1, M.set i ⟨c, a, r, t1, t2, t3⟩) ⟨by simp only; omega, by simp only; omega, by simpa using hM, ?_, ?_, by rw [hts]; simp; omega⟩ (by simp only; omega) (weak_ofL 1 0 (by simp) (by simp) rfl ?_ ?_)
        · simp only
          rw [List.drop_set_of_lt (by omega)]; exact hd1
        · simp only
          rw [hts, ← ht]
          have hi2 : i < M.length := by omega
          rw [List.take_succ_eq_append_getElem (by simpa using hi2), List.take_set_of_le (Nat.le_refl _)]
          simp
        · simp
        · simp [ins_refs]
    · have hjn : j = n := by omega
      subst hjn
      have ht2 : M.take i = l.filter (fun x => !p x) := by rw [ht, List.take_of_length_le (by omega)]
      have q1 : (i : Int) ≤ j := by omega
      have q2 : 0 < j := by omega
      have q3 : i ≤ j := by omega
      have hil : (l.filter (fun x => !p x)).length = i := by rw [← ht2]; simp; omega
      have hP : (putR (rowsOf insC M) i (List.replicate (j - i) [AV.str ByteArray.empty, AV.str ByteArray.empty, AV.str ByteArray.empty, AV.int IntKind.i64 0, AV.int IntKind.i64 0, AV.int IntKind.i64 0])).length = j := by
        rw [putR_len (by simp [rowsOf]; omega), rowsOf_length, hM]
      have hT : (putR (rowsOf insC M) i (List.replicate (j - i) [AV.str ByteArray.empty, AV.str ByteArray.empty, AV.str ByteArray.empty, AV.int IntKind.i64 0, AV.int IntKind.i64 0, AV.int IntKind.i64 0])).take i = rowsOf insC (l.filter (fun x => !p x)) := by
        rw [putR_take (by rw [rowsOf_length]; omega), rowsOf_take, ht2]
      ((try simp -implicitDefEqProofs [-loopQ_n, h, hM, q1, q2, q3, hP]) <;> (repeat' (first | (refine condD_dec ?_ ?_ <;> (intro hc; (try simp -implicitDefEqProofs [-loopQ_n, hc, h, hM, q1, q2, q3, hP]))) | (refine guardD_dec ?_ ?_ <;> (intro hc; (try simp -implicitDefEqProofs [-loopQ_n, hc, h, hM, q1, q2, q3, hP]))) | (refine condD_intro ?_ ?_ <;> (intro hd; have hc := hd; (try simp at hc) <;> (try simp -implicitDefEqProofs [-loopQ_n, hd, hc, h, hM, q1, q2, q3, hP]))) | (refine guardD_intro ?_ ?_ <;> (intro hd; have hc := hd; (try simp at hc) <;> (try simp -implicitDefEqProofs [-loopQ_n, hd, hc, h, hM, q1, q2, q3, hP]))) | (refine ldD_ep ?_ ?_; (focus kernel_rfl); (try simp -implicitDefEqProofs [-loopQ_n, h, hM, q1, q2, q3, hP])))))
      generalize putR (rowsOf insC M) i (List.replicate (j - i) [AV.str ByteArray.empty, AV.str ByteArray.empty, AV.str ByteArray.empty, AV.int IntKind.i64 0, AV.int IntKind.i64 0, AV.int IntKind.i64 0]) = R at hP hT ⊢
      refine ⟨.ow 0 j 0 i, .os 1 i, [.gone, .row 26 nb (rowsOf insC (l.filter (fun x => !p x)))], by simp, ?_, .inr ⟨_, rfl, by rw [hil], rfl⟩⟩
      have := weak_mv (P := Try.prog) (L := 1) (s := ⟨[(0, .ow 0 j 0 i)], [.row 26 nb R]⟩) 0 j i 26 nb R rfl hP (by omega) (by omega)
      rw [hT] at this
      simpa [mvT, mvA, mvH, mvB, mvL, ins_mvL] using this
end Go.Proofs.Ytpgoefakhecdnaa
