/- Variants, events and logs: which are valid, which are the same (program and reference); few strings, few variants. -/
import Derived.Test.YtkionfcafifhdaaEl3
namespace Go.Proofs.Ytkionfcafifhdaa
set_option linter.unusedSimpArgs false
set_option linter.unusedVariables false
set_option linter.unnecessarySimpa false
set_option linter.unusedSectionVars false
open Go.RowKit
variable [Glob]
set_option maxRecDepth 100000
theorem tl_iff {x y : ByteArray} : (x.toList = y.toList) = (x = y) := propext ⟨fun h => ba_eq (by rw [ba_toList, ba_toList] at h; exact h), fun h => by rw [h]⟩
theorem nmE_idx {p : ByteArray → Bool} {l : List ByteArray} {g : Nat} {caps : List AV} (hp : ∀ x ∈ l, Pure Try.prog g (.str x :: caps) (.bool (p x))) (hc : ∀ H k, caps.mapM (reify H (k + 5)) = some caps) (hf : refsL 0 caps = true) (hl : l.length ≤ 9223372036854775807) :
    Pure Try.prog 65 [.rs (rowsOf strC l), .fn g caps] (.int .i64 (idxOf p l)) := by
  refine pure_of mixed Try.func65 rfl (by kernel_rfl) (of_decide_eq_true rfl) (by kernel_rfl) (vc_run ?_)
  simp -implicitDefEqProofs
  refine loop_intro (σ := Nat) (fun i => ⟨[(0, .rs (rowsOf strC l)), (1, .fn g caps), (7, .int .i64 l.length), (8, .int .i64 i)], []⟩) (fun i => i ≤ l.length ∧ allF p (l.take i)) (fun i => l.length - i) 0 ⟨Nat.zero_le _, allF_nil⟩ ?_ ?_
  · refine weak_of 0 0 rfl rfl ?_ ?_ <;> simp [hf]
  · rintro i ⟨hi, hall⟩
    by_cases h : i < l.length
    · simp -implicitDefEqProofs [h, strC]
      have hc8 : ∀ H, caps.mapM (reify H 8) = some caps := fun H => hc H 3
      refine call_intro (hp l[i] (by simp)) (by simp -implicitDefEqProofs [hc8, strC]) (.inl rfl) ?_
      by_cases hpx : p l[i] = true
      · simp -implicitDefEqProofs [hpx]
        exact (idxOf_some p l i h hall hpx).symm
      · have hpx : p l[i] = false := by simpa using hpx
        simp -implicitDefEqProofs [hpx]
        refine ⟨i + 1, ⟨by omega, allF_succ hall h hpx⟩, by omega, weak_of 0 0 rfl rfl ?_ ?_⟩
        · simp [hf]
          exact (wrap_in (by omega) (by omega)).symm
        · simp
    · simp -implicitDefEqProofs [h]
      rw [idxOf_none p l (allF_all hall h)]
theorem nmE_any {p : ByteArray → Bool} {l : List ByteArray} {g : Nat} {caps : List AV} (hp : ∀ x ∈ l, Pure Try.prog g (.str x :: caps) (.bool (p x))) (hc : ∀ H k, caps.mapM (reify H (k + 5)) = some caps) (hf : refsL 0 caps = true) (hl : l.length ≤ 9223372036854775807) :
    Pure Try.prog 43 [.rs (rowsOf strC l), .fn g caps] (.bool (l.any p)) := by
  refine pure_of mixed Try.func43 rfl (by kernel_rfl) (of_decide_eq_true rfl) (by kernel_rfl) (vc_run ?_)
  simp -implicitDefEqProofs
  have hc7 : ∀ H, caps.mapM (reify H 7) = some caps := fun H => hc H 2
  refine call_intro (nmE_idx hp hc hf hl) (by simp -implicitDefEqProofs [hc7]) (.inl rfl) ?_
  simp -implicitDefEqProofs
  rw [← ge_idxOf]

theorem enames1_pure (s : ByteArray) : Pure Try.prog 44 [.str s] (.bool (!isNameS s)) := by
  refine pure_of mixed Try.func44 rfl (by kernel_rfl) (of_decide_eq_true rfl) (by kernel_rfl) (vc_run ?_)
  ((try simp -implicitDefEqProofs [-loopQ_n]) <;> (repeat' (first | (refine condD_dec ?_ ?_ <;> (intro hc; (try simp -implicitDefEqProofs [-loopQ_n, hc]))) | (refine guardD_dec ?_ ?_ <;> (intro hc; (try simp -implicitDefEqProofs [-loopQ_n, hc]))) | (refine condD_intro ?_ ?_ <;> (intro hd; have hc := hd; (try simp at hc) <;> (try simp -implicitDefEqProofs [-loopQ_n, hd, hc]))) | (refine guardD_intro ?_ ?_ <;> (intro hd; have hc := hd; (try simp at hc) <;> (try simp -implicitDefEqProofs [-loopQ_n, hd, hc]))) | (refine ldD_ep ?_ ?_; (focus kernel_rfl); (try simp -implicitDefEqProofs [-loopQ_n])) | (refine callS_mk ?_; (try simp -implicitDefEqProofs [-loopQ_n]); (first | refine callS_intro (isName_pure s) (.inl rfl) ?_); (try simp -implicitDefEqProofs [-loopQ_n])))))
theorem enames_pure (l : List ByteArray) (hl : l.length ≤ 9223372036854775807) : Pure Try.prog 29 [.rs (rowsOf strC l)] (.bool (namesL l)) := by
  have hA := nmE_any (p := fun s => !isNameS s) (l := l) (g := 44) (caps := []) (fun x _ => enames1_pure x) (fun H k => rfl) rfl hl
  rw [show (l.any fun s => !isNameS s) = !namesL l by simp [namesL, List.any_eq_not_all_not]] at hA
  refine pure_of mixed Try.func29 rfl (by kernel_rfl) (of_decide_eq_true rfl) (by kernel_rfl) (vc_run ?_)
  ((try simp -implicitDefEqProofs [-loopQ_n]) <;> (repeat' (first | (refine condD_dec ?_ ?_ <;> (intro hc; (try simp -implicitDefEqProofs [-loopQ_n, hc]))) | (refine guardD_dec ?_ ?_ <;> (intro hc; (try simp -implicitDefEqProofs [-loopQ_n, hc]))) | (refine condD_intro ?_ ?_ <;> (intro hd; have hc := hd; (try simp at hc) <;> (try simp -implicitDefEqProofs [-loopQ_n, hd, hc]))) | (refine guardD_intro ?_ ?_ <;> (intro hd; have hc := hd; (try simp at hc) <;> (try simp -implicitDefEqProofs [-loopQ_n, hd, hc]))) | (refine ldD_ep ?_ ?_; (focus kernel_rfl); (try simp -implicitDefEqProofs [-loopQ_n])) | (refine callS_mk ?_; (try simp -implicitDefEqProofs [-loopQ_n]); (first | refine callS_intro (hA) (.inl rfl) ?_); (try simp -implicitDefEqProofs [-loopQ_n])))))
/-! Variants. -/
structure Vr where
  acts : List ByteArray
  count : Int
def vrC (v : Vr) : List AV := [.rs (rowsOf strC v.acts), .int .i64 v.count]
def vOk (v : Vr) : Bool := decide (v.acts.length ≤ 200) && namesL v.acts && decide (1 ≤ v.count) && decide (v.count ≤ 1048576)
def vFrom : Option Vr → List Vr → Bool
  | _, [] => true
  | none, v :: r => vOk v && vFrom (some v) r
  | some q, v :: r => vOk v && decide (cmpL q.acts v.acts < 0) && vFrom (some v) r
def pv (l : List Vr) (i : Nat) : Option Vr := if i = 0 then none else l[i - 1]?
theorem pv_zero {l : List Vr} : pv l 0 = none := rfl
theorem pv_succ {l : List Vr} {i : Nat} (h : i < l.length) : pv l (i + 1) = some l[i] := by simp [pv, h]
def vlV (l : List Vr) : Bool := decide (l.length ≤ 300) && vFrom none l
/-! The same fields, events, logs. -/
/-! Few strings, few variants. -/
def bigS (s : ByteArray) : Bool := decide ((60 : Int) < s.size)
def fewB (l : List ByteArray) : Bool := decide ((l.length : Int) ≤ 20) && !l.any bigS
def fewV (l : List Vr) : Bool := decide ((l.length : Int) ≤ 20) && !l.any fun v => !fewB v.acts
end Go.Proofs.Ytkionfcafifhdaa
