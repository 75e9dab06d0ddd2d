/- Groups that are diverse (program and reference). -/
import Derived.Test.YtkppfaennogcmaaPrvI
import Derived.Test.YtkppfaennogcmaaMapL
import Derived.Test.YtkppfaennogcmaaSrt0
namespace Go.Proofs.Ytkppfaennogcmaa
set_option linter.unusedSimpArgs false
set_option linter.unusedVariables false
set_option linter.unnecessarySimpa false
set_option linter.unusedSectionVars false
open Go.RowKit
variable [Glob]
set_option maxRecDepth 100000
theorem grF_idx {p : (List ByteArray) → Bool} {l : List (List ByteArray)} {g : Nat} {caps : List AV} (hp : ∀ x ∈ l, Pure Try.prog g (.rs (rowsOf strC x) :: caps) (.bool (p x))) (hc : ∀ H k, caps.mapM (reify H (k + 5)) = some caps) (hf : refsL 0 caps = true) (hl : l.length ≤ 9223372036854775807) :
    Pure Try.prog 72 [.rs (rowsOf grC l), .fn g caps] (.int .i64 (idxOf p l)) := by
  refine pure_of mixed Try.func72 rfl (by kernel_rfl) (of_decide_eq_true rfl) (by kernel_rfl) (vc_run ?_)
  simp -implicitDefEqProofs
  refine loop_intro (σ := Nat) (fun i => ⟨[(0, .rs (rowsOf grC l)), (1, .fn g caps), (7, .int .i64 l.length), (8, .int .i64 i)], []⟩) (fun i => i ≤ l.length ∧ allF p (l.take i)) (fun i => l.length - i) 0 ⟨Nat.zero_le _, allF_nil⟩ ?_ ?_
  · refine weak_of 0 0 rfl rfl ?_ ?_ <;> simp [hf]
  · rintro i ⟨hi, hall⟩
    by_cases h : i < l.length
    · simp -implicitDefEqProofs [h, grC]
      have hc8 : ∀ H, caps.mapM (reify H 8) = some caps := fun H => hc H 3
      refine call_intro (hp l[i] (by simp)) (by simp -implicitDefEqProofs [hc8, grC]) (.inl rfl) ?_
      by_cases hpx : p l[i] = true
      · simp -implicitDefEqProofs [hpx]
        exact (idxOf_some p l i h hall hpx).symm
      · have hpx : p l[i] = false := by simpa using hpx
        simp -implicitDefEqProofs [hpx]
        refine ⟨i + 1, ⟨by omega, allF_succ hall h hpx⟩, by omega, weak_of 0 0 rfl rfl ?_ ?_⟩
        · simp [hf]
          exact (wrap_in (by omega) (by omega)).symm
        · simp
    · simp -implicitDefEqProofs [h]
      rw [idxOf_none p l (allF_all hall h)]
theorem grF_any {p : (List ByteArray) → Bool} {l : List (List ByteArray)} {g : Nat} {caps : List AV} (hp : ∀ x ∈ l, Pure Try.prog g (.rs (rowsOf strC x) :: caps) (.bool (p x))) (hc : ∀ H k, caps.mapM (reify H (k + 5)) = some caps) (hf : refsL 0 caps = true) (hl : l.length ≤ 9223372036854775807) :
    Pure Try.prog 37 [.rs (rowsOf grC l), .fn g caps] (.bool (l.any p)) := by
  refine pure_of mixed Try.func37 rfl (by kernel_rfl) (of_decide_eq_true rfl) (by kernel_rfl) (vc_run ?_)
  simp -implicitDefEqProofs
  have hc7 : ∀ H, caps.mapM (reify H 7) = some caps := fun H => hc H 2
  refine call_intro (grF_idx hp hc hf hl) (by simp -implicitDefEqProofs [hc7]) (.inl rfl) ?_
  simp -implicitDefEqProofs
  rw [← ge_idxOf]

theorem gr_refs {m : Nat} {l : List (List ByteArray)} : refsR m (rowsOf grC l) = true := rowsOf_refs fun x => by simp [grC, refs, sw_refs]
def psK (x : ByteArray) : AV := .str x
def pbV (x : Bool) : AV := .bool x
theorem pmf_s {β : Type} {vc : β → AV} (k : ByteArray) (es : List (ByteArray × β)) : mfind (false, [2]) (.str k) (mE psK vc es) 0 = some ((afind k es 0).map fun e => (e.1, vc e.2)) := by
  refine mfind_E (kc := psK) (vc := vc) (ks := (false, [2])) (fun x y => ?_) k es 0
  simp only [keq, psK, eqCs, Option.some.injEq]
  by_cases h : y = x
  · subst h; simp
  · have : ¬ x.toList = y.toList := fun e => h (ba_eq (by rw [ba_toList, ba_toList] at e; exact e.symm))
    simp [h, this]
theorem pmp_s {β : Type} {vc : β → AV} (k : ByteArray) (v : β) (es : List (ByteArray × β)) : mput (mE psK vc es) ((afind k es 0).map fun e => (e.1, vc e.2)) (.str k) (vc v) = mE psK vc (aput es k v) := mput_E (kc := psK) es k v
theorem pafind_none {α β : Type} [DecidableEq α] {es : List (α × β)} {k : α} : ∀ i, afind k es i = none ↔ k ∉ es.map (·.1) := by
  induction es with
  | nil => intro i; simp [afind]
  | cons e r ih =>
    intro i
    simp only [afind]
    by_cases h : e.1 = k
    · simp [h]
    · have : ¬ k = e.1 := fun q => h q.symm
      simp only [if_neg h, ih, List.map_cons, List.mem_cons, this, false_or]
theorem paput_keys {α β : Type} [DecidableEq α] (es : List (α × β)) (k : α) (v : β) : (aput es k v).map (·.1) = if k ∈ es.map (·.1) then es.map (·.1) else es.map (·.1) ++ [k] := by
  unfold aput
  cases h : afind k es 0 with
  | none => rw [if_neg ((pafind_none 0).1 h)]; simp
  | some e =>
    have h1 : k ∈ es.map (·.1) := Classical.byContradiction fun q => by rw [(pafind_none 0).2 q] at h; cases h
    rw [if_pos h1]
    obtain ⟨i, w⟩ := e
    have h2 := afind_eq h
    refine List.ext_getElem? fun j => ?_
    simp only [List.getElem?_map, List.getElem?_set]
    by_cases e1 : i = j
    · subst e1
      have := (List.getElem?_eq_some_iff.1 h2).1
      have h3 : es[i] = (k, w) := by rw [List.getElem?_eq_getElem this] at h2; simpa using h2
      simp [this, h3]
    · simp [e1]
theorem insG_len (s : ByteArray) : ∀ l : List ByteArray, (insG s l).length = l.length + 1 := by
  intro l
  induction l with
  | nil => rfl
  | cons x q ih => simp only [insG]; split <;> simp [ih]
/-- The map's keys are the list's elements, as many of them. -/
def kSame (es : List (ByteArray × Bool)) (acc : List ByteArray) : Prop := es.length = acc.length ∧ ∀ x, x ∈ es.map (·.1) ↔ x ∈ acc
theorem kSame.put {es : List (ByteArray × Bool)} {acc : List ByteArray} (h : kSame es acc) (c : ByteArray) : kSame (aput es c true) (insB acc c) := by
  obtain ⟨h1, h2⟩ := h
  have hk := paput_keys es c true
  have hlen := congrArg List.length hk
  rw [List.length_map] at hlen
  by_cases hc : c ∈ es.map (·.1)
  · rw [if_pos hc] at hk hlen
    rw [List.length_map] at hlen
    have hi : insB acc c = acc := by unfold insB; rw [if_pos (hasB_iff.2 ((h2 c).1 hc))]
    exact ⟨by rw [hlen, hi, h1], fun x => by rw [hk, hi]; exact h2 x⟩
  · rw [if_neg hc] at hk hlen
    have hi : insB acc c = insG c acc := by
      unfold insB
      rw [if_neg fun q => hc ((h2 c).2 (hasB_iff.1 q))]
    refine ⟨by rw [hlen, hi, insG_len, ← h1]; simp, fun x => ?_⟩
    rw [hk, hi, mem_insG, List.mem_append, List.mem_singleton, h2]
    exact Or.comm
def insAll (l : List ByteArray) (i : Nat) (acc : List ByteArray) : Nat := ((l.drop i).foldl insB acc).length
theorem insAll_step {l : List ByteArray} {i : Nat} {acc : List ByteArray} (h : i < l.length) : insAll l i acc = insAll l (i + 1) (insB acc l[i]) := by
  unfold insAll; rw [List.drop_eq_getElem_cons h, List.foldl_cons]
theorem insAll_end {l : List ByteArray} {i : Nat} {acc : List ByteArray} (h : l.length ≤ i) : insAll l i acc = acc.length := by
  unfold insAll; rw [List.drop_eq_nil_of_le h, List.foldl_nil]
def diffN (g : List ByteArray) : Nat := insAll g 0 []
def fewD (n : Int) (g : List ByteArray) : Bool := decide ((diffN g : Int) < n)
def divR (G : List (List ByteArray)) (n : Int) : Bool × Int :=
  if (G.all namesL) = false then (false, 1) else if n < 1 ∨ 1000 < n then (false, 2) else if 1000 < G.length ∨ (G.any fun g => decide (1000 < g.length)) = true then (false, 5) else (!(G.any (fewD n)), 0)
def divV (R : Bool × Int) : AV := .tup [.bool R.1, .int .i64 R.2]
theorem div1_pure (s : ByteArray) : Pure Try.prog 74 [.str s] (.bool (!isNameS s)) := by
  refine pure_of mixed Try.func74 rfl (by kernel_rfl) (of_decide_eq_true rfl) (by kernel_rfl) (vc_run ?_)
  ((try simp -implicitDefEqProofs [-loopQ_n]) <;> (repeat' (first | (refine condD_dec ?_ ?_ <;> (intro hc; (try simp -implicitDefEqProofs [-loopQ_n, hc]))) | (refine guardD_dec ?_ ?_ <;> (intro hc; (try simp -implicitDefEqProofs [-loopQ_n, hc]))) | (refine condD_intro ?_ ?_ <;> (intro hd; have hc := hd; (try simp at hc) <;> (try simp -implicitDefEqProofs [-loopQ_n, hd, hc]))) | (refine guardD_intro ?_ ?_ <;> (intro hd; have hc := hd; (try simp at hc) <;> (try simp -implicitDefEqProofs [-loopQ_n, hd, hc]))) | (refine ldD_ep ?_ ?_; (focus kernel_rfl); (try simp -implicitDefEqProofs [-loopQ_n])) | (refine callS_mk ?_; (try simp -implicitDefEqProofs [-loopQ_n]); (first | refine callS_intro (isName_pure s) (.inl rfl) ?_); (try simp -implicitDefEqProofs [-loopQ_n])))))
theorem div2_pure (g : List ByteArray) : Pure Try.prog 76 [.rs (rowsOf strC g)] (.bool (decide (1000 < g.length))) := by
  refine pure_of mixed Try.func76 rfl (by kernel_rfl) (of_decide_eq_true rfl) (by kernel_rfl) (vc_run ?_)
  ((try simp -implicitDefEqProofs [-loopQ_n]) <;> (repeat' (first | (refine condD_dec ?_ ?_ <;> (intro hc; (try simp -implicitDefEqProofs [-loopQ_n, hc]))) | (refine guardD_dec ?_ ?_ <;> (intro hc; (try simp -implicitDefEqProofs [-loopQ_n, hc]))) | (refine condD_intro ?_ ?_ <;> (intro hd; have hc := hd; (try simp at hc) <;> (try simp -implicitDefEqProofs [-loopQ_n, hd, hc]))) | (refine guardD_intro ?_ ?_ <;> (intro hd; have hc := hd; (try simp at hc) <;> (try simp -implicitDefEqProofs [-loopQ_n, hd, hc]))) | (refine ldD_ep ?_ ?_; (focus kernel_rfl); (try simp -implicitDefEqProofs [-loopQ_n])))))
  omega
def anyFew (n : Int) (G : List (List ByteArray)) (i : Nat) : Bool := (G.drop i).any (fewD n)
set_option maxHeartbeats 16000000 in
theorem div_pure (G : List (List ByteArray)) (n : Int) (hG : G.length ≤ 1100) (hg : ∀ g ∈ G, g.length ≤ 1100) : Pure Try.prog 40 [.rs (rowsOf grC G), .int .i64 n] (divV (divR G n)) := by
  have hF := grF_any (p := fun g => decide (1000 < g.length)) (l := G) (g := 76) (caps := []) (fun x _ => div2_pure x) (fun H k => rfl) rfl (by omega)
  refine pure_of mixed Try.func40 rfl (by kernel_rfl) (of_decide_eq_true rfl) (by kernel_rfl) (vc_run ?_)
  ((try simp -implicitDefEqProofs [-loopQ_n]) <;> (repeat' (first | (refine condD_dec ?_ ?_ <;> (intro hc; (try simp -implicitDefEqProofs [-loopQ_n, hc]))) | (refine guardD_dec ?_ ?_ <;> (intro hc; (try simp -implicitDefEqProofs [-loopQ_n, hc]))) | (refine condD_intro ?_ ?_ <;> (intro hd; have hc := hd; (try simp at hc) <;> (try simp -implicitDefEqProofs [-loopQ_n, hd, hc]))) | (refine guardD_intro ?_ ?_ <;> (intro hd; have hc := hd; (try simp at hc) <;> (try simp -implicitDefEqProofs [-loopQ_n, hd, hc]))) | (refine ldD_ep ?_ ?_; (focus kernel_rfl); (try simp -implicitDefEqProofs [-loopQ_n])))))
  refine loop_intro (σ := Nat) (fun i => ⟨[(0, .rs (rowsOf grC G)), (1, .int .i64 n), (13, .rs (rowsOf grC G)), (14, .int .i64 G.length), (15, .int .i64 i)], []⟩)
    (fun i => i ≤ G.length ∧ (G.all namesL) = ((G.drop i).all namesL)) (fun i => G.length - i) 0 ⟨by simp, by simp⟩ ?_ ?_
  · refine weak_of 0 0 rfl rfl ?_ ?_ <;> simp
  rintro i ⟨hi, hR⟩
  by_cases h : i < G.length
  · have w1 : wrapI .i64 ((i : Int) + 1) = (i : Int) + 1 := wrap_in (by omega) (by omega)
    obtain ⟨g, hx⟩ : ∃ x, G[i] = x := ⟨_, rfl⟩
    have hgl := hg G[i] (by simp)
    rw [hx] at hgl
    rw [List.drop_eq_getElem_cons h, List.all_cons, hx] at hR
    have hQ := strF_any (p := fun s => !isNameS s) (l := g) (g := 74) (caps := []) (fun x _ => div1_pure x) (fun H k => rfl) rfl (by omega)
    rw [show (g.any fun s => !isNameS s) = !namesL g by simp [namesL, List.any_eq_not_all_not]] at hQ
    cases c : namesL g with
    | false =>
      rw [c] at hQ hR
      have : divR G n = (false, 1) := by unfold divR; rw [if_pos (by rw [hR]; simp)]
      rw [this]
      ((try simp -implicitDefEqProofs [-loopQ_n, h, hx, grC, divV]) <;> (repeat' (first | (refine condD_dec ?_ ?_ <;> (intro hc; (try simp -implicitDefEqProofs [-loopQ_n, hc, h, hx, grC, divV]))) | (refine guardD_dec ?_ ?_ <;> (intro hc; (try simp -implicitDefEqProofs [-loopQ_n, hc, h, hx, grC, divV]))) | (refine condD_intro ?_ ?_ <;> (intro hd; have hc := hd; (try simp at hc) <;> (try simp -implicitDefEqProofs [-loopQ_n, hd, hc, h, hx, grC, divV]))) | (refine guardD_intro ?_ ?_ <;> (intro hd; have hc := hd; (try simp at hc) <;> (try simp -implicitDefEqProofs [-loopQ_n, hd, hc, h, hx, grC, divV]))) | (refine ldD_ep ?_ ?_; (focus kernel_rfl); (try simp -implicitDefEqProofs [-loopQ_n, h, hx, grC, divV])) | (refine callS_mk ?_; (try simp -implicitDefEqProofs [-loopQ_n, h, hx, grC, divV]); (first | refine callS_intro (hQ) (.inl rfl) ?_); (try simp -implicitDefEqProofs [-loopQ_n, h, hx, grC, divV])))))
    | true =>
      rw [c] at hQ
      rw [c, Bool.true_and] at hR
      ((try simp -implicitDefEqProofs [-loopQ_n, h, hx, grC]) <;> (repeat' (first | (refine condD_dec ?_ ?_ <;> (intro hc; (try simp -implicitDefEqProofs [-loopQ_n, hc, h, hx, grC]))) | (refine guardD_dec ?_ ?_ <;> (intro hc; (try simp -implicitDefEqProofs [-loopQ_n, hc, h, hx, grC]))) | (refine condD_intro ?_ ?_ <;> (intro hd; have hc := hd; (try simp at hc) <;> (try simp -implicitDefEqProofs [-loopQ_n, hd, hc, h, hx, grC]))) | (refine guardD_intro ?_ ?_ <;> (intro hd; have hc := hd; (try simp at hc) <;> (try simp -implicitDefEqProofs [-loopQ_n, hd, hc, h, hx, grC]))) | (refine ldD_ep ?_ ?_; (focus kernel_rfl); (try simp -implicitDefEqProofs [-loopQ_n, h, hx, grC])) | (refine callS_mk ?_; (try simp -implicitDefEqProofs [-loopQ_n, h, hx, grC]); (first | refine callS_intro (hQ) (.inl rfl) ?_); (try simp -implicitDefEqProofs [-loopQ_n, h, hx, grC])))))
      refine loop_next (i + 1) ⟨by omega, hR⟩ (by omega) (weak_of 0 0 rfl rfl ?_ ?_) <;> simp [w1]
  have hall : (G.all namesL) = true := by rw [hR, List.drop_eq_nil_of_le (by omega)]; rfl
  clear hR
  by_cases n1 : n < 1
  · have : divR G n = (false, 2) := by unfold divR; rw [if_neg (by simp [hall]), if_pos (.inl n1)]
    rw [this]
    ((try simp -implicitDefEqProofs [-loopQ_n, h, n1, divV]) <;> (repeat' (first | (refine condD_dec ?_ ?_ <;> (intro hc; (try simp -implicitDefEqProofs [-loopQ_n, hc, h, n1, divV]))) | (refine guardD_dec ?_ ?_ <;> (intro hc; (try simp -implicitDefEqProofs [-loopQ_n, hc, h, n1, divV]))) | (refine condD_intro ?_ ?_ <;> (intro hd; have hc := hd; (try simp at hc) <;> (try simp -implicitDefEqProofs [-loopQ_n, hd, hc, h, n1, divV]))) | (refine guardD_intro ?_ ?_ <;> (intro hd; have hc := hd; (try simp at hc) <;> (try simp -implicitDefEqProofs [-loopQ_n, hd, hc, h, n1, divV]))) | (refine ldD_ep ?_ ?_; (focus kernel_rfl); (try simp -implicitDefEqProofs [-loopQ_n, h, n1, divV])))))
  by_cases n2 : 1000 < n
  · have : divR G n = (false, 2) := by unfold divR; rw [if_neg (by simp [hall]), if_pos (.inr n2)]
    rw [this]
    ((try simp -implicitDefEqProofs [-loopQ_n, h, n1, n2, divV]) <;> (repeat' (first | (refine condD_dec ?_ ?_ <;> (intro hc; (try simp -implicitDefEqProofs [-loopQ_n, hc, h, n1, n2, divV]))) | (refine guardD_dec ?_ ?_ <;> (intro hc; (try simp -implicitDefEqProofs [-loopQ_n, hc, h, n1, n2, divV]))) | (refine condD_intro ?_ ?_ <;> (intro hd; have hc := hd; (try simp at hc) <;> (try simp -implicitDefEqProofs [-loopQ_n, hd, hc, h, n1, n2, divV]))) | (refine guardD_intro ?_ ?_ <;> (intro hd; have hc := hd; (try simp at hc) <;> (try simp -implicitDefEqProofs [-loopQ_n, hd, hc, h, n1, n2, divV]))) | (refine ldD_ep ?_ ?_; (focus kernel_rfl); (try simp -implicitDefEqProofs [-loopQ_n, h, n1, n2, divV])))))
  by_cases n3 : 1000 < G.length
  · have n3' : (1000 : Int) < G.length := by omega
    have : divR G n = (false, 5) := by unfold divR; rw [if_neg (by simp [hall]), if_neg (by omega), if_pos (.inl n3)]
    rw [this]
    ((try simp -implicitDefEqProofs [-loopQ_n, h, n1, n2, n3, n3', divV]) <;> (repeat' (first | (refine condD_dec ?_ ?_ <;> (intro hc; (try simp -implicitDefEqProofs [-loopQ_n, hc, h, n1, n2, n3, n3', divV]))) | (refine guardD_dec ?_ ?_ <;> (intro hc; (try simp -implicitDefEqProofs [-loopQ_n, hc, h, n1, n2, n3, n3', divV]))) | (refine condD_intro ?_ ?_ <;> (intro hd; have hc := hd; (try simp at hc) <;> (try simp -implicitDefEqProofs [-loopQ_n, hd, hc, h, n1, n2, n3, n3', divV]))) | (refine guardD_intro ?_ ?_ <;> (intro hd; have hc := hd; (try simp at hc) <;> (try simp -implicitDefEqProofs [-loopQ_n, hd, hc, h, n1, n2, n3, n3', divV]))) | (refine ldD_ep ?_ ?_; (focus kernel_rfl); (try simp -implicitDefEqProofs [-loopQ_n, h, n1, n2, n3, n3', divV])))))
  have n3' : ¬ (1000 : Int) < G.length := by omega
  cases n4 : (G.any fun g => decide (1000 < g.length)) with
  | true =>
    have : divR G n = (false, 5) := by unfold divR; rw [if_neg (by simp [hall]), if_neg (by omega), if_pos (.inr n4)]
    rw [this]
    rw [n4] at hF
    ((try simp -implicitDefEqProofs [-loopQ_n, h, n1, n2, n3, n3', divV]) <;> (repeat' (first | (refine condD_dec ?_ ?_ <;> (intro hc; (try simp -implicitDefEqProofs [-loopQ_n, hc, h, n1, n2, n3, n3', divV]))) | (refine guardD_dec ?_ ?_ <;> (intro hc; (try simp -implicitDefEqProofs [-loopQ_n, hc, h, n1, n2, n3, n3', divV]))) | (refine condD_intro ?_ ?_ <;> (intro hd; have hc := hd; (try simp at hc) <;> (try simp -implicitDefEqProofs [-loopQ_n, hd, hc, h, n1, n2, n3, n3', divV]))) | (refine guardD_intro ?_ ?_ <;> (intro hd; have hc := hd; (try simp at hc) <;> (try simp -implicitDefEqProofs [-loopQ_n, hd, hc, h, n1, n2, n3, n3', divV]))) | (refine ldD_ep ?_ ?_; (focus kernel_rfl); (try simp -implicitDefEqProofs [-loopQ_n, h, n1, n2, n3, n3', divV])) | (refine callS_mk ?_; (try simp -implicitDefEqProofs [-loopQ_n, h, n1, n2, n3, n3', divV]); (first | refine callS_intro (hF) (.inl rfl) ?_); (try simp -implicitDefEqProofs [-loopQ_n, h, n1, n2, n3, n3', divV])))))
  | false =>
    obtain ⟨b, hb⟩ : ∃ b, G.any (fewD n) = b := ⟨_, rfl⟩
    have : divR G n = (!b, 0) := by unfold divR; rw [if_neg (by simp [hall]), if_neg (by omega), if_neg (by simp [n3, n4]), hb]
    rw [this]
    rw [n4] at hF
    ((try simp -implicitDefEqProofs [-loopQ_n, h, n1, n2, n3, n3']) <;> (repeat' (first | (refine condD_dec ?_ ?_ <;> (intro hc; (try simp -implicitDefEqProofs [-loopQ_n, hc, h, n1, n2, n3, n3']))) | (refine guardD_dec ?_ ?_ <;> (intro hc; (try simp -implicitDefEqProofs [-loopQ_n, hc, h, n1, n2, n3, n3']))) | (refine condD_intro ?_ ?_ <;> (intro hd; have hc := hd; (try simp at hc) <;> (try simp -implicitDefEqProofs [-loopQ_n, hd, hc, h, n1, n2, n3, n3']))) | (refine guardD_intro ?_ ?_ <;> (intro hd; have hc := hd; (try simp at hc) <;> (try simp -implicitDefEqProofs [-loopQ_n, hd, hc, h, n1, n2, n3, n3']))) | (refine ldD_ep ?_ ?_; (focus kernel_rfl); (try simp -implicitDefEqProofs [-loopQ_n, h, n1, n2, n3, n3'])) | (refine callS_mk ?_; (try simp -implicitDefEqProofs [-loopQ_n, h, n1, n2, n3, n3']); (first | refine callS_intro (hF) (.inl rfl) ?_); (try simp -implicitDefEqProofs [-loopQ_n, h, n1, n2, n3, n3'])))))
    refine loop_intro (σ := Nat) (fun i => ⟨[(1, .int .i64 n), (37, .rs (rowsOf grC G)), (38, .int .i64 G.length), (39, .int .i64 i)], []⟩)
      (fun i => i ≤ G.length ∧ anyFew n G i = b) (fun i => G.length - i) 0 ⟨by simp, by simpa [anyFew] using hb⟩ ?_ ?_
    · refine weak_of 0 0 rfl rfl ?_ ?_ <;> simp
    clear hb this hF n4 hall h hi i
    rintro i ⟨hi, hR⟩
    by_cases h : i < G.length
    · have w1 : wrapI .i64 ((i : Int) + 1) = (i : Int) + 1 := wrap_in (by omega) (by omega)
      obtain ⟨g, hx⟩ : ∃ x, G[i] = x := ⟨_, rfl⟩
      have hgl := hg G[i] (by simp)
      rw [hx] at hgl
      have hR2 : (fewD n g || anyFew n G (i + 1)) = b := by
        unfold anyFew at hR ⊢
        rw [List.drop_eq_getElem_cons h, List.any_cons, hx] at hR
        exact hR
      obtain ⟨D, hD⟩ : ∃ D, diffN g = D := ⟨_, rfl⟩
      have hfew : fewD n g = decide ((D : Int) < n) := by unfold fewD; rw [hD]
      ((try simp -implicitDefEqProofs [-loopQ_n, h, hx, grC]) <;> (repeat' (first | (refine condD_dec ?_ ?_ <;> (intro hc; (try simp -implicitDefEqProofs [-loopQ_n, hc, h, hx, grC]))) | (refine guardD_dec ?_ ?_ <;> (intro hc; (try simp -implicitDefEqProofs [-loopQ_n, hc, h, hx, grC]))) | (refine condD_intro ?_ ?_ <;> (intro hd; have hc := hd; (try simp at hc) <;> (try simp -implicitDefEqProofs [-loopQ_n, hd, hc, h, hx, grC]))) | (refine guardD_intro ?_ ?_ <;> (intro hd; have hc := hd; (try simp at hc) <;> (try simp -implicitDefEqProofs [-loopQ_n, hd, hc, h, hx, grC]))) | (refine ldD_ep ?_ ?_; (focus kernel_rfl); (try simp -implicitDefEqProofs [-loopQ_n, h, hx, grC])))))
      refine loop_intro (σ := Nat × List (ByteArray × Bool) × List ByteArray) (fun x => ⟨[(1, .int .i64 n), (10, .mp 0), (37, .rs (rowsOf grC G)), (38, .int .i64 G.length), (39, .int .i64 i), (44, .rs (rowsOf strC g)), (45, .int .i64 g.length), (46, .int .i64 x.1)], [.map (mE psK pbV x.2.1)]⟩)
        (fun x => x.1 ≤ g.length ∧ kSame x.2.1 x.2.2 ∧ insAll g x.1 x.2.2 = D) (fun x => g.length - x.1) (0, [], []) ⟨by simp, by simp [kSame], hD⟩ ?_ ?_
      · refine weak_of 1 0 rfl rfl ?_ ?_ <;> simp [mE, refsM]
      rintro ⟨j, es, acc⟩ ⟨hj, hk, hI⟩
      simp only at hj hk hI
      by_cases hh : j < g.length
      · have w2 : wrapI .i64 ((j : Int) + 1) = ((j + 1 : Nat) : Int) := by rw [wrap_in (by omega) (by omega)]; omega
        obtain ⟨s, hs⟩ : ∃ x, g[j] = x := ⟨_, rfl⟩
        have hmp := pmp_s (vc := pbV) s true es
        rw [insAll_step hh, hs] at hI
        ((try simp -implicitDefEqProofs [-loopQ_n, hh, hs, strC, pmf_s, hmp]) <;> (repeat' (first | (refine condD_dec ?_ ?_ <;> (intro hc; (try simp -implicitDefEqProofs [-loopQ_n, hc, hh, hs, strC, pmf_s, hmp]))) | (refine guardD_dec ?_ ?_ <;> (intro hc; (try simp -implicitDefEqProofs [-loopQ_n, hc, hh, hs, strC, pmf_s, hmp]))) | (refine condD_intro ?_ ?_ <;> (intro hd; have hc := hd; (try simp at hc) <;> (try simp -implicitDefEqProofs [-loopQ_n, hd, hc, hh, hs, strC, pmf_s, hmp]))) | (refine guardD_intro ?_ ?_ <;> (intro hd; have hc := hd; (try simp at hc) <;> (try simp -implicitDefEqProofs [-loopQ_n, hd, hc, hh, hs, strC, pmf_s, hmp]))) | (refine ldD_ep ?_ ?_; (focus kernel_rfl); (try simp -implicitDefEqProofs [-loopQ_n, hh, hs, strC, pmf_s, hmp])))))
        refine loop_next (j + 1, aput es s true, insB acc s) ⟨by simp only; omega, hk.put s, hI⟩ (by simp only; omega) (weak_of 1 0 rfl rfl (by simp [w2]) ⟨⟨hmp.symm, ?_⟩, trivial⟩)
        show refsM 1 (mput (mE psK pbV es) ((afind s es 0).map fun e => (e.1, pbV e.2)) (.str s) (pbV true)) = true
        rw [hmp]
        exact mE_refs (fun x => by simp [psK, refs]) fun x => by simp [pbV, refs]
      · rw [insAll_end (by omega), ← hk.1] at hI
        have hL : (mE psK pbV es).length = D := by rw [mE_len]; exact hI
        by_cases c : (D : Int) < n
        · have : b = true := by rw [← hR2, hfew]; simp [c]
          subst this
          ((try simp -implicitDefEqProofs [-loopQ_n, hh, hL, c, divV]) <;> (repeat' (first | (refine condD_dec ?_ ?_ <;> (intro hc; (try simp -implicitDefEqProofs [-loopQ_n, hc, hh, hL, c, divV]))) | (refine guardD_dec ?_ ?_ <;> (intro hc; (try simp -implicitDefEqProofs [-loopQ_n, hc, hh, hL, c, divV]))) | (refine condD_intro ?_ ?_ <;> (intro hd; have hc := hd; (try simp at hc) <;> (try simp -implicitDefEqProofs [-loopQ_n, hd, hc, hh, hL, c, divV]))) | (refine guardD_intro ?_ ?_ <;> (intro hd; have hc := hd; (try simp at hc) <;> (try simp -implicitDefEqProofs [-loopQ_n, hd, hc, hh, hL, c, divV]))) | (refine ldD_ep ?_ ?_; (focus kernel_rfl); (try simp -implicitDefEqProofs [-loopQ_n, hh, hL, c, divV])))))
        · have hR3 : anyFew n G (i + 1) = b := by rw [← hR2, hfew]; simp [c]
          ((try simp -implicitDefEqProofs [-loopQ_n, hh, hL, c, w1]) <;> (repeat' (first | (refine condD_dec ?_ ?_ <;> (intro hc; (try simp -implicitDefEqProofs [-loopQ_n, hc, hh, hL, c, w1]))) | (refine guardD_dec ?_ ?_ <;> (intro hc; (try simp -implicitDefEqProofs [-loopQ_n, hc, hh, hL, c, w1]))) | (refine condD_intro ?_ ?_ <;> (intro hd; have hc := hd; (try simp at hc) <;> (try simp -implicitDefEqProofs [-loopQ_n, hd, hc, hh, hL, c, w1]))) | (refine guardD_intro ?_ ?_ <;> (intro hd; have hc := hd; (try simp at hc) <;> (try simp -implicitDefEqProofs [-loopQ_n, hd, hc, hh, hL, c, w1]))) | (refine ldD_ep ?_ ?_; (focus kernel_rfl); (try simp -implicitDefEqProofs [-loopQ_n, hh, hL, c, w1])))))
          refine loop_next (i + 1) ⟨by omega, hR3⟩ (by omega) (weak_of 0 0 rfl rfl ?_ ?_) <;> simp [w1]
    · have : b = false := by rw [← hR]; unfold anyFew; rw [List.drop_eq_nil_of_le (by omega)]; rfl
      subst this
      ((try simp -implicitDefEqProofs [-loopQ_n, h, divV]) <;> (repeat' (first | (refine condD_dec ?_ ?_ <;> (intro hc; (try simp -implicitDefEqProofs [-loopQ_n, hc, h, divV]))) | (refine guardD_dec ?_ ?_ <;> (intro hc; (try simp -implicitDefEqProofs [-loopQ_n, hc, h, divV]))) | (refine condD_intro ?_ ?_ <;> (intro hd; have hc := hd; (try simp at hc) <;> (try simp -implicitDefEqProofs [-loopQ_n, hd, hc, h, divV]))) | (refine guardD_intro ?_ ?_ <;> (intro hd; have hc := hd; (try simp at hc) <;> (try simp -implicitDefEqProofs [-loopQ_n, hd, hc, h, divV]))) | (refine ldD_ep ?_ ?_; (focus kernel_rfl); (try simp -implicitDefEqProofs [-loopQ_n, h, divV])))))
set_option maxHeartbeats 16000000 in
theorem rdiv_pure (G : List (List ByteArray)) (n : Int) (hG : G.length ≤ 1100) (hg : ∀ g ∈ G, g.length ≤ 1100) : Pure Try.prog 41 [.rs (rowsOf grC G), .int .i64 n] (divV (divR G n)) := by
  obtain ⟨fu, hfu⟩ : ∃ fu, (decide (1000 < G.length) || G.any fun g => decide (1000 < g.length)) = fu := ⟨_, rfl⟩
  have hfu0 : decide ((1000 : Int) < G.length) = decide (1000 < G.length) := by congr 1; simp only [eq_iff_iff]; omega
  refine pure_of mixed Try.func41 rfl (by kernel_rfl) (of_decide_eq_true rfl) (by kernel_rfl) (vc_run ?_)
  ((try simp -implicitDefEqProofs [-loopQ_n]) <;> (repeat' (first | (refine condD_dec ?_ ?_ <;> (intro hc; (try simp -implicitDefEqProofs [-loopQ_n, hc]))) | (refine guardD_dec ?_ ?_ <;> (intro hc; (try simp -implicitDefEqProofs [-loopQ_n, hc]))) | (refine condD_intro ?_ ?_ <;> (intro hd; have hc := hd; (try simp at hc) <;> (try simp -implicitDefEqProofs [-loopQ_n, hd, hc]))) | (refine guardD_intro ?_ ?_ <;> (intro hd; have hc := hd; (try simp at hc) <;> (try simp -implicitDefEqProofs [-loopQ_n, hd, hc]))) | (refine ldD_ep ?_ ?_; (focus kernel_rfl); (try simp -implicitDefEqProofs [-loopQ_n])))))
  refine loop_intro (σ := Nat × Bool) (fun x => ⟨[(0, .rs (rowsOf grC G)), (1, .int .i64 n), (6, .bool x.2), (7, .int .i64 x.1)], []⟩)
    (fun x => x.1 ≤ G.length ∧ (G.all namesL) = ((G.drop x.1).all namesL) ∧ (x.2 || (G.drop x.1).any fun g => decide (1000 < g.length)) = fu) (fun x => G.length - x.1) (0, decide (1000 < G.length)) ⟨by simp, by simp, by simpa using hfu⟩ ?_ ?_
  · refine weak_of 0 0 rfl rfl ?_ ?_ <;> simp
    omega
  rintro ⟨i, f⟩ ⟨hi, hR, hf⟩
  simp only at hi hR hf
  by_cases h : i < G.length
  · have w1 : wrapI .i64 ((i : Int) + 1) = (i : Int) + 1 := wrap_in (by omega) (by omega)
    obtain ⟨g, hx⟩ : ∃ x, G[i] = x := ⟨_, rfl⟩
    have hgl := hg G[i] (by simp)
    rw [hx] at hgl
    rw [List.drop_eq_getElem_cons h, List.all_cons, hx] at hR
    rw [List.drop_eq_getElem_cons h, List.any_cons, hx] at hf
    have hQ := rnames_pure g (by omega)
    cases c : namesL g with
    | false =>
      rw [c] at hQ hR
      have : divR G n = (false, 1) := by unfold divR; rw [if_pos (by rw [hR]; simp)]
      rw [this]
      ((try simp -implicitDefEqProofs [-loopQ_n, h, hx, grC, divV]) <;> (repeat' (first | (refine condD_dec ?_ ?_ <;> (intro hc; (try simp -implicitDefEqProofs [-loopQ_n, hc, h, hx, grC, divV]))) | (refine guardD_dec ?_ ?_ <;> (intro hc; (try simp -implicitDefEqProofs [-loopQ_n, hc, h, hx, grC, divV]))) | (refine condD_intro ?_ ?_ <;> (intro hd; have hc := hd; (try simp at hc) <;> (try simp -implicitDefEqProofs [-loopQ_n, hd, hc, h, hx, grC, divV]))) | (refine guardD_intro ?_ ?_ <;> (intro hd; have hc := hd; (try simp at hc) <;> (try simp -implicitDefEqProofs [-loopQ_n, hd, hc, h, hx, grC, divV]))) | (refine ldD_ep ?_ ?_; (focus kernel_rfl); (try simp -implicitDefEqProofs [-loopQ_n, h, hx, grC, divV])) | (refine callS_mk ?_; (try simp -implicitDefEqProofs [-loopQ_n, h, hx, grC, divV]); (first | refine callS_intro (hQ) (.inl rfl) ?_); (try simp -implicitDefEqProofs [-loopQ_n, h, hx, grC, divV])))))
    | true =>
      rw [c] at hQ
      rw [c, Bool.true_and] at hR
      cases f with
      | true =>
        ((try simp -implicitDefEqProofs [-loopQ_n, h, hx, grC]) <;> (repeat' (first | (refine condD_dec ?_ ?_ <;> (intro hc; (try simp -implicitDefEqProofs [-loopQ_n, hc, h, hx, grC]))) | (refine guardD_dec ?_ ?_ <;> (intro hc; (try simp -implicitDefEqProofs [-loopQ_n, hc, h, hx, grC]))) | (refine condD_intro ?_ ?_ <;> (intro hd; have hc := hd; (try simp at hc) <;> (try simp -implicitDefEqProofs [-loopQ_n, hd, hc, h, hx, grC]))) | (refine guardD_intro ?_ ?_ <;> (intro hd; have hc := hd; (try simp at hc) <;> (try simp -implicitDefEqProofs [-loopQ_n, hd, hc, h, hx, grC]))) | (refine ldD_ep ?_ ?_; (focus kernel_rfl); (try simp -implicitDefEqProofs [-loopQ_n, h, hx, grC])) | (refine callS_mk ?_; (try simp -implicitDefEqProofs [-loopQ_n, h, hx, grC]); (first | refine callS_intro (hQ) (.inl rfl) ?_); (try simp -implicitDefEqProofs [-loopQ_n, h, hx, grC])))))
        refine loop_next (i + 1, true) ⟨by simp only; omega, hR, by simpa using hf⟩ (by simp only; omega) (weak_of 0 0 rfl rfl ?_ ?_) <;> simp [w1]
      | false =>
        by_cases c2 : 1000 < g.length
        · have c2' : (1000 : Int) < g.length := by omega
          ((try simp -implicitDefEqProofs [-loopQ_n, h, hx, grC, c2, c2']) <;> (repeat' (first | (refine condD_dec ?_ ?_ <;> (intro hc; (try simp -implicitDefEqProofs [-loopQ_n, hc, h, hx, grC, c2, c2']))) | (refine guardD_dec ?_ ?_ <;> (intro hc; (try simp -implicitDefEqProofs [-loopQ_n, hc, h, hx, grC, c2, c2']))) | (refine condD_intro ?_ ?_ <;> (intro hd; have hc := hd; (try simp at hc) <;> (try simp -implicitDefEqProofs [-loopQ_n, hd, hc, h, hx, grC, c2, c2']))) | (refine guardD_intro ?_ ?_ <;> (intro hd; have hc := hd; (try simp at hc) <;> (try simp -implicitDefEqProofs [-loopQ_n, hd, hc, h, hx, grC, c2, c2']))) | (refine ldD_ep ?_ ?_; (focus kernel_rfl); (try simp -implicitDefEqProofs [-loopQ_n, h, hx, grC, c2, c2'])) | (refine callS_mk ?_; (try simp -implicitDefEqProofs [-loopQ_n, h, hx, grC, c2, c2']); (first | refine callS_intro (hQ) (.inl rfl) ?_); (try simp -implicitDefEqProofs [-loopQ_n, h, hx, grC, c2, c2'])))))
          refine loop_next (i + 1, true) ⟨by simp only; omega, hR, by simpa [c2] using hf⟩ (by simp only; omega) (weak_of 0 0 rfl rfl ?_ ?_) <;> simp [w1]
        · have c2' : ¬ (1000 : Int) < g.length := by omega
          ((try simp -implicitDefEqProofs [-loopQ_n, h, hx, grC, c2, c2']) <;> (repeat' (first | (refine condD_dec ?_ ?_ <;> (intro hc; (try simp -implicitDefEqProofs [-loopQ_n, hc, h, hx, grC, c2, c2']))) | (refine guardD_dec ?_ ?_ <;> (intro hc; (try simp -implicitDefEqProofs [-loopQ_n, hc, h, hx, grC, c2, c2']))) | (refine condD_intro ?_ ?_ <;> (intro hd; have hc := hd; (try simp at hc) <;> (try simp -implicitDefEqProofs [-loopQ_n, hd, hc, h, hx, grC, c2, c2']))) | (refine guardD_intro ?_ ?_ <;> (intro hd; have hc := hd; (try simp at hc) <;> (try simp -implicitDefEqProofs [-loopQ_n, hd, hc, h, hx, grC, c2, c2']))) | (refine ldD_ep ?_ ?_; (focus kernel_rfl); (try simp -implicitDefEqProofs [-loopQ_n, h, hx, grC, c2, c2'])) | (refine callS_mk ?_; (try simp -implicitDefEqProofs [-loopQ_n, h, hx, grC, c2, c2']); (first | refine callS_intro (hQ) (.inl rfl) ?_); (try simp -implicitDefEqProofs [-loopQ_n, h, hx, grC, c2, c2'])))))
          refine loop_next (i + 1, false) ⟨by simp only; omega, hR, by simpa [c2] using hf⟩ (by simp only; omega) (weak_of 0 0 rfl rfl ?_ ?_) <;> simp [w1]
  have hall : (G.all namesL) = true := by rw [hR, List.drop_eq_nil_of_le (by omega)]; rfl
  have hff : f = fu := by rw [← hf, List.drop_eq_nil_of_le (by omega)]; simp
  subst hff
  clear hR hf
  by_cases n1 : n < 1
  · have : divR G n = (false, 2) := by unfold divR; rw [if_neg (by simp [hall]), if_pos (.inl n1)]
    rw [this]
    ((try simp -implicitDefEqProofs [-loopQ_n, h, n1, divV]) <;> (repeat' (first | (refine condD_dec ?_ ?_ <;> (intro hc; (try simp -implicitDefEqProofs [-loopQ_n, hc, h, n1, divV]))) | (refine guardD_dec ?_ ?_ <;> (intro hc; (try simp -implicitDefEqProofs [-loopQ_n, hc, h, n1, divV]))) | (refine condD_intro ?_ ?_ <;> (intro hd; have hc := hd; (try simp at hc) <;> (try simp -implicitDefEqProofs [-loopQ_n, hd, hc, h, n1, divV]))) | (refine guardD_intro ?_ ?_ <;> (intro hd; have hc := hd; (try simp at hc) <;> (try simp -implicitDefEqProofs [-loopQ_n, hd, hc, h, n1, divV]))) | (refine ldD_ep ?_ ?_; (focus kernel_rfl); (try simp -implicitDefEqProofs [-loopQ_n, h, n1, divV])))))
  by_cases n2 : 1000 < n
  · have : divR G n = (false, 2) := by unfold divR; rw [if_neg (by simp [hall]), if_pos (.inr n2)]
    rw [this]
    ((try simp -implicitDefEqProofs [-loopQ_n, h, n1, n2, divV]) <;> (repeat' (first | (refine condD_dec ?_ ?_ <;> (intro hc; (try simp -implicitDefEqProofs [-loopQ_n, hc, h, n1, n2, divV]))) | (refine guardD_dec ?_ ?_ <;> (intro hc; (try simp -implicitDefEqProofs [-loopQ_n, hc, h, n1, n2, divV]))) | (refine condD_intro ?_ ?_ <;> (intro hd; have hc := hd; (try simp at hc) <;> (try simp -implicitDefEqProofs [-loopQ_n, hd, hc, h, n1, n2, divV]))) | (refine guardD_intro ?_ ?_ <;> (intro hd; have hc := hd; (try simp at hc) <;> (try simp -implicitDefEqProofs [-loopQ_n, hd, hc, h, n1, n2, divV]))) | (refine ldD_ep ?_ ?_; (focus kernel_rfl); (try simp -implicitDefEqProofs [-loopQ_n, h, n1, n2, divV])))))
  cases f with
  | true =>
    have : divR G n = (false, 5) := by unfold divR; rw [if_neg (by simp [hall]), if_neg (by omega), if_pos (by simpa using hfu)]
    rw [this]
    ((try simp -implicitDefEqProofs [-loopQ_n, h, n1, n2, divV]) <;> (repeat' (first | (refine condD_dec ?_ ?_ <;> (intro hc; (try simp -implicitDefEqProofs [-loopQ_n, hc, h, n1, n2, divV]))) | (refine guardD_dec ?_ ?_ <;> (intro hc; (try simp -implicitDefEqProofs [-loopQ_n, hc, h, n1, n2, divV]))) | (refine condD_intro ?_ ?_ <;> (intro hd; have hc := hd; (try simp at hc) <;> (try simp -implicitDefEqProofs [-loopQ_n, hd, hc, h, n1, n2, divV]))) | (refine guardD_intro ?_ ?_ <;> (intro hd; have hc := hd; (try simp at hc) <;> (try simp -implicitDefEqProofs [-loopQ_n, hd, hc, h, n1, n2, divV]))) | (refine ldD_ep ?_ ?_; (focus kernel_rfl); (try simp -implicitDefEqProofs [-loopQ_n, h, n1, n2, divV])))))
  | false =>
    obtain ⟨b, hb⟩ : ∃ b, G.any (fewD n) = b := ⟨_, rfl⟩
    have : divR G n = (!b, 0) := by
      unfold divR; rw [if_neg (by simp [hall]), if_neg (by omega), if_neg (fun q => by simp at hfu; rcases q with q | q; · omega
                                                                                       · simp at q; obtain ⟨g, h1, h2⟩ := q; have := hfu.2 g h1; omega), hb]
    rw [this]
    ((try simp -implicitDefEqProofs [-loopQ_n, h, n1, n2]) <;> (repeat' (first | (refine condD_dec ?_ ?_ <;> (intro hc; (try simp -implicitDefEqProofs [-loopQ_n, hc, h, n1, n2]))) | (refine guardD_dec ?_ ?_ <;> (intro hc; (try simp -implicitDefEqProofs [-loopQ_n, hc, h, n1, n2]))) | (refine condD_intro ?_ ?_ <;> (intro hd; have hc := hd; (try simp at hc) <;> (try simp -implicitDefEqProofs [-loopQ_n, hd, hc, h, n1, n2]))) | (refine guardD_intro ?_ ?_ <;> (intro hd; have hc := hd; (try simp at hc) <;> (try simp -implicitDefEqProofs [-loopQ_n, hd, hc, h, n1, n2]))) | (refine ldD_ep ?_ ?_; (focus kernel_rfl); (try simp -implicitDefEqProofs [-loopQ_n, h, n1, n2])))))
    refine loop_intro (σ := Nat) (fun i => ⟨[(0, .rs (rowsOf grC G)), (1, .int .i64 n), (8, .int .i64 i)], []⟩)
      (fun i => i ≤ G.length ∧ anyFew n G i = b) (fun i => G.length - i) 0 ⟨by simp, by simpa [anyFew] using hb⟩ ?_ ?_
    · refine weak_of 0 0 rfl rfl ?_ ?_ <;> simp
    clear hb this hfu hall h hi i hfu0
    rintro i ⟨hi, hR⟩
    by_cases h : i < G.length
    · have w1 : wrapI .i64 ((i : Int) + 1) = (i : Int) + 1 := wrap_in (by omega) (by omega)
      obtain ⟨g, hx⟩ : ∃ x, G[i] = x := ⟨_, rfl⟩
      have hgl := hg G[i] (by simp)
      rw [hx] at hgl
      have hR2 : (fewD n g || anyFew n G (i + 1)) = b := by
        unfold anyFew at hR ⊢
        rw [List.drop_eq_getElem_cons h, List.any_cons, hx] at hR
        exact hR
      obtain ⟨D, hD⟩ : ∃ D, diffN g = D := ⟨_, rfl⟩
      have hfew : fewD n g = decide ((D : Int) < n) := by unfold fewD; rw [hD]
      ((try simp -implicitDefEqProofs [-loopQ_n, h, hx, grC]) <;> (repeat' (first | (refine condD_dec ?_ ?_ <;> (intro hc; (try simp -implicitDefEqProofs [-loopQ_n, hc, h, hx, grC]))) | (refine guardD_dec ?_ ?_ <;> (intro hc; (try simp -implicitDefEqProofs [-loopQ_n, hc, h, hx, grC]))) | (refine condD_intro ?_ ?_ <;> (intro hd; have hc := hd; (try simp at hc) <;> (try simp -implicitDefEqProofs [-loopQ_n, hd, hc, h, hx, grC]))) | (refine guardD_intro ?_ ?_ <;> (intro hd; have hc := hd; (try simp at hc) <;> (try simp -implicitDefEqProofs [-loopQ_n, hd, hc, h, hx, grC]))) | (refine ldD_ep ?_ ?_; (focus kernel_rfl); (try simp -implicitDefEqProofs [-loopQ_n, h, hx, grC])))))
      refine loop_intro (σ := Nat × List ByteArray) (fun x => ⟨[(0, .rs (rowsOf grC G)), (1, .int .i64 n), (8, .int .i64 i), (9, .rs (rowsOf strC x.2)), (10, .int .i64 x.1)], []⟩)
        (fun x => x.1 ≤ g.length ∧ x.2.length ≤ x.1 ∧ insAll g x.1 x.2 = D) (fun x => g.length - x.1) (0, []) ⟨by simp, by simp, hD⟩ ?_ ?_
      · refine weak_of 0 0 rfl rfl ?_ ?_ <;> simp [rowsOf]
      rintro ⟨j, acc⟩ ⟨hj, hl, hI⟩
      simp only at hj hl hI
      by_cases hh : j < g.length
      · have w2 : wrapI .i64 ((j : Int) + 1) = ((j + 1 : Nat) : Int) := by rw [wrap_in (by omega) (by omega)]; omega
        obtain ⟨s, hs⟩ : ∃ x, g[j] = x := ⟨_, rfl⟩
        have hin := rins_pure acc s (by omega)
        have hil : (insB acc s).length ≤ acc.length + 1 := by
          unfold insB; split
          · omega
          · rw [insG_len]; omega
        rw [insAll_step hh, hs] at hI
        ((try simp -implicitDefEqProofs [-loopQ_n, h, hx, hh, hs, grC, strC]) <;> (repeat' (first | (refine condD_dec ?_ ?_ <;> (intro hc; (try simp -implicitDefEqProofs [-loopQ_n, hc, h, hx, hh, hs, grC, strC]))) | (refine guardD_dec ?_ ?_ <;> (intro hc; (try simp -implicitDefEqProofs [-loopQ_n, hc, h, hx, hh, hs, grC, strC]))) | (refine condD_intro ?_ ?_ <;> (intro hd; have hc := hd; (try simp at hc) <;> (try simp -implicitDefEqProofs [-loopQ_n, hd, hc, h, hx, hh, hs, grC, strC]))) | (refine guardD_intro ?_ ?_ <;> (intro hd; have hc := hd; (try simp at hc) <;> (try simp -implicitDefEqProofs [-loopQ_n, hd, hc, h, hx, hh, hs, grC, strC]))) | (refine ldD_ep ?_ ?_; (focus kernel_rfl); (try simp -implicitDefEqProofs [-loopQ_n, h, hx, hh, hs, grC, strC])) | (refine callS_mk ?_; (try simp -implicitDefEqProofs [-loopQ_n, h, hx, hh, hs, grC, strC]); (first | refine callS_intro (hin) (.inr ⟨rfl, rfl⟩) ?_); (try simp -implicitDefEqProofs [-loopQ_n, h, hx, hh, hs, grC, strC])))))
        refine loop_next (j + 1, insB acc s) ⟨by simp only; omega, by simp only; omega, hI⟩ (by simp only; omega) (weak_of 0 0 rfl rfl ?_ ?_) <;> simp [w2]
      · rw [insAll_end (by omega)] at hI
        by_cases c : (D : Int) < n
        · have : b = true := by rw [← hR2, hfew]; simp [c]
          subst this
          ((try simp -implicitDefEqProofs [-loopQ_n, h, hx, hh, hI, c, grC, divV]) <;> (repeat' (first | (refine condD_dec ?_ ?_ <;> (intro hc; (try simp -implicitDefEqProofs [-loopQ_n, hc, h, hx, hh, hI, c, grC, divV]))) | (refine guardD_dec ?_ ?_ <;> (intro hc; (try simp -implicitDefEqProofs [-loopQ_n, hc, h, hx, hh, hI, c, grC, divV]))) | (refine condD_intro ?_ ?_ <;> (intro hd; have hc := hd; (try simp at hc) <;> (try simp -implicitDefEqProofs [-loopQ_n, hd, hc, h, hx, hh, hI, c, grC, divV]))) | (refine guardD_intro ?_ ?_ <;> (intro hd; have hc := hd; (try simp at hc) <;> (try simp -implicitDefEqProofs [-loopQ_n, hd, hc, h, hx, hh, hI, c, grC, divV]))) | (refine ldD_ep ?_ ?_; (focus kernel_rfl); (try simp -implicitDefEqProofs [-loopQ_n, h, hx, hh, hI, c, grC, divV])))))
        · have hR3 : anyFew n G (i + 1) = b := by rw [← hR2, hfew]; simp [c]
          ((try simp -implicitDefEqProofs [-loopQ_n, h, hx, hh, hI, c, grC, w1]) <;> (repeat' (first | (refine condD_dec ?_ ?_ <;> (intro hc; (try simp -implicitDefEqProofs [-loopQ_n, hc, h, hx, hh, hI, c, grC, w1]))) | (refine guardD_dec ?_ ?_ <;> (intro hc; (try simp -implicitDefEqProofs [-loopQ_n, hc, h, hx, hh, hI, c, grC, w1]))) | (refine condD_intro ?_ ?_ <;> (intro hd; have hc := hd; (try simp at hc) <;> (try simp -implicitDefEqProofs [-loopQ_n, hd, hc, h, hx, hh, hI, c, grC, w1]))) | (refine guardD_intro ?_ ?_ <;> (intro hd; have hc := hd; (try simp at hc) <;> (try simp -implicitDefEqProofs [-loopQ_n, hd, hc, h, hx, hh, hI, c, grC, w1]))) | (refine ldD_ep ?_ ?_; (focus kernel_rfl); (try simp -implicitDefEqProofs [-loopQ_n, h, hx, hh, hI, c, grC, w1])))))
          refine loop_next (i + 1) ⟨by omega, hR3⟩ (by omega) (weak_of 0 0 rfl rfl ?_ ?_) <;> simp [w1]
    · have : b = false := by rw [← hR]; unfold anyFew; rw [List.drop_eq_nil_of_le (by omega)]; rfl
      subst this
      ((try simp -implicitDefEqProofs [-loopQ_n, h, divV]) <;> (repeat' (first | (refine condD_dec ?_ ?_ <;> (intro hc; (try simp -implicitDefEqProofs [-loopQ_n, hc, h, divV]))) | (refine guardD_dec ?_ ?_ <;> (intro hc; (try simp -implicitDefEqProofs [-loopQ_n, hc, h, divV]))) | (refine condD_intro ?_ ?_ <;> (intro hd; have hc := hd; (try simp at hc) <;> (try simp -implicitDefEqProofs [-loopQ_n, hd, hc, h, divV]))) | (refine guardD_intro ?_ ?_ <;> (intro hd; have hc := hd; (try simp at hc) <;> (try simp -implicitDefEqProofs [-loopQ_n, hd, hc, h, divV]))) | (refine ldD_ep ?_ ?_; (focus kernel_rfl); (try simp -implicitDefEqProofs [-loopQ_n, h, divV])))))
end Go.Proofs.Ytkppfaennogcmaa
