/- Computed calls of a function that goes over maps: every order in which an iterator may hand out the entries is reckoned. -/
import Derived.Test.YtkppfaennogcmaaAbEx2
namespace Go.Proofs.Ytkppfaennogcmaa
set_option linter.unusedSimpArgs false
set_option linter.unusedVariables false
set_option linter.unnecessarySimpa false
set_option linter.unusedSectionVars false
open Go.RowKit
variable [Glob]
noncomputable section
def bindA {α β : Type} (f : α → Option (List β)) : List α → Option (List β)
  | [] => some []
  | x :: r => match f x, bindA f r with | some a, some b => some (a ++ b) | _, _ => none
/-- What an iterator may hand out. -/
def nextL (H : List Blk) (x : AV) : Option (List (AV × List Blk)) :=
  match x with
  | .it id => match H[id]? with
    | some (.iter none _ _) => some [(.tup [.bool false], H)]
    | some (.iter (some mid) n seen) => match H[mid]? with
      | some (.map es) => if es.length = n then
          (if (List.range n).all (fun i => seen.contains i) = true then some [(.tup [.bool false], H)]
          else bindA (fun i => if seen.contains i = true then some [] else match es[i]? with | some e => some [(.tup [.bool true, e.1, e.2], H.set id (.iter (some mid) n (seen ++ [i])))] | none => none) (List.range n)) else none
      | _ => none
    | _ => none
  | _ => none
variable (P : Program) (hk : Hook) (b2 : RowF) (cf : CallF) (m : Nat)
def exReg (d : Bool) (ops : List Oper) (s : St) : Option (List St) :=
  match ops with
  | [] => some [s]
  | o :: r => match o.op, o.guard, d with
    | .next x false, none, false => match nextL s.H (ev s.T x) with
      | some l => bindA (fun (p : AV × List Blk) => match exOps P hk cf false ops r ⟨tputD s.T o.dst p.1, p.2⟩ with | some s' => some [s'] | none => none) l
      | none => none
    | _, _, _ => match exOps P hk cf d ops ops s with | some s' => some [s'] | none => none
def iterN (f : St → Option (List (Ex × St))) : Nat → St → Option (List (Ex × St))
  | 0, _ => none
  | k + 1, s => match f s with
    | some l => bindA (fun (p : Ex × St) => match p.1 with | .normal => iterN f k p.2 | e => some [(e, p.2)]) l
    | none => none
def exN : Code → St → Option (List (Ex × St))
  | .skip, s => some [(.normal, s)]
  | .region _ ops d, s => (exReg P hk cf d ops.toList s).map (·.map fun s' => (.normal, s'))
  | .seq a b, s => match exN a s with | some l => bindA (fun (p : Ex × St) => match p.1 with | .normal => exN b p.2 | e => some [(e, p.2)]) l | none => none
  | .cond c a b, s => match ev s.T c with | .bool t => if t = true then exN a s else exN b s | _ => none
  | .block id c, s => (exN c s).map (·.map fun (p : Ex × St) => match p.1 with | .exit j => if j = id then (.normal, p.2) else (.exit j, p.2) | e => (e, p.2))
  | .loop c, s => iterN (exN c) m s
  | .exit id, s => some [(.exit id, s)]
  | .ret, s => some [(.ret, s)]
  | .scope (.region _ ops _), s => match exOps2 P hk b2 cf ops.toList 0 ops.toList s with | some s' => some [(.normal, s')] | none => none
  | .scope (.seq (.region _ pre _) (.region _ lst _)), s => match exOps P hk cf true pre.toList pre.toList s with | some s1 => (match exOps P hk cf false lst.toList lst.toList s1 with | some s' => some [(.normal, s')] | none => none) | none => none
  | _, _ => none
end
section
variable {P : Program} {hk : Hook} {b2 : RowF} {cf : CallF} {m : Nat}
theorem bindA_spec {α β : Type} {f : α → Option (List β)} : ∀ {l : List α} {r : List β}, bindA f l = some r → ∀ x ∈ l, ∃ a, f x = some a ∧ ∀ y ∈ a, y ∈ r := by
  intro l
  induction l with
  | nil => intro r _ x hx; simp at hx
  | cons z l ih =>
    intro r h x hx
    simp only [bindA] at h
    split at h
    · rename_i a b ha hb
      simp at h
      subst h
      rcases List.mem_cons.1 hx with rfl | hx
      · exact ⟨a, ha, fun y hy => List.mem_append_left _ hy⟩
      · obtain ⟨c, h1, h2⟩ := ih hb x hx
        exact ⟨c, h1, fun y hy => List.mem_append_right _ (h2 y hy)⟩
    · simp at h
theorem nextL_sound {H : List Blk} {x : AV} {l : List (AV × List Blk)} {K : AV → List Blk → Prop} (h : nextL H x = some l) (hK : ∀ p ∈ l, K p.1 p.2) : nextD H x K := by
  cases x with
  | it id =>
    simp only [nextL] at h
    simp only [nextD]
    cases hb : H[id]? with
    | none => simp [hb] at h
    | some b =>
      cases b with
      | iter q n seen =>
        cases q with
        | none => simp only [hb] at h ⊢; simp at h; subst h; exact hK _ (List.mem_singleton_self _)
        | some mid =>
          simp only [hb] at h ⊢
          cases hm : H[mid]? with
          | none => simp [hm] at h
          | some b2 =>
            cases b2 with
            | map es =>
              simp only [hm] at h ⊢
              split at h
              · rename_i hn
                refine ⟨hn, fun i k y hi he => ?_, fun hall => ?_⟩
                · have hin : i < n := by rw [← hn]; exact (List.getElem?_eq_some_iff.1 he).1
                  split at h
                  · rename_i hq
                    rw [List.all_eq_true] at hq
                    exact absurd (by simpa using hq i (by simpa using hin)) hi
                  · obtain ⟨a, h1, h2⟩ := bindA_spec h i (by simpa using hin)
                    have hc : seen.contains i = false := by simpa using hi
                    rw [hc, he] at h1
                    simp at h1
                    subst h1
                    exact hK _ (h2 _ (List.mem_singleton_self _))
                · split at h
                  · simp at h; subst h; exact hK _ (List.mem_singleton_self _)
                  · rename_i hq
                    exact absurd (by rw [List.all_eq_true]; intro i hi; simpa using hall i (by simpa using hi)) hq
              · simp at h
            | _ => simp [hm] at h
      | _ => simp [hb] at h
  | _ => simp [nextL] at h
theorem exReg_sound (h1 : HookOk P hk) (h2 : CallOk P cf) {d : Bool} {ops : List Oper} {s : St} {l : List St} {K : St → Prop} (h : exReg P hk cf d ops s = some l) (hK : ∀ s' ∈ l, K s') : wopsC P d ops ops s K := by
  unfold exReg at h
  split at h
  · simp at h; subst h; exact hK _ (List.mem_singleton_self _)
  · rename_i o r
    split at h
    · rename_i x hop hg
      split at h
      · rename_i q hq
        simp only [wopsC, stepC, hg, bodyC, hop]
        refine ⟨rfl, rfl, nextL_sound hq fun p hp => ?_⟩
        obtain ⟨a, k1, k2⟩ := bindA_spec h p hp
        split at k1
        · rename_i s' hs
          simp at k1
          subst k1
          exact exOps_sound h1 h2 _ _ _ hs (hK _ (k2 _ (List.mem_singleton_self _)))
        · simp at k1
      · simp at h
    · split at h
      · rename_i s' hs
        simp at h
        subst h
        exact exOps_sound h1 h2 _ _ _ hs (hK _ (List.mem_singleton_self _))
      · simp at h
theorem exN_sound (h1 : HookOk P hk) (h2 : CallOk P cf) (h3 : RowOk P b2) {L : Nat} : ∀ (c : Code) (s : St) (l : List (Ex × St)) (Q : Ex → St → Prop), exN P hk b2 cf m c s = some l → (∀ p ∈ l, Q p.1 p.2) → vc P L c s Q := by
  intro c
  induction c with
  | skip => intro s l Q h hQ; simp [exN] at h; subst h; exact hQ _ (List.mem_singleton_self _)
  | region id ops d =>
    intro s l Q h hQ
    simp only [exN, Option.map_eq_some_iff] at h
    obtain ⟨q, hq, rfl⟩ := h
    exact exReg_sound h1 h2 hq fun s' hs => hQ (.normal, s') (List.mem_map.2 ⟨s', hs, rfl⟩)
  | seq a b iha ihb =>
    intro s l Q h hQ
    simp only [exN] at h
    split at h
    · rename_i q hq
      refine iha _ _ _ hq fun p hp => ?_
      obtain ⟨e, s'⟩ := p
      obtain ⟨r, k1, k2⟩ := bindA_spec h _ hp
      cases e with
      | normal => exact ihb _ _ _ k1 fun p hp => hQ p (k2 p hp)
      | exit j => simp at k1; subst k1; exact hQ _ (k2 _ (List.mem_singleton_self _))
      | ret => simp at k1; subst k1; exact hQ _ (k2 _ (List.mem_singleton_self _))
    · simp at h
  | cond c a b iha ihb =>
    intro s l Q h hQ
    simp only [exN] at h
    simp only [vc]
    split at h
    · rename_i t ht
      simp only [ht]
      split at h
      · rename_i htt; rw [if_pos htt]; exact iha _ _ _ h hQ
      · rename_i htt; rw [if_neg htt]; exact ihb _ _ _ h hQ
    · simp at h
  | block id c ih =>
    intro s l Q h hQ
    simp only [exN, Option.map_eq_some_iff] at h
    obtain ⟨q, hq, rfl⟩ := h
    refine ih _ _ _ hq fun p hp => ?_
    obtain ⟨e, s'⟩ := p
    have := hQ _ (List.mem_map.2 ⟨_, hp, rfl⟩)
    cases e with
    | normal => exact this
    | ret => exact this
    | exit j =>
      simp only at this ⊢
      split at this
      · rename_i hj; rw [if_pos hj]; exact this
      · rename_i hj; rw [if_neg hj]; exact this
  | loop c ih =>
    intro s l Q h hQ
    simp only [exN] at h
    refine ⟨fun n s1 => ∃ q, iterN (exN P hk b2 cf m c) n s1 = some q ∧ ∀ p ∈ q, Q p.1 p.2, ⟨m, s, Weak.refl _, l, h, hQ⟩, fun n s1 ⟨q, hI, hq⟩ => ?_⟩
    cases n with
    | zero => simp [iterN] at hI
    | succ n =>
      simp only [iterN] at hI
      split at hI
      · rename_i r hr
        refine ih _ _ _ hr fun p hp => ?_
        obtain ⟨e, s'⟩ := p
        obtain ⟨a, k1, k2⟩ := bindA_spec hI _ hp
        cases e with
        | normal => exact ⟨n, by omega, s', Weak.refl _, a, k1, fun p hp => hq p (k2 p hp)⟩
        | exit j => simp at k1; subst k1; exact hq _ (k2 _ (List.mem_singleton_self _))
        | ret => simp at k1; subst k1; exact hq _ (k2 _ (List.mem_singleton_self _))
      · simp at hI
  | exit id => intro s l Q h hQ; simp [exN] at h; subst h; exact hQ _ (List.mem_singleton_self _)
  | ret => intro s l Q h hQ; simp [exN] at h; subst h; exact hQ _ (List.mem_singleton_self _)
  | scope c ih =>
    intro s l Q h hQ
    cases c with
    | region id ops d =>
      simp only [exN] at h
      split at h
      · rename_i s1 hs
        simp at h
        subst h
        exact exOps2_sound h1 h2 h3 _ _ _ _ hs (hQ _ (List.mem_singleton_self _))
      · simp at h
    | seq x y =>
      cases x with
      | region id1 pre d1 =>
        cases y with
        | region id2 lst d2 =>
          simp only [exN] at h
          split at h
          · rename_i s1 hs1
            split at h
            · rename_i s2 hs2
              simp at h
              subst h
              exact exOps_sound h1 h2 _ _ _ hs1 (exOps_sound h1 h2 _ _ _ hs2 (hQ _ (List.mem_singleton_self _)))
            · simp at h
          · simp at h
        | _ => simp [exN] at h
      | _ => simp [exN] at h
    | _ => simp [exN] at h
  | _ => intro s l Q h hQ; simp [exN] at h
/-- Do all outcomes read as this? -/
def allR (P : Program) (fn : Func) (r : AV) : List (Ex × St) → Prop
  | [] => True
  | (e, s) :: l => (match e with | .exit _ => False | _ => ((resA P fn s).bind fun x => reify s.H 8 x) = some r) ∧ allR P fn r l
theorem allR_spec {fn : Func} {r : AV} : ∀ {l : List (Ex × St)}, allR P fn r l → ∀ p ∈ l, endQ P fn r p.1 p.2 := by
  intro l
  induction l with
  | nil => intro _ p hp; simp at hp
  | cons q l ih =>
    intro h p hp
    obtain ⟨e, s⟩ := q
    rcases List.mem_cons.1 hp with rfl | hp
    · have h := h.1
      cases e with
      | exit j => exact h.elim
      | normal =>
        obtain ⟨x, k1, k2⟩ := Option.bind_eq_some_iff.1 h
        simp only [endQ, k1]; exact k2
      | ret =>
        obtain ⟨x, k1, k2⟩ := Option.bind_eq_some_iff.1 h
        simp only [endQ, k1]; exact k2
    · exact ih h.2 p hp
/-- The outcomes, each as it reads. -/
def outsR (P : Program) (fn : Func) : List (Ex × St) → Option (List AV)
  | [] => some []
  | (e, s) :: l => match e with | .exit _ => none | _ => match ((resA P fn s).bind fun x => reify s.H 8 x), outsR P fn l with | some r, some q => some (r :: q) | _, _ => none
theorem outsR_spec {fn : Func} {r : AV} : ∀ {l : List (Ex × St)} {n : Nat}, outsR P fn l = some (List.replicate n r) → ∀ p ∈ l, endQ P fn r p.1 p.2 := by
  intro l
  induction l with
  | nil => intro n _ p hp; simp at hp
  | cons q l ih =>
    intro n h p hp
    obtain ⟨e, s⟩ := q
    have key : ∀ x, ((resA P fn s).bind fun x => reify s.H 8 x) = some x → ∀ q, outsR P fn l = some q → x :: q = List.replicate n r → (∀ e', (∀ j, e' ≠ .exit j) → endQ P fn r e' s) ∧ ∀ p ∈ l, endQ P fn r p.1 p.2 := by
      intro x hx q hq hxq
      cases n with
      | zero => simp at hxq
      | succ n =>
        simp only [List.replicate_succ, List.cons.injEq] at hxq
        obtain ⟨rfl, rfl⟩ := hxq
        obtain ⟨z, k1, k2⟩ := Option.bind_eq_some_iff.1 hx
        refine ⟨fun e' he => ?_, ih hq⟩
        cases e' with
        | exit j => exact absurd rfl (he j)
        | normal => simp only [endQ, k1]; exact k2
        | ret => simp only [endQ, k1]; exact k2
    simp only [outsR] at h
    split at h
    · simp at h
    · rename_i he
      split at h
      · rename_i x q hx hq
        simp at h
        obtain ⟨k1, k2⟩ := key x hx q hq h
        rcases List.mem_cons.1 hp with rfl | hp
        · exact k1 e fun j hj => he j hj
        · exact k2 p hp
      · simp at h
theorem exN_pure (hm : P.follows .mixedOrders = true) (h1 : HookOk P hk) (h2 : CallOk P cf) (h3 : RowOk P b2) {f : FuncId} {fn : Func} {c : Code} {args : List AV} {r : AV} {n : Nat} (hf : P.funcs[f]? = some fn) (hb : fn.body = some c)
    (he : (entersB P f && decide (args.length ≤ fn.ntmps) && (okM fn.ntmps (mark c) && noScope [] c)) = true)
    (h : ((exN P hk b2 cf m (mark c) ⟨argT 0 args, []⟩).bind fun l => outsR P fn l) = some (List.replicate n r)) : Pure P f args r := by
  rw [Bool.and_eq_true, Bool.and_eq_true, decide_eq_true_eq] at he
  obtain ⟨l, k1, k2⟩ := Option.bind_eq_some_iff.1 h
  exact callG_pure (inl_K hm hf hb he.1.1 he.1.2 he.2 (exN_sound h1 h2 h3 _ _ _ _ k1 fun p hp => endQ_G (outsR_spec k2 p hp)))
end
end Go.Proofs.Ytkppfaennogcmaa
