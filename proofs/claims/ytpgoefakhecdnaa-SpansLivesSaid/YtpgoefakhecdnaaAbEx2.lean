/- Computed calls over contracts that turn or make memory; regions of the second kind. -/
import Derived.Test.YtpgoefakhecdnaaAbExec
namespace Go.Proofs.Ytpgoefakhecdnaa
set_option linter.unusedSimpArgs false
set_option linter.unusedVariables false
set_option linter.unnecessarySimpa false
set_option linter.unusedSectionVars false
open Go.RowKit
variable [Glob]
noncomputable section
variable (P : Program)
/-- Calls that turn one row. -/
abbrev RowF := Nat → List AV → List Blk → Option (AV × Nat × Blk)
def RowOk (b2 : RowF) : Prop := ∀ g as H r id b, b2 g as H = some (r, id, b) → id < H.length ∧ isBox b = false ∧ isBoxO H[id]? = false ∧ CallG P g as H fun r' H' => r' = r ∧ H' = H.set id b
variable (hk : Hook) (b2 : RowF) (cf : CallF) (m : Nat)
def exRes2 (all : List Oper) (o : Oper) (s : St) : Option St := match exOp P o s with | some (v, u) => if noboxA all s.H u = true then some ⟨tputD s.T o.dst v, upd s.H u⟩ else none | none => none
def exBody2 (all : List Oper) (j : Nat) (o : Oper) (s : St) : Option St :=
  match o.op with
  | .call ⟨.value f, args, _⟩ => match ev s.T f with
    | .fn g caps => match b2 g (args.toList.map (ev s.T) ++ caps) s.H with
      | some (r, id, b) => if lastNew all j = true then some ⟨tputD s.T o.dst r, s.H.set id b⟩ else none
      | none => match exCall hk cf true g (args.toList.map (ev s.T) ++ caps) s.H with
        | some (r, H') => some ⟨tputD s.T o.dst r, H'⟩
        | none => none
    | _ => none
  | .load _ a => if (softOk all false (ev s.T a) || hardAt all j) = true then exRes2 P all o s else none
  | .fieldAddr _ a _ => if (softOk all false (ev s.T a) || hardAt all j) = true then exRes2 P all o s else none
  | .nilCheck a => if (softOk all false (ev s.T a) || hardAt all j) = true then exRes2 P all o s else none
  | .indexAddr _ a _ => if (softOk all true (ev s.T a) || hardAt all j) = true then exRes2 P all o s else none
  | _ => exRes2 P all o s
def exStep2 (all : List Oper) (j : Nat) (o : Oper) (s : St) : Option St :=
  match o.guard with
  | none => exBody2 P hk b2 cf all j o s
  | some (g, b) => match (all[g]?).bind (·.dst) with
    | some t => match tget s.T t with | .bool c => if c = b then exBody2 P hk b2 cf all j o s else some ⟨tputD s.T o.dst .und, s.H⟩ | .und => some ⟨tputD s.T o.dst .und, s.H⟩ | _ => none
    | none => none
def exOps2 (all : List Oper) : Nat → List Oper → St → Option St
  | _, [], s => some s
  | j, o :: r, s => match exStep2 P hk b2 cf all j o s with | some s' => exOps2 all (j + 1) r s' | none => none
def exC2 : Code → St → Option (Ex × St)
  | .skip, s => some (.normal, s)
  | .region _ ops d, s => match exOps P hk cf d ops.toList ops.toList s with | some s' => some (.normal, s') | none => none
  | .seq a b, s => match exC2 a s with | some (.normal, s') => exC2 b s' | r => r
  | .cond c a b, s => match ev s.T c with | .bool t => if t = true then exC2 a s else exC2 b s | _ => none
  | .block id c, s => match exC2 c s with | some (.exit j, s') => if j = id then some (.normal, s') else some (.exit j, s') | r => r
  | .loop c, s => iterL (exC2 c) m s
  | .exit id, s => some (.exit id, s)
  | .ret, s => some (.ret, s)
  | .scope (.region _ ops _), s => match exOps2 P hk b2 cf ops.toList 0 ops.toList s with | some s' => some (.normal, s') | none => none
  | .scope (.seq (.region _ pre _) (.region _ lst _)), s => match exOps P hk cf true pre.toList pre.toList s with | some s1 => (match exOps P hk cf false lst.toList lst.toList s1 with | some s' => some (.normal, s') | none => none) | none => none
  | _, _ => none
def exFC (base : CallF) : Nat → CallF
  | 0, g, args, H => base g args H
  | n + 1, g, args, H => match base g args H with
    | some r => some r
    | none => match b2 g args H with
      | some (r, id, b) => some (r, H.set id b)
      | none => match P.funcs[g]? with
        | some fn => match fn.body with
          | some c => if (entersB P g && decide (args.length ≤ fn.ntmps) && (okM fn.ntmps (mark c) && noScope [] c)) = true then
              match exC2 P hk b2 (exFC base n) m (mark c) ⟨argT 0 args, H⟩ with
              | some (.exit _, _) => none
              | some (_, s) => match resA P fn s with | some x => some (x, s.H) | none => none
              | none => none
            else none
          | none => none
        | none => none
end
section
variable {P : Program} {hk : Hook} {b2 : RowF} {cf : CallF} {m : Nat}
theorem exRes2_sound {all : List Oper} {o : Oper} {s s' : St} {K : St → Prop} (h : exRes2 P all o s = some s') (hK : K s') : res2 P all o s K := by
  unfold exRes2 at h
  unfold res2
  split at h
  · rename_i v u he
    split at h
    · rename_i hb
      simp at h
      subst h
      rw [exOp_eq P he]
      exact ⟨hb, hK⟩
    · simp at h
  · simp at h
theorem exBody2_sound (h1 : HookOk P hk) (h2 : CallOk P cf) (h3 : RowOk P b2) {all : List Oper} {j : Nat} {o : Oper} {s s' : St} {K : St → Prop} (h : exBody2 P hk b2 cf all j o s = some s') (hK : K s') : body2 P all j o s K := by
  unfold exBody2 at h
  unfold body2
  split at h
  · rename_i f args ats hop
    simp only [hop]
    split at h
    · rename_i g caps hf
      split at h
      · rename_i r id b hb
        split at h
        · rename_i hl
          simp at h
          subst h
          obtain ⟨k1, k2, k3, k4⟩ := h3 _ _ _ _ _ _ hb
          exact ⟨g, caps, hf, .inr ⟨hl, r, id, b, k1, k2, k3, k4, hK⟩⟩
        · simp at h
      · split at h
        · rename_i r H' hc
          simp at h
          subst h
          rcases exCall_sound h1 h2 hc with ⟨u, k1, _, rfl⟩ | ⟨k1, _⟩
          · exact ⟨g, caps, hf, .inl ⟨r, u, k1, hK⟩⟩
          · cases k1
        · simp at h
    · simp at h
  · rename_i t a hop
    simp only [hop]
    split at h
    · rename_i hz
      exact ⟨by simpa using hz, exRes2_sound h hK⟩
    · simp at h
  · rename_i t a f hop
    simp only [hop]
    split at h
    · rename_i hz
      exact ⟨by simpa using hz, exRes2_sound h hK⟩
    · simp at h
  · rename_i a hop
    simp only [hop]
    split at h
    · rename_i hz
      exact ⟨by simpa using hz, exRes2_sound h hK⟩
    · simp at h
  · rename_i t a n hop
    simp only [hop]
    split at h
    · rename_i hz
      exact ⟨by simpa using hz, exRes2_sound h hK⟩
    · simp at h
  · rename_i hop hop2 hop3 hop4 hop5
    split
    · rename_i f args ats hop'
      exact (hop f args ats hop').elim
    · rename_i t' a' hop'
      exact (hop2 t' a' hop').elim
    · rename_i t' a' f' hop'
      exact (hop3 t' a' f' hop').elim
    · rename_i a' hop'
      exact (hop4 a' hop').elim
    · rename_i t' a' n' hop'
      exact (hop5 t' a' n' hop').elim
    · exact exRes2_sound h hK
theorem exStep2_sound (h1 : HookOk P hk) (h2 : CallOk P cf) (h3 : RowOk P b2) {all : List Oper} {j : Nat} {o : Oper} {s s' : St} {K : St → Prop} (h : exStep2 P hk b2 cf all j o s = some s') (hK : K s') : step2 P all j o s K := by
  unfold exStep2 at h
  unfold step2
  split at h
  · rename_i hg
    simp only [hg]
    exact exBody2_sound h1 h2 h3 h hK
  · rename_i g b hg
    simp only [hg]
    split at h
    · rename_i t ht
      simp only [ht]
      split at h
      · rename_i c hc
        simp only [hc]
        split at h
        · rename_i hcb
          rw [if_pos hcb]
          exact exBody2_sound h1 h2 h3 h hK
        · rename_i hcb
          rw [if_neg hcb]
          simp at h
          subst h
          exact hK
      · rename_i hc
        simp only [hc]
        simp at h
        subst h
        exact hK
      · simp at h
    · simp at h
theorem exOps2_sound (h1 : HookOk P hk) (h2 : CallOk P cf) (h3 : RowOk P b2) {all : List Oper} {K : St → Prop} : ∀ (l : List Oper) (j : Nat) (s s' : St), exOps2 P hk b2 cf all j l s = some s' → K s' → wopsE P all j l s K := by
  intro l
  induction l with
  | nil => intro j s s' h hK; simp [exOps2] at h; subst h; exact hK
  | cons o l ih =>
    intro j s s' h hK
    simp only [exOps2] at h
    split at h
    · rename_i s1 hs
      exact exStep2_sound h1 h2 h3 hs (ih (j + 1) s1 s' h hK)
    · simp at h
theorem exC2_sound (h1 : HookOk P hk) (h2 : CallOk P cf) (h3 : RowOk P b2) {L : Nat} : ∀ (c : Code) (s : St) (e : Ex) (s' : St) (Q : Ex → St → Prop), exC2 P hk b2 cf m c s = some (e, s') → Q e s' → vc P L c s Q := by
  intro c
  induction c with
  | skip => intro s e s' Q h hQ; simp [exC2] at h; obtain ⟨rfl, rfl⟩ := h; exact hQ
  | region id ops d =>
    intro s e s' Q h hQ
    simp only [exC2] at h
    split at h
    · rename_i s1 hs
      simp at h
      obtain ⟨rfl, rfl⟩ := h
      exact exOps_sound h1 h2 _ _ _ hs hQ
    · simp at h
  | seq a b iha ihb =>
    intro s e s' Q h hQ
    simp only [exC2] at h
    split at h
    · rename_i s1 hs
      exact iha _ _ _ _ hs (ihb _ _ _ _ h hQ)
    · rename_i hn
      refine iha _ _ _ _ h ?_
      cases e with
      | normal => exact (hn s' h).elim
      | exit j => exact hQ
      | ret => exact hQ
  | cond c a b iha ihb =>
    intro s e s' Q h hQ
    simp only [exC2] at h
    simp only [vc]
    split at h
    · rename_i t ht
      simp only [ht]
      split at h
      · rename_i htt
        rw [if_pos htt]
        exact iha _ _ _ _ h hQ
      · rename_i htt
        rw [if_neg htt]
        exact ihb _ _ _ _ h hQ
    · simp at h
  | block id c ih =>
    intro s e s' Q h hQ
    simp only [exC2] at h
    split at h
    · rename_i j s1 hs
      refine ih _ _ _ _ hs ?_
      split at h
      · rename_i hj
        simp at h
        obtain ⟨rfl, rfl⟩ := h
        simp only [hj, if_true]; exact hQ
      · rename_i hj
        simp at h
        obtain ⟨rfl, rfl⟩ := h
        simp only [hj, if_false]; exact hQ
    · rename_i hn
      refine ih _ _ _ _ h ?_
      cases e with
      | normal => exact hQ
      | exit j => exact (hn j s' h).elim
      | ret => exact hQ
  | loop c ih =>
    intro s e s' Q h hQ
    simp only [exC2] at h
    refine ⟨fun n s1 => iterL (exC2 P hk b2 cf m c) n s1 = some (e, s'), ⟨m, s, Weak.refl _, h⟩, fun n s1 hI => ?_⟩
    cases n with
    | zero => simp [iterL] at hI
    | succ n =>
      simp only [iterL] at hI
      split at hI
      · rename_i s2 hs
        exact ih _ _ _ _ hs ⟨n, by omega, s2, Weak.refl _, hI⟩
      · rename_i hn
        refine ih _ _ _ _ hI ?_
        cases e with
        | normal => exact (hn s' hI).elim
        | exit j => exact hQ
        | ret => exact hQ
  | exit id => intro s e s' Q h hQ; simp [exC2] at h; obtain ⟨rfl, rfl⟩ := h; exact hQ
  | ret => intro s e s' Q h hQ; simp [exC2] at h; obtain ⟨rfl, rfl⟩ := h; exact hQ
  | scope c ih =>
    intro s e s' Q h hQ
    cases c with
    | region id ops d =>
      simp only [exC2] at h
      split at h
      · rename_i s1 hs
        simp at h
        obtain ⟨rfl, rfl⟩ := h
        exact exOps2_sound h1 h2 h3 _ _ _ _ hs hQ
      · simp at h
    | seq x y =>
      cases x with
      | region id1 pre d1 =>
        cases y with
        | region id2 lst d2 =>
          simp only [exC2] at h
          split at h
          · rename_i s1 hs1
            split at h
            · rename_i s2 hs2
              simp at h
              obtain ⟨rfl, rfl⟩ := h
              exact exOps_sound h1 h2 _ _ _ hs1 (exOps_sound h1 h2 _ _ _ hs2 hQ)
            · simp at h
          · simp at h
        | _ => simp [exC2] at h
      | _ => simp [exC2] at h
    | _ => simp [exC2] at h
  | _ => intro s e s' Q h hQ; simp [exC2] at h
theorem exFC_sound (hm : P.follows .mixedOrders = true) (h1 : HookOk P hk) (h3 : RowOk P b2) {base : CallF} (hb0 : CallOk P base) : ∀ n, CallOk P (exFC P hk b2 m base n) := by
  intro n
  induction n with
  | zero => exact hb0
  | succ n ih =>
    intro g as H r H' h
    simp only [exFC] at h
    split at h
    · rename_i q hq
      simp only [Option.some.injEq] at h
      subst h
      exact hb0 _ _ _ _ _ hq
    · split at h
      · rename_i r1 id b hb
        simp at h
        obtain ⟨rfl, rfl⟩ := h
        exact (h3 _ _ _ _ _ _ hb).2.2.2
      · split at h
        · rename_i fn hf
          split at h
          · rename_i c hc
            split at h
            · rename_i hb
              rw [Bool.and_eq_true, Bool.and_eq_true] at hb
              obtain ⟨⟨hb1, hb2⟩, hb3⟩ := hb
              split at h
              · simp at h
              · rename_i e s hne hs
                split at h
                · rename_i x hx
                  simp at h
                  obtain ⟨rfl, rfl⟩ := h
                  refine inl_K hm hf hc hb1 (by simpa using hb2) hb3 (exC2_sound h1 ih h3 _ _ _ _ _ hs ?_)
                  cases e with
                  | normal => exact ⟨x, x, s.H, hx, Weak.refl _, rfl, rfl⟩
                  | exit j => exact (hne j rfl).elim
                  | ret => exact ⟨x, x, s.H, hx, Weak.refl _, rfl, rfl⟩
                · simp at h
              · simp at h
            · simp at h
          · simp at h
        · simp at h
theorem exFC_pure (hm : P.follows .mixedOrders = true) (h1 : HookOk P hk) (h3 : RowOk P b2) {base : CallF} (hb0 : CallOk P base) {n : Nat} {f : FuncId} {args : List AV} {r : AV} (h : ((exFC P hk b2 m base n f args []).bind fun x => reify x.2 8 x.1) = some r) : Pure P f args r := by
  obtain ⟨⟨x, H⟩, k1, k2⟩ := Option.bind_eq_some_iff.1 h
  exact new_pure (callG_new (exFC_sound hm h1 h3 hb0 n _ _ _ _ _ k1)) k2
theorem noRow : RowOk P fun _ _ _ => none := fun _ _ _ _ _ _ h => by cases h
theorem noBase : CallOk P fun _ _ _ => none := fun _ _ _ _ _ h => by cases h
end
end Go.Proofs.Ytpgoefakhecdnaa
