/- Computed calls that hand back memory of their own making: what is left of the blocks is brought into one form. -/
import Derived.Test.YtkppfaennogcmaaAbEx3
import Derived.Test.YtkppfaennogcmaaM3
namespace Go.Proofs.Ytkppfaennogcmaa
set_option linter.unusedSimpArgs false
set_option linter.unusedVariables false
set_option linter.unnecessarySimpa false
set_option linter.unusedSectionVars false
open Go.RowKit
variable [Glob]
mutual
/-- The blocks that a value points to. -/
def idsA : AV → List Nat
  | .op id _ | .ep id _ _ _ | .os id _ | .ow id _ _ _ | .mp id | .ent id _ | .it id => [id]
  | .agg l => idsL l
  | .tup l => idsL l
  | .fn _ l => idsL l
  | _ => []
def idsL : List AV → List Nat
  | [] => []
  | x :: r => idsA x ++ idsL r
end
def idsR : List (List AV) → List Nat
  | [] => []
  | x :: r => idsL x ++ idsR r
def idsB : Blk → Option (List Nat)
  | .box _ cs => some (idsL cs)
  | .row _ _ rows => some (idsR rows)
  | .gone => some []
  | _ => none
def invN (l : List Nat) (id : Nat) : Nat := l.findIdx (· == id)
theorem inv_rn {l : List Nat} {N id : Nat} (h : id ∈ l) : rn l N (invN l id) = id := by
  have h1 : invN l id < l.length := List.findIdx_lt_length_of_exists ⟨id, h, by simp⟩
  unfold rn
  rw [List.getElem?_eq_getElem h1]
  have : (l[invN l id] == id) = true := List.findIdx_getElem (p := (· == id)) (w := h1)
  simp only [beq_iff_eq] at this
  simpa using this
mutual
theorem mA_back {l : List Nat} {N : Nat} : (x : AV) → (∀ id ∈ idsA x, id ∈ l) → mA (rn l N) (mA (invN l) x) = x
  | .any, _ | .und, _ | .int .., _ | .bool _, _ | .str _, _ | .nilp, _ | .nils, _ | .nilf, _ | .nilm, _ | .nilc, _ | .rp _, _ | .rs _, _ => rfl
  | .op id o, h => by simp only [mA]; rw [inv_rn (h id (by simp [idsA]))]
  | .ep id _ _ _, h => by simp only [mA]; rw [inv_rn (h id (by simp [idsA]))]
  | .os id _, h => by simp only [mA]; rw [inv_rn (h id (by simp [idsA]))]
  | .ow id _ _ _, h => by simp only [mA]; rw [inv_rn (h id (by simp [idsA]))]
  | .mp id, h => by simp only [mA]; rw [inv_rn (h id (by simp [idsA]))]
  | .ent id _, h => by simp only [mA]; rw [inv_rn (h id (by simp [idsA]))]
  | .it id, h => by simp only [mA]; rw [inv_rn (h id (by simp [idsA]))]
  | .agg cs, h => by simp only [mA]; rw [mL_back cs (by simpa [idsA] using h)]
  | .tup cs, h => by simp only [mA]; rw [mL_back cs (by simpa [idsA] using h)]
  | .fn f cs, h => by simp only [mA]; rw [mL_back cs (by simpa [idsA] using h)]
theorem mL_back {l : List Nat} {N : Nat} : (x : List AV) → (∀ id ∈ idsL x, id ∈ l) → mL (rn l N) (mL (invN l) x) = x
  | [], _ => rfl
  | x :: r, h => by
    simp only [mL]
    rw [mA_back x fun id hi => h id (by simp [idsL, hi]), mL_back r fun id hi => h id (by simp [idsL, hi])]
end
theorem mR_back {l : List Nat} {N : Nat} : (x : List (List AV)) → (∀ id ∈ idsR x, id ∈ l) → (x.map (mL (invN l))).map (mL (rn l N)) = x
  | [], _ => rfl
  | x :: r, h => by
    simp only [List.map_cons]
    rw [mL_back x fun id hi => h id (by simp [idsR, hi]), mR_back r fun id hi => h id (by simp [idsR, hi])]
theorem mB_back {l : List Nat} {N : Nat} {b : Blk} {q : List Nat} (hq : idsB b = some q) (h : ∀ id ∈ q, id ∈ l) : mB (rn l N) (mB (invN l) b) = b := by
  cases b <;> simp [idsB] at hq
  · subst hq; simp only [mB]; rw [mL_back _ h]
  · subst hq; simp only [mB]; rw [mR_back _ h]
  · rfl
noncomputable section
/-- The blocks that are reached, in the order in which they are met. -/
def reachN (H : List Blk) : Nat → List Nat → List Nat → Option (List Nat)
  | 0, todo, acc => if todo.all (fun i => acc.contains i) = true then some acc else none
  | n + 1, todo, acc => match todo with
    | [] => some acc
    | i :: r => if acc.contains i = true then reachN H n r acc else match H[i]? with
      | some b => match idsB b with
        | some q => reachN H n (r ++ q) (acc ++ [i])
        | none => none
      | none => none
def pickB (H : List Blk) (l : List Nat) : List Nat → Option (List Blk)
  | [] => some []
  | i :: r => match H[i]?, pickB H l r with
    | some b, some bs => (match idsB b with | some q => if q.all (fun j => l.contains j) = true then some (mB (invN l) b :: bs) else none | none => none)
    | _, _ => none
def nodupB : List Nat → Bool
  | [] => true
  | i :: r => !r.contains i && nodupB r
def canon (x : AV) (H : List Blk) : Option (AV × List Blk) :=
  match reachN H 64 (idsA x) [] with
  | some l => if nodupB l = true ∧ (idsA x).all (fun j => l.contains j) = true then (match pickB H l l with | some bs => some (mA (invN l) x, bs) | none => none) else none
  | none => none
end
theorem nodupB_spec : ∀ {l : List Nat}, nodupB l = true → l.Nodup := by
  intro l
  induction l with
  | nil => intro _; simp
  | cons i r ih =>
    intro h
    simp only [nodupB, Bool.and_eq_true, Bool.not_eq_true'] at h
    exact List.nodup_cons.2 ⟨by simpa using h.1, ih h.2⟩
theorem pickB_spec {H : List Blk} {l : List Nat} : ∀ {r : List Nat} {bs : List Blk}, pickB H l r = some bs → bs.length = r.length ∧ ∀ (i j : Nat) b, r[i]? = some j → bs[i]? = some b → ∃ b0 q, H[j]? = some b0 ∧ idsB b0 = some q ∧ (∀ id ∈ q, id ∈ l) ∧ b = mB (invN l) b0 := by
  intro r
  induction r with
  | nil => intro bs h; simp [pickB] at h; subst h; exact ⟨rfl, by simp⟩
  | cons k r ih =>
    intro bs h
    simp only [pickB] at h
    split at h
    · rename_i b0 bs0 hb hbs
      split at h
      · rename_i q hq
        split at h
        · rename_i hall
          simp at h
          subst h
          obtain ⟨h1, h2⟩ := ih hbs
          refine ⟨by simp [h1], fun i j b hi hj => ?_⟩
          cases i with
          | zero =>
            simp at hi hj
            subst hi; subst hj
            exact ⟨b0, q, hb, hq, fun id hid => by rw [List.all_eq_true] at hall; simpa using hall id hid, rfl⟩
          | succ i => exact h2 i j b (by simpa using hi) (by simpa using hj)
        · simp at h
      · simp at h
    · simp at h
section
variable {P : Program}
theorem canon_weak {L : Nat} (hL : L = 0) {x x' : AV} {H H' : List Blk} (h : canon x H = some (x', H')) : Weak P L ⟨[(0, x)], H⟩ ⟨[(0, x')], H'⟩ := by
  subst hL
  unfold canon at h
  split at h
  · rename_i l hl
    split at h
    · rename_i hc
      split at h
      · rename_i bs hbs
        simp at h
        obtain ⟨rfl, rfl⟩ := h
        obtain ⟨k1, k2⟩ := pickB_spec hbs
        refine weak_ren l (by simpa using k1.symm) (nodupB_spec hc.1) (fun i hi => ?_) (fun i hi => absurd hi (Nat.not_lt_zero i)) (fun i j b hi hb => ?_) (fun k => ?_)
        · obtain ⟨m, hm, rfl⟩ := List.getElem_of_mem hi
          obtain ⟨b0, q, q1, _⟩ := k2 m l[m] bs[m] (by simp [hm]) (List.getElem?_eq_getElem (by omega))
          exact (List.getElem?_eq_some_iff.1 q1).1
        · obtain ⟨b0, q, q1, q2, q3, rfl⟩ := k2 i j b hi hb
          simp only
          rw [q1, mB_back q2 q3]
        · cases k with
          | zero =>
            right
            simp only [tget, if_true]
            refine (mA_back x fun id hid => ?_).symm
            have := hc.2
            rw [List.all_eq_true] at this
            simpa using this id hid
          | succ k => left; simp [tget]
      · simp at h
    · simp at h
  · simp at h
variable {hk : Hook} {b2 : RowF} {cf : CallF} {m : Nat}
/-- The outcomes, each in its form. -/
noncomputable def outsC (P : Program) (fn : Func) : List (Ex × St) → Option (List (AV × List Blk))
  | [] => some []
  | (e, s) :: l => match e with | .exit _ => none | _ => match ((resA P fn s).bind fun x => canon x s.H), outsC P fn l with | some r, some q => some (r :: q) | _, _ => none
theorem outsC_spec {fn : Func} {r : AV} {H1 : List Blk} : ∀ {l : List (Ex × St)} {n : Nat}, outsC P fn l = some (List.replicate n (r, H1)) → ∀ p ∈ l, endG P 0 fn (fun x H' => x = r ∧ H' = H1) p.1 p.2 := by
  intro l
  induction l with
  | nil => intro n _ p hp; simp at hp
  | cons q l ih =>
    intro n h p hp
    obtain ⟨e, s⟩ := q
    have key : ∀ x, ((resA P fn s).bind fun x => canon x s.H) = some x → ∀ q, outsC P fn l = some q → x :: q = List.replicate n (r, H1) → (∀ e', (∀ j, e' ≠ .exit j) → endG P 0 fn (fun x H' => x = r ∧ H' = H1) e' s) ∧ ∀ p ∈ l, endG P 0 fn (fun x H' => x = r ∧ H' = H1) p.1 p.2 := by
      intro x hx q hq hxq
      cases n with
      | zero => simp at hxq
      | succ n =>
        simp only [List.replicate_succ, List.cons.injEq] at hxq
        obtain ⟨rfl, rfl⟩ := hxq
        obtain ⟨z, k1, k2⟩ := Option.bind_eq_some_iff.1 hx
        refine ⟨fun e' he => ?_, ih hq⟩
        cases e' with
        | exit j => exact absurd rfl (he j)
        | normal => exact ⟨z, r, H1, k1, canon_weak rfl k2, rfl, rfl⟩
        | ret => exact ⟨z, r, H1, k1, canon_weak rfl k2, rfl, rfl⟩
    simp only [outsC] at h
    split at h
    · simp at h
    · rename_i he
      split at h
      · rename_i x q hx hq
        simp at h
        obtain ⟨k1, k2⟩ := key x hx q hq h
        rcases List.mem_cons.1 hp with rfl | hp
        · exact k1 e fun j hj => he j hj
        · exact k2 p hp
      · simp at h
theorem exN_new (hm : P.follows .mixedOrders = true) (h1 : HookOk P hk) (h2 : CallOk P cf) (h3 : RowOk P b2) {f : FuncId} {fn : Func} {c : Code} {args : List AV} {r : AV} {H1 : List Blk} {n : Nat} (hf : P.funcs[f]? = some fn) (hb : fn.body = some c)
    (he : (entersB P f && decide (args.length ≤ fn.ntmps) && (okM fn.ntmps (mark c) && noScope [] c)) = true)
    (h : ((exN P hk b2 cf m (mark c) ⟨argT 0 args, []⟩).bind fun l => outsC P fn l) = some (List.replicate n (r, H1))) : New P f args r H1 := by
  rw [Bool.and_eq_true, Bool.and_eq_true, decide_eq_true_eq] at he
  obtain ⟨l, k1, k2⟩ := Option.bind_eq_some_iff.1 h
  exact callG_new (inl_K hm hf hb he.1.1 he.1.2 he.2 (exN_sound h1 h2 h3 _ _ _ _ k1 fun p hp => outsC_spec k2 p hp))
end
end Go.Proofs.Ytkppfaennogcmaa
