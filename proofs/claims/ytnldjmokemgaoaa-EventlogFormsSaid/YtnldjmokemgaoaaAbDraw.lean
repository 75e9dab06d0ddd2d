/- Regions that draw their order: one walk in the order of the text serves every order, if whatever could disturb is ordered. -/
import Derived.Test.YtnldjmokemgaoaaAbReg
namespace Go.Proofs.Ytnldjmokemgaoaa
set_option linter.unusedSimpArgs false
set_option linter.unusedVariables false
set_option linter.unnecessarySimpa false
set_option linter.unusedSectionVars false
open Go.RowKit
variable [Glob]

def isWr (o : Oper) : Bool := match o.op with | .store .. => true | .mapUpdate .. => true | .call ⟨.builtin .append, _, _⟩ => true | _ => false
def tmpsOf (o : Oper) : List Nat := o.op.operands.toList.filterMap fun | .tmp t => some t | _ => none
def gslot (all : List Oper) (o : Oper) : Option Nat := match o.guard with | some (g, _) => (all[g]?).bind (·.dst) | none => none
def isApp (o : Oper) : Bool := match o.op with | .call ⟨.builtin .append, _, _⟩ => true | _ => false
def ldAddr (o : Oper) : Option Operand := match o.op with | .load _ a => some a | .fieldAddr _ a _ => some a | _ => none
def isLd (o : Oper) : Bool := (ldAddr o).isSome
/-- Do two operations have to be ordered? An append turns elements' blocks only: loads of variables may pass it. -/
def conf (all : List Oper) (x y : Oper) : Bool :=
  (match x.dst with | some d => y.dst == some d || (tmpsOf y).contains d || gslot all y == some d | none => false) ||
  (match y.dst with | some d => (tmpsOf x).contains d || gslot all x == some d | none => false) ||
  (isWr x && sens y.op && !(isApp x && isLd y)) || (isWr y && sens x.op && !(isApp y && isLd x))
/-- Does one of them write what the other one may read? -/
def confS (x y : Oper) : Bool := (isWr x && sens y.op) || (isWr y && sens x.op)
/-- All that comes before an operation, as bits. -/
def ancOf (acc : List Nat) (o : Oper) : Nat := o.after.toList.foldl (fun m e => if Region.binds .any e then m ||| (2 ^ e.on) ||| acc.getD e.on 0 else m) 0
def ancL : List Oper → List Nat → List Nat
  | [], acc => acc
  | o :: r, acc => ancL r (acc ++ [ancOf acc o])
def edgesOk : Nat → List Oper → Bool
  | _, [] => true
  | j, o :: r => (o.after.toList.all fun e => !Region.binds .any e || decide (e.on < j)) && edgesOk (j + 1) r
def pairsOk (cf : Oper → Oper → Bool) (all : List Oper) (an : List Nat) : Nat → List Oper → Bool
  | _, [] => true
  | j, o :: r => (all.zipIdx.all fun (p : Oper × Nat) => !(decide (p.2 < j) && cf p.1 o) || (an.getD j 0).testBit p.2) && pairsOk cf all an (j + 1) r
def okDraw (ops : Array Oper) : Bool := edgesOk 0 ops.toList && pairsOk (conf ops.toList) ops.toList (ancL ops.toList []) 0 ops.toList
/-- Nothing passes a write. -/
def strictB (all : List Oper) : Bool := pairsOk confS all (ancL all []) 0 all
def notEp : AV → Bool
  | .ep .. => false
  | _ => true
/-- Loads in a region that draws: of variables, or nothing passes a write. -/
def ldZ (all : List Oper) (o : Oper) (s : St) : Prop := ∀ a, ldAddr o = some a → guardV all s.T o = some true → notEp (ev s.T a) = true ∨ strictB all = true

/-- Number i comes before number j. -/
inductive Before (ops : List Oper) : Nat → Nat → Prop
  | one {j : Nat} {o : Oper} {e : Edge} (ho : ops[j]? = some o) (he : e ∈ o.after.toList) (hb : Region.binds .any e = true) : Before ops e.on j
  | more {i j : Nat} {o : Oper} {e : Edge} (ho : ops[j]? = some o) (he : e ∈ o.after.toList) (hb : Region.binds .any e = true) (h : Before ops i e.on) : Before ops i j
theorem fold_bits {acc : List Nat} {i : Nat} : ∀ (l : List Edge) (m : Nat), (l.foldl (fun m e => if Region.binds .any e then m ||| (2 ^ e.on) ||| acc.getD e.on 0 else m) m).testBit i = true →
    m.testBit i = true ∨ ∃ e ∈ l, Region.binds .any e = true ∧ (e.on = i ∨ (acc.getD e.on 0).testBit i = true) := by
  intro l
  induction l with
  | nil => intro m h; exact .inl h
  | cons e l ih =>
    intro m h
    rw [List.foldl_cons] at h
    rcases ih _ h with h1 | ⟨e', h1, h2, h3⟩
    · split at h1
      · rename_i hb
        simp only [Nat.testBit_or, Bool.or_eq_true, Nat.testBit_two_pow, decide_eq_true_eq] at h1
        rcases h1 with (h1 | h1) | h1
        · exact .inl h1
        · exact .inr ⟨e, by simp, hb, .inl h1⟩
        · exact .inr ⟨e, by simp, hb, .inr h1⟩
      · exact .inl h1
    · exact .inr ⟨e', by simp [h1], h2, h3⟩
theorem anc_spec (all : List Oper) : ∀ (l : List Oper) (acc : List Nat), (∀ j, l[j]? = all[acc.length + j]?) → (∀ i j, (acc.getD j 0).testBit i = true → Before all i j) →
    ∀ i j, ((ancL l acc).getD j 0).testBit i = true → Before all i j := by
  intro l
  induction l with
  | nil => intro acc _ h; exact h
  | cons o l ih =>
    intro acc hl h
    refine ih _ (fun j => by have := hl (j + 1); simp at this ⊢; rw [this]; congr 1; omega) fun i j hb => ?_
    by_cases hj : j < acc.length
    · rw [List.getD_eq_getElem?_getD, List.getElem?_append_left hj, ← List.getD_eq_getElem?_getD] at hb
      exact h i j hb
    · by_cases hj2 : j = acc.length
      · subst hj2
        have h0 : all[acc.length]? = some o := by simpa using (hl 0).symm
        rw [List.getD_eq_getElem?_getD, List.getElem?_append_right (Nat.le_refl _)] at hb
        simp at hb
        rcases fold_bits _ _ hb with h1 | ⟨e, h1, h2, h3⟩
        · simp at h1
        · rcases h3 with rfl | h3
          · exact .one h0 h1 h2
          · exact .more h0 h1 h2 (h i _ h3)
      · have : (acc ++ [ancOf acc o]).getD j 0 = 0 := by simp [List.getD]; rw [List.getElem?_eq_none (by simp; omega)]; rfl
        rw [this] at hb
        simp at hb
theorem edges_spec : ∀ (l : List Oper) (k : Nat), edgesOk k l = true → ∀ (j : Nat) o, l[j]? = some o → ∀ e ∈ o.after.toList, Region.binds .any e = true → e.on < k + j := by
  intro l
  induction l with
  | nil => intro k _ j o h; simp at h
  | cons p l ih =>
    intro k h j o hj e he hb
    simp only [edgesOk, Bool.and_eq_true, List.all_eq_true] at h
    cases j with
    | zero =>
      simp at hj
      subst hj
      have := h.1 e he
      simp [hb] at this
      omega
    | succ j =>
      have := ih (k + 1) h.2 j o (by simpa using hj) e he hb
      omega
theorem pairs_spec {cf : Oper → Oper → Bool} (all : List Oper) (an : List Nat) : ∀ (l : List Oper) (k : Nat), pairsOk cf all an k l = true → ∀ (j : Nat) o, l[j]? = some o → ∀ (i : Nat) x, all[i]? = some x → i < k + j → cf x o = true → (an.getD (k + j) 0).testBit i = true := by
  intro l
  induction l with
  | nil => intro k _ j o h; simp at h
  | cons p l ih =>
    intro k h j o hj i x hi hlt hc
    simp only [pairsOk, Bool.and_eq_true, List.all_eq_true] at h
    cases j with
    | zero =>
      simp at hj
      subst hj
      have hm : (x, i) ∈ all.zipIdx := by rw [List.mem_zipIdx_iff_getElem?]; exact hi
      have := h.1 (x, i) hm
      simp only [Nat.add_zero] at hlt ⊢
      simpa [hlt, hc] using this
    | succ j =>
      have := ih (k + 1) h.2 j o (by simpa using hj) i x hi (by omega) hc
      rw [show k + (j + 1) = k + 1 + j by omega]
      exact this
theorem okDraw_spec {ops : Array Oper} (h : okDraw ops = true) : (∀ (j : Nat) o, ops[j]? = some o → ∀ e ∈ o.after.toList, Region.binds .any e = true → e.on < j) ∧
    ∀ (i j : Nat) x y, i < j → ops[i]? = some x → ops[j]? = some y → conf ops.toList x y = true → Before ops.toList i j := by
  simp only [okDraw, Bool.and_eq_true] at h
  refine ⟨fun j o hj e he hb => ?_, fun i j x y hij hi hj hc => ?_⟩
  · simpa using edges_spec _ _ h.1 j o (by simpa using hj) e he hb
  · have := pairs_spec ops.toList _ _ 0 h.2 j y (by simpa using hj) i x (by simpa using hi) (by omega) hc
    exact anc_spec ops.toList ops.toList [] (by simp) (by simp) i j (by simpa using this)
theorem strict_spec {ops : Array Oper} (h : strictB ops.toList = true) : ∀ (i j : Nat) x y, i < j → ops[i]? = some x → ops[j]? = some y → confS x y = true → Before ops.toList i j := fun i j x y hij hi hj hc => by
  have := pairs_spec ops.toList _ _ 0 h j y (by simpa using hj) i x (by simpa using hi) (by omega) hc
  exact anc_spec ops.toList ops.toList [] (by simp) (by simp) i j (by simpa using this)

section
variable {P : Program} {B : From} {w0 : World} {X : Nat → Prop} {N : Nat}
/-- The states of the walk in the order of the text. -/
structure Walk (P : Program) (N : Nat) (ops : Array Oper) (S : Nat → St) (V : Nat → AV) (U : Nat → Upd) : Prop where
  dst : ∀ (j : Nat) o, ops[j]? = some o → ∀ d, o.dst = some d → d < N
  op : ∀ (j : Nat) o, ops[j]? = some o → opR P ops.toList o (S j) (V j) (U j)
  next : ∀ (j : Nat) o, ops[j]? = some o → S (j + 1) = nextSt o (S j) (V j) (U j)
  ld : ∀ (j : Nat) o, ops[j]? = some o → ldZ ops.toList o (S j)
theorem walk_of {Z : Oper → St → Prop} {all : List Oper} {K : St → Prop} : ∀ (l : List Oper) (s : St), wopsP P Z all l s K → ∃ (S : Nat → St) (V : Nat → AV) (U : Nat → Upd), S 0 = s ∧ K (S l.length) ∧
    ∀ (j : Nat) o, l[j]? = some o → opR P all o (S j) (V j) (U j) ∧ S (j + 1) = nextSt o (S j) (V j) (U j) ∧ Z o (S j) := by
  intro l
  induction l with
  | nil => intro s h; exact ⟨fun _ => s, fun _ => .any, fun _ => .no, rfl, h, fun j o h => by simp at h⟩
  | cons o l ih =>
    intro s h
    obtain ⟨v, u, h2, hz, h3⟩ := h
    obtain ⟨S, V, U, k1, k2, k3⟩ := ih _ h3
    refine ⟨fun j => match j with | 0 => s | j + 1 => S j, fun j => match j with | 0 => v | j + 1 => V j, fun j => match j with | 0 => u | j + 1 => U j, rfl, k2, fun j o' hj => ?_⟩
    cases j with
    | zero => simp at hj; subst hj; exact ⟨h2, k1, hz⟩
    | succ j => exact k3 j o' (by simpa using hj)

section
variable {ops : Array Oper} {S : Nat → St} {V : Nat → AV} {U : Nat → Upd}
/-- The blocks that are made from number m on. -/
def newsF (U : Nat → Upd) (n m : Nat) : List Blk := (List.range' m (n - m)).filterMap fun i => match U i with | .new b => some b | _ => none
def Gm (S : Nat → St) (U : Nat → Upd) (n m : Nat) : List Blk := (S m).H ++ newsF U n m
theorem newsF_succ {n m : Nat} (h : m < n) : newsF U n m = (match U m with | .new b => [b] | _ => []) ++ newsF U n (m + 1) := by
  unfold newsF
  rw [show n - m = (n - (m + 1)) + 1 by omega, List.range'_succ, List.filterMap_cons]
  cases U m <;> rfl
theorem opR_form {all : List Oper} {o : Oper} {s : St} {v : AV} {u : Upd} (h : opR P all o s v u) : (∀ blk, u = .new blk → ∀ e rows, blk ≠ .row e true rows) ∧ ∀ id blk, u = .set id blk → id < s.H.length ∧ isWr o = true := by
  rcases h with ⟨_, h | ⟨f, args, ats, g, caps, _, _, _, h1, h2, _⟩⟩ | ⟨_, _, rfl⟩
  · obtain ⟨h1, h2⟩ := eop_form h
    refine ⟨h1, fun id blk hu => ?_⟩
    obtain ⟨h3, h4⟩ := h2 id blk hu
    refine ⟨h3, ?_⟩
    rcases h4 with ⟨t, a, x, h4⟩ | ⟨t, m, k, x, h4⟩ | ⟨args, ats, h4⟩ <;> simp [isWr, h4]
  · exact ⟨h2, fun id b h => absurd h (h1 id b)⟩
  · exact ⟨fun _ h => by simp at h, fun _ _ h => by simp at h⟩
theorem Gm_succ (hW : Walk P N ops S V U) {m : Nat} (h : m < ops.size) : Gm S U ops.size (m + 1) = updG (Gm S U ops.size m) (U m) := by
  have ho : ops[m]? = some ops[m] := by simp [h]
  unfold Gm
  rw [newsF_succ h, hW.next m _ ho]
  have hf := (opR_form (hW.op m _ ho)).2
  simp only [nextSt]
  cases hu : U m with
  | no => simp [upd, updG]
  | new b => simp [upd, updG]
  | set id b =>
    have := (hf id b hu).1
    simp [upd, updG, List.set_append_left _ _ this]
theorem Gm_between (hW : Walk P N ops S V U) {m k : Nat} (hmk : m ≤ k) (hk : k ≤ ops.size) (h : ∀ i o, m ≤ i → i < k → ops[i]? = some o → isWr o = false) : Gm S U ops.size k = Gm S U ops.size m := by
  induction k with
  | zero => rw [show m = 0 by omega]
  | succ k ih =>
    by_cases hm : m = k + 1
    · rw [hm]
    · rw [Gm_succ hW (by omega), ← ih (by omega) (by omega) fun i o h1 h2 h3 => h i o h1 (by omega) h3]
      have hko : ops[k]? = some ops[k] := by simp
      have hf := (opR_form (hW.op k _ hko)).2
      cases hu : U k with
      | no => rfl
      | new b => rfl
      | set id b =>
        have h1 := (hf id b hu).2
        have h2 := h k ops[k] (by omega) (by omega) hko
        rw [h1] at h2; simp at h2
theorem app_form {all : List Oper} {o : Oper} {s : St} {v : AV} {id : Nat} {b : Blk} (h : opR P all o s v (.set id b)) (ha : isApp o = true) : ∃ e nb rows rows', s.H[id]? = some (.row e nb rows) ∧ b = .row e nb rows' := by
  unfold isApp at ha
  split at ha
  · rename_i args ats hop
    rcases h with ⟨_, h | ⟨f, args', ats', g, caps, h0, _⟩⟩ | ⟨_, _, h⟩
    · simp only [eop, hop] at h
      unfold ebi at h
      repeat' (split at h <;> try (simp at h; done))
      all_goals simp at h
      all_goals first
        | (obtain ⟨_, rfl, rfl⟩ := h; exact ⟨_, _, _, _, ‹_›, rfl⟩)
        | skip
    · rw [hop] at h0; cases h0
    · cases h
  · cases ha
theorem box_between (hW : Walk P N ops S V U) {m k : Nat} (hmk : m ≤ k) (hk : k ≤ ops.size) (h : ∀ i o, m ≤ i → i < k → ops[i]? = some o → isWr o = true → isApp o = true) (id : Nat) (t : TypeId) (cs : List AV) :
    (Gm S U ops.size k)[id]? = some (.box t cs) ↔ (Gm S U ops.size m)[id]? = some (.box t cs) := by
  induction k with
  | zero => rw [show m = 0 by omega]
  | succ k ih =>
    by_cases hm : m = k + 1
    · rw [hm]
    · rw [← ih (by omega) (by omega) fun i o h1 h2 h3 => h i o h1 (by omega) h3, Gm_succ hW (by omega)]
      have hko : ops[k]? = some ops[k] := by simp
      cases hu : U k with
      | no => rfl
      | new b => rfl
      | set id' b =>
        have hop := hW.op k _ hko
        rw [hu] at hop
        have hf := (opR_form hop).2 id' b rfl
        obtain ⟨e, nb, rows, rows', h1, rfl⟩ := app_form hop (h k ops[k] (by omega) (by omega) hko hf.2)
        have h2 : (Gm S U ops.size k)[id']? = some (.row e nb rows) := by unfold Gm; rw [List.getElem?_append_left hf.1]; exact h1
        simp only [updG]
        by_cases e1 : id' = id
        · subst e1
          rw [h2, List.getElem?_set_self (List.getElem?_eq_some_iff.1 h2).1]
          simp
        · rw [List.getElem?_set_ne e1]
theorem rd_at {H G : List Blk} (hb : ∀ (id : Nat) (t : TypeId) (cs : List AV), H[id]? = some (Blk.box t cs) → G[id]? = some (Blk.box t cs)) {x : AV} (hn : notEp x = true) {cs : List AV} (hx : rd H x = some cs) : rd G x = some cs := by
  cases x <;> simp only [rd] at hx ⊢ <;> try (simp at hx; done)
  · exact hx
  · split at hx
    · rename_i t' cs' hq
      rw [hb _ _ _ hq]; exact hx
    · cases hx
  · simp [notEp] at hn
theorem shift_at {H G : List Blk} (hb : ∀ (id : Nat) (t : TypeId) (cs : List AV), H[id]? = some (Blk.box t cs) → G[id]? = some (Blk.box t cs)) {x : AV} (hn : notEp x = true) {k : Nat} {y : AV} (hx : shift H x k = some y) : shift G x k = some y := by
  cases x <;> simp only [shift] at hx ⊢ <;> try (simp at hx; done)
  · exact hx
  · split at hx
    · rename_i t' cs' hq
      rw [hb _ _ _ hq]; exact hx
    · cases hx
  · simp [notEp] at hn
theorem load_at {o : Oper} {T : List (Nat × AV)} {H G : List Blk} {v : AV} {u : Upd} {all : List Oper} (hl : isLd o = true) (hop : opR P all o ⟨T, H⟩ v u) (hne : ∀ a, ldAddr o = some a → guardV all T o = some true → notEp (ev T a) = true) (hb : ∀ (id : Nat) (t : TypeId) (cs : List AV), H[id]? = some (Blk.box t cs) → G[id]? = some (Blk.box t cs)) : opR P all o ⟨T, G⟩ v u ∧ u = .no := by
  unfold isLd ldAddr at hl
  unfold ldAddr at hne
  split at hl
  · rename_i t a ho
    rcases hop with ⟨hg, h | ⟨f, args', ats', g, caps, h0, _⟩⟩ | ⟨hg, h1, h2⟩
    · have hn := hne a (by rw [ho]) hg
      have key : eop P o ⟨T, G⟩ = some (v, u) ∧ u = .no := by
        simp only [eop, ho] at h ⊢
        cases hx : rd H (ev T a) with
        | none => rw [hx] at h; split at h <;> simp_all
        | some cs =>
          rw [rd_at hb hn hx]
          rw [hx] at h
          refine ⟨h, ?_⟩
          split at h
          · unfold same at h
            split at h
            · simp at h; exact h.2.symm
            · cases h
          · cases h
      exact ⟨.inl ⟨hg, .inl key.1⟩, key.2⟩
    · rw [ho] at h0; cases h0
    · exact ⟨.inr ⟨hg, h1, h2⟩, h2⟩
  · rename_i t a f ho
    rcases hop with ⟨hg, h | ⟨f, args', ats', g, caps, h0, _⟩⟩ | ⟨hg, h1, h2⟩
    · have hn := hne a (by rw [ho]) hg
      have key : eop P o ⟨T, G⟩ = some (v, u) ∧ u = .no := by
        simp only [eop, ho] at h ⊢
        split at h
        · split at h
          · split at h
            · rename_i off _ _ _ _ _
              cases hx : shift H (ev T a) off with
              | none => rw [hx] at h; simp [same] at h
              | some y =>
                rw [shift_at hb hn hx]
                rw [hx] at h
                simp only [same, Option.some.injEq, Prod.mk.injEq] at h ⊢
                exact ⟨h, h.2.symm⟩
            · cases h
          · cases h
        · cases h
      exact ⟨.inl ⟨hg, .inl key.1⟩, key.2⟩
    · rw [ho] at h0; cases h0
    · exact ⟨.inr ⟨hg, h1, h2⟩, h2⟩
  · cases hl
theorem T_between (hW : Walk P N ops S V U) {t m k : Nat} (hmk : m ≤ k) (hk : k ≤ ops.size) (h : ∀ i o, m ≤ i → i < k → ops[i]? = some o → o.dst ≠ some t) : tget (S k).T t = tget (S m).T t := by
  induction k with
  | zero => rw [show m = 0 by omega]
  | succ k ih =>
    by_cases hm : m = k + 1
    · rw [hm]
    · rw [← ih (by omega) (by omega) fun i o h1 h2 h3 => h i o h1 (by omega) h3]
      have hko : ops[k]? = some ops[k] := by simp
      rw [hW.next k _ hko]
      have hne := h k ops[k] (by omega) (by omega) hko
      simp only [nextSt]
      cases hd : ops[k].dst with
      | none => rfl
      | some d =>
        simp only [tputD, tget_tput]
        rw [if_neg (fun e => hne (by rw [hd, e]))]
theorem len_mono (hW : Walk P N ops S V U) {m k : Nat} (hmk : m ≤ k) (hk : k ≤ ops.size) : (S m).H.length ≤ (S k).H.length := by
  induction k with
  | zero => rw [show m = 0 by omega]; exact Nat.le_refl _
  | succ k ih =>
    by_cases hm : m = k + 1
    · rw [hm]; exact Nat.le_refl _
    · have := ih (by omega) (by omega)
      have hko : ops[k]? = some ops[k] := by simp
      rw [hW.next k _ hko]
      simp only [nextSt]
      cases U k <;> simp [upd] <;> omega
theorem len_new (hW : Walk P N ops S V U) {k : Nat} {b : Blk} (hk : k < ops.size) (hu : U k = .new b) : (S (k + 1)).H.length = (S k).H.length + 1 := by
  have hko : ops[k]? = some ops[k] := by simp [hk]
  rw [hW.next k _ hko]
  simp [nextSt, hu, upd]

/-- In the middle of a region, in whatever order. -/
structure Mid (P : Program) (B : From) (w0 : World) (X : Nat → Prop) (N : Nat) (ops : Array Oper) (S : Nat → St) (U : Nat → Upd) (listed : Array Bool) (a : Act) (w : World) : Prop where
  sz : listed.size = ops.size
  down : ∀ (j : Nat) o, listed.getD j false = true → ops[j]? = some o → ∀ e ∈ o.after.toList, Region.binds .any e = true → listed.getD e.on false = true
  ex : ∃ φ m, m ≤ ops.size ∧ (∀ (i : Nat) o, ops[i]? = some o → isWr o = true → (listed.getD i false = true ↔ i < m)) ∧ HR P w0 X w φ (Gm S U ops.size m) ∧ Turn B.w B.φ B.H w φ (Gm S U ops.size m) ∧
    (∀ t, ∃ mt, mt ≤ ops.size ∧ (∀ (i : Nat) o, ops[i]? = some o → o.dst = some t → (listed.getD i false = true ↔ i < mt)) ∧ RV P w X φ (Gm S U ops.size m) (tget (S mt).T t) (a.tmps.getD t undef)) ∧
    ∀ (i : Nat) b, i < ops.size → listed.getD i false = false → U i = .new b → φ (S i).H.length = none ∧ (Gm S U ops.size m)[(S i).H.length]? = some b
  size : a.tmps.size = N
  df : a.defers = []
theorem before_listed {listed : Array Bool} (hd : ∀ (j : Nat) o, listed.getD j false = true → ops[j]? = some o → ∀ e ∈ o.after.toList, Region.binds .any e = true → listed.getD e.on false = true) {i j : Nat} (h : Before ops.toList i j) : listed.getD j false = true → listed.getD i false = true := by
  induction h with
  | one ho he hb => intro hj; exact hd _ _ hj (by simpa using ho) _ he hb
  | more ho he hb _ ih => intro hj; exact ih (hd _ _ hj (by simpa using ho) _ he hb)
theorem before_ready {listed : Array Bool} (hd : ∀ (j : Nat) o, listed.getD j false = true → ops[j]? = some o → ∀ e ∈ o.after.toList, Region.binds .any e = true → listed.getD e.on false = true) {i j : Nat} {o : Oper} (ho : ops[j]? = some o)
    (hr : ∀ e ∈ o.after.toList, Region.binds .any e = true → listed.getD e.on false = true) (h : Before ops.toList i j) : listed.getD i false = true := by
  cases h with
  | one ho' he hb =>
    have := (show ops.toList[j]? = some o by simpa using ho).symm.trans ho'
    simp at this; subst this
    exact hr _ he hb
  | more ho' he hb h =>
    have := (show ops.toList[j]? = some o by simpa using ho).symm.trans ho'
    simp at this; subst this
    exact before_listed hd h (hr _ he hb)
theorem getD_set {l : Array Bool} {j i : Nat} (hj : j < l.size) : (l.setIfInBounds j true).getD i false = if i = j then true else l.getD i false := by
  rw [Array.getD_eq_getD_getElem?, Array.getD_eq_getD_getElem?, Array.getElem?_setIfInBounds]
  by_cases h : i = j
  · subst h; simp [hj]
  · rw [if_neg (fun e => h e.symm), if_neg h]

theorem conf_dst {all : List Oper} {x y : Oper} {t : Nat} (hx : x.dst = some t) (hy : y.dst = some t ∨ t ∈ tmpsOf y ∨ gslot all y = some t) : conf all x y = true := by
  simp only [conf, hx, Bool.or_eq_true]
  rcases hy with h | h | h
  · simp [h]
  · simp [h]
  · simp [h]
theorem conf_dst' {all : List Oper} {x y : Oper} {t : Nat} (hy : y.dst = some t) (hx : x.dst = some t ∨ t ∈ tmpsOf x ∨ gslot all x = some t) : conf all x y = true := by
  rcases hx with h | h | h
  · exact conf_dst h (.inl hy)
  · simp only [conf, hy, Bool.or_eq_true]; simp [h]
  · simp only [conf, hy, Bool.or_eq_true]; simp [h]
theorem isWr_sens {o : Oper} (h : isWr o = true) : sens o.op = true := by
  unfold isWr at h
  split at h
  · rename_i h2; rw [h2]; rfl
  · rename_i h2; rw [h2]; rfl
  · rename_i h2; rw [h2]; rfl
  · simp at h
theorem isWr_ld {o : Oper} (h : isWr o = true) : isLd o = false := by
  unfold isWr at h
  unfold isLd ldAddr
  split at h
  · rename_i h2; simp [h2]
  · rename_i h2; simp [h2]
  · rename_i h2; simp [h2]
  · simp at h
/-- One operation in the middle of a region. -/
theorem mid_step (hW : Walk P N ops S V U) (hok : okDraw ops = true) {listed : Array Bool} {a : Act} {w : World} (hM : Mid P B w0 X N ops S U listed a w) {j : Nat} {o : Oper} {Q : Exit → Act → World → Prop} (ho : ops[j]? = some o) (hj : listed.getD j false = false)
    (hr : ∀ e ∈ o.after.toList, Region.binds .any e = true → listed.getD e.on false = true) {K : Act → World → Prop} (hK : ∀ a' w', Mid P B w0 X N ops S U (listed.setIfInBounds j true) a' w' → K a' w') : wpOp P ops Q j K a w := by
  obtain ⟨hedge, hconf⟩ := okDraw_spec hok
  obtain ⟨φ, m, hm, hwr, hhr, htn, hT, hnew⟩ := hM.ex
  have hjn : j < ops.size := (Array.getElem?_eq_some_iff.1 ho).1
  have hjl : j < listed.size := by rw [hM.sz]; exact hjn
  -- whoever must come before has come; whoever must come behind has not
  have hbef : ∀ (i : Nat) x, ops[i]? = some x → i < j → conf ops.toList x o = true → listed.getD i false = true := fun i x hx hlt hc => before_ready hM.down ho hr (hconf i j x o hlt hx ho hc)
  have haft : ∀ (i : Nat) x, ops[i]? = some x → j < i → conf ops.toList o x = true → listed.getD i false = false := fun i x hx hlt hc => by
    cases h : listed.getD i false with
    | false => rfl
    | true => have := before_listed hM.down (hconf j i o x hlt ho hx hc) h; rw [hj] at this; simp at this
  have hslot : ∀ t, (o.dst = some t ∨ t ∈ tmpsOf o ∨ gslot ops.toList o = some t) → ∀ (i : Nat) x, ops[i]? = some x → x.dst = some t → (listed.getD i false = true ↔ i < j) := fun t ht i x hx hd => by
    rcases Nat.lt_trichotomy i j with h | h | h
    · exact ⟨fun _ => h, fun _ => hbef i x hx h (conf_dst hd ht)⟩
    · subst h; simp [hj]
    · constructor
      · intro h2; rw [haft i x hx h (conf_dst' hd ht)] at h2; simp at h2
      · intro h2; omega
  have hwrj : sens o.op = true → ∀ (i : Nat) x, (isLd o = false ∨ strictB ops.toList = true ∨ isApp x = false) → ops[i]? = some x → isWr x = true → (listed.getD i false = true ↔ i < j) := fun hs i x hd hx hw => by
    rcases Nat.lt_trichotomy i j with h | h | h
    · refine ⟨fun _ => h, fun _ => ?_⟩
      rcases hd with hd | hd | hd
      · exact hbef i x hx h (by simp [conf, hw, hs, hd])
      · exact before_ready hM.down ho hr (strict_spec hd i j x o h hx ho (by simp [confS, hw, hs]))
      · exact hbef i x hx h (by simp [conf, hw, hs, hd])
    · subst h; simp [hj]
    · constructor
      · intro h2
        have : listed.getD i false = false := by
          rcases hd with hd | hd | hd
          · exact haft i x hx h (by simp [conf, hw, hs, hd])
          · cases h3 : listed.getD i false with
            | false => rfl
            | true => have := before_listed hM.down (strict_spec hd j i o x h ho hx (by simp [confS, hw, hs])) h3; rw [hj] at this; simp at this
          · exact haft i x hx h (by simp [conf, hw, hs, hd])
        rw [this] at h2; simp at h2
      · intro h2; omega
  -- two boundaries for the same things
  have hTj : ∀ t, (o.dst = some t ∨ t ∈ tmpsOf o ∨ gslot ops.toList o = some t) → RV P w X φ (Gm S U ops.size m) (tget (S j).T t) (a.tmps.getD t undef) := fun t ht => by
    obtain ⟨mt, h1, h2, h3⟩ := hT t
    have e : tget (S j).T t = tget (S mt).T t := by
      rcases Nat.le_total mt j with h | h
      · exact T_between hW h (by omega) fun i x q1 q2 q3 q4 => by
          have r1 := hslot t ht i x q3 q4
          have r2 := h2 i x q3 q4
          have r3 := r1.symm.trans r2
          omega
      · exact (T_between hW h h1 fun i x q1 q2 q3 q4 => by
          have r1 := hslot t ht i x q3 q4
          have r2 := h2 i x q3 q4
          have r3 := r1.symm.trans r2
          omega).symm
    rw [e]; exact h3
  have hGj : sens o.op = true → (isLd o = false ∨ strictB ops.toList = true) → Gm S U ops.size m = Gm S U ops.size j := fun hs hd => by
    have hb : ∀ i x, ops[i]? = some x → isWr x = true → (i < m ↔ i < j) := fun i x hx hw => (hwr i x hx hw).symm.trans (hwrj hs i x (hd.imp id .inl) hx hw)
    rcases Nat.le_total m j with h | h
    · exact (Gm_between hW h (by omega) fun i x q1 q2 q3 => by
        cases hw : isWr x with
        | false => rfl
        | true => have := hb i x q3 hw; omega).symm
    · exact Gm_between hW h hm fun i x q1 q2 q3 => by
        cases hw : isWr x with
        | false => rfl
        | true => have := hb i x q3 hw; omega
  have hop := hW.op j o ho
  -- a load of a variable runs as well where appends have passed it
  obtain ⟨Hx, hopx, hsx, hnx⟩ : ∃ Hx, opR P ops.toList o ⟨(S j).T, Hx⟩ (V j) (U j) ∧ (sens o.op = true → ∀ (id : Nat) b, Hx[id]? = some b → (Gm S U ops.size m)[id]? = some b) ∧ (∀ b, U j = .new b → Hx = (S j).H) := by
    by_cases hd : isLd o = false ∨ strictB ops.toList = true
    · refine ⟨(S j).H, hop, fun hs id b hb => ?_, fun _ _ => rfl⟩
      rw [hGj hs hd]
      unfold Gm
      rw [List.getElem?_append_left (List.getElem?_eq_some_iff.1 hb).1]
      exact hb
    · have hl : isLd o = true := by cases h : isLd o with | true => rfl | false => exact absurd (.inl h) hd
      have hs : sens o.op = true := by
        unfold isLd ldAddr at hl
        split at hl
        · rename_i h2; rw [h2]; rfl
        · rename_i h2; rw [h2]; rfl
        · cases hl
      have hb : ∀ i x, ops[i]? = some x → isWr x = true → isApp x = true ∨ (i < m ↔ i < j) := fun i x hx hw => by
        cases ha : isApp x with
        | true => exact .inl rfl
        | false => exact .inr ((hwr i x hx hw).symm.trans (hwrj hs i x (.inr (.inr ha)) hx hw))
      obtain ⟨q1, q2⟩ := load_at (G := Gm S U ops.size m) hl hop (fun a h hg => ((hW.ld j o ho a h hg).resolve_right fun h => hd (.inr h))) fun id t cs h => by
        have h0 : (Gm S U ops.size j)[id]? = some (.box t cs) := by
          unfold Gm
          rw [List.getElem?_append_left (List.getElem?_eq_some_iff.1 h).1]
          exact h
        rcases Nat.le_total m j with h1 | h1
        · exact (box_between hW h1 (by omega) (fun i x q1 q2 q3 q4 => (hb i x q3 q4).resolve_right fun h => by omega) id t cs).1 h0
        · exact (box_between hW h1 hm (fun i x q1 q2 q3 q4 => (hb i x q3 q4).resolve_right fun h => by omega) id t cs).2 h0
      exact ⟨_, q1, fun _ id b h => h, fun b h => by rw [q2] at h; cases h⟩
  refine opR_wp ho hopx hhr (fun x hx => ?_) (fun g b t hg ht => ?_) hsx (fun b hb => by rw [hnx b hb]; exact ⟨(hnew j b hjn hj hb).2, (hnew j b hjn hj hb).1⟩) (fun x w' φ' k1 k2 k3 k4 => hK _ _ ?_)
  · cases x with
    | tmp t => exact hTj t (.inr (.inl (by simp only [tmpsOf, List.mem_filterMap]; exact ⟨_, hx, rfl⟩)))
    | const v => exact ofV_rv v
    | func f => exact .ro (.fn rfl (by simp))
    | global g => exact hhr.glob g
  · exact hTj t (.inr (.inr (by simp [gslot, hg]; simpa using ht)))
  · -- what holds behind it
    have hset := fun i => getD_set (l := listed) (i := i) hjl
    obtain ⟨q1, q2⟩ := opR_form hop
    obtain ⟨m', hm', hwr', hG'⟩ : ∃ m', m' ≤ ops.size ∧ (∀ (i : Nat) x, ops[i]? = some x → isWr x = true → ((listed.setIfInBounds j true).getD i false = true ↔ i < m')) ∧ Gm S U ops.size m' = updG (Gm S U ops.size m) (U j) := by
      cases hw : isWr o with
      | true =>
        have hs := isWr_sens hw
        refine ⟨j + 1, by omega, fun i x hx hwx => ?_, ?_⟩
        · rw [hset i]
          have := hwrj hs i x (.inl (isWr_ld hw)) hx hwx
          by_cases h : i = j
          · simp [h]
          · rw [if_neg h, this]; omega
        · rw [Gm_succ hW hjn, hGj hs (.inl (isWr_ld hw))]
      | false =>
        refine ⟨m, hm, fun i x hx hwx => ?_, ?_⟩
        · rw [hset i]
          by_cases h : i = j
          · subst h; rw [ho] at hx; simp at hx; subst hx; rw [hw] at hwx; simp at hwx
          · rw [if_neg h]; exact hwr i x hx hwx
        · cases hu : U j with
          | no => rfl
          | new b => rfl
          | set id b => have := (q2 id b hu).2; rw [hw] at this; simp at this
    refine ⟨by simpa using hM.sz, fun i x hi hx e he hb => ?_, ⟨φ', m', hm', hwr', by rw [hG']; exact k1, by rw [hG']; exact htn.trans k2, fun t => ?_, fun i b hi hl hu => ?_⟩, by cases hd : o.dst <;> simpa [Act.put, hd] using hM.size, by cases hd : o.dst <;> simpa [Act.put, hd] using hM.df⟩
    · rw [hset] at hi ⊢
      split
      · rfl
      · by_cases h : i = j
        · subst h; rw [ho] at hx; simp at hx; subst hx
          exact hr e he hb
        · rw [if_neg h] at hi
          exact hM.down i x hi hx e he hb
    · by_cases hd : o.dst = some t
      · refine ⟨j + 1, by omega, fun i x hx hdx => ?_, ?_⟩
        · rw [hset i]
          have := hslot t (.inl hd) i x hx hdx
          by_cases h : i = j
          · simp [h]
          · rw [if_neg h, this]; omega
        · rw [hG', hW.next j o ho]
          have hN := hW.dst j o ho t hd
          simp only [nextSt, hd, tputD, tget_tput, if_true, Act.put]
          have : (a.tmps.setIfInBounds t x).getD t undef = x := by simp [Array.getD_eq_getD_getElem?, hM.size, hN]
          rw [this]; exact k3
      · obtain ⟨mt, h1, h2, h3⟩ := hT t
        refine ⟨mt, h1, fun i x hx hdx => ?_, ?_⟩
        · rw [hset i]
          by_cases h : i = j
          · subst h; rw [ho] at hx; simp at hx; subst hx; exact absurd hdx hd
          · rw [if_neg h]; exact h2 i x hx hdx
        · rw [hG']
          have : (a.put o.dst x).tmps.getD t undef = a.tmps.getD t undef := by
            cases hd2 : o.dst with
            | none => rfl
            | some d => simp [Act.put, Array.getD_eq_getD_getElem?, Array.getElem?_setIfInBounds, show d ≠ t from fun e => hd (by rw [hd2, e])]
          rw [this]; exact h3.turn k2
    · rw [hset] at hl
      split at hl
      · simp at hl
      · rename_i hij
        obtain ⟨r1, r2⟩ := hnew i b hi hl hu
        have hio : ops[i]? = some ops[i] := by simp [hi]
        have hnb := (opR_form (hW.op i _ hio)).1 b hu
        obtain ⟨s1, s2⟩ := k4 (S i).H.length r1 (fun b' hb' e => by
          rw [hnx b' hb'] at e
          have l1 := len_new hW hi hu
          have l2 := len_new hW hjn hb'
          rcases Nat.lt_or_gt_of_ne hij with h | h
          · have := len_mono hW (show i + 1 ≤ j by omega) (by omega); omega
          · have := len_mono hW (show j + 1 ≤ i by omega) (by omega); omega) (fun e rows h => by rw [r2] at h; simp at h; exact hnb _ _ h)
        rw [hG']
        exact ⟨s1, by rw [s2]; exact r2⟩
theorem mid_any (hW : Walk P N ops S V U) (hok : okDraw ops = true) {K : St → Prop} (hKn : K (S ops.size)) {Q : Exit → Act → World → Prop} (hQ : ∀ s φ a w, Rel P B w0 X N s φ a w → K s → Q .normal a w) :
    ∀ (fuel : Nat) (listed : Array Bool) (a : Act) (w : World), Mid P B w0 X N ops S U listed a w → listed.toList.countP (!·) ≤ fuel → wpAny P .any ops Q fuel listed a w := by
  obtain ⟨hedge, _⟩ := okDraw_spec hok
  -- all have come up
  have hend : ∀ (listed : Array Bool) (a : Act) (w : World), Mid P B w0 X N ops S U listed a w → (∀ i, i < ops.size → listed.getD i false = true) → Q .normal a w := fun listed a w hM hall => by
    obtain ⟨φ, m, hm, hwr, hhr, htn, hT, hnew⟩ := hM.ex
    have hfin : Gm S U ops.size ops.size = (S ops.size).H := by simp [Gm, newsF]
    have hG : Gm S U ops.size m = (S ops.size).H := by
      rw [← hfin]
      exact (Gm_between hW hm (Nat.le_refl _) fun i o h1 h2 h3 => by
        cases hw : isWr o with
        | false => rfl
        | true => have := (hwr i o h3 hw).1 (hall i h2); omega).symm
    refine hQ (S ops.size) φ a w ⟨by rw [← hG]; exact hhr, by rw [← hG]; exact htn, fun t => ?_, hM.size, hM.df⟩ hKn
    obtain ⟨mt, h1, h2, h3⟩ := hT t
    rw [← hG, T_between hW h1 (Nat.le_refl _) fun i o q1 q2 q3 q4 => by have := (h2 i o q3 q4).1 (hall i q2); omega]
    exact h3
  -- somebody can come up, unless all have
  have hsome : ∀ (listed : Array Bool) (a : Act) (w : World), Mid P B w0 X N ops S U listed a w → Region.ready .any ops listed = [] → ∀ i, i < ops.size → listed.getD i false = true := fun listed a w hM hre => by
    intro i
    induction i using Nat.strongRecOn with
    | _ i ih =>
      intro hi
      cases h : listed.getD i false with
      | true => rfl
      | false =>
        have hio : ops[i]? = some ops[i] := by simp [hi]
        have : i ∈ Region.ready .any ops listed := by
          unfold Region.ready
          rw [List.mem_filter]
          refine ⟨by simpa using hi, ?_⟩
          have hd : listed.getD i true = false := by
            rw [Array.getD_eq_getD_getElem?] at h ⊢
            have hl : i < listed.size := by rw [hM.sz]; exact hi
            simp [hl] at h ⊢; exact h
          simp only [hd, Bool.not_false, Bool.true_and, hio, Option.map_some, Option.getD_some, Array.all_eq_true_iff_forall_mem]
          intro e he
          have he : e ∈ ops[i].after.toList := by simpa using he
          cases hb : Region.binds .any e with
          | false => simp
          | true =>
            have hlt := hedge i _ hio e he hb
            simp [ih e.on hlt (by omega)]
        rw [hre] at this
        simp at this
  intro fuel
  induction fuel with
  | zero =>
    intro listed a w hM hc
    have hall : ∀ i, i < ops.size → listed.getD i false = true := fun i hi => by
      have hl : i < listed.size := by rw [hM.sz]; exact hi
      have h0 : listed.toList.countP (!·) = 0 := by omega
      rw [List.countP_eq_zero] at h0
      have := h0 listed[i] (by simp)
      rw [Array.getD_eq_getD_getElem?]
      simp [hl]
      simpa using this
    refine ⟨?_, hend listed a w hM hall⟩
    unfold Region.ready
    rw [List.filter_eq_nil_iff]
    intro i hi
    have hi' : i < ops.size := by simpa using hi
    have := hall i hi'
    have hd : listed.getD i true = true := by
      rw [Array.getD_eq_getD_getElem?] at this ⊢
      have hl : i < listed.size := by rw [hM.sz]; exact hi'
      simp [hl] at this ⊢; exact this
    simp [hd]
  | succ fuel ih =>
    intro listed a w hM hc
    refine ⟨fun hre => hend listed a w hM (hsome listed a w hM hre), fun j hj => ?_⟩
    obtain ⟨h1, o, ho, h2⟩ := mem_ready.1 hj
    have hjn : j < ops.size := (Array.getElem?_eq_some_iff.1 ho).1
    have hjl : j < listed.size := by rw [hM.sz]; exact hjn
    have hjf : listed.getD j false = false := by
      rw [Array.getD_eq_getD_getElem?] at h1 ⊢
      simp [hjl] at h1 ⊢; exact h1
    refine mid_step hW hok hM ho hjf (fun e he hb => h2 e (by simpa using he) hb) fun a' w' hM' => ih _ a' w' hM' ?_
    have hlj : listed[j] = false := by
      rw [Array.getD_eq_getD_getElem?] at hjf
      simpa [hjl] using hjf
    have hcnt := List.countP_set (p := fun b : Bool => !b) (l := listed.toList) (i := j) (a := true) (by simpa using hjl)
    rw [Array.toList_setIfInBounds, hcnt]
    have h3 : 0 < listed.toList.countP (!·) := List.countP_pos_iff.2 ⟨listed[j], by simp, by simp [hlj]⟩
    have hlt2 : listed.toList[j]'(by simpa using hjl) = false := by simpa using hlj
    simp only [hlt2, Bool.not_false, if_true, Bool.not_true, Bool.false_eq_true, if_false]
    omega
/-- **A region that draws its order.** -/
theorem draw_wp (hm : P.follows .mixedOrders = true) (hok : okDraw ops = true) {K : St → Prop} {Q : Exit → Act → World → Prop} {id : Nat} {s : St} {φ : Nat → Option Nat} {a : Act} {w : World} (hdst : ∀ (j : Nat) o, ops[j]? = some o → ∀ d, o.dst = some d → d < N) (h : wopsP P (ldZ ops.toList) ops.toList ops.toList s K) (hrel : Rel P B w0 X N s φ a w)
    (hQ : ∀ s φ a w, Rel P B w0 X N s φ a w → K s → Q .normal a w) : (Code.region id ops true).wp P Q a w := by
  obtain ⟨S, V, U, h0, hKn, hs⟩ := walk_of _ _ h
  have hW : Walk P N ops S V U := ⟨hdst, fun j o ho => (hs j o (by simpa using ho)).1, fun j o ho => (hs j o (by simpa using ho)).2.1, fun j o ho => (hs j o (by simpa using ho)).2.2⟩
  refine wp_region_any hm (mid_any hW hok (K := K) (by simpa using hKn) hQ ops.size _ a _ ?_ (by have := List.countP_le_length (p := fun b : Bool => !b) (l := (Array.replicate ops.size false).toList); simpa using this))
  have hrel' : HR P w0 X w.drew φ s.H := hr_drew hrel.hr
  have hfalse : ∀ i, (Array.replicate ops.size false).getD i false = false := fun i => by
    rw [Array.getD_eq_getD_getElem?, Array.getElem?_replicate]
    split <;> rfl
  -- the blocks that are to come are there already, as names
  have hpush : ∀ (l : List Blk) (G : List Blk), HR P w0 X w.drew φ G → HR P w0 X w.drew φ (G ++ l) ∧ Turn w.drew φ G w.drew φ (G ++ l) := by
    intro l
    induction l with
    | nil => intro G h; rw [List.append_nil]; exact ⟨h, Turn.refl _ _ _⟩
    | cons b l ih =>
      intro G h
      obtain ⟨k1, k2⟩ := ih _ (hr_push h b)
      rw [show G ++ b :: l = (G ++ [b]) ++ l by simp]
      exact ⟨k1, (turn_push _ _ _ _).trans k2⟩
  obtain ⟨p1, p2⟩ := hpush (newsF U ops.size 0) s.H hrel'
  have hG0 : Gm S U ops.size 0 = s.H ++ newsF U ops.size 0 := by simp [Gm, h0]
  refine ⟨by simp, fun j o hj => by rw [hfalse] at hj; simp at hj, ⟨φ, 0, by omega, fun i o _ _ => by rw [hfalse]; simp, by rw [hG0]; exact p1, by rw [hG0]; exact (hrel.tn.trans (turn_drew w φ s.H)).trans p2, fun t => ⟨0, by omega, fun i o _ _ => by rw [hfalse]; simp, ?_⟩, fun i b hi _ hu => ⟨?_, ?_⟩⟩, hrel.size, hrel.df⟩
  · rw [hG0, h0]
    exact ((hrel.t t).turn (turn_drew w φ s.H)).turn p2
  · cases hc : φ (S i).H.length with
    | none => rfl
    | some c =>
      have := (hrel.hr.own _ c hc).2.2
      have := len_mono hW (Nat.zero_le i) (by omega)
      rw [h0] at this; omega
  · -- the block with this number
    have hio : ∀ k, k ≤ i → (Gm S U ops.size 0)[(S i).H.length]? = ((S k).H ++ newsF U ops.size k)[(S i).H.length]? := by
      intro k
      induction k with
      | zero => intro _; rfl
      | succ k ih =>
        intro hk
        rw [ih (by omega), newsF_succ (by omega : k < ops.size)]
        have hko : ops[k]? = some ops[k] := by simp
        have hlm := len_mono hW (show k + 1 ≤ i by omega) (by omega)
        rw [hW.next k _ hko] at hlm ⊢
        cases huk : U k with
        | no => simp [nextSt, upd]
        | new b' => simp [nextSt, upd]
        | set id' b' =>
          simp only [nextSt, upd, huk, List.length_set, List.nil_append] at hlm ⊢
          rw [List.getElem?_append_right (by omega), List.getElem?_append_right (by simp; omega)]
          simp
    rw [hio i (Nat.le_refl _), newsF_succ hi, hu]
    simp
end
end
end Go.Proofs.Ytnldjmokemgaoaa
