/- Regions of operations in the abstract machine: one order, or any order. -/
import Derived.Test.YtnldjmokemgaoaaAbCall
import Derived.Orders
namespace Go.Proofs.Ytnldjmokemgaoaa
set_option linter.unusedSimpArgs false
set_option linter.unusedVariables false
set_option linter.unnecessarySimpa false
set_option linter.unusedSectionVars false
open Go.RowKit
variable [Glob]

section
variable (P : Program)
/-- Is an operation to be carried out? -/
def guardV (all : List Oper) (T : List (Nat × AV)) (o : Oper) : Option Bool :=
  match o.guard with
  | none => some true
  | some (g, b) => match (all[g]?).bind (·.dst) with
    | some t => match tget T t with | .bool c => some (c == b) | .und => some false | _ => none
    | none => none
/-- What a call does, in general: it hands back some r, leaves some blocks H', and K is true of these. -/
def CallG (g : FuncId) (args : List AV) (H : List Blk) (K : AV → List Blk → Prop) : Prop :=
  entersB P g = true ∧ ∀ (w0 w : World) X φ (vs : Array Value), HR P w0 X w φ H → args.length = vs.size → (∀ (j : Nat) x v, args[j]? = some x → vs[j]? = some v → RV P w X φ H x v) →
    Calls P g vs w fun e w' => ∃ v r φ' H', e = .returned v ∧ HR P w0 X w' φ' H' ∧ Turn w φ H w' φ' H' ∧ RV P w' X φ' H' r v ∧ K r H'
/-- A call of a function that is known. -/
def callR (o : Oper) (s : St) (r : AV) (u : Upd) : Prop :=
  ∃ f args ats g caps, o.op = .call ⟨.value f, args, ats⟩ ∧ ev s.T f = .fn g caps ∧ CallE P g (args.toList.map (ev s.T) ++ caps) s.H r u
def opR (all : List Oper) (o : Oper) (s : St) (v : AV) (u : Upd) : Prop :=
  (guardV all s.T o = some true ∧ (eop P o s = some (v, u) ∨ callR P o s v u)) ∨ (guardV all s.T o = some false ∧ v = .und ∧ u = .no)
def nextSt (o : Oper) (s : St) (v : AV) (u : Upd) : St := ⟨tputD s.T o.dst v, upd s.H u⟩
end

theorem tget_tput (T : List (Nat × AV)) (k j : Nat) (v : AV) : tget (tput T k v) j = if k = j then v else tget T j := by
  induction T with
  | nil => simp [tput, tget]
  | cons p T ih =>
    obtain ⟨i, u⟩ := p
    by_cases h : i = k
    · subst h
      simp only [tput, if_true, tget]
      split <;> rfl
    · simp only [tput, if_neg h, tget, ih]
      by_cases h2 : i = j
      · subst h2
        simp [Ne.symm h]
      · simp [h2]

section
variable {P : Program} {w0 w : World} {X : Nat → Prop} {φ : Nat → Option Nat} {G : List Blk} {s : St} {a : Act} {all : List Oper}
theorem wr_form {H : List Blk} {p : AV} {cs : List AV} {u : Upd} (h : wr H p cs = some u) : ∃ id b, u = .set id b ∧ id < H.length := by
  cases p with
  | op id o =>
    simp only [wr] at h
    split at h
    · rename_i t bcs hb
      split at h
      · simp at h; exact ⟨id, _, h.symm, (List.getElem?_eq_some_iff.1 hb).1⟩
      · simp at h
    · simp at h
  | ep id n i o =>
    simp only [wr] at h
    split at h
    · rename_i e nb rows hb
      split at h
      · split at h
        · split at h
          · simp at h; exact ⟨id, _, h.symm, (List.getElem?_eq_some_iff.1 hb).1⟩
          · simp at h
        · simp at h
      · simp at h
    · simp at h
  | _ => simp [wr] at h
theorem ebi_form {b : Builtin} {ts : List TypeId} {args : List AV} {v : AV} {u : Upd} (h : ebi P s b ts args = some (v, u)) :
    (∀ blk, u = .new blk → ∀ e rows, blk ≠ .row e true rows) ∧ ∀ id blk, u = .set id blk → id < s.H.length ∧ b = .append := by
  unfold ebi at h
  repeat' (split at h)
  all_goals simp at h
  all_goals obtain ⟨_, rfl⟩ := h
  all_goals refine ⟨fun blk hb e rows he => ?_, fun id blk hb => ?_⟩
  all_goals simp at hb
  all_goals try (subst hb; simp at he; done)
  all_goals
    obtain ⟨rfl, rfl⟩ := hb
    exact ⟨(List.getElem?_eq_some_iff.1 (by assumption)).1, rfl⟩
theorem eop_form {o : Oper} {v : AV} {u : Upd} (h : eop P o s = some (v, u)) : (∀ blk, u = .new blk → ∀ e rows, blk ≠ .row e true rows) ∧
    ∀ id blk, u = .set id blk → id < s.H.length ∧ ((∃ t a x, o.op = .store t a x) ∨ (∃ t m k x, o.op = .mapUpdate t m k x) ∨ ∃ args ats, o.op = .call ⟨.builtin .append, args, ats⟩) := by
  obtain ⟨dst, op, tyo, pos, after, guard⟩ := o
  cases op
  case call c =>
    obtain ⟨callee, args, ats⟩ := c
    cases callee <;> simp only [eop] at h <;> try (simp at h; done)
    obtain ⟨h1, h2⟩ := ebi_form h
    refine ⟨h1, fun id blk hu => ?_⟩
    obtain ⟨h3, rfl⟩ := h2 id blk hu
    exact ⟨h3, .inr (.inr ⟨_, _, rfl⟩)⟩
  case store t x y =>
    simp only [eop] at h
    repeat' (split at h)
    all_goals simp at h
    rename_i u' hu'
    obtain ⟨_, rfl⟩ := h
    obtain ⟨id, b, rfl, hlt⟩ := wr_form hu'
    refine ⟨fun blk hb => by simp at hb, fun id' blk hb => ?_⟩
    simp at hb
    obtain ⟨rfl, rfl⟩ := hb
    exact ⟨hlt, .inl ⟨_, _, _, rfl⟩⟩
  case mapUpdate t m k x =>
    simp only [eop] at h
    repeat' (split at h)
    all_goals simp at h
    obtain ⟨_, rfl⟩ := h
    refine ⟨fun blk hb => by simp at hb, fun id' blk hb => ?_⟩
    simp at hb
    obtain ⟨rfl, rfl⟩ := hb
    exact ⟨(List.getElem?_eq_some_iff.1 (by assumption)).1, .inr (.inl ⟨_, _, _, _, rfl⟩)⟩
  all_goals
    simp only [eop, same] at h
    repeat' (split at h)
    all_goals try (simp at h; done)
    all_goals try contradiction
    all_goals (try simp only [Option.some.injEq, Prod.mk.injEq] at h)
    all_goals obtain ⟨_, rfl⟩ := h
    all_goals refine ⟨fun blk hb e rows he => ?_, fun id blk hb => ?_⟩
    all_goals simp at hb
    all_goals (subst hb; simp at he)

theorem ebi_nocall {c : Call} {s : St} {v : AV} {u : Upd} {dst : Option Tmp} {tyo : TypeId} {pos : String} {after : Array Edge} {guard : Option (Nat × Bool)} : True := trivial
/-- What one operation of a region does. -/
theorem opR_wp {ops : Array Oper} {i : Nat} {o : Oper} {T : List (Nat × AV)} {H : List Blk} {v : AV} {u : Upd} {Q : Exit → Act → World → Prop} (hi : ops[i]? = some o) (h : opR P ops.toList o ⟨T, H⟩ v u) (hr : HR P w0 X w φ G)
    (hev : ∀ x ∈ o.op.operands.toList, RV P w X φ G (ev T x) (a.eval x)) (hgd : ∀ g b t, o.guard = some (g, b) → (ops.toList[g]?).bind (·.dst) = some t → RV P w X φ G (tget T t) (a.tmps.getD t undef))
    (hG : sens o.op = true → ∀ (id : Nat) b, H[id]? = some b → G[id]? = some b) (hnew : ∀ b, u = .new b → G[H.length]? = some b ∧ φ H.length = none) {K : Act → World → Prop}
    (hK : ∀ x w' φ', HR P w0 X w' φ' (updG G u) → Turn w φ G w' φ' (updG G u) → RV P w' X φ' (updG G u) v x →
      (∀ id, φ id = none → (∀ b, u = .new b → id ≠ H.length) → (∀ e rows, G[id]? ≠ some (.row e true rows)) → φ' id = none ∧ (updG G u)[id]? = G[id]?) → K (a.put o.dst x) w') : wpOp P ops Q i K a w := by
  have hw : ∀ b, guardV ops.toList T o = some b → Region.wanted o (yielded ops a.tmps) = b := by
    intro b hb
    unfold guardV at hb
    unfold Region.wanted
    split at hb
    · rename_i hg
      rw [hg]
      simpa using hb
    · rename_i g want hg
      rw [hg]
      split at hb
      · rename_i t ht
        split at hb
        · rename_i c hc
          have := hgd g want t hg ht
          rw [hc] at this
          have hv := this.bool_inv
          have hlt : a.tmps[t]? = some (.bool c) := by
            rw [Array.getD_eq_getD_getElem?] at hv
            cases ha : a.tmps[t]? with
            | none => rw [ha] at hv; simp [undef] at hv
            | some y => rw [ha] at hv; simpa using hv
          have ht' : (ops[g]?).bind (·.dst) = some t := by simpa using ht
          simp only [yielded, ht', Option.bind_some, hlt]
          simp at hb
          rw [← hb]
          cases c <;> cases want <;> rfl
        · rename_i hc
          have := hgd g want t hg ht
          rw [hc] at this
          have hv := this.und_inv
          have ht' : (ops[g]?).bind (·.dst) = some t := by simpa using ht
          have hy : yielded ops a.tmps g = none := by
            simp only [yielded, ht', Option.bind_some]
            rw [Array.getD_eq_getD_getElem?] at hv
            cases ha : a.tmps[t]? with
            | none => rfl
            | some y => rw [ha] at hv; simp at hv; rw [hv]; rfl
          simp at hb
          simp [hy, hb]
        · simp at hb
      · simp at hb
  unfold wpOp
  simp only [hi]
  rcases h with ⟨hg, h | h⟩ | ⟨hg, rfl, rfl⟩
  · rw [if_pos (hw true hg)]
    left
    obtain ⟨x, w', φ', h1, h2, h3, h4, h5⟩ := eop_sound hr h hev hG hnew
    unfold Oper.wp
    rcases h1 with h1 | ⟨h1, rfl⟩
    · rw [h1]; exact hK x w' φ' h2 h3 h4 h5
    · rw [h1]; exact hK undef w' φ' h2 h3 h4 h5
  · rw [if_pos (hw true hg)]
    left
    obtain ⟨f, args, ats, g, caps, hop, hf, hent, _, _, hE⟩ := h
    have hG := hG (by rw [hop]; rfl)
    have hfe := hev f (by rw [hop]; simp [Op.operands, Call.operands])
    rw [hf] at hfe
    obtain ⟨vs, k1, k2, k3⟩ := hfe.fn_inv
    have hargs : ∀ x ∈ args.toList, RV P w X φ G (ev T x) (a.eval x) := fun x hx => hev x (by rw [hop]; simp [Op.operands, Call.operands]; exact .inr (by simpa using hx))
    have hrun : (execOp a.eval o).run P w = .ok (.enter g (args.map a.eval ++ vs)) w := by
      have hD : (Deferred.ofValue (.func (.func g) #[] vs) (args.map a.eval)).run P w = .ok { target := .fn (.func g) vs, args := args.map a.eval } w := by simp [Deferred.ofValue]
      simp only [execOp, hop, Sem.run_bind, resolve, k1, hD, Result.andThen_ok, invoke]
      exact run_callFunc hent _ w
    unfold Oper.wp
    rw [hrun, Oper.upon_enter]
    refine (hE w0 w X φ G (args.map a.eval ++ vs) hr hG hnew (by simp [k2]) (fun j x u hx hu => ?_)).mono ?_
    · by_cases hj : j < args.size
      · rw [List.getElem?_append_left (by simpa using hj)] at hx
        rw [Array.getElem?_append_left (by simpa using hj)] at hu
        exact args_len (P := P) (w := w) (X := X) (φ := φ) (G := G) (T := T) (a := a) hargs j x u hx (by simpa using hu)
      · rw [List.getElem?_append_right (by simp; omega)] at hx
        rw [Array.getElem?_append_right (by simp; omega)] at hu
        exact k3 _ x u (by simpa using hx) (by simpa using hu)
    · rintro e w' ⟨x, φ', rfl, h2, h3, h4, h5⟩
      exact hK x w' φ' h2 h3 h4 h5
  · rw [if_neg (by rw [hw false hg]; simp)]
    exact hK undef w φ hr (Turn.refl w φ G) (.ro .und) fun id hid _ _ => ⟨hid, rfl⟩

/-- Where a walk began. -/
structure From where
  w : World
  φ : Nat → Option Nat
  H : List Blk
/-- The abstract state and the model's. -/
structure Rel (P : Program) (B : From) (w0 : World) (X : Nat → Prop) (N : Nat) (s : St) (φ : Nat → Option Nat) (a : Act) (w : World) : Prop where
  hr : HR P w0 X w φ s.H
  tn : Turn B.w B.φ B.H w φ s.H
  t : ∀ k, RV P w X φ s.H (tget s.T k) (a.tmps.getD k undef)
  size : a.tmps.size = N
  df : a.defers = []
theorem ev_rel (hr : HR P w0 X w φ G) {T : List (Nat × AV)} (ht : ∀ k, RV P w X φ G (tget T k) (a.tmps.getD k undef)) (x : Operand) : RV P w X φ G (ev T x) (a.eval x) := by
  cases x with
  | tmp t => exact ht t
  | const v => exact ofV_rv v
  | func f => exact .ro (.fn rfl (by simp))
  | global g => exact hr.glob g
theorem turn_push (w : World) (φ : Nat → Option Nat) (G : List Blk) (b : Blk) : Turn w φ G w φ (G ++ [b]) := by
  have hg : ∀ id, id < G.length → (G ++ [b])[id]? = G[id]? := fun id h => List.getElem?_append_left h
  exact ⟨Nat.le_refl _, by simp, fun b h _ => ⟨rfl, h⟩, fun id t cs hi h => by rw [hg id hi] at h; exact ⟨cs, h, fun _ h => h⟩,
    fun id e nb rows hi h => by rw [hg id hi] at h; exact ⟨rows, h, Nat.le_refl _, fun _ => ⟨fun _ h => h, fun c hc => ⟨hc, fun cur h => ⟨cur, h, rfl⟩⟩⟩⟩,
    fun id es hi h => by rw [hg id hi] at h; exact ⟨es, h, fun _ h => h⟩⟩
theorem hr_push (hr : HR P w0 X w φ G) (b : Blk) : HR P w0 X w φ (G ++ [b]) :=
  ⟨hr.vo, hr.fr, hr.ext, fun i c hc => ⟨(hr.own i c hc).1, (hr.own i c hc).2.1, by have := (hr.own i c hc).2.2; simp; omega⟩, hr.inj, fun i b' c hi hc => by
    rw [List.getElem?_append_left (hr.own i c hc).2.2] at hi
    exact (hr.blk i b' c hi hc).turn (turn_push w φ G b) rfl⟩
theorem rel_put {B : From} {N : Nat} {T : List (Nat × AV)} {H : List Blk} {w' : World} {φ' : Nat → Option Nat} {G' : List Blk} {d : Option Nat} {v : AV} {x : Value} (hd : ∀ k, d = some k → k < N) (htn : Turn B.w B.φ B.H w φ H) (hrel : ∀ k, RV P w X φ H (tget T k) (a.tmps.getD k undef)) (hsz : a.tmps.size = N) (hdf : a.defers = [])
    (hr : HR P w0 X w' φ' G') (hT : Turn w φ H w' φ' G') (hv : RV P w' X φ' G' v x) : Rel P B w0 X N ⟨tputD T d v, G'⟩ φ' (a.put d x) w' := by
  refine ⟨hr, htn.trans hT, fun k => ?_, by cases d <;> simpa [Act.put] using hsz, by cases d <;> simpa [Act.put] using hdf⟩
  cases d with
  | none => exact (hrel k).turn hT
  | some d =>
    have hdn := hd d rfl
    simp only [tputD, tget_tput, Act.put]
    by_cases h : d = k
    · subst h
      rw [if_pos rfl]
      have : (a.tmps.setIfInBounds d x).getD d undef = x := by simp [Array.getD_eq_getD_getElem?, hsz, hdn]
      rw [this]; exact hv
    · rw [if_neg h]
      have : (a.tmps.setIfInBounds d x).getD k undef = a.tmps.getD k undef := by simp [Array.getD_eq_getD_getElem?, Array.getElem?_setIfInBounds, h]
      rw [this]; exact (hrel k).turn hT
/-- The operations of a region, one after the other. -/
def wopsP (P : Program) (Z : Oper → St → Prop) (all : List Oper) : List Oper → St → (St → Prop) → Prop
  | [], s, K => K s
  | o :: r, s, K => ∃ v u, opR P all o s v u ∧ Z o s ∧ wopsP P Z all r (nextSt o s v u) K
theorem upd_eq {H : List Blk} {u : Upd} : updG (match u with | .new b => H ++ [b] | _ => H) u = upd H u := by
  cases u <;> rfl
/-- The same, in a region that does not draw: a call may do anything that is said of it. -/
def callQ (P : Program) (all : List Oper) (o : Oper) (s : St) (K : St → Prop) : Prop :=
  guardV all s.T o = some true ∧ ∃ f args ats g caps, o.op = .call ⟨.value f, args, ats⟩ ∧ ev s.T f = .fn g caps ∧ CallG P g (args.toList.map (ev s.T) ++ caps) s.H fun r H' => K ⟨tputD s.T o.dst r, H'⟩
def wopsQ (P : Program) (all : List Oper) : List Oper → St → (St → Prop) → Prop
  | [], s, K => K s
  | o :: r, s, K => (∃ v u, opR P all o s v u ∧ wopsQ P all r (nextSt o s v u) K) ∨ callQ P all o s fun s' => wopsQ P all r s' K
theorem want_of {ops : Array Oper} {o : Oper} {T : List (Nat × AV)} {b : Bool} (ht : ∀ k, RV P w X φ G (tget T k) (a.tmps.getD k undef)) (hb : guardV ops.toList T o = some b) : Region.wanted o (yielded ops a.tmps) = b := by
  unfold guardV at hb
  unfold Region.wanted
  split at hb
  · rename_i hg
    rw [hg]
    simpa using hb
  · rename_i g want hg
    rw [hg]
    split at hb
    · rename_i t htt
      split at hb
      · rename_i c hc
        have := ht t
        rw [hc] at this
        have hv := this.bool_inv
        have hlt : a.tmps[t]? = some (.bool c) := by
          rw [Array.getD_eq_getD_getElem?] at hv
          cases ha : a.tmps[t]? with
          | none => rw [ha] at hv; simp [undef] at hv
          | some y => rw [ha] at hv; simpa using hv
        have ht' : (ops[g]?).bind (·.dst) = some t := by simpa using htt
        simp only [yielded, ht', Option.bind_some, hlt]
        simp at hb
        rw [← hb]
        cases c <;> cases want <;> rfl
      · rename_i hc
        have := ht t
        rw [hc] at this
        have hv := this.und_inv
        have ht' : (ops[g]?).bind (·.dst) = some t := by simpa using htt
        have hy : yielded ops a.tmps g = none := by
          simp only [yielded, ht', Option.bind_some]
          rw [Array.getD_eq_getD_getElem?] at hv
          cases ha : a.tmps[t]? with
          | none => rfl
          | some y => rw [ha] at hv; simp at hv; rw [hv]; rfl
        simp at hb
        simp [hy, hb]
      · simp at hb
    · simp at hb
theorem callQ_wp {B : From} {N : Nat} {ops : Array Oper} {i : Nat} {o : Oper} {s : St} {Q : Exit → Act → World → Prop} {K : St → Prop} {K' : Act → World → Prop} (hi : ops[i]? = some o) (hd : ∀ k, o.dst = some k → k < N) (h : callQ P ops.toList o s K) (hrel : Rel P B w0 X N s φ a w)
    (hK : ∀ s' φ' a' w', Rel P B w0 X N s' φ' a' w' → K s' → K' a' w') : wpOp P ops Q i K' a w := by
  obtain ⟨hg, f, args, ats, g, caps, hop, hf, hent, hE⟩ := h
  unfold wpOp
  simp only [hi]
  rw [if_pos (want_of hrel.t hg)]
  left
  have hfe := ev_rel hrel.hr hrel.t f
  rw [hf] at hfe
  obtain ⟨vs, k1, k2, k3⟩ := hfe.fn_inv
  have hargs : ∀ x ∈ args.toList, RV P w X φ s.H (ev s.T x) (a.eval x) := fun x _ => ev_rel hrel.hr hrel.t x
  have hrun : (execOp a.eval o).run P w = .ok (.enter g (args.map a.eval ++ vs)) w := by
    have hD : (Deferred.ofValue (.func (.func g) #[] vs) (args.map a.eval)).run P w = .ok { target := .fn (.func g) vs, args := args.map a.eval } w := by simp [Deferred.ofValue]
    simp only [execOp, hop, Sem.run_bind, resolve, k1, hD, Result.andThen_ok, invoke]
    exact run_callFunc hent _ w
  unfold Oper.wp
  rw [hrun, Oper.upon_enter]
  refine (hE w0 w X φ (args.map a.eval ++ vs) hrel.hr (by simp [k2]) (fun j x u hx hu => ?_)).mono ?_
  · by_cases hj : j < args.size
    · rw [List.getElem?_append_left (by simpa using hj)] at hx
      rw [Array.getElem?_append_left (by simpa using hj)] at hu
      exact args_len (P := P) (w := w) (X := X) (φ := φ) (G := s.H) (T := s.T) (a := a) hargs j x u hx (by simpa using hu)
    · rw [List.getElem?_append_right (by simp; omega)] at hx
      rw [Array.getElem?_append_right (by simp; omega)] at hu
      exact k3 _ x u (by simpa using hx) (by simpa using hu)
  · rintro e w' ⟨x, r, φ', H', rfl, h2, h3, h4, h5⟩
    exact hK _ φ' _ w' (rel_put hd hrel.tn hrel.t hrel.size hrel.df h2 h3 h4) h5
theorem ops_wp {B : From} {N : Nat} {ops : Array Oper} (hdst : ∀ (j : Nat) o, ops[j]? = some o → ∀ d, o.dst = some d → d < N) {Q : Exit → Act → World → Prop} {K : St → Prop} (hQ : ∀ s φ a w, Rel P B w0 X N s φ a w → K s → Q .normal a w) : ∀ (l : List Oper) (k : Nat) (s : St) (φ : Nat → Option Nat) (a : Act) (w : World), (∀ j, l[j]? = ops[k + j]?) →
    wopsQ P ops.toList l s K → Rel P B w0 X N s φ a w → wpOps P ops Q (List.range' k l.length) a w
  | [], _, s, φ, a, w, _, h, hrel => hQ s φ a w hrel h
  | o :: l, k, s, φ, a, w, hl, h, hrel => by
    have h0 : ops[k]? = some o := by simpa using (hl 0).symm
    have hd := hdst k o h0
    have ih := fun s' φ' a' w' => ops_wp hdst hQ l (k + 1) s' φ' a' w' (fun j => by have := hl (j + 1); simpa [Nat.add_assoc, Nat.add_comm 1 j] using this)
    rw [List.length_cons, List.range'_succ, wpOps_cons]
    rcases h with ⟨v, u, hop, hK⟩ | hcall
    rotate_left
    · exact callQ_wp h0 hd hcall hrel fun s' φ' a' w' h1 h2 => ih s' φ' a' w' h2 h1
    cases u with
    | new b =>
      have hφ : φ s.H.length = none := by
        cases hc : φ s.H.length with
        | none => rfl
        | some c => have := (hrel.hr.own _ c hc).2.2; omega
      have hT := turn_push w φ s.H b
      refine opR_wp h0 hop (hr_push hrel.hr b) (fun x _ => (ev_rel hrel.hr hrel.t x).turn hT) (fun g b t _ _ => (hrel.t t).turn hT) (fun _ id b' hb => ?_) (fun b' hb => ?_) (fun x w' φ' k1 k2 k3 _ => ?_)
      · rw [List.getElem?_append_left (List.getElem?_eq_some_iff.1 hb).1]; exact hb
      · simp at hb; subst hb; exact ⟨by simp, hφ⟩
      · exact ih _ φ' _ w' hK (rel_put hd hrel.tn hrel.t hrel.size hrel.df k1 (hT.trans k2) k3)
    | no =>
      refine opR_wp h0 hop hrel.hr (fun x _ => ev_rel hrel.hr hrel.t x) (fun g b t _ _ => hrel.t t) (fun _ id b' hb => hb) (fun b' hb => by simp at hb) (fun x w' φ' k1 k2 k3 _ => ?_)
      exact ih _ φ' _ w' hK (rel_put hd hrel.tn hrel.t hrel.size hrel.df k1 k2 k3)
    | set id b =>
      refine opR_wp h0 hop hrel.hr (fun x _ => ev_rel hrel.hr hrel.t x) (fun g b t _ _ => hrel.t t) (fun _ id b' hb => hb) (fun b' hb => by simp at hb) (fun x w' φ' k1 k2 k3 _ => ?_)
      exact ih _ φ' _ w' hK (rel_put hd hrel.tn hrel.t hrel.size hrel.df k1 k2 k3)
/-- A call that is known does what is said of it. -/
theorem callE_G {g : FuncId} {args : List AV} {H : List Blk} {r : AV} {u : Upd} {K : AV → List Blk → Prop} (h : CallE P g args H r u) (hK : K r (upd H u)) : CallG P g args H K := by
  obtain ⟨h1, h2, h3, h4⟩ := h
  refine ⟨h1, fun w0 w X φ vs hr hl hv => ?_⟩
  cases u with
  | set id b => exact absurd rfl (h2 id b)
  | no =>
    refine (h4 w0 w X φ H vs hr (fun _ _ h => h) (fun b hb => by simp at hb) hl hv).mono ?_
    rintro e w' ⟨v, φ', k1, k2, k3, k4, _⟩
    exact ⟨v, r, φ', H, k1, k2, k3, k4, hK⟩
  | new b =>
    have hφ : φ H.length = none := by
      cases hc : φ H.length with
      | none => rfl
      | some c => have := (hr.own _ c hc).2.2; omega
    have hT := turn_push w φ H b
    refine (h4 w0 w X φ (H ++ [b]) vs (hr_push hr b) (fun id b' hb => by rw [List.getElem?_append_left (List.getElem?_eq_some_iff.1 hb).1]; exact hb) (fun b' hb => by simp at hb; subst hb; exact ⟨by simp, hφ⟩) hl fun j x v hx hu => (hv j x v hx hu).turn hT).mono ?_
    rintro e w' ⟨v, φ', k1, k2, k3, k4, _⟩
    exact ⟨v, r, φ', H ++ [b], k1, k2, hT.trans k3, k4, hK⟩
end
end Go.Proofs.Ytnldjmokemgaoaa
