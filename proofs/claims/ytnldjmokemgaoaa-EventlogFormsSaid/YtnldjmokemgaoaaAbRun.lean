/- Code in the abstract machine: what is to be shown of a function's text, and that it suffices. -/
import Derived.Test.YtnldjmokemgaoaaAbDraw
namespace Go.Proofs.Ytnldjmokemgaoaa
set_option linter.unusedSimpArgs false
set_option linter.unusedVariables false
set_option linter.unnecessarySimpa false
set_option linter.unusedSectionVars false
open Go.RowKit
variable [Glob]

/-- The ends of a piece of code. -/
inductive Ex where
  | normal
  | exit (id : Nat)
  | ret

section
variable (P : Program)
/-- A call. In a region that does not draw (d) it may do anything that is said of it. -/
def callC (d : Bool) (f : AV) (args : List AV) (dst : Option Nat) (s : St) (K : St → Prop) : Prop :=
  ∃ g caps, f = .fn g caps ∧ ((∃ r u, CallE P g (args ++ caps) s.H r u ∧ K ⟨tputD s.T dst r, upd s.H u⟩) ∨ (d = false ∧ CallG P g (args ++ caps) s.H fun r H' => K ⟨tputD s.T dst r, H'⟩))
/-- A load in a region that draws: of a variable, or nothing passes a write. -/
def ldD (d : Bool) (x : AV) (all : List Oper) (q : Prop) : Prop := (d = true → notEp x = true ∨ strictB all = true) ∧ q
def bodyC (d : Bool) (all : List Oper) (o : Oper) (s : St) (K : St → Prop) : Prop :=
  match o.op with
  | .call ⟨.value f, args, _⟩ => callC P d (ev s.T f) (args.toList.map (ev s.T)) o.dst s K
  | .load _ a => ldD d (ev s.T a) all (match eop P o s with | some (v, u) => K ⟨tputD s.T o.dst v, upd s.H u⟩ | none => False)
  | .fieldAddr _ a _ => ldD d (ev s.T a) all (match eop P o s with | some (v, u) => K ⟨tputD s.T o.dst v, upd s.H u⟩ | none => False)
  | _ => match eop P o s with | some (v, u) => K ⟨tputD s.T o.dst v, upd s.H u⟩ | none => False
def stepC (d : Bool) (all : List Oper) (o : Oper) (s : St) (K : St → Prop) : Prop :=
  match o.guard with
  | none => bodyC P d all o s K
  | some (g, b) => match (all[g]?).bind (·.dst) with
    | some t => match tget s.T t with | .bool c => if c = b then bodyC P d all o s K else K ⟨tputD s.T o.dst .und, s.H⟩ | .und => K ⟨tputD s.T o.dst .und, s.H⟩ | _ => False
    | none => False
def wopsC (d : Bool) (all : List Oper) : List Oper → St → (St → Prop) → Prop
  | [], s, K => K s
  | o :: r, s, K => stepC P d all o s fun s' => wopsC d all r s' K
/-- s' says less than s: of every state of the model that s tells, s' tells it too; the first L blocks stay known. -/
def Weak (L : Nat) (s s' : St) : Prop := ∀ (B : From) (w0 : World) X N φ a w, B.H.length ≤ L → Rel P B w0 X N s φ a w → ∃ φ', Rel P B w0 X N s' φ' a w
/-- What is to be shown of a piece of code. -/
def vc (L : Nat) : Code → St → (Ex → St → Prop) → Prop
  | .skip, s, Q => Q .normal s
  | .region _ ops draw, s, Q => wopsC P draw ops.toList ops.toList s (Q .normal)
  | .seq a b, s, Q => vc L a s fun e s' => match e with | .normal => vc L b s' Q | e => Q e s'
  | .cond c a b, s, Q => match ev s.T c with | .bool t => if t = true then vc L a s Q else vc L b s Q | _ => False
  | .block id c, s, Q => vc L c s fun e s' => match e with | .exit j => if j = id then Q .normal s' else Q (.exit j) s' | e => Q e s'
  | .loop c, s, Q => ∃ I : Nat → St → Prop, (∃ n s0, Weak P L s s0 ∧ I n s0) ∧ ∀ n s1, I n s1 → vc L c s1 fun e s2 => match e with | .normal => ∃ m, m < n ∧ ∃ s3, Weak P L s2 s3 ∧ I m s3 | e => Q e s2
  | .exit id, s, Q => Q (.exit id) s
  | .ret, s, Q => Q .ret s
  | _, _, _ => False
/-- The regions of a piece of code are in order. -/
def okCode (N : Nat) : Code → Bool
  | .region _ ops draw => (!draw || okDraw ops) && ops.toList.all fun o => match o.dst with | some d => decide (d < N) | none => true
  | .seq a b => okCode N a && okCode N b
  | .cond _ a b => okCode N a && okCode N b
  | .block _ c => okCode N c
  | .loop c => okCode N c
  | _ => true
end

section
variable {P : Program} {B : From} {w0 : World} {X : Nat → Prop} {N L : Nat}
theorem body_op {d : Bool} {all : List Oper} {o : Oper} {s : St} {K : St → Prop} (hg : guardV all s.T o = some true) (h : bodyC P d all o s K) : (∃ v u, opR P all o s v u ∧ (d = true → ldZ all o s) ∧ K (nextSt o s v u)) ∨ (d = false ∧ callQ P all o s K) := by
  unfold bodyC at h
  split at h
  · rename_i f args ats hop
    obtain ⟨g, caps, h1, ⟨r, u, h2, h3⟩ | ⟨hd, h2⟩⟩ := h
    · exact .inl ⟨r, u, .inl ⟨hg, .inr ⟨f, args, ats, g, caps, hop, h1, h2⟩⟩, fun _ a h _ => by simp [ldAddr, hop] at h, h3⟩
    · exact .inr ⟨hd, hg, f, args, ats, g, caps, hop, h1, h2⟩
  · rename_i t a hop
    obtain ⟨hz, h⟩ := h
    split at h
    · rename_i v u he
      exact .inl ⟨v, u, .inl ⟨hg, .inl he⟩, fun hd a' h' _ => by simp only [ldAddr, hop, Option.some.injEq] at h'; subst h'; exact hz hd, h⟩
    · exact h.elim
  · rename_i t a f hop
    obtain ⟨hz, h⟩ := h
    split at h
    · rename_i v u he
      exact .inl ⟨v, u, .inl ⟨hg, .inl he⟩, fun hd a' h' _ => by simp only [ldAddr, hop, Option.some.injEq] at h'; subst h'; exact hz hd, h⟩
    · exact h.elim
  · rename_i hn1 hn2 hn3
    split at h
    · rename_i v u he
      refine .inl ⟨v, u, .inl ⟨hg, .inl he⟩, fun _ a' h' _ => ?_, h⟩
      unfold ldAddr at h'
      split at h'
      · rename_i t a hop; exact absurd hop (hn2 t a)
      · rename_i t a f hop; exact absurd hop (hn3 t a f)
      · cases h'
    · exact h.elim
theorem step_op {d : Bool} {all : List Oper} {o : Oper} {s : St} {K : St → Prop} (h : stepC P d all o s K) : (∃ v u, opR P all o s v u ∧ (d = true → ldZ all o s) ∧ K (nextSt o s v u)) ∨ (d = false ∧ callQ P all o s K) := by
  simp only [stepC] at h
  split at h
  · rename_i hg
    exact body_op (by simp [guardV, hg]) h
  · rename_i g b hg
    split at h
    · rename_i t ht
      split at h
      · rename_i c hc
        split at h
        · rename_i hcb
          exact body_op (by simp [guardV, hg, ht, hc, hcb]) h
        · rename_i hcb
          exact .inl ⟨.und, .no, .inr ⟨by simp [guardV, hg, ht, hc, hcb], rfl, rfl⟩, fun _ a' _ h' => by simp [guardV, hg, ht, hc, hcb] at h', h⟩
      · rename_i hc
        exact .inl ⟨.und, .no, .inr ⟨by simp [guardV, hg, ht, hc], rfl, rfl⟩, fun _ a' _ h' => by simp [guardV, hg, ht, hc] at h', h⟩
      · exact h.elim
    · exact h.elim
theorem wops_of {all : List Oper} {K : St → Prop} : ∀ (l : List Oper) (s : St), wopsC P true all l s K → wopsP P (ldZ all) all l s K := by
  intro l
  induction l with
  | nil => intro s h; exact h
  | cons o l ih =>
    intro s h
    rcases step_op h with ⟨v, u, h1, hz, h2⟩ | ⟨h1, _⟩
    · exact ⟨v, u, h1, hz rfl, ih _ h2⟩
    · simp at h1
theorem callG_mono {g : FuncId} {args : List AV} {H : List Blk} {K K' : AV → List Blk → Prop} (h : CallG P g args H K) (hK : ∀ r H', K r H' → K' r H') : CallG P g args H K' :=
  ⟨h.1, fun w0 w X φ vs hr hl hv => (h.2 w0 w X φ vs hr hl hv).mono fun e w' ⟨v, r, φ', H', k1, k2, k3, k4, k5⟩ => ⟨v, r, φ', H', k1, k2, k3, k4, hK r H' k5⟩⟩
theorem callQ_mono {all : List Oper} {o : Oper} {s : St} {K K' : St → Prop} (h : callQ P all o s K) (hK : ∀ s, K s → K' s) : callQ P all o s K' := by
  obtain ⟨hg, f, args, ats, g, caps, hop, hf, hE⟩ := h
  exact ⟨hg, f, args, ats, g, caps, hop, hf, callG_mono hE fun r H' h => hK _ h⟩
theorem wopsQ_of {all : List Oper} {K : St → Prop} : ∀ (l : List Oper) (s : St), wopsC P false all l s K → wopsQ P all l s K := by
  intro l
  induction l with
  | nil => intro s h; exact h
  | cons o l ih =>
    intro s h
    rcases step_op h with ⟨v, u, h1, _, h2⟩ | ⟨_, h1⟩
    · exact .inl ⟨v, u, h1, ih _ h2⟩
    · exact .inr (callQ_mono h1 fun s' h2 => ih s' h2)
def Post (P : Program) (B : From) (w0 : World) (X : Nat → Prop) (N : Nat) (Q : Ex → St → Prop) : Exit → Act → World → Prop
  | .normal, a, w => ∃ s φ, Q .normal s ∧ Rel P B w0 X N s φ a w
  | .exit id, a, w => ∃ s φ, Q (.exit id) s ∧ Rel P B w0 X N s φ a w
  | .ret, a, w => ∃ s φ, Q .ret s ∧ Rel P B w0 X N s φ a w
  | _, _, _ => False
theorem wp_loop_n {c : Code} {Q : Exit → Act → World → Prop} (I : Nat → Act → World → Prop) {n : Nat} {a : Act} {w : World} (h₀ : I n a w) (round : ∀ n a w, I n a w → c.wp P (Exit.then (fun a' w' => ∃ m, m < n ∧ I m a' w') Q) a w) : (Code.loop c).wp P Q a w := by
  intro b k cs
  have key : ∀ n a w, I n a w → ∃ e a' w', Q e a' w' ∧ Arrives P (lone (b.at a (.code c :: .inLoop c :: k)) cs w) b k cs e a' w' := by
    intro n
    induction n using Nat.strongRecOn with
    | _ n ih =>
      intro a w hI
      obtain ⟨e, a₁, w₁, hq, harr⟩ := round n a w hI b (.inLoop c :: k) cs
      cases e with
      | normal =>
        obtain ⟨m, hlt, hI₁⟩ := hq
        obtain ⟨e₂, a₂, w₂, hq₂, harr₂⟩ := ih m hlt a₁ w₁ hI₁
        exact ⟨e₂, a₂, w₂, hq₂, .of_steps (Steps.trans harr (.one step_inLoop)) harr₂⟩
      | exit id => exact ⟨_, a₁, w₁, hq, .pass (x := .inLoop c) rfl (fun _ _ => .inl (by simp)) harr⟩
      | goto l => exact ⟨_, a₁, w₁, hq, .pass (x := .inLoop c) rfl (fun _ _ => .inl (by simp)) harr⟩
      | ret => exact ⟨_, a₁, w₁, hq, .pass (x := .inLoop c) rfl (fun _ _ => .inl (by simp)) harr⟩
      | panic ch => exact ⟨_, a₁, w₁, hq, .pass (x := .inLoop c) rfl (fun _ _ => .inl (by simp)) harr⟩
      | outgrown => exact ⟨_, a₁, w₁, hq, .pass (x := .inLoop c) rfl (fun _ _ => .inl (by simp)) harr⟩
  obtain ⟨e, a', w', hq, harr⟩ := key _ a w h₀
  exact ⟨e, a', w', hq, .of_steps (.one step_loop) harr⟩
theorem vc_sound (hm : P.follows .mixedOrders = true) (hB : B.H.length ≤ L) : ∀ (c : Code) (s : St) (Q : Ex → St → Prop) (φ : Nat → Option Nat) (a : Act) (w : World), okCode N c = true → vc P L c s Q → Rel P B w0 X N s φ a w → c.wp P (Post P B w0 X N Q) a w := by
  intro c
  induction c with
  | skip => intro s Q φ a w _ h hrel; exact wp_skip ⟨s, φ, h, hrel⟩
  | region id ops draw =>
    intro s Q φ a w hok h hrel
    simp only [okCode, Bool.and_eq_true, List.all_eq_true] at hok
    obtain ⟨hok1, hok2⟩ := hok
    have hdst : ∀ (j : Nat) o, ops[j]? = some o → ∀ d, o.dst = some d → d < N := fun j o ho d hd => by
      have := hok2 o (List.mem_of_getElem? (l := ops.toList) (i := j) (by simpa using ho))
      rw [hd] at this
      simpa using this
    have hQ : ∀ s φ a w, Rel P B w0 X N s φ a w → Q .normal s → Post P B w0 X N Q .normal a w := fun s φ a w h1 h2 => ⟨s, φ, h2, h1⟩
    cases draw with
    | false =>
      refine wp_region ?_
      have := ops_wp (P := P) hdst hQ ops.toList 0 s φ a w (by simp) (wopsQ_of _ _ h) hrel
      rw [List.range_eq_range']
      simpa using this
    | true => exact draw_wp hm (by simpa using hok1) hdst (wops_of _ _ h) hrel hQ
  | seq x y ihx ihy =>
    intro s Q φ a w hok h hrel
    simp only [okCode, Bool.and_eq_true] at hok
    refine wp_seq (wp_mono (ihx _ _ φ a w hok.1 h hrel) fun e a w hq => ?_)
    cases e with
    | normal => obtain ⟨s', φ', h1, h2⟩ := hq; exact ihy _ _ φ' a w hok.2 h1 h2
    | exit id => exact hq
    | ret => exact hq
    | _ => exact hq.elim
  | cond c x y ihx ihy =>
    intro s Q φ a w hok h hrel
    simp only [okCode, Bool.and_eq_true] at hok
    simp only [vc] at h
    split at h
    · rename_i t ht
      have hc := ev_rel hrel.hr hrel.t c
      rw [ht] at hc
      refine wp_cond (t := t) hc.bool_inv ?_
      cases t with
      | true => exact ihx _ _ φ a w hok.1 (by simpa using h) hrel
      | false => exact ihy _ _ φ a w hok.2 (by simpa using h) hrel
    · exact h.elim
  | block id c ih =>
    intro s Q φ a w hok h hrel
    refine wp_block (wp_mono (ih _ _ φ a w hok h hrel) fun e a w hq => ?_)
    cases e with
    | normal => exact hq
    | exit j =>
      obtain ⟨s', φ', h1, h2⟩ := hq
      simp only [Exit.inBlock]
      simp only at h1
      split at h1
      · rename_i hj; rw [if_pos hj]; exact ⟨s', φ', h1, h2⟩
      · rename_i hj; rw [if_neg hj]; exact ⟨s', φ', h1, h2⟩
    | ret => exact hq
    | _ => exact hq.elim
  | loop c ih =>
    intro s Q φ a w hok h hrel
    obtain ⟨I, ⟨n, s0, hW, hI⟩, hround⟩ := h
    obtain ⟨φ0, hrel0⟩ := hW B w0 X N φ a w hB hrel
    refine wp_loop_n (fun n a w => ∃ s φ, I n s ∧ Rel P B w0 X N s φ a w) ⟨s0, φ0, hI, hrel0⟩ fun n a w ⟨s1, φ1, h1, h2⟩ => ?_
    refine wp_mono (ih _ _ φ1 a w hok (hround n s1 h1) h2) fun e a w hq => ?_
    cases e with
    | normal =>
      obtain ⟨s2, φ2, ⟨m, hlt, s3, hW3, hI3⟩, h4⟩ := hq
      obtain ⟨φ3, h5⟩ := hW3 B w0 X N φ2 a w hB h4
      exact ⟨m, hlt, s3, φ3, hI3, h5⟩
    | exit id => exact hq
    | ret => exact hq
    | _ => exact hq.elim
  | exit id => intro s Q φ a w _ h hrel; exact wp_exit ⟨s, φ, h, hrel⟩
  | ret => intro s Q φ a w _ h hrel; exact wp_ret ⟨s, φ, h, hrel⟩
  | _ => intro s Q φ a w _ h; exact h.elim

/-! ### Functions -/
def argT (k : Nat) : List AV → List (Nat × AV)
  | [] => []
  | x :: r => (k, x) :: argT (k + 1) r
theorem tget_argT : ∀ (l : List AV) (k j : Nat), tget (argT k l) j = if k ≤ j then l.getD (j - k) .any else .any := by
  intro l
  induction l with
  | nil => intro k j; simp [argT, tget]
  | cons x l ih =>
    intro k j
    simp only [argT, tget, ih]
    by_cases h : k = j
    · subst h; simp
    · by_cases h2 : k ≤ j
      · rw [if_neg h, if_pos (by omega), if_pos h2, show j - k = (j - (k + 1)) + 1 by omega]; simp
      · rw [if_neg h, if_neg (by omega), if_neg h2]
def res1 (P : Program) (s : St) : ResultVar → Option AV
  | .tmp t => some (tget s.T t)
  | .cell p t => match ty P t, rd s.H (tget s.T p) with | some i, some cs => part i cs 0 | _, _ => none
def resA (P : Program) (fn : Func) (s : St) : Option AV :=
  match fn.results.toList.mapM (res1 P s) with
  | some [x] => some x
  | some l => some (.tup l)
  | none => none
def endQ (P : Program) (fn : Func) (r : AV) : Ex → St → Prop
  | .exit _, _ => False
  | _, s => match resA P fn s with | some x => reify s.H 8 x = some r | none => False
def resSem (tmps : Array Value) : ResultVar → Sem Value
  | .tmp t => pure (tmps.getD t undef)
  | .cell p t => do loadVar t (← asAddr (tmps.getD p undef))
theorem results_eq (fn : Func) (tmps : Array Value) : results fn tmps = (do
    let vs ← fn.results.mapM (resSem tmps)
    pure (if h : vs.size = 1 then vs[0] else .tuple vs)) := by
  unfold results
  congr 1
def endF (P : Program) (fn : Func) (e : TypeId) (rows : List (List AV)) : Ex → St → Prop
  | .exit _, _ => False
  | _, s => match resA P fn s with | some (.os id n) => s.H[id]? = some (.row e false rows) ∧ rows.length = n ∧ (rows.all fun r => r.all fun x => !owns x) = true | _ => False
theorem res_run {s : St} {φ : Nat → Option Nat} {a : Act} {w : World} (hrel : Rel P B w0 X N s φ a w) : ∀ (l : List ResultVar) (xs : List AV), l.mapM (res1 P s) = some xs →
    ∃ vs : List Value, (l.mapM (resSem a.tmps)).run P w = .ok vs w ∧ vs.length = xs.length ∧ ∀ (j : Nat) x v, xs[j]? = some x → vs[j]? = some v → RV P w X φ s.H x v := by
  intro l
  induction l with
  | nil => intro xs h; simp at h; subst h; exact ⟨[], rfl, rfl, by simp⟩
  | cons r l ih =>
    intro xs h
    rw [List.mapM_cons] at h
    cases hx : res1 P s r with
    | none => simp [hx] at h
    | some x =>
      cases hl : l.mapM (res1 P s) with
      | none => simp [hx, hl] at h
      | some ys =>
        simp [hx, hl] at h
        subst h
        obtain ⟨vs, h1, h2, h3⟩ := ih ys hl
        obtain ⟨v, k1, k2⟩ : ∃ v, (resSem a.tmps r).run P w = .ok v w ∧ RV P w X φ s.H x v := by
          cases r with
          | tmp t => simp [res1] at hx; subst hx; exact ⟨_, rfl, hrel.t t⟩
          | cell p t =>
            simp only [res1] at hx
            split at hx
            · rename_i i cs hi hcs
              obtain ⟨b, q1, q2⟩ := rd_sound hrel.hr hcs (hrel.t p)
              obtain ⟨u, q3, q4⟩ := load_sound hi q2 hx
              exact ⟨u, by simp only [resSem, Sem.run_bind, q1, asAddr, Sem.run_pure, Result.andThen_ok, q3], q4⟩
            · simp at hx
        refine ⟨v :: vs, ?_, by simp [h2], fun j y u hj hu => ?_⟩
        · rw [List.mapM_cons]
          simp only [Sem.run_bind, k1, Result.andThen_ok, h1, Sem.run_pure]
        · cases j with
          | zero => simp at hj hu; subst hj hu; exact k2
          | succ j => exact h3 j y u (by simpa using hj) (by simpa using hu)
/-- **A function.** -/
theorem pure_of (hm : P.follows .mixedOrders = true) {f : FuncId} {fn : Func} {c : Code} {args : List AV} {r : AV} (hf : P.funcs[f]? = some fn) (hb : fn.body = some c) (he : entersB P f = true) (hn : args.length ≤ fn.ntmps) (hok : okCode fn.ntmps c = true)
    (h : vc P 0 c ⟨argT 0 args, []⟩ (endQ P fn r)) : Pure P f args r := by
  refine ⟨he, fun w X vs hX hvo hl hv => calls_of_wp hf hb ?_⟩
  have hr0 : HR P w X w (fun _ => none) [] := ⟨hvo, Below.refl _ _, fun b hb => ⟨hX b hb, by simp⟩, fun _ _ h => by simp at h, fun _ _ _ h => by simp at h, fun _ _ _ h => by simp at h⟩
  have hrel : Rel P ⟨w, fun _ => none, []⟩ w X fn.ntmps ⟨argT 0 args, []⟩ (fun _ => none) { tmps := vs ++ Array.replicate (fn.ntmps - vs.size) undef, defers := [] } w := by
    refine ⟨hr0, Turn.refl _ _ _, fun k => ?_, by simp; omega, rfl⟩
    rw [tget_argT]
    simp only [Nat.zero_le, if_true, Nat.sub_zero]
    by_cases hk : k < args.length
    · have h1 : args.getD k .any = args[k] := by simp [List.getD, hk]
      have h2 : (vs ++ Array.replicate (fn.ntmps - vs.size) undef).getD k undef = vs[k]'(by omega) := by
        rw [Array.getD_eq_getD_getElem?, Array.getElem?_append_left (by omega)]
        simp [show k < vs.size by omega]
      rw [h1, h2]
      refine .ro ((hv k args[k] _ (by simp [hk]) (by simp [show k < vs.size by omega])).mono (Nat.le_refl _) fun b hb _ => ⟨rfl, fun h => h.elim hb fun ⟨_, h⟩ => by simp at h⟩)
    · have : args.getD k .any = .any := by simp [List.getD, List.getElem?_eq_none (Nat.le_of_not_lt hk)]
      rw [this]; exact .ro .any
  refine wp_mono (vc_sound (B := ⟨w, fun _ => none, []⟩) hm (Nat.le_refl _) c _ _ _ _ w hok h hrel) fun e a w' hq => ?_
  have key : ∀ s φ, endQ P fn r .ret s → Rel P ⟨w, fun _ => none, []⟩ w X fn.ntmps s φ a w' → a.defers = [] ∧ ∃ v, (results fn a.tmps).run P w' = .ok v w' ∧ ∃ v', Ending.returned v = .returned v' ∧ RO w' X r v' ∧ Below w.heap.size w w' := by
    intro s φ hq hrel
    refine ⟨hrel.df, ?_⟩
    simp only [endQ] at hq
    split at hq
    · rename_i x hx
      unfold resA at hx
      cases hl : fn.results.toList.mapM (res1 P s) with
      | none => rw [hl] at hx; simp at hx
      | some xs =>
        rw [hl] at hx
        obtain ⟨us, k1, k2, k3⟩ := res_run hrel _ xs hl
        have hrun : (results fn a.tmps).run P w' = .ok (if h : us.toArray.size = 1 then us.toArray[0] else .tuple us.toArray) w' := by
          rw [results_eq]; simp only [Sem.run_bind, Array.mapM_eq_mapM_toList, Sem.run_map, k1, Result.andThen_ok, Sem.run_pure]
        refine ⟨_, hrun, _, rfl, ?_, hrel.hr.fr⟩
        refine reify_sound hrel.hr 8 x r _ hq ?_
        cases xs with
        | nil =>
          simp at hx
          subst hx
          have : us = [] := List.eq_nil_of_length_eq_zero (by simpa using k2)
          subst this
          exact .tup rfl (by simp)
        | cons x0 xs =>
          cases us with
          | nil => simp at k2
          | cons u0 us =>
            cases xs with
            | nil =>
              simp at hx
              subst hx
              have : us = [] := List.eq_nil_of_length_eq_zero (by simpa using k2)
              subst this
              exact k3 0 x0 u0 (by simp) (by simp)
            | cons x1 xs =>
              simp at hx
              subst hx
              cases us with
              | nil => simp at k2
              | cons u1 us =>
                rw [dif_neg (by simp)]
                exact .tup (by simpa using k2.symm) fun j y v hj hv => k3 j y v hj (by simpa using hv)
    · exact hq.elim
  cases e with
  | normal => obtain ⟨s, φ, h1, h2⟩ := hq; exact key s φ h1 h2
  | ret => obtain ⟨s, φ, h1, h2⟩ := hq; exact key s φ h1 h2
  | exit id => obtain ⟨s, φ, h1, h2⟩ := hq; exact h1.elim
  | _ => exact hq.elim
/-- **A function that hands back a row of its own making.** -/
theorem fresh_of (hm : P.follows .mixedOrders = true) {f : FuncId} {fn : Func} {c : Code} {args : List AV} {e : TypeId} {rows : List (List AV)} (hf : P.funcs[f]? = some fn) (hb : fn.body = some c) (he : entersB P f = true) (hn : args.length ≤ fn.ntmps) (hok : okCode fn.ntmps c = true)
    (h : vc P 0 c ⟨argT 0 args, []⟩ (endF P fn e rows)) : Fresh P f args e rows := by
  refine ⟨he, fun w X vs hX hvo hl hv => calls_of_wp hf hb ?_⟩
  have hr0 : HR P w X w (fun _ => none) [] := ⟨hvo, Below.refl _ _, fun b hb => ⟨hX b hb, by simp⟩, fun _ _ h => by simp at h, fun _ _ _ h => by simp at h, fun _ _ _ h => by simp at h⟩
  have hrel : Rel P ⟨w, fun _ => none, []⟩ w X fn.ntmps ⟨argT 0 args, []⟩ (fun _ => none) { tmps := vs ++ Array.replicate (fn.ntmps - vs.size) undef, defers := [] } w := by
    refine ⟨hr0, Turn.refl _ _ _, fun k => ?_, by simp; omega, rfl⟩
    rw [tget_argT]
    simp only [Nat.zero_le, if_true, Nat.sub_zero]
    by_cases hk : k < args.length
    · have h1 : args.getD k .any = args[k] := by simp [List.getD, hk]
      have h2 : (vs ++ Array.replicate (fn.ntmps - vs.size) undef).getD k undef = vs[k]'(by omega) := by
        rw [Array.getD_eq_getD_getElem?, Array.getElem?_append_left (by omega)]
        simp [show k < vs.size by omega]
      rw [h1, h2]
      refine .ro ((hv k args[k] _ (by simp [hk]) (by simp [show k < vs.size by omega])).mono (Nat.le_refl _) fun b hb _ => ⟨rfl, fun h => h.elim hb fun ⟨_, h⟩ => by simp at h⟩)
    · have : args.getD k .any = .any := by simp [List.getD, List.getElem?_eq_none (Nat.le_of_not_lt hk)]
      rw [this]; exact .ro .any
  refine wp_mono (vc_sound (B := ⟨w, fun _ => none, []⟩) hm (Nat.le_refl _) c _ _ _ _ w hok h hrel) fun en a w' hq => ?_
  have key : ∀ s φ, endF P fn e rows .ret s → Rel P ⟨w, fun _ => none, []⟩ w X fn.ntmps s φ a w' → a.defers = [] ∧ ∃ v, (results fn a.tmps).run P w' = .ok v w' ∧ ∃ c cap cur, Ending.returned v = .returned (.slice (some ⟨c, 0, none⟩) rows.length cap) ∧ w.heap.size ≤ c ∧ w'.heap[c]? = some (.cells cur e (0, 0)) ∧ (∀ row ∈ rows, row.length = P.cellsOf e) ∧ cur.size = cap * P.cellsOf e ∧ rows.length ≤ cap ∧ cap ≤ maxLen ∧
      (∀ (i j : Nat) row x v, rows[i]? = some row → row[j]? = some x → cur[i * P.cellsOf e + j]? = some v → RO w' (fun b => X b ∨ b = c) x v ∧ v.oneCell' = true) ∧ Below w.heap.size w w' := by
    intro s φ hq hrel
    refine ⟨hrel.df, ?_⟩
    simp only [endF] at hq
    split at hq
    · rename_i id n hx
      obtain ⟨hbk, hrn, hown⟩ := hq
      unfold resA at hx
      cases hl : fn.results.toList.mapM (res1 P s) with
      | none => rw [hl] at hx; simp at hx
      | some xs =>
        rw [hl] at hx
        obtain ⟨us, k1, k2, k3⟩ := res_run hrel _ xs hl
        have hrun : (results fn a.tmps).run P w' = .ok (if h : us.toArray.size = 1 then us.toArray[0] else .tuple us.toArray) w' := by
          rw [results_eq]; simp only [Sem.run_bind, Array.mapM_eq_mapM_toList, Sem.run_map, k1, Result.andThen_ok, Sem.run_pure]
        cases xs with
        | nil => simp at hx
        | cons x0 xs =>
          cases us with
          | nil => simp at k2
          | cons u0 us =>
            cases xs with
            | cons x1 xs => simp at hx
            | nil =>
              simp at hx
              subst hx
              have : us = [] := List.eq_nil_of_length_eq_zero (by simpa using k2)
              subst this
              have hv := k3 0 (.os id n) u0 (by simp) (by simp)
              cases hv with
              | ro h => cases h
              | os g0 hid hv =>
                rcases (hv e false rows hbk).2 hrn.symm with ⟨h, _⟩ | ⟨c, cap, cur, q1, q2, q3, q4, q5, q6⟩
                · simp at h
                · obtain ⟨cur', p1, p2, p3, p4⟩ := hrel.hr.blk id _ c hbk q1
                  rw [q3] at p1
                  simp at p1
                  subst p1
                  refine ⟨_, hrun, c, cap, cur, by rw [hrn, q2]; rfl, (hrel.hr.own id c q1).1, q3, p2, q4, by omega, q5, fun i j row x v h1 h2 h3 => ⟨?_, (p4 i j row x v h1 h2 h3).2⟩, hrel.hr.fr⟩
                  have ho : owns x = false := by
                    simp only [List.all_eq_true] at hown
                    simpa using hown row (List.mem_of_getElem? h1) x (List.mem_of_getElem? h2)
                  exact ((p4 i j row x v h1 h2 h3).1.ro_of ho).weaken fun b hb => hb.elim (fun hb => .inl hb) fun hb => .inr ⟨id, q1.trans (congrArg some hb.symm)⟩
    · exact hq.elim
  cases en with
  | normal => obtain ⟨s, φ, h1, h2⟩ := hq; exact key s φ h1 h2
  | ret => obtain ⟨s, φ, h1, h2⟩ := hq; exact key s φ h1 h2
  | exit id => obtain ⟨s, φ, h1, h2⟩ := hq; exact h1.elim
  | _ => exact hq.elim
end
end Go.Proofs.Ytnldjmokemgaoaa
