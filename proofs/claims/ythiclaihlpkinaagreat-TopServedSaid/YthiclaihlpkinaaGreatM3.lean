/- Several texts of the abstract machine, one behind the other. -/
import Derived.Test.YthiclaihlpkinaaGreatM2
set_option linter.unusedSimpArgs false
set_option linter.unusedVariables false
set_option linter.unnecessarySimpa false
set_option linter.unusedSectionVars false
namespace Go.Proofs.YthiclaihlpkinaaGreat
open Go.RowKit
variable [Glob]
/-- The ends of a piece of code. -/
inductive Ex where
  | normal
  | exit (id : Nat)
  | ret
section
variable (P : Program)
/-- A call. In a region that does not draw (d) it may do anything that is said of it. -/
def callC (d : Bool) (f : AV) (args : List AV) (dst : Option Nat) (s : St) (K : St → Prop) : Prop :=
  (∃ g caps, f = .fn g caps ∧ ((∃ r u, CallE P g (args ++ caps) s.H r u ∧ K ⟨tputD s.T dst r, upd s.H u⟩) ∨ (d = false ∧ CallG P g (args ++ caps) s.H fun r H' => K ⟨tputD s.T dst r, H'⟩))) ∨
    (d = false ∧ ∃ g fst, f = .fb g fst ∧ CallG P g (fst ++ args) s.H fun r H' => K ⟨tputD s.T dst r, H'⟩)
/-- A load in a region that draws: of a variable, or nothing passes a write. -/
def ldD (d : Bool) (x : AV) (all : List Oper) (q : Prop) : Prop := (d = true → notEp x = true ∨ strictB all = true) ∧ q
/-- An iterator goes on, in a region that does not draw. -/
def nxC (d b : Bool) (H : List Blk) (x : AV) (K : AV → List Blk → Prop) : Prop := d = false ∧ b = false ∧ nextD H x K
def bodyC (d : Bool) (all : List Oper) (o : Oper) (s : St) (K : St → Prop) : Prop :=
  match o.op with
  | .call ⟨.value f, args, _⟩ => callC P d (ev s.T f) (args.toList.map (ev s.T)) o.dst s K
  | .load _ a => ldD d (ev s.T a) all (match eop P o s with | some (v, u) => K ⟨tputD s.T o.dst v, upd s.H u⟩ | none => False)
  | .fieldAddr _ a _ => ldD d (ev s.T a) all (match eop P o s with | some (v, u) => K ⟨tputD s.T o.dst v, upd s.H u⟩ | none => False)
  | .nilCheck a => ldD d (ev s.T a) all (match eop P o s with | some (v, u) => K ⟨tputD s.T o.dst v, upd s.H u⟩ | none => False)
  | .indexAddr _ a _ => ldD d (ixv (ev s.T a)) all (match eop P o s with | some (v, u) => K ⟨tputD s.T o.dst v, upd s.H u⟩ | none => False)
  | .next x b => nxC d b s.H (ev s.T x) fun r H' => K ⟨tputD s.T o.dst r, H'⟩
  | _ => match eop P o s with | some (v, u) => K ⟨tputD s.T o.dst v, upd s.H u⟩ | none => False
def stepC (d : Bool) (all : List Oper) (o : Oper) (s : St) (K : St → Prop) : Prop :=
  match o.guard with
  | none => bodyC P d all o s K
  | some (g, b) => match (all[g]?).bind (·.dst) with
    | some t => match tget s.T t with | .bool c => if c = b then bodyC P d all o s K else K ⟨tputD s.T o.dst .und, s.H⟩ | .und => K ⟨tputD s.T o.dst .und, s.H⟩ | _ => False
    | none => False
def wopsC (d : Bool) (all : List Oper) : List Oper → St → (St → Prop) → Prop
  | [], s, K => K s
  | o :: r, s, K => stepC P d all o s fun s' => wopsC d all r s' K
/-- The same, in a region of the second kind. -/
def call2 (all : List Oper) (j : Nat) (f : AV) (args : List AV) (dst : Option Nat) (s : St) (K : St → Prop) : Prop :=
  ∃ g caps, f = .fn g caps ∧ ((∃ r u, CallE P g (args ++ caps) s.H r u ∧ K ⟨tputD s.T dst r, upd s.H u⟩) ∨
    (lastNew all j = true ∧ ∃ r id b, id < s.H.length ∧ isBox b = false ∧ isBoxO s.H[id]? = false ∧ (CallG P g (args ++ caps) s.H fun r' H' => r' = r ∧ H' = s.H.set id b) ∧ K ⟨tputD s.T dst r, s.H.set id b⟩))
def ld2 (ix : Bool) (T : List (Nat × AV)) (x : AV) (all : List Oper) (j : Nat) (q : Prop) : Prop := (softOk all ix x = true ∨ hardX all ix T x j = true) ∧ q
def res2 (all : List Oper) (o : Oper) (s : St) (K : St → Prop) : Prop := match eop P o s with | some (v, u) => noboxA all s.H u = true ∧ K ⟨tputD s.T o.dst v, upd s.H u⟩ | none => False
def body2 (all : List Oper) (j : Nat) (o : Oper) (s : St) (K : St → Prop) : Prop :=
  match o.op with
  | .call ⟨.value f, args, _⟩ => call2 P all j (ev s.T f) (args.toList.map (ev s.T)) o.dst s K
  | .load _ a => ld2 false s.T (ev s.T a) all j (res2 P all o s K)
  | .fieldAddr _ a _ => ld2 false s.T (ev s.T a) all j (res2 P all o s K)
  | .nilCheck a => ld2 false s.T (ev s.T a) all j (res2 P all o s K)
  | .indexAddr _ a _ => ld2 true s.T (ev s.T a) all j (res2 P all o s K)
  | .call ⟨.builtin .len, args, _⟩ => ld2 true s.T (match args[0]? with | some a => ev s.T a | none => .any) all j (res2 P all o s K)
  | _ => res2 P all o s K
def step2 (all : List Oper) (j : Nat) (o : Oper) (s : St) (K : St → Prop) : Prop :=
  match o.guard with
  | none => body2 P all j o s K
  | some (g, b) => match (all[g]?).bind (·.dst) with
    | some t => match tget s.T t with | .bool c => if c = b then body2 P all j o s K else K ⟨tputD s.T o.dst .und, s.H⟩ | .und => K ⟨tputD s.T o.dst .und, s.H⟩ | _ => False
    | none => False
def wopsE (all : List Oper) : Nat → List Oper → St → (St → Prop) → Prop
  | _, [], s, K => K s
  | j, o :: r, s, K => step2 P all j o s fun s' => wopsE all (j + 1) r s' K
/-- s' says less than s: of every state of the model that s tells, s' tells it too; the first L blocks stay known. -/
def Weak (L : Nat) (s s' : St) : Prop := ∀ (B : From) (w0 : World) X N φ a w, B.H.length ≤ L → Rel P B w0 X N s φ a w → ∃ φ', Rel P B w0 X N s' φ' a w
/-- The marks of regions of the second kind, taken away. -/
def unm : Code → Code
  | .seq a b => .seq (unm a) (unm b)
  | .cond c a b => .cond c (unm a) (unm b)
  | .block id c => .block id (unm c)
  | .loop c => .loop (unm c)
  | .scope c => (match c with | .region id ops _ => .region id ops true | .block _ (.region id ops _) => .region id ops true | .seq (.region id pre _) (.region _ lst _) => .region id (pre ++ lst) true | c => .scope c)
  | .rangeFunc g ps a b => .rangeFunc g ps (unm a) (unm b)
  | c => c
/-- The same of marked code. -/
def okM (N : Nat) : Code → Bool
  | .region _ ops draw => (!draw || okDraw ops) && ops.toList.all fun o => match o.dst with | some d => decide (d < N) | none => true
  | .seq a b => okM N a && okM N b
  | .cond _ a b => okM N a && okM N b
  | .block _ c => okM N c
  | .loop c => okM N c
  | .rangeFunc _ ps a b => (ps.toList.all fun p => decide (p < N)) && (okM N a && okM N b)
  | .scope c => (match c with | .region _ ops _ => okDraw2 ops && ops.toList.all (fun o => match o.dst with | some d => decide (d < N) | none => true) | .block _ (.region _ ops _) => okDraw2 ops && ops.toList.all (fun o => match o.dst with | some d => decide (d < N) | none => true) | .seq (.region _ pre _) (.region _ lst _) => (match lst.toList with | [o] => okLast pre o && (pre.toList.all (fun o => match o.dst with | some d => decide (d < N) | none => true) && match o.dst with | some d => decide (d < N) | none => true) | _ => false) | _ => true)
  | _ => true
def Post (P : Program) (B : From) (w0 : World) (X : Nat → Prop) (N : Nat) (Q : Ex → St → Prop) : Exit → Act → World → Prop
  | .normal, a, w => ∃ s φ, Q .normal s ∧ Rel P B w0 X N s φ a w
  | .exit id, a, w => ∃ s φ, Q (.exit id) s ∧ Rel P B w0 X N s φ a w
  | .ret, a, w => ∃ s φ, Q .ret s ∧ Rel P B w0 X N s φ a w
  | _, _, _ => False
/-- A range over a function: what is to be shown of it, said of the model. -/
def rangeD (P : Program) (L : Nat) (g : Operand) (ps : Array Tmp) (assign body : Code) (s : St) (Q : Ex → St → Prop) : Prop :=
  ∀ (B : From) (w0 : World) X N φ a w, B.nm = false → (ps.toList.all fun p => decide (p < N)) = true → okM N assign = true → okM N body = true → B.H.length ≤ L → Rel P B w0 X N s φ a w → (Code.rangeFunc g ps (unm assign) (unm body)).wpIn Fence.wide 0 P (Post P B w0 X N Q) a w
/-- What is to be shown of a piece of code. -/
def vc (L : Nat) : Code → St → (Ex → St → Prop) → Prop
  | .skip, s, Q => Q .normal s
  | .region _ ops draw, s, Q => wopsC P draw ops.toList ops.toList s (Q .normal)
  | .seq a b, s, Q => vc L a s fun e s' => match e with | .normal => vc L b s' Q | e => Q e s'
  | .cond c a b, s, Q => match ev s.T c with | .bool t => if t = true then vc L a s Q else vc L b s Q | _ => False
  | .block id c, s, Q => vc L c s fun e s' => match e with | .exit j => if j = id then Q .normal s' else Q (.exit j) s' | e => Q e s'
  | .loop c, s, Q => ∃ I : Nat → St → Prop, (∃ n s0, Weak P L s s0 ∧ I n s0) ∧ ∀ n s1, I n s1 → vc L c s1 fun e s2 => match e with | .normal => ∃ m, m < n ∧ ∃ s3, Weak P L s2 s3 ∧ I m s3 | e => Q e s2
  | .exit id, s, Q => Q (.exit id) s
  | .ret, s, Q => Q .ret s
  | .rangeFunc g ps a b, s, Q => rangeD P L g ps a b s Q
  | .scope c, s, Q => (match c with | .region _ ops _ => wopsE P ops.toList 0 ops.toList s (Q .normal) | .block _ (.region _ ops _) => ∃ s1, Weak P L s s1 ∧ wopsE P ops.toList 0 ops.toList s1 (Q .normal) | .seq (.region _ pre _) (.region _ lst _) => wopsC P true pre.toList pre.toList s (fun s' => wopsC P false lst.toList lst.toList s' (Q .normal)) | _ => False)
  | _, _, _ => False
/-- A list without its last one, and this. -/
def splitL : List Oper → List Oper × Option Oper
  | [] => ([], none)
  | x :: r => match r with | [] => ([], some x) | _ :: _ => (x :: (splitL r).1, (splitL r).2)
/-- A region of the third kind. -/
def third (id : Nat) (ops : Array Oper) : Code := match (splitL ops.toList).2 with | some o => .scope (.seq (.region id (splitL ops.toList).1.toArray true) (.region id #[o] false)) | none => .scope (.region id ops true)
def isThird (ops : Array Oper) : Bool := match (splitL ops.toList).2 with | some o => isCallV o && okLast (splitL ops.toList).1.toArray o | none => false
theorem splitL_spec : ∀ (l : List Oper) (o : Oper), (splitL l).2 = some o → (splitL l).1 ++ [o] = l := by
  intro l
  induction l with
  | nil => intro o h; simp [splitL] at h
  | cons x r ih =>
    intro o h
    cases r with
    | nil => simp [splitL] at h ⊢; exact h.symm
    | cons y r => simp only [splitL] at h ⊢; rw [List.cons_append]; congr 1; exact ih o h
theorem unm_third {id : Nat} {ops : Array Oper} : unm (third id ops) = .region id ops true := by
  unfold third
  split
  · rename_i o ho
    have := splitL_spec _ _ ho
    simp only [unm]
    congr 1
    rw [← Array.toList_inj]; simpa using this
  · rfl
/-- Regions with these numbers are marked. -/
def mkc (ids : List Nat) : Code → Code
  | .region id ops d => if ids.contains id = true then .scope (.region id ops d) else .region id ops d
  | .seq a b => .seq (mkc ids a) (mkc ids b)
  | .cond c a b => .cond c (mkc ids a) (mkc ids b)
  | .block id c => .block id (mkc ids c)
  | .loop c => .loop (mkc ids c)
  | .rangeFunc g ps a b => .rangeFunc g ps (mkc ids a) (mkc ids b)
  | c => c
/-- Regions marked as such before which something is forgotten, and as of the second kind. -/
def mkw (iw ids : List Nat) : Code → Code
  | .region id ops d => if iw.contains id = true then .scope (.block 0 (.region id ops d)) else if ids.contains id = true then .scope (.region id ops d) else .region id ops d
  | .seq a b => .seq (mkw iw ids a) (mkw iw ids b)
  | .cond c a b => .cond c (mkw iw ids a) (mkw iw ids b)
  | .block id c => .block id (mkw iw ids c)
  | .loop c => .loop (mkw iw ids c)
  | .rangeFunc g ps a b => .rangeFunc g ps (mkw iw ids a) (mkw iw ids b)
  | c => c
/-- Regions marked as of the third kind, and as of the second. -/
def mkd (i3 ids : List Nat) : Code → Code
  | .region id ops d => if i3.contains id = true then third id ops else if ids.contains id = true then .scope (.region id ops d) else .region id ops d
  | .seq a b => .seq (mkd i3 ids a) (mkd i3 ids b)
  | .cond c a b => .cond c (mkd i3 ids a) (mkd i3 ids b)
  | .block id c => .block id (mkd i3 ids c)
  | .loop c => .loop (mkd i3 ids c)
  | .rangeFunc g ps a b => .rangeFunc g ps (mkd i3 ids a) (mkd i3 ids b)
  | c => c
/-- All that draw and are not of the first kind, or call something and are of the second kind, are marked. -/
def wantB (ops : Array Oper) : Bool := ops.toList.any isCallV && okDraw2 ops && !ops.toList.any fun o => match o.op with | .store .. => true | _ => false
def mark : Code → Code
  | .region id ops d => if d = true then (if isThird ops = true then third id ops else if okDraw ops = false ∨ wantB ops = true then .scope (.region id ops d) else .region id ops d) else .region id ops d
  | .seq a b => .seq (mark a) (mark b)
  | .cond c a b => .cond c (mark a) (mark b)
  | .block id c => .block id (mark c)
  | .loop c => .loop (mark c)
  | .rangeFunc g ps a b => .rangeFunc g ps (mark a) (mark b)
  | c => c
/-- There are no marks in the text itself, and what is marked draws. -/
def noScope (ids : List Nat) : Code → Bool
  | .region id _ d => !ids.contains id || d
  | .seq a b => noScope ids a && noScope ids b
  | .cond _ a b => noScope ids a && noScope ids b
  | .block _ c => noScope ids c
  | .loop c => noScope ids c
  | .rangeFunc _ _ a b => noScope ids a && noScope ids b
  | .scope _ => false
  | _ => true
theorem unm_mkc (ids : List Nat) : ∀ c, noScope ids c = true → unm (mkc ids c) = c := by
  intro c
  induction c with
  | region id ops d =>
    intro h
    simp only [mkc]
    split
    · rename_i hc
      simp only [noScope, hc, Bool.not_true, Bool.false_or] at h
      subst h; rfl
    · rfl
  | seq a b iha ihb => intro h; simp only [noScope, Bool.and_eq_true] at h; simp only [mkc, unm, iha h.1, ihb h.2]
  | rangeFunc g ps a b iha ihb => intro h; simp only [noScope, Bool.and_eq_true] at h; simp only [mkc, unm, iha h.1, ihb h.2]
  | cond c a b iha ihb => intro h; simp only [noScope, Bool.and_eq_true] at h; simp only [mkc, unm, iha h.1, ihb h.2]
  | block id c ih => intro h; simp only [noScope] at h; simp only [mkc, unm, ih h]
  | loop c ih => intro h; simp only [noScope] at h; simp only [mkc, unm, ih h]
  | scope c ih => intro h; simp [noScope] at h
  | _ => intro _; rfl
theorem unm_mark : ∀ c, noScope [] c = true → unm (mark c) = c := by
  intro c
  induction c with
  | region id ops d =>
    intro h
    simp only [mark]
    split
    · rename_i hc
      subst hc
      split
      · exact unm_third
      · split <;> rfl
    · rfl
  | seq a b iha ihb => intro h; simp only [noScope, Bool.and_eq_true] at h; simp only [mark, unm, iha h.1, ihb h.2]
  | rangeFunc g ps a b iha ihb => intro h; simp only [noScope, Bool.and_eq_true] at h; simp only [mark, unm, iha h.1, ihb h.2]
  | cond c a b iha ihb => intro h; simp only [noScope, Bool.and_eq_true] at h; simp only [mark, unm, iha h.1, ihb h.2]
  | block id c ih => intro h; simp only [noScope] at h; simp only [mark, unm, ih h]
  | loop c ih => intro h; simp only [noScope] at h; simp only [mark, unm, ih h]
  | scope c ih => intro h; simp [noScope] at h
  | _ => intro _; rfl
theorem unm_mkd (i3 ids : List Nat) : ∀ c, (noScope i3 c && noScope ids c) = true → unm (mkd i3 ids c) = c := by
  intro c
  induction c with
  | region id ops d =>
    intro h
    simp only [noScope, Bool.and_eq_true, Bool.or_eq_true, Bool.not_eq_true'] at h
    simp only [mkd]
    split
    · rename_i hc
      have hd : d = true := by rcases h.1 with h | h; (rw [hc] at h; cases h); exact h
      subst hd; exact unm_third
    · split
      · rename_i hc
        have hd : d = true := by rcases h.2 with h | h; (rw [hc] at h; cases h); exact h
        subst hd; rfl
      · rfl
  | seq a b iha ihb => intro h; simp only [noScope, Bool.and_eq_true] at h; simp only [mkd, unm, iha (by simp [h.1.1, h.2.1]), ihb (by simp [h.1.2, h.2.2])]
  | rangeFunc g ps a b iha ihb => intro h; simp only [noScope, Bool.and_eq_true] at h; simp only [mkd, unm, iha (by simp [h.1.1, h.2.1]), ihb (by simp [h.1.2, h.2.2])]
  | cond c a b iha ihb => intro h; simp only [noScope, Bool.and_eq_true] at h; simp only [mkd, unm, iha (by simp [h.1.1, h.2.1]), ihb (by simp [h.1.2, h.2.2])]
  | block id c ih => intro h; simp only [noScope] at h; simp only [mkd, unm, ih h]
  | loop c ih => intro h; simp only [noScope] at h; simp only [mkd, unm, ih h]
  | scope c ih => intro h; simp [noScope] at h
  | _ => intro _; rfl
theorem unm_mkw (iw ids : List Nat) : ∀ c, (noScope iw c && noScope ids c) = true → unm (mkw iw ids c) = c := by
  intro c
  induction c with
  | region id ops d =>
    intro h
    simp only [noScope, Bool.and_eq_true, Bool.or_eq_true, Bool.not_eq_true'] at h
    simp only [mkw]
    split
    · rename_i hc
      have hd : d = true := by rcases h.1 with h | h; (rw [hc] at h; cases h); exact h
      subst hd; rfl
    · split
      · rename_i hc
        have hd : d = true := by rcases h.2 with h | h; (rw [hc] at h; cases h); exact h
        subst hd; rfl
      · rfl
  | seq a b iha ihb => intro h; simp only [noScope, Bool.and_eq_true] at h; simp only [mkw, unm, iha (by simp [h.1.1, h.2.1]), ihb (by simp [h.1.2, h.2.2])]
  | rangeFunc g ps a b iha ihb => intro h; simp only [noScope, Bool.and_eq_true] at h; simp only [mkw, unm, iha (by simp [h.1.1, h.2.1]), ihb (by simp [h.1.2, h.2.2])]
  | cond c a b iha ihb => intro h; simp only [noScope, Bool.and_eq_true] at h; simp only [mkw, unm, iha (by simp [h.1.1, h.2.1]), ihb (by simp [h.1.2, h.2.2])]
  | block id c ih => intro h; simp only [noScope] at h; simp only [mkw, unm, ih h]
  | loop c ih => intro h; simp only [noScope] at h; simp only [mkw, unm, ih h]
  | scope c ih => intro h; simp [noScope] at h
  | _ => intro _; rfl
/-- The regions of a piece of code are in order. -/
def okCode (N : Nat) : Code → Bool
  | .region _ ops draw => (!draw || okDraw ops) && ops.toList.all fun o => match o.dst with | some d => decide (d < N) | none => true
  | .seq a b => okCode N a && okCode N b
  | .cond _ a b => okCode N a && okCode N b
  | .block _ c => okCode N c
  | .loop c => okCode N c
  | .rangeFunc _ ps a b => (ps.toList.all fun p => decide (p < N)) && (okCode N a && okCode N b)
  | .scope _ => false
  | _ => true
theorem okM_of {N : Nat} : ∀ c, okCode N c = true → okM N c = true ∧ unm c = c := by
  intro c
  induction c with
  | region id ops d => intro h; exact ⟨h, rfl⟩
  | seq a b iha ihb => intro h; simp only [okCode, Bool.and_eq_true] at h; simp [okM, unm, iha h.1, ihb h.2]
  | rangeFunc g ps a b iha ihb => intro h; simp only [okCode, Bool.and_eq_true] at h; exact ⟨by simp only [okM, Bool.and_eq_true]; exact ⟨h.1, (iha h.2.1).1, (ihb h.2.2).1⟩, by simp [unm, iha h.2.1, ihb h.2.2]⟩
  | cond c a b iha ihb => intro h; simp only [okCode, Bool.and_eq_true] at h; simp [okM, unm, iha h.1, ihb h.2]
  | block id c ih => intro h; simp only [okCode] at h; simp [okM, unm, ih h]
  | loop c ih => intro h; simp only [okCode] at h; simp [okM, unm, ih h]
  | scope c ih => intro h; simp [okCode] at h
  | _ => intro h; exact ⟨rfl, rfl⟩
end
section
variable {P : Program} {B : From} {w0 : World} {X : Nat → Prop} {N L : Nat}
theorem body_op {d : Bool} {all : List Oper} {o : Oper} {s : St} {K : St → Prop} (hg : guardV all s.T o = some true) (h : bodyC P d all o s K) : (∃ v u, opR P all o s v u ∧ (d = true → ldZ all o s) ∧ K (nextSt o s v u)) ∨ (d = false ∧ callQ P all o s K) := by
  unfold bodyC at h
  split at h
  · rename_i f args ats hop
    obtain ⟨g, caps, h1, ⟨r, u, h2, h3⟩ | ⟨hd, h2⟩⟩ | ⟨hd, g, fst, h1, h2⟩ := h
    rotate_left 2
    · exact .inr ⟨hd, hg, .inr (.inl ⟨f, args, ats, g, fst, hop, h1, h2⟩)⟩
    · exact .inl ⟨r, u, .inl ⟨hg, .inr ⟨f, args, ats, g, caps, hop, h1, h2⟩⟩, fun _ a h _ => by simp [ldAddr, hop] at h, h3⟩
    · exact .inr ⟨hd, hg, .inl ⟨f, args, ats, g, caps, hop, h1, h2⟩⟩
  · rename_i t a hop
    obtain ⟨hz, h⟩ := h
    split at h
    · rename_i v u he
      exact .inl ⟨v, u, .inl ⟨hg, .inl he⟩, fun hd a' h' _ => by simp only [ldAddr, hop, Option.some.injEq] at h'; subst h'; simpa only [lxv, hop] using hz hd, h⟩
    · exact h.elim
  · rename_i t a f hop
    obtain ⟨hz, h⟩ := h
    split at h
    · rename_i v u he
      exact .inl ⟨v, u, .inl ⟨hg, .inl he⟩, fun hd a' h' _ => by simp only [ldAddr, hop, Option.some.injEq] at h'; subst h'; simpa only [lxv, hop] using hz hd, h⟩
    · exact h.elim
  · rename_i a hop
    obtain ⟨hz, h⟩ := h
    split at h
    · rename_i v u he
      exact .inl ⟨v, u, .inl ⟨hg, .inl he⟩, fun hd a' h' _ => by simp only [ldAddr, hop, Option.some.injEq] at h'; subst h'; simpa only [lxv, hop] using hz hd, h⟩
    · exact h.elim
  · rename_i t a n hop
    obtain ⟨hz, h⟩ := h
    split at h
    · rename_i v u he
      exact .inl ⟨v, u, .inl ⟨hg, .inl he⟩, fun hd a' h' _ => by simp only [ldAddr, hop, Option.some.injEq] at h'; subst h'; simpa only [lxv, hop] using hz hd, h⟩
    · exact h.elim
  · rename_i x b hop
    obtain ⟨hd, rfl, hN⟩ := h
    exact .inr ⟨hd, hg, .inr (.inr ⟨x, hop, hN⟩)⟩
  · rename_i hn1 hn2 hn3 hn4 hn5 hn6
    split at h
    · rename_i v u he
      refine .inl ⟨v, u, .inl ⟨hg, .inl he⟩, fun _ a' h' _ => ?_, h⟩
      unfold ldAddr at h'
      split at h'
      · rename_i t a hop; exact absurd hop (hn2 t a)
      · rename_i t a f hop; exact absurd hop (hn3 t a f)
      · rename_i a hop; exact absurd hop (hn4 a)
      · rename_i t a n hop; exact absurd hop (hn5 t a n)
      · cases h'
    · exact h.elim
theorem step_op {d : Bool} {all : List Oper} {o : Oper} {s : St} {K : St → Prop} (h : stepC P d all o s K) : (∃ v u, opR P all o s v u ∧ (d = true → ldZ all o s) ∧ K (nextSt o s v u)) ∨ (d = false ∧ callQ P all o s K) := by
  simp only [stepC] at h
  split at h
  · rename_i hg
    exact body_op (by simp [guardV, hg]) h
  · rename_i g b hg
    split at h
    · rename_i t ht
      split at h
      · rename_i c hc
        split at h
        · rename_i hcb
          exact body_op (by simp [guardV, hg, ht, hc, hcb]) h
        · rename_i hcb
          exact .inl ⟨.und, .no, .inr ⟨by simp [guardV, hg, ht, hc, hcb], rfl, rfl⟩, fun _ a' _ h' => by simp [guardV, hg, ht, hc, hcb] at h', h⟩
      · rename_i hc
        exact .inl ⟨.und, .no, .inr ⟨by simp [guardV, hg, ht, hc], rfl, rfl⟩, fun _ a' _ h' => by simp [guardV, hg, ht, hc] at h', h⟩
      · exact h.elim
    · exact h.elim
theorem wops_of {all : List Oper} {K : St → Prop} : ∀ (l : List Oper) (s : St), wopsC P true all l s K → wopsP P (ldZ all) all l s K := by
  intro l
  induction l with
  | nil => intro s h; exact h
  | cons o l ih =>
    intro s h
    rcases step_op h with ⟨v, u, h1, hz, h2⟩ | ⟨h1, _⟩
    · exact ⟨v, u, h1, hz rfl, ih _ h2⟩
    · simp at h1
theorem callG_mono {g : FuncId} {args : List AV} {H : List Blk} {K K' : AV → List Blk → Prop} (h : CallG P g args H K) (hK : ∀ r H', K r H' → K' r H') : CallG P g args H K' :=
  ⟨h.1, fun w0 w X φ vs hr hl hv => (h.2 w0 w X φ vs hr hl hv).mono fun e w' ⟨v, r, φ', H', k1, k2, k3, k4, k5⟩ => ⟨v, r, φ', H', k1, k2, k3, k4, hK r H' k5⟩⟩
theorem callQ_mono {all : List Oper} {o : Oper} {s : St} {K K' : St → Prop} (h : callQ P all o s K) (hK : ∀ s, K s → K' s) : callQ P all o s K' := by
  obtain ⟨hg, ⟨f, args, ats, g, caps, hop, hf, hE⟩ | ⟨f, args, ats, g, fst, hop, hf, hE⟩ | ⟨x, hop, hN⟩⟩ := h
  · exact ⟨hg, .inl ⟨f, args, ats, g, caps, hop, hf, callG_mono hE fun r H' h => hK _ h⟩⟩
  · exact ⟨hg, .inr (.inl ⟨f, args, ats, g, fst, hop, hf, callG_mono hE fun r H' h => hK _ h⟩)⟩
  · exact ⟨hg, .inr (.inr ⟨x, hop, nextD_mono hN fun r H' h => hK _ h⟩)⟩
theorem wopsQ_of {all : List Oper} {K : St → Prop} : ∀ (l : List Oper) (s : St), wopsC P false all l s K → wopsQ P all l s K := by
  intro l
  induction l with
  | nil => intro s h; exact h
  | cons o l ih =>
    intro s h
    rcases step_op h with ⟨v, u, h1, _, h2⟩ | ⟨_, h1⟩
    · exact .inl ⟨v, u, h1, ih _ h2⟩
    · exact .inr (callQ_mono h1 fun s' h2 => ih s' h2)
theorem res2_op {all : List Oper} {j : Nat} {o : Oper} {s : St} {K : St → Prop} (hg : guardV all s.T o = some true) (h : res2 P all o s K) : ∃ v u, op2 P all j o s v u ∧ noboxA all s.H u = true ∧ K (nextSt o s v u) := by
  unfold res2 at h
  split at h
  · rename_i v u he
    exact ⟨v, u, .inl (.inl ⟨hg, .inl he⟩), h.1, h.2⟩
  · exact h.elim
theorem body2_op {all : List Oper} {j : Nat} {o : Oper} {s : St} {K : St → Prop} (hg : guardV all s.T o = some true) (h : body2 P all j o s K) : ∃ v u, op2 P all j o s v u ∧ noboxA all s.H u = true ∧ (∀ a, softA o = some a → guardV all s.T o = some true → softOk all (isIx o) (ev s.T a) = true ∨ hardX all (isIx o) s.T (ev s.T a) j = true) ∧ K (nextSt o s v u) := by
  unfold body2 at h
  split at h
  · rename_i f args ats hop
    obtain ⟨g, caps, h1, ⟨r, u, h2, h3⟩ | ⟨h2, r, id, b, h3, h4, h5, h6, h7⟩⟩ := h
    · refine ⟨r, u, .inl (.inl ⟨hg, .inr ⟨f, args, ats, g, caps, hop, h1, h2⟩⟩), ?_, fun a h => by simp [softA, hop] at h, h3⟩
      cases u with
      | set id b => exact absurd rfl (h2.2.1 id b)
      | _ => rfl
    · exact ⟨r, .set id b, .inr ⟨hg, h2, id, b, f, args, ats, g, caps, rfl, h3, hop, h1, h6⟩, by simp [noboxA, nobox, h4, h5], fun a h => by simp [softA, hop] at h, h7⟩
  · rename_i t a hop
    obtain ⟨v, u, h1, h2, h3⟩ := res2_op (j := j) hg h.2
    exact ⟨v, u, h1, h2, fun a' h' _ => by simp only [softA, hop, Option.some.injEq] at h'; subst h'; simpa [isIx, hop] using h.1, h3⟩
  · rename_i t a f hop
    obtain ⟨v, u, h1, h2, h3⟩ := res2_op (j := j) hg h.2
    exact ⟨v, u, h1, h2, fun a' h' _ => by simp only [softA, hop, Option.some.injEq] at h'; subst h'; simpa [isIx, hop] using h.1, h3⟩
  · rename_i a hop
    obtain ⟨v, u, h1, h2, h3⟩ := res2_op (j := j) hg h.2
    exact ⟨v, u, h1, h2, fun a' h' _ => by simp only [softA, hop, Option.some.injEq] at h'; subst h'; simpa [isIx, hop] using h.1, h3⟩
  · rename_i t a n hop
    obtain ⟨v, u, h1, h2, h3⟩ := res2_op (j := j) hg h.2
    exact ⟨v, u, h1, h2, fun a' h' _ => by simp only [softA, hop, Option.some.injEq] at h'; subst h'; simpa [isIx, hop] using h.1, h3⟩
  · rename_i args ats hop
    obtain ⟨v, u, h1, h2, h3⟩ := res2_op (j := j) hg h.2
    exact ⟨v, u, h1, h2, fun a' h' _ => by simp only [softA, hop] at h'; have h4 := h.1; rw [h'] at h4; simpa [isIx, hop] using h4, h3⟩
  · rename_i hn1 hn2 hn3 hn4 hn5 hn6
    obtain ⟨v, u, h1, h2, h3⟩ := res2_op (j := j) hg h
    refine ⟨v, u, h1, h2, fun a' h' _ => ?_, h3⟩
    unfold softA at h'
    split at h'
    · rename_i t a hop; exact absurd hop (hn2 t a)
    · rename_i t a f hop; exact absurd hop (hn3 t a f)
    · rename_i a hop; exact absurd hop (hn4 a)
    · rename_i t a n hop; exact absurd hop (hn5 t a n)
    · rename_i args ats hop; exact absurd hop (hn6 args ats)
    · cases h'
theorem step2_op {all : List Oper} {j : Nat} {o : Oper} {s : St} {K : St → Prop} (h : step2 P all j o s K) : ∃ v u, op2 P all j o s v u ∧ noboxA all s.H u = true ∧ (∀ a, softA o = some a → guardV all s.T o = some true → softOk all (isIx o) (ev s.T a) = true ∨ hardX all (isIx o) s.T (ev s.T a) j = true) ∧ K (nextSt o s v u) := by
  simp only [step2] at h
  split at h
  · rename_i hg
    exact body2_op (by simp [guardV, hg]) h
  · rename_i g b hg
    split at h
    · rename_i t ht
      split at h
      · rename_i c hc
        split at h
        · rename_i hcb
          exact body2_op (by simp [guardV, hg, ht, hc, hcb]) h
        · rename_i hcb
          exact ⟨.und, .no, .inl (.inr ⟨by simp [guardV, hg, ht, hc, hcb], rfl, rfl⟩), rfl, fun a' _ h' => by simp [guardV, hg, ht, hc, hcb] at h', h⟩
      · rename_i hc
        exact ⟨.und, .no, .inl (.inr ⟨by simp [guardV, hg, ht, hc], rfl, rfl⟩), rfl, fun a' _ h' => by simp [guardV, hg, ht, hc] at h', h⟩
      · exact h.elim
    · exact h.elim
theorem wops2_of {all : List Oper} {K : St → Prop} : ∀ (l : List Oper) (j : Nat) (s : St), wopsE P all j l s K → wops2 P all j l s K := by
  intro l
  induction l with
  | nil => intro j s h; exact h
  | cons o l ih =>
    intro j s h
    obtain ⟨v, u, h1, h2, h3, h4⟩ := step2_op h
    exact ⟨v, u, h1, h2, h3, ih _ _ h4⟩
theorem id' {p : Prop} (h : p) : p := h
theorem post_no {Q : Ex → St → Prop} : ¬ LetsOut (Post P B w0 X N Q) := fun ⟨_, _, h⟩ => h
theorem vc_sound_r (hm : P.follows .mixedOrders = true) (hB : B.H.length ≤ L) (r : Option Nat) : ∀ (c : Code) (s : St) (Q : Ex → St → Prop) (φ : Nat → Option Nat) (a : Act) (w : World), (r = none ∧ B.nm = false ∨ noDefC c = true) → okM N c = true → vc P L c s Q → Rel P B w0 X N s φ a w → (unm c).wpIn (fenceR r) 0 P (Post P B w0 X N Q) a w := by
  intro c
  induction c with
  | skip => intro s Q φ a w _ _ h hrel; exact wpIn_skip ⟨s, φ, h, hrel⟩
  | region id ops draw =>
    intro s Q φ a w hrd hok h hrel
    simp only [okM, Bool.and_eq_true, List.all_eq_true] at hok
    obtain ⟨hok1, hok2⟩ := hok
    have hdst : ∀ (j : Nat) o, ops[j]? = some o → ∀ d, o.dst = some d → d < N := fun j o ho d hd => by
      have := hok2 o (List.mem_of_getElem? (l := ops.toList) (i := j) (by simpa using ho))
      rw [hd] at this
      simpa using this
    have hQ : ∀ s φ a w, Rel P B w0 X N s φ a w → Q .normal s → Post P B w0 X N Q .normal a w := fun s φ a w h1 h2 => ⟨s, φ, h2, h1⟩
    cases draw with
    | false =>
      refine region_In (hrd.imp (·.1) id') post_no ?_
      have := ops_wp (P := P) hdst hQ ops.toList 0 s φ a w (by simp) (wopsQ_of _ _ h) hrel
      rw [List.range_eq_range']
      simpa using this
    | true => exact draw_wp (hrd.imp (·.1) id') hm (by simpa using hok1) hdst (wops_of _ _ h) hrel hQ
  | seq x y ihx ihy =>
    intro s Q φ a w hrd hok h hrel
    simp only [okM, Bool.and_eq_true] at hok
    have hrd' : (r = none ∧ B.nm = false ∨ noDefC x = true) ∧ (r = none ∧ B.nm = false ∨ noDefC y = true) := by
      simp only [noDefC, Bool.and_eq_true] at hrd; exact ⟨hrd.imp (fun h => h) (·.1), hrd.imp (fun h => h) (·.2)⟩
    refine wpIn_seq (wpIn_mono (ihx _ _ φ a w hrd'.1 hok.1 h hrel) fun e a w hq => ?_)
    cases e with
    | normal => obtain ⟨s', φ', h1, h2⟩ := hq; exact ihy _ _ φ' a w hrd'.2 hok.2 h1 h2
    | exit id => exact hq
    | ret => exact hq
    | _ => exact hq.elim
  | cond c x y ihx ihy =>
    intro s Q φ a w hrd hok h hrel
    simp only [okM, Bool.and_eq_true] at hok
    simp only [vc] at h
    split at h
    · rename_i t ht
      have hc := ev_rel hrel.hr hrel.t c
      rw [ht] at hc
      have hrd' : (r = none ∧ B.nm = false ∨ noDefC x = true) ∧ (r = none ∧ B.nm = false ∨ noDefC y = true) := by
        simp only [noDefC, Bool.and_eq_true] at hrd; exact ⟨hrd.imp (fun h => h) (·.1), hrd.imp (fun h => h) (·.2)⟩
      refine wpIn_cond (t := t) hc.bool_inv ?_
      cases t with
      | true => exact ihx _ _ φ a w hrd'.1 hok.1 (by simpa using h) hrel
      | false => exact ihy _ _ φ a w hrd'.2 hok.2 (by simpa using h) hrel
    · exact h.elim
  | block id c ih =>
    intro s Q φ a w hrd hok h hrel
    refine wpIn_block (wpIn_mono (ih _ _ φ a w hrd hok h hrel) fun e a w hq => ?_)
    cases e with
    | normal => exact hq
    | exit j =>
      obtain ⟨s', φ', h1, h2⟩ := hq
      simp only [Exit.inBlock]
      simp only at h1
      split at h1
      · rename_i hj; rw [if_pos hj]; exact ⟨s', φ', h1, h2⟩
      · rename_i hj; rw [if_neg hj]; exact ⟨s', φ', h1, h2⟩
    | ret => exact hq
    | _ => exact hq.elim
  | loop c ih =>
    intro s Q φ a w hrd hok h hrel
    obtain ⟨I, ⟨n, s0, hW, hI⟩, hround⟩ := h
    obtain ⟨φ0, hrel0⟩ := hW B w0 X N φ a w hB hrel
    refine wpIn_loop_n (fun n a w => ∃ s φ, I n s ∧ Rel P B w0 X N s φ a w) ⟨s0, φ0, hI, hrel0⟩ fun n a w ⟨s1, φ1, h1, h2⟩ => ?_
    refine wpIn_mono (ih _ _ φ1 a w hrd hok (hround n s1 h1) h2) fun e a w hq => ?_
    cases e with
    | normal =>
      obtain ⟨s2, φ2, ⟨m, hlt, s3, hW3, hI3⟩, h4⟩ := hq
      obtain ⟨φ3, h5⟩ := hW3 B w0 X N φ2 a w hB h4
      exact ⟨m, hlt, s3, φ3, hI3, h5⟩
    | exit id => exact hq
    | ret => exact hq
    | _ => exact hq.elim
  | exit id => intro s Q φ a w _ _ h hrel; exact wpIn_exit ⟨s, φ, h, hrel⟩
  | ret => intro s Q φ a w _ _ h hrel; exact wpIn_ret ⟨s, φ, h, hrel⟩
  | scope c ih =>
    intro s Q φ a w hrd hok h hrel
    cases c with
    | region id ops d =>
      simp only [okM, Bool.and_eq_true, List.all_eq_true] at hok
      obtain ⟨hok1, hok2⟩ := hok
      have hdst : ∀ (j : Nat) o, ops[j]? = some o → ∀ d, o.dst = some d → d < N := fun j o ho d hd => by
        have := hok2 o (List.mem_of_getElem? (l := ops.toList) (i := j) (by simpa using ho))
        rw [hd] at this
        simpa using this
      exact draw_wp2 (hrd.imp (·.1) id') hm hok1 hdst (wops2_of _ _ _ h) hrel fun s φ a w h1 h2 => ⟨s, φ, h2, h1⟩
    | block i y =>
      cases y with
      | region id ops d =>
        simp only [okM, Bool.and_eq_true, List.all_eq_true] at hok
        obtain ⟨hok1, hok2⟩ := hok
        have hdst : ∀ (j : Nat) o, ops[j]? = some o → ∀ d, o.dst = some d → d < N := fun j o ho d hd => by
          have := hok2 o (List.mem_of_getElem? (l := ops.toList) (i := j) (by simpa using ho))
          rw [hd] at this
          simpa using this
        obtain ⟨s1, hw1, h⟩ := h
        obtain ⟨φ1, hrel⟩ := hw1 B w0 X N φ a w hB hrel
        exact draw_wp2 (hrd.imp (·.1) id') hm hok1 hdst (wops2_of _ _ _ h) hrel fun s φ a w h1 h2 => ⟨s, φ, h2, h1⟩
      | _ => exact h.elim
    | seq x y =>
      cases x with
      | region id pre d1 =>
        cases y with
        | region id2 lst d2 =>
          simp only [okM] at hok
          split at hok
          · rename_i o hl
            simp only [Bool.and_eq_true, List.all_eq_true] at hok
            obtain ⟨hok1, hok2, hok3⟩ := hok
            obtain rfl : lst = #[o] := by rw [← Array.toList_inj]; exact hl
            have hdst : ∀ (j : Nat) o, pre[j]? = some o → ∀ d, o.dst = some d → d < N := fun j o ho d hd => by
              have := hok2 o (List.mem_of_getElem? (l := pre.toList) (i := j) (by simpa using ho))
              rw [hd] at this
              simpa using this
            have hdo : ∀ d, o.dst = some d → d < N := fun d hd => by rw [hd] at hok3; simpa using hok3
            exact draw_wp3 (K' := Q .normal) (hrd.imp (·.1) fun h => by simpa [noDefC, noDefL] using h) hm hok1 hdst hdo (wops_of _ _ h) hrel (fun s hs => wopsQ_of _ _ hs) fun s φ a w h1 h2 => ⟨s, φ, h2, h1⟩
          · cases hok
        | _ => exact h.elim
      | _ => exact h.elim
    | _ => exact h.elim
  | rangeFunc g ps x y ihx ihy =>
    intro s Q φ a w hrd hok h hrel
    rcases hrd with ⟨rfl, hnm⟩ | hrd
    · simp only [okM, Bool.and_eq_true] at hok
      exact h B w0 X N φ a w hnm hok.1 hok.2.1 hok.2.2 hB hrel
    · simp [noDefC] at hrd
  | _ => intro s Q φ a w _ _ h; exact h.elim
theorem vc_sound_u (hm : P.follows .mixedOrders = true) (hnm : B.nm = false) (hB : B.H.length ≤ L) : ∀ (c : Code) (s : St) (Q : Ex → St → Prop) (φ : Nat → Option Nat) (a : Act) (w : World), okM N c = true → vc P L c s Q → Rel P B w0 X N s φ a w → (unm c).wp P (Post P B w0 X N Q) a w := fun c s Q φ a w hok h hrel =>
  wpIn_wide.1 (vc_sound_r hm hB none c s Q φ a w (.inl ⟨rfl, hnm⟩) hok h hrel)
theorem vc_sound (hm : P.follows .mixedOrders = true) (hnm : B.nm = false) (hB : B.H.length ≤ L) : ∀ (c : Code) (s : St) (Q : Ex → St → Prop) (φ : Nat → Option Nat) (a : Act) (w : World), okCode N c = true → vc P L c s Q → Rel P B w0 X N s φ a w → c.wp P (Post P B w0 X N Q) a w := fun c s Q φ a w hok h hrel => by
  obtain ⟨h1, h2⟩ := okM_of c hok
  have := vc_sound_u hm hnm hB c s Q φ a w h1 h hrel
  rwa [h2] at this
theorem vc_soundM (hm : P.follows .mixedOrders = true) (hnm : B.nm = false) (hB : B.H.length ≤ L) (ids : List Nat) (c : Code) (s : St) (Q : Ex → St → Prop) (φ : Nat → Option Nat) (a : Act) (w : World) (hok : okM N (mkc ids c) = true) (hn : noScope ids c = true) (h : vc P L (mkc ids c) s Q) (hrel : Rel P B w0 X N s φ a w) : c.wp P (Post P B w0 X N Q) a w := by
  have := vc_sound_u hm hnm hB (mkc ids c) s Q φ a w hok h hrel
  rwa [unm_mkc ids c hn] at this
theorem vc_soundK (hm : P.follows .mixedOrders = true) (hnm : B.nm = false) (hB : B.H.length ≤ L) (c : Code) (s : St) (Q : Ex → St → Prop) (φ : Nat → Option Nat) (a : Act) (w : World) (hok : okM N (mark c) = true) (hn : noScope [] c = true) (h : vc P L (mark c) s Q) (hrel : Rel P B w0 X N s φ a w) : c.wp P (Post P B w0 X N Q) a w := by
  have := vc_sound_u hm hnm hB (mark c) s Q φ a w hok h hrel
  rwa [unm_mark c hn] at this
theorem vc_soundD (hm : P.follows .mixedOrders = true) (hnm : B.nm = false) (hB : B.H.length ≤ L) (i3 ids : List Nat) (c : Code) (s : St) (Q : Ex → St → Prop) (φ : Nat → Option Nat) (a : Act) (w : World) (hok : okM N (mkd i3 ids c) = true) (hn : (noScope i3 c && noScope ids c) = true) (h : vc P L (mkd i3 ids c) s Q) (hrel : Rel P B w0 X N s φ a w) : c.wp P (Post P B w0 X N Q) a w := by
  have := vc_sound_u hm hnm hB (mkd i3 ids c) s Q φ a w hok h hrel
  rwa [unm_mkd i3 ids c hn] at this
theorem vc_soundW (hm : P.follows .mixedOrders = true) (hnm : B.nm = false) (hB : B.H.length ≤ L) (iw ids : List Nat) (c : Code) (s : St) (Q : Ex → St → Prop) (φ : Nat → Option Nat) (a : Act) (w : World) (hok : okM N (mkw iw ids c) = true) (hn : (noScope iw c && noScope ids c) = true) (h : vc P L (mkw iw ids c) s Q) (hrel : Rel P B w0 X N s φ a w) : c.wp P (Post P B w0 X N Q) a w := by
  have := vc_sound_u hm hnm hB (mkw iw ids c) s Q φ a w hok h hrel
  rwa [unm_mkw iw ids c hn] at this
/-! ### Functions -/
def argT (k : Nat) : List AV → List (Nat × AV)
  | [] => []
  | x :: r => (k, x) :: argT (k + 1) r
theorem tget_argT : ∀ (l : List AV) (k j : Nat), tget (argT k l) j = if k ≤ j then l.getD (j - k) .any else .any := by
  intro l
  induction l with
  | nil => intro k j; simp [argT, tget]
  | cons x l ih =>
    intro k j
    simp only [argT, tget, ih]
    by_cases h : k = j
    · subst h; simp
    · by_cases h2 : k ≤ j
      · rw [if_neg h, if_pos (by omega), if_pos h2, show j - k = (j - (k + 1)) + 1 by omega]; simp
      · rw [if_neg h, if_neg (by omega), if_neg h2]
def res1 (P : Program) (s : St) : ResultVar → Option AV
  | .tmp t => some (tget s.T t)
  | .cell p t => match ty P t, rd s.H (tget s.T p) with | some i, some cs => part i cs 0 | _, _ => none
def resA (P : Program) (fn : Func) (s : St) : Option AV :=
  match fn.results.toList.mapM (res1 P s) with
  | some [x] => some x
  | some l => some (.tup l)
  | none => none
def endQ (P : Program) (fn : Func) (r : AV) : Ex → St → Prop
  | .exit _, _ => False
  | _, s => match resA P fn s with | some x => reify s.H 8 x = some r | none => False
def resSem (tmps : Array Value) : ResultVar → Sem Value
  | .tmp t => pure (tmps.getD t undef)
  | .cell p t => do loadVar t (← asAddr (tmps.getD p undef))
theorem results_eq (fn : Func) (tmps : Array Value) : results fn tmps = (do
    let vs ← fn.results.mapM (resSem tmps)
    pure (if h : vs.size = 1 then vs[0] else .tuple vs)) := by
  unfold results
  congr 1
def endF (P : Program) (fn : Func) (e : TypeId) (rows : List (List AV)) : Ex → St → Prop
  | .exit _, _ => False
  | _, s => match resA P fn s with | some (.os id n) => s.H[id]? = some (.row e false rows) ∧ rows.length = n ∧ (rows.all fun r => r.all fun x => !owns x) = true | _ => False
theorem res_run {s : St} {φ : Nat → Option Nat} {a : Act} {w : World} (hrel : Rel P B w0 X N s φ a w) : ∀ (l : List ResultVar) (xs : List AV), l.mapM (res1 P s) = some xs →
    ∃ vs : List Value, (l.mapM (resSem a.tmps)).run P w = .ok vs w ∧ vs.length = xs.length ∧ ∀ (j : Nat) x v, xs[j]? = some x → vs[j]? = some v → RV P w X φ s.H x v := by
  intro l
  induction l with
  | nil => intro xs h; simp at h; subst h; exact ⟨[], rfl, rfl, by simp⟩
  | cons r l ih =>
    intro xs h
    rw [List.mapM_cons] at h
    cases hx : res1 P s r with
    | none => simp [hx] at h
    | some x =>
      cases hl : l.mapM (res1 P s) with
      | none => simp [hx, hl] at h
      | some ys =>
        simp [hx, hl] at h
        subst h
        obtain ⟨vs, h1, h2, h3⟩ := ih ys hl
        obtain ⟨v, k1, k2⟩ : ∃ v, (resSem a.tmps r).run P w = .ok v w ∧ RV P w X φ s.H x v := by
          cases r with
          | tmp t => simp [res1] at hx; subst hx; exact ⟨_, rfl, hrel.t t⟩
          | cell p t =>
            simp only [res1] at hx
            split at hx
            · rename_i i cs hi hcs
              obtain ⟨b, q1, q2⟩ := rd_sound hrel.hr hcs (hrel.t p)
              obtain ⟨u, q3, q4⟩ := load_sound hi q2 hx
              exact ⟨u, by simp only [resSem, Sem.run_bind, q1, asAddr, Sem.run_pure, Result.andThen_ok, q3], q4⟩
            · simp at hx
        refine ⟨v :: vs, ?_, by simp [h2], fun j y u hj hu => ?_⟩
        · rw [List.mapM_cons]
          simp only [Sem.run_bind, k1, Result.andThen_ok, h1, Sem.run_pure]
        · cases j with
          | zero => simp at hj hu; subst hj hu; exact k2
          | succ j => exact h3 j y u (by simpa using hj) (by simpa using hu)
/-- **A function.** -/
theorem pure_of (hm : P.follows .mixedOrders = true) {f : FuncId} {fn : Func} {c : Code} {args : List AV} {r : AV} (hf : P.funcs[f]? = some fn) (hb : fn.body = some c) (he : entersB P f = true) (hn : args.length ≤ fn.ntmps) (hok : okCode fn.ntmps c = true)
    (h : vc P 0 c ⟨argT 0 args, []⟩ (endQ P fn r)) : Pure P f args r := by
  refine ⟨he, fun w X vs hX hvo hl hv => calls_of_leave hf hb ?_⟩
  have hr0 : HR P w X w (fun _ => none) [] := ⟨hvo, Below.refl _ _, fun b hb => ⟨hX b hb, by simp⟩, fun _ _ h => by simp at h, fun _ _ _ h => by simp at h, fun _ _ _ h => by simp at h⟩
  have hrel : Rel P ⟨w, fun _ => none, [], w.heap.size, Nat.le_refl _, false⟩ w X fn.ntmps ⟨argT 0 args, []⟩ (fun _ => none) { tmps := vs ++ Array.replicate (fn.ntmps - vs.size) undef, defers := [] } w := by
    refine ⟨hr0, Turn.refl _ _ _, fun k => ?_, by simp; omega, Marks.nil⟩
    rw [tget_argT]
    simp only [Nat.zero_le, if_true, Nat.sub_zero]
    by_cases hk : k < args.length
    · have h1 : args.getD k .any = args[k] := by simp [List.getD, hk]
      have h2 : (vs ++ Array.replicate (fn.ntmps - vs.size) undef).getD k undef = vs[k]'(by omega) := by
        rw [Array.getD_eq_getD_getElem?, Array.getElem?_append_left (by omega)]
        simp [show k < vs.size by omega]
      rw [h1, h2]
      refine .ro ((hv k args[k] _ (by simp [hk]) (by simp [show k < vs.size by omega])).mono (Nat.le_refl _) fun b hb _ => ⟨rfl, fun h => h.elim hb fun ⟨_, h⟩ => by simp at h⟩)
    · have : args.getD k .any = .any := by simp [List.getD, List.getElem?_eq_none (Nat.le_of_not_lt hk)]
      rw [this]; exact .ro .any
  refine wp_mono (vc_sound (B := ⟨w, fun _ => none, [], w.heap.size, Nat.le_refl _, false⟩) hm rfl (Nat.le_refl _) c _ _ _ _ w hok h hrel) fun e a w' hq => ?_
  have key : ∀ s φ, endQ P fn r .ret s → Rel P ⟨w, fun _ => none, [], w.heap.size, Nat.le_refl _, false⟩ w X fn.ntmps s φ a w' → LeavesInM Fence.wide 0 P fn a.tmps (fun e w' => ∃ v', e = .returned v' ∧ RO w' X r v' ∧ Below w.heap.size w w') a.defers .returning w' := by
    intro s φ hq hrel
    refine leaves_of (Nat.le_refl _) hrel fun w' hrel => ?_
    simp only [endQ] at hq
    split at hq
    · rename_i x hx
      unfold resA at hx
      cases hl : fn.results.toList.mapM (res1 P s) with
      | none => rw [hl] at hx; simp at hx
      | some xs =>
        rw [hl] at hx
        obtain ⟨us, k1, k2, k3⟩ := res_run hrel _ xs hl
        have hrun : (results fn a.tmps).run P w' = .ok (if h : us.toArray.size = 1 then us.toArray[0] else .tuple us.toArray) w' := by
          rw [results_eq]; simp only [Sem.run_bind, Array.mapM_eq_mapM_toList, Sem.run_map, k1, Result.andThen_ok, Sem.run_pure]
        refine ⟨_, hrun, _, rfl, ?_, hrel.hr.fr⟩
        refine reify_sound hrel.hr 8 x r _ hq ?_
        cases xs with
        | nil =>
          simp at hx
          subst hx
          have : us = [] := List.eq_nil_of_length_eq_zero (by simpa using k2)
          subst this
          exact .tup rfl (by simp)
        | cons x0 xs =>
          cases us with
          | nil => simp at k2
          | cons u0 us =>
            cases xs with
            | nil =>
              simp at hx
              subst hx
              have : us = [] := List.eq_nil_of_length_eq_zero (by simpa using k2)
              subst this
              exact k3 0 x0 u0 (by simp) (by simp)
            | cons x1 xs =>
              simp at hx
              subst hx
              cases us with
              | nil => simp at k2
              | cons u1 us =>
                rw [dif_neg (by simp)]
                exact .tup (by simpa using k2.symm) fun j y v hj hv => k3 j y v hj (by simpa using hv)
    · exact hq.elim
  cases e with
  | normal => obtain ⟨s, φ, h1, h2⟩ := hq; exact key s φ h1 h2
  | ret => obtain ⟨s, φ, h1, h2⟩ := hq; exact key s φ h1 h2
  | exit id => obtain ⟨s, φ, h1, h2⟩ := hq; exact h1.elim
  | _ => exact hq.elim
/-- The same with marked regions. -/
theorem pure_M (ids : List Nat) (hm : P.follows .mixedOrders = true) {f : FuncId} {fn : Func} {c : Code} {args : List AV} {r : AV} (hf : P.funcs[f]? = some fn) (hb : fn.body = some c) (he : entersB P f = true) (hn : args.length ≤ fn.ntmps) (hok : (okM fn.ntmps (mkc ids c) && noScope ids c) = true)
    (h : vc P 0 (mkc ids c) ⟨argT 0 args, []⟩ (endQ P fn r)) : Pure P f args r := by
  refine ⟨he, fun w X vs hX hvo hl hv => calls_of_leave hf hb ?_⟩
  have hr0 : HR P w X w (fun _ => none) [] := ⟨hvo, Below.refl _ _, fun b hb => ⟨hX b hb, by simp⟩, fun _ _ h => by simp at h, fun _ _ _ h => by simp at h, fun _ _ _ h => by simp at h⟩
  have hrel : Rel P ⟨w, fun _ => none, [], w.heap.size, Nat.le_refl _, false⟩ w X fn.ntmps ⟨argT 0 args, []⟩ (fun _ => none) { tmps := vs ++ Array.replicate (fn.ntmps - vs.size) undef, defers := [] } w := by
    refine ⟨hr0, Turn.refl _ _ _, fun k => ?_, by simp; omega, Marks.nil⟩
    rw [tget_argT]
    simp only [Nat.zero_le, if_true, Nat.sub_zero]
    by_cases hk : k < args.length
    · have h1 : args.getD k .any = args[k] := by simp [List.getD, hk]
      have h2 : (vs ++ Array.replicate (fn.ntmps - vs.size) undef).getD k undef = vs[k]'(by omega) := by
        rw [Array.getD_eq_getD_getElem?, Array.getElem?_append_left (by omega)]
        simp [show k < vs.size by omega]
      rw [h1, h2]
      refine .ro ((hv k args[k] _ (by simp [hk]) (by simp [show k < vs.size by omega])).mono (Nat.le_refl _) fun b hb _ => ⟨rfl, fun h => h.elim hb fun ⟨_, h⟩ => by simp at h⟩)
    · have : args.getD k .any = .any := by simp [List.getD, List.getElem?_eq_none (Nat.le_of_not_lt hk)]
      rw [this]; exact .ro .any
  refine wp_mono (vc_soundM (B := ⟨w, fun _ => none, [], w.heap.size, Nat.le_refl _, false⟩) hm rfl (Nat.le_refl _) ids c _ _ _ _ w (by simp only [Bool.and_eq_true] at hok; exact hok.1) (by simp only [Bool.and_eq_true] at hok; exact hok.2) h hrel) fun e a w' hq => ?_
  have key : ∀ s φ, endQ P fn r .ret s → Rel P ⟨w, fun _ => none, [], w.heap.size, Nat.le_refl _, false⟩ w X fn.ntmps s φ a w' → LeavesInM Fence.wide 0 P fn a.tmps (fun e w' => ∃ v', e = .returned v' ∧ RO w' X r v' ∧ Below w.heap.size w w') a.defers .returning w' := by
    intro s φ hq hrel
    refine leaves_of (Nat.le_refl _) hrel fun w' hrel => ?_
    simp only [endQ] at hq
    split at hq
    · rename_i x hx
      unfold resA at hx
      cases hl : fn.results.toList.mapM (res1 P s) with
      | none => rw [hl] at hx; simp at hx
      | some xs =>
        rw [hl] at hx
        obtain ⟨us, k1, k2, k3⟩ := res_run hrel _ xs hl
        have hrun : (results fn a.tmps).run P w' = .ok (if h : us.toArray.size = 1 then us.toArray[0] else .tuple us.toArray) w' := by
          rw [results_eq]; simp only [Sem.run_bind, Array.mapM_eq_mapM_toList, Sem.run_map, k1, Result.andThen_ok, Sem.run_pure]
        refine ⟨_, hrun, _, rfl, ?_, hrel.hr.fr⟩
        refine reify_sound hrel.hr 8 x r _ hq ?_
        cases xs with
        | nil =>
          simp at hx
          subst hx
          have : us = [] := List.eq_nil_of_length_eq_zero (by simpa using k2)
          subst this
          exact .tup rfl (by simp)
        | cons x0 xs =>
          cases us with
          | nil => simp at k2
          | cons u0 us =>
            cases xs with
            | nil =>
              simp at hx
              subst hx
              have : us = [] := List.eq_nil_of_length_eq_zero (by simpa using k2)
              subst this
              exact k3 0 x0 u0 (by simp) (by simp)
            | cons x1 xs =>
              simp at hx
              subst hx
              cases us with
              | nil => simp at k2
              | cons u1 us =>
                rw [dif_neg (by simp)]
                exact .tup (by simpa using k2.symm) fun j y v hj hv => k3 j y v hj (by simpa using hv)
    · exact hq.elim
  cases e with
  | normal => obtain ⟨s, φ, h1, h2⟩ := hq; exact key s φ h1 h2
  | ret => obtain ⟨s, φ, h1, h2⟩ := hq; exact key s φ h1 h2
  | exit id => obtain ⟨s, φ, h1, h2⟩ := hq; exact h1.elim
  | _ => exact hq.elim
/-- **A function that hands back a row of its own making.** -/
theorem fresh_of (hm : P.follows .mixedOrders = true) {f : FuncId} {fn : Func} {c : Code} {args : List AV} {e : TypeId} {rows : List (List AV)} (hf : P.funcs[f]? = some fn) (hb : fn.body = some c) (he : entersB P f = true) (hn : args.length ≤ fn.ntmps) (hok : okCode fn.ntmps c = true)
    (h : vc P 0 c ⟨argT 0 args, []⟩ (endF P fn e rows)) : Fresh P f args e rows := by
  refine ⟨he, fun w X vs hX hvo hl hv => calls_of_leave hf hb ?_⟩
  have hr0 : HR P w X w (fun _ => none) [] := ⟨hvo, Below.refl _ _, fun b hb => ⟨hX b hb, by simp⟩, fun _ _ h => by simp at h, fun _ _ _ h => by simp at h, fun _ _ _ h => by simp at h⟩
  have hrel : Rel P ⟨w, fun _ => none, [], w.heap.size, Nat.le_refl _, false⟩ w X fn.ntmps ⟨argT 0 args, []⟩ (fun _ => none) { tmps := vs ++ Array.replicate (fn.ntmps - vs.size) undef, defers := [] } w := by
    refine ⟨hr0, Turn.refl _ _ _, fun k => ?_, by simp; omega, Marks.nil⟩
    rw [tget_argT]
    simp only [Nat.zero_le, if_true, Nat.sub_zero]
    by_cases hk : k < args.length
    · have h1 : args.getD k .any = args[k] := by simp [List.getD, hk]
      have h2 : (vs ++ Array.replicate (fn.ntmps - vs.size) undef).getD k undef = vs[k]'(by omega) := by
        rw [Array.getD_eq_getD_getElem?, Array.getElem?_append_left (by omega)]
        simp [show k < vs.size by omega]
      rw [h1, h2]
      refine .ro ((hv k args[k] _ (by simp [hk]) (by simp [show k < vs.size by omega])).mono (Nat.le_refl _) fun b hb _ => ⟨rfl, fun h => h.elim hb fun ⟨_, h⟩ => by simp at h⟩)
    · have : args.getD k .any = .any := by simp [List.getD, List.getElem?_eq_none (Nat.le_of_not_lt hk)]
      rw [this]; exact .ro .any
  refine wp_mono (vc_sound (B := ⟨w, fun _ => none, [], w.heap.size, Nat.le_refl _, false⟩) hm rfl (Nat.le_refl _) c _ _ _ _ w hok h hrel) fun en a w' hq => ?_
  have key : ∀ s φ, endF P fn e rows .ret s → Rel P ⟨w, fun _ => none, [], w.heap.size, Nat.le_refl _, false⟩ w X fn.ntmps s φ a w' → LeavesInM Fence.wide 0 P fn a.tmps (fun e' w' => ∃ c cap cur, e' = .returned (.slice (some ⟨c, 0, none⟩) rows.length cap) ∧ w.heap.size ≤ c ∧ w'.heap[c]? = some (.cells cur e (0, 0)) ∧ (∀ row ∈ rows, row.length = P.cellsOf e) ∧ cur.size = cap * P.cellsOf e ∧ rows.length ≤ cap ∧ cap ≤ maxLen ∧
      (∀ (i j : Nat) row x v, rows[i]? = some row → row[j]? = some x → cur[i * P.cellsOf e + j]? = some v → RO w' (fun b => X b ∨ b = c) x v ∧ v.oneCell' = true) ∧ Below w.heap.size w w') a.defers .returning w' := by
    intro s φ hq hrel
    refine leaves_of (Nat.le_refl _) hrel fun w' hrel => ?_
    simp only [endF] at hq
    split at hq
    · rename_i id n hx
      obtain ⟨hbk, hrn, hown⟩ := hq
      unfold resA at hx
      cases hl : fn.results.toList.mapM (res1 P s) with
      | none => rw [hl] at hx; simp at hx
      | some xs =>
        rw [hl] at hx
        obtain ⟨us, k1, k2, k3⟩ := res_run hrel _ xs hl
        have hrun : (results fn a.tmps).run P w' = .ok (if h : us.toArray.size = 1 then us.toArray[0] else .tuple us.toArray) w' := by
          rw [results_eq]; simp only [Sem.run_bind, Array.mapM_eq_mapM_toList, Sem.run_map, k1, Result.andThen_ok, Sem.run_pure]
        cases xs with
        | nil => simp at hx
        | cons x0 xs =>
          cases us with
          | nil => simp at k2
          | cons u0 us =>
            cases xs with
            | cons x1 xs => simp at hx
            | nil =>
              simp at hx
              subst hx
              have : us = [] := List.eq_nil_of_length_eq_zero (by simpa using k2)
              subst this
              have hv := k3 0 (.os id n) u0 (by simp) (by simp)
              cases hv with
              | ro h => cases h
              | os g0 hid hv =>
                rcases (hv e false rows hbk).2 hrn.symm with ⟨h, _⟩ | ⟨c, cap, cur, q1, q2, q3, q4, q5, q6⟩
                · simp at h
                · obtain ⟨cur', p1, p2, p3, p4⟩ := hrel.hr.blk id _ c hbk q1
                  rw [q3] at p1
                  simp at p1
                  subst p1
                  refine ⟨_, hrun, c, cap, cur, by rw [hrn, q2]; rfl, (hrel.hr.own id c q1).1, q3, p2, q4, by omega, q5, fun i j row x v h1 h2 h3 => ⟨?_, (p4 i j row x v h1 h2 h3).2⟩, hrel.hr.fr⟩
                  have ho : owns x = false := by
                    simp only [List.all_eq_true] at hown
                    simpa using hown row (List.mem_of_getElem? h1) x (List.mem_of_getElem? h2)
                  exact ((p4 i j row x v h1 h2 h3).1.ro_of ho).weaken fun b hb => hb.elim (fun hb => .inl hb) fun hb => .inr ⟨id, q1.trans (congrArg some hb.symm)⟩
    · exact hq.elim
  cases en with
  | normal => obtain ⟨s, φ, h1, h2⟩ := hq; exact key s φ h1 h2
  | ret => obtain ⟨s, φ, h1, h2⟩ := hq; exact key s φ h1 h2
  | exit id => obtain ⟨s, φ, h1, h2⟩ := hq; exact h1.elim
  | _ => exact hq.elim
end
end Go.Proofs.YthiclaihlpkinaaGreat
namespace Go.Proofs.YthiclaihlpkinaaGreat
open Go.RowKit
variable [Glob]
/-- What is still to be done. -/
inductive Item where
  | code (c : Code)
  | ops (d : Bool) (all rest : List Oper)
  | blk (id : Nat)
  | ops2 (all : List Oper) (j : Nat) (rest : List Oper)
section
variable (P : Program) (L : Nat)
def runX : List Item → Ex → St → (Ex → St → Prop) → Prop
  | [], e, s, Q => Q e s
  | .code c :: k, e, s, Q => match e with | .normal => vc P L c s fun e' s' => runX k e' s' Q | e => runX k e s Q
  | .ops d all rest :: k, e, s, Q => match e with | .normal => wopsC P d all rest s fun s' => runX k .normal s' Q | e => runX k e s Q
  | .ops2 all j rest :: k, e, s, Q => match e with | .normal => wopsE P all j rest s fun s' => runX k .normal s' Q | e => runX k e s Q
  | .blk id :: k, e, s, Q => match e with | .exit j => if j = id then runX k .normal s Q else runX k (.exit j) s Q | e => runX k e s Q
def run (k : List Item) (s : St) (Q : Ex → St → Prop) : Prop := runX P L k .normal s Q
def exitK (k : List Item) (id : Nat) (s : St) (Q : Ex → St → Prop) : Prop := runX P L k (.exit id) s Q
def condD (v : AV) (a b : Code) (k : List Item) (s : St) (Q : Ex → St → Prop) : Prop := match v with | .bool t => if t = true then run P L (.code a :: k) s Q else run P L (.code b :: k) s Q | _ => False
def callD (f : AV) (args : List AV) (dst : Option Nat) (d : Bool) (all r : List Oper) (k : List Item) (s : St) (Q : Ex → St → Prop) : Prop := callC P d f args dst s fun s' => run P L (.ops d all r :: k) s' Q
/-- What an operation yields: sealed until it is known. -/
def opD (x : Option (AV × Upd)) (dst : Option Nat) (d : Bool) (all r : List Oper) (k : List Item) (s : St) (Q : Ex → St → Prop) : Prop :=
  match x with | some (v, u) => run P L (.ops d all r :: k) ⟨tputD s.T dst v, upd s.H u⟩ Q | none => False
/-- An iterator goes on: sealed. -/
def nxtD (x : AV) (b : Bool) (dst : Option Nat) (d : Bool) (all r : List Oper) (k : List Item) (s : St) (Q : Ex → St → Prop) : Prop := nxC d b s.H x fun v H' => run P L (.ops d all r :: k) ⟨tputD s.T dst v, H'⟩ Q
def bodyD (o : Oper) (d : Bool) (all r : List Oper) (k : List Item) (s : St) (Q : Ex → St → Prop) : Prop :=
  match o.op with
  | .call ⟨.value f, args, _⟩ => callD P L (ev s.T f) (args.toList.map (ev s.T)) o.dst d all r k s Q
  | .load _ a => ldD d (ev s.T a) all (opD P L (eop P o s) o.dst d all r k s Q)
  | .fieldAddr _ a _ => ldD d (ev s.T a) all (opD P L (eop P o s) o.dst d all r k s Q)
  | .nilCheck a => ldD d (ev s.T a) all (opD P L (eop P o s) o.dst d all r k s Q)
  | .indexAddr _ a _ => ldD d (ixv (ev s.T a)) all (opD P L (eop P o s) o.dst d all r k s Q)
  | .next x b => nxtD P L (ev s.T x) b o.dst d all r k s Q
  | _ => opD P L (eop P o s) o.dst d all r k s Q
/-- An operation that hangs on a condition: sealed until the condition is known. -/
def guardD (v : AV) (b : Bool) (o : Oper) (d : Bool) (all r : List Oper) (k : List Item) (s : St) (Q : Ex → St → Prop) : Prop :=
  match v with | .bool c => if c = b then bodyD P L o d all r k s Q else run P L (.ops d all r :: k) ⟨tputD s.T o.dst .und, s.H⟩ Q | .und => run P L (.ops d all r :: k) ⟨tputD s.T o.dst .und, s.H⟩ Q | _ => False
def stepD (o : Oper) (d : Bool) (all r : List Oper) (k : List Item) (s : St) (Q : Ex → St → Prop) : Prop :=
  match o.guard with
  | none => bodyD P L o d all r k s Q
  | some (g, b) => match (all[g]?).bind (·.dst) with
    | some t => guardD P L (tget s.T t) b o d all r k s Q
    | none => False
/-! Regions of the second kind. -/
def call2D (f : AV) (args : List AV) (dst : Option Nat) (all : List Oper) (j : Nat) (r : List Oper) (k : List Item) (s : St) (Q : Ex → St → Prop) : Prop := call2 P all j f args dst s fun s' => run P L (.ops2 all (j + 1) r :: k) s' Q
def op2D (x : Option (AV × Upd)) (dst : Option Nat) (all : List Oper) (j : Nat) (r : List Oper) (k : List Item) (s : St) (Q : Ex → St → Prop) : Prop :=
  match x with | some (v, u) => noboxA all s.H u = true ∧ run P L (.ops2 all (j + 1) r :: k) ⟨tputD s.T dst v, upd s.H u⟩ Q | none => False
def body2D (o : Oper) (all : List Oper) (j : Nat) (r : List Oper) (k : List Item) (s : St) (Q : Ex → St → Prop) : Prop :=
  match o.op with
  | .call ⟨.value f, args, _⟩ => call2D P L (ev s.T f) (args.toList.map (ev s.T)) o.dst all j r k s Q
  | .load _ a => ld2 false s.T (ev s.T a) all j (op2D P L (eop P o s) o.dst all j r k s Q)
  | .fieldAddr _ a _ => ld2 false s.T (ev s.T a) all j (op2D P L (eop P o s) o.dst all j r k s Q)
  | .nilCheck a => ld2 false s.T (ev s.T a) all j (op2D P L (eop P o s) o.dst all j r k s Q)
  | .indexAddr _ a _ => ld2 true s.T (ev s.T a) all j (op2D P L (eop P o s) o.dst all j r k s Q)
  | .call ⟨.builtin .len, args, _⟩ => ld2 true s.T (match args[0]? with | some a => ev s.T a | none => .any) all j (op2D P L (eop P o s) o.dst all j r k s Q)
  | _ => op2D P L (eop P o s) o.dst all j r k s Q
def guard2D (v : AV) (b : Bool) (o : Oper) (all : List Oper) (j : Nat) (r : List Oper) (k : List Item) (s : St) (Q : Ex → St → Prop) : Prop :=
  match v with | .bool c => if c = b then body2D P L o all j r k s Q else run P L (.ops2 all (j + 1) r :: k) ⟨tputD s.T o.dst .und, s.H⟩ Q | .und => run P L (.ops2 all (j + 1) r :: k) ⟨tputD s.T o.dst .und, s.H⟩ Q | _ => False
def step2D (o : Oper) (all : List Oper) (j : Nat) (r : List Oper) (k : List Item) (s : St) (Q : Ex → St → Prop) : Prop :=
  match o.guard with
  | none => body2D P L o all j r k s Q
  | some (g, b) => match (all[g]?).bind (·.dst) with
    | some t => guard2D P L (tget s.T t) b o all j r k s Q
    | none => False
variable {P L} {k : List Item} {s : St} {Q : Ex → St → Prop}
theorem run_nil : run P L [] s Q = Q .normal s := rfl
theorem run_skip : run P L (.code .skip :: k) s Q = run P L k s Q := rfl
theorem run_region {id : Nat} {ops : Array Oper} {d : Bool} : run P L (.code (.region id ops d) :: k) s Q = run P L (.ops d ops.toList ops.toList :: k) s Q := rfl
theorem vc_congr {c : Code} {s : St} {Q Q' : Ex → St → Prop} (h : ∀ e s, Q e s = Q' e s) : vc P L c s Q = vc P L c s Q' := by rw [show Q = Q' from funext fun e => funext fun s => h e s]
theorem run_seq {a b : Code} : run P L (.code (.seq a b) :: k) s Q = run P L (.code a :: .code b :: k) s Q := by
  show vc P L a s _ = vc P L a s _
  exact vc_congr fun e s => by cases e <;> rfl
/-- A range over a function: sealed. -/
def rngD (P : Program) (L : Nat) (g : Operand) (ps : Array Tmp) (assign body : Code) (k : List Item) (s : St) (Q : Ex → St → Prop) : Prop := rangeD P L g ps assign body s fun e s' => runX P L k e s' Q
theorem run_range {g : Operand} {ps : Array Tmp} {assign body : Code} : run P L (.code (.rangeFunc g ps assign body) :: k) s Q = rngD P L g ps assign body k s Q := rfl
theorem run_cond {c : Operand} {a b : Code} : run P L (.code (.cond c a b) :: k) s Q = condD P L (ev s.T c) a b k s Q := rfl
theorem run_block {id : Nat} {c : Code} : run P L (.code (.block id c) :: k) s Q = run P L (.code c :: .blk id :: k) s Q := by
  show vc P L c s _ = vc P L c s _
  exact vc_congr fun e s => by
    cases e with
    | exit j => simp only [runX]
    | _ => rfl
theorem run_blk {id : Nat} : run P L (.blk id :: k) s Q = run P L k s Q := rfl
theorem run_exit {id : Nat} : run P L (.code (.exit id) :: k) s Q = exitK P L k id s Q := rfl
theorem exitK_nil {id : Nat} : exitK P L [] id s Q = Q (.exit id) s := rfl
theorem exitK_code {id : Nat} {c : Code} : exitK P L (.code c :: k) id s Q = exitK P L k id s Q := rfl
theorem exitK_ops {id : Nat} {d : Bool} {a r : List Oper} : exitK P L (.ops d a r :: k) id s Q = exitK P L k id s Q := rfl
theorem exitK_blk {id j : Nat} : exitK P L (.blk j :: k) id s Q = if id = j then run P L k s Q else exitK P L k id s Q := rfl
theorem runX_ret : ∀ (k : List Item), runX P L k .ret s Q = Q .ret s
  | [] => rfl
  | .code c :: k => runX_ret k
  | .ops d a r :: k => runX_ret k
  | .blk i :: k => runX_ret k
  | .ops2 a j r :: k => runX_ret k
theorem run_ret : run P L (.code .ret :: k) s Q = Q .ret s := runX_ret k
theorem run_ops_nil {d : Bool} {all : List Oper} : run P L (.ops d all [] :: k) s Q = run P L k s Q := rfl
theorem run_ops_cons {d : Bool} {all r : List Oper} {o : Oper} : run P L (.ops d all (o :: r) :: k) s Q = stepD P L o d all r k s Q := rfl
theorem exitK_ops2 {id : Nat} {a r : List Oper} {j : Nat} : exitK P L (.ops2 a j r :: k) id s Q = exitK P L k id s Q := rfl
theorem run_scope {id : Nat} {ops : Array Oper} {d : Bool} : run P L (.code (.scope (.region id ops d)) :: k) s Q = run P L (.ops2 ops.toList 0 ops.toList :: k) s Q := rfl
/-- Something may be forgotten before a region: sealed. -/
def weakD (P : Program) (L : Nat) (ops : Array Oper) (k : List Item) (s : St) (Q : Ex → St → Prop) : Prop := ∃ s1, Weak P L s s1 ∧ run P L (.ops2 ops.toList 0 ops.toList :: k) s1 Q
theorem run_scopeW {i id : Nat} {ops : Array Oper} {d : Bool} : run P L (.code (.scope (.block i (.region id ops d))) :: k) s Q = weakD P L ops k s Q := rfl
theorem weakD_intro {ops : Array Oper} {s1 : St} (hw : Weak P L s s1) (h : run P L (.ops2 ops.toList 0 ops.toList :: k) s1 Q) : weakD P L ops k s Q := ⟨s1, hw, h⟩
theorem run_scope3 {i j : Nat} {pre lst : Array Oper} {d1 d2 : Bool} : run P L (.code (.scope (.seq (.region i pre d1) (.region j lst d2))) :: k) s Q = run P L (.ops true pre.toList pre.toList :: .ops false lst.toList lst.toList :: k) s Q := rfl
theorem run_ops2_nil {all : List Oper} {j : Nat} : run P L (.ops2 all j [] :: k) s Q = run P L k s Q := rfl
theorem run_ops2_cons {all r : List Oper} {j : Nat} {o : Oper} : run P L (.ops2 all j (o :: r) :: k) s Q = step2D P L o all j r k s Q := rfl
theorem op2D_some {v : AV} {u : Upd} {dst : Option Nat} {all r : List Oper} {j : Nat} : op2D P L (some (v, u)) dst all j r k s Q = (noboxA all s.H u = true ∧ run P L (.ops2 all (j + 1) r :: k) ⟨tputD s.T dst v, upd s.H u⟩ Q) := rfl
theorem op2D_none {dst : Option Nat} {all r : List Oper} {j : Nat} : op2D P L none dst all j r k s Q = False := rfl
theorem ld2_op {i o : Nat} {T : List (Nat × AV)} {all : List Oper} {j : Nat} {q : Prop} (h : modeB all = false) (hq : q) : ld2 false T (.op i o) all j q := ⟨.inl (by simp [softOk, h, notEp]), hq⟩
theorem nbx_intro {all : List Oper} {q : Prop} (h : modeB all = true) (hq : q) : modeB all = true ∧ q := ⟨h, hq⟩
theorem ld2_rp {ix : Bool} {T : List (Nat × AV)} {row : List AV} {all : List Oper} {j : Nat} {q : Prop} : ld2 ix T (.rp row) all j q = q := by simp [ld2, softOk, isRp]
theorem ld2_rs {ix : Bool} {T : List (Nat × AV)} {rows : List (List AV)} {all : List Oper} {j : Nat} {q : Prop} : ld2 ix T (.rs rows) all j q = q := by simp [ld2, softOk, isRp]
theorem nbx_fin {all : List Oper} (h : modeB all = true) : modeB all = true := h
theorem ld2_ep {ix : Bool} {T : List (Nat × AV)} {x : AV} {all : List Oper} {j : Nat} {q : Prop} (h : hardAt all j = true) (hq : q) : ld2 ix T x all j q := ⟨.inr (by simp [hardX, h]), hq⟩
theorem guard2D_t {o : Oper} {all r : List Oper} {j : Nat} : guard2D P L (.bool true) true o all j r k s Q = body2D P L o all j r k s Q := by simp [guard2D]
theorem guard2D_f {o : Oper} {all r : List Oper} {j : Nat} : guard2D P L (.bool false) false o all j r k s Q = body2D P L o all j r k s Q := by simp [guard2D]
theorem guard2D_tf {o : Oper} {all r : List Oper} {j : Nat} : guard2D P L (.bool true) false o all j r k s Q = run P L (.ops2 all (j + 1) r :: k) ⟨tputD s.T o.dst .und, s.H⟩ Q := by simp [guard2D]
theorem guard2D_ft {o : Oper} {all r : List Oper} {j : Nat} : guard2D P L (.bool false) true o all j r k s Q = run P L (.ops2 all (j + 1) r :: k) ⟨tputD s.T o.dst .und, s.H⟩ Q := by simp [guard2D]
theorem guard2D_u {o : Oper} {all r : List Oper} {j : Nat} {b : Bool} : guard2D P L .und b o all j r k s Q = run P L (.ops2 all (j + 1) r :: k) ⟨tputD s.T o.dst .und, s.H⟩ Q := by simp [guard2D]
/-- A call there that hands back no memory of the call's own. -/
theorem call2_intro {g : Nat} {caps args ys : List AV} {r : AV} {dst : Option Nat} {all rest : List Oper} {j : Nat} (h : Pure P g ys r) (h1 : (args ++ caps).mapM (reify s.H 8) = some ys) (h2 : flat r = true ∨ (ys = args ++ caps ∧ ownsL (args ++ caps) = false))
    (h3 : run P L (.ops2 all (j + 1) rest :: k) ⟨tputD s.T dst r, s.H⟩ Q) : call2D P L (.fn g caps) args dst all j rest k s Q := ⟨g, caps, rfl, .inl ⟨r, .no, pure_callE h h1 h2, h3⟩⟩
/-- A call there that turns a row. -/
theorem call2_row {g : Nat} {caps args : List AV} {r : AV} {dst : Option Nat} {all rest : List Oper} {j id : Nat} {b : Blk} (hl : lastNew all j = true) (hid : id < s.H.length) (hb1 : isBox b = false) (hb2 : isBoxO s.H[id]? = false) (h : CallG P g (args ++ caps) s.H fun r' H' => r' = r ∧ H' = s.H.set id b)
    (h3 : run P L (.ops2 all (j + 1) rest :: k) ⟨tputD s.T dst r, s.H.set id b⟩ Q) : call2D P L (.fn g caps) args dst all j rest k s Q := ⟨g, caps, rfl, .inr ⟨hl, r, id, b, hid, hb1, hb2, h, h3⟩⟩
theorem condD_t {a b : Code} : condD P L (.bool true) a b k s Q = run P L (.code a :: k) s Q := by simp [condD]
theorem condD_f {a b : Code} : condD P L (.bool false) a b k s Q = run P L (.code b :: k) s Q := by simp [condD]
theorem condD_n {t : Bool} {a b : Code} : condD P L (.bool (!t)) a b k s Q = condD P L (.bool t) b a k s Q := by cases t <;> simp [condD]
theorem condD_intro {t : Bool} {a b : Code} (h1 : t = true → run P L (.code a :: k) s Q) (h2 : t = false → run P L (.code b :: k) s Q) : condD P L (.bool t) a b k s Q := by
  cases t
  · rw [condD_f]; exact h2 rfl
  · rw [condD_t]; exact h1 rfl
theorem condD_dec {p : Prop} [Decidable p] {a b : Code} (h1 : p → run P L (.code a :: k) s Q) (h2 : ¬ p → run P L (.code b :: k) s Q) : condD P L (.bool (decide p)) a b k s Q :=
  condD_intro (fun h => h1 (of_decide_eq_true h)) fun h => h2 (of_decide_eq_false h)
section
variable {o : Oper} {d : Bool} {all r : List Oper} {b : Bool}
theorem guardD_dec {p : Prop} [Decidable p] (h1 : p → guardD P L (.bool true) b o d all r k s Q) (h2 : ¬ p → guardD P L (.bool false) b o d all r k s Q) : guardD P L (.bool (decide p)) b o d all r k s Q := by
  by_cases h : p
  · rw [decide_eq_true h]; exact h1 h
  · rw [decide_eq_false h]; exact h2 h
theorem ldD_f {x : AV} {q : Prop} : ldD false x all q = q := by simp [ldD]
theorem ldD_op {i j : Nat} {q : Prop} : ldD d (.op i j) all q = q := by simp [ldD, notEp]
theorem ldD_rp {row : List AV} {q : Prop} : ldD d (.rp row) all q = q := by simp [ldD, notEp]
theorem ldD_rs {rows : List (List AV)} {q : Prop} : ldD d (.rs rows) all q = q := by simp [ldD, notEp]
theorem ldD_ep {x : AV} {q : Prop} (h : strictB all = true) (hq : q) : ldD d x all q := ⟨fun _ => .inr h, hq⟩
theorem opD_some {v : AV} {u : Upd} {dst : Option Nat} : opD P L (some (v, u)) dst d all r k s Q = run P L (.ops d all r :: k) ⟨tputD s.T dst v, upd s.H u⟩ Q := rfl
theorem opD_none {dst : Option Nat} : opD P L none dst d all r k s Q = False := rfl
theorem guardD_t : guardD P L (.bool true) true o d all r k s Q = bodyD P L o d all r k s Q := by simp [guardD]
theorem guardD_f : guardD P L (.bool false) false o d all r k s Q = bodyD P L o d all r k s Q := by simp [guardD]
theorem guardD_tf : guardD P L (.bool true) false o d all r k s Q = run P L (.ops d all r :: k) ⟨tputD s.T o.dst .und, s.H⟩ Q := by simp [guardD]
theorem guardD_ft : guardD P L (.bool false) true o d all r k s Q = run P L (.ops d all r :: k) ⟨tputD s.T o.dst .und, s.H⟩ Q := by simp [guardD]
theorem guardD_nt {t : Bool} : guardD P L (.bool (!t)) true o d all r k s Q = guardD P L (.bool t) false o d all r k s Q := by cases t <;> rfl
theorem guardD_nf {t : Bool} : guardD P L (.bool (!t)) false o d all r k s Q = guardD P L (.bool t) true o d all r k s Q := by cases t <;> rfl
theorem guardD_u : guardD P L .und b o d all r k s Q = run P L (.ops d all r :: k) ⟨tputD s.T o.dst .und, s.H⟩ Q := by simp [guardD]
theorem guardD_intro {t : Bool} (h1 : t = true → guardD P L (.bool true) b o d all r k s Q) (h2 : t = false → guardD P L (.bool false) b o d all r k s Q) : guardD P L (.bool t) b o d all r k s Q := by
  cases t
  · exact h2 rfl
  · exact h1 rfl
end
/-- An iterator over a nil map is at its end. -/
theorem nxt_nil {id n : Nat} {seen : List Nat} {dst : Option Nat} {all r : List Oper} (hb : s.H[id]? = some (.iter none n seen)) (h : run P L (.ops false all r :: k) ⟨tputD s.T dst (.tup [.bool false]), s.H⟩ Q) : nxtD P L (.it id) false dst false all r k s Q := by
  refine ⟨rfl, rfl, ?_⟩
  simp only [nextD, hb]; exact h
/-- An iterator goes on, to any entry that was not seen, or to its end. -/
theorem nxt_map {id mid n : Nat} {seen : List Nat} {es : List (AV × AV)} {dst : Option Nat} {all r : List Oper} (hb : s.H[id]? = some (.iter (some mid) n seen)) (hm : s.H[mid]? = some (.map es)) (hn : es.length = n)
    (h1 : ∀ i key y, i ∉ seen → es[i]? = some (key, y) → run P L (.ops false all r :: k) ⟨tputD s.T dst (.tup [.bool true, key, y]), s.H.set id (.iter (some mid) n (seen ++ [i]))⟩ Q)
    (h2 : (∀ i, i < n → i ∈ seen) → run P L (.ops false all r :: k) ⟨tputD s.T dst (.tup [.bool false]), s.H⟩ Q) : nxtD P L (.it id) false dst false all r k s Q := by
  refine ⟨rfl, rfl, ?_⟩
  simp only [nextD, hb, hm]; exact ⟨hn, h1, h2⟩
/-- The start. -/
theorem vc_run {c : Code} (h : run P L [.code c] s Q) : vc P L c s Q := by
  have : run P L [.code c] s Q = vc P L c s Q := vc_congr fun e s => rfl
  rw [← this]; exact h
/-- A call of a function that is known. -/
theorem call_intro {g : Nat} {caps args ys : List AV} {r : AV} {dst : Option Nat} {d : Bool} {all rest : List Oper} (h : Pure P g ys r) (h1 : (args ++ caps).mapM (reify s.H 8) = some ys) (h2 : flat r = true ∨ (ys = args ++ caps ∧ ownsL (args ++ caps) = false))
    (h3 : run P L (.ops d all rest :: k) ⟨tputD s.T dst r, s.H⟩ Q) : callD P L (.fn g caps) args dst d all rest k s Q := Or.inl ⟨g, caps, rfl, .inl ⟨r, .no, pure_callE h h1 h2, h3⟩⟩
/-- A call, its arguments read as ys. -/
def callS (P : Program) (L : Nat) (g : Nat) (ys : Option (List AV)) (as : List AV) (dst : Option Nat) (d : Bool) (all rest : List Oper) (k : List Item) (s : St) (Q : Ex → St → Prop) : Prop :=
  ∃ zs r, ys = some zs ∧ Pure P g zs r ∧ (flat r = true ∨ (zs = as ∧ ownsL as = false)) ∧ run P L (.ops d all rest :: k) ⟨tputD s.T dst r, s.H⟩ Q
theorem callS_mk {g : Nat} {caps args : List AV} {dst : Option Nat} {d : Bool} {all rest : List Oper} (h : callS P L g ((args ++ caps).mapM (reify s.H 8)) (args ++ caps) dst d all rest k s Q) : callD P L (.fn g caps) args dst d all rest k s Q := by
  obtain ⟨zs, r, h1, h2, h3, h4⟩ := h
  exact call_intro h2 h1 h3 h4
theorem callS_intro {g : Nat} {zs as : List AV} {r : AV} {dst : Option Nat} {d : Bool} {all rest : List Oper} (h : Pure P g zs r) (h2 : flat r = true ∨ (zs = as ∧ ownsL as = false)) (h3 : run P L (.ops d all rest :: k) ⟨tputD s.T dst r, s.H⟩ Q) : callS P L g (some zs) as dst d all rest k s Q := ⟨zs, r, rfl, h, h2, h3⟩
theorem call_a {g : Nat} {caps args ys : List AV} {r : AV} {dst : Option Nat} {d : Bool} {all rest : List Oper} (h1 : (args ++ caps).mapM (reify s.H 8) = some ys) (h : Pure P g ys r) (h2 : flat r = true ∨ (ys = args ++ caps ∧ ownsL (args ++ caps) = false))
    (h3 : run P L (.ops d all rest :: k) ⟨tputD s.T dst r, s.H⟩ Q) : callD P L (.fn g caps) args dst d all rest k s Q := call_intro h h1 h2 h3
/-- A call of a function that hands back a row of its own making. -/
theorem fresh_intro {g : Nat} {caps args ys : List AV} {e : TypeId} {rows : List (List AV)} {dst : Option Nat} {d : Bool} {all rest : List Oper} (h : Fresh P g ys e rows) (h1 : (args ++ caps).mapM (reify s.H 8) = some ys) (h2 : (rows.all fun r => r.all flat) = true ∨ (ys = args ++ caps ∧ ownsL (args ++ caps) = false))
    (h3 : run P L (.ops d all rest :: k) ⟨tputD s.T dst (.os s.H.length rows.length), s.H ++ [.row e false rows]⟩ Q) : callD P L (.fn g caps) args dst d all rest k s Q := Or.inl ⟨g, caps, rfl, .inl ⟨_, _, fresh_callE h h1 h2, h3⟩⟩
/-- A call of which more is known. -/
theorem callG_intro {g : Nat} {caps args : List AV} {dst : Option Nat} {all rest : List Oper} (h : CallG P g (args ++ caps) s.H fun r H' => run P L (.ops false all rest :: k) ⟨tputD s.T dst r, H'⟩ Q) : callD P L (.fn g caps) args dst false all rest k s Q := Or.inl ⟨g, caps, rfl, .inr ⟨rfl, h⟩⟩
/-- A call of a function with bound arguments. -/
theorem callB_intro {g : Nat} {fst args ys : List AV} {r : AV} {dst : Option Nat} {all rest : List Oper} (h1 : (fst ++ args).mapM (reify s.H 8) = some ys) (h : Pure P g ys r) (h2 : flat r = true ∨ (ys = fst ++ args ∧ ownsL (fst ++ args) = false))
    (h3 : run P L (.ops false all rest :: k) ⟨tputD s.T dst r, s.H⟩ Q) : callD P L (.fb g fst) args dst false all rest k s Q := Or.inr ⟨rfl, g, fst, rfl, callE_G (pure_callE h h1 h2) h3⟩
/-- What is to be shown at the end of a loop's round: sealed, so that what comes behind the loop is not walked within it. -/
def loopQ (P : Program) (L : Nat) (k : List Item) (Q : Ex → St → Prop) {σ : Type} (st : σ → St) (Inv : σ → Prop) (μ : σ → Nat) (x : σ) : Ex → St → Prop
  | .normal, s2 => ∃ y, Inv y ∧ μ y < μ x ∧ Weak P L s2 (st y)
  | .exit j, s2 => exitK P L k j s2 Q
  | .ret, s2 => Q .ret s2
theorem loopQ_n {σ : Type} {st : σ → St} {Inv : σ → Prop} {μ : σ → Nat} {x : σ} {s2 : St} : loopQ P L k Q st Inv μ x .normal s2 = ∃ y, Inv y ∧ μ y < μ x ∧ Weak P L s2 (st y) := rfl
theorem loopQ_e {σ : Type} {st : σ → St} {Inv : σ → Prop} {μ : σ → Nat} {x : σ} {s2 : St} {j : Nat} : loopQ P L k Q st Inv μ x (.exit j) s2 = exitK P L k j s2 Q := rfl
theorem loopQ_r {σ : Type} {st : σ → St} {Inv : σ → Prop} {μ : σ → Nat} {x : σ} {s2 : St} : loopQ P L k Q st Inv μ x .ret s2 = Q .ret s2 := rfl
theorem loop_next {σ : Type} {st : σ → St} {Inv : σ → Prop} {μ : σ → Nat} {x : σ} {s2 : St} (y : σ) (h1 : Inv y) (h2 : μ y < μ x) (h3 : Weak P L s2 (st y)) : loopQ P L k Q st Inv μ x .normal s2 := ⟨y, h1, h2, h3⟩
/-- A loop: 'st x' is the state at its head. -/
theorem loop_intro {σ : Type} (st : σ → St) (Inv : σ → Prop) (μ : σ → Nat) {c : Code} (x0 : σ) (h0 : Inv x0) (hw : Weak P L s (st x0))
    (h : ∀ x, Inv x → run P L [.code c] (st x) (loopQ P L k Q st Inv μ x)) : run P L (.code (.loop c) :: k) s Q := by
  show vc P L (.loop c) s _
  refine ⟨fun n s => ∃ x, Inv x ∧ μ x = n ∧ s = st x, ⟨μ x0, st x0, hw, x0, h0, rfl, rfl⟩, ?_⟩
  rintro n s1 ⟨x, hx, rfl, rfl⟩
  have := h x hx
  have e : run P L [.code c] (st x) (loopQ P L k Q st Inv μ x) =
      vc P L c (st x) fun e s2 => match e with | .normal => ∃ m, m < μ x ∧ ∃ s3, Weak P L s2 s3 ∧ (∃ y, Inv y ∧ μ y = m ∧ s3 = st y) | e => runX P L k e s2 Q := by
    show vc P L c (st x) _ = _
    refine vc_congr fun e s2 => ?_
    cases e with
    | normal =>
      refine propext ⟨fun ⟨y, h1, h2, h3⟩ => ⟨μ y, h2, st y, h3, y, h1, rfl, rfl⟩, fun ⟨m, h2, s3, h3, y, h1, h4, h5⟩ => ⟨y, h1, by omega, by rw [← h5]; exact h3⟩⟩
    | exit j => rfl
    | ret =>
      show Q .ret s2 = runX P L k .ret s2 Q
      exact (runX_ret (Q := Q) k).symm
  exact Eq.mp e this
/-- What comes behind a call, sealed. -/
def contK (P : Program) (L : Nat) (d : Bool) (all rest : List Oper) (k : List Item) (T : List (Nat × AV)) (dst : Option Nat) (Q : Ex → St → Prop) (r : AV) (H' : List Blk) : Prop := run P L (.ops d all rest :: k) ⟨tputD T dst r, H'⟩ Q
end
end Go.Proofs.YthiclaihlpkinaaGreat
namespace Go.Proofs.YthiclaihlpkinaaGreat
open Go.RowKit
variable [Glob]
mutual
/-- All of the call's own memory that a value holds has a number below m. -/
def refs (m : Nat) : AV → Bool
  | .op id _ => decide (id < m)
  | .ep id _ _ _ => decide (id < m)
  | .os id _ => decide (id < m)
  | .ow id _ _ _ => decide (id < m)
  | .mp id => decide (id < m)
  | .ent id _ => decide (id < m)
  | .it id => decide (id < m)
  | .agg l => refsL m l
  | .tup l => refsL m l
  | .fn _ l => refsL m l
  | _ => true
def refsL (m : Nat) : List AV → Bool
  | [] => true
  | x :: r => refs m x && refsL m r
end
/-- x' says less than x: nothing; the same; or a nil slice that may be appended to. -/
def cv (m n : Nat) (x x' : AV) : Prop := x' = .any ∨ (x' = x ∧ refs m x = true) ∨ (x = .nils ∧ ∃ i, i < n ∧ x' = .os (m + i) 0) ∨ (x = .nils ∧ x' = .rs []) ∨ (∃ id k, x = .ow id k 0 k ∧ x' = .os id k ∧ 0 < k ∧ id < m)
def cvL (m n : Nat) : List AV → List AV → Prop
  | [], [] => True
  | x :: l, x' :: l' => cv m n x x' ∧ cvL m n l l'
  | _, _ => False
def cvT (m n : Nat) (T : List (Nat × AV)) : List (Nat × AV) → Prop
  | [] => True
  | (k, x') :: r => cv m n (tget T k) x' ∧ cvT m n T r
def refsR (m : Nat) (rows : List (List AV)) : Bool := rows.all fun r => r.all (refs m)
def refsM (m : Nat) (es : List (AV × AV)) : Bool := es.all fun e => refs m e.1 && refs m e.2
def cvB (m n : Nat) : Blk → Blk → Prop
  | .box t cs, .box t' cs' => t' = t ∧ cvL m n cs cs'
  | .row e nb rows, .row e' nb' rows' => e' = e ∧ nb' = nb ∧ rows' = rows ∧ refsR m rows = true
  | .map es, .map es' => es' = es ∧ refsM m es = true
  | .iter d k s, .iter d' k' s' => d' = d ∧ k' = k ∧ s' = s ∧ ∀ i, d = some i → i < m
  | _, .gone => True
  | _, _ => False
def isNb : Blk → Prop
  | .row _ nb rows => nb = true ∧ rows = []
  | _ => False
def cvH (m n : Nat) : List Blk → List Blk → Prop
  | _, [] => True
  | b :: H, b' :: H' => cvB m n b b' ∧ cvH m n H H'
  | [], b' :: H' => isNb b' ∧ cvH m n [] H'
section
variable {P : Program}
theorem refsL_get {m : Nat} {l : List AV} (h : refsL m l = true) : ∀ (j : Nat) x, l[j]? = some x → refs m x = true := by
  induction l with
  | nil => intro j x h; simp at h
  | cons y l ih =>
    intro j x hj
    simp only [refsL, Bool.and_eq_true] at h
    cases j with
    | zero => simp at hj; rw [← hj]; exact h.1
    | succ j => exact ih h.2 j x (by simpa using hj)
theorem cvL_get {m n : Nat} : ∀ {l l' : List AV}, cvL m n l l' → l.length = l'.length ∧ ∀ (j : Nat) x', l'[j]? = some x' → ∃ x, l[j]? = some x ∧ cv m n x x' := by
  intro l
  induction l with
  | nil => intro l' h; cases l' with | nil => exact ⟨rfl, by simp⟩ | cons => exact h.elim
  | cons y l ih =>
    intro l' h
    cases l' with
    | nil => exact h.elim
    | cons y' l' =>
      obtain ⟨h1, h2⟩ := h
      obtain ⟨k1, k2⟩ := ih h2
      refine ⟨by simp [k1], fun j x' hj => ?_⟩
      cases j with
      | zero => simp at hj; subst hj; exact ⟨y, by simp, h1⟩
      | succ j => simpa using k2 j x' (by simpa using hj)
theorem cvT_get {m n : Nat} {T : List (Nat × AV)} : ∀ {T' : List (Nat × AV)}, cvT m n T T' → ∀ k, cv m n (tget T k) (tget T' k) := by
  intro T'
  induction T' with
  | nil => intro _ k; exact .inl rfl
  | cons p T' ih =>
    intro h k
    obtain ⟨j, x'⟩ := p
    obtain ⟨h1, h2⟩ := h
    simp only [tget]
    split
    · rename_i e; subst e; exact h1
    · exact ih h2 k
theorem cvH_get {m n : Nat} : ∀ {H H' : List Blk}, cvH m n H H' → ∀ (i : Nat) b', H'[i]? = some b' → (∃ b, H[i]? = some b ∧ cvB m n b b') ∨ (H.length ≤ i ∧ isNb b') := by
  intro H
  induction H with
  | nil =>
    intro H'
    induction H' with
    | nil => intro _ i b' h; simp at h
    | cons c H' ih =>
      intro h i b' hi
      obtain ⟨h1, h2⟩ := h
      cases i with
      | zero => simp at hi; subst hi; exact .inr ⟨by simp, h1⟩
      | succ i => rcases ih h2 i b' (by simpa using hi) with ⟨b, h3, _⟩ | ⟨_, h3⟩
                  · simp at h3
                  · exact .inr ⟨by simp, h3⟩
  | cons c H ih =>
    intro H' h i b' hi
    cases H' with
    | nil => simp at hi
    | cons c' H' =>
      obtain ⟨h1, h2⟩ := h
      cases i with
      | zero => simp at hi; subst hi; exact .inl ⟨c, by simp, h1⟩
      | succ i =>
        rcases ih h2 i b' (by simpa using hi) with ⟨b, h3, h4⟩ | ⟨h3, h4⟩
        · exact .inl ⟨b, by simpa using h3, h4⟩
        · exact .inr ⟨by simp; omega, h4⟩
def cutφ (φ : Nat → Option Nat) (m : Nat) : Nat → Option Nat := fun i => if i < m then φ i else none
theorem RV.cut {w : World} {X : Nat → Prop} {φ : Nat → Option Nat} {H H' : List Blk} {m n : Nat} (hm : m = min H.length H'.length) (hH : cvH m n H H') {x : AV} {v : Value} (h : RV P w X φ H x v) (hr : refs m x = true) : RV P w X (cutφ φ m) H' x v := by
  have hsame : ∀ (i : Nat) b', i < m → H'[i]? = some b' → ∃ b, H[i]? = some b ∧ cvB m n b b' := fun i b' hi hb => by
    rcases cvH_get hH i b' hb with h | ⟨h, _⟩
    · exact h
    · omega
  have hφ : ∀ (i : Nat), i < m → cutφ φ m i = φ i := fun i hi => by simp [cutφ, hi]
  induction h with
  | ro h => exact .ro (h.weaken fun b hb => hb.imp id fun ⟨id, hid⟩ => ⟨id, by unfold cutφ at hid; split at hid <;> simp_all⟩)
  | @op id o v h0 hid h =>
    simp [refs] at hr
    refine .op h0 (by omega) fun t cs' hb' => ?_
    obtain ⟨b, h1, h2⟩ := hsame id _ hr hb'
    cases b with
    | box t' cs => obtain ⟨rfl, _⟩ := h2; rw [hφ id hr]; exact h _ cs h1
    | _ => exact h2.elim
  | @ep id n' i o v h0 hid h =>
    simp [refs] at hr
    refine .ep h0 (by omega) fun e nb rows hb' => ?_
    obtain ⟨b, h1, h2⟩ := hsame id _ hr hb'
    cases b with
    | row e' nb' rows' => obtain ⟨rfl, rfl, rfl, _⟩ := h2; rw [hφ id hr]; exact h _ _ _ h1
    | _ => exact h2.elim
  | @os id n' v h0 hid h =>
    simp [refs] at hr
    refine .os h0 (by omega) fun e nb rows hb' => ?_
    obtain ⟨b, h1, h2⟩ := hsame id _ hr hb'
    cases b with
    | row e' nb' rows' => obtain ⟨rfl, rfl, rfl, _⟩ := h2; rw [hφ id hr]; exact h _ _ _ h1
    | _ => exact h2.elim
  | @ow id n' lo hi v h0 hid h =>
    simp [refs] at hr
    refine .ow h0 (by omega) fun e nb rows hb' => ?_
    obtain ⟨b, h1, h2⟩ := hsame id _ hr hb'
    cases b with
    | row e' nb' rows' => obtain ⟨rfl, rfl, rfl, _⟩ := h2; rw [hφ id hr]; exact h _ _ _ h1
    | _ => exact h2.elim
  | @mp id v h0 hid h =>
    simp [refs] at hr
    refine .mp h0 (by omega) fun es hb' => ?_
    obtain ⟨b, h1, h2⟩ := hsame id _ hr hb'
    cases b with
    | map es' => obtain ⟨rfl, _⟩ := h2; rw [hφ id hr]; exact h _ h1
    | _ => exact h2.elim
  | @ent id i v h0 hid h =>
    simp [refs] at hr
    refine .ent h0 (by omega) fun es hb' => ?_
    obtain ⟨b, h1, h2⟩ := hsame id _ hr hb'
    cases b with
    | map es' => obtain ⟨rfl, _⟩ := h2; rw [hφ id hr]; exact h _ h1
    | _ => exact h2.elim
  | @it id v h0 hid h =>
    simp [refs] at hr
    refine .it h0 (by omega) fun d k s hb' => ?_
    obtain ⟨b, h1, h2⟩ := hsame id _ hr hb'
    cases b with
    | iter d' k' s' => obtain ⟨rfl, rfl, rfl, _⟩ := h2; rw [hφ id hr]; exact h _ _ _ h1
    | _ => exact h2.elim
  | agg hl h1 _ ih => simp only [refs] at hr; exact .agg hl h1 fun j x v h2 h3 => ih j x v h2 h3 (refsL_get hr j x h2)
  | tup hl _ ih => simp only [refs] at hr; exact .tup hl fun j x v h2 h3 => ih j x v h2 h3 (refsL_get hr j x h2)
  | fn hl _ ih => simp only [refs] at hr; exact .fn hl fun j x v h2 h3 => ih j x v h2 h3 (refsL_get hr j x h2)
theorem RV.cv {w : World} {X : Nat → Prop} {φ : Nat → Option Nat} {H H' : List Blk} {m n : Nat} (hm : m = min H.length H'.length) (hn : n = H'.length - m) (hH : cvH m n H H') {x x' : AV} {v : Value} (h : RV P w X φ H x v) (hc : cv m n x x') : RV P w X (cutφ φ m) H' x' v := by
  rcases hc with rfl | ⟨rfl, hr⟩ | ⟨rfl, i, hi, rfl⟩ | ⟨rfl, rfl⟩ | ⟨id, k, rfl, rfl, hk, hid⟩
  · exact .ro .any
  · exact h.cut hm hH hr
  · obtain ⟨A, rfl⟩ : ∃ A, v = .slice A 0 0 := ⟨none, h.nils_inv⟩
    refine .os rfl (by omega) fun e nb rows hb => ?_
    rcases cvH_get hH _ _ hb with ⟨b, h1, _⟩ | ⟨h1, h2⟩
    · have := (List.getElem?_eq_some_iff.1 h1).1; omega
    · obtain ⟨rfl, rfl⟩ := h2
      exact ⟨by simp, fun _ => .inl ⟨rfl, by unfold cutφ; rw [if_neg (by omega)], ⟨A, rfl⟩, rfl⟩⟩
  · obtain ⟨A, rfl⟩ : ∃ A, v = .slice A 0 0 := ⟨none, h.nils_inv⟩
    exact .ro (.rs 0 (fun _ _ => undef) rfl (Nat.le_refl _) (by simp) (by simp))
  · have h' := h.cut hm hH (by simp [refs, hid])
    cases h' with
    | ro h => cases h
    | ow g0 hid' hv =>
      refine .os g0 hid' fun e nb rows hb => ?_
      obtain ⟨h1, h2⟩ := hv e nb rows hb
      refine ⟨h1, fun hn => .inr ?_⟩
      obtain ⟨A, c, cap, cur, h4, rfl, hA, h5, h6, h7, h8, h9, h10⟩ := h2 hn
      rw [hA (by omega)]
      exact ⟨c, cap, cur, h4, by simp, h5, h6, h7, h8⟩
/-- What is to be shown so that a state says less than another one. -/
theorem weak_ofL {L : Nat} {s s' : St} (m n : Nat) (hm : m = min s.H.length s'.H.length) (hL : min L s.H.length ≤ m) (hn : n = s'.H.length - m) (hT : cvT m n s.T s'.T) (hH : cvH m n s.H s'.H) : Weak P L s s' := by
  intro B w0 X N φ a w hB hrel
  have hlt : ∀ i c, cutφ φ m i = some c → i < m ∧ φ i = some c := fun i c h => by
    unfold cutφ at h
    split at h
    · exact ⟨by assumption, h⟩
    · simp at h
  have hBm : B.H.length ≤ m := by have := hrel.tn.len; omega
  have hcut : ∀ i, i < B.H.length → cutφ φ m i = φ i := fun i hi => by simp [cutφ, show i < m by omega]
  refine ⟨cutφ φ m, ⟨hrel.hr.vo, hrel.hr.fr, fun b hb => ⟨(hrel.hr.ext b hb).1, fun i hi => (hrel.hr.ext b hb).2 i (hlt i b hi).2⟩, fun i c hc => ?_, fun i j c hi hj => hrel.hr.inj i j c (hlt i c hi).2 (hlt j c hj).2, fun i b' c hi hc => ?_⟩, ⟨hrel.tn.size, by omega, fun b hb hl => ?_, fun i t cs' hi hb' => ?_, fun i e nb rows' hi hb' => ?_, fun i es' hi hb' => ?_, fun i d k s' hi hb' => ?_⟩, fun k => (hrel.t k).cv hm hn hH (cvT_get hT k), hrel.size, hrel.df.sub fun i b hi => ⟨i, (hlt i b hi).2⟩⟩
  · obtain ⟨h1, h2⟩ := hlt i c hc
    exact ⟨(hrel.hr.own i c h2).1, (hrel.hr.own i c h2).2.1, by omega⟩
  · obtain ⟨h1, h2⟩ := hlt i c hc
    rcases cvH_get hH i b' hi with ⟨b, h3, h4⟩ | ⟨h3, _⟩
    · have hok := hrel.hr.blk i b c h3 h2
      cases b' with
      | gone => trivial
      | box t' cs' =>
        cases b with
        | box t cs =>
          obtain ⟨rfl, hcs⟩ := h4
          obtain ⟨k1, k2⟩ := cvL_get hcs
          obtain ⟨cur, q1, q2, q3⟩ := hok
          refine ⟨cur, q1, by omega, fun j x' v hx' hv => ?_⟩
          obtain ⟨x, r1, r2⟩ := k2 j x' hx'
          exact ⟨(q3 j x v r1 hv).1.cv hm hn hH r2, (q3 j x v r1 hv).2⟩
        | _ => exact h4.elim
      | row e' nb' rows' =>
        cases b with
        | row e nb rows =>
          obtain ⟨rfl, rfl, rfl, hr⟩ := h4
          obtain ⟨cur, q1, q2, q3, q4⟩ := hok
          refine ⟨cur, q1, q2, q3, fun i' j row x v h5 h6 h7 => ⟨(q4 i' j row x v h5 h6 h7).1.cut hm hH ?_, (q4 i' j row x v h5 h6 h7).2⟩⟩
          simp only [refsR, List.all_eq_true] at hr
          exact hr row (List.mem_of_getElem? h5) x (List.mem_of_getElem? h6)
        | _ => exact h4.elim
      | map es' =>
        cases b with
        | map es =>
          obtain ⟨rfl, hr⟩ := h4
          obtain ⟨ents, clock, q1, q2, q3, q4, q5⟩ := hok
          refine ⟨ents, clock, q1, q2, q3, q4, fun i' k x ent h5 h6 => ?_⟩
          simp only [refsM, List.all_eq_true, Bool.and_eq_true] at hr
          have := hr (k, x) (List.mem_of_getElem? h5)
          exact ⟨(q5 i' k x ent h5 h6).1.cut hm hH this.1, (q5 i' k x ent h5 h6).2.cut hm hH this.2⟩
        | _ => exact h4.elim
      | iter d' k' s' =>
        cases b with
        | iter d k s =>
          obtain ⟨rfl, rfl, rfl, hr⟩ := h4
          cases d' with
          | none => exact hok
          | some mid =>
            have hmid := hr mid rfl
            obtain ⟨d, since, seenA, stepped, B, q1, q2, q3, q4, q5, q6, q7, q8⟩ := hok
            refine ⟨d, since, seenA, stepped, B, q1, q2, q3, q4, q5, q6, by omega, fun es hes => ?_⟩
            rcases cvH_get hH mid _ hes with ⟨b, k3, k4⟩ | ⟨k3, _⟩
            · cases b with
              | map es2 =>
                obtain ⟨rfl, _⟩ := k4
                obtain ⟨r1, r2⟩ := q8 _ k3
                exact ⟨by simp [cutφ, hmid, r1], r2⟩
              | _ => exact k4.elim
            · omega
        | _ => exact h4.elim
    · omega
  · obtain ⟨h1, h2⟩ := hrel.tn.old b hb hl
    exact ⟨h1, fun i hi => h2 i (hlt i b hi).2⟩
  · rcases cvH_get hH i _ hb' with ⟨b, h3, h4⟩ | ⟨h3, _⟩
    · cases b with
      | box t' cs =>
        obtain ⟨rfl, _⟩ := h4
        obtain ⟨cs0, k1, k2⟩ := hrel.tn.box i _ cs hi h3
        exact ⟨cs0, k1, fun c hc => by rw [hcut i hi]; exact k2 c hc⟩
      | _ => exact h4.elim
    · omega
  · rcases cvH_get hH i _ hb' with ⟨b, h3, h4⟩ | ⟨h3, _⟩
    · cases b with
      | row e' nb' rows =>
        obtain ⟨rfl, rfl, rfl, _⟩ := h4
        obtain ⟨r0, k1, k2, k3⟩ := hrel.tn.row i _ _ _ hi h3
        exact ⟨r0, k1, k2, fun hl => by rw [hcut i hi]; exact k3 hl⟩
      | _ => exact h4.elim
    · omega
  · rcases cvH_get hH i _ hb' with ⟨b, h3, h4⟩ | ⟨h3, _⟩
    · cases b with
      | map es =>
        obtain ⟨rfl, _⟩ := h4
        obtain ⟨e0, k1, k2⟩ := hrel.tn.map i _ hi h3
        exact ⟨e0, k1, fun c hc => by rw [hcut i hi]; exact k2 c hc⟩
      | _ => exact h4.elim
    · omega
  · rcases cvH_get hH i _ hb' with ⟨b, h3, h4⟩ | ⟨h3, _⟩
    · cases b with
      | iter d0 k0 s0 =>
        obtain ⟨rfl, rfl, rfl, _⟩ := h4
        obtain ⟨m0, n0, e0, k1, k2⟩ := hrel.tn.iter i _ _ _ hi h3
        exact ⟨m0, n0, e0, k1, fun c hc => by rw [hcut i hi]; exact k2 c hc⟩
      | _ => exact h4.elim
    · omega
theorem weak_of {s s' : St} (m n : Nat) (hm : m = min s.H.length s'.H.length) (hn : n = s'.H.length - m) (hT : cvT m n s.T s'.T) (hH : cvH m n s.H s'.H) : Weak P 0 s s' := weak_ofL m n hm (by simp) hn hT hH
end
end Go.Proofs.YthiclaihlpkinaaGreat
namespace Go.Proofs.YthiclaihlpkinaaGreat
open Go.RowKit
variable [Glob]
mutual
/-- The numbers of blocks, moved up. -/
def shA (k : Nat) : AV → AV
  | .op id o => .op (id + k) o
  | .ep id n i o => .ep (id + k) n i o
  | .os id n => .os (id + k) n
  | .ow id n lo hi => .ow (id + k) n lo hi
  | .mp id => .mp (id + k)
  | .ent id i => .ent (id + k) i
  | .it id => .it (id + k)
  | .agg l => .agg (shL k l)
  | .tup l => .tup (shL k l)
  | .fn f l => .fn f (shL k l)
  | v => v
def shL (k : Nat) : List AV → List AV
  | [] => []
  | x :: r => shA k x :: shL k r
end
def shB (k : Nat) : Blk → Blk
  | .box t cs => .box t (shL k cs)
  | .row e nb rows => .row e nb (rows.map (shL k))
  | .map es => .map (es.map fun e => (shA k e.1, shA k e.2))
  | .gone => .gone
  | .iter d n s => .iter (d.map (· + k)) n s
mutual
/-- No memory is read but the function's own. -/
def flatO : AV → Bool
  | .rp _ => false
  | .rs rows => rows.isEmpty
  | .fb _ _ => false
  | .agg l => flatOL l
  | .tup l => flatOL l
  | .fn _ l => flatOL l
  | _ => true
def flatOL : List AV → Bool
  | [] => true
  | x :: r => flatO x && flatOL r
end
def flatB : Blk → Bool
  | .box _ cs => cs.all flatO
  | .row _ _ rows => rows.all fun r => r.all flatO
  | .map es => es.all fun e => flatO e.1 && flatO e.2
  | .gone => true
  | .iter .. => true
section
variable {P : Program} {w w' : World} {X : Nat → Prop} {φ : Nat → Option Nat} {H : List Blk}
theorem shL_get {k : Nat} : ∀ (l : List AV) (j : Nat), (shL k l)[j]? = (l[j]?).map (shA k) := by
  intro l
  induction l with
  | nil => intro j; simp [shL]
  | cons x l ih =>
    intro j
    cases j with
    | zero => simp [shL]
    | succ j => simpa [shL] using ih j
theorem shL_len {k : Nat} : ∀ (l : List AV), (shL k l).length = l.length := by
  intro l
  induction l with
  | nil => rfl
  | cons x l ih => simp [shL, ih]
theorem RO.sh {k : Nat} {x : AV} {v : Value} (h : RO w X x v) : RO w X (shA k x) v := by
  induction h with
  | any => exact .any
  | und => exact .und
  | int => exact .int
  | bool => exact .bool
  | str => exact .str
  | nilp => exact .nilp
  | nils => exact .nils
  | nilc => exact .nilc
  | nec => exact .nec
  | nilf => exact .nilf
  | nilm => exact .nilm
  | yl => exact .yl
  | rp f hb hx hc h _ => exact .rp f hb hx hc h
  | rs sz f hn hcap hA h _ => exact .rs sz f hn hcap hA h
  | fb hl h _ => exact .fb hl h
  | agg hl h1 _ ih =>
    refine .agg (by rw [shL_len]; exact hl) h1 fun j x v h2 h3 => ?_
    rw [shL_get, Option.map_eq_some_iff] at h2
    obtain ⟨y, h4, rfl⟩ := h2
    exact ih j y v h4 h3
  | tup hl _ ih =>
    refine .tup (by rw [shL_len]; exact hl) fun j x v h2 h3 => ?_
    rw [shL_get, Option.map_eq_some_iff] at h2
    obtain ⟨y, h4, rfl⟩ := h2
    exact ih j y v h4 h3
  | fn hl _ ih =>
    refine .fn (by rw [shL_len]; exact hl) fun j x v h2 h3 => ?_
    rw [shL_get, Option.map_eq_some_iff] at h2
    obtain ⟨y, h4, rfl⟩ := h2
    exact ih j y v h4 h3
theorem flatOL_get : ∀ {l : List AV}, flatOL l = true → ∀ (j : Nat) x, l[j]? = some x → flatO x = true := by
  intro l
  induction l with
  | nil => intro _ j x h; simp at h
  | cons y l ih =>
    intro h j x hj
    simp only [flatOL, Bool.and_eq_true] at h
    cases j with
    | zero => simp at hj; rw [← hj]; exact h.1
    | succ j => simp at hj; exact ih h.2 j x hj
theorem RO.of_flatO {X' : Nat → Prop} {x : AV} {v : Value} (h : RO w X x v) (hf : flatO x = true) : RO w' X' x v := by
  induction h with
  | any => exact .any
  | und => exact .und
  | int => exact .int
  | bool => exact .bool
  | str => exact .str
  | nilp => exact .nilp
  | nils => exact .nils
  | nilc => exact .nilc
  | nec => exact .nec
  | nilf => exact .nilf
  | nilm => exact .nilm
  | yl => exact .yl
  | rp => simp [flatO] at hf
  | fb => simp [flatO] at hf
  | rs sz f hn hcap hA h _ =>
    simp [flatO] at hf
    subst hf
    exact .rs sz f hn hcap (fun i row hi => by simp at hi) (fun i j row x hi _ => by simp at hi)
  | agg hl h1 _ ih => simp only [flatO] at hf; exact .agg hl h1 fun j x v h1 h2 => ih j x v h1 h2 (flatOL_get hf j x h1)
  | tup hl _ ih => simp only [flatO] at hf; exact .tup hl fun j x v h1 h2 => ih j x v h1 h2 (flatOL_get hf j x h1)
  | fn hl _ ih => simp only [flatO] at hf; exact .fn hl fun j x v h1 h2 => ih j x v h1 h2 (flatOL_get hf j x h1)
/-- The blocks of two calls, side by side. -/
def joinφ (φ φ1 : Nat → Option Nat) (L : Nat) : Nat → Option Nat := fun i => if i < L then φ i else φ1 (i - L)
theorem RV.join {X1 : Nat → Prop} {φ1 : Nat → Option Nat} {H1 : List Blk} {x : AV} {v : Value} (h : RV P w X1 φ1 H1 x v)
    (hc : flatO x = true ∨ ∀ b, (X b ∨ ∃ id, joinφ φ φ1 H.length id = some b) → X1 b ∨ ∃ id, φ1 id = some b) : RV P w X (joinφ φ φ1 H.length) (H ++ H1.map (shB H.length)) (shA H.length x) v := by
  have hget : ∀ id b', (H ++ H1.map (shB H.length))[id + H.length]? = some b' → ∃ b, H1[id]? = some b ∧ b' = shB H.length b := fun id b' h => by
    rw [List.getElem?_append_right (by omega), show id + H.length - H.length = id by omega, List.getElem?_map, Option.map_eq_some_iff] at h
    obtain ⟨b, h1, h2⟩ := h
    exact ⟨b, h1, h2.symm⟩
  have hlen : ∀ id, id < H1.length → id + H.length < (H ++ H1.map (shB H.length)).length := fun id h => by simp; omega
  have hφ : ∀ id, joinφ φ φ1 H.length (id + H.length) = φ1 id := fun id => by simp only [joinφ]; rw [if_neg (by omega), Nat.add_sub_cancel]
  induction h with
  | ro h =>
    rcases hc with hf | hc
    · exact .ro (h.of_flatO hf).sh
    · exact .ro ((h.weaken fun b hb => hc b hb).sh)
  | @op id o v h0 hid h =>
    refine .op h0 (hlen id hid) fun t cs hb => ?_
    obtain ⟨b, h1, h2⟩ := hget id _ hb
    cases b <;> simp [shB] at h2
    obtain ⟨c, h3, h4⟩ := h _ _ h1
    exact ⟨c, by rw [hφ]; exact h3, h4⟩
  | @ep id n i o v h0 hid h =>
    refine .ep h0 (hlen id hid) fun e nb rows hb => ?_
    obtain ⟨b, h1, h2⟩ := hget id _ hb
    cases b <;> simp [shB] at h2
    obtain ⟨rfl, rfl, rfl⟩ := h2
    obtain ⟨h3, h4⟩ := h _ _ _ h1
    refine ⟨by simpa using h3, fun hn => ?_⟩
    obtain ⟨c, h5, h6⟩ := h4 (by simpa using hn)
    exact ⟨c, by rw [hφ]; exact h5, h6⟩
  | @os id n v h0 hid h =>
    refine .os h0 (hlen id hid) fun e nb rows hb => ?_
    obtain ⟨b, h1, h2⟩ := hget id _ hb
    cases b <;> simp [shB] at h2
    obtain ⟨rfl, rfl, rfl⟩ := h2
    obtain ⟨h3, h4⟩ := h _ _ _ h1
    refine ⟨by simpa using h3, fun hn => ?_⟩
    rw [hφ]
    exact h4 (by simpa using hn)
  | @ow id n lo hi v h0 hid h =>
    refine .ow h0 (hlen id hid) fun e nb rows hb => ?_
    obtain ⟨b, h1, h2⟩ := hget id _ hb
    cases b <;> simp [shB] at h2
    obtain ⟨rfl, rfl, rfl⟩ := h2
    obtain ⟨h3, h4⟩ := h _ _ _ h1
    refine ⟨by simpa using h3, fun hn => ?_⟩
    rw [hφ]
    exact h4 (by simpa using hn)
  | @mp id v h0 hid h =>
    refine .mp h0 (hlen id hid) fun es hb => ?_
    obtain ⟨b, h1, h2⟩ := hget id _ hb
    cases b <;> simp [shB] at h2
    obtain ⟨c, h3, h4⟩ := h _ h1
    exact ⟨c, by rw [hφ]; exact h3, h4⟩
  | @ent id i v h0 hid h =>
    refine .ent h0 (hlen id hid) fun es hb => ?_
    obtain ⟨b, h1, h2⟩ := hget id _ hb
    cases b <;> simp [shB] at h2
    obtain ⟨c, ents, clock, ent, h3, h4⟩ := h _ h1
    exact ⟨c, ents, clock, ent, by rw [hφ]; exact h3, h4⟩
  | @it id v h0 hid h =>
    refine .it h0 (hlen id hid) fun d n s hb => ?_
    obtain ⟨b, h1, h2⟩ := hget id _ hb
    cases b <;> simp [shB] at h2
    obtain ⟨c, h3, h4⟩ := h _ _ _ h1
    exact ⟨c, by rw [hφ]; exact h3, h4⟩
  | agg hl h1 _ ih =>
    refine .agg (by rw [shL_len]; exact hl) h1 fun j x v h2 h3 => ?_
    rw [shL_get, Option.map_eq_some_iff] at h2
    obtain ⟨y, h4, rfl⟩ := h2
    exact ih j y v h4 h3 (hc.imp (fun hf => flatOL_get (by simpa only [flatO] using hf) j y h4) id)
  | tup hl _ ih =>
    refine .tup (by rw [shL_len]; exact hl) fun j x v h2 h3 => ?_
    rw [shL_get, Option.map_eq_some_iff] at h2
    obtain ⟨y, h4, rfl⟩ := h2
    exact ih j y v h4 h3 (hc.imp (fun hf => flatOL_get (by simpa only [flatO] using hf) j y h4) id)
  | fn hl _ ih =>
    refine .fn (by rw [shL_len]; exact hl) fun j x v h2 h3 => ?_
    rw [shL_get, Option.map_eq_some_iff] at h2
    obtain ⟨y, h4, rfl⟩ := h2
    exact ih j y v h4 h3 (hc.imp (fun hf => flatOL_get (by simpa only [flatO] using hf) j y h4) id)
end
section
variable (P : Program)
/-- Wherever the arguments read as these, the function hands back r, which lies in blocks H1 of its own making; nothing old is turned. -/
def New (f : FuncId) (args : List AV) (r : AV) (H1 : List Blk) : Prop :=
  entersB P f = true ∧ ∀ (w : World) (X : Nat → Prop) (vs : Array Value), (∀ b, X b → b < w.heap.size) → VarsOk w X → args.length = vs.size → (∀ (j : Nat) x v, args[j]? = some x → vs[j]? = some v → RO w X x v) →
    Calls P f vs w fun e w' => ∃ v φ1, e = .returned v ∧ HR P w X w' φ1 H1 ∧ RV P w' X φ1 H1 r v
end
section
variable {P : Program}
theorem new_core {w0 w w' : World} {X X1 : Nat → Prop} {φ φ1 : Nat → Option Nat} {H H1 : List Blk} {r : AV} {v : Value} (hr : HR P w0 X w φ H) (hr1 : HR P w X1 w' φ1 H1) (hv : RV P w' X1 φ1 H1 r v)
    (hc : (flatO r = true ∧ H1.all flatB = true) ∨ ∀ b, (X b ∨ ∃ id, φ id = some b) → X1 b) :
    HR P w0 X w' (joinφ φ φ1 H.length) (H ++ H1.map (shB H.length)) ∧ Turn w φ H w' (joinφ φ φ1 H.length) (H ++ H1.map (shB H.length)) ∧ RV P w' X (joinφ φ φ1 H.length) (H ++ H1.map (shB H.length)) (shA H.length r) v := by
  have hlow : ∀ id, id < H.length → joinφ φ φ1 H.length id = φ id := fun id h => by simp [joinφ, h]
  have hold : ∀ id, id < H.length → (H ++ H1.map (shB H.length))[id]? = H[id]? := fun id h => List.getElem?_append_left h
  have hcase : ∀ id c, joinφ φ φ1 H.length id = some c → (id < H.length ∧ φ id = some c) ∨ (H.length ≤ id ∧ φ1 (id - H.length) = some c) := fun id c h => by
    unfold joinφ at h
    split at h
    · exact .inl ⟨by assumption, h⟩
    · exact .inr ⟨by omega, h⟩
  have hT : Turn w φ H w' (joinφ φ φ1 H.length) (H ++ H1.map (shB H.length)) := by
    refine ⟨hr1.fr.size, by simp, fun b hb hl => ⟨hr1.fr.block b hl, fun id h => ?_⟩, fun id t cs hi h => ?_, fun id e nb rows hi h => ?_, fun id es hi h => ?_, fun id d n s hi h => ?_⟩
    · rcases hcase id b h with ⟨_, h⟩ | ⟨_, h⟩
      · exact hb id h
      · have := (hr1.own _ b h).1; omega
    · rw [hold id hi] at h; exact ⟨cs, h, fun c hc => by rw [hlow id hi]; exact hc⟩
    · rw [hold id hi] at h
      exact ⟨rows, h, Nat.le_refl _, fun _ => ⟨fun _ h => by rw [hlow id hi]; exact h, fun c hc => ⟨by rw [hlow id hi]; exact hc, fun cur hcur => ⟨cur, by rw [hr1.fr.block c (hr.own _ c hc).2.1]; exact hcur, rfl⟩⟩⟩⟩
    · rw [hold id hi] at h; exact ⟨es, h, fun c hc => ⟨by rw [hlow id hi]; exact hc, bornK_same (hr1.fr.block c (hr.own _ c hc).2.1)⟩⟩
    · rw [hold id hi] at h; exact ⟨d, n, s, h, fun c hc => by rw [hlow id hi]; exact hc⟩
  have hX : (∀ b, (X b ∨ ∃ id, φ id = some b) → X1 b) → ∀ b, (X b ∨ ∃ id, joinφ φ φ1 H.length id = some b) → X1 b ∨ ∃ id, φ1 id = some b := fun h b hb => by
    rcases hb with hb | ⟨id, hb⟩
    · exact .inl (h b (.inl hb))
    · rcases hcase id b hb with ⟨_, hb⟩ | ⟨_, hb⟩
      · exact .inl (h b (.inr ⟨id, hb⟩))
      · exact .inr ⟨_, hb⟩
  have hj : ∀ {x : AV} {u : Value}, RV P w' X1 φ1 H1 x u → ((flatO r = true ∧ H1.all flatB = true) → flatO x = true) → RV P w' X (joinφ φ φ1 H.length) (H ++ H1.map (shB H.length)) (shA H.length x) u := fun h hf => by
    rcases hc with hc | hc
    · -- flat: the memory outside does not matter
      exact RV.join h (.inl (hf hc))
    · exact RV.join h (.inr (hX hc))
  refine ⟨⟨hr.vo, hr.fr.trans (hr1.fr.mono hr.fr.size), ext_turn hr hT, fun id c hc => ?_, fun i j c hi hj => ?_, fun i b c hi hc' => ?_⟩, hT, hj hv fun h => h.1⟩
  · rcases hcase id c hc with ⟨h1, h2⟩ | ⟨h1, h2⟩
    · have := hr.own id c h2
      have := hr1.fr.size
      exact ⟨by omega, by omega, by simp; omega⟩
    · have := hr1.own _ c h2
      have := hr.fr.size
      exact ⟨by omega, by omega, by simp; omega⟩
  · rcases hcase i c hi with ⟨h1, h2⟩ | ⟨h1, h2⟩ <;> rcases hcase j c hj with ⟨h3, h4⟩ | ⟨h3, h4⟩
    · exact hr.inj i j c h2 h4
    · have := (hr.own i c h2).2.1; have := (hr1.own _ c h4).1; omega
    · have := (hr.own j c h4).2.1; have := (hr1.own _ c h2).1; omega
    · have := hr1.inj _ _ c h2 h4; omega
  · rcases hcase i c hc' with ⟨h1, h2⟩ | ⟨h1, h2⟩
    · rw [hold i h1] at hi
      exact (hr.blk i b c hi h2).turn hT (hr1.fr.block c (hr.own i c h2).2.1)
    · rw [List.getElem?_append_right h1, List.getElem?_map, Option.map_eq_some_iff] at hi
      obtain ⟨b1, h3, rfl⟩ := hi
      have hok := hr1.blk _ b1 c h3 h2
      have hfl : (flatO r = true ∧ H1.all flatB = true) → flatB b1 = true := fun h => by
        have := h.2
        simp only [List.all_eq_true] at this
        exact this b1 (List.mem_of_getElem? h3)
      cases b1 with
      | gone => trivial
      | iter d n s =>
        cases d with
        | none => exact hok
        | some mid =>
          obtain ⟨d, since, seenA, stepped, B, q1, q2, q3, q4, q5, q6, q7, q8⟩ := hok
          refine ⟨d, since, seenA, stepped, B, q1, q2, q3, q4, q5, q6, by simp; omega, fun es hes => ?_⟩
          have hes : (H ++ H1.map (shB H.length))[mid + H.length]? = some (.map es) := hes
          rw [List.getElem?_append_right (by omega), List.getElem?_map, Option.map_eq_some_iff] at hes
          obtain ⟨b2, h5, h6⟩ := hes
          rw [show mid + H.length - H.length = mid by omega] at h5
          cases b2 <;> simp [shB] at h6
          obtain ⟨r1, r2⟩ := q8 _ h5
          exact ⟨by simp only [joinφ]; rw [if_neg (by omega), show mid + H.length - H.length = mid by omega]; exact r1, r2⟩
      | box t cs =>
        obtain ⟨cur, q1, q2, q3⟩ := hok
        refine ⟨cur, q1, by rw [shL_len]; exact q2, fun j x u hx hu => ?_⟩
        rw [shL_get, Option.map_eq_some_iff] at hx
        obtain ⟨y, h4, rfl⟩ := hx
        refine ⟨hj (q3 j y u h4 hu).1 fun h => ?_, (q3 j y u h4 hu).2⟩
        have := hfl h
        simp only [flatB, List.all_eq_true] at this
        exact this y (List.mem_of_getElem? h4)
      | row e nb rows =>
        obtain ⟨cur, q1, q2, q3, q4⟩ := hok
        refine ⟨cur, q1, fun row hrow => ?_, by simpa using q3, fun i' j row x u h5 hx hu => ?_⟩
        · obtain ⟨row', h5, rfl⟩ := List.mem_map.1 hrow
          rw [shL_len]; exact q2 row' h5
        · rw [List.getElem?_map, Option.map_eq_some_iff] at h5
          obtain ⟨row', h6, rfl⟩ := h5
          rw [shL_get, Option.map_eq_some_iff] at hx
          obtain ⟨y, h4, rfl⟩ := hx
          refine ⟨hj (q4 i' j row' y u h6 h4 hu).1 fun h => ?_, (q4 i' j row' y u h6 h4 hu).2⟩
          have := hfl h
          simp only [flatB, List.all_eq_true] at this
          exact this row' (List.mem_of_getElem? h6) y (List.mem_of_getElem? h4)
      | map es =>
        obtain ⟨ents, clock, q1, q2, q3, q4, q5⟩ := hok
        refine ⟨ents, clock, q1, by simpa using q2, q3, q4, fun i' k x ent h5 h6 => ?_⟩
        rw [List.getElem?_map, Option.map_eq_some_iff] at h5
        obtain ⟨e, h7, h8⟩ := h5
        simp at h8
        obtain ⟨rfl, rfl⟩ := h8
        have := q5 i' e.1 e.2 ent h7 h6
        have hfe : (flatO r = true ∧ H1.all flatB = true) → flatO e.1 = true ∧ flatO e.2 = true := fun h => by
          have := hfl h
          simp only [flatB, List.all_eq_true, Bool.and_eq_true] at this
          exact this e (List.mem_of_getElem? h7)
        exact ⟨hj this.1 fun h => (hfe h).1, hj this.2 fun h => (hfe h).2⟩
/-- A call of such a function. -/
theorem new_G {g : FuncId} {as ys : List AV} {r : AV} {H H1 : List Blk} {K : AV → List Blk → Prop} (hp : New P g ys r H1) (hm : as.mapM (reify H 8) = some ys) (ho : (flatO r = true ∧ H1.all flatB = true) ∨ (ys = as ∧ ownsL as = false))
    (hK : K (shA H.length r) (H ++ H1.map (shB H.length))) : CallG P g as H K := by
  refine ⟨hp.1, fun w0 w X φ vs hr hl hv => ?_⟩
  obtain ⟨m1, m2⟩ := mapM_spec hm
  rcases ho with hf | ⟨rfl, ho⟩
  · refine (hp.2 w X vs (fun b hb => (hr.ext b hb).1) hr.now (by omega) fun j y v hj hu => ?_).mono ?_
    · have hlt : j < as.length := by rw [← m1]; exact (List.getElem?_eq_some_iff.1 hj).1
      obtain ⟨y', q1, q2⟩ := m2 j as[j] (by simp [hlt])
      rw [hj] at q1; simp at q1; subst q1
      exact reify_sound hr 8 _ _ _ q2 (hv j as[j] v (by simp [hlt]) hu)
    · rintro e w' ⟨v, φ1, h1, h2, h3⟩
      obtain ⟨k1, k2, k3⟩ := new_core hr h2 h3 (.inl hf)
      exact ⟨v, _, _, _, h1, k1, k2, k3, hK⟩
  · refine (hp.2 w (fun b => X b ∨ ∃ id, φ id = some b) vs (fun b hb => hb.elim (fun hb => (hr.ext b hb).1) fun ⟨id, h⟩ => (hr.own id b h).2.1) hr.all hl fun j y v hj hu => (hv j y v hj hu).ro_of (ownsL_get ho j y hj)).mono ?_
    rintro e w' ⟨v, φ1, h1, h2, h3⟩
    obtain ⟨k1, k2, k3⟩ := new_core hr h2 h3 (.inr fun b hb => hb)
    exact ⟨v, _, _, _, h1, k1, k2, k3, hK⟩
/-! ### A call whose text is walked in place -/
def endG (P : Program) (L : Nat) (fn : Func) (K : AV → List Blk → Prop) : Ex → St → Prop
  | .exit _, _ => False
  | _, s => ∃ x x' H', resA P fn s = some x ∧ Weak P L ⟨[(0, x)], s.H⟩ ⟨[(0, x')], H'⟩ ∧ K x' H'
theorem Weak.refl {L : Nat} (s : St) : Weak P L s s := fun _ _ _ _ φ _ _ _ h => ⟨φ, h⟩
theorem res_val {fn : Func} {s : St} {x : AV} {B : From} {w0 : World} {X : Nat → Prop} {N : Nat} {φ : Nat → Option Nat} {a : Act} {w' : World} (hx : resA P fn s = some x) (hrel : Rel P B w0 X N s φ a w') :
    ∃ v, (results fn a.tmps).run P w' = .ok v w' ∧ RV P w' X φ s.H x v := by
  unfold resA at hx
  cases hl : fn.results.toList.mapM (res1 P s) with
  | none => rw [hl] at hx; simp at hx
  | some xs =>
    rw [hl] at hx
    obtain ⟨us, k1, k2, k3⟩ := res_run hrel _ xs hl
    have hrun : (results fn a.tmps).run P w' = .ok (if h : us.toArray.size = 1 then us.toArray[0] else .tuple us.toArray) w' := by
      rw [results_eq]; simp only [Sem.run_bind, Array.mapM_eq_mapM_toList, Sem.run_map, k1, Result.andThen_ok, Sem.run_pure]
    refine ⟨_, hrun, ?_⟩
    cases xs with
    | nil =>
      simp at hx
      subst hx
      have : us = [] := List.eq_nil_of_length_eq_zero (by simpa using k2)
      subst this
      exact .tup rfl (by simp)
    | cons x0 xs =>
      cases us with
      | nil => simp at k2
      | cons u0 us =>
        cases xs with
        | nil =>
          simp at hx
          subst hx
          have : us = [] := List.eq_nil_of_length_eq_zero (by simpa using k2)
          subst this
          exact k3 0 x0 u0 (by simp) (by simp)
        | cons x1 xs =>
          simp at hx
          subst hx
          cases us with
          | nil => simp at k2
          | cons u1 us =>
            rw [dif_neg (by simp)]
            exact .tup (by simpa using k2.symm) fun j y v hj hv => k3 j y v hj (by simpa using hv)
theorem start_t {args : List AV} {vs : Array Value} {n : Nat} {w : World} {X : Nat → Prop} {φ : Nat → Option Nat} {H : List Blk} (hn : args.length ≤ n) (hl : args.length = vs.size) (hv : ∀ (j : Nat) x v, args[j]? = some x → vs[j]? = some v → RV P w X φ H x v) (k : Nat) :
    RV P w X φ H (tget (argT 0 args) k) ((vs ++ Array.replicate (n - vs.size) undef).getD k undef) := by
  rw [tget_argT]
  simp only [Nat.zero_le, if_true, Nat.sub_zero]
  by_cases hk : k < args.length
  · have h1 : args.getD k .any = args[k] := by simp [List.getD, hk]
    have h2 : (vs ++ Array.replicate (n - vs.size) undef).getD k undef = vs[k]'(by omega) := by
      rw [Array.getD_eq_getD_getElem?, Array.getElem?_append_left (by omega)]
      simp [show k < vs.size by omega]
    rw [h1, h2]
    exact hv k args[k] _ (by simp [hk]) (by simp [show k < vs.size by omega])
  · have : args.getD k .any = .any := by simp [List.getD, List.getElem?_eq_none (Nat.le_of_not_lt hk)]
    rw [this]; exact .ro .any
theorem one_slot {B : From} {w0 : World} {X : Nat → Prop} {N : Nat} {s : St} {φ : Nat → Option Nat} {a : Act} {w : World} {x : AV} {v : Value} (hrel : Rel P B w0 X N s φ a w) (hv : RV P w X φ s.H x v) : Rel P B w0 X 1 ⟨[(0, x)], s.H⟩ φ { tmps := #[v], defers := [] } w := by
  refine ⟨hrel.hr, hrel.tn, fun k => ?_, rfl, Marks.nil⟩
  simp only [tget]
  split
  · rename_i e; subst e; exact hv
  · exact .ro .any
/-- **A call whose text is walked in place.** -/
theorem inl_core {f : FuncId} {fn : Func} {c c' : Code} {args : List AV} {H : List Blk} {K : AV → List Blk → Prop} (hf : P.funcs[f]? = some fn) (hb : fn.body = some c) (he : entersB P f = true) (hn : args.length ≤ fn.ntmps)
    (hs : ∀ (B : From) (w0 : World) X (s : St) (Q : Ex → St → Prop) (φ : Nat → Option Nat) (a : Act) (w : World), B.nm = false → B.H.length ≤ H.length → vc P H.length c' s Q → Rel P B w0 X fn.ntmps s φ a w → c.wp P (Post P B w0 X fn.ntmps Q) a w)
    {Q0 : Ex → St → Prop} (hQ0 : ∀ e s, Q0 e s → endG P H.length fn K e s) (h : vc P H.length c' ⟨argT 0 args, H⟩ Q0) : CallG P f args H K := by
  refine ⟨he, fun w0 w X φ vs hr hl hv => calls_of_leave hf hb ?_⟩
  have hrel : Rel P ⟨w, φ, H, w.heap.size, Nat.le_refl _, false⟩ w0 X fn.ntmps ⟨argT 0 args, H⟩ φ { tmps := vs ++ Array.replicate (fn.ntmps - vs.size) undef, defers := [] } w :=
    ⟨hr, Turn.refl _ _ _, start_t hn hl hv, by simp; omega, Marks.nil⟩
  refine wp_mono (hs ⟨w, φ, H, w.heap.size, Nat.le_refl _, false⟩ w0 X _ _ _ _ w rfl (Nat.le_refl _) h hrel) fun e a w' hq => ?_
  have key : ∀ s φ', endG P H.length fn K .ret s → Rel P ⟨w, φ, H, w.heap.size, Nat.le_refl _, false⟩ w0 X fn.ntmps s φ' a w' → LeavesInM Fence.wide 0 P fn a.tmps (fun e w' => ∃ v' r φ' H', e = .returned v' ∧ HR P w0 X w' φ' H' ∧ Turn w φ H w' φ' H' ∧ RV P w' X φ' H' r v' ∧ K r H') a.defers .returning w' := by
    intro s φ' hq hrel
    obtain ⟨x, x', H', hx, hW, hK⟩ := hq
    refine leaves_of (Nat.le_refl _) hrel fun w' hrel => ?_
    obtain ⟨v, h1, h2⟩ := res_val hx hrel
    obtain ⟨φ2, hrel2⟩ := hW ⟨w, φ, H, w.heap.size, Nat.le_refl _, false⟩ w0 X 1 φ' _ w' (Nat.le_refl _) (one_slot hrel h2)
    refine ⟨v, h1, v, x', φ2, H', rfl, hrel2.hr, hrel2.tn, ?_, hK⟩
    have := hrel2.t 0
    simpa [tget] using this
  cases e with
  | normal => obtain ⟨s, φ', h1, h2⟩ := hq; exact key s φ' (hQ0 .normal s h1) h2
  | ret => obtain ⟨s, φ', h1, h2⟩ := hq; exact key s φ' (hQ0 _ _ h1) h2
  | exit id => obtain ⟨s, φ', h1, h2⟩ := hq; exact (hQ0 _ _ h1).elim
  | _ => exact hq.elim
theorem inl_G (hm : P.follows .mixedOrders = true) {f : FuncId} {fn : Func} {c : Code} {args : List AV} {H : List Blk} {K : AV → List Blk → Prop} (hf : P.funcs[f]? = some fn) (hb : fn.body = some c) (he : entersB P f = true) (hn : args.length ≤ fn.ntmps) (hok : okCode fn.ntmps c = true)
    (h : vc P H.length c ⟨argT 0 args, H⟩ (endG P H.length fn K)) : CallG P f args H K :=
  inl_core (c' := c) hf hb he hn (fun _ _ _ s Q φ a w hnm hB h hrel => vc_sound hm hnm hB c s Q φ a w hok h hrel) (fun _ _ h => h) h
/-- The same, some regions being of the second kind. -/
theorem inl_M (ids : List Nat) (hm : P.follows .mixedOrders = true) {f : FuncId} {fn : Func} {c : Code} {args : List AV} {H : List Blk} {K : AV → List Blk → Prop} (hf : P.funcs[f]? = some fn) (hb : fn.body = some c) (he : entersB P f = true) (hn : args.length ≤ fn.ntmps) (hok : (okM fn.ntmps (mkc ids c) && noScope ids c) = true)
    (h : vc P H.length (mkc ids c) ⟨argT 0 args, H⟩ (endG P H.length fn K)) : CallG P f args H K := by
  rw [Bool.and_eq_true] at hok
  exact inl_core (c' := mkc ids c) hf hb he hn (fun _ _ _ s Q φ a w hnm hB h hrel => vc_soundM hm hnm hB ids c s Q φ a w hok.1 hok.2 h hrel) (fun _ _ h => h) h
theorem inl_D (i3 ids : List Nat) (hm : P.follows .mixedOrders = true) {f : FuncId} {fn : Func} {c : Code} {args : List AV} {H : List Blk} {K : AV → List Blk → Prop} (hf : P.funcs[f]? = some fn) (hb : fn.body = some c) (he : entersB P f = true) (hn : args.length ≤ fn.ntmps) (hok : (okM fn.ntmps (mkd i3 ids c) && (noScope i3 c && noScope ids c)) = true)
    (h : vc P H.length (mkd i3 ids c) ⟨argT 0 args, H⟩ (endG P H.length fn K)) : CallG P f args H K := by
  rw [Bool.and_eq_true] at hok
  exact inl_core (c' := mkd i3 ids c) hf hb he hn (fun _ _ _ s Q φ a w hnm hB h hrel => vc_soundD hm hnm hB i3 ids c s Q φ a w hok.1 hok.2 h hrel) (fun _ _ h => h) h
theorem inl_W (iw ids : List Nat) (hm : P.follows .mixedOrders = true) {f : FuncId} {fn : Func} {c : Code} {args : List AV} {H : List Blk} {K : AV → List Blk → Prop} (hf : P.funcs[f]? = some fn) (hb : fn.body = some c) (he : entersB P f = true) (hn : args.length ≤ fn.ntmps) (hok : (okM fn.ntmps (mkw iw ids c) && (noScope iw c && noScope ids c)) = true)
    (h : vc P H.length (mkw iw ids c) ⟨argT 0 args, H⟩ (endG P H.length fn K)) : CallG P f args H K := by
  rw [Bool.and_eq_true] at hok
  exact inl_core (c' := mkw iw ids c) hf hb he hn (fun _ _ _ s Q φ a w hnm hB h hrel => vc_soundW hm hnm hB iw ids c s Q φ a w hok.1 hok.2 h hrel) (fun _ _ h => h) h
theorem callG_pure {f : FuncId} {args : List AV} {r : AV} (h : CallG P f args [] fun x H' => reify H' 8 x = some r) : Pure P f args r := by
  refine ⟨h.1, fun w X vs hX hvo hl hv => ?_⟩
  have hr0 : HR P w X w (fun _ => none) [] := ⟨hvo, Below.refl _ _, fun b hb => ⟨hX b hb, by simp⟩, fun _ _ h => by simp at h, fun _ _ _ h => by simp at h, fun _ _ _ h => by simp at h⟩
  refine (h.2 w w X (fun _ => none) vs hr0 hl fun j x v hx hu => .ro ((hv j x v hx hu).mono (Nat.le_refl _) fun b hb _ => ⟨rfl, fun h => h.elim hb fun ⟨_, h⟩ => by simp at h⟩)).mono ?_
  rintro e w' ⟨v, r', φ', H', h1, h2, _, h4, h5⟩
  exact ⟨v, h1, reify_sound h2 8 _ _ _ h5 h4, h2.fr⟩
theorem endQ_G {fn : Func} {r : AV} {e : Ex} {s : St} (h : endQ P fn r e s) : endG P 0 fn (fun x H' => reify H' 8 x = some r) e s := by
  cases e with
  | exit j => exact h.elim
  | normal =>
    simp only [endQ] at h
    split at h
    · rename_i x hx; exact ⟨x, x, s.H, hx, Weak.refl _, h⟩
    · exact h.elim
  | ret =>
    simp only [endQ] at h
    split at h
    · rename_i x hx; exact ⟨x, x, s.H, hx, Weak.refl _, h⟩
    · exact h.elim
/-- A function, some regions being of the third or of the second kind. -/
theorem pure_D (i3 ids : List Nat) (hm : P.follows .mixedOrders = true) {f : FuncId} {fn : Func} {c : Code} {args : List AV} {r : AV} (hf : P.funcs[f]? = some fn) (hb : fn.body = some c) (he : entersB P f = true) (hn : args.length ≤ fn.ntmps) (hok : (okM fn.ntmps (mkd i3 ids c) && (noScope i3 c && noScope ids c)) = true)
    (h : vc P 0 (mkd i3 ids c) ⟨argT 0 args, []⟩ (endQ P fn r)) : Pure P f args r := by
  rw [Bool.and_eq_true] at hok
  exact callG_pure (inl_core (c' := mkd i3 ids c) (H := []) hf hb he hn (fun _ _ _ s Q φ a w hnm hB h hrel => vc_soundD hm hnm hB i3 ids c s Q φ a w hok.1 hok.2 h hrel) (fun e s => endQ_G) h)
/-- A function, something being forgotten before some regions. -/
theorem pure_W (iw ids : List Nat) (hm : P.follows .mixedOrders = true) {f : FuncId} {fn : Func} {c : Code} {args : List AV} {r : AV} (hf : P.funcs[f]? = some fn) (hb : fn.body = some c) (he : entersB P f = true) (hn : args.length ≤ fn.ntmps) (hok : (okM fn.ntmps (mkw iw ids c) && (noScope iw c && noScope ids c)) = true)
    (h : vc P 0 (mkw iw ids c) ⟨argT 0 args, []⟩ (endQ P fn r)) : Pure P f args r := by
  rw [Bool.and_eq_true] at hok
  exact callG_pure (inl_core (c' := mkw iw ids c) (H := []) hf hb he hn (fun _ _ _ s Q φ a w hnm hB h hrel => vc_soundW hm hnm hB iw ids c s Q φ a w hok.1 hok.2 h hrel) (fun e s => endQ_G) h)
theorem inl_K (hm : P.follows .mixedOrders = true) {f : FuncId} {fn : Func} {c : Code} {args : List AV} {H : List Blk} {K : AV → List Blk → Prop} (hf : P.funcs[f]? = some fn) (hb : fn.body = some c) (he : entersB P f = true) (hn : args.length ≤ fn.ntmps) (hok : (okM fn.ntmps (mark c) && noScope [] c) = true)
    (h : vc P H.length (mark c) ⟨argT 0 args, H⟩ (endG P H.length fn K)) : CallG P f args H K := by
  rw [Bool.and_eq_true] at hok
  exact inl_core (c' := mark c) hf hb he hn (fun _ _ _ s Q φ a w hnm hB h hrel => vc_soundK hm hnm hB c s Q φ a w hok.1 hok.2 h hrel) (fun _ _ h => h) h
/-- **A function that hands back memory of its own making.** -/
theorem new_of (hm : P.follows .mixedOrders = true) {f : FuncId} {fn : Func} {c : Code} {args : List AV} {r : AV} {H1 : List Blk} (hf : P.funcs[f]? = some fn) (hb : fn.body = some c) (he : entersB P f = true) (hn : args.length ≤ fn.ntmps) (hok : okCode fn.ntmps c = true)
    (h : vc P 0 c ⟨argT 0 args, []⟩ (endG P 0 fn fun x H' => x = r ∧ H' = H1)) : New P f args r H1 := by
  refine ⟨he, fun w X vs hX hvo hl hv => ?_⟩
  have hr0 : HR P w X w (fun _ => none) [] := ⟨hvo, Below.refl _ _, fun b hb => ⟨hX b hb, by simp⟩, fun _ _ h => by simp at h, fun _ _ _ h => by simp at h, fun _ _ _ h => by simp at h⟩
  refine ((inl_G (H := []) hm hf hb he hn hok h).2 w w X (fun _ => none) vs hr0 hl fun j x v hx hu => .ro ((hv j x v hx hu).mono (Nat.le_refl _) fun b hb _ => ⟨rfl, fun h => h.elim hb fun ⟨_, h⟩ => by simp at h⟩)).mono ?_
  rintro e w' ⟨v, r', φ', H', h1, h2, _, h4, rfl, rfl⟩
  exact ⟨v, φ', h1, h2, h4⟩
section
variable {L : Nat} {k : List Item} {s : St} {Q : Ex → St → Prop}
theorem new_intro {g : Nat} {caps args ys : List AV} {r : AV} {H1 : List Blk} {dst : Option Nat} {all rest : List Oper} (h : New P g ys r H1) (h1 : (args ++ caps).mapM (reify s.H 8) = some ys) (h2 : (flatO r = true ∧ H1.all flatB = true) ∨ (ys = args ++ caps ∧ ownsL (args ++ caps) = false))
    (h3 : run P L (.ops false all rest :: k) ⟨tputD s.T dst (shA s.H.length r), s.H ++ H1.map (shB s.H.length)⟩ Q) : callD P L (.fn g caps) args dst false all rest k s Q := callG_intro (new_G h h1 h2 h3)
theorem inl_intro (hm : P.follows .mixedOrders = true) {g : Nat} {fn : Func} {c : Code} {caps args : List AV} {dst : Option Nat} {all rest : List Oper} (hf : P.funcs[g]? = some fn) (hb : fn.body = some c) (he : entersB P g = true) (hn : (args ++ caps).length ≤ fn.ntmps) (hok : okCode fn.ntmps c = true)
    (h : run P s.H.length [.code c] ⟨argT 0 (args ++ caps), s.H⟩ (endG P s.H.length fn (contK P L false all rest k s.T dst Q))) : callD P L (.fn g caps) args dst false all rest k s Q :=
  callG_intro (inl_G hm hf hb he hn hok (vc_run h))
end
end
end Go.Proofs.YthiclaihlpkinaaGreat
namespace Go.Proofs.YthiclaihlpkinaaGreat
open Go.RowKit
variable [Glob]
mutual
/-- The numbers of blocks, renamed. -/
def mA (ρ : Nat → Nat) : AV → AV
  | .op id o => .op (ρ id) o
  | .ep id n i o => .ep (ρ id) n i o
  | .os id n => .os (ρ id) n
  | .ow id n lo hi => .ow (ρ id) n lo hi
  | .mp id => .mp (ρ id)
  | .ent id i => .ent (ρ id) i
  | .it id => .it (ρ id)
  | .agg l => .agg (mL ρ l)
  | .tup l => .tup (mL ρ l)
  | .fn f l => .fn f (mL ρ l)
  | v => v
def mL (ρ : Nat → Nat) : List AV → List AV
  | [] => []
  | x :: r => mA ρ x :: mL ρ r
end
def mB (ρ : Nat → Nat) : Blk → Blk
  | .box t cs => .box t (mL ρ cs)
  | .row e nb rows => .row e nb (rows.map (mL ρ))
  | .map es => .map (es.map fun e => (mA ρ e.1, mA ρ e.2))
  | .gone => .gone
  | .iter d n s => .iter (d.map ρ) n s
/-- Where the blocks of the footprint lie; what is new comes behind all others. -/
def rn (l : List Nat) (L : Nat) (i : Nat) : Nat := match l[i]? with | some j => j | none => L + (i - l.length)
/-- The blocks of the footprint, laid back among the others. -/
def putB (H : List Blk) : List Nat → List Blk → List Blk
  | [], new => H ++ new
  | i :: l, b :: bs => putB (H.set i b) l bs
  | _ :: _, [] => H
section
variable {ρ : Nat → Nat}
theorem mL_get : ∀ (l : List AV) (j : Nat), (mL ρ l)[j]? = (l[j]?).map (mA ρ) := by
  intro l
  induction l with
  | nil => intro j; simp [mL]
  | cons x l ih =>
    intro j
    cases j with
    | zero => simp [mL]
    | succ j => simpa [mL] using ih j
theorem mL_len : ∀ (l : List AV), (mL ρ l).length = l.length := by
  intro l
  induction l with
  | nil => rfl
  | cons x l ih => simp [mL, ih]
theorem RO.m {w : World} {X : Nat → Prop} {x : AV} {v : Value} (h : RO w X x v) : RO w X (mA ρ x) v := by
  induction h with
  | any => exact .any
  | und => exact .und
  | int => exact .int
  | bool => exact .bool
  | str => exact .str
  | nilp => exact .nilp
  | nils => exact .nils
  | nilc => exact .nilc
  | nec => exact .nec
  | nilf => exact .nilf
  | nilm => exact .nilm
  | yl => exact .yl
  | rp f hb hx hc h _ => exact .rp f hb hx hc h
  | rs sz f hn hcap hA h _ => exact .rs sz f hn hcap hA h
  | fb hl h _ => exact .fb hl h
  | agg hl h1 _ ih =>
    refine .agg (by rw [mL_len]; exact hl) h1 fun j x v h2 h3 => ?_
    rw [mL_get, Option.map_eq_some_iff] at h2
    obtain ⟨y, h4, rfl⟩ := h2
    exact ih j y v h4 h3
  | tup hl _ ih =>
    refine .tup (by rw [mL_len]; exact hl) fun j x v h2 h3 => ?_
    rw [mL_get, Option.map_eq_some_iff] at h2
    obtain ⟨y, h4, rfl⟩ := h2
    exact ih j y v h4 h3
  | fn hl _ ih =>
    refine .fn (by rw [mL_len]; exact hl) fun j x v h2 h3 => ?_
    rw [mL_get, Option.map_eq_some_iff] at h2
    obtain ⟨y, h4, rfl⟩ := h2
    exact ih j y v h4 h3
theorem RO.unm {w : World} {X : Nat → Prop} {y : AV} {v : Value} (h : RO w X y v) : ∀ {x : AV}, y = mA ρ x → RO w X x v := by
  induction h with
  | agg hl h1 _ ih =>
    intro x hx
    cases x <;> simp [mA] at hx
    rename_i l
    subst hx
    exact .agg (by rw [← hl, mL_len]) h1 fun j x v h2 h3 => ih j (mA ρ x) v (by rw [mL_get, h2]; rfl) h3 rfl
  | tup hl _ ih =>
    intro x hx
    cases x <;> simp [mA] at hx
    rename_i l
    subst hx
    exact .tup (by rw [← hl, mL_len]) fun j x v h2 h3 => ih j (mA ρ x) v (by rw [mL_get, h2]; rfl) h3 rfl
  | fn hl _ ih =>
    intro x hx
    cases x <;> simp [mA] at hx
    rename_i l
    obtain ⟨rfl, rfl⟩ := hx
    exact .fn (by rw [← hl, mL_len]) fun j x v h2 h3 => ih j (mA ρ x) v (by rw [mL_get, h2]; rfl) h3 rfl
  | any => intro x hx; cases x <;> simp [mA] at hx; exact .any
  | und => intro x hx; cases x <;> simp [mA] at hx; exact .und
  | int => intro x hx; cases x <;> simp [mA] at hx; obtain ⟨rfl, rfl⟩ := hx; exact .int
  | bool => intro x hx; cases x <;> simp [mA] at hx; subst hx; exact .bool
  | str => intro x hx; cases x <;> simp [mA] at hx; subst hx; exact .str
  | nilp => intro x hx; cases x <;> simp [mA] at hx; exact .nilp
  | nils => intro x hx; cases x <;> simp [mA] at hx; exact .nils
  | nilc => intro x hx; cases x <;> simp [mA] at hx; exact .nilc
  | nec => intro x hx; cases x <;> simp [mA] at hx; exact .nec
  | nilf => intro x hx; cases x <;> simp [mA] at hx; exact .nilf
  | nilm => intro x hx; cases x <;> simp [mA] at hx; exact .nilm
  | yl => intro x hx; cases x <;> simp [mA] at hx; subst hx; exact .yl
  | rp f hb hxx hc h _ => intro x hx; cases x <;> simp [mA] at hx; subst hx; exact .rp f hb hxx hc h
  | rs sz f hn hcap hA h _ => intro x hx; cases x <;> simp [mA] at hx; subst hx; exact .rs sz f hn hcap hA h
  | fb hl h _ => intro x hx; cases x <;> simp [mA] at hx; obtain ⟨rfl, rfl⟩ := hx; exact .fb hl h
end
section
variable {P : Program} {w : World} {X : Nat → Prop}
/-- What is held by blocks H0 is held by H, where these lie there under other numbers. -/
theorem RV.ren {ρ : Nat → Nat} {φ φ0 : Nat → Option Nat} {H H0 : List Blk} {Z : Nat → Prop} (hH : ∀ id, id < H0.length → ρ id < H.length ∧ ∃ b, H0[id]? = some b ∧ H[ρ id]? = some (mB ρ b)) (hφ : ∀ id, id < H0.length → φ (ρ id) = φ0 id)
    (hZ : ∀ b, (X b ∨ ∃ id, φ id = some b) → Z b ∨ ∃ id, φ0 id = some b) {x : AV} {v : Value} (h : RV P w Z φ0 H0 x v) : RV P w X φ H (mA ρ x) v := by
  induction h with
  | ro h => exact .ro ((h.weaken fun b hb => hZ b hb).m)
  | @op id o v h0 hid h =>
    obtain ⟨h1, b, h2, h3⟩ := hH id hid
    refine .op h0 h1 fun t cs hb => ?_
    rw [h3] at hb
    cases b <;> simp [mB] at hb
    obtain ⟨rfl, rfl⟩ := hb
    obtain ⟨c, h4, h5⟩ := h _ _ h2
    exact ⟨c, by rw [hφ id hid]; exact h4, h5⟩
  | @ep id n i o v h0 hid h =>
    obtain ⟨h1, b, h2, h3⟩ := hH id hid
    refine .ep h0 h1 fun e nb rows hb => ?_
    rw [h3] at hb
    cases b <;> simp [mB] at hb
    obtain ⟨rfl, rfl, rfl⟩ := hb
    obtain ⟨h4, h5⟩ := h _ _ _ h2
    refine ⟨by simpa using h4, fun hn => ?_⟩
    obtain ⟨c, h6, h7⟩ := h5 (by simpa using hn)
    exact ⟨c, by rw [hφ id hid]; exact h6, h7⟩
  | @os id n v h0 hid h =>
    obtain ⟨h1, b, h2, h3⟩ := hH id hid
    refine .os h0 h1 fun e nb rows hb => ?_
    rw [h3] at hb
    cases b <;> simp [mB] at hb
    obtain ⟨rfl, rfl, rfl⟩ := hb
    obtain ⟨h4, h5⟩ := h _ _ _ h2
    refine ⟨by simpa using h4, fun hn => ?_⟩
    rw [hφ id hid]
    exact h5 (by simpa using hn)
  | @ow id n lo hi v h0 hid h =>
    obtain ⟨h1, b, h2, h3⟩ := hH id hid
    refine .ow h0 h1 fun e nb rows hb => ?_
    rw [h3] at hb
    cases b <;> simp [mB] at hb
    obtain ⟨rfl, rfl, rfl⟩ := hb
    obtain ⟨h4, h5⟩ := h _ _ _ h2
    refine ⟨by simpa using h4, fun hn => ?_⟩
    rw [hφ id hid]
    exact h5 (by simpa using hn)
  | @mp id v h0 hid h =>
    obtain ⟨h1, b, h2, h3⟩ := hH id hid
    refine .mp h0 h1 fun es hb => ?_
    rw [h3] at hb
    cases b <;> simp [mB] at hb
    obtain ⟨c, h4, h5⟩ := h _ h2
    exact ⟨c, by rw [hφ id hid]; exact h4, h5⟩
  | @ent id i v h0 hid h =>
    obtain ⟨h1, b, h2, h3⟩ := hH id hid
    refine .ent h0 h1 fun es hb => ?_
    rw [h3] at hb
    cases b <;> simp [mB] at hb
    obtain ⟨c, ents, clock, ent, h4, h5⟩ := h _ h2
    exact ⟨c, ents, clock, ent, by rw [hφ id hid]; exact h4, h5⟩
  | @it id v h0 hid h =>
    obtain ⟨h1, b, h2, h3⟩ := hH id hid
    refine .it h0 h1 fun d n s hb => ?_
    rw [h3] at hb
    cases b <;> simp [mB] at hb
    obtain ⟨c, h4, h5⟩ := h _ _ _ h2
    exact ⟨c, by rw [hφ id hid]; exact h4, h5⟩
  | agg hl h1 _ ih =>
    refine .agg (by rw [mL_len]; exact hl) h1 fun j x v h2 h3 => ?_
    rw [mL_get, Option.map_eq_some_iff] at h2
    obtain ⟨y, h4, rfl⟩ := h2
    exact ih j y v h4 h3
  | tup hl _ ih =>
    refine .tup (by rw [mL_len]; exact hl) fun j x v h2 h3 => ?_
    rw [mL_get, Option.map_eq_some_iff] at h2
    obtain ⟨y, h4, rfl⟩ := h2
    exact ih j y v h4 h3
  | fn hl _ ih =>
    refine .fn (by rw [mL_len]; exact hl) fun j x v h2 h3 => ?_
    rw [mL_get, Option.map_eq_some_iff] at h2
    obtain ⟨y, h4, rfl⟩ := h2
    exact ih j y v h4 h3
/-- The other way. -/
theorem RV.unren {ρ : Nat → Nat} {φ φ0 : Nat → Option Nat} {H H0 : List Blk} {Z : Nat → Prop} (hH : ∀ id b, H0[id]? = some b → H[ρ id]? = some (mB ρ b)) (hφ : ∀ id, id < H0.length → φ (ρ id) = φ0 id) (hlt : ∀ id, H0.length ≤ id → H.length ≤ ρ id)
    (hZ : ∀ b, (Z b ∨ ∃ id, φ0 id = some b) → X b ∨ ∃ id, φ id = some b) {y : AV} {v : Value} (h : RV P w X φ H y v) : ∀ {x : AV}, y = mA ρ x → RV P w Z φ0 H0 x v := by
  have hl : ∀ id, ρ id < H.length → id < H0.length := fun id h => by
    by_cases hh : id < H0.length
    · exact hh
    · have := hlt id (by omega); omega
  induction h with
  | ro h => intro x hx; exact .ro ((h.unm hx).weaken fun b hb => hZ b hb)
  | @op id o v h0 hid h =>
    intro x hx
    cases x <;> simp [mA] at hx
    rename_i i o'
    obtain ⟨rfl, rfl⟩ := hx
    have hi := hl i hid
    refine .op h0 hi fun t cs hb => ?_
    obtain ⟨c, h4, h5⟩ := h _ _ (hH i _ hb)
    exact ⟨c, by rw [← hφ i hi]; exact h4, h5⟩
  | @ep id n j o v h0 hid h =>
    intro x hx
    cases x <;> simp [mA] at hx
    rename_i i n' j' o'
    obtain ⟨rfl, rfl, rfl, rfl⟩ := hx
    have hi := hl i hid
    refine .ep h0 hi fun e nb rows hb => ?_
    obtain ⟨h4, h5⟩ := h _ _ _ (hH i _ hb)
    refine ⟨by simpa using h4, fun hn => ?_⟩
    obtain ⟨c, h6, h7⟩ := h5 (by simpa using hn)
    exact ⟨c, by rw [← hφ i hi]; exact h6, h7⟩
  | @os id n v h0 hid h =>
    intro x hx
    cases x <;> simp [mA] at hx
    rename_i i n'
    obtain ⟨rfl, rfl⟩ := hx
    have hi := hl i hid
    refine .os h0 hi fun e nb rows hb => ?_
    obtain ⟨h4, h5⟩ := h _ _ _ (hH i _ hb)
    refine ⟨by simpa using h4, fun hn => ?_⟩
    rw [← hφ i hi]
    exact h5 (by simpa using hn)
  | @ow id n lo hi v h0 hid h =>
    intro x hx
    cases x <;> simp [mA] at hx
    rename_i i n' lo' hi'
    obtain ⟨rfl, rfl, rfl, rfl⟩ := hx
    have hi := hl i hid
    refine .ow h0 hi fun e nb rows hb => ?_
    obtain ⟨h4, h5⟩ := h _ _ _ (hH i _ hb)
    refine ⟨by simpa using h4, fun hn => ?_⟩
    rw [← hφ i hi]
    exact h5 (by simpa using hn)
  | @mp id v h0 hid h =>
    intro x hx
    cases x <;> simp [mA] at hx
    rename_i i
    subst hx
    have hi := hl i hid
    refine .mp h0 hi fun es hb => ?_
    obtain ⟨c, h4, h5⟩ := h _ (hH i _ hb)
    exact ⟨c, by rw [← hφ i hi]; exact h4, h5⟩
  | @ent id j v h0 hid h =>
    intro x hx
    cases x <;> simp [mA] at hx
    rename_i i j'
    obtain ⟨rfl, rfl⟩ := hx
    have hi := hl i hid
    refine .ent h0 hi fun es hb => ?_
    obtain ⟨c, ents, clock, ent, h4, h5⟩ := h _ (hH i _ hb)
    exact ⟨c, ents, clock, ent, by rw [← hφ i hi]; exact h4, h5⟩
  | @it id v h0 hid h =>
    intro x hx
    cases x <;> simp [mA] at hx
    rename_i i
    subst hx
    have hi := hl i hid
    refine .it h0 hi fun d n s hb => ?_
    obtain ⟨c, h4, h5⟩ := h _ _ _ (hH i _ hb)
    exact ⟨c, by rw [← hφ i hi]; exact h4, h5⟩
  | agg hl2 h1 _ ih =>
    intro x hx
    cases x <;> simp [mA] at hx
    subst hx
    exact .agg (by rw [← hl2, mL_len]) h1 fun j x v h2 h3 => ih j (mA ρ x) v (by rw [mL_get, h2]; rfl) h3 rfl
  | tup hl2 _ ih =>
    intro x hx
    cases x <;> simp [mA] at hx
    subst hx
    exact .tup (by rw [← hl2, mL_len]) fun j x v h2 h3 => ih j (mA ρ x) v (by rw [mL_get, h2]; rfl) h3 rfl
  | fn hl2 _ ih =>
    intro x hx
    cases x <;> simp [mA] at hx
    obtain ⟨rfl, rfl⟩ := hx
    exact .fn (by rw [← hl2, mL_len]) fun j x v h2 h3 => ih j (mA ρ x) v (by rw [mL_get, h2]; rfl) h3 rfl
theorem BlkOk.ren {ρ : Nat → Nat} {φ φ0 : Nat → Option Nat} {H H0 : List Blk} {Z : Nat → Prop} {c : Nat} {b : Blk} (hit : ∀ mid, mid < H0.length → ρ mid < H.length ∧ φ (ρ mid) = φ0 mid ∧ ∀ es, H[ρ mid]? = some (.map es) → ∃ es0, H0[mid]? = some (.map es0)) (hrv : ∀ x v, RV P w Z φ0 H0 x v → RV P w X φ H (mA ρ x) v) (h : BlkOk P w Z φ0 H0 c b) : BlkOk P w X φ H c (mB ρ b) := by
  cases b with
  | gone => trivial
  | iter d n s =>
    cases d with
    | none => exact h
    | some mid =>
      obtain ⟨d, since, seenA, stepped, B, q1, q2, q3, q4, q5, q6, q7, q8⟩ := h
      obtain ⟨k1, k2, k3⟩ := hit mid q7
      refine ⟨d, since, seenA, stepped, B, q1, q2, q3, q4, q5, q6, k1, fun es hes => ?_⟩
      obtain ⟨es0, k4⟩ := k3 es hes
      obtain ⟨r1, r2⟩ := q8 es0 k4
      exact ⟨by rw [k2]; exact r1, r2⟩
  | box t cs =>
    obtain ⟨cur, q1, q2, q3⟩ := h
    refine ⟨cur, q1, by rw [mL_len]; exact q2, fun j x u hx hu => ?_⟩
    rw [mL_get, Option.map_eq_some_iff] at hx
    obtain ⟨y, h4, rfl⟩ := hx
    exact ⟨hrv _ _ (q3 j y u h4 hu).1, (q3 j y u h4 hu).2⟩
  | row e nb rows =>
    obtain ⟨cur, q1, q2, q3, q4⟩ := h
    refine ⟨cur, q1, fun row hrow => ?_, by simpa using q3, fun i' j row x u h5 hx hu => ?_⟩
    · obtain ⟨row', h5, rfl⟩ := List.mem_map.1 hrow
      rw [mL_len]; exact q2 row' h5
    · rw [List.getElem?_map, Option.map_eq_some_iff] at h5
      obtain ⟨row', h6, rfl⟩ := h5
      rw [mL_get, Option.map_eq_some_iff] at hx
      obtain ⟨y, h4, rfl⟩ := hx
      exact ⟨hrv _ _ (q4 i' j row' y u h6 h4 hu).1, (q4 i' j row' y u h6 h4 hu).2⟩
  | map es =>
    obtain ⟨ents, clock, q1, q2, q3, q4, q5⟩ := h
    refine ⟨ents, clock, q1, by simpa using q2, q3, q4, fun i' k x ent h5 h6 => ?_⟩
    rw [List.getElem?_map, Option.map_eq_some_iff] at h5
    obtain ⟨e, h7, h8⟩ := h5
    simp at h8
    obtain ⟨rfl, rfl⟩ := h8
    have := q5 i' e.1 e.2 ent h7 h6
    exact ⟨hrv _ _ this.1, hrv _ _ this.2⟩
theorem BlkOk.unren {ρ : Nat → Nat} {φ φ0 : Nat → Option Nat} {H H0 : List Blk} {Z : Nat → Prop} {c : Nat} {b : Blk} (hit : ∀ mid, ρ mid < H.length → mid < H0.length ∧ φ (ρ mid) = φ0 mid ∧ ∀ es0, H0[mid]? = some (.map es0) → ∃ es, H[ρ mid]? = some (.map es)) (hrv : ∀ x v, RV P w X φ H (mA ρ x) v → RV P w Z φ0 H0 x v) (h : BlkOk P w X φ H c (mB ρ b)) : BlkOk P w Z φ0 H0 c b := by
  cases b with
  | gone => trivial
  | iter d n s =>
    cases d with
    | none => exact h
    | some mid =>
      obtain ⟨d, since, seenA, stepped, B, q1, q2, q3, q4, q5, q6, q7, q8⟩ := h
      obtain ⟨k1, k2, k3⟩ := hit mid q7
      refine ⟨d, since, seenA, stepped, B, q1, q2, q3, q4, q5, q6, k1, fun es hes => ?_⟩
      obtain ⟨es0, k4⟩ := k3 es hes
      obtain ⟨r1, r2⟩ := q8 es0 k4
      exact ⟨by rw [← k2]; exact r1, r2⟩
  | box t cs =>
    obtain ⟨cur, q1, q2, q3⟩ := h
    rw [mL_len] at q2
    exact ⟨cur, q1, q2, fun j x u hx hu => ⟨hrv _ _ (q3 j (mA ρ x) u (by rw [mL_get, hx]; rfl) hu).1, (q3 j (mA ρ x) u (by rw [mL_get, hx]; rfl) hu).2⟩⟩
  | row e nb rows =>
    obtain ⟨cur, q1, q2, q3, q4⟩ := h
    refine ⟨cur, q1, fun row hrow => ?_, by simpa using q3, fun i' j row x u h5 hx hu => ?_⟩
    · have := q2 (mL ρ row) (List.mem_map_of_mem hrow)
      rw [mL_len] at this; exact this
    · have := q4 i' j (mL ρ row) (mA ρ x) u (by rw [List.getElem?_map, h5]; rfl) (by rw [mL_get, hx]; rfl) hu
      exact ⟨hrv _ _ this.1, this.2⟩
  | map es =>
    obtain ⟨ents, clock, q1, q2, q3, q4, q5⟩ := h
    refine ⟨ents, clock, q1, by simpa using q2, q3, q4, fun i' k x ent h5 h6 => ?_⟩
    have := q5 i' (mA ρ k) (mA ρ x) ent (by rw [List.getElem?_map, h5]; rfl) h6
    exact ⟨hrv _ _ this.1, hrv _ _ this.2⟩
end
section
theorem putB_len : ∀ (l : List Nat) (H bs : List Blk), l.length ≤ bs.length → (putB H l bs).length = H.length + (bs.length - l.length) := by
  intro l
  induction l with
  | nil => intro H bs _; simp [putB]
  | cons i l ih =>
    intro H bs h
    cases bs with
    | nil => simp at h
    | cons b bs => simp only [putB]; rw [ih _ _ (by simpa using h)]; simp
theorem putB_old : ∀ (l : List Nat) (H bs : List Blk), l.length ≤ bs.length → ∀ id, id < H.length → id ∉ l → (putB H l bs)[id]? = H[id]? := by
  intro l
  induction l with
  | nil => intro H bs _ id h _; simp only [putB]; exact List.getElem?_append_left h
  | cons i l ih =>
    intro H bs hl id h hn
    cases bs with
    | nil => simp at hl
    | cons b bs =>
      simp only [List.mem_cons, not_or] at hn
      simp only [putB]
      rw [ih _ _ (by simpa using hl) id (by simpa using h) hn.2, List.getElem?_set_ne (fun e => hn.1 e.symm)]
theorem putB_at : ∀ (l : List Nat) (H bs : List Blk), l.length ≤ bs.length → l.Nodup → (∀ i ∈ l, i < H.length) → ∀ (j : Nat) i, l[j]? = some i → (putB H l bs)[i]? = bs[j]? := by
  intro l
  induction l with
  | nil => intro H bs _ _ _ j i h; simp at h
  | cons i0 l ih =>
    intro H bs hl hn hlt j i hj
    cases bs with
    | nil => simp at hl
    | cons b bs =>
      simp only [putB]
      rw [List.nodup_cons] at hn
      cases j with
      | zero =>
        simp at hj
        subst hj
        rw [putB_old _ _ _ (by simpa using hl) _ (by simpa using hlt i0 (by simp)) hn.1]
        have := hlt i0 (by simp)
        simp [this]
      | succ j =>
        simp at hj
        simpa using ih (H.set i0 b) bs (by simpa using hl) hn.2 (fun i hi => by simpa using hlt i (by simp [hi])) j i hj
theorem putB_new : ∀ (l : List Nat) (H bs : List Blk), l.length ≤ bs.length → ∀ k, (putB H l bs)[H.length + k]? = bs[l.length + k]? := by
  intro l
  induction l with
  | nil => intro H bs _ k; simp only [putB]; rw [List.getElem?_append_right (by omega)]; simp
  | cons i l ih =>
    intro H bs hl k
    cases bs with
    | nil => simp at hl
    | cons b bs =>
      have := ih (H.set i b) bs (by simpa using hl) k
      simp only [List.length_set] at this
      simp only [putB, List.length_cons]
      rw [this, show l.length + 1 + k = (l.length + k) + 1 by omega]
      simp
end
section
variable {P : Program}
/-- **What is said of a few blocks serves wherever these lie.** H0: the footprint; it lies at the places l. -/
theorem foot_G {g : FuncId} {args0 : List AV} {H0 : List Blk} {K0 : AV → List Blk → Prop} (h : CallG P g args0 H0 K0) {H : List Blk} (l : List Nat) (hl : l.length = H0.length) (hn : l.Nodup) (hlt : ∀ i ∈ l, i < H.length)
    (hH : ∀ (j : Nat) i b, l[j]? = some i → H0[j]? = some b → H[i]? = some (mB (rn l H.length) b)) {args : List AV} (ha : args = mL (rn l H.length) args0) {K : AV → List Blk → Prop}
    (hK : ∀ r H', H0.length ≤ H'.length → K0 r H' → K (mA (rn l H.length) r) (putB H l (H'.map (mB (rn l H.length))))) : CallG P g args H K := by
  subst ha
  have hρ : ∀ id, id < H0.length → ∃ i, l[id]? = some i ∧ rn l H.length id = i ∧ i < H.length := fun id hid => by
    have : id < l.length := by omega
    exact ⟨l[id], List.getElem?_eq_getElem this, by simp [rn, List.getElem?_eq_getElem this], hlt _ (List.getElem_mem this)⟩
  have hρ2 : ∀ id, H0.length ≤ id → rn l H.length id = H.length + (id - H0.length) := fun id hid => by
    unfold rn
    rw [List.getElem?_eq_none (by omega), hl]
  have hinj : ∀ i j, rn l H.length i = rn l H.length j → i = j := fun i j e => by
    by_cases hi : i < H0.length <;> by_cases hj : j < H0.length
    · obtain ⟨a, h1, h2, h3⟩ := hρ i hi
      obtain ⟨b, h4, h5, h6⟩ := hρ j hj
      rw [h2, h5] at e
      subst e
      exact (List.getElem?_inj (by omega) hn).1 (h1.trans h4.symm)
    · obtain ⟨a, h1, h2, h3⟩ := hρ i hi
      have := hρ2 j (by omega); omega
    · obtain ⟨a, h1, h2, h3⟩ := hρ j hj
      have := hρ2 i (by omega); omega
    · have := hρ2 i (by omega); have := hρ2 j (by omega); omega
  have hmem : ∀ id, id ∈ l ↔ ∃ i, i < H0.length ∧ rn l H.length i = id := fun id => by
    constructor
    · intro h
      obtain ⟨j, hj, rfl⟩ := List.getElem_of_mem h
      exact ⟨j, by omega, by simp [rn, List.getElem?_eq_getElem hj]⟩
    · rintro ⟨i, hi, rfl⟩
      obtain ⟨a, h1, h2, _⟩ := hρ i hi
      rw [h2]; exact List.mem_of_getElem? h1
  have hHH : ∀ id b, H0[id]? = some b → H[rn l H.length id]? = some (mB (rn l H.length) b) := fun id b hb => by
    have hid := (List.getElem?_eq_some_iff.1 hb).1
    obtain ⟨i, h1, h2, _⟩ := hρ id hid
    rw [h2]; exact hH id i b h1 hb
  obtain ⟨h1, h2⟩ := h
  refine ⟨h1, fun w0 w X φ vs hr hlen hv => ?_⟩
  -- the footprint's own view
  let φ0 : Nat → Option Nat := fun i => if i < H0.length then φ (rn l H.length i) else none
  let Z : Nat → Prop := fun b => X b ∨ ∃ id, φ id = some b ∧ id ∉ l
  have hφ0 : ∀ id, id < H0.length → φ (rn l H.length id) = φ0 id := fun id hid => by simp [φ0, hid]
  have hφ0' : ∀ id c, φ0 id = some c → id < H0.length ∧ φ (rn l H.length id) = some c := fun id c hc => by
    simp only [φ0] at hc
    split at hc
    · exact ⟨by assumption, hc⟩
    · simp at hc
  have hZ1 : ∀ b, (Z b ∨ ∃ id, φ0 id = some b) → X b ∨ ∃ id, φ id = some b := fun b hb => by
    rcases hb with (hb | ⟨id, hb, _⟩) | ⟨id, hb⟩
    · exact .inl hb
    · exact .inr ⟨id, hb⟩
    · exact .inr ⟨_, (hφ0' id b hb).2⟩
  have hun : ∀ x v, RV P w X φ H (mA (rn l H.length) x) v → RV P w Z φ0 H0 x v := fun x v h => RV.unren hHH hφ0 (fun id hid => by rw [hρ2 id hid]; omega) hZ1 h rfl
  have hr0 : HR P w0 Z w φ0 H0 := by
    refine ⟨hr.vo.more fun b hl hb => ?_, hr.fr, fun b hb => ?_, fun id c hc => ?_, fun i j c hi hj => ?_, fun id b c hb hc => ?_⟩
    · rcases hb with hb | ⟨id, hb, hnm⟩
      · exact hb
      · have := (hr.own id b hb).1; omega
    · rcases hb with hb | ⟨id, hb, hnm⟩
      · exact ⟨(hr.ext b hb).1, fun i hi => (hr.ext b hb).2 _ (hφ0' i b hi).2⟩
      · refine ⟨(hr.own id b hb).2.1, fun i hi => ?_⟩
        obtain ⟨k1, k2⟩ := hφ0' i b hi
        have := hr.inj _ _ b hb k2
        exact hnm ((hmem id).2 ⟨i, k1, this.symm⟩)
    · obtain ⟨k1, k2⟩ := hφ0' id c hc
      exact ⟨(hr.own _ c k2).1, (hr.own _ c k2).2.1, k1⟩
    · exact hinj i j (hr.inj _ _ c (hφ0' i c hi).2 (hφ0' j c hj).2)
    · refine BlkOk.unren (fun mid hm => ?_) hun (hr.blk _ _ c (hHH id b hb) (hφ0' id c hc).2)
      have hm0 : mid < H0.length := by
        by_cases hh : mid < H0.length
        · exact hh
        · rw [hρ2 mid (by omega)] at hm; omega
      exact ⟨hm0, hφ0 mid hm0, fun es0 h0 => ⟨_, hHH mid _ h0⟩⟩
  refine (h2 w0 w Z φ0 vs hr0 (by rw [← hlen, mL_len]) fun j x v hx hu => hun x v (hv j (mA (rn l H.length) x) v (by rw [mL_get, hx]; rfl) hu)).mono ?_
  rintro e w' ⟨v, r, φ1, H1, rfl, hr1, hT, hrv, hk⟩
  have hlen1 := hT.len
  -- all blocks again
  let φ' : Nat → Option Nat := fun id => if id < H.length then (if id ∈ l then φ1 (l.idxOf id) else φ id) else φ1 (id - H.length + H0.length)
  have hput := putB_len l H (H1.map (mB (rn l H.length))) (by simp; omega)
  simp only [List.length_map] at hput
  have hidx : ∀ i, i < H0.length → l.idxOf (rn l H.length i) = i := fun i hi => by
    obtain ⟨a, q1, q2, _⟩ := hρ i hi
    rw [q2]
    have hil : i < l.length := by omega
    have : l[i] = a := by rw [List.getElem?_eq_getElem hil] at q1; simpa using q1
    rw [← this]
    exact hn.idxOf_getElem i hil
  have hφ1 : ∀ id, id < H1.length → φ' (rn l H.length id) = φ1 id := fun id hid => by
    by_cases hi : id < H0.length
    · obtain ⟨a, q1, q2, q3⟩ := hρ id hi
      simp only [φ']
      rw [if_pos (by rw [q2]; exact q3), if_pos ((hmem _).2 ⟨id, hi, rfl⟩), hidx id hi]
    · rw [hρ2 id (by omega)]
      simp only [φ']
      rw [if_neg (by omega)]
      congr 1; omega
  have hφold : ∀ id, id < H.length → id ∉ l → φ' id = φ id := fun id hi hm => by simp only [φ']; rw [if_pos hi, if_neg hm]
  have hcase : ∀ id c, φ' id = some c → (id < H.length ∧ id ∉ l ∧ φ id = some c) ∨ ∃ i, i < H1.length ∧ rn l H.length i = id ∧ φ1 i = some c := fun id c hc => by
    simp only [φ'] at hc
    split at hc
    · rename_i hi
      split at hc
      · rename_i hm
        obtain ⟨i, k1, rfl⟩ := (hmem id).1 hm
        rw [hidx i k1] at hc
        exact .inr ⟨i, by omega, rfl, hc⟩
      · rename_i hm; exact .inl ⟨hi, hm, hc⟩
    · rename_i hi
      have := (hr1.own _ c hc).2.2
      exact .inr ⟨_, this, by rw [hρ2 _ (by omega)]; omega, hc⟩
  have hHnew : ∀ id, id < H1.length → rn l H.length id < (putB H l (H1.map (mB (rn l H.length)))).length ∧ ∃ b, H1[id]? = some b ∧ (putB H l (H1.map (mB (rn l H.length))))[rn l H.length id]? = some (mB (rn l H.length) b) := fun id hid => by
    have hb : H1[id]? = some H1[id] := List.getElem?_eq_getElem hid
    by_cases hi : id < H0.length
    · obtain ⟨a, q1, q2, q3⟩ := hρ id hi
      rw [q2]
      refine ⟨by rw [hput]; omega, _, hb, ?_⟩
      rw [putB_at l H _ (by simp; omega) hn hlt id a q1, List.getElem?_map, hb]; rfl
    · rw [hρ2 id (by omega)]
      refine ⟨by rw [hput]; omega, _, hb, ?_⟩
      rw [putB_new l H _ (by simp; omega), show l.length + (id - H0.length) = id by omega, List.getElem?_map, hb]; rfl
  have hold : ∀ id, id < H.length → id ∉ l → (putB H l (H1.map (mB (rn l H.length))))[id]? = H[id]? := fun id hi hm => putB_old l H _ (by simp; omega) id hi hm
  have hZ2 : ∀ b, (X b ∨ ∃ id, φ' id = some b) → Z b ∨ ∃ id, φ1 id = some b := fun b hb => by
    rcases hb with hb | ⟨id, hb⟩
    · exact .inl (.inl hb)
    · rcases hcase id b hb with ⟨_, k2, k3⟩ | ⟨i, _, _, k3⟩
      · exact .inl (.inr ⟨id, k3, k2⟩)
      · exact .inr ⟨i, k3⟩
  have hren : ∀ x v, RV P w' Z φ1 H1 x v → RV P w' X φ' (putB H l (H1.map (mB (rn l H.length)))) (mA (rn l H.length) x) v := fun x v h => RV.ren hHnew hφ1 hZ2 h
  have hfoot : ∀ id, id < H.length → id ∈ l → ∃ i, i < H0.length ∧ rn l H.length i = id := fun id _ h => (hmem id).1 h
  have hTT : Turn w φ H w' φ' (putB H l (H1.map (mB (rn l H.length)))) := by
    refine ⟨hT.size, by rw [hput]; omega, fun b hb hbl => ?_, fun id t cs' hid hb => ?_, fun id e nb rows' hid hb => ?_, fun id es' hid hb => ?_, fun id d n s' hid hb => ?_⟩
    · obtain ⟨k1, k2⟩ := hT.old b (fun i hi => hb _ (hφ0' i b hi).2) hbl
      refine ⟨k1, fun id hid => ?_⟩
      rcases hcase id b hid with ⟨_, _, k3⟩ | ⟨i, _, _, k3⟩
      · exact hb id k3
      · exact k2 i k3
    · by_cases hm : id ∈ l
      · obtain ⟨i, q1, rfl⟩ := hfoot id hid hm
        obtain ⟨_, b, q2, q3⟩ := hHnew i (by omega)
        rw [q3] at hb
        cases b <;> simp [mB] at hb
        rename_i t' cs1
        obtain ⟨rfl, rfl⟩ := hb
        obtain ⟨cs0, q4, q5⟩ := hT.box i _ _ q1 q2
        exact ⟨_, hHH i _ q4, fun c hc => by rw [hφ1 i (by omega)]; exact q5 c (by rw [← hφ0 i q1]; exact hc)⟩
      · rw [hold id hid hm] at hb
        exact ⟨cs', hb, fun c hc => by rw [hφold id hid hm]; exact hc⟩
    · by_cases hm : id ∈ l
      · obtain ⟨i, q1, rfl⟩ := hfoot id hid hm
        obtain ⟨_, b, q2, q3⟩ := hHnew i (by omega)
        rw [q3] at hb
        cases b <;> simp [mB] at hb
        rename_i e' nb' rows1
        obtain ⟨rfl, rfl, rfl⟩ := hb
        obtain ⟨rows0, q4, q5, q6⟩ := hT.row i _ _ _ q1 q2
        refine ⟨_, hHH i _ q4, by simpa using q5, fun hrl => ?_⟩
        obtain ⟨q7, q8⟩ := q6 (by simpa using hrl)
        rw [hφ1 i (by omega), hφ0 i q1]
        exact ⟨q7, q8⟩
      · rw [hold id hid hm] at hb
        refine ⟨rows', hb, Nat.le_refl _, fun _ => ⟨fun _ h => by rw [hφold id hid hm]; exact h, fun c hc => ⟨by rw [hφold id hid hm]; exact hc, fun cur hcur => ⟨cur, ?_, rfl⟩⟩⟩⟩
        rw [(hT.old c (fun i hi => hm ((hmem id).2 ⟨i, (hφ0' i c hi).1, (hr.inj _ _ c (hφ0' i c hi).2 hc)⟩)) (hr.own id c hc).2.1).1]
        exact hcur
    · by_cases hm : id ∈ l
      · obtain ⟨i, q1, rfl⟩ := hfoot id hid hm
        obtain ⟨_, b, q2, q3⟩ := hHnew i (by omega)
        rw [q3] at hb
        cases b <;> simp [mB] at hb
        subst hb
        obtain ⟨es0, q4, q5⟩ := hT.map i _ q1 q2
        exact ⟨_, hHH i _ q4, fun c hc => by rw [hφ1 i (by omega)]; exact q5 c (by rw [← hφ0 i q1]; exact hc)⟩
      · rw [hold id hid hm] at hb
        exact ⟨es', hb, fun c hc => ⟨by rw [hφold id hid hm]; exact hc, bornK_same (hT.old c (fun i hi => hm ((hmem id).2 ⟨i, (hφ0' i c hi).1, (hr.inj _ _ c (hφ0' i c hi).2 hc)⟩)) (hr.own id c hc).2.1).1⟩⟩
    · by_cases hm : id ∈ l
      · obtain ⟨i, q1, rfl⟩ := hfoot id hid hm
        obtain ⟨_, b, q2, q3⟩ := hHnew i (by omega)
        rw [q3] at hb
        cases b <;> simp [mB] at hb
        obtain ⟨rfl, rfl, rfl⟩ := hb
        obtain ⟨m0, n0, s0, q4, q5⟩ := hT.iter i _ _ _ q1 q2
        exact ⟨_, _, _, hHH i _ q4, fun c hc => by rw [hφ1 i (by omega)]; exact q5 c (by rw [← hφ0 i q1]; exact hc)⟩
      · rw [hold id hid hm] at hb
        exact ⟨_, _, s', hb, fun c hc => by rw [hφold id hid hm]; exact hc⟩
  refine ⟨v, _, φ', _, rfl, ⟨hr.vo, hr1.fr, ext_turn hr hTT, fun id c hc => ?_, fun i j c hi hj => ?_, fun id b c hb hc => ?_⟩, hTT, hren _ _ hrv, hK r H1 hlen1 hk⟩
  · rcases hcase id c hc with ⟨k1, k2, k3⟩ | ⟨i, k1, rfl, k3⟩
    · exact ⟨(hr.own id c k3).1, Nat.lt_of_lt_of_le (hr.own id c k3).2.1 hT.size, by rw [hput]; omega⟩
    · exact ⟨(hr1.own i c k3).1, (hr1.own i c k3).2.1, (hHnew i k1).1⟩
  · have hX : ∀ id, id ∉ l → φ id = some c → ∀ k, φ1 k ≠ some c := fun id hm hc k hk => (hr1.ext c (.inr ⟨id, hc, hm⟩)).2 k hk
    rcases hcase i c hi with ⟨_, k2, k3⟩ | ⟨i', k1, rfl, k3⟩ <;> rcases hcase j c hj with ⟨_, m2, m3⟩ | ⟨j', m1, rfl, m3⟩
    · exact hr.inj i j c k3 m3
    · exact absurd m3 (hX i k2 k3 j')
    · exact absurd k3 (hX j m2 m3 i')
    · rw [hr1.inj i' j' c k3 m3]
  · rcases hcase id c hc with ⟨k1, k2, k3⟩ | ⟨i, k1, rfl, k3⟩
    · rw [hold id k1 k2] at hb
      refine (hr.blk id b c hb k3).turn hTT (hT.old c (fun i hi => ?_) (hr.own id c k3).2.1).1
      exact k2 ((hmem id).2 ⟨i, (hφ0' i c hi).1, hr.inj _ _ c (hφ0' i c hi).2 k3⟩)
    · obtain ⟨_, b1, q2, q3⟩ := hHnew i k1
      rw [q3] at hb
      simp at hb
      subst hb
      refine BlkOk.ren (fun mid hm => ⟨(hHnew mid hm).1, hφ1 mid hm, fun es hes => ?_⟩) hren (hr1.blk i b1 c q2 k3)
      obtain ⟨_, b2, r2, r3⟩ := hHnew mid hm
      rw [r3] at hes
      cases b2 <;> simp [mB] at hes
      exact ⟨_, r2⟩
/-- A contract with one outcome. -/
def Foot (P : Program) (g : FuncId) (args : List AV) (H0 : List Blk) (r : AV) (H1 : List Blk) : Prop := CallG P g args H0 fun r' H' => r' = r ∧ H' = H1
theorem foot_intro {L : Nat} {k : List Item} {s : St} {Q : Ex → St → Prop} {g : Nat} {caps args args0 : List AV} {r : AV} {H0 H1 : List Blk} {dst : Option Nat} {all rest : List Oper} (h : Foot P g args0 H0 r H1) (l : List Nat) (hl : l.length = H0.length) (hn : l.Nodup) (hlt : ∀ i ∈ l, i < s.H.length)
    (hH : l.map (fun i => s.H[i]?) = H0.map fun b => some (mB (rn l s.H.length) b)) (ha : args ++ caps = mL (rn l s.H.length) args0)
    (h3 : run P L (.ops false all rest :: k) ⟨tputD s.T dst (mA (rn l s.H.length) r), putB s.H l (H1.map (mB (rn l s.H.length)))⟩ Q) : callD P L (.fn g caps) args dst false all rest k s Q := by
  refine callG_intro (foot_G h l hl hn hlt (fun j i b hj hb => ?_) ha fun r' H' _ ⟨e1, e2⟩ => ?_)
  · have := congrArg (fun z : List (Option Blk) => z[j]?) hH
    simp only [List.getElem?_map, hj, hb, Option.map_some] at this
    simpa using this
  · subst e1 e2; exact h3
theorem foot_of (hm : P.follows .mixedOrders = true) {f : FuncId} {fn : Func} {c : Code} {args : List AV} {H0 H1 : List Blk} {r : AV} (hf : P.funcs[f]? = some fn) (hb : fn.body = some c) (he : entersB P f = true) (hn : args.length ≤ fn.ntmps) (hok : okCode fn.ntmps c = true)
    (h : vc P H0.length c ⟨argT 0 args, H0⟩ (endG P H0.length fn fun r' H' => r' = r ∧ H' = H1)) : Foot P f args H0 r H1 := inl_G hm hf hb he hn hok h
end
attribute [simp] mA mL mB rn putB shA shL shB
end Go.Proofs.YthiclaihlpkinaaGreat
namespace Go.Proofs.YthiclaihlpkinaaGreat
open Go.RowKit
variable [Glob]
section
variable {P : Program}
theorem Weak.trans {L : Nat} {s1 s2 s3 : St} (h1 : Weak P L s1 s2) (h2 : Weak P L s2 s3) : Weak P L s1 s3 := fun B w0 X N φ a w hB hr => by
  obtain ⟨φ', h⟩ := h1 B w0 X N φ a w hB hr
  exact h2 B w0 X N φ' a w hB h
/-- Block j of the new state is block l[j] of the old one. -/
theorem weak_ren {L : Nat} {s s' : St} (l : List Nat) (hl : l.length = s'.H.length) (hn : l.Nodup) (hlt : ∀ i ∈ l, i < s.H.length) (hL : ∀ i, i < L → i < s.H.length → l[i]? = some i)
    (hH : ∀ (i j : Nat) b, l[i]? = some j → s'.H[i]? = some b → s.H[j]? = some (mB (rn l s.H.length) b))
    (hT : ∀ k, tget s'.T k = .any ∨ tget s.T k = mA (rn l s.H.length) (tget s'.T k)) : Weak P L s s' := by
  intro B w0 X N φ a w hB hrel
  obtain ⟨T, H⟩ := s
  obtain ⟨T', H'⟩ := s'
  simp only at hl hlt hL hH hT
  have hρ : ∀ id, id < H'.length → ∃ i, l[id]? = some i ∧ rn l H.length id = i ∧ i < H.length := fun id hid => by
    have : id < l.length := by omega
    exact ⟨l[id], List.getElem?_eq_getElem this, by simp [rn, List.getElem?_eq_getElem this], hlt _ (List.getElem_mem this)⟩
  have hρ2 : ∀ id, H'.length ≤ id → rn l H.length id = H.length + (id - H'.length) := fun id hid => by
    unfold rn
    rw [List.getElem?_eq_none (by omega), hl]
  have hinj : ∀ i j, i < H'.length → j < H'.length → rn l H.length i = rn l H.length j → i = j := fun i j hi hj e => by
    obtain ⟨a, h1, h2, h3⟩ := hρ i hi
    obtain ⟨b, h4, h5, h6⟩ := hρ j hj
    rw [h2, h5] at e
    subst e
    exact (List.getElem?_inj (by omega) hn).1 (h1.trans h4.symm)
  have hHH : ∀ id b, H'[id]? = some b → H[rn l H.length id]? = some (mB (rn l H.length) b) := fun id b hb => by
    have hid := (List.getElem?_eq_some_iff.1 hb).1
    obtain ⟨i, h1, h2, _⟩ := hρ id hid
    rw [h2]; exact hH id i b h1 hb
  let φ0 : Nat → Option Nat := fun i => if i < H'.length then φ (rn l H.length i) else none
  have hφ0 : ∀ id, id < H'.length → φ (rn l H.length id) = φ0 id := fun id hid => by simp [φ0, hid]
  have hφ0' : ∀ id c, φ0 id = some c → id < H'.length ∧ φ (rn l H.length id) = some c := fun id c hc => by
    simp only [φ0] at hc
    split at hc
    · exact ⟨by assumption, hc⟩
    · simp at hc
  have hZ1 : ∀ b, (X b ∨ ∃ id, φ0 id = some b) → X b ∨ ∃ id, φ id = some b := fun b hb => by
    rcases hb with hb | ⟨id, hb⟩
    · exact .inl hb
    · exact .inr ⟨_, (hφ0' id b hb).2⟩
  have hun : ∀ x v, RV P w X φ H (mA (rn l H.length) x) v → RV P w X φ0 H' x v := fun x v h => RV.unren hHH hφ0 (fun id hid => by rw [hρ2 id hid]; omega) hZ1 h rfl
  have hr := hrel.hr
  have hBL : B.H.length ≤ H.length := hrel.tn.len
  have hfix : ∀ i, i < B.H.length → rn l H.length i = i ∧ i < H'.length := fun i hi => by
    have h1 := hL i (by omega) (by omega)
    have h2 := (List.getElem?_eq_some_iff.1 h1).1
    exact ⟨by unfold rn; rw [h1], by omega⟩
  have hfφ : ∀ i, i < B.H.length → φ0 i = φ i := fun i hi => by rw [← hφ0 i (hfix i hi).2, (hfix i hi).1]
  refine ⟨φ0, ⟨hr.vo, hr.fr, fun b hb => ⟨(hr.ext b hb).1, fun i hi => (hr.ext b hb).2 _ (hφ0' i b hi).2⟩, fun i c hc => ?_, fun i j c hi hj => ?_, fun i b' c hi hc => ?_⟩,
    ⟨hrel.tn.size, ?_, fun b hb hl => ?_, fun i t cs' hi hb' => ?_, fun i e nb rows' hi hb' => ?_, fun i es' hi hb' => ?_, fun i d n s' hi hb' => ?_⟩, fun k => ?_, hrel.size, hrel.df.sub fun i b hi => ⟨_, (hφ0' i b hi).2⟩⟩
  · obtain ⟨k1, k2⟩ := hφ0' i c hc
    exact ⟨(hr.own _ c k2).1, (hr.own _ c k2).2.1, k1⟩
  · exact hinj i j (hφ0' i c hi).1 (hφ0' j c hj).1 (hr.inj _ _ c (hφ0' i c hi).2 (hφ0' j c hj).2)
  · refine BlkOk.unren (fun mid hm => ?_) hun (hr.blk _ _ c (hHH i b' hi) (hφ0' i c hc).2)
    have hm0 : mid < H'.length := by
      by_cases hh : mid < H'.length
      · exact hh
      · rw [hρ2 mid (by omega)] at hm; omega
    exact ⟨hm0, hφ0 mid hm0, fun es0 h0 => ⟨_, hHH mid _ h0⟩⟩
  · simp only
    by_cases h : B.H.length = 0
    · omega
    · have := (hfix (B.H.length - 1) (by omega)).2; omega
  · obtain ⟨h1, h2⟩ := hrel.tn.old b hb hl
    exact ⟨h1, fun i hi => h2 _ (hφ0' i b hi).2⟩
  · have h3 := hHH i _ hb'
    rw [(hfix i hi).1] at h3
    obtain ⟨cs0, k1, k2⟩ := hrel.tn.box i _ _ hi h3
    exact ⟨cs0, k1, fun c hc => by rw [hfφ i hi]; exact k2 c hc⟩
  · have h3 := hHH i _ hb'
    rw [(hfix i hi).1] at h3
    obtain ⟨r0, k1, k2, k3⟩ := hrel.tn.row i _ _ _ hi h3
    exact ⟨r0, k1, by simpa using k2, fun hl => by rw [hfφ i hi]; exact k3 (by simpa using hl)⟩
  · have h3 := hHH i _ hb'
    rw [(hfix i hi).1] at h3
    obtain ⟨e0, k1, k2⟩ := hrel.tn.map i _ hi h3
    exact ⟨e0, k1, fun c hc => by rw [hfφ i hi]; exact k2 c hc⟩
  · have h3 := hHH i _ hb'
    rw [(hfix i hi).1] at h3
    obtain ⟨m0, n0, e0, k1, k2⟩ := hrel.tn.iter i _ _ _ hi h3
    exact ⟨m0, n0, e0, k1, fun c hc => by rw [hfφ i hi]; exact k2 c hc⟩
  · rcases hT k with h | h
    · rw [h]; exact .ro .any
    · have := hrel.t k
      simp only [h] at this
      exact hun _ _ this
/-- A state's slots, each the old one's with numbers turned. -/
def tEq (ρ : Nat → Nat) (T : List (Nat × AV)) : List (Nat × AV) → Prop
  | [] => True
  | (k, x) :: r => tget T k = mA ρ x ∧ tEq ρ T r
theorem tEq_get {ρ : Nat → Nat} {T : List (Nat × AV)} : ∀ {T' : List (Nat × AV)}, tEq ρ T T' → ∀ k, tget T' k = .any ∨ tget T k = mA ρ (tget T' k) := by
  intro T'
  induction T' with
  | nil => intro _ k; exact .inl rfl
  | cons p T' ih =>
    intro h k
    obtain ⟨j, x'⟩ := p
    obtain ⟨h1, h2⟩ := h
    simp only [tget]
    split
    · rename_i e; subst e; exact .inr h1
    · exact ih h2 k
/-- The block behind the first N of the new state stood t places further on: those between them are forgotten. -/
theorem weak_new {s s' : St} (N t : Nat) (G : List Blk) (b' : Blk) (h2 : s'.H = G ++ [b']) (hN : G.length = N) (hlt : N + t < s.H.length)
    (hc : ∀ ρ : Nat → Nat, (∀ i, i < N → ρ i = i) → ρ N = N + t → s.H.take N = G.map (mB ρ) ∧ s.H[N + t]? = some (mB ρ b') ∧ tEq ρ s.T s'.T) : Weak P 0 s s' := by
  have hr1 : ∀ i, i < N → rn (List.range N ++ [N + t]) s.H.length i = i := fun i hi => by
    unfold rn
    rw [List.getElem?_append_left (by simpa using hi), List.getElem?_range hi]
  have hr2 : rn (List.range N ++ [N + t]) s.H.length N = N + t := by
    unfold rn
    rw [List.getElem?_append_right (by simp)]
    simp
  obtain ⟨c1, c2, c3⟩ := hc _ hr1 hr2
  refine weak_ren (List.range N ++ [N + t]) (by simp [h2, hN]) ?_ (fun i hi => ?_) (fun i hi => absurd hi (Nat.not_lt_zero i)) (fun i j b hi hb => ?_) (tEq_get c3)
  · rw [List.nodup_append]
    exact ⟨List.nodup_range, by simp, fun a ha b hb => by simp at ha hb; omega⟩
  · simp only [List.mem_append, List.mem_range, List.mem_singleton] at hi
    omega
  · rw [h2] at hb
    by_cases h : i < N
    · rw [List.getElem?_append_left (by simpa using h), List.getElem?_range h] at hi
      rw [List.getElem?_append_left (by omega)] at hb
      simp only [Option.some.injEq] at hi
      subst hi
      have h3 := congrArg (fun z : List Blk => z[i]?) c1
      simp only [List.getElem?_map, hb, Option.map_some] at h3
      rw [List.getElem?_take_of_lt h] at h3
      exact h3
    · by_cases h' : i = N
      · subst h'
        rw [List.getElem?_append_right (by simp)] at hi
        rw [List.getElem?_append_right (by omega), hN] at hb
        simp at hi hb
        subst hi; subst hb
        exact c2
      · rw [List.getElem?_eq_none (by simp; omega)] at hb
        cases hb
theorem CallG.weaken {g : FuncId} {args : List AV} {H : List Blk} {K K' : AV → List Blk → Prop} (h : CallG P g args H K) (hk : ∀ r H', K r H' → K' r H') : CallG P g args H K' :=
  ⟨h.1, fun w0 w X φ vs hr hl hv => (h.2 w0 w X φ vs hr hl hv).mono fun e w' ⟨v, r, φ', H', h1, h2, h3, h4, h5⟩ => ⟨v, r, φ', H', h1, h2, h3, h4, hk r H' h5⟩⟩
/-- A call that turns one block of plain data. -/
theorem foot1 {g : FuncId} {args0 args : List AV} {b0 : Blk} {K0 : AV → List Blk → Prop} (h : CallG P g args0 [b0] K0) {H : List Blk} (id : Nat) (hb : H[id]? = some b0) (hm : ∀ ρ, mB ρ b0 = b0) (ha : ∀ ρ : Nat → Nat, ρ 0 = id → args = mL ρ args0) {K : AV → List Blk → Prop}
    (hK : ∀ r H', K0 r H' → ∃ b1, H' = [b1] ∧ (∀ ρ, mB ρ b1 = b1) ∧ (∀ ρ, mA ρ r = r) ∧ K r (H.set id b1)) : CallG P g args H K := by
  have hid : id < H.length := (List.getElem?_eq_some_iff.1 hb).1
  have h0 : rn [id] H.length 0 = id := rfl
  refine foot_G h [id] rfl (by simp) (by simpa using hid) (fun j i b hj hbb => ?_) (ha _ h0) fun r H' _ hk => ?_
  · cases j with
    | zero => simp at hj hbb; subst hj; subst hbb; rw [hb, hm]
    | succ j => simp at hj
  · obtain ⟨b1, rfl, h1, h2, h3⟩ := hK r H' hk
    rw [h2]
    simpa [-mB, putB, h1] using h3
end
theorem endG_n {P : Program} {L : Nat} {fn : Func} {K : AV → List Blk → Prop} {s : St} (x : AV) (h1 : resA P fn s = some x) (h2 : K x s.H) : endG P L fn K .normal s := ⟨x, x, s.H, h1, Weak.refl _, h2⟩
theorem endG_r {P : Program} {L : Nat} {fn : Func} {K : AV → List Blk → Prop} {s : St} (x : AV) (h1 : resA P fn s = some x) (h2 : K x s.H) : endG P L fn K .ret s := ⟨x, x, s.H, h1, Weak.refl _, h2⟩
end Go.Proofs.YthiclaihlpkinaaGreat
