/- How the condition of a function's text is taken apart, step by step. -/
import Derived.Test.YtnldjmokemgaoaaAbRun
namespace Go.Proofs.Ytnldjmokemgaoaa
set_option linter.unusedSimpArgs false
set_option linter.unusedVariables false
set_option linter.unnecessarySimpa false
set_option linter.unusedSectionVars false
open Go.RowKit
variable [Glob]

/-- What is still to be done. -/
inductive Item where
  | code (c : Code)
  | ops (d : Bool) (all rest : List Oper)
  | blk (id : Nat)

section
variable (P : Program) (L : Nat)
def runX : List Item → Ex → St → (Ex → St → Prop) → Prop
  | [], e, s, Q => Q e s
  | .code c :: k, e, s, Q => match e with | .normal => vc P L c s fun e' s' => runX k e' s' Q | e => runX k e s Q
  | .ops d all rest :: k, e, s, Q => match e with | .normal => wopsC P d all rest s fun s' => runX k .normal s' Q | e => runX k e s Q
  | .blk id :: k, e, s, Q => match e with | .exit j => if j = id then runX k .normal s Q else runX k (.exit j) s Q | e => runX k e s Q
def run (k : List Item) (s : St) (Q : Ex → St → Prop) : Prop := runX P L k .normal s Q
def exitK (k : List Item) (id : Nat) (s : St) (Q : Ex → St → Prop) : Prop := runX P L k (.exit id) s Q
def condD (v : AV) (a b : Code) (k : List Item) (s : St) (Q : Ex → St → Prop) : Prop := match v with | .bool t => if t = true then run P L (.code a :: k) s Q else run P L (.code b :: k) s Q | _ => False
def callD (f : AV) (args : List AV) (dst : Option Nat) (d : Bool) (all r : List Oper) (k : List Item) (s : St) (Q : Ex → St → Prop) : Prop := callC P d f args dst s fun s' => run P L (.ops d all r :: k) s' Q
/-- What an operation yields: sealed until it is known. -/
def opD (x : Option (AV × Upd)) (dst : Option Nat) (d : Bool) (all r : List Oper) (k : List Item) (s : St) (Q : Ex → St → Prop) : Prop :=
  match x with | some (v, u) => run P L (.ops d all r :: k) ⟨tputD s.T dst v, upd s.H u⟩ Q | none => False
def bodyD (o : Oper) (d : Bool) (all r : List Oper) (k : List Item) (s : St) (Q : Ex → St → Prop) : Prop :=
  match o.op with
  | .call ⟨.value f, args, _⟩ => callD P L (ev s.T f) (args.toList.map (ev s.T)) o.dst d all r k s Q
  | .load _ a => ldD d (ev s.T a) all (opD P L (eop P o s) o.dst d all r k s Q)
  | .fieldAddr _ a _ => ldD d (ev s.T a) all (opD P L (eop P o s) o.dst d all r k s Q)
  | _ => opD P L (eop P o s) o.dst d all r k s Q
/-- An operation that hangs on a condition: sealed until the condition is known. -/
def guardD (v : AV) (b : Bool) (o : Oper) (d : Bool) (all r : List Oper) (k : List Item) (s : St) (Q : Ex → St → Prop) : Prop :=
  match v with | .bool c => if c = b then bodyD P L o d all r k s Q else run P L (.ops d all r :: k) ⟨tputD s.T o.dst .und, s.H⟩ Q | .und => run P L (.ops d all r :: k) ⟨tputD s.T o.dst .und, s.H⟩ Q | _ => False
def stepD (o : Oper) (d : Bool) (all r : List Oper) (k : List Item) (s : St) (Q : Ex → St → Prop) : Prop :=
  match o.guard with
  | none => bodyD P L o d all r k s Q
  | some (g, b) => match (all[g]?).bind (·.dst) with
    | some t => guardD P L (tget s.T t) b o d all r k s Q
    | none => False

variable {P L} {k : List Item} {s : St} {Q : Ex → St → Prop}
theorem run_nil : run P L [] s Q = Q .normal s := rfl
theorem run_skip : run P L (.code .skip :: k) s Q = run P L k s Q := rfl
theorem run_region {id : Nat} {ops : Array Oper} {d : Bool} : run P L (.code (.region id ops d) :: k) s Q = run P L (.ops d ops.toList ops.toList :: k) s Q := rfl
theorem vc_congr {c : Code} {s : St} {Q Q' : Ex → St → Prop} (h : ∀ e s, Q e s = Q' e s) : vc P L c s Q = vc P L c s Q' := by rw [show Q = Q' from funext fun e => funext fun s => h e s]
theorem run_seq {a b : Code} : run P L (.code (.seq a b) :: k) s Q = run P L (.code a :: .code b :: k) s Q := by
  show vc P L a s _ = vc P L a s _
  exact vc_congr fun e s => by cases e <;> rfl
theorem run_cond {c : Operand} {a b : Code} : run P L (.code (.cond c a b) :: k) s Q = condD P L (ev s.T c) a b k s Q := rfl
theorem run_block {id : Nat} {c : Code} : run P L (.code (.block id c) :: k) s Q = run P L (.code c :: .blk id :: k) s Q := by
  show vc P L c s _ = vc P L c s _
  exact vc_congr fun e s => by
    cases e with
    | exit j => simp only [runX]
    | _ => rfl
theorem run_blk {id : Nat} : run P L (.blk id :: k) s Q = run P L k s Q := rfl
theorem run_exit {id : Nat} : run P L (.code (.exit id) :: k) s Q = exitK P L k id s Q := rfl
theorem exitK_nil {id : Nat} : exitK P L [] id s Q = Q (.exit id) s := rfl
theorem exitK_code {id : Nat} {c : Code} : exitK P L (.code c :: k) id s Q = exitK P L k id s Q := rfl
theorem exitK_ops {id : Nat} {d : Bool} {a r : List Oper} : exitK P L (.ops d a r :: k) id s Q = exitK P L k id s Q := rfl
theorem exitK_blk {id j : Nat} : exitK P L (.blk j :: k) id s Q = if id = j then run P L k s Q else exitK P L k id s Q := rfl
theorem runX_ret : ∀ (k : List Item), runX P L k .ret s Q = Q .ret s
  | [] => rfl
  | .code c :: k => runX_ret k
  | .ops d a r :: k => runX_ret k
  | .blk i :: k => runX_ret k
theorem run_ret : run P L (.code .ret :: k) s Q = Q .ret s := runX_ret k
theorem run_ops_nil {d : Bool} {all : List Oper} : run P L (.ops d all [] :: k) s Q = run P L k s Q := rfl
theorem run_ops_cons {d : Bool} {all r : List Oper} {o : Oper} : run P L (.ops d all (o :: r) :: k) s Q = stepD P L o d all r k s Q := rfl
theorem condD_t {a b : Code} : condD P L (.bool true) a b k s Q = run P L (.code a :: k) s Q := by simp [condD]
theorem condD_f {a b : Code} : condD P L (.bool false) a b k s Q = run P L (.code b :: k) s Q := by simp [condD]
theorem condD_n {t : Bool} {a b : Code} : condD P L (.bool (!t)) a b k s Q = condD P L (.bool t) b a k s Q := by cases t <;> simp [condD]
theorem condD_intro {t : Bool} {a b : Code} (h1 : t = true → run P L (.code a :: k) s Q) (h2 : t = false → run P L (.code b :: k) s Q) : condD P L (.bool t) a b k s Q := by
  cases t
  · rw [condD_f]; exact h2 rfl
  · rw [condD_t]; exact h1 rfl
theorem condD_dec {p : Prop} [Decidable p] {a b : Code} (h1 : p → run P L (.code a :: k) s Q) (h2 : ¬ p → run P L (.code b :: k) s Q) : condD P L (.bool (decide p)) a b k s Q :=
  condD_intro (fun h => h1 (of_decide_eq_true h)) fun h => h2 (of_decide_eq_false h)
section
variable {o : Oper} {d : Bool} {all r : List Oper} {b : Bool}
theorem guardD_dec {p : Prop} [Decidable p] (h1 : p → guardD P L (.bool true) b o d all r k s Q) (h2 : ¬ p → guardD P L (.bool false) b o d all r k s Q) : guardD P L (.bool (decide p)) b o d all r k s Q := by
  by_cases h : p
  · rw [decide_eq_true h]; exact h1 h
  · rw [decide_eq_false h]; exact h2 h
theorem ldD_f {x : AV} {q : Prop} : ldD false x all q = q := by simp [ldD]
theorem ldD_op {i j : Nat} {q : Prop} : ldD d (.op i j) all q = q := by simp [ldD, notEp]
theorem ldD_rp {row : List AV} {q : Prop} : ldD d (.rp row) all q = q := by simp [ldD, notEp]
theorem ldD_ep {x : AV} {q : Prop} (h : strictB all = true) (hq : q) : ldD d x all q := ⟨fun _ => .inr h, hq⟩
theorem opD_some {v : AV} {u : Upd} {dst : Option Nat} : opD P L (some (v, u)) dst d all r k s Q = run P L (.ops d all r :: k) ⟨tputD s.T dst v, upd s.H u⟩ Q := rfl
theorem opD_none {dst : Option Nat} : opD P L none dst d all r k s Q = False := rfl
theorem guardD_t : guardD P L (.bool true) true o d all r k s Q = bodyD P L o d all r k s Q := by simp [guardD]
theorem guardD_f : guardD P L (.bool false) false o d all r k s Q = bodyD P L o d all r k s Q := by simp [guardD]
theorem guardD_tf : guardD P L (.bool true) false o d all r k s Q = run P L (.ops d all r :: k) ⟨tputD s.T o.dst .und, s.H⟩ Q := by simp [guardD]
theorem guardD_ft : guardD P L (.bool false) true o d all r k s Q = run P L (.ops d all r :: k) ⟨tputD s.T o.dst .und, s.H⟩ Q := by simp [guardD]
theorem guardD_nt {t : Bool} : guardD P L (.bool (!t)) true o d all r k s Q = guardD P L (.bool t) false o d all r k s Q := by cases t <;> rfl
theorem guardD_nf {t : Bool} : guardD P L (.bool (!t)) false o d all r k s Q = guardD P L (.bool t) true o d all r k s Q := by cases t <;> rfl
theorem guardD_u : guardD P L .und b o d all r k s Q = run P L (.ops d all r :: k) ⟨tputD s.T o.dst .und, s.H⟩ Q := by simp [guardD]
theorem guardD_intro {t : Bool} (h1 : t = true → guardD P L (.bool true) b o d all r k s Q) (h2 : t = false → guardD P L (.bool false) b o d all r k s Q) : guardD P L (.bool t) b o d all r k s Q := by
  cases t
  · exact h2 rfl
  · exact h1 rfl
end
/-- The start. -/
theorem vc_run {c : Code} (h : run P L [.code c] s Q) : vc P L c s Q := by
  have : run P L [.code c] s Q = vc P L c s Q := vc_congr fun e s => rfl
  rw [← this]; exact h
/-- A call of a function that is known. -/
theorem call_intro {g : Nat} {caps args ys : List AV} {r : AV} {dst : Option Nat} {d : Bool} {all rest : List Oper} (h : Pure P g ys r) (h1 : (args ++ caps).mapM (reify s.H 8) = some ys) (h2 : flat r = true ∨ (ys = args ++ caps ∧ ownsL (args ++ caps) = false))
    (h3 : run P L (.ops d all rest :: k) ⟨tputD s.T dst r, s.H⟩ Q) : callD P L (.fn g caps) args dst d all rest k s Q := ⟨g, caps, rfl, .inl ⟨r, .no, pure_callE h h1 h2, h3⟩⟩
/-- A call, its arguments read as ys. -/
def callS (P : Program) (L : Nat) (g : Nat) (ys : Option (List AV)) (as : List AV) (dst : Option Nat) (d : Bool) (all rest : List Oper) (k : List Item) (s : St) (Q : Ex → St → Prop) : Prop :=
  ∃ zs r, ys = some zs ∧ Pure P g zs r ∧ (flat r = true ∨ (zs = as ∧ ownsL as = false)) ∧ run P L (.ops d all rest :: k) ⟨tputD s.T dst r, s.H⟩ Q
theorem callS_mk {g : Nat} {caps args : List AV} {dst : Option Nat} {d : Bool} {all rest : List Oper} (h : callS P L g ((args ++ caps).mapM (reify s.H 8)) (args ++ caps) dst d all rest k s Q) : callD P L (.fn g caps) args dst d all rest k s Q := by
  obtain ⟨zs, r, h1, h2, h3, h4⟩ := h
  exact call_intro h2 h1 h3 h4
theorem callS_intro {g : Nat} {zs as : List AV} {r : AV} {dst : Option Nat} {d : Bool} {all rest : List Oper} (h : Pure P g zs r) (h2 : flat r = true ∨ (zs = as ∧ ownsL as = false)) (h3 : run P L (.ops d all rest :: k) ⟨tputD s.T dst r, s.H⟩ Q) : callS P L g (some zs) as dst d all rest k s Q := ⟨zs, r, rfl, h, h2, h3⟩
theorem call_a {g : Nat} {caps args ys : List AV} {r : AV} {dst : Option Nat} {d : Bool} {all rest : List Oper} (h1 : (args ++ caps).mapM (reify s.H 8) = some ys) (h : Pure P g ys r) (h2 : flat r = true ∨ (ys = args ++ caps ∧ ownsL (args ++ caps) = false))
    (h3 : run P L (.ops d all rest :: k) ⟨tputD s.T dst r, s.H⟩ Q) : callD P L (.fn g caps) args dst d all rest k s Q := call_intro h h1 h2 h3
/-- A call of a function that hands back a row of its own making. -/
theorem fresh_intro {g : Nat} {caps args ys : List AV} {e : TypeId} {rows : List (List AV)} {dst : Option Nat} {d : Bool} {all rest : List Oper} (h : Fresh P g ys e rows) (h1 : (args ++ caps).mapM (reify s.H 8) = some ys) (h2 : (rows.all fun r => r.all flat) = true ∨ (ys = args ++ caps ∧ ownsL (args ++ caps) = false))
    (h3 : run P L (.ops d all rest :: k) ⟨tputD s.T dst (.os s.H.length rows.length), s.H ++ [.row e false rows]⟩ Q) : callD P L (.fn g caps) args dst d all rest k s Q := ⟨g, caps, rfl, .inl ⟨_, _, fresh_callE h h1 h2, h3⟩⟩
/-- A call of which more is known. -/
theorem callG_intro {g : Nat} {caps args : List AV} {dst : Option Nat} {all rest : List Oper} (h : CallG P g (args ++ caps) s.H fun r H' => run P L (.ops false all rest :: k) ⟨tputD s.T dst r, H'⟩ Q) : callD P L (.fn g caps) args dst false all rest k s Q := ⟨g, caps, rfl, .inr ⟨rfl, h⟩⟩
/-- What is to be shown at the end of a loop's round: sealed, so that what comes behind the loop is not walked within it. -/
def loopQ (P : Program) (L : Nat) (k : List Item) (Q : Ex → St → Prop) {σ : Type} (st : σ → St) (Inv : σ → Prop) (μ : σ → Nat) (x : σ) : Ex → St → Prop
  | .normal, s2 => ∃ y, Inv y ∧ μ y < μ x ∧ Weak P L s2 (st y)
  | .exit j, s2 => exitK P L k j s2 Q
  | .ret, s2 => Q .ret s2
theorem loopQ_n {σ : Type} {st : σ → St} {Inv : σ → Prop} {μ : σ → Nat} {x : σ} {s2 : St} : loopQ P L k Q st Inv μ x .normal s2 = ∃ y, Inv y ∧ μ y < μ x ∧ Weak P L s2 (st y) := rfl
theorem loopQ_e {σ : Type} {st : σ → St} {Inv : σ → Prop} {μ : σ → Nat} {x : σ} {s2 : St} {j : Nat} : loopQ P L k Q st Inv μ x (.exit j) s2 = exitK P L k j s2 Q := rfl
theorem loopQ_r {σ : Type} {st : σ → St} {Inv : σ → Prop} {μ : σ → Nat} {x : σ} {s2 : St} : loopQ P L k Q st Inv μ x .ret s2 = Q .ret s2 := rfl
theorem loop_next {σ : Type} {st : σ → St} {Inv : σ → Prop} {μ : σ → Nat} {x : σ} {s2 : St} (y : σ) (h1 : Inv y) (h2 : μ y < μ x) (h3 : Weak P L s2 (st y)) : loopQ P L k Q st Inv μ x .normal s2 := ⟨y, h1, h2, h3⟩
/-- A loop: 'st x' is the state at its head. -/
theorem loop_intro {σ : Type} (st : σ → St) (Inv : σ → Prop) (μ : σ → Nat) {c : Code} (x0 : σ) (h0 : Inv x0) (hw : Weak P L s (st x0))
    (h : ∀ x, Inv x → run P L [.code c] (st x) (loopQ P L k Q st Inv μ x)) : run P L (.code (.loop c) :: k) s Q := by
  show vc P L (.loop c) s _
  refine ⟨fun n s => ∃ x, Inv x ∧ μ x = n ∧ s = st x, ⟨μ x0, st x0, hw, x0, h0, rfl, rfl⟩, ?_⟩
  rintro n s1 ⟨x, hx, rfl, rfl⟩
  have := h x hx
  have e : run P L [.code c] (st x) (loopQ P L k Q st Inv μ x) =
      vc P L c (st x) fun e s2 => match e with | .normal => ∃ m, m < μ x ∧ ∃ s3, Weak P L s2 s3 ∧ (∃ y, Inv y ∧ μ y = m ∧ s3 = st y) | e => runX P L k e s2 Q := by
    show vc P L c (st x) _ = _
    refine vc_congr fun e s2 => ?_
    cases e with
    | normal =>
      refine propext ⟨fun ⟨y, h1, h2, h3⟩ => ⟨μ y, h2, st y, h3, y, h1, rfl, rfl⟩, fun ⟨m, h2, s3, h3, y, h1, h4, h5⟩ => ⟨y, h1, by omega, by rw [← h5]; exact h3⟩⟩
    | exit j => rfl
    | ret =>
      show Q .ret s2 = runX P L k .ret s2 Q
      exact (runX_ret (Q := Q) k).symm
  exact Eq.mp e this
/-- What comes behind a call, sealed. -/
def contK (P : Program) (L : Nat) (d : Bool) (all rest : List Oper) (k : List Item) (T : List (Nat × AV)) (dst : Option Nat) (Q : Ex → St → Prop) (r : AV) (H' : List Blk) : Prop := run P L (.ops d all rest :: k) ⟨tputD T dst r, H'⟩ Q
end
end Go.Proofs.Ytnldjmokemgaoaa
