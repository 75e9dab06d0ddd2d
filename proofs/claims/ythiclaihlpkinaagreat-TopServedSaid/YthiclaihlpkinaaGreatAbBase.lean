/- Lists of data as the elements of slices in the abstract machine; small rules. -/
import Derived.Test.YthiclaihlpkinaaGreatM3
set_option linter.unusedSimpArgs false
set_option linter.unusedVariables false
set_option linter.unnecessarySimpa false
set_option linter.unusedSectionVars false
namespace Go.Proofs.YthiclaihlpkinaaGreat
open Go.RowKit
variable [Glob]
/-- Data of a list, each in so many cells. -/
def rowsOf {α : Type} (f : α → List AV) (l : List α) : List (List AV) := l.map f
def intC (x : Int) : List AV := [.int .i64 x]
def strC (s : ByteArray) : List AV := [.str s]
/-- A slice of integers, of strings. -/
abbrev ints (l : List Int) : AV := .rs (rowsOf intC l)
abbrev strs (l : List ByteArray) : AV := .rs (rowsOf strC l)
section
variable {α : Type} {f : α → List AV} {l l' : List α}
theorem rowsOf_length : (rowsOf f l).length = l.length := by simp [rowsOf]
theorem rowsOf_get {i : Nat} : (rowsOf f l)[i]? = (l[i]?).map f := by simp [rowsOf]
theorem rowsOf_getE {i : Nat} (h : i < (rowsOf f l).length) : (rowsOf f l)[i] = f (l[i]'(by simpa [rowsOf] using h)) := by simp [rowsOf]
theorem rowsOf_allLen {n : Nat} (h : ∀ x, (f x).length = n) : allLen n (rowsOf f l) = true := by simp [allLen, rowsOf, h]
theorem rowsOf_isEmpty : (rowsOf f l).isEmpty = l.isEmpty := by simp [rowsOf]
theorem rowsOf_owns (h : ∀ x, ((f x).all fun x => !owns x) = true) : ((rowsOf f l).all fun r => r.all fun x => !owns x) = true := by
  simp only [rowsOf, List.all_map, List.all_eq_true]; intro x _; simpa using h x
theorem rowsOf_owns' (h : ∀ x, ∀ c ∈ f x, owns c = false) : ∀ r ∈ rowsOf f l, ∀ c ∈ r, owns c = false := by
  intro r hr c hc
  simp only [rowsOf, List.mem_map] at hr
  obtain ⟨x, _, rfl⟩ := hr
  exact h x c hc
theorem rowsOf_flat'  (h : ∀ x, ∀ c ∈ f x, flat c = true) : ∀ r ∈ rowsOf f l, ∀ c ∈ r, flat c = true := by
  intro r hr c hc
  simp only [rowsOf, List.mem_map] at hr
  obtain ⟨x, _, rfl⟩ := hr
  exact h x c hc
theorem rowsOf_flat (h : ∀ x, (f x).all flat = true) : ((rowsOf f l).all fun r => r.all flat) = true := by
  simp only [rowsOf, List.all_map, List.all_eq_true]; intro x _; simpa using h x
theorem rowsOf_append : rowsOf f l ++ rowsOf f l' = rowsOf f (l ++ l') := by simp [rowsOf]
theorem rowsOf_snoc {x : α} : rowsOf f l ++ [f x] = rowsOf f (l ++ [x]) := by simp [rowsOf]
theorem rowsOf_nil : rowsOf f [] = [] := rfl
theorem rowsOf_refs {m : Nat} (h : ∀ x, (f x).all (refs m) = true) : refsR m (rowsOf f l) = true := by simp only [refsR, rowsOf, List.all_map, List.all_eq_true]; intro x _; exact h x
theorem mapM_id {α : Type} {g : α → Option α} {l : List α} (h : ∀ x ∈ l, g x = some x) : l.mapM g = some l := by
  induction l with
  | nil => rfl
  | cons x l ih => rw [List.mapM_cons, h x (by simp), ih fun y hy => h y (by simp [hy])]; rfl
theorem rowsOf_reify {H : List Blk} {n : Nat} (h : ∀ x, (f x).mapM (reify H n) = some (f x)) : (rowsOf f l).mapM (fun row => row.mapM (reify H n)) = some (rowsOf f l) := by
  refine mapM_id fun row hr => ?_
  simp only [rowsOf, List.mem_map] at hr
  obtain ⟨x, _, rfl⟩ := hr
  exact h x
theorem rowsOf_drop {k : Nat} : (rowsOf f l).drop k = rowsOf f (l.drop k) := by simp [rowsOf]
theorem rowsOf_take {k : Nat} : (rowsOf f l).take k = rowsOf f (l.take k) := by simp [rowsOf]
theorem rowsOf_set {k : Nat} {x : α} : (rowsOf f l).set k (f x) = rowsOf f (l.set k x) := by simp [rowsOf]
end
theorem intC_owns : ∀ x, ∀ c ∈ intC x, owns c = false := by intro x c hc; simp [intC] at hc; subst hc; rfl
theorem intC_flat : ∀ x, ∀ c ∈ intC x, flat c = true := by intro x c hc; simp [intC] at hc; subst hc; rfl
theorem Pure.weaken {P : Program} {f : FuncId} {args : List AV} {r r' : AV} (h : Pure P f args r) (hr : ∀ w X v, RO w X r v → RO w X r' v) : Pure P f args r' :=
  ⟨h.1, fun w X vs hX hvo hl hv => (h.2 w X vs hX hvo hl hv).mono fun e w' ⟨v, h1, h2, h3⟩ => ⟨v, h1, hr w' X v h2, h3⟩⟩
/-- Several values, one after the other. -/
theorem mapM_nil' {α β : Type} {g : α → Option β} : ([] : List α).mapM g = some [] := rfl
theorem mapM_cons' {α β : Type} {g : α → Option β} {x : α} {l : List α} : (x :: l).mapM g = match g x with | some y => (match l.mapM g with | some ys => some (y :: ys) | none => none) | none => none := by
  rw [List.mapM_cons]
  cases g x with
  | none => rfl
  | some y => cases l.mapM g <;> rfl
section
variable {H : List Blk} {n : Nat}
theorem rf_int {k : IntKind} {x : Int} : reify H (n + 1) (.int k x) = some (.int k x) := rfl
theorem rf_bool {b : Bool} : reify H (n + 1) (.bool b) = some (.bool b) := rfl
theorem rf_str {s : ByteArray} : reify H (n + 1) (.str s) = some (.str s) := rfl
theorem rf_nilp : reify H (n + 1) .nilp = some .nilp := rfl
theorem rf_nils : reify H (n + 1) .nils = some (.rs []) := rfl
theorem rf_nilf : reify H (n + 1) .nilf = some .nilf := rfl
theorem rf_nilm : reify H (n + 1) .nilm = some .nilm := rfl
theorem rf_any : reify H (n + 1) .any = some .any := rfl
theorem rf_rp {r : List AV} : reify H (n + 1) (.rp r) = some (.rp r) := rfl
theorem rf_rs {r : List (List AV)} : reify H (n + 1) (.rs r) = some (.rs r) := rfl
theorem rf_agg {cs : List AV} : reify H (n + 1) (.agg cs) = (cs.mapM (reify H n)).map .agg := rfl
theorem rf_tup {cs : List AV} : reify H (n + 1) (.tup cs) = (cs.mapM (reify H n)).map .tup := rfl
theorem rf_fn {f : Nat} {cs : List AV} : reify H (n + 1) (.fn f cs) = (cs.mapM (reify H n)).map (.fn f) := rfl
theorem rf_op {id o : Nat} : reify H (n + 1) (.op id o) = match H[id]? with | some (.box _ cs) => ((cs.drop o).mapM (reify H n)).map .rp | _ => none := rfl
theorem rf_os {id m : Nat} : reify H (n + 1) (.os id m) = match H[id]? with | some (.row _ _ rows) => if rows.length = m then (rows.mapM fun (row : List AV) => row.mapM (reify H n)).map .rs else none | _ => none := rfl
theorem rf_ow {id m lo hi : Nat} : reify H (n + 1) (.ow id m lo hi) = match H[id]? with | some (.row _ _ rows) => if rows.length = m then (((rows.take hi).drop lo).mapM fun (row : List AV) => row.mapM (reify H n)).map .rs else none | _ => none := rfl
end
/-- None of these meets the test. -/
def allF {α : Type} (p : α → Bool) (l : List α) : Prop := ∀ x ∈ l, p x = false
theorem allF_nil {α : Type} {p : α → Bool} : allF p [] := by simp [allF]
theorem allF_succ {α : Type} {p : α → Bool} {l : List α} {i : Nat} (h : allF p (l.take i)) (hi : i < l.length) (hp : p l[i] = false) : allF p (l.take (i + 1)) := by
  intro x hx
  rw [List.take_succ_eq_append_getElem hi, List.mem_append] at hx
  rcases hx with hx | hx
  · exact h x hx
  · simp at hx; subst hx; exact hp
theorem allF_all {α : Type} {p : α → Bool} {l : List α} {i : Nat} (h : allF p (l.take i)) (hi : ¬ i < l.length) : ∀ x ∈ l, p x = false := by
  rw [List.take_of_length_le (by omega)] at h; exact h
theorem wrap_in {n : Int} (h1 : -9223372036854775808 ≤ n) (h2 : n ≤ 9223372036854775807) : wrapI .i64 n = n := by rw [wrapI_eq, IntKind.wrap_i64]; omega
theorem allLen_nil {n : Nat} : allLen n [] = true := rfl
theorem allLen_cons {n : Nat} {r : List AV} {l : List (List AV)} : allLen n (r :: l) = (r.length == n && allLen n l) := rfl
theorem refsR_nil {m : Nat} : refsR m [] = true := rfl
theorem refsR_cons {m : Nat} {r : List AV} {l : List (List AV)} : refsR m (r :: l) = (r.all (refs m) && refsR m l) := rfl
theorem ite_avbool {p : Prop} [Decidable p] {x y : Bool} : (if p then AV.bool x else AV.bool y) = AV.bool (if p then x else y) := by split <;> rfl
theorem ite_avint {p : Prop} [Decidable p] {k : IntKind} {x y : Int} : (if p then AV.int k x else AV.int k y) = AV.int k (if p then x else y) := by split <;> rfl
theorem ite_avstr {p : Prop} [Decidable p] {x y : ByteArray} : (if p then AV.str x else AV.str y) = AV.str (if p then x else y) := by split <;> rfl
/-! What a walk goes by. -/
theorem avb_eqI {a b : Int} : AV.bool (a == b) = AV.bool (decide (a = b)) := by rw [Bool.beq_eq_decide_eq]
theorem avb_neI {a b : Int} : AV.bool (a != b) = AV.bool (!decide (a = b)) := by rw [bne, Bool.beq_eq_decide_eq]
theorem avb_eqL {a b : List UInt8} : AV.bool (a == b) = AV.bool (decide (a = b)) := by rw [Bool.beq_eq_decide_eq]
theorem avb_neL {a b : List UInt8} : AV.bool (!(a == b)) = AV.bool (!decide (a = b)) := by rw [Bool.beq_eq_decide_eq]
theorem avb_neM {a b : List UInt8} : AV.bool (a != b) = AV.bool (!decide (a = b)) := by rw [bne, Bool.beq_eq_decide_eq]
attribute [simp] avb_eqI avb_neI avb_eqL avb_neL avb_neM condD_n guardD_nt guardD_nf
attribute [simp] ite_avbool ite_avint ite_avstr
attribute [simp] allLen_nil allLen_cons refsR_nil refsR_cons
attribute [simp] argT run_nil run_skip run_range run_region run_seq run_cond run_block run_blk run_exit exitK_nil exitK_code exitK_ops exitK_blk run_ret run_ops_nil
attribute [simp] run_ops_cons stepD bodyD condD_t condD_f opD_some opD_none ldD_f ldD_op ldD_rp ldD_rs ixv guardD_t guardD_f guardD_tf guardD_ft guardD_u eop ebi ev ofV ofCell upd tputD tput tget isNilS nilCmp
attribute [simp] srcE ebinT eqAgg eqCs ebin eun Go.Proofs.YthiclaihlpkinaaGreat.part rd wr over cellsOf cellsN shift elemAt elems same
attribute [simp] fillA Go.Proofs.YthiclaihlpkinaaGreat.place subStr subSl bound foldA endQ endF resA res1 rf_int rf_bool rf_str rf_nilp rf_nils
attribute [simp] rf_nilf rf_nilm rf_any rf_rp rf_rs rf_agg rf_tup rf_fn rf_op rf_os rf_ow mapM_nil' mapM_cons' flat flatL owns
attribute [simp] ownsL rowsOf_length rowsOf_get rowsOf_getE rowsOf_reify rowsOf_allLen rowsOf_isEmpty intC strC cvT cv cvB cvL cvH isNb
attribute [simp] run_scope run_scope3 run_scopeW mkw mkd third splitL exitK_ops2 run_ops2_nil run_ops2_cons step2D body2D op2D_some op2D_none ld2_rp ld2_rs noboxA guard2D_t guard2D_f guard2D_tf guard2D_ft guard2D_u nobox isBox isBoxO mplace mkc
theorem rng1 : List.range 1 = [0] := rfl
theorem rng2 : List.range 2 = [0, 1] := rfl
theorem rng3 : List.range 3 = [0, 1, 2] := rfl
theorem rng4 : List.range 4 = [0, 1, 2, 3] := rfl
theorem rng5 : List.range 5 = [0, 1, 2, 3, 4] := rfl
attribute [simp] rng1 rng2 rng3 rng4 rng5
attribute [simp] ebinS shW isNilM nilCmpM
attribute [simp] loopQ_n loopQ_e loopQ_r rowsOf_nil refs refsL refsM rowsOf_refs keq mfind mval mput
end Go.Proofs.YthiclaihlpkinaaGreat
