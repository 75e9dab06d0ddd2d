/- From contracts in the model to the abstract machine: values without memory. -/
import Derived.Test.YthiclaihlpkinaaGreatAbBase
import Derived.Test.YthiclaihlpkinaaGreatLib
set_option linter.unusedSimpArgs false
set_option linter.unusedVariables false
set_option linter.unnecessarySimpa false
set_option linter.unusedSectionVars false
namespace Go.Proofs.YthiclaihlpkinaaGreat
open Go.RowKit
variable [Glob]
mutual
/-- The one value that a value without memory stands for. -/
def toV : AV → Option Value
  | .int k n => some (.int k n)
  | .bool b => some (.bool b)
  | .str s => some (.string s)
  | .nilp => some (.pointer none)
  | .agg l => match toVL l with | some vs => if vs.all (·.oneCell') then some (.agg vs.toArray) else none | none => none
  | .tup l => match toVL l with | some vs => some (.tuple vs.toArray) | none => none
  | _ => none
def toVL : List AV → Option (List Value)
  | [] => some []
  | x :: r => match toV x, toVL r with | some v, some vs => some (v :: vs) | _, _ => none
end
theorem toVL_get : ∀ {l : List AV} {vs : List Value}, toVL l = some vs → vs.length = l.length ∧ ∀ (j : Nat) x, l[j]? = some x → ∃ v, vs[j]? = some v ∧ toV x = some v := by
  intro l
  induction l with
  | nil => intro vs h; simp [toVL] at h; subst h; exact ⟨rfl, by simp⟩
  | cons y l ih =>
    intro vs h
    simp only [toVL] at h
    split at h
    · rename_i v us h1 h2
      simp at h
      subst h
      obtain ⟨k1, k2⟩ := ih h2
      refine ⟨by simp [k1], fun j x hj => ?_⟩
      cases j with
      | zero => simp at hj; subst hj; exact ⟨v, by simp, h1⟩
      | succ j => simpa using k2 j x (by simpa using hj)
    · simp at h
theorem toV_eq {w : World} {X : Nat → Prop} {x : AV} {v : Value} (h : RO w X x v) : ∀ {u : Value}, toV x = some u → v = u := by
  induction h with
  | any => intro u h; simp [toV] at h
  | und => intro u h; simp [toV] at h
  | int => intro u h; simp [toV] at h; exact h
  | bool => intro u h; simp [toV] at h; exact h
  | str => intro u h; simp [toV] at h; exact h
  | nilp => intro u h; simp [toV] at h; exact h
  | nils => intro u h; simp [toV] at h
  | nilc => intro u h; simp [toV] at h
  | nec => intro u h; simp [toV] at h
  | nilf => intro u h; simp [toV] at h
  | nilm => intro u h; simp [toV] at h
  | yl => intro u h; simp [toV] at h
  | fb => intro u h; simp [toV] at h
  | rp => intro u h; simp [toV] at h
  | rs => intro u h; simp [toV] at h
  | fn => intro u h; simp [toV] at h
  | @agg cs vs hl h1 _ ih =>
    intro u h
    simp only [toV] at h
    split at h
    · rename_i us hus
      split at h
      · simp at h
        subst h
        obtain ⟨k1, k2⟩ := toVL_get hus
        congr 1
        apply Array.ext
        · simp; omega
        · intro j hj1 hj2
          have hjc : j < cs.length := by omega
          obtain ⟨v', q1, q2⟩ := k2 j cs[j] (by simp [hjc])
          have := ih j cs[j] vs[j] (by simp [hjc]) (by simp [hj1]) q2
          rw [this]
          simp at hj2
          simp [hj2] at q1
          simp [q1]
      · simp at h
    · simp at h
  | @tup cs vs hl _ ih =>
    intro u h
    simp only [toV] at h
    split at h
    · rename_i us hus
      simp at h
      subst h
      obtain ⟨k1, k2⟩ := toVL_get hus
      congr 1
      apply Array.ext
      · simp; omega
      · intro j hj1 hj2
        have hjc : j < cs.length := by omega
        obtain ⟨v', q1, q2⟩ := k2 j cs[j] (by simp [hjc])
        have := ih j cs[j] vs[j] (by simp [hjc]) (by simp [hj1]) q2
        rw [this]
        simp at hj2
        simp [hj2] at q1
        simp [q1]
    · simp at h
theorem toV_ro {w : World} {X : Nat → Prop} : ∀ (n : Nat) (x : AV) (u : Value), SizeOf.sizeOf x < n → toV x = some u → RO w X x u := by
  intro n
  induction n with
  | zero => intro x u h; omega
  | succ n ih =>
    intro x u hs h
    have elem : ∀ (l : List AV) (us : List Value), SizeOf.sizeOf l < n → toVL l = some us → l.length = us.toArray.size ∧ ∀ (j : Nat) y v, l[j]? = some y → us.toArray[j]? = some v → RO w X y v := fun l us hl hus => by
      obtain ⟨k1, k2⟩ := toVL_get hus
      refine ⟨by simp [k1], fun j y v hj hv => ?_⟩
      obtain ⟨v', q1, q2⟩ := k2 j y hj
      simp at hv
      rw [q1] at hv
      simp at hv
      subst hv
      have := List.sizeOf_lt_of_mem (List.mem_of_getElem? hj)
      exact ih y _ (by omega) q2
    cases x with
    | agg l =>
      simp only [toV] at h
      split at h
      · rename_i us hus
        split at h
        · rename_i hone
          simp at h
          subst h
          simp at hs
          obtain ⟨e1, e2⟩ := elem l us (by omega) hus
          exact .agg e1 (by simpa using hone) e2
        · simp at h
      · simp at h
    | tup l =>
      simp only [toV] at h
      split at h
      · rename_i us hus
        simp at h
        subst h
        simp at hs
        obtain ⟨e1, e2⟩ := elem l us (by omega) hus
        exact .tup e1 e2
      · simp at h
    | _ => simp [toV] at h <;> (subst h; constructor)
/-- A function of values without memory. -/
theorem pure_flat {P : Program} {f : FuncId} {args : List AV} {r : AV} {us : List Value} {v : Value} (he : entersB P f = true) (ha : toVL args = some us) (hr : toV r = some v)
    (h : ∀ w, Calls P f us.toArray w fun e w' => e = .returned v ∧ Below w.heap.size w w') : Pure P f args r := by
  refine ⟨he, fun w X vs hX hvo hl hv => ?_⟩
  obtain ⟨k1, k2⟩ := toVL_get ha
  have : vs = us.toArray := by
    apply Array.ext
    · simp; omega
    · intro j hj1 hj2
      obtain ⟨v', q1, q2⟩ := k2 j (args[j]'(by omega)) (by simp)
      have := toV_eq (hv j (args[j]'(by omega)) vs[j] (by simp) (by simp [hj1])) q2
      rw [this]
      simp at hj2
      simp [hj2] at q1
      simp [q1]
  subst this
  exact (h w).mono fun e w' ⟨h1, h2⟩ => ⟨v, h1, toV_ro _ r v (Nat.lt_succ_self _) hr, h2⟩
/-- A slice of integers in the elder words. -/
theorem ints_of_ro {w : World} {X : Nat → Prop} {l : List Int} {v : Value} (hw : ∀ x ∈ l, (Lit.int .i64 x).wf = true) (hl : l.length ≤ 9223372036854775807) (h : RO w X (ints l) v) : ∃ A n c, v = .slice A n c ∧ Ints w A n l := by
  cases h with
  | @rs _ A n cap sz f hn hcap hA hx =>
    refine ⟨A, n, cap, rfl, by rw [← hn, rowsOf_length], by rw [← hn, rowsOf_length]; exact hl, fun k hk => ?_⟩
    have hr : (rowsOf intC l)[k]? = some [.int .i64 l[k]] := by rw [rowsOf_get]; simp [hk, intC]
    obtain ⟨h1, a, h2, _, _, h3⟩ := hA k _ hr
    have hsz : sz = 1 := by simpa using h1.symm
    subst hsz
    have h4 := (h3 0 (by omega)).1
    have h5 := hx k 0 _ (.int .i64 l[k]) hr (by simp)
    refine ⟨a, h2, ?_, hw _ (List.getElem_mem hk)⟩
    generalize f k 0 = u at h4 h5
    cases h5
    simpa using h4
theorem hist_of_ro {w : World} {X : Nat → Prop} {e c : List Int} {v : Value} (he : ∀ x ∈ e, (Lit.int .i64 x).wf = true) (hc : ∀ x ∈ c, (Lit.int .i64 x).wf = true) (hl : e.length ≤ 9223372036854775807) (hl' : c.length ≤ 9223372036854775807) (h : RO w X (.agg [ints e, ints c]) v) :
    ∃ A n k B m l, v = .agg #[.slice A n k, .slice B m l] ∧ Ints w A n e ∧ Ints w B m c := by
  cases h with
  | @agg _ vs hlen h1 h =>
    obtain ⟨vs⟩ := vs
    match vs, hlen with
    | [v0, v1], _ =>
      obtain ⟨A, n, k, rfl, i0⟩ := ints_of_ro he hl (h 0 _ v0 (by simp) (by simp))
      obtain ⟨B, m, l, rfl, i1⟩ := ints_of_ro hc hl' (h 1 _ v1 (by simp) (by simp))
      exact ⟨A, n, k, B, m, l, rfl, i0, i1⟩
/-- The arguments of a function, one by one. -/
theorem args1 {vs : Array Value} {x : AV} (hl : [x].length = vs.size) : ∃ v, vs = #[v] := by
  obtain ⟨vs⟩ := vs
  match vs, hl with
  | [v0], _ => exact ⟨v0, rfl⟩
theorem args2 {vs : Array Value} {x y : AV} (hl : [x, y].length = vs.size) : ∃ v u, vs = #[v, u] := by
  obtain ⟨vs⟩ := vs
  match vs, hl with
  | [v0, v1], _ => exact ⟨v0, v1, rfl⟩
end Go.Proofs.YthiclaihlpkinaaGreat
