/- One operation that calls no function: what the abstract machine says of it holds in the model. -/
import Derived.Test.YtnldjmokemgaoaaAbSound
import Derived.Maps.AppendAt
namespace Go.Proofs.Ytnldjmokemgaoaa
set_option linter.unusedSimpArgs false
set_option linter.unusedVariables false
set_option linter.unnecessarySimpa false
set_option linter.unusedSectionVars false
open Go.RowKit
variable [Glob]

section
variable {P : Program} {w0 w : World} {X : Nat → Prop} {φ : Nat → Option Nat} {G H : List Blk}
theorem rd_mono (hG : ∀ (id : Nat) b, H[id]? = some b → G[id]? = some b) {p : AV} {cs : List AV} (h : rd H p = some cs) : rd G p = some cs := by
  cases p <;> simp only [rd] at h ⊢ <;> try (exact h)
  all_goals
    split at h
    · rename_i hb
      rw [hG _ _ hb]
      exact h
    · simp at h
theorem wr_mono (hG : ∀ (id : Nat) b, H[id]? = some b → G[id]? = some b) {p : AV} {cs : List AV} {u : Upd} (h : wr H p cs = some u) : wr G p cs = some u := by
  cases p <;> simp only [wr] at h ⊢ <;> try (exact h)
  all_goals
    split at h
    · rename_i hb
      rw [hG _ _ hb]
      exact h
    · simp at h
theorem shift_mono (hG : ∀ (id : Nat) b, H[id]? = some b → G[id]? = some b) {p x : AV} {k : Nat} (h : shift H p k = some x) : shift G p k = some x := by
  cases p <;> simp only [shift] at h ⊢ <;> try (exact h)
  all_goals
    split at h
    · rename_i hb
      rw [hG _ _ hb]
      exact h
    · simp at h
theorem elemAt_mono (hG : ∀ (id : Nat) b, H[id]? = some b → G[id]? = some b) {sz e : Nat} {p x : AV} {k : Int} (h : elemAt H sz e p k = some x) : elemAt G sz e p k = some x := by
  cases p <;> simp only [elemAt] at h ⊢ <;> try (exact h)
  all_goals
    split at h
    · rename_i hb
      rw [hG _ _ hb]
      exact h
    · simp at h
theorem elems_mono (hG : ∀ (id : Nat) b, H[id]? = some b → G[id]? = some b) {sz : Nat} {p : AV} {x : List (List AV)} (h : elems H sz p = some x) : elems G sz p = some x := by
  cases p <;> simp only [elems] at h ⊢ <;> try (exact h)
  all_goals
    split at h
    · rename_i hb
      rw [hG _ _ hb]
      exact h
    · simp at h

theorem part_sound {i : Ty} {cs : List AV} {off : Nat} {v : AV} {vs : Array Value} {t : TypeId} (ht : ty P t = some i) (h : part i cs off = some v) (hl : cs.length = vs.size) (h1 : ∀ u ∈ vs.toList, u.oneCell' = true)
    (hv : ∀ (j : Nat) x u, cs[j]? = some x → vs[j]? = some u → RV P w X φ G x u) : ∃ u, (Go.part t vs off).run P w = .ok u w ∧ RV P w X φ G v u := by
  unfold part at h
  split at h
  · rename_i hle
    have hpos := ty_pos ht
    simp only [Go.part, Sem.run_bind, run_isAgg_ty ht, Result.andThen_ok]
    split at h
    · rename_i hag
      simp at h
      subst h
      refine ⟨.agg (vs.extract off (off + i.sz)), by rw [hag]; simp [run_sizeOf_ty ht], .agg ?_ ?_ ?_⟩
      · simp; omega
      · intro u hu
        obtain ⟨j, hj, rfl⟩ := List.getElem_of_mem hu
        simp at hj
        exact h1 _ (by simp)
      · intro j x u hx hu
        have hj : j < i.sz := by have := (List.getElem?_eq_some_iff.1 hx).1; simp at this; omega
        rw [List.getElem?_take, if_pos hj, List.getElem?_drop] at hx
        refine hv (off + j) x u hx ?_
        rw [← hu]
        simp [Array.getElem?_extract, hj]
        omega
    · rename_i hag
      have hag : i.ag = false := by simpa using hag
      rw [List.head?_drop] at h
      have hlt : off < vs.size := by rw [← hl]; exact (List.getElem?_eq_some_iff.1 h).1
      refine ⟨vs[off], by rw [hag]; simp [hlt], hv off v _ h (by simp [hlt])⟩
  · simp at h

theorem ev_len {T : List (Nat × AV)} {a : Act} {l : List Operand} (hev : ∀ x ∈ l, RV P w X φ G (ev T x) (a.eval x)) : ∀ (j : Nat) x u, (l.map (ev T))[j]? = some x → ((l.map a.eval).toArray)[j]? = some u → RV P w X φ G x u := by
  intro j x u hx hu
  simp at hx hu
  obtain ⟨y, h1, rfl⟩ := hx
  rw [h1] at hu
  simp at hu
  subst hu
  exact hev y (List.mem_of_getElem? h1)

theorem int_wrap_run {op : BinOp} {t : TypeId} {x y : Operand} {k k' : IntKind} {m n : Int} {v : AV} (h : ebin op (.int k m) (.int k' n) = some v) :
    ∃ u, (do eqGuard op t x y (.int k m) (.int k' n); binOp op t (.int k m) (.int k' n) : Sem Value).run P w = .ok u w ∧ RO w X v u := by
  simp only [ebin] at h
  split at h
  · rename_i hk
    subst hk
    have e0 : (eqGuard op t x y (.int k m) (.int k n)).run P w = .ok () w := by cases op <;> rfl
    simp only [Sem.run_bind, e0, Result.andThen_ok]
    simp only [wrapI_eq] at h
    cases op <;> simp at h <;> try (subst h; exact ⟨_, by simp [binOp, Op.intArith, Op.intCmp], .int⟩)
    all_goals try (subst h; exact ⟨.bool _, by simp [binOp, Op.intCmp], .bool⟩)
    · obtain ⟨h0, rfl⟩ := h
      exact ⟨_, by simp [binOp, Op.intDiv, h0], .int⟩
    · obtain ⟨h0, rfl⟩ := h
      exact ⟨_, by simp [binOp, Op.intDiv, h0], .int⟩
    · obtain ⟨⟨h0, h1⟩, rfl⟩ := h
      exact ⟨_, by rw [binOp_shr, shift_shr k k m n h0 (Int.le_trans h1 (by cases k <;> decide))]; rfl, .int⟩
  · simp at h
theorem str_run {op : BinOp} {t : TypeId} {x y : Operand} {m n : ByteArray} {v : AV} (h : ebin op (.str m) (.str n) = some v) :
    ∃ u, (do eqGuard op t x y (.string m) (.string n); binOp op t (.string m) (.string n) : Sem Value).run P w = .ok u w ∧ RO w X v u := by
  simp only [ebin] at h
  have e0 : (eqGuard op t x y (.string m) (.string n)).run P w = .ok () w := by cases op <;> rfl
  simp only [Sem.run_bind, e0, Result.andThen_ok]
  cases op <;> simp at h <;> try (subst h; exact ⟨.bool _, by simp [binOp, Op.stringOp], .bool⟩)
  obtain ⟨h0, rfl⟩ := h
  refine ⟨.string (m ++ n), ?_, .str⟩
  have : ¬ ((m.size + n.size : Nat) : Int) > IntKind.i64.max := by simp [IntKind.max, IntKind.signed, IntKind.bits]; omega
  simp only [binOp, Op.stringOp]
  rw [if_neg this]
  rfl
end
end Go.Proofs.Ytnldjmokemgaoaa
