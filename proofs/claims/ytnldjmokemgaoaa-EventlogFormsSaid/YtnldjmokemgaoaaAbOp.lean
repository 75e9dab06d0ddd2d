/- What one operation does, in the model and in the abstract machine: small parts. -/
import Derived.Test.YtnldjmokemgaoaaAbRel
namespace Go.Proofs.Ytnldjmokemgaoaa
set_option linter.unusedSimpArgs false
set_option linter.unusedVariables false
set_option linter.unnecessarySimpa false
set_option linter.unusedSectionVars false
open Go.RowKit
variable [Glob]

theorem descTy_sz (d : TypeDesc) (n : Nat) (z : List AV) (pl : List (Nat × Nat)) (es : Nat) : (descTy d n z pl es).sz = n := by unfold descTy; split <;> rfl
theorem descTy_zero (d : TypeDesc) (n : Nat) (z : List AV) (pl : List (Nat × Nat)) (es : Nat) : (descTy d n z pl es).zero = z := by unfold descTy; split <;> rfl
section
variable {P : Program}
/-- What is known of a type. -/
structure TyIs (P : Program) (t : TypeId) (i : Ty) : Prop where
  ex : ∃ inf z d pl es, P.info? t = some inf ∧ P.underlying t = some d ∧ inf.zero = some z ∧ z.cells.size = inf.size ∧ 0 < inf.size ∧ z.cells.all (·.oneCell') = true ∧ inf.bytes ≤ 4096 ∧ inner P d = some (pl, es) ∧ i = descTy d inf.size (z.cells.toList.map ofCell) pl es
theorem ty_is {t : TypeId} {i : Ty} (h : ty P t = some i) : TyIs P t i := by
  unfold ty at h
  split at h
  · rename_i inf d h1 h2
    split at h
    · rename_i z pl es h3 h4
      split at h
      · rename_i hc
        simp at h
        exact ⟨inf, z, d, pl, es, h1, h2, h3, hc.1, hc.2.1, hc.2.2.1, hc.2.2.2, h4, h.symm⟩
      · simp at h
    · simp at h
  · simp at h
theorem ty_cells {t : TypeId} {i : Ty} (h : ty P t = some i) : P.cellsOf t = i.sz := by
  obtain ⟨inf, z, d, pl, es, h1, h2, h3, h4, h5, h6, h7, h8, rfl⟩ := (ty_is h).ex
  simp [Program.cellsOf, h1, descTy_sz]
theorem ty_pos {t : TypeId} {i : Ty} (h : ty P t = some i) : 0 < i.sz := by
  obtain ⟨inf, z, d, pl, es, h1, h2, h3, h4, h5, h6, h7, h8, rfl⟩ := (ty_is h).ex
  simpa [descTy_sz] using h5
theorem ty_zlen {t : TypeId} {i : Ty} (h : ty P t = some i) : i.zero.length = i.sz := by
  obtain ⟨inf, z, d, pl, es, h1, h2, h3, h4, h5, h6, h7, h8, rfl⟩ := (ty_is h).ex
  simp [descTy_sz, descTy_zero, h4]
theorem run_sizeOf_ty {t : TypeId} {i : Ty} (h : ty P t = some i) (w : World) : (sizeOf t).run P w = .ok i.sz w := by
  obtain ⟨inf, z, d, pl, es, h1, h2, h3, h4, h5, h6, h7, h8, rfl⟩ := (ty_is h).ex
  simp [sizeOf, typeInfo, h1, descTy_sz]
theorem run_isAgg_ty {t : TypeId} {i : Ty} (h : ty P t = some i) (w : World) : (isAgg t).run P w = .ok i.ag w := by
  obtain ⟨inf, z, d, pl, es, h1, h2, h3, h4, h5, h6, h7, h8, rfl⟩ := (ty_is h).ex
  simp only [isAgg, Sem.run_bind, run_underlying h2, Result.andThen_ok]
  cases d <;> rfl
theorem ty_sl {t : TypeId} {i : Ty} (h : ty P t = some i) (hs : i.sl = true) : P.underlying t = some (.slice i.elem) := by
  obtain ⟨inf, z, d, pl, es, h1, h2, h3, h4, h5, h6, h7, h8, rfl⟩ := (ty_is h).ex
  cases d <;> simp [descTy] at hs ⊢
  exact h2
theorem ty_str {t : TypeId} {i : Ty} (h : ty P t = some i) (hs : i.str = true) : P.underlying t = some .string := by
  obtain ⟨inf, z, d, pl, es, h1, h2, h3, h4, h5, h6, h7, h8, rfl⟩ := (ty_is h).ex
  cases d <;> simp [descTy] at hs ⊢
  exact h2
theorem ty_int {t : TypeId} {i : Ty} {k : IntKind} (h : ty P t = some i) (hs : i.int = some k) : P.underlying t = some (.int k) := by
  obtain ⟨inf, z, d, pl, es, h1, h2, h3, h4, h5, h6, h7, h8, rfl⟩ := (ty_is h).ex
  cases d <;> simp [descTy] at hs ⊢
  subst hs; exact h2
theorem ty_arr {t : TypeId} {i : Ty} {n : Nat} (h : ty P t = some i) (hs : i.arr = some n) : P.underlying t = some (.array n i.elem) := by
  obtain ⟨inf, z, d, pl, es, h1, h2, h3, h4, h5, h6, h7, h8, rfl⟩ := (ty_is h).ex
  cases d <;> simp [descTy] at hs ⊢
  subst hs; exact h2
theorem ty_fld {t : TypeId} {i : Ty} {k off ft : Nat} (h : ty P t = some i) (hs : i.flds[k]? = some (off, ft)) :
    ∃ fs f, P.underlying t = some (.struct fs) ∧ fs[k]? = some f ∧ f.offset = off ∧ f.type = ft := by
  obtain ⟨inf, z, d, pl, es, h1, h2, h3, h4, h5, h6, h7, h8, rfl⟩ := (ty_is h).ex
  cases d <;> simp [descTy] at hs
  rename_i fs
  obtain ⟨f, h9, h10, h11⟩ := hs
  exact ⟨fs, f, h2, by simpa using h9, h10, h11⟩

section
variable {w : World} {X : Nat → Prop} {φ : Nat → Option Nat} {H : List Blk} {v : Value}
theorem RV.und_inv (h : RV P w X φ H .und v) : v = undef := by cases h with | ro h => cases h; rfl
theorem RV.int_inv {k : IntKind} {n : Int} (h : RV P w X φ H (.int k n) v) : v = .int k n := by cases h with | ro h => cases h; rfl
theorem RV.bool_inv {b : Bool} (h : RV P w X φ H (.bool b) v) : v = .bool b := by cases h with | ro h => cases h; rfl
theorem RV.str_inv {s : ByteArray} (h : RV P w X φ H (.str s) v) : v = .string s := by cases h with | ro h => cases h; rfl
theorem RV.nils_inv (h : RV P w X φ H .nils v) : v = .slice none 0 0 := by cases h with | ro h => cases h; rfl
theorem RV.nilc_inv (h : RV P w X φ H .nilc v) : ∃ A, v = .slice A 0 0 := by cases h with | ro h => cases h; exact ⟨_, rfl⟩
theorem RV.agg_inv {cs : List AV} (h : RV P w X φ H (.agg cs) v) : ∃ vs : Array Value, v = .agg vs ∧ cs.length = vs.size ∧ (∀ u ∈ vs.toList, u.oneCell' = true) ∧ ∀ (j : Nat) x u, cs[j]? = some x → vs[j]? = some u → RV P w X φ H x u := by
  cases h with
  | ro h => cases h with | agg hl h1 h => exact ⟨_, rfl, hl, h1, fun j x u h2 h3 => .ro (h j x u h2 h3)⟩
  | agg hl h1 h => exact ⟨_, rfl, hl, h1, h⟩
theorem RV.tup_inv {cs : List AV} (h : RV P w X φ H (.tup cs) v) : ∃ vs : Array Value, v = .tuple vs ∧ cs.length = vs.size ∧ ∀ (j : Nat) x u, cs[j]? = some x → vs[j]? = some u → RV P w X φ H x u := by
  cases h with
  | ro h => cases h with | tup hl h => exact ⟨_, rfl, hl, fun j x u h2 h3 => .ro (h j x u h2 h3)⟩
  | tup hl h => exact ⟨_, rfl, hl, h⟩
theorem RV.fn_inv {g : Nat} {cs : List AV} (h : RV P w X φ H (.fn g cs) v) : ∃ vs : Array Value, v = .func (.func g) #[] vs ∧ cs.length = vs.size ∧ ∀ (j : Nat) x u, cs[j]? = some x → vs[j]? = some u → RV P w X φ H x u := by
  cases h with
  | ro h => cases h with | fn hl h => exact ⟨_, rfl, hl, fun j x u h2 h3 => .ro (h j x u h2 h3)⟩
  | fn hl h => exact ⟨_, rfl, hl, h⟩
/-- The cells of a value. -/
theorem RV.cells {x : AV} {cs : List AV} (h : RV P w X φ H x v) (hc : cellsOf x = some cs) :
    v.cells.size = cs.length ∧ (∀ u ∈ v.cells.toList, u.oneCell' = true) ∧ ∀ (j : Nat) y u, cs[j]? = some y → v.cells[j]? = some u → RV P w X φ H y u := by
  have one : ∀ {x : AV}, v.oneCell' = true → RV P w X φ H x v → cs = [x] → v.cells.size = cs.length ∧ (∀ u ∈ v.cells.toList, u.oneCell' = true) ∧ ∀ (j : Nat) y u, cs[j]? = some y → v.cells[j]? = some u → RV P w X φ H y u := by
    intro x ho h e
    have hv : v.cells = #[v] := by cases v <;> first | rfl | simp [Value.oneCell'] at ho
    rw [e, hv]
    refine ⟨rfl, by simpa using ho, fun j y u h1 h2 => ?_⟩
    cases j with
    | zero => simp at h1 h2; rw [← h1, ← h2]; exact h
    | succ j => simp at h1
  cases x with
  | agg l =>
    simp [cellsOf] at hc
    subst hc
    obtain ⟨vs, rfl, h1, h2, h3⟩ := h.agg_inv
    exact ⟨h1.symm, h2, h3⟩
  | any => simp [cellsOf] at hc
  | und => simp [cellsOf] at hc
  | tup => simp [cellsOf] at hc
  | int => simp [cellsOf] at hc; exact one (by rw [h.int_inv]; rfl) h hc.symm
  | bool => simp [cellsOf] at hc; exact one (by rw [h.bool_inv]; rfl) h hc.symm
  | str => simp [cellsOf] at hc; exact one (by rw [h.str_inv]; rfl) h hc.symm
  | fn => simp [cellsOf] at hc; exact one (by obtain ⟨_, rfl, _⟩ := h.fn_inv; rfl) h hc.symm
  | nilp => simp [cellsOf] at hc; exact one (by cases h with | ro h => cases h; rfl) h hc.symm
  | nils => simp [cellsOf] at hc; exact one (by cases h with | ro h => cases h; rfl) h hc.symm
  | nilc => simp [cellsOf] at hc; exact one (by cases h with | ro h => cases h; rfl) h hc.symm
  | nilf => simp [cellsOf] at hc; exact one (by cases h with | ro h => cases h; rfl) h hc.symm
  | nilm => simp [cellsOf] at hc; exact one (by cases h with | ro h => cases h; rfl) h hc.symm
  | rp => simp [cellsOf] at hc; exact one (by cases h with | ro h => cases h; rfl) h hc.symm
  | rs => simp [cellsOf] at hc; exact one (by cases h with | ro h => cases h; rfl) h hc.symm
  | op => simp [cellsOf] at hc; exact one (by cases h with | ro h => cases h | op h0 => exact h0) h hc.symm
  | ep => simp [cellsOf] at hc; exact one (by cases h with | ro h => cases h | ep h0 => exact h0) h hc.symm
  | os => simp [cellsOf] at hc; exact one (by cases h with | ro h => cases h | os h0 => exact h0) h hc.symm
  | mp => simp [cellsOf] at hc; exact one (by cases h with | ro h => cases h | mp h0 => exact h0) h hc.symm

/-- Where a value points to. -/
def PtsTo (P : Program) (w : World) (X : Nat → Prop) (φ : Nat → Option Nat) (H : List Blk) (a : Addr) (cs : List AV) : Prop :=
  ∀ (j : Nat) x, cs[j]? = some x → ∃ u, w.cell? (a.add j) = some u ∧ u.oneCell' = true ∧ RV P w X φ H x u
theorem add_noneA (b off k : Nat) : (Addr.mk b off none).add k = ⟨b, off + k, none⟩ := by
  unfold Addr.add
  split
  · subst_vars; rfl
  · rfl
theorem cell_row {w : World} {g j : Nat} {cs : Array Value} {t : TypeId} {fr : Nat × Nat} (hg : w.heap[g]? = some (.cells cs t fr)) : w.cell? ⟨g, j, none⟩ = cs[j]? := cell_of_row w g j cs t fr hg
theorem mul_lt {i n j s : Nat} (hi : i < n) (hj : j < s) : i * s + j < n * s := by
  have : (i + 1) * s ≤ n * s := Nat.mul_le_mul_right s hi
  rw [Nat.add_mul] at this; omega
theorem rd_sound {w0 w : World} {X : Nat → Prop} {φ : Nat → Option Nat} {H : List Blk} (hr : HR P w0 X w φ H) {p : AV} {cs : List AV} {v : Value} (h : rd H p = some cs) (hv : RV P w X φ H p v) :
    ∃ a, v = .pointer (some a) ∧ (0 < cs.length → PtsTo P w X φ H a cs) := by
  cases p with
  | rp row =>
    simp [rd] at h
    subst h
    cases hv with
    | ro h =>
      cases h with
      | rp f hb hx hc h => exact ⟨_, rfl, fun _ j x hj => ⟨f j, (hc j x hj).1, (hc j x hj).2, .ro (h j x hj)⟩⟩
  | op id o =>
    simp only [rd] at h
    split at h
    · rename_i t bcs hb
      simp at h
      subst h
      cases hv with
      | ro h => cases h
      | op h0 hid h =>
        obtain ⟨c, hc, rfl⟩ := h t bcs hb
        refine ⟨_, rfl, fun _ j x hj => ?_⟩
        obtain ⟨cur, h1, h2, h3⟩ := hr.blk id _ c hb hc
        rw [List.getElem?_drop] at hj
        have hlt : o + j < cur.size := by rw [h2]; exact (List.getElem?_eq_some_iff.1 hj).1
        obtain ⟨h4, h5⟩ := h3 (o + j) x cur[o + j] hj (by simp [hlt])
        exact ⟨cur[o + j], by rw [add_noneA, cell_row h1]; simp [hlt], h5, h4⟩
    · simp at h
  | ep id n i o =>
    simp only [rd] at h
    split at h
    · rename_i e nb rows hb
      split at h
      · rename_i hn
        split at h
        · rename_i row hrow
          simp at h
          subst h
          cases hv with
          | ro h => cases h
          | ep h0 hid h =>
            obtain ⟨c, hc, rfl⟩ := (h e nb rows hb).2 hn.symm
            refine ⟨_, rfl, fun _ j x hj => ?_⟩
            obtain ⟨cur, h1, h2, h3, h4⟩ := hr.blk id _ c hb hc
            rw [List.getElem?_drop] at hj
            have hl : row.length = P.cellsOf e := h2 row (List.mem_of_getElem? hrow)
            have hi : i < rows.length := (List.getElem?_eq_some_iff.1 hrow).1
            have hj' : o + j < P.cellsOf e := by rw [← hl]; exact (List.getElem?_eq_some_iff.1 hj).1
            have hlt : i * P.cellsOf e + (o + j) < cur.size := Nat.lt_of_lt_of_le (mul_lt hi hj') h3
            obtain ⟨h5, h6⟩ := h4 i (o + j) row x cur[i * P.cellsOf e + (o + j)] hrow hj (by simp [hlt])
            exact ⟨cur[i * P.cellsOf e + (o + j)], by rw [add_noneA, cell_row h1]; simp [hlt, Nat.add_assoc], h6, h5⟩
        · simp at h
      · simp at h
    · simp at h
  | _ => simp [rd] at h

theorem load_sound {w : World} {X : Nat → Prop} {φ : Nat → Option Nat} {H : List Blk} {a : Addr} {cs : List AV} {t : TypeId} {i : Ty} {v : AV} (ht : ty P t = some i) (hp : 0 < cs.length → PtsTo P w X φ H a cs) (h : part i cs 0 = some v) :
    ∃ u, (loadVar t a).run P w = .ok u w ∧ RV P w X φ H v u := by
  unfold part at h
  split at h
  · rename_i hl
    have hpos := ty_pos ht
    have hp := hp (by omega)
    have hex : ∀ j, j < cs.length → ∃ u, w.cell? (a.add j) = some u ∧ u.oneCell' = true ∧ RV P w X φ H (cs.getD j .any) u := fun j hj => by
      have := hp j cs[j] (by simp [hj])
      simpa [List.getD, hj] using this
    simp only [loadVar, Sem.run_bind, run_isAgg_ty ht, Result.andThen_ok]
    split at h
    · rename_i hag
      simp at h
      subst h
      let f : Nat → Value := fun j => if hj : j < cs.length then Classical.choose (hex j hj) else undef
      have hf : ∀ j, j < cs.length → w.cell? (a.add j) = some (f j) ∧ (f j).oneCell' = true ∧ RV P w X φ H (cs.getD j .any) (f j) := fun j hj => by
        simp only [f, hj, dif_pos]; exact Classical.choose_spec (hex j hj)
      have hrun := run_loadCells (P := P) w a i.sz f (fun j hj => (hf j (by omega)).1)
      refine ⟨.agg ((List.range i.sz).map f).toArray, ?_, .agg ?_ ?_ ?_⟩
      · rw [hag]; simp [run_sizeOf_ty ht, hrun]
      · simp; omega
      · intro u hu
        simp at hu
        obtain ⟨j, hj, rfl⟩ := hu
        exact (hf j (by omega)).2.1
      · intro j x u hj hu
        have hjs : j < i.sz := by
          have := (List.getElem?_eq_some_iff.1 hj).1
          simp at this; omega
        simp [hjs] at hj hu
        subst hu
        have := (hf j (by omega)).2.2
        rw [List.getD, hj] at this
        exact this
    · rename_i hag
      have hag : i.ag = false := by simpa using hag
      obtain ⟨u, h1, h2, h3⟩ := hex 0 (by omega)
      have ha : a.add 0 = a := by simp [Addr.add]
      rw [ha] at h1
      refine ⟨u, by rw [hag]; simp [h1], ?_⟩
      cases cs with
      | nil => simp at h
      | cons y r => simp at h; subst h; simpa using h3
  · simp at h
end
end
end Go.Proofs.Ytnldjmokemgaoaa
