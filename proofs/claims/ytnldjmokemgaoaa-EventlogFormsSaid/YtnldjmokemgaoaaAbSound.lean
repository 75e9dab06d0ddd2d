/- One operation: what the abstract machine says of it holds in the model. -/
import Derived.Test.YtnldjmokemgaoaaAbEff
namespace Go.Proofs.Ytnldjmokemgaoaa
set_option linter.unusedSimpArgs false
set_option linter.unusedVariables false
set_option linter.unnecessarySimpa false
set_option linter.unusedSectionVars false
open Go.RowKit
variable [Glob]

section
variable {P : Program}
theorem all_mem {cs : Array Value} {p : Value → Bool} (h : cs.all p = true) : ∀ u ∈ cs.toList, p u = true := fun u hu => by
  rw [Array.all_eq_true_iff_forall_mem] at h
  exact h u (by simpa using hu)
theorem ofCell_ro (w : World) (X : Nat → Prop) (v : Value) : RO w X (ofCell v) v := by
  unfold ofCell
  split <;> constructor
theorem ofV_ro (w : World) (X : Nat → Prop) (v : Value) : RO w X (ofV v) v := by
  unfold ofV
  split
  · rename_i cs
    split
    · rename_i h
      refine .agg (by simp) (all_mem h) fun j x u h1 h2 => ?_
      simp at h1
      obtain ⟨y, h3, rfl⟩ := h1
      rw [h2] at h3
      simp at h3
      subst h3
      exact ofCell_ro w X u
    · exact .any
  · exact ofCell_ro w X v
/-- The cells of a type's zero. -/
theorem zero_sound {t : TypeId} {i : Ty} (h : ty P t = some i) (w : World) : ∃ z, (zeroValue t).run P w = .ok z w ∧ z.cells.size = i.sz ∧ (∀ u ∈ z.cells.toList, u.oneCell' = true) ∧
    ∀ (w' : World) X φ H (j : Nat) x u, i.zero[j]? = some x → z.cells[j]? = some u → RV P w' X φ H x u := by
  obtain ⟨inf, z, d, pl, es, h1, h2, h3, h4, h5, h6, h7, h8, rfl⟩ := (ty_is h).ex
  refine ⟨z, by simp [zeroValue, typeInfo, h1, h3], by rw [descTy_sz]; exact h4, all_mem h6, fun w' X φ H j x u hx hu => ?_⟩
  rw [descTy_zero] at hx
  simp at hx
  obtain ⟨y, h9, rfl⟩ := hx
  rw [hu] at h9
  simp at h9
  subst h9
  exact .ro (ofCell_ro _ _ _)
theorem cellsN_spec {n : Nat} {x : AV} {cs : List AV} (h : cellsN n x = some cs) : cellsOf x = some cs ∧ cs.length = n := by
  unfold cellsN at h
  split at h
  · rename_i c hc
    split at h
    · simp at h; subst h; exact ⟨hc, by assumption⟩
    · simp at h
  · simp at h
section
variable {w0 w : World} {X : Nat → Prop} {φ : Nat → Option Nat} {G : List Blk}
/-- A new variable. -/
theorem newVar_sound (hr : HR P w0 X w φ G) {t : TypeId} {v : Value} {cs : List AV} {nid : Nat} (hl : v.cells.size = cs.length) (h1 : ∀ u ∈ v.cells.toList, u.oneCell' = true)
    (h : ∀ (j : Nat) x u, cs[j]? = some x → v.cells[j]? = some u → RV P w X φ G x u) (hb : G[nid]? = some (.box t cs)) (hφ : φ nid = none) {r : Result Next}
    (hrun : r = .ok (.value (.pointer (some ⟨w.heap.size, 0, none⟩))) (w.alloc (.cells v.cells t))) : Eff P w0 X φ G w (.new (.box t cs)) nid (.op nid 0) r := by
  have hT := turn_alloc hr hb hφ (fun _ _ e => by cases e) (.cells v.cells t)
  have hid := (List.getElem?_eq_some_iff.1 hb).1
  refine ⟨_, _, _, .inl hrun, hr_alloc hr hb hφ (fun _ _ e => by cases e) _ ⟨v.cells, heap_alloc_new w _, hl, fun j x u hx hu => ⟨(h j x u hx hu).turn hT, ?_⟩⟩, hT, .op rfl hid fun t' cs' h' => ?_, fun id hi hne _ => ?_⟩
  · exact h1 u (List.mem_of_getElem? (by simpa using hu))
  · exact ⟨_, by simp [setφ], rfl⟩
  · have := hne _ rfl
    exact ⟨by simp [setφ, this, hi], rfl⟩
/-- A new row. -/
theorem newRow_sound (hr : HR P w0 X w φ G) {e : TypeId} {cur : Array Value} {rows : List (List AV)} {nid cap : Nat} (hrow : ∀ row ∈ rows, row.length = P.cellsOf e) (hsz : cur.size = cap * P.cellsOf e) (hcap : rows.length ≤ cap) (hcap2 : cap ≤ maxLen)
    (h : ∀ (i j : Nat) row x u, rows[i]? = some row → row[j]? = some x → cur[i * P.cellsOf e + j]? = some u → RV P w X φ G x u ∧ u.oneCell' = true) (hb : G[nid]? = some (.row e false rows)) (hφ : φ nid = none) {r : Result Next}
    (hrun : r = .ok (.value (.slice (some ⟨w.heap.size, 0, none⟩) rows.length cap)) (w.alloc (.cells cur e))) : Eff P w0 X φ G w (.new (.row e false rows)) nid (.os nid rows.length) r := by
  have hT := turn_alloc hr hb hφ (fun _ _ e => by cases e) (.cells cur e)
  have hid := (List.getElem?_eq_some_iff.1 hb).1
  refine ⟨_, _, _, .inl hrun, hr_alloc hr hb hφ (fun _ _ e => by cases e) _ ⟨cur, heap_alloc_new w _, hrow, by rw [hsz]; exact Nat.mul_le_mul_right _ hcap, fun i j row x u h1 h2 h3 => ⟨(h i j row x u h1 h2 h3).1.turn hT, (h i j row x u h1 h2 h3).2⟩⟩, hT, .os rfl hid fun e' nb' rows' h' => ?_, fun id hi hne _ => ?_⟩
  · rw [show updG G (.new (.row e false rows)) = G from rfl, hb] at h'
    simp at h'
    obtain ⟨rfl, rfl, rfl⟩ := h'
    exact ⟨Nat.le_refl _, fun _ => .inr ⟨_, _, _, by simp [setφ], rfl, heap_alloc_new w _, hsz, hcap2, hcap⟩⟩
  · have := hne _ rfl
    exact ⟨by simp [setφ, this, hi], rfl⟩
theorem over_spec {cs new c : List AV} {o : Nat} (h : over cs o new = some c) : o + new.length ≤ cs.length ∧ c.length = cs.length ∧
    ∀ (j : Nat) x, c[j]? = some x → (j < o ∧ cs[j]? = some x) ∨ (o ≤ j ∧ j < o + new.length ∧ new[j - o]? = some x) ∨ (o + new.length ≤ j ∧ cs[j]? = some x) := by
  unfold over at h
  split at h
  · rename_i hl
    simp at h
    subst h
    refine ⟨hl, by simp; omega, fun j x hx => ?_⟩
    try simp only [List.append_assoc] at hx
    by_cases h1 : j < o
    · rw [List.getElem?_append_left (by simp; omega)] at hx
      rw [List.getElem?_take] at hx
      simp [h1] at hx
      exact .inl ⟨h1, by simpa using hx⟩
    · rw [List.getElem?_append_right (by simp; omega)] at hx
      have ho : min o cs.length = o := by omega
      simp only [List.length_take, ho] at hx
      by_cases h2 : j < o + new.length
      · rw [List.getElem?_append_left (by omega)] at hx
        exact .inr (.inl ⟨by omega, h2, hx⟩)
      · rw [List.getElem?_append_right (by omega)] at hx
        rw [List.getElem?_drop] at hx
        exact .inr (.inr ⟨by omega, by rw [← hx]; congr 1; omega⟩)
  · simp at h
/-- What stands in an array after a piece of it was overwritten. -/
theorem overA {cur : Array Value} {o : Nat} {vs : List Value} (hl : o + vs.length ≤ cur.size) {j : Nat} {u : Value}
    (h : (cur.toList.take o ++ vs ++ cur.toList.drop (o + vs.length)).toArray[j]? = some u) :
    (j < o ∧ cur[j]? = some u) ∨ (o ≤ j ∧ j < o + vs.length ∧ vs[j - o]? = some u) ∨ (o + vs.length ≤ j ∧ cur[j]? = some u) := by
  simp only [List.getElem?_toArray, List.append_assoc] at h
  have hlen : (cur.toList.take o).length = o := by simp; omega
  by_cases h1 : j < o
  · rw [List.getElem?_append_left (by omega), List.getElem?_take] at h
    simp [h1] at h
    exact .inl ⟨h1, by simpa using h⟩
  · rw [List.getElem?_append_right (by omega), hlen] at h
    by_cases h2 : j < o + vs.length
    · rw [List.getElem?_append_left (by omega)] at h
      exact .inr (.inl ⟨by omega, h2, h⟩)
    · rw [List.getElem?_append_right (by omega), List.getElem?_drop] at h
      refine .inr (.inr ⟨by omega, ?_⟩)
      rw [show o + vs.length + (j - o - vs.length) = j by omega] at h
      simpa using h
/-- A store. -/
theorem store_sound (hr : HR P w0 X w φ G) {p : AV} {cs : List AV} {u : Upd} {t : TypeId} {i : Ty} {pv v : Value} {nid : Nat} (ht : ty P t = some i) (hwr : wr G p cs = some u) (hp : RV P w X φ G p pv) (hn : cs.length = i.sz)
    (hl : v.cells.size = cs.length) (h1 : ∀ u ∈ v.cells.toList, u.oneCell' = true) (h : ∀ (j : Nat) x u, cs[j]? = some x → v.cells[j]? = some u → RV P w X φ G x u) {r : Result Next}
    (hrun : ∀ a w', pv = .pointer (some a) → (storeVar t a v).run P w = .ok () w' → r = .ok .skip w') : Eff P w0 X φ G w u nid .any r := by
  have key : ∀ a, (storeVar t a v).run P w = (storeCells a v.cells.toList).run P w := fun a => by
    simp [storeVar, run_sizeOf_ty ht, hl, hn]
  cases p with
  | op id o =>
    simp only [wr] at hwr
    split at hwr
    · rename_i bt bcs hb
      split at hwr
      · rename_i c hc
        simp at hwr
        subst hwr
        cases hp with
        | ro h => cases h
        | op h0 hid hp =>
          obtain ⟨g, hφ, rfl⟩ := hp bt bcs hb
          obtain ⟨cur, hg, hsz, hcur⟩ := hr.blk id _ g hb hφ
          obtain ⟨o1, o2, o3⟩ := over_spec hc
          have hst := run_storeCells_at P g o bt v.cells.toList 0 cur w hg (by simp; omega) h1
          have hlen : v.cells.toList.length = cs.length := by simpa using hl
          simp only [Nat.add_zero] at hst
          have hT := turn_setRow hr (b' := .box bt c) (cur' := (cur.toList.take o ++ v.cells.toList ++ cur.toList.drop (o + v.cells.toList.length)).toArray) hb hφ ⟨fun t' cs' e => (by cases e; exact ⟨bcs, rfl⟩), fun _ _ _ e => (by cases e), fun _ e => (by cases e)⟩ hg (by simp; omega)
          refine ⟨undef, _, φ, .inr ⟨hrun _ _ rfl ((key _).trans hst), rfl⟩, hr_setRow hr hb hφ ⟨fun t' cs' e => (by cases e; exact ⟨bcs, rfl⟩), fun _ _ _ e => (by cases e), fun _ e => (by cases e)⟩ hg (by simp; omega) ⟨_, setRow_heap w g _ _ _ _ hg, by simp; omega, fun j x u hx hu => ?_⟩, hT, .ro .any, fun id' hi _ _ => ⟨hi, List.getElem?_set_ne (fun e => by rw [e, hi] at hφ; simp at hφ)⟩⟩
          have hA := overA (by rw [hlen]; omega) hu
          rcases o3 j x hx with ⟨q1, q2⟩ | ⟨q1, q2, q3⟩ | ⟨q1, q2⟩
          · rcases hA with ⟨_, s2⟩ | ⟨s1, _⟩ | ⟨s1, _⟩
            · exact ⟨(hcur j x u q2 s2).1.turn hT, (hcur j x u q2 s2).2⟩
            · omega
            · omega
          · rcases hA with ⟨s1, _⟩ | ⟨_, _, s2⟩ | ⟨s1, _⟩
            · omega
            · exact ⟨(h _ x u q3 (by simpa using s2)).turn hT, h1 u (List.mem_of_getElem? s2)⟩
            · omega
          · rcases hA with ⟨s1, _⟩ | ⟨_, s1, _⟩ | ⟨_, s2⟩
            · omega
            · omega
            · exact ⟨(hcur j x u q2 s2).1.turn hT, (hcur j x u q2 s2).2⟩
      · simp at hwr
    · simp at hwr
  | ep id n k o =>
    simp only [wr] at hwr
    split at hwr
    · rename_i e nb rows hb
      split at hwr
      · rename_i hn2
        split at hwr
        · rename_i row hrow
          split at hwr
          · rename_i c hc
            simp at hwr
            subst hwr
            cases hp with
            | ro h => cases h
            | ep h0 hid hp =>
              obtain ⟨g, hφ, rfl⟩ := (hp e nb rows hb).2 hn2.symm
              obtain ⟨cur, hg, hall, hsz, hcur⟩ := hr.blk id _ g hb hφ
              obtain ⟨o1, o2, o3⟩ := over_spec hc
              have hk : k < rows.length := (List.getElem?_eq_some_iff.1 hrow).1
              have hrl : row.length = P.cellsOf e := hall row (List.mem_of_getElem? hrow)
              have hlen : v.cells.toList.length = cs.length := by simpa using hl
              have hin : k * P.cellsOf e + o + cs.length ≤ cur.size := by
                have : (k + 1) * P.cellsOf e ≤ rows.length * P.cellsOf e := Nat.mul_le_mul_right _ hk
                rw [Nat.add_mul] at this; omega
              have hst := run_storeCells_at P g (k * P.cellsOf e + o) e v.cells.toList 0 cur w hg (by simp; omega) h1
              simp only [Nat.add_zero] at hst
              have hsh : Shape (.row e nb rows) (.row e nb (rows.set k c)) := ⟨fun _ _ e => (by cases e), fun e' nb' rows' e2 => (by cases e2; exact ⟨rows, rfl, by simp⟩), fun _ e => (by cases e)⟩
              have hT := turn_setRow hr (b' := .row e nb (rows.set k c)) (cur' := (cur.toList.take (k * P.cellsOf e + o) ++ v.cells.toList ++ cur.toList.drop (k * P.cellsOf e + o + v.cells.toList.length)).toArray) hb hφ hsh hg (by simp; omega)
              refine ⟨undef, _, φ, .inr ⟨hrun _ _ rfl ((key _).trans hst), rfl⟩, hr_setRow hr hb hφ hsh hg (by simp; omega) ⟨_, setRow_heap w g _ _ _ _ hg, ?_, by simp; omega, fun i j row' x u hr' hx hu => ?_⟩, hT, .ro .any, fun id' hi _ _ => ⟨hi, List.getElem?_set_ne (fun e => by rw [e, hi] at hφ; simp at hφ)⟩⟩
              · intro row' hm
                rcases List.mem_or_eq_of_mem_set hm with hm | rfl
                · exact hall row' hm
                · rw [o2]; exact hrl
              · have hA := overA (by rw [hlen]; omega) hu
                have hi' : i < rows.length := by have := (List.getElem?_eq_some_iff.1 hr').1; simpa using this
                by_cases hik : k = i
                · subst hik
                  rw [List.getElem?_set] at hr'
                  simp [hk] at hr'
                  subst hr'
                  rcases o3 j x hx with ⟨q1, q2⟩ | ⟨q1, q2, q3⟩ | ⟨q1, q2⟩
                  · rcases hA with ⟨_, s2⟩ | ⟨s1, _⟩ | ⟨s1, _⟩
                    · exact ⟨(hcur k j row x u hrow q2 s2).1.turn hT, (hcur k j row x u hrow q2 s2).2⟩
                    · omega
                    · omega
                  · rcases hA with ⟨s1, _⟩ | ⟨_, _, s2⟩ | ⟨s1, _⟩
                    · omega
                    · rw [show k * P.cellsOf e + j - (k * P.cellsOf e + o) = j - o by omega] at s2
                      exact ⟨(h _ x u q3 (by simpa using s2)).turn hT, h1 u (List.mem_of_getElem? s2)⟩
                    · omega
                  · rcases hA with ⟨s1, _⟩ | ⟨_, s1, _⟩ | ⟨_, s2⟩
                    · omega
                    · omega
                    · exact ⟨(hcur k j row x u hrow q2 s2).1.turn hT, (hcur k j row x u hrow q2 s2).2⟩
                · rw [List.getElem?_set_ne hik] at hr'
                  have hj : j < P.cellsOf e := by rw [← hall row' (List.mem_of_getElem? hr')]; exact (List.getElem?_eq_some_iff.1 hx).1
                  have hout : i * P.cellsOf e + j < k * P.cellsOf e + o ∨ k * P.cellsOf e + o + cs.length ≤ i * P.cellsOf e + j := by
                    rcases Nat.lt_or_gt_of_ne hik with hlt | hgt
                    · right
                      have : (k + 1) * P.cellsOf e ≤ i * P.cellsOf e := Nat.mul_le_mul_right _ hlt
                      rw [Nat.add_mul] at this; omega
                    · left
                      have := mul_lt (s := P.cellsOf e) hgt hj
                      omega
                  rcases hA with ⟨_, s2⟩ | ⟨s1, s2, _⟩ | ⟨_, s2⟩
                  · exact ⟨(hcur i j row' x u hr' hx s2).1.turn hT, (hcur i j row' x u hr' hx s2).2⟩
                  · omega
                  · exact ⟨(hcur i j row' x u hr' hx s2).1.turn hT, (hcur i j row' x u hr' hx s2).2⟩
          · simp at hwr
        · simp at hwr
      · simp at hwr
    · simp at hwr
  | _ => simp [wr] at hwr
end
end
end Go.Proofs.Ytnldjmokemgaoaa
