/- Calls in the abstract machine: a function whose arguments are read, and which hands back memory of its own or none. -/
import Derived.Test.YtnldjmokemgaoaaAbEopS
namespace Go.Proofs.Ytnldjmokemgaoaa
set_option linter.unusedSimpArgs false
set_option linter.unusedVariables false
set_option linter.unnecessarySimpa false
set_option linter.unusedSectionVars false
open Go.RowKit
variable [Glob]

section
variable {P : Program}
/-- The function is one of the program's own, with a body. -/
def entersB (P : Program) (f : FuncId) : Bool := match P.funcs[f]? with | some fn => fn.name != "runtime.NumGoroutine" && fn.body.isSome | none => false
theorem run_callFunc {f : FuncId} (h : entersB P f = true) (vs : Array Value) (w : World) : (callFunc f vs).run P w = .ok (.enter f vs) w := by
  unfold entersB at h
  split at h
  · rename_i fn hf
    simp at h
    have h1 : ¬ fn.body.isNone = true := by cases hb : fn.body <;> simp [hb] at h ⊢
    simp [callFunc, hf, h.1, h1]
    intro hn; simp [hn] at h
  · simp at h
/-- Wherever the arguments read as these, the function hands back this, and nothing that was there is turned. -/
def Pure (P : Program) (f : FuncId) (args : List AV) (r : AV) : Prop :=
  entersB P f = true ∧ ∀ (w : World) (X : Nat → Prop) (vs : Array Value), (∀ b, X b → b < w.heap.size) → VarsOk w X → args.length = vs.size → (∀ (j : Nat) x v, args[j]? = some x → vs[j]? = some v → RO w X x v) →
    Calls P f vs w fun e w' => ∃ v, e = .returned v ∧ RO w' X r v ∧ Below w.heap.size w w'

theorem RO.weaken {w : World} {X Y : Nat → Prop} {x : AV} {v : Value} (h : RO w Y x v) (hx : ∀ b, X b → Y b) : RO w X x v := h.mono (Nat.le_refl _) fun b hb _ => ⟨rfl, fun h => hb (hx b h)⟩
theorem ownsL_get {l : List AV} (h : ownsL l = false) : ∀ (j : Nat) x, l[j]? = some x → owns x = false := by
  induction l with
  | nil => intro j x h; simp at h
  | cons y l ih =>
    intro j x hj
    simp only [ownsL, Bool.or_eq_false_iff] at h
    cases j with
    | zero => simp at hj; rw [← hj]; exact h.1
    | succ j => exact ih h.2 j x (by simpa using hj)
section
variable {w0 w : World} {X : Nat → Prop} {φ : Nat → Option Nat} {G H : List Blk}
theorem RV.ro_of {x : AV} {v : Value} (h : RV P w X φ G x v) (ho : owns x = false) : RO w (fun b => X b ∨ ∃ id, φ id = some b) x v := by
  induction h with
  | ro h => exact h
  | op => simp [owns] at ho
  | ep => simp [owns] at ho
  | os => simp [owns] at ho
  | mp => simp [owns] at ho
  | agg hl h1 _ ih => simp only [owns] at ho; exact .agg hl h1 fun j x v h2 h3 => ih j x v h2 h3 (ownsL_get ho j x h2)
  | tup hl _ ih => simp only [owns] at ho; exact .tup hl fun j x v h2 h3 => ih j x v h2 h3 (ownsL_get ho j x h2)
  | fn hl _ ih => simp only [owns] at ho; exact .fn hl fun j x v h2 h3 => ih j x v h2 h3 (ownsL_get ho j x h2)
theorem pts_ro (hr : HR P w0 X w φ G) {n : Nat} {a : Addr} {cs ys : List AV} (hb : a.block < w.heap.size) (hx : ¬ X a.block) (hp : PtsTo P w X φ G a cs) (hm : cs.mapM (reify G n) = some ys)
    (ih : ∀ x y v, reify G n x = some y → RV P w X φ G x v → RO w X y v) : RO w X (.rp ys) (.pointer (some a)) := by
  obtain ⟨m1, m2⟩ := mapM_spec hm
  have hex : ∀ (j : Nat) y, ys[j]? = some y → ∃ u, w.cell? (a.add j) = some u ∧ u.oneCell' = true ∧ RO w X y u := fun j y hj => by
    have hlt : j < cs.length := by rw [← m1]; exact (List.getElem?_eq_some_iff.1 hj).1
    obtain ⟨u, h1, h2, h3⟩ := hp j cs[j] (by simp [hlt])
    obtain ⟨y', h4, h5⟩ := m2 j cs[j] (by simp [hlt])
    rw [hj] at h4
    simp at h4
    subst h4
    exact ⟨u, h1, h2, ih _ _ _ h5 h3⟩
  refine .rp (fun j => (w.cell? (a.add j)).getD undef) hb hx (fun j y hj => ?_) (fun j y hj => ?_)
  · obtain ⟨u, h1, h2, _⟩ := hex j y hj
    rw [h1]; exact ⟨rfl, h2⟩
  · obtain ⟨u, h1, _, h3⟩ := hex j y hj
    rw [h1]; exact h3
theorem reify_sound (hr : HR P w0 X w φ G) : ∀ (n : Nat) (x y : AV) (v : Value), reify G n x = some y → RV P w X φ G x v → RO w X y v := by
  intro n
  induction n with
  | zero => intro x y v h; simp [reify] at h
  | succ n ih =>
    intro x y v h hv
    have hnx : ∀ (id c : Nat), φ id = some c → ¬ X c := fun id c hc hX => (hr.ext c hX).2 id hc
    have plain : owns x = false → y = x → RO w X y v := fun ho e => by rw [e]; exact (hv.ro_of ho).weaken fun b hb => .inl hb
    cases x with
    | op id o =>
      simp only [reify] at h
      split at h
      · rename_i t cs hb
        simp at h
        obtain ⟨ys, hys, rfl⟩ := h
        cases hv with
        | ro h => cases h
        | op h0 hid hv' =>
          obtain ⟨c, hc, rfl⟩ := hv' t cs hb
          obtain ⟨o1, o2, _⟩ := hr.own id c hc
          by_cases hp0 : 0 < (cs.drop o).length
          · obtain ⟨a, ha, hp⟩ := rd_sound hr (p := .op id o) (cs := cs.drop o) (by simp [rd, hb]) (.op h0 hid hv')
            simp at ha
            subst ha
            exact pts_ro hr o2 (hnx id c hc) (hp hp0) hys ih
          · have : cs.drop o = [] := List.eq_nil_of_length_eq_zero (by omega)
            rw [this] at hys
            simp at hys
            subst hys
            exact .rp (fun _ => undef) o2 (hnx id c hc) (by simp) (by simp)
      · simp at h
    | ep id m i o =>
      simp only [reify] at h
      split at h
      · rename_i e nb rows hb
        split at h
        · rename_i hm
          cases hrow : rows[i]? with
          | none => simp [hrow] at h
          | some row =>
            simp [hrow] at h
            obtain ⟨ys, hys, rfl⟩ := h
            cases hv with
            | ro h => cases h
            | ep h0 hid hv' =>
              obtain ⟨c, hc, rfl⟩ := (hv' e nb rows hb).2 hm.symm
              obtain ⟨o1, o2, _⟩ := hr.own id c hc
              by_cases hp0 : 0 < (row.drop o).length
              · obtain ⟨a, ha, hp⟩ := rd_sound hr (p := .ep id m i o) (cs := row.drop o) (by simp [rd, hb, hm, hrow]) (.ep h0 hid hv')
                simp at ha
                subst ha
                exact pts_ro hr o2 (hnx id c hc) (hp hp0) hys ih
              · have : row.drop o = [] := List.eq_nil_of_length_eq_zero (by omega)
                rw [this] at hys
                simp at hys
                subst hys
                exact .rp (fun _ => undef) o2 (hnx id c hc) (by simp) (by simp)
        · simp at h
      · simp at h
    | os id m =>
      simp only [reify] at h
      split at h
      · rename_i e nb rows hb
        split at h
        · rename_i hm
          simp at h
          obtain ⟨ys, hys, rfl⟩ := h
          obtain ⟨m1, m2⟩ := mapM_spec hys
          cases hv with
          | ro h => cases h
          | os h0 hid hv' =>
            rcases (hv' e nb rows hb).2 hm.symm with ⟨_, _, ⟨A, rfl⟩, h3⟩ | ⟨c, cap, cur, h4, rfl, h5, h6, h7, h8⟩
            · have : ys = [] := List.eq_nil_of_length_eq_zero (by omega)
              subst this
              exact .rs 0 (fun _ _ => undef) rfl (Nat.le_refl _) (by simp) (by simp)
            · obtain ⟨o1, o2, _⟩ := hr.own id c h4
              obtain ⟨cur', k1, k2, k3, k4⟩ := hr.blk id _ c hb h4
              rw [h5] at k1
              simp at k1
              subst k1
              have hex : ∀ (i j : Nat) row y, ys[i]? = some row → row[j]? = some y → ∃ u, cur[i * P.cellsOf e + j]? = some u ∧ u.oneCell' = true ∧ RO w X y u := fun i j row y hi hj => by
                have hlt : i < rows.length := by rw [← m1]; exact (List.getElem?_eq_some_iff.1 hi).1
                obtain ⟨row', q1, q2⟩ := m2 i rows[i] (by simp [hlt])
                rw [hi] at q1
                simp at q1
                subst q1
                obtain ⟨n1, n2⟩ := mapM_spec q2
                have hlj : j < rows[i].length := by rw [← n1]; exact (List.getElem?_eq_some_iff.1 hj).1
                obtain ⟨y', p1, p2⟩ := n2 j rows[i][j] (by simp [hlj])
                rw [hj] at p1
                simp at p1
                subst p1
                have hrl := k2 rows[i] (List.getElem_mem hlt)
                have hlc : i * P.cellsOf e + j < cur.size := Nat.lt_of_lt_of_le (mul_lt hlt (by omega)) k3
                obtain ⟨r1, r2⟩ := k4 i j rows[i] rows[i][j] cur[i * P.cellsOf e + j] (by simp [hlt]) (by simp [hlj]) (by simp [hlc])
                exact ⟨_, by simp [hlc], r2, ih _ _ _ p2 r1⟩
              refine .rs (P.cellsOf e) (fun i j => (cur[i * P.cellsOf e + j]?).getD undef) (by omega) h8 (fun i row hi => ?_) (fun i j row y hi hj => ?_)
              · have hlt : i < rows.length := by rw [← m1]; exact (List.getElem?_eq_some_iff.1 hi).1
                obtain ⟨row', q1, q2⟩ := m2 i rows[i] (by simp [hlt])
                rw [hi] at q1
                simp at q1
                subst q1
                have hrl := k2 rows[i] (List.getElem_mem hlt)
                have hl := (mapM_spec q2).1
                refine ⟨by omega, _, rfl, o2, hnx id c h4, fun j hj => ?_⟩
                obtain ⟨u, p1, p2, _⟩ := hex i j row _ hi (List.getElem?_eq_getElem (by omega))
                rw [add_noneA, cell_row h5]
                simp only [Nat.zero_add]
                rw [p1]
                exact ⟨rfl, p2⟩
              · obtain ⟨u, p1, _, p3⟩ := hex i j row y hi hj
                rw [p1]; exact p3
        · simp at h
      · simp at h
    | agg cs =>
      simp [reify] at h
      obtain ⟨ys, hys, rfl⟩ := h
      obtain ⟨m1, m2⟩ := mapM_spec hys
      obtain ⟨vs, rfl, k1, k2, k3⟩ := hv.agg_inv
      refine .agg (by omega) k2 fun j y u hj hu => ?_
      have hlt : j < cs.length := by rw [← m1]; exact (List.getElem?_eq_some_iff.1 hj).1
      obtain ⟨y', q1, q2⟩ := m2 j cs[j] (by simp [hlt])
      rw [hj] at q1; simp at q1; subst q1
      exact ih _ _ _ q2 (k3 j cs[j] u (by simp [hlt]) hu)
    | tup cs =>
      simp [reify] at h
      obtain ⟨ys, hys, rfl⟩ := h
      obtain ⟨m1, m2⟩ := mapM_spec hys
      obtain ⟨vs, rfl, k1, k3⟩ := hv.tup_inv
      refine .tup (by omega) fun j y u hj hu => ?_
      have hlt : j < cs.length := by rw [← m1]; exact (List.getElem?_eq_some_iff.1 hj).1
      obtain ⟨y', q1, q2⟩ := m2 j cs[j] (by simp [hlt])
      rw [hj] at q1; simp at q1; subst q1
      exact ih _ _ _ q2 (k3 j cs[j] u (by simp [hlt]) hu)
    | fn g cs =>
      simp [reify] at h
      obtain ⟨ys, hys, rfl⟩ := h
      obtain ⟨m1, m2⟩ := mapM_spec hys
      obtain ⟨vs, rfl, k1, k3⟩ := hv.fn_inv
      refine .fn (by omega) fun j y u hj hu => ?_
      have hlt : j < cs.length := by rw [← m1]; exact (List.getElem?_eq_some_iff.1 hj).1
      obtain ⟨y', q1, q2⟩ := m2 j cs[j] (by simp [hlt])
      rw [hj] at q1; simp at q1; subst q1
      exact ih _ _ _ q2 (k3 j cs[j] u (by simp [hlt]) hu)
    | mp => simp [reify] at h
    | nils =>
      simp [reify] at h
      subst h
      obtain rfl := hv.nils_inv
      exact .rs 0 (fun _ _ => undef) rfl (Nat.le_refl _) (fun i row hi => by simp at hi) (fun i j row x hi _ => by simp at hi)
    | nilc =>
      simp [reify] at h
      subst h
      obtain ⟨A, rfl⟩ := hv.nilc_inv
      exact .rs 0 (fun _ _ => undef) rfl (Nat.le_refl _) (fun i row hi => by simp at hi) (fun i j row x hi _ => by simp at hi)
    | _ => simp [reify] at h; exact plain rfl h.symm

theorem mapM_mono {α β : Type} {f g : α → Option β} (h : ∀ x y, f x = some y → g x = some y) {l : List α} {r : List β} (hl : l.mapM f = some r) : l.mapM g = some r := by
  induction l generalizing r with
  | nil => simpa using hl
  | cons x l ih =>
    rw [List.mapM_cons] at hl ⊢
    cases hx : f x with
    | none => simp [hx] at hl
    | some y =>
      cases hr : l.mapM f with
      | none => simp [hx, hr] at hl
      | some ys =>
        simp [hx, hr] at hl
        subst hl
        simp [h x y hx, ih hr]
theorem reify_mono (hG : ∀ (id : Nat) b, H[id]? = some b → G[id]? = some b) : ∀ (n : Nat) (x y : AV), reify H n x = some y → reify G n x = some y := by
  intro n
  induction n with
  | zero => intro x y h; simp [reify] at h
  | succ n ih =>
    intro x y h
    cases x with
    | op id o =>
      simp only [reify] at h ⊢
      split at h
      · rename_i t cs hb
        rw [hG _ _ hb]
        simp at h ⊢
        obtain ⟨ys, h1, h2⟩ := h
        exact ⟨ys, mapM_mono ih h1, h2⟩
      · simp at h
    | ep id m i o =>
      simp only [reify] at h ⊢
      split at h
      · rename_i t nb rows hb
        rw [hG _ _ hb]
        split at h
        · rename_i hm
          simp only [hm, if_true]
          cases hrow : rows[i]? with
          | none => simp [hrow] at h
          | some row =>
            simp [hrow] at h ⊢
            obtain ⟨ys, h1, h2⟩ := h
            exact ⟨ys, mapM_mono ih h1, h2⟩
        · simp at h
      · simp at h
    | os id m =>
      simp only [reify] at h ⊢
      split at h
      · rename_i t nb rows hb
        rw [hG _ _ hb]
        split at h
        · rename_i hm
          simp only [hm, if_true]
          simp at h ⊢
          obtain ⟨ys, h1, h2⟩ := h
          exact ⟨ys, mapM_mono (fun row r hr => mapM_mono ih hr) h1, h2⟩
        · simp at h
      · simp at h
    | agg cs => simp [reify] at h ⊢; obtain ⟨ys, h1, h2⟩ := h; exact ⟨ys, mapM_mono ih h1, h2⟩
    | tup cs => simp [reify] at h ⊢; obtain ⟨ys, h1, h2⟩ := h; exact ⟨ys, mapM_mono ih h1, h2⟩
    | fn g cs => simp [reify] at h ⊢; obtain ⟨ys, h1, h2⟩ := h; exact ⟨ys, mapM_mono ih h1, h2⟩
    | _ => first | (simp [reify] at h; done) | simpa [reify] using h
/-- What a call does. -/
theorem pure_call (hr : HR P w0 X w φ G) {g : FuncId} {as ys : List AV} {r : AV} {vs : Array Value} (hp : Pure P g ys r) (hl : as.length = vs.size) (hv : ∀ (j : Nat) x v, as[j]? = some x → vs[j]? = some v → RV P w X φ G x v)
    (hm : as.mapM (reify G 8) = some ys) (ho : flat r = true ∨ (ys = as ∧ ownsL as = false)) :
    Calls P g vs w fun e w' => ∃ v, e = .returned v ∧ HR P w0 X w' φ G ∧ Turn w φ G w' φ G ∧ RV P w' X φ G r v := by
  obtain ⟨m1, m2⟩ := mapM_spec hm
  rcases ho with hf | ⟨rfl, ho⟩
  · refine (hp.2 w X vs (fun b hb => (hr.ext b hb).1) hr.now (by omega) fun j y v hj hu => ?_).mono fun e w' ⟨v, h1, h2, h3⟩ => ⟨v, h1, hr_below hr h3, turn_below hr h3, .ro (h2.of_flat hf)⟩
    have hlt : j < as.length := by rw [← m1]; exact (List.getElem?_eq_some_iff.1 hj).1
    obtain ⟨y', q1, q2⟩ := m2 j as[j] (by simp [hlt])
    rw [hj] at q1; simp at q1; subst q1
    exact reify_sound hr 8 _ _ _ q2 (hv j as[j] v (by simp [hlt]) hu)
  · refine (hp.2 w (fun b => X b ∨ ∃ id, φ id = some b) vs (fun b hb => hb.elim (fun hb => (hr.ext b hb).1) fun ⟨id, h⟩ => (hr.own id b h).2.1) hr.all hl fun j y v hj hu => (hv j y v hj hu).ro_of (ownsL_get ho j y hj)).mono
      fun e w' ⟨v, h1, h2, h3⟩ => ⟨v, h1, hr_below hr h3, turn_below hr h3, .ro h2⟩
/-! ### Calls in general; functions that hand back a row of their own making -/
/-- What a call does: it hands back r, and turns the blocks as u says. -/
def CallE (P : Program) (g : FuncId) (args : List AV) (H : List Blk) (r : AV) (u : Upd) : Prop :=
  entersB P g = true ∧ (∀ id b, u ≠ .set id b) ∧ (∀ b, u = .new b → ∀ e rows, b ≠ .row e true rows) ∧
  ∀ (w0 w : World) X φ G (vs : Array Value), HR P w0 X w φ G → (∀ (id : Nat) b, H[id]? = some b → G[id]? = some b) → (∀ b, u = .new b → G[H.length]? = some b ∧ φ H.length = none) → args.length = vs.size →
    (∀ (j : Nat) x v, args[j]? = some x → vs[j]? = some v → RV P w X φ G x v) →
    Calls P g vs w fun e w' => ∃ v φ', e = .returned v ∧ HR P w0 X w' φ' (updG G u) ∧ Turn w φ G w' φ' (updG G u) ∧ RV P w' X φ' (updG G u) r v ∧
      ∀ id, φ id = none → (∀ b, u = .new b → id ≠ H.length) → (∀ e rows, G[id]? ≠ some (.row e true rows)) → φ' id = none ∧ (updG G u)[id]? = G[id]?
theorem pure_callE {g : FuncId} {as ys : List AV} {r : AV} (hp : Pure P g ys r) (hm : as.mapM (reify H 8) = some ys) (ho : flat r = true ∨ (ys = as ∧ ownsL as = false)) : CallE P g as H r .no :=
  ⟨hp.1, fun _ _ h => by simp at h, fun _ h => by simp at h, fun w0 w X φ G vs hr hG _ hl hv =>
    (pure_call hr hp hl hv (mapM_mono (reify_mono hG 8) hm) ho).mono fun e w' ⟨v, h1, h2, h3, h4⟩ => ⟨v, φ, h1, h2, h3, h4, fun id hid _ _ => ⟨hid, rfl⟩⟩⟩
/-- Wherever the arguments read as these, the function hands back a row of its own making, which reads as this. -/
def Fresh (P : Program) (f : FuncId) (args : List AV) (e : TypeId) (rows : List (List AV)) : Prop :=
  entersB P f = true ∧ ∀ (w : World) (X : Nat → Prop) (vs : Array Value), (∀ b, X b → b < w.heap.size) → VarsOk w X → args.length = vs.size → (∀ (j : Nat) x v, args[j]? = some x → vs[j]? = some v → RO w X x v) →
    Calls P f vs w fun en w' => ∃ c cap cur, en = .returned (.slice (some ⟨c, 0, none⟩) rows.length cap) ∧ w.heap.size ≤ c ∧ w'.heap[c]? = some (.cells cur e (0, 0)) ∧ (∀ row ∈ rows, row.length = P.cellsOf e) ∧ cur.size = cap * P.cellsOf e ∧ rows.length ≤ cap ∧ cap ≤ maxLen ∧
      (∀ (i j : Nat) row x v, rows[i]? = some row → row[j]? = some x → cur[i * P.cellsOf e + j]? = some v → RO w' (fun b => X b ∨ b = c) x v ∧ v.oneCell' = true) ∧ Below w.heap.size w w'
theorem turn_new {w' : World} (hr : HR P w0 X w φ G) (hb : Below w.heap.size w w') {id c : Nat} {b : Blk} (hbk : G[id]? = some b) (hφ : φ id = none) (hnb : ∀ e rows, b ≠ .row e true rows) (hc : w.heap.size ≤ c) : Turn w φ G w' (setφ φ id c) G where
  size := hb.size
  len := Nat.le_refl _
  old := fun k h hl => ⟨hb.block k hl, fun i e => by
    unfold setφ at e
    split at e
    · simp at e; omega
    · exact h i e⟩
  box := fun i t cs _ h => ⟨cs, h, fun c hc => by
    unfold setφ; split
    · rename_i e; rw [e, hφ] at hc; simp at hc
    · exact hc⟩
  row := fun i e nb rows _ h => ⟨rows, h, Nat.le_refl _, fun _ => ⟨fun hn hi => by
    unfold setφ; split
    · rename_i e'; subst e'; rw [hbk] at h; simp at h; subst hn; exact absurd h (hnb _ _)
    · exact hi, fun c hc => ⟨by
      unfold setφ; split
      · rename_i e'; rw [e', hφ] at hc; simp at hc
      · exact hc, fun cur hcur => ⟨cur, by rw [hb.block c (hr.own i c hc).2.1]; exact hcur, rfl⟩⟩⟩⟩
  map := fun i es _ h => ⟨es, h, fun c hc => by
    unfold setφ; split
    · rename_i e; rw [e, hφ] at hc; simp at hc
    · exact hc⟩
theorem fresh_callE {g : FuncId} {as ys : List AV} {e : TypeId} {rows : List (List AV)} (hp : Fresh P g ys e rows) (hm : as.mapM (reify H 8) = some ys) (ho : (rows.all fun r => r.all flat) = true ∨ (ys = as ∧ ownsL as = false)) :
    CallE P g as H (.os H.length rows.length) (.new (.row e false rows)) := by
  refine ⟨hp.1, fun _ _ h => by simp at h, fun b h e' rows' hb => by simp at h; rw [hb] at h; simp at h, fun w0 w X φ G vs hr hG hnew hl hv => ?_⟩
  obtain ⟨hbk, hφ⟩ := hnew _ rfl
  have hm := mapM_mono (reify_mono hG 8) hm
  obtain ⟨m1, m2⟩ := mapM_spec hm
  have key : ∀ Y : Nat → Prop, (∀ b, Y b → b < w.heap.size) → VarsOk w Y → (∀ (j : Nat) x v, ys[j]? = some x → vs[j]? = some v → RO w Y x v) → ((rows.all fun r => r.all flat) = true ∨ ∀ b, (X b ∨ ∃ id, φ id = some b) → Y b) →
      Calls P g vs w fun en w' => ∃ v φ', en = .returned v ∧ HR P w0 X w' φ' G ∧ Turn w φ G w' φ' G ∧ RV P w' X φ' G (.os H.length rows.length) v ∧
        ∀ id, φ id = none → (∀ b, Upd.new (.row e false rows) = .new b → id ≠ H.length) → (∀ e rows, G[id]? ≠ some (.row e true rows)) → φ' id = none ∧ G[id]? = G[id]? := fun Y hY hvo hRO hcase =>
    (hp.2 w Y vs hY hvo (by omega) hRO).mono fun en w' ⟨c, cap, cur, h1, h2, h3, h4, h5, h6, h7, h8, h9⟩ => by
      have hT := turn_new hr h9 hbk hφ (fun _ _ h => by simp at h) h2
      have hclt : c < w'.heap.size := (Array.getElem?_eq_some_iff.1 h3).1
      refine ⟨_, setφ φ H.length c, h1, ⟨hr.vo, hr.fr.trans (h9.mono hr.fr.size), ext_turn hr hT, fun i k hk => ?_, fun i j k hi hj => ?_, fun i b k hi hk => ?_⟩, hT, .os rfl (List.getElem?_eq_some_iff.1 hbk).1 fun e' nb' rows' hb' => ?_, fun i hi hne _ => ⟨?_, rfl⟩⟩
      · unfold setφ at hk
        split at hk
        · rename_i e1; simp at hk; subst hk e1
          exact ⟨Nat.le_trans hr.fr.size h2, hclt, (List.getElem?_eq_some_iff.1 hbk).1⟩
        · have := hr.own i k hk; have := h9.size; omega
      · unfold setφ at hi hj
        split at hi <;> split at hj
        · subst_vars; rfl
        · simp at hi; subst hi; have := (hr.own j _ hj).2.1; omega
        · simp at hj; subst hj; have := (hr.own i _ hi).2.1; omega
        · exact hr.inj i j k hi hj
      · by_cases e1 : i = H.length
        · subst e1
          rw [hbk] at hi
          simp at hi
          subst hi
          simp [setφ] at hk
          subst hk
          refine ⟨cur, h3, h4, by rw [h5]; exact Nat.mul_le_mul_right _ h6, fun i j row x v q1 q2 q3 => ⟨.ro ?_, (h8 i j row x v q1 q2 q3).2⟩⟩
          rcases hcase with hf | hYY
          · simp only [List.all_eq_true] at hf
            exact (h8 i j row x v q1 q2 q3).1.of_flat (hf row (List.mem_of_getElem? q1) x (List.mem_of_getElem? q2))
          · refine (h8 i j row x v q1 q2 q3).1.weaken fun b hb => ?_
            rcases hb with hb | ⟨id, hid⟩
            · exact .inl (hYY b (.inl hb))
            · unfold setφ at hid
              split at hid
              · simp at hid; exact .inr hid.symm
              · exact .inl (hYY b (.inr ⟨id, hid⟩))
        · simp [setφ, e1] at hk
          exact (hr.blk i b k hi hk).turn hT (h9.block k (hr.own i k hk).2.1)
      · rw [hbk] at hb'
        simp at hb'
        obtain ⟨rfl, rfl, rfl⟩ := hb'
        exact ⟨Nat.le_refl _, fun _ => .inr ⟨c, cap, cur, by simp [setφ], rfl, h3, h5, h7, h6⟩⟩
      · have := hne _ rfl
        simp [setφ, this, hi]
  rcases ho with hf | ⟨rfl, ho⟩
  · refine key X (fun b hb => (hr.ext b hb).1) hr.now (fun j y v hj hu => ?_) (.inl hf)
    have hlt : j < as.length := by rw [← m1]; exact (List.getElem?_eq_some_iff.1 hj).1
    obtain ⟨y', q1, q2⟩ := m2 j as[j] (by simp [hlt])
    rw [hj] at q1; simp at q1; subst q1
    exact reify_sound hr 8 _ _ _ q2 (hv j as[j] v (by simp [hlt]) hu)
  · exact key (fun b => X b ∨ ∃ id, φ id = some b) (fun b hb => hb.elim (fun hb => (hr.ext b hb).1) fun ⟨id, h⟩ => (hr.own id b h).2.1) hr.all
      (fun j y v hj hu => (hv j y v hj hu).ro_of (ownsL_get ho j y hj)) (.inr fun b hb => hb)
end
end
end Go.Proofs.Ytnldjmokemgaoaa
