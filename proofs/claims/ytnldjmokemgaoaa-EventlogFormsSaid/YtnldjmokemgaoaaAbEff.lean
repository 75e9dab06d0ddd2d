/- What becomes of the call's own blocks: a new one, a store, a draw. -/
import Derived.Test.YtnldjmokemgaoaaAbOp
namespace Go.Proofs.Ytnldjmokemgaoaa
set_option linter.unusedSimpArgs false
set_option linter.unusedVariables false
set_option linter.unnecessarySimpa false
set_option linter.unusedSectionVars false
open Go.RowKit
variable [Glob]

section
variable {P : Program}
def updG (G : List Blk) : Upd → List Blk
  | .set id b => G.set id b
  | _ => G
/-- An operation yields a value that reads as v, and turns the blocks as u says; nid: the number for a new block. -/
def Eff (P : Program) (w0 : World) (X : Nat → Prop) (φ : Nat → Option Nat) (G : List Blk) (w : World) (u : Upd) (nid : Nat) (v : AV) (r : Result Next) : Prop :=
  ∃ x w' φ', (r = .ok (.value x) w' ∨ (r = .ok .skip w' ∧ x = undef)) ∧ HR P w0 X w' φ' (updG G u) ∧ Turn w φ G w' φ' (updG G u) ∧ RV P w' X φ' (updG G u) v x ∧
    ∀ id, φ id = none → (∀ b, u = .new b → id ≠ nid) → (∀ e rows, G[id]? ≠ some (.row e true rows)) → φ' id = none ∧ (updG G u)[id]? = G[id]?

theorem Turn.refl (w : World) (φ : Nat → Option Nat) (G : List Blk) : Turn w φ G w φ G where
  size := Nat.le_refl _
  len := Nat.le_refl _
  old := fun b h _ => ⟨rfl, h⟩
  box := fun _ _ cs _ h => ⟨cs, h, fun _ h => h⟩
  row := fun _ _ _ rows _ h => ⟨rows, h, Nat.le_refl _, fun _ => ⟨fun _ h => h, fun c hc => ⟨hc, fun cur h => ⟨cur, h, rfl⟩⟩⟩⟩
  map := fun _ es _ h => ⟨es, h, fun _ h => h⟩
theorem eff_pure {w0 w : World} {X : Nat → Prop} {φ : Nat → Option Nat} {G : List Blk} {nid : Nat} {v : AV} {x : Value} {r : Result Next} (hr : HR P w0 X w φ G) (hx : r = .ok (.value x) w) (hv : RV P w X φ G v x) : Eff P w0 X φ G w .no nid v r :=
  ⟨x, w, φ, .inl hx, hr, Turn.refl _ _ _, hv, fun _ h _ _ => ⟨h, rfl⟩⟩
theorem BlkOk.turn {w w' : World} {X : Nat → Prop} {φ φ' : Nat → Option Nat} {H H' : List Blk} {c : Nat} {b : Blk} (hT : Turn w φ H w' φ' H') (he : w'.heap[c]? = w.heap[c]?) (h : BlkOk P w X φ H c b) : BlkOk P w' X φ' H' c b := by
  cases b with
  | box t cs =>
    obtain ⟨cur, h1, h2, h3⟩ := h
    exact ⟨cur, by rw [he]; exact h1, h2, fun j x v hx hv => ⟨(h3 j x v hx hv).1.turn hT, (h3 j x v hx hv).2⟩⟩
  | row e nb rows =>
    obtain ⟨cur, h1, h2, h3, h4⟩ := h
    exact ⟨cur, by rw [he]; exact h1, h2, h3, fun i j row x v hr hx hv => ⟨(h4 i j row x v hr hx hv).1.turn hT, (h4 i j row x v hr hx hv).2⟩⟩
  | map es =>
    obtain ⟨ents, clock, h1, h2, h3, h4, h5⟩ := h
    exact ⟨ents, clock, by rw [he]; exact h1, h2, h3, h4, fun i k x ent h6 h7 => ⟨(h5 i k x ent h6 h7).1.turn hT, (h5 i k x ent h6 h7).2.turn hT⟩⟩
  | gone => trivial

def setφ (φ : Nat → Option Nat) (id c : Nat) : Nat → Option Nat := fun i => if i = id then some c else φ i
theorem heap_alloc (w : World) (o : Obj) (k : Nat) (h : k < w.heap.size) : (w.alloc o).heap[k]? = w.heap[k]? := Below.heap_alloc w o k h
theorem turn_alloc {w0 w : World} {X : Nat → Prop} {φ : Nat → Option Nat} {G : List Blk} (hr : HR P w0 X w φ G) {id : Nat} {b : Blk} (hb : G[id]? = some b) (hφ : φ id = none) (hnb : ∀ e rows, b ≠ .row e true rows) (o : Obj) :
    Turn w φ G (w.alloc o) (setφ φ id w.heap.size) G where
  size := by simp
  len := Nat.le_refl _
  old := fun b h hl => ⟨heap_alloc w o b hl, fun i e => by
    unfold setφ at e
    split at e
    · simp at e; omega
    · exact h i e⟩
  box := fun i t cs _ h => ⟨cs, h, fun c hc => by
    unfold setφ; split
    · rename_i e; rw [e, hφ] at hc; simp at hc
    · exact hc⟩
  row := fun i e nb rows _ h => ⟨rows, h, Nat.le_refl _, fun _ => ⟨fun hn hi => by
    unfold setφ; split
    · rename_i e'; subst e'; rw [hb] at h; simp at h; subst hn; exact absurd h (hnb _ _)
    · exact hi, fun c hc => ⟨by
      unfold setφ; split
      · rename_i e'; rw [e', hφ] at hc; simp at hc
      · exact hc, fun cur hcur => ⟨cur, by rw [heap_alloc w o c (hr.own i c hc).2.1]; exact hcur, rfl⟩⟩⟩⟩
  map := fun i es _ h => ⟨es, h, fun c hc => by
    unfold setφ; split
    · rename_i e; rw [e, hφ] at hc; simp at hc
    · exact hc⟩
theorem hr_alloc {w0 w : World} {X : Nat → Prop} {φ : Nat → Option Nat} {G : List Blk} (hr : HR P w0 X w φ G) {id : Nat} {b : Blk} (hb : G[id]? = some b) (hφ : φ id = none) (hnb : ∀ e rows, b ≠ .row e true rows) (o : Obj)
    (hok : BlkOk P (w.alloc o) X (setφ φ id w.heap.size) G w.heap.size b) : HR P w0 X (w.alloc o) (setφ φ id w.heap.size) G := by
  have hT := turn_alloc hr hb hφ hnb o
  refine ⟨hr.vo, hr.fr.alloc hr.fr.size _, ext_turn hr hT, fun i c hc => ?_, fun i j c hi hj => ?_, fun i b' c hi hc => ?_⟩
  · unfold setφ at hc
    split at hc
    · rename_i e
      simp at hc
      subst hc e
      have := hr.fr.size
      exact ⟨this, by simp, (List.getElem?_eq_some_iff.1 hb).1⟩
    · have := hr.own i c hc
      simp; omega
  · unfold setφ at hi hj
    split at hi <;> split at hj
    · subst_vars; rfl
    · rename_i e1 e2; simp at hi; subst hi; have := (hr.own j _ hj).2.1; omega
    · rename_i e1 e2; simp at hj; subst hj; have := (hr.own i _ hi).2.1; omega
    · exact hr.inj i j c hi hj
  · by_cases e : i = id
    · subst e
      rw [hb] at hi
      simp at hi
      subst hi
      simp [setφ] at hc
      subst hc
      exact hok
    · simp [setφ, e] at hc
      exact (hr.blk i b' c hi hc).turn hT (heap_alloc w o c (hr.own i c hc).2.1)
/-- A store into a block of the call's own. -/
structure Shape (b b' : Blk) : Prop where
  box : ∀ t cs', b' = .box t cs' → ∃ cs, b = .box t cs
  row : ∀ e nb rows', b' = .row e nb rows' → ∃ rows, b = .row e nb rows ∧ rows.length = rows'.length
  map : ∀ es', b' = .map es' → ∃ es, b = .map es
theorem heap_setRow (w : World) (g : Nat) (cs : Array Value) (k : Nat) (h : k ≠ g) : (w.setRow g cs).heap[k]? = w.heap[k]? := by
  simp only [World.setRow, Array.getElem?_modify]
  rw [if_neg (fun e => h e.symm)]
theorem turn_setRow {w0 w : World} {X : Nat → Prop} {φ : Nat → Option Nat} {G : List Blk} (hr : HR P w0 X w φ G) {id c : Nat} {b b' : Blk} (hb : G[id]? = some b) (hφ : φ id = some c) (hs : Shape b b') {cur cur' : Array Value} {t : TypeId}
    (hc : w.heap[c]? = some (.cells cur t (0, 0))) (hsz : cur'.size = cur.size) : Turn w φ G (w.setRow c cur') φ (G.set id b') where
  size := by simp
  len := by simp
  old := fun k h hl => ⟨heap_setRow w c cur' k (fun e => h id (by rw [e]; exact hφ)), h⟩
  box := fun i t cs' _ h => by
    by_cases e : id = i
    · subst e
      rw [List.getElem?_set] at h
      simp at h
      obtain ⟨cs, h1⟩ := hs.box t cs' h.2
      exact ⟨cs, by rw [hb, h1], fun _ h => h⟩
    · rw [List.getElem?_set_ne e] at h
      exact ⟨cs', h, fun _ h => h⟩
  row := fun i e' nb rows' _ h => by
    have hcur : ∀ c', φ i = some c' → ∀ cur1, w.heap[c']? = some (.cells cur1 e' (0, 0)) → ∃ cur2, (w.setRow c cur').heap[c']? = some (.cells cur2 e' (0, 0)) ∧ cur2.size = cur1.size := fun c' h' cur1 h1 => by
      by_cases e : c' = c
      · subst e
        rw [h1] at hc
        simp at hc
        obtain ⟨rfl, rfl⟩ := hc
        exact ⟨cur', setRow_heap w c' _ _ _ _ h1, hsz⟩
      · exact ⟨cur1, by rw [heap_setRow w c cur' c' e]; exact h1, rfl⟩
    by_cases e : id = i
    · subst e
      rw [List.getElem?_set] at h
      simp at h
      obtain ⟨rows, h1, h2⟩ := hs.row e' nb rows' h.2
      exact ⟨rows, by rw [hb, h1], by omega, fun _ => ⟨fun _ h => h, fun c' h' => ⟨h', hcur c' h'⟩⟩⟩
    · rw [List.getElem?_set_ne e] at h
      exact ⟨rows', h, Nat.le_refl _, fun _ => ⟨fun _ h => h, fun c' h' => ⟨h', hcur c' h'⟩⟩⟩
  map := fun i es' _ h => by
    by_cases e : id = i
    · subst e
      rw [List.getElem?_set] at h
      simp at h
      obtain ⟨es, h1⟩ := hs.map es' h.2
      exact ⟨es, by rw [hb, h1], fun _ h => h⟩
    · rw [List.getElem?_set_ne e] at h
      exact ⟨es', h, fun _ h => h⟩
theorem below_setRow {B : Nat} {a w : World} (h : Below B a w) {g : Nat} (hg : B ≤ g) (cs : Array Value) : Below B a (w.setRow g cs) :=
  h.trans ⟨rfl, rfl, rfl, by simp, fun k hk => heap_setRow w g cs k (by omega)⟩
theorem hr_setRow {w0 w : World} {X : Nat → Prop} {φ : Nat → Option Nat} {G : List Blk} (hr : HR P w0 X w φ G) {id c : Nat} {b b' : Blk} (hb : G[id]? = some b) (hφ : φ id = some c) (hs : Shape b b') {cur cur' : Array Value} {t : TypeId}
    (hc : w.heap[c]? = some (.cells cur t (0, 0))) (hsz : cur'.size = cur.size) (hok : BlkOk P (w.setRow c cur') X φ (G.set id b') c b') : HR P w0 X (w.setRow c cur') φ (G.set id b') := by
  have hT := turn_setRow hr hb hφ hs hc hsz
  refine ⟨hr.vo, below_setRow hr.fr (hr.own id c hφ).1 _, ext_turn hr hT, fun i c' hc' => ?_, hr.inj, fun i b2 c' hi hc' => ?_⟩
  · have := hr.own i c' hc'
    simpa using this
  · by_cases e : id = i
    · subst e
      rw [List.getElem?_set] at hi
      simp at hi
      obtain ⟨_, rfl⟩ := hi
      rw [hφ] at hc'
      simp at hc'
      subst hc'
      exact hok
    · rw [List.getElem?_set_ne e] at hi
      exact (hr.blk i b2 c' hi hc').turn hT (heap_setRow w c cur' c' fun e2 => e (hr.inj id i c hφ (by rw [← e2]; exact hc')))
/-- A draw. -/
theorem turn_drew (w : World) (φ : Nat → Option Nat) (G : List Blk) : Turn w φ G w.drew φ G := ⟨(Turn.refl w φ G).size, (Turn.refl w φ G).len, (Turn.refl w φ G).old, (Turn.refl w φ G).box, (Turn.refl w φ G).row, (Turn.refl w φ G).map⟩
theorem hr_drew {w0 w : World} {X : Nat → Prop} {φ : Nat → Option Nat} {G : List Blk} (hr : HR P w0 X w φ G) : HR P w0 X w.drew φ G :=
  ⟨hr.vo, hr.fr.drew, hr.ext, hr.own, hr.inj, fun i b c hi hc => (hr.blk i b c hi hc).turn (turn_drew w φ G) rfl⟩
theorem Turn.trans {w1 w2 w3 : World} {φ1 φ2 φ3 : Nat → Option Nat} {G1 G2 G3 : List Blk} (h : Turn w1 φ1 G1 w2 φ2 G2) (k : Turn w2 φ2 G2 w3 φ3 G3) : Turn w1 φ1 G1 w3 φ3 G3 where
  size := Nat.le_trans h.size k.size
  len := Nat.le_trans h.len k.len
  old := fun b hb hl => by
    obtain ⟨h1, h2⟩ := h.old b hb hl
    obtain ⟨h3, h4⟩ := k.old b h2 (Nat.lt_of_lt_of_le hl h.size)
    exact ⟨h3.trans h1, h4⟩
  box := fun i t cs hi h1 => by
    obtain ⟨cs2, h2, h3⟩ := k.box i t cs (Nat.lt_of_lt_of_le hi h.len) h1
    obtain ⟨cs3, h4, h5⟩ := h.box i t cs2 hi h2
    exact ⟨cs3, h4, fun c hc => h3 c (h5 c hc)⟩
  row := fun i e nb rows hi h1 => by
    obtain ⟨r2, h2, h3, h4⟩ := k.row i e nb rows (Nat.lt_of_lt_of_le hi h.len) h1
    obtain ⟨r3, h5, h6, h7⟩ := h.row i e nb r2 hi h2
    refine ⟨r3, h5, by omega, fun hl => ?_⟩
    obtain ⟨a1, a2⟩ := h4 (by omega)
    obtain ⟨b1, b2⟩ := h7 (by omega)
    refine ⟨fun hn hp => a1 hn (b1 hn hp), fun c hc => ?_⟩
    obtain ⟨d1, d2⟩ := b2 c hc
    obtain ⟨e1, e2⟩ := a2 c d1
    refine ⟨e1, fun cur hcur => ?_⟩
    obtain ⟨cur2, f1, f2⟩ := d2 cur hcur
    obtain ⟨cur3, g1, g2⟩ := e2 cur2 f1
    exact ⟨cur3, g1, by omega⟩
  map := fun i es hi h1 => by
    obtain ⟨es2, h2, h3⟩ := k.map i es (Nat.lt_of_lt_of_le hi h.len) h1
    obtain ⟨es3, h4, h5⟩ := h.map i es2 hi h2
    exact ⟨es3, h4, fun c hc => h3 c (h5 c hc)⟩
theorem turn_below {w0 w w' : World} {X : Nat → Prop} {φ : Nat → Option Nat} {G : List Blk} (hr : HR P w0 X w φ G) (hb : Below w.heap.size w w') : Turn w φ G w' φ G where
  size := hb.size
  len := Nat.le_refl _
  old := fun b h hl => ⟨hb.block b hl, h⟩
  box := fun _ _ cs _ h => ⟨cs, h, fun _ h => h⟩
  row := fun _ _ _ rows _ h => ⟨rows, h, Nat.le_refl _, fun _ => ⟨fun _ h => h, fun c hc => ⟨hc, fun cur hcur => ⟨cur, by rw [hb.block c (hr.own _ c hc).2.1]; exact hcur, rfl⟩⟩⟩⟩
  map := fun _ es _ h => ⟨es, h, fun _ h => h⟩
theorem hr_below {w0 w w' : World} {X : Nat → Prop} {φ : Nat → Option Nat} {G : List Blk} (hr : HR P w0 X w φ G) (hb : Below w.heap.size w w') : HR P w0 X w' φ G :=
  ⟨hr.vo, hr.fr.trans (hb.mono hr.fr.size), ext_turn hr (turn_below hr hb), fun i c hc => ⟨(hr.own i c hc).1, Nat.lt_of_lt_of_le (hr.own i c hc).2.1 hb.size, (hr.own i c hc).2.2⟩, hr.inj,
    fun i b c hi hc => (hr.blk i b c hi hc).turn (turn_below hr hb) (hb.block c (hr.own i c hc).2.1)⟩
end
end Go.Proofs.Ytnldjmokemgaoaa
