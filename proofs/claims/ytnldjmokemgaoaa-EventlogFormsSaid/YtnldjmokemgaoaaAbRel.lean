/- How abstract values stand to the model's: readings of memory, and what keeps them. -/
import Derived.Test.YtnldjmokemgaoaaAb
import Derived.ProofKit
import Derived.Deep.Draws
namespace Go.Proofs.Ytnldjmokemgaoaa
set_option linter.unusedSimpArgs false
set_option linter.unusedVariables false
set_option linter.unnecessarySimpa false
set_option linter.unusedSectionVars false
open Go.RowKit
variable [Glob]

/-- Memory outside of the blocks X reads as this. -/
inductive RO (w : World) (X : Nat → Prop) : AV → Value → Prop
  | any {v : Value} : RO w X .any v
  | und : RO w X .und undef
  | int {k : IntKind} {n : Int} : RO w X (.int k n) (.int k n)
  | bool {b : Bool} : RO w X (.bool b) (.bool b)
  | str {s : ByteArray} : RO w X (.str s) (.string s)
  | nilp : RO w X .nilp (.pointer none)
  | nils : RO w X .nils (.slice none 0 0)
  | nilc {A : Option Addr} : RO w X .nilc (.slice A 0 0)
  | nilf : RO w X .nilf .nilFunc
  | nilm : RO w X .nilm (.map none)
  | rp {row : List AV} {a : Addr} (f : Nat → Value) (hb : a.block < w.heap.size) (hx : ¬ X a.block) (hc : ∀ (j : Nat) x, row[j]? = some x → w.cell? (a.add j) = some (f j) ∧ (f j).oneCell' = true) (h : ∀ (j : Nat) x, row[j]? = some x → RO w X x (f j)) : RO w X (.rp row) (.pointer (some a))
  | rs {rows : List (List AV)} {A : Option Addr} {n cap : Nat} (sz : Nat) (f : Nat → Nat → Value) (hn : rows.length = n) (hcap : n ≤ cap) (hA : ∀ (i : Nat) row, rows[i]? = some row → row.length = sz ∧ ∃ a, A = some a ∧ a.block < w.heap.size ∧ ¬ X a.block ∧ ∀ j, j < sz → w.cell? (a.add (i * sz + j)) = some (f i j) ∧ (f i j).oneCell' = true)
      (h : ∀ (i j : Nat) row x, rows[i]? = some row → row[j]? = some x → RO w X x (f i j)) : RO w X (.rs rows) (.slice A n cap)
  | agg {cs : List AV} {vs : Array Value} (hl : cs.length = vs.size) (h1 : ∀ v ∈ vs.toList, v.oneCell' = true) (h : ∀ (j : Nat) x v, cs[j]? = some x → vs[j]? = some v → RO w X x v) : RO w X (.agg cs) (.agg vs)
  | tup {cs : List AV} {vs : Array Value} (hl : cs.length = vs.size) (h : ∀ (j : Nat) x v, cs[j]? = some x → vs[j]? = some v → RO w X x v) : RO w X (.tup cs) (.tuple vs)
  | fn {g : Nat} {cs : List AV} {vs : Array Value} (hl : cs.length = vs.size) (h : ∀ (j : Nat) x v, cs[j]? = some x → vs[j]? = some v → RO w X x v) : RO w X (.fn g cs) (.func (.func g) #[] vs)

theorem cell_of_heap {w w' : World} {a : Addr} (h : w'.heap[a.block]? = w.heap[a.block]?) : w'.cell? a = w.cell? a := by simp [World.cell?, h]
theorem add_block (a : Addr) (k : Nat) : (a.add k).block = a.block := by unfold Addr.add; split <;> rfl

theorem RO.mono {w w' : World} {X X' : Nat → Prop} (hs : w.heap.size ≤ w'.heap.size) (hx : ∀ b, ¬ X b → b < w.heap.size → w'.heap[b]? = w.heap[b]? ∧ ¬ X' b) {x : AV} {v : Value} (h : RO w X x v) : RO w' X' x v := by
  induction h with
  | any => exact .any
  | und => exact .und
  | int => exact .int
  | bool => exact .bool
  | str => exact .str
  | nilp => exact .nilp
  | nils => exact .nils
  | nilc => exact .nilc
  | nilf => exact .nilf
  | nilm => exact .nilm
  | @rp row a f hb hxa hc _ ih =>
    obtain ⟨h1, h2⟩ := hx _ hxa hb
    exact .rp f (by omega) h2 (fun j x hj => ⟨(cell_of_heap (a := a.add j) (by rw [add_block]; exact h1)).trans (hc j x hj).1, (hc j x hj).2⟩) ih
  | rs sz f hn hcap hA _ ih =>
    refine .rs sz f hn hcap (fun i row hi => ?_) ih
    obtain ⟨h0, a, rfl, hb, hxa, hc⟩ := hA i row hi
    obtain ⟨h1, h2⟩ := hx _ hxa hb
    exact ⟨h0, a, rfl, by omega, h2, fun j hj => ⟨(cell_of_heap (a := a.add (i * sz + j)) (by rw [add_block]; exact h1)).trans (hc j hj).1, (hc j hj).2⟩⟩
  | agg hl h1 _ ih => exact .agg hl h1 ih
  | tup hl _ ih => exact .tup hl ih
  | fn hl _ ih => exact .fn hl ih

/-- Numbers, strings, and the like read the same everywhere. -/
theorem RO.of_flat {w w' : World} {X X' : Nat → Prop} {x : AV} {v : Value} (h : RO w X x v) (hf : flat x = true) : RO w' X' x v := by
  have flatL_get : ∀ (l : List AV), flatL l = true → ∀ (j : Nat) x, l[j]? = some x → flat x = true := by
    intro l; induction l with
    | nil => intro _ j x h; simp at h
    | cons y l ih =>
      intro h j x hj
      simp only [flatL, Bool.and_eq_true] at h
      cases j with
      | zero => simp at hj; rw [← hj]; exact h.1
      | succ j => simp at hj; exact ih h.2 j x hj
  induction h with
  | any => exact .any
  | und => simp [flat] at hf
  | int => exact .int
  | bool => exact .bool
  | str => exact .str
  | nilp => exact .nilp
  | nils => exact .nils
  | nilc => exact .nilc
  | nilf => exact .nilf
  | nilm => exact .nilm
  | rp => simp [flat] at hf
  | rs sz f hn hcap hA h _ =>
    simp [flat] at hf
    subst hf
    exact .rs sz f hn hcap (fun i row hi => by simp at hi) (fun i j row x hi _ => by simp at hi)
  | agg hl h1 _ ih => simp only [flat] at hf; exact .agg hl h1 fun j x v h1 h2 => ih j x v h1 h2 (flatL_get _ hf j x h1)
  | tup hl _ ih => simp only [flat] at hf; exact .tup hl fun j x v h1 h2 => ih j x v h1 h2 (flatL_get _ hf j x h1)
  | fn => simp [flat] at hf

/-- The package variables read as they are known. -/
def VarsOk (w : World) (X : Nat → Prop) : Prop := ∀ g row, Glob.row g = some row → RO w X (.rp row) (.pointer (some ⟨g, 0, none⟩))
theorem VarsOk.more {w : World} {X Z : Nat → Prop} (h : VarsOk w X) (hZ : ∀ b, b < w.heap.size → Z b → X b) : VarsOk w Z := fun g row hg => (h g row hg).mono (Nat.le_refl _) fun b hb hl => ⟨rfl, fun hz => hb (hZ b hl hz)⟩
section
variable (P : Program)
/-- Abstract values and the model's, where the call has blocks of its own: number id is block φ id. -/
inductive RV (w : World) (X : Nat → Prop) (φ : Nat → Option Nat) (H : List Blk) : AV → Value → Prop
  | ro {x : AV} {v : Value} (h : RO w (fun b => X b ∨ ∃ id, φ id = some b) x v) : RV w X φ H x v
  | op {id o : Nat} {v : Value} (h0 : v.oneCell' = true) (hid : id < H.length) (h : ∀ t cs, H[id]? = some (.box t cs) → ∃ c, φ id = some c ∧ v = .pointer (some ⟨c, o, none⟩)) : RV w X φ H (.op id o) v
  | ep {id n i o : Nat} {v : Value} (h0 : v.oneCell' = true) (hid : id < H.length) (h : ∀ e nb rows, H[id]? = some (.row e nb rows) → n ≤ rows.length ∧ (n = rows.length → ∃ c, φ id = some c ∧ v = .pointer (some ⟨c, i * P.cellsOf e + o, none⟩))) : RV w X φ H (.ep id n i o) v
  | os {id n : Nat} {v : Value} (h0 : v.oneCell' = true) (hid : id < H.length) (h : ∀ e nb rows, H[id]? = some (.row e nb rows) → n ≤ rows.length ∧ (n = rows.length →
      (nb = true ∧ φ id = none ∧ (∃ A, v = .slice A 0 0) ∧ n = 0) ∨ ∃ c cap cur, φ id = some c ∧ v = .slice (some ⟨c, 0, none⟩) n cap ∧ w.heap[c]? = some (.cells cur e (0, 0)) ∧ cur.size = cap * P.cellsOf e ∧ cap ≤ maxLen ∧ n ≤ cap)) : RV w X φ H (.os id n) v
  | mp {id : Nat} {v : Value} (h0 : v.oneCell' = true) (hid : id < H.length) (h : ∀ es, H[id]? = some (.map es) → ∃ c, φ id = some c ∧ v = .map (some c)) : RV w X φ H (.mp id) v
  | agg {cs : List AV} {vs : Array Value} (hl : cs.length = vs.size) (h1 : ∀ v ∈ vs.toList, v.oneCell' = true) (h : ∀ (j : Nat) x v, cs[j]? = some x → vs[j]? = some v → RV w X φ H x v) : RV w X φ H (.agg cs) (.agg vs)
  | tup {cs : List AV} {vs : Array Value} (hl : cs.length = vs.size) (h : ∀ (j : Nat) x v, cs[j]? = some x → vs[j]? = some v → RV w X φ H x v) : RV w X φ H (.tup cs) (.tuple vs)
  | fn {g : Nat} {cs : List AV} {vs : Array Value} (hl : cs.length = vs.size) (h : ∀ (j : Nat) x v, cs[j]? = some x → vs[j]? = some v → RV w X φ H x v) : RV w X φ H (.fn g cs) (.func (.func g) #[] vs)

/-- A block of the call's own holds this. -/
def BlkOk (w : World) (X : Nat → Prop) (φ : Nat → Option Nat) (H : List Blk) (c : Nat) : Blk → Prop
  | .box t cs => ∃ cur, w.heap[c]? = some (.cells cur t (0, 0)) ∧ cur.size = cs.length ∧ ∀ (j : Nat) x v, cs[j]? = some x → cur[j]? = some v → RV P w X φ H x v ∧ v.oneCell' = true
  | .row e _ rows => ∃ cur, w.heap[c]? = some (.cells cur e (0, 0)) ∧ (∀ row ∈ rows, row.length = P.cellsOf e) ∧ rows.length * P.cellsOf e ≤ cur.size ∧
      ∀ (i j : Nat) row x v, rows[i]? = some row → row[j]? = some x → cur[i * P.cellsOf e + j]? = some v → RV P w X φ H x v ∧ v.oneCell' = true
  | .map es => ∃ (ents : Array MapEntry) (clock : Nat), w.heap[c]? = some (.map ents clock) ∧ ents.size = es.length ∧ (∀ e ∈ ents.toList, e.born < clock) ∧ (ents.toList.map (·.born)).Nodup ∧
      ∀ (i : Nat) k x ent, es[i]? = some (k, x) → ents[i]? = some ent → RV P w X φ H k ent.key ∧ RV P w X φ H x ent.val
  | .gone => True

structure HR (w0 : World) (X : Nat → Prop) (w : World) (φ : Nat → Option Nat) (H : List Blk) : Prop where
  vo : VarsOk w0 X
  fr : Below w0.heap.size w0 w
  ext : ∀ b, X b → b < w.heap.size ∧ ∀ id, φ id ≠ some b
  own : ∀ id c, φ id = some c → w0.heap.size ≤ c ∧ c < w.heap.size ∧ id < H.length
  inj : ∀ id id' c, φ id = some c → φ id' = some c → id = id'
  blk : ∀ id b c, H[id]? = some b → φ id = some c → BlkOk P w X φ H c b

/-- How the blocks may turn so that all that is held reads as before. -/
structure Turn (w : World) (φ : Nat → Option Nat) (H : List Blk) (w' : World) (φ' : Nat → Option Nat) (H' : List Blk) : Prop where
  size : w.heap.size ≤ w'.heap.size
  len : H.length ≤ H'.length
  old : ∀ b, (∀ id, φ id ≠ some b) → b < w.heap.size → w'.heap[b]? = w.heap[b]? ∧ ∀ id, φ' id ≠ some b
  box : ∀ id t cs', id < H.length → H'[id]? = some (.box t cs') → ∃ cs, H[id]? = some (.box t cs) ∧ ∀ c, φ id = some c → φ' id = some c
  row : ∀ id e nb rows', id < H.length → H'[id]? = some (.row e nb rows') → ∃ rows, H[id]? = some (.row e nb rows) ∧ rows.length ≤ rows'.length ∧
    (rows.length = rows'.length → (nb = true → φ id = none → φ' id = none) ∧ ∀ c, φ id = some c → φ' id = some c ∧ ∀ cur, w.heap[c]? = some (.cells cur e (0, 0)) → ∃ cur', w'.heap[c]? = some (.cells cur' e (0, 0)) ∧ cur'.size = cur.size)
  map : ∀ id es', id < H.length → H'[id]? = some (.map es') → ∃ es, H[id]? = some (.map es) ∧ ∀ c, φ id = some c → φ' id = some c

variable {P}
theorem ext_turn {w0 w w' : World} {X : Nat → Prop} {φ φ' : Nat → Option Nat} {H H' : List Blk} (hr : HR P w0 X w φ H) (hT : Turn w φ H w' φ' H') : ∀ b, X b → b < w'.heap.size ∧ ∀ id, φ' id ≠ some b := fun b hb => ⟨Nat.lt_of_lt_of_le (hr.ext b hb).1 hT.size, (hT.old b (hr.ext b hb).2 (hr.ext b hb).1).2⟩
theorem HR.all {w0 w : World} {X : Nat → Prop} {φ : Nat → Option Nat} {H : List Blk} (hr : HR P w0 X w φ H) : VarsOk w (fun b => X b ∨ ∃ id, φ id = some b) := fun g row hg =>
  (hr.vo g row hg).mono hr.fr.size fun b hb hl => ⟨hr.fr.block b hl, fun h => h.elim hb fun ⟨id, h⟩ => by have := (hr.own id b h).1; omega⟩
theorem HR.now {w0 w : World} {X : Nat → Prop} {φ : Nat → Option Nat} {H : List Blk} (hr : HR P w0 X w φ H) : VarsOk w X := hr.all.more fun b _ h => .inl h
theorem HR.glob {w0 w : World} {X : Nat → Prop} {φ : Nat → Option Nat} {H : List Blk} (hr : HR P w0 X w φ H) {T : List (Nat × AV)} {a : Act} (g : Nat) : RV P w X φ H (ev T (.global g)) (a.eval (.global g)) := by
  simp only [ev]
  split
  · rename_i r h; exact .ro (hr.all g r h)
  · exact .ro .any
theorem RV.turn {w w' : World} {X : Nat → Prop} {φ φ' : Nat → Option Nat} {H H' : List Blk} (hT : Turn w φ H w' φ' H') {x : AV} {v : Value} (h : RV P w X φ H x v) : RV P w' X φ' H' x v := by
  induction h with
  | ro h =>
    refine .ro (h.mono hT.size fun b hb hl => ?_)
    have hb1 : ∀ id, φ id ≠ some b := fun id e => hb (.inr ⟨id, e⟩)
    obtain ⟨h1, h2⟩ := hT.old b hb1 hl
    exact ⟨h1, fun h => h.elim (fun h => hb (.inl h)) fun ⟨id, e⟩ => h2 id e⟩
  | @op id o v h0 hid h =>
    refine .op h0 (Nat.lt_of_lt_of_le hid hT.len) fun t cs' h1 => ?_
    obtain ⟨cs, h2, h3⟩ := hT.box id t cs' hid h1
    obtain ⟨c, h4, h5⟩ := h t cs h2
    exact ⟨c, h3 c h4, h5⟩
  | @ep id n i o v h0 hid h =>
    refine .ep h0 (Nat.lt_of_lt_of_le hid hT.len) fun e nb rows' h1 => ?_
    obtain ⟨rows, h2, h3, h4⟩ := hT.row id e nb rows' hid h1
    obtain ⟨h5, h6⟩ := h e nb rows h2
    refine ⟨by omega, fun hn => ?_⟩
    have hn2 : n = rows.length := by omega
    obtain ⟨c, h7, h8⟩ := h6 hn2
    exact ⟨c, ((h4 (by omega)).2 c h7).1, h8⟩
  | @os id n v h0 hid h =>
    refine .os h0 (Nat.lt_of_lt_of_le hid hT.len) fun e nb rows' h1 => ?_
    obtain ⟨rows, h2, h3, h4⟩ := hT.row id e nb rows' hid h1
    obtain ⟨h5, h6⟩ := h e nb rows h2
    refine ⟨by omega, fun hn => ?_⟩
    have hn2 : n = rows.length := by omega
    rcases h6 hn2 with ⟨h7, h8, h9, h10⟩ | ⟨c, cap, cur, h7, h8, h9, h10, h11, h12⟩
    · exact .inl ⟨h7, (h4 (by omega)).1 h7 h8, h9, h10⟩
    · obtain ⟨h13, h14⟩ := (h4 (by omega)).2 c h7
      obtain ⟨cur', h15, h16⟩ := h14 cur h9
      exact .inr ⟨c, cap, cur', h13, h8, h15, by rw [h16]; exact h10, h11, h12⟩
  | @mp id v h0 hid h =>
    refine .mp h0 (Nat.lt_of_lt_of_le hid hT.len) fun es' h1 => ?_
    obtain ⟨es, h2, h3⟩ := hT.map id es' hid h1
    obtain ⟨c, h4, h5⟩ := h es h2
    exact ⟨c, h3 c h4, h5⟩
  | agg hl h1 _ ih => exact .agg hl h1 ih
  | tup hl _ ih => exact .tup hl ih
  | fn hl _ ih => exact .fn hl ih
end
end Go.Proofs.Ytnldjmokemgaoaa
