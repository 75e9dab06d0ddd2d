/- Blocks that a call has made: known whole, kept over what comes behind; slices that own such a block. They hold for every program. -/
import Derived.Test.YtibnaangfdohiaaLib
import Derived.Laws.OwnMore
import Derived.Laws.Rows
namespace Go.Proofs.Ytibnaangfdohiaa
open Go.RowKit

/-- Block g is just the cells cs of type t, none frozen. -/
def Blk (w : World) (g : Nat) (t : TypeId) (cs : Array Value) : Prop := w.heap[g]? = some (.cells cs t (0, 0))
section
variable {w w' : World} {g : Nat} {t : TypeId} {cs : Array Value}
theorem Blk.lt (h : Blk w g t cs) : g < w.heap.size := by
  rcases Nat.lt_or_ge g w.heap.size with hlt | hge
  · exact hlt
  · unfold Blk at h; rw [Array.getElem?_eq_none hge] at h; cases h
theorem Blk.cell (h : Blk w g t cs) (i : Nat) : w.cell? ⟨g, i, none⟩ = cs[i]? := cell_of_row w g i cs t (0, 0) h
theorem Blk.frozen (h : Blk w g t cs) (i : Nat) : w.frozen? ⟨g, i, none⟩ = false := by
  unfold Blk at h
  simp [World.frozen?, h]
theorem Blk.new (w : World) (t : TypeId) (cs : Array Value) : Blk (w.alloc (.cells cs t)) w.heap.size t cs := heap_alloc_new w _
theorem Blk.drew (h : Blk w g t cs) : Blk w.drew g t cs := h
theorem Blk.drewN (h : Blk w g t cs) (n : Nat) : Blk (w.drewN n) g t cs := h
theorem Blk.alloc (h : Blk w g t cs) (o : Obj) : Blk (w.alloc o) g t cs := (Below.heap_alloc w o g h.lt).trans h
theorem Blk.set_ (h : Blk w g t cs) (i : Nat) (u : Value) : Blk (w.setCell ⟨g, i, none⟩ u) g t (cs.setIfInBounds i u) := by
  unfold Blk at h ⊢
  simp [World.setCell, Array.getElem?_modify, h]
theorem Blk.far (h : Blk w g t cs) {p : Addr} (hp : g ≠ p.block) (u : Value) : Blk (w.setCell p u) g t cs := (Below.heap_setCell w p u g hp).trans h
theorem Blk.step (h : Blk w g t cs) (hb : Below w.heap.size w w') : Blk w' g t cs := (hb.block g h.lt).trans h
theorem Blk.grown {row : Option Nat} (h : Blk w g t cs) (hb : w.grownBy w' row) (hg : some g ≠ row) : Blk w' g t cs := (hb.block g h.lt hg).trans h
theorem Blk.ne_ {g' : Nat} {t' : TypeId} {cs' : Array Value} (h : Blk w g t cs) (h' : Blk w g' t' cs') (hne : t ≠ t') : g ≠ g' := by
  rintro rfl
  unfold Blk at h h'
  rw [h] at h'
  injection h' with h'
  injection h' with _ ht
  exact hne ht
end

/-- Only block g, and what is new, has turned. -/
abbrev Turn (g : Nat) (w w' : World) : Prop := w.grownBy w' (some g)
theorem Turn.refl (g : Nat) (w : World) : Turn g w w := World.grownBy.refl w _
theorem Turn.drewN {g : Nat} {a w : World} (h : Turn g a w) (n : Nat) : Turn g a (w.drewN n) := ⟨h.os, h.tape, h.output, h.size, h.block⟩
theorem Turn.drew {g : Nat} {a w : World} (h : Turn g a w) : Turn g a w.drew := ⟨h.os, h.tape, h.output, h.size, h.block⟩
theorem Turn.alloc {g : Nat} {a w : World} (h : Turn g a w) (o : Obj) : Turn g a (w.alloc o) :=
  ⟨h.os, h.tape, h.output, Nat.le_trans h.size (by simp), fun i hi hne => (Below.heap_alloc w o i (Nat.lt_of_lt_of_le hi h.size)).trans (h.block i hi hne)⟩
theorem Turn.set {g : Nat} {a w : World} (h : Turn g a w) (i : Nat) (u : Value) : Turn g a (w.setCell ⟨g, i, none⟩ u) :=
  ⟨h.os, h.tape, h.output, by simpa [World.setCell] using h.size, fun k hk hne => (Below.heap_setCell w ⟨g, i, none⟩ u k (fun e => hne (by rw [e]))).trans (h.block k hk hne)⟩
theorem Turn.step {g : Nat} {a w w' : World} (h : Turn g a w) (k : Below w.heap.size w w') : Turn g a w' :=
  ⟨k.os.trans h.os, k.tape.trans h.tape, k.output.trans h.output, Nat.le_trans h.size k.size, fun i hi hne => (k.block i (Nat.lt_of_lt_of_le hi h.size)).trans (h.block i hi hne)⟩
theorem Turn.below {g B : Nat} {w0 a w : World} (h : Turn g a w) (h0 : Below B w0 a) (hg : B ≤ g) (hB : B ≤ w0.heap.size) : Below B w0 w :=
  h0.trans ⟨h.os, h.tape, h.output, h.size, fun k hk => h.block k (Nat.lt_of_lt_of_le hk (Nat.le_trans hB h0.size)) (fun e => by injection e with e; omega)⟩
theorem Turn.cell {g : Nat} {a w : World} (h : Turn g a w) {p : Addr} {v : Value} (hp : a.cell? p = some v) (hne : p.block ≠ g) : w.cell? p = some v := World.grownBy.cell h hp (fun e => hne (by injection e))
theorem Turn.frozen {g : Nat} {a w : World} (h : Turn g a w) {p : Addr} (hf : a.frozen? p = false) (hlt : p.block < a.heap.size) (hne : p.block ≠ g) : w.frozen? p = false :=
  (World.frozen?_of_block (h.block p.block hlt (fun e => hne (by injection e)))).trans hf

/-- A slice that owns n ≥ 1 one-cell elements: its block. -/
theorem own_open {w : World} {base n : Nat} {t : TypeId} {v : Value} {l : List Int} (h : w.ownsRow base t 1 v n (l.map (Value.int .i64))) (hn : 0 < n) :
    ∃ g cap cur, v = .slice (some ⟨g, 0, none⟩) n cap ∧ base ≤ g ∧ g < w.heap.size ∧ Blk w g t cur ∧ n ≤ cap ∧ cur.size = cap ∧ ∀ j (hj : j < l.length), cur[j]? = some (.int .i64 l[j]) := by
  obtain ⟨hl, h2⟩ := h
  rcases h2 with ⟨_, h0⟩ | ⟨g, cap, cur, hv, hb, hh, hc, _, hs, ht⟩
  · omega
  · refine ⟨g, cap, cur, hv, hb, Blk.lt (t := t) hh, hh, hc, by omega, fun j hj => ?_⟩
    have h3 : (l.map (Value.int .i64))[j]? = some (.int .i64 l[j]) := by simp [hj]
    rw [← ht, List.getElem?_take] at h3
    split at h3
    · simpa using h3
    · cases h3
theorem ints_blk {w : World} {g n : Nat} {t : TypeId} {cur : Array Value} {l : List Int} (h : Blk w g t cur) (hl : l.length = n) (hn : n ≤ 9223372036854775807) (hc : ∀ j (hj : j < l.length), cur[j]? = some (.int .i64 l[j])) (hw : ∀ x ∈ l, (Lit.int .i64 x).wf = true) : Ints w (some ⟨g, 0, none⟩) n l := by
  refine ⟨hl, hn, fun k hk => ⟨_, rfl, ?_, hw _ (List.getElem_mem hk)⟩⟩
  rw [Nat.mul_one, add_none, Nat.zero_add, h.cell]
  exact hc k hk
theorem Sl.wfs {w : World} {A : Option Addr} {n : Nat} {l : List Int} (h : Ints w A n l) : ∀ x ∈ l, (Lit.int .i64 x).wf = true := by
  intro x hx
  obtain ⟨k, hk, rfl⟩ := List.getElem_of_mem hx
  exact h.wf hk
/-- A slice that owns its elements reads as them. -/
theorem ints_own {w : World} {base n : Nat} {t : TypeId} {v : Value} {l : List Int} (h : w.ownsRow base t 1 v n (l.map (Value.int .i64))) (hw : ∀ x ∈ l, (Lit.int .i64 x).wf = true) (hn : n ≤ 9223372036854775807) :
    ∃ A c, v = .slice A n c ∧ Ints w A n l := by
  have hl : l.length = n := by have := h.1; simpa using this
  rcases Nat.eq_zero_or_pos n with h0 | h0
  · subst h0
    obtain rfl := List.eq_nil_of_length_eq_zero hl
    rcases h.2 with ⟨hv, _⟩ | ⟨g, cap, cur, hv, _⟩
    · exact ⟨_, _, hv, Sl.nil⟩
    · exact ⟨_, _, hv, Sl.nil⟩
  · obtain ⟨g, cap, cur, hv, _, _, hB, _, _, hc⟩ := own_open h h0
    exact ⟨_, _, hv, ints_blk hB hl hn hc hw⟩
end Go.Proofs.Ytibnaangfdohiaa
