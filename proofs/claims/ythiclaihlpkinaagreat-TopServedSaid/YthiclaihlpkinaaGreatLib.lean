/- Plain words for what slices and structs in memory read as, and small lemmas for the walks. They hold for every program. -/
import Derived.WalkKit
import Derived.ProofKit
import Derived.Lib.Hide
import Derived.Deep.Draws
set_option linter.unusedSimpArgs false
set_option linter.unusedVariables false
set_option linter.unnecessarySimpa false
set_option linter.unusedSectionVars false
namespace Go.Proofs.YthiclaihlpkinaaGreat
open Go.RowKit
/-- What stands at an address, as a plain datum. -/
abbrev Rd (α : Type) := World → Addr → α → Prop
/-- A reading that new memory does not disturb. -/
def Mono {α : Type} (rd : Rd α) : Prop := ∀ w w' a x, Below w.heap.size w w' → rd w a x → rd w' a x
/-- The slice '.slice A n _' reads as the list l: nil and empty let in. -/
def Sl {α : Type} (rd : Rd α) (size : Nat) (w : World) (A : Option Addr) (n : Nat) (l : List α) : Prop :=
  l.length = n ∧ n ≤ 9223372036854775807 ∧ ∀ k (h : k < l.length), ∃ ad, A = some ad ∧ rd w (ad.add (k * size)) l[k]
def rdInt : Rd Int := fun w a i => w.cell? a = some (.int .i64 i) ∧ (Lit.int .i64 i).wf = true
def rdStr : Rd ByteArray := fun w a s => w.cell? a = some (.string s) ∧ s.size ≤ maxLen
abbrev Ints := Sl rdInt 1
abbrev Strs := Sl rdStr 1
theorem Below.cell_some {w w' : World} {a : Addr} {v : Value} (hb : Below w.heap.size w w') (h : w.cell? a = some v) : w'.cell? a = some v :=
  (hb.cell (World.block_lt_of_cell? w a h)).trans h
theorem mono_int : Mono rdInt := fun _ _ _ _ hb h => ⟨Below.cell_some hb h.1, h.2⟩
theorem mono_str : Mono rdStr := fun _ _ _ _ hb h => ⟨Below.cell_some hb h.1, h.2⟩
theorem Sl.below {α : Type} {rd : Rd α} {size : Nat} {w w' : World} {A : Option Addr} {n : Nat} {l : List α} (hm : Mono rd) (h : Sl rd size w A n l) (hb : Below w.heap.size w w') : Sl rd size w' A n l :=
  ⟨h.1, h.2.1, fun k hk => let ⟨ad, h1, h2⟩ := h.2.2 k hk; ⟨ad, h1, hm _ _ _ _ hb h2⟩⟩
theorem Sl.nil {α : Type} {rd : Rd α} {size : Nat} {w : World} {A : Option Addr} : Sl rd size w A 0 ([] : List α) := ⟨rfl, by omega, fun k h => absurd h (by simp)⟩
theorem Sl.len {α : Type} {rd : Rd α} {size : Nat} {w : World} {A : Option Addr} {n : Nat} {l : List α} (h : Sl rd size w A n l) : n ≤ 9223372036854775807 := h.2.1
theorem int_bounds {i : Int} (h : (Lit.int .i64 i).wf = true) : -9223372036854775808 ≤ i ∧ i ≤ 9223372036854775807 := by
  simpa [Lit.wf, IntKind.min, IntKind.max, IntKind.signed, IntKind.bits] using h
theorem wf_of {i : Int} (h1 : -9223372036854775808 ≤ i) (h2 : i ≤ 9223372036854775807) : (Lit.int .i64 i).wf = true := by
  simp [Lit.wf, IntKind.min, IntKind.max, IntKind.signed, IntKind.bits]; omega
theorem Sl.int {w : World} {A : Option Addr} {n k : Nat} {l : List Int} (h : Ints w A n l) (hk : k < n) :
    ∃ ad, A = some ad ∧ ∃ h : k < l.length, w.cell? (ad.add k) = some (.int .i64 l[k]) := by
  obtain ⟨rfl, _, h2⟩ := h
  obtain ⟨ad, h3, h4⟩ := h2 k hk
  exact ⟨ad, h3, hk, by simpa using h4.1⟩
theorem add_none (b off k : Nat) : (Addr.mk b off none).add k = ⟨b, off + k, none⟩ := by
  unfold Addr.add
  split
  · subst_vars; rfl
  · rfl
theorem Sl.open1 {w : World} {A : Option Addr} {n : Nat} {l : List Int} (h : Ints w A n l) (hn : 0 < n) : ∃ b off, A = some ⟨b, off, none⟩ := by
  obtain ⟨rfl, _, h2⟩ := h
  obtain ⟨ad, rfl, h4⟩ := h2 0 hn
  have hs := World.cell?_spot h4.1
  obtain ⟨b, off, sp⟩ := ad
  have : sp = none := by simpa [Addr.add] using hs
  subst this
  exact ⟨b, off, rfl⟩
theorem Sl.at_ {w : World} {b off n : Nat} {l : List Int} (h : Ints w (some ⟨b, off, none⟩) n l) {k : Nat} (hk : k < l.length) : w.cell? ⟨b, off + k, none⟩ = some (.int .i64 l[k]) := by
  obtain ⟨ad, h3, h4⟩ := h.2.2 k hk
  injection h3 with h3
  subst h3
  have := h4.1
  rw [Nat.mul_one, add_none] at this
  exact this
theorem Sl.wf {w : World} {A : Option Addr} {n k : Nat} {l : List Int} (h : Ints w A n l) (hk : k < l.length) : (Lit.int .i64 l[k]).wf = true := by
  obtain ⟨ad, h3, h4⟩ := h.2.2 k hk
  exact h4.2
theorem Sl.str {w : World} {A : Option Addr} {n k : Nat} {l : List ByteArray} (h : Strs w A n l) (hk : k < n) :
    ∃ ad, A = some ad ∧ ∃ h : k < l.length, w.cell? (ad.add k) = some (.string l[k]) := by
  obtain ⟨rfl, _, h2⟩ := h
  obtain ⟨ad, h3, h4⟩ := h2 k hk
  exact ⟨ad, h3, hk, by simpa using h4.1⟩
theorem Sl.ssize {w : World} {A : Option Addr} {n k : Nat} {l : List ByteArray} (h : Strs w A n l) (hk : k < l.length) : l[k].size ≤ maxLen := by
  obtain ⟨ad, h3, h4⟩ := h.2.2 k hk
  exact h4.2
theorem ret_bool {a b : Bool} (h : a = b) : Ending.returned (.bool a) = .returned (.bool b) := by rw [h]
theorem ret_int {k : IntKind} {a b : Int} (h : a = b) : Ending.returned (.int k a) = .returned (.int k b) := by rw [h]
theorem mul_bd {a b A B : Int} (h1 : 0 ≤ a) (h2 : a ≤ A) (h3 : 0 ≤ b) (h4 : b ≤ B) : 0 ≤ a * b ∧ a * b ≤ A * B :=
  ⟨Int.mul_nonneg h1 h3, Int.mul_le_mul h2 h4 h3 (Int.le_trans h1 h2)⟩
theorem bdrewN {B : Nat} {a w : World} (h : Below B a w) (n : Nat) : Below B a (w.drewN n) := ⟨h.os, h.tape, h.output, h.size, h.block⟩
theorem bstep {B : Nat} {w a b : World} (h : Below B w a) (k : Below a.heap.size a b) (hB : B ≤ w.heap.size := by omega) : Below B w b := h.trans (k.mono (Nat.le_trans hB h.size))
theorem bcellm {W w1 : World} {M : Nat} (hb : Below W.heap.size W w1) (hM : M ≤ W.heap.size) : (∀ b o, b < M → w1.cell? ⟨b, o, none⟩ = W.cell? ⟨b, o, none⟩) ∧ (∀ b o, b < M → w1.frozen? ⟨b, o, none⟩ = W.frozen? ⟨b, o, none⟩) :=
  ⟨fun b o h => hb.cell (p := ⟨b, o, none⟩) (Nat.lt_of_lt_of_le h hM), fun b o h => hb.frozen (p := ⟨b, o, none⟩) (Nat.lt_of_lt_of_le h hM)⟩
def PredI (P : Program) (g : FuncId) (lb : Array Value) (p : Int → Bool) (w : World) : Prop :=
  ∀ W x, Below w.heap.size w W → (Lit.int .i64 x).wf = true → Calls P g (#[.int .i64 x] ++ lb) W fun e w' => e = .returned (.bool (p x)) ∧ Below W.heap.size W w'
def idxOf {α : Type} (p : α → Bool) (l : List α) : Int := match l.findIdx? p with | some i => (i : Int) | none => -1
theorem idxOf_none {α : Type} (p : α → Bool) (l : List α) (h : ∀ x ∈ l, p x = false) : idxOf p l = -1 := by
  unfold idxOf
  rw [List.findIdx?_eq_none_iff.2 h]
theorem idxOf_some {α : Type} (p : α → Bool) (l : List α) (k : Nat) (hk : k < l.length) (h : ∀ x ∈ l.take k, p x = false) (hp : p l[k] = true) : idxOf p l = k := by
  unfold idxOf
  have : l.findIdx? p = some k := by
    rw [List.findIdx?_eq_some_iff_getElem]
    refine ⟨hk, hp, fun j hj => ?_⟩
    have := h l[j] (by rw [List.mem_take_iff_getElem]; exact ⟨j, by omega, rfl⟩)
    simpa using this
  rw [this]
theorem ge_idxOf {α : Type} (p : α → Bool) (l : List α) : decide (0 ≤ idxOf p l) = l.any p := by
  unfold idxOf
  rw [Bool.eq_iff_iff]
  rcases h : l.findIdx? p with _ | i
  · rw [List.findIdx?_eq_none_iff] at h
    simp
    intro x hx; simpa using h x hx
  · rw [List.findIdx?_eq_some_iff_getElem] at h
    obtain ⟨hk, hp, _⟩ := h
    simp
    exact ⟨_, List.getElem_mem hk, hp⟩
theorem take_ext {α : Type} {Q : α → Prop} {l : List α} {k : Nat} (h : ∀ x ∈ l.take k, Q x) (hk : k < l.length) (hq : Q l[k]) : ∀ x ∈ l.take (k + 1), Q x := by
  intro x hx
  rw [List.take_succ_eq_append_getElem hk, List.mem_append] at hx
  rcases hx with hx | hx
  · exact h x hx
  · simp at hx; subst hx; exact hq
end Go.Proofs.YthiclaihlpkinaaGreat
