/- Several texts of the abstract machine, one behind the other. -/
import Derived.WalkKit
import Derived.Lib.SlicesCompact
import Derived.Test.YthiclaihlpkinaaGreatM4
import Derived.Test.YthiclaihlpkinaaGreatM5
import Derived.Test.YthiclaihlpkinaaGreatLib
import Derived.WalkSpells
import Derived.WalkLawsBesides
import Derived.Deep.QuietTactic
import Derived.BigQuiet
import Derived.Outline
import Derived.Sort.Grow
set_option linter.unusedSimpArgs false
set_option linter.unusedVariables false
set_option linter.unnecessarySimpa false
set_option linter.unusedSectionVars false
set_option maxRecDepth 100000
namespace Go.Proofs.YthiclaihlpkinaaGreat
open Go.RowKit
theorem bl_irrefl : ∀ a : List UInt8, Op.bytesLess a a = false := by
  intro a
  induction a with
  | nil => rfl
  | cons x a ih => simp [Op.bytesLess, ih]
theorem bl_trans : ∀ a b c : List UInt8, Op.bytesLess a b = true → Op.bytesLess b c = true → Op.bytesLess a c = true := by
  intro a
  induction a with
  | nil =>
    intro b c h1 h2
    cases c with
    | nil => cases b <;> simp [Op.bytesLess] at h2
    | cons z c => rfl
  | cons x a ih =>
    intro b c h1 h2
    cases b with
    | nil => simp [Op.bytesLess] at h1
    | cons y b =>
      cases c with
      | nil => simp [Op.bytesLess] at h2
      | cons z c =>
        simp only [Op.bytesLess, Bool.or_eq_true, Bool.and_eq_true, decide_eq_true_eq, beq_iff_eq] at *
        rcases h1 with h1 | ⟨rfl, h1⟩ <;> rcases h2 with h2 | ⟨rfl, h2⟩
        · exact .inl (UInt8.lt_trans h1 h2)
        · exact .inl h1
        · exact .inl h2
        · exact .inr ⟨rfl, ih b c h1 h2⟩
theorem bl_tri : ∀ a b : List UInt8, Op.bytesLess a b = true ∨ a = b ∨ Op.bytesLess b a = true := by
  intro a
  induction a with
  | nil => intro b; cases b with | nil => exact .inr (.inl rfl) | cons y b => exact .inl rfl
  | cons x a ih =>
    intro b
    cases b with
    | nil => exact .inr (.inr rfl)
    | cons y b =>
      simp only [Op.bytesLess, Bool.or_eq_true, Bool.and_eq_true, decide_eq_true_eq, beq_iff_eq, List.cons.injEq]
      by_cases h1 : x < y
      · exact .inl (.inl h1)
      · by_cases h2 : y < x
        · exact .inr (.inr (.inl h2))
        · have he : x = y := UInt8.le_antisymm (UInt8.not_lt.1 h2) (UInt8.not_lt.1 h1)
          subst he
          rcases ih b with h | h | h
          · exact .inl (.inr ⟨rfl, h⟩)
          · exact .inr (.inl ⟨rfl, h⟩)
          · exact .inr (.inr (.inr ⟨rfl, h⟩))
theorem bl_asymm {a b : List UInt8} (h : Op.bytesLess a b = true) : Op.bytesLess b a = false := by
  cases h2 : Op.bytesLess b a
  · rfl
  · have := bl_trans _ _ _ h h2
    rw [bl_irrefl] at this; cases this
end Go.Proofs.YthiclaihlpkinaaGreat
namespace Go.Proofs.YthiclaihlpkinaaGreat
open Go.RowKit
/-- Before, for strings. -/
def ltB (x y : ByteArray) : Prop := Op.bytesLess x.data.toList y.data.toList = true
def ascB (l : List ByteArray) : Prop := l.Pairwise ltB
theorem ba_eq {x y : ByteArray} (h : x.data.toList = y.data.toList) : x = y := by
  cases x with | mk a => cases y with | mk b =>
  simp only [ByteArray.mk.injEq]
  exact Array.toList_inj.1 h
theorem ltB_irrefl (x : ByteArray) : ¬ ltB x x := by simp [ltB, bl_irrefl]
theorem ltB_trans {x y z : ByteArray} (h : ltB x y) (g : ltB y z) : ltB x z := bl_trans _ _ _ h g
theorem ltB_tri (x y : ByteArray) : ltB x y ∨ x = y ∨ ltB y x := by
  rcases bl_tri x.data.toList y.data.toList with h | h | h
  · exact .inl h
  · exact .inr (.inl (ba_eq h))
  · exact .inr (.inr h)
/-- Two such lists with the same members are the same. -/
theorem asc_uniq : ∀ {l l' : List ByteArray}, ascB l → ascB l' → (∀ x, x ∈ l ↔ x ∈ l') → l = l' := by
  intro l
  induction l with
  | nil =>
    intro l' _ _ h
    cases l' with
    | nil => rfl
    | cons y r => have := (h y).2 (by simp); simp at this
  | cons x r ih =>
    intro l' h1 h2 h
    cases l' with
    | nil => have := (h x).1 (by simp); simp at this
    | cons y s =>
      obtain ⟨a1, a2⟩ := List.pairwise_cons.1 h1
      obtain ⟨b1, b2⟩ := List.pairwise_cons.1 h2
      have hxy : x = y := by
        rcases List.mem_cons.1 ((h x).1 (by simp)) with e | e
        · exact e
        · rcases List.mem_cons.1 ((h y).2 (by simp)) with e' | e'
          · exact e'.symm
          · exact absurd (ltB_trans (a1 y e') (b1 x e)) (ltB_irrefl _)
      subst hxy
      congr 1
      refine ih a2 b2 fun z => ⟨fun hz => ?_, fun hz => ?_⟩
      · rcases List.mem_cons.1 ((h z).1 (by simp [hz])) with e | e
        · subst e; exact absurd (a1 z hz) (ltB_irrefl _)
        · exact e
      · rcases List.mem_cons.1 ((h z).2 (by simp [hz])) with e | e
        · subst e; exact absurd (b1 z hz) (ltB_irrefl _)
        · exact e
/-- A string put into its place. -/
def insG (s : ByteArray) : List ByteArray → List ByteArray
  | [] => [s]
  | x :: r => if Op.bytesLess s.data.toList x.data.toList = true then s :: x :: r else x :: insG s r
def hasB (l : List ByteArray) (s : ByteArray) : Bool := l.any fun x => x.data.toList == s.data.toList
theorem hasB_iff {l : List ByteArray} {s : ByteArray} : hasB l s = true ↔ s ∈ l := by
  simp only [hasB, List.any_eq_true, beq_iff_eq]
  exact ⟨fun ⟨x, h1, h2⟩ => ba_eq h2 ▸ h1, fun h => ⟨s, h, rfl⟩⟩
def insB (l : List ByteArray) (s : ByteArray) : List ByteArray := if hasB l s = true then l else insG s l
theorem mem_insG (s : ByteArray) : ∀ (l : List ByteArray) x, x ∈ insG s l ↔ x = s ∨ x ∈ l := by
  intro l
  induction l with
  | nil => intro x; simp [insG]
  | cons y r ih =>
    intro x
    simp only [insG]
    split
    · simp
    · simp only [List.mem_cons, ih]
      constructor
      · rintro (h | h | h)
        · exact .inr (.inl h)
        · exact .inl h
        · exact .inr (.inr h)
      · rintro (h | h | h)
        · exact .inr (.inl h)
        · exact .inl h
        · exact .inr (.inr h)
theorem asc_insG {s : ByteArray} : ∀ {l : List ByteArray}, ascB l → s ∉ l → ascB (insG s l) := by
  intro l
  induction l with
  | nil => intro _ _; simp [insG, ascB]
  | cons y r ih =>
    intro h hs
    obtain ⟨a1, a2⟩ := List.pairwise_cons.1 h
    simp only [insG]
    split
    · rename_i hlt
      refine List.pairwise_cons.2 ⟨fun z hz => ?_, h⟩
      rcases List.mem_cons.1 hz with rfl | hz
      · exact hlt
      · exact ltB_trans hlt (a1 z hz)
    · rename_i hlt
      refine List.pairwise_cons.2 ⟨fun z hz => ?_, ih a2 (fun q => hs (by simp [q]))⟩
      rcases (mem_insG s r z).1 hz with rfl | hz
      · rcases ltB_tri y z with q | q | q
        · exact q
        · exact absurd (by simp [q]) hs
        · exact absurd q hlt
      · exact a1 z hz
theorem mem_insB (l : List ByteArray) (s x : ByteArray) : x ∈ insB l s ↔ x = s ∨ x ∈ l := by
  unfold insB
  split
  · rename_i h
    have h := hasB_iff.1 h
    exact ⟨.inr, fun q => q.elim (fun q => q ▸ h) id⟩
  · exact mem_insG s l x
theorem asc_insB {l : List ByteArray} {s : ByteArray} (h : ascB l) : ascB (insB l s) := by
  unfold insB
  split
  · exact h
  · rename_i q; exact asc_insG h fun m => q (hasB_iff.2 m)
/-- All of a list put in, one after the other. -/
def setB (l : List ByteArray) : List ByteArray := l.foldl insB []
theorem foldl_insB : ∀ (l acc : List ByteArray), ascB acc → ascB (l.foldl insB acc) ∧ ∀ x, x ∈ l.foldl insB acc ↔ x ∈ acc ∨ x ∈ l := by
  intro l
  induction l with
  | nil => intro acc h; exact ⟨h, fun x => by simp⟩
  | cons s r ih =>
    intro acc h
    obtain ⟨h1, h2⟩ := ih (insB acc s) (asc_insB h)
    refine ⟨h1, fun x => ?_⟩
    rw [List.foldl_cons, h2, mem_insB]
    simp only [List.mem_cons]
    constructor
    · rintro ((h | h) | h)
      · exact .inr (.inl h)
      · exact .inl h
      · exact .inr (.inr h)
    · rintro (h | h | h)
      · exact .inl (.inr h)
      · exact .inl (.inl h)
      · exact .inr h
theorem setB_asc (l : List ByteArray) : ascB (setB l) := (foldl_insB l [] List.Pairwise.nil).1
theorem setB_mem (l : List ByteArray) (x : ByteArray) : x ∈ setB l ↔ x ∈ l := by rw [setB, (foldl_insB l [] List.Pairwise.nil).2]; simp
/-! Sorted and compacted. -/
theorem bl_lt : ∀ x y : List UInt8, Op.bytesLess x y = true ↔ x < y := by
  intro x
  induction x with
  | nil => intro y; cases y <;> simp [Op.bytesLess]
  | cons a x ih =>
    intro y
    cases y with
    | nil => simp [Op.bytesLess]
    | cons b y => simp only [Op.bytesLess, Bool.or_eq_true, decide_eq_true_eq, Bool.and_eq_true, beq_iff_eq, ih, List.cons_lt_cons_iff]
theorem le_bl (x y : List UInt8) : x ≤ y ↔ Op.bytesLess y x = false := by
  rw [← List.not_lt, ← bl_lt]
  simp
theorem sort_sorted (zs : List (List UInt8)) : (zs.mergeSort fun x y => decide (x ≤ y)).Pairwise fun x y => x ≤ y := by
  refine (List.pairwise_mergeSort (fun a b c h1 h2 => ?_) (fun a b => ?_) zs).imp fun h => by simpa using h
  · simp only [decide_eq_true_eq] at *
    exact List.le_trans h1 h2
  · simp only [Bool.or_eq_true, decide_eq_true_eq]
    exact List.le_total a b
theorem compact_asc {zs : List (List UInt8)} (h : zs.Pairwise fun x y => x ≤ y) : (Lib.compact zs).Pairwise (fun x y => Op.bytesLess x y = true) ∧ ∀ x, x ∈ Lib.compact zs ↔ x ∈ zs := by
  have hget : ∀ i j (hi : i < zs.length) (hj : j < zs.length), i ≤ j → zs[i] ≤ zs[j] := fun i j hi hj hij => by
    by_cases e : i = j
    · subst e; exact List.le_refl _
    · exact List.pairwise_iff_getElem.1 h i j hi hj (by omega)
  have hbang : ∀ i (hi : i < zs.length), zs.toArray[i]! = zs[i] := fun i hi => by simp [hi]
  constructor
  · unfold Lib.compact Lib.compactUpTo
    rw [List.pairwise_map]
    have h1 : ((List.range zs.length).filter (Lib.keeps zs.toArray)).Pairwise fun i j => i < j := (List.pairwise_lt_range).filter _
    refine List.Pairwise.imp_of_mem (fun {i j} hi hj hij => ?_) h1
    simp only [List.mem_filter, List.mem_range] at hi hj
    rw [hbang i hi.1, hbang j hj.1]
    have hk := hj.2
    simp only [Lib.keeps, Bool.or_eq_true, decide_eq_true_eq, beq_iff_eq] at hk
    have hjm : j - 1 < zs.length := by omega
    have hne : zs[j] ≠ zs[j - 1] := by
      rcases hk with hk | hk
      · omega
      · have := hk
        simp only [bne_iff_ne, ne_eq] at this
        rwa [hbang j hj.1, hbang (j - 1) hjm] at this
    have a1 := hget i (j - 1) hi.1 hjm (by omega)
    have a2 := hget (j - 1) j hjm hj.1 (by omega)
    rw [le_bl] at a1 a2
    have a3 : Op.bytesLess zs[j - 1] zs[j] = true := by
      rcases bl_tri zs[j - 1] zs[j] with q | q | q
      · exact q
      · exact absurd q.symm hne
      · rw [q] at a2; cases a2
    rcases bl_tri zs[i] zs[j - 1] with q | q | q
    · exact bl_trans _ _ _ q a3
    · rw [q]; exact a3
    · rw [q] at a1; cases a1
  · intro x
    unfold Lib.compact Lib.compactUpTo
    simp only [List.mem_map, List.mem_filter, List.mem_range]
    constructor
    · rintro ⟨i, ⟨hi, _⟩, rfl⟩
      rw [hbang i hi]; exact List.getElem_mem hi
    · intro hx
      obtain ⟨n, hn, hx⟩ := List.getElem_of_mem hx
      -- the first place of x
      have key : ∀ n (hn : n < zs.length), zs[n] = x → ∃ i, (i < zs.length ∧ Lib.keeps zs.toArray i = true) ∧ zs.toArray[i]! = x := by
        intro n
        induction n with
        | zero => intro hn hx; exact ⟨0, ⟨hn, by simp [Lib.keeps]⟩, by rw [hbang 0 hn, hx]⟩
        | succ n ih =>
          intro hn hx
          by_cases e : zs[n] = x
          · exact ih (by omega) e
          · refine ⟨n + 1, ⟨hn, ?_⟩, by rw [hbang _ hn, hx]⟩
            have : zs.toArray[n + 1]! ≠ zs.toArray[n + 1 - 1]! := by
              rw [Nat.add_sub_cancel, hbang _ hn, hbang n (by omega), hx]
              exact fun q => e q.symm
            exact Lib.keeps_pos this
      exact key n hn hx
end Go.Proofs.YthiclaihlpkinaaGreat
namespace Go.Proofs.YthiclaihlpkinaaGreat
open Go.RowKit
variable [Glob]
theorem sw_suc {i n : Nat} (h : i < n) (hn : n ≤ 9223372036854775807) : wrapI .i64 ((i : Int) + 1) = ((i + 1 : Nat) : Int) := by rw [wrap_in (by omega) (by omega)]; omega
theorem sw_snoc {l : List ByteArray} {x : ByteArray} : rowsOf strC l ++ [[.str x]] = rowsOf strC (l ++ [x]) := by simp [rowsOf, strC]
theorem sw_refs {m : Nat} {l : List ByteArray} : refsR m (rowsOf strC l) = true := rowsOf_refs fun x => by simp [strC, refs]
theorem sw_reify {H : List Blk} {n : Nat} {l : List ByteArray} : (rowsOf strC l).mapM (fun row => row.mapM (reify H (n + 1))) = some (rowsOf strC l) := rowsOf_reify fun x => by simp [strC, reify]
theorem sw_len {l : List ByteArray} : (rowsOf strC l).length = l.length := rowsOf_length
/-- Before, for strings. -/
def ltS (x y : ByteArray) : Bool := Op.bytesLess x.data.toList y.data.toList
structure SLess (x y : ByteArray) : Prop where
  a : Op.bytesLess x.toList y.toList = true
  b : Op.bytesLess y.toList x.toList = false
  c : (x.toList = y.toList) = False
  c' : (y.toList = x.toList) = False
  d : ltS x y = true
  e : ltS y x = false
  n : x ≠ y
theorem sless_of {x y : ByteArray} (h : ltS x y = true) : SLess x y := by
  have hne : x ≠ y := fun e => by subst e; simp [ltS, bl_irrefl] at h
  have hn : x.toList ≠ y.toList := fun e => hne (ba_eq (by rw [ba_toList, ba_toList] at e; exact e))
  exact ⟨by rw [ba_toList, ba_toList]; exact h, by rw [ba_toList, ba_toList]; exact bl_asymm h, by simp [hn], eq_false fun e => hn e.symm, h, bl_asymm h, hne⟩
theorem str_tri (x y : ByteArray) : SLess x y ∨ x = y ∨ SLess y x := by
  rcases ltB_tri x y with h | h | h
  · exact .inl (sless_of h)
  · exact .inr (.inl h)
  · exact .inr (.inr (sless_of h))
theorem str_irr (x : ByteArray) : Op.bytesLess x.toList x.toList = false := bl_irrefl _
theorem ltS_irr (x : ByteArray) : ltS x x = false := bl_irrefl _
/-- The order of words. -/
def cmpL : List ByteArray → List ByteArray → Int
  | [], [] => 0
  | [], _ :: _ => -1
  | _ :: _, [] => 1
  | x :: a, y :: b => if ltS x y = true then -1 else if ltS y x = true then 1 else cmpL a b
theorem cmpL_cons (x y : ByteArray) (a b : List ByteArray) : cmpL (x :: a) (y :: b) = if ltS x y = true then -1 else if ltS y x = true then 1 else cmpL a b := rfl
theorem cmpL_self : ∀ a : List ByteArray, cmpL a a = 0
  | [] => rfl
  | x :: a => by rw [cmpL, if_neg (by rw [ltS_irr]; decide), if_neg (by rw [ltS_irr]; decide)]; exact cmpL_self a
theorem cmpL_zero : ∀ {a b : List ByteArray}, cmpL a b = 0 → a = b
  | [], [], _ => rfl
  | [], _ :: _, h => by simp [cmpL] at h
  | _ :: _, [], h => by simp [cmpL] at h
  | x :: a, y :: b, h => by
    rw [cmpL] at h
    rcases str_tri x y with q | q | q
    · rw [if_pos q.d] at h; cases h
    · subst q
      rw [if_neg (by rw [ltS_irr]; decide), if_neg (by rw [ltS_irr]; decide)] at h
      rw [cmpL_zero h]
    · rw [if_neg (by rw [q.e]; decide), if_pos q.d] at h; cases h
theorem cmpL_iff {a b : List ByteArray} : cmpL a b = 0 ↔ a = b := ⟨cmpL_zero, fun h => h ▸ cmpL_self a⟩
/-- Where a string stands; -1: nowhere. -/
def idxA : List ByteArray → ByteArray → Int → Int
  | [], _, _ => -1
  | y :: r, x, i => if y = x then i else idxA r x (i + 1)
def idxS (l : List ByteArray) (x : ByteArray) : Int := idxA l x 0
end Go.Proofs.YthiclaihlpkinaaGreat
namespace Go.Proofs.YthiclaihlpkinaaGreat
open Go.RowKit Go.Sort
variable [Glob]
/-- The world is as it was, but for draws and new blocks. -/
def Grown (w w' : World) : Prop := ∃ q os', w' = grow (w.drewN q) os'
theorem Grown.refl (w : World) : Grown w w := ⟨0, #[], by simp [World.drewN]⟩
theorem Grown.drewN {w a : World} (h : Grown w a) (n : Nat) : Grown w (a.drewN n) := by
  obtain ⟨q, os, rfl⟩ := h
  exact ⟨q + n, os, by simp [grow, World.drewN, Nat.add_assoc]⟩
theorem Grown.drew {w a : World} (h : Grown w a) : Grown w a.drew := h.drewN 1
theorem Grown.alloc {w a : World} (h : Grown w a) (o : Obj) : Grown w (a.alloc o) := by
  obtain ⟨q, os, rfl⟩ := h
  exact ⟨q, os ++ #[o], by rw [alloc_eq_grow, grow_grow]⟩
theorem Grown.trans {a b c : World} (h : Grown a b) (k : Grown b c) : Grown a c := by
  obtain ⟨q, os, rfl⟩ := h
  obtain ⟨q', os', rfl⟩ := k
  exact ⟨q + q', os ++ os', by simp [grow, World.drewN, Nat.add_assoc, Array.append_assoc]⟩
theorem Grown.below {w w' : World} (h : Grown w w') : Below w.heap.size w w' := by
  obtain ⟨q, os, rfl⟩ := h
  exact ⟨rfl, rfl, rfl, by simp [World.drewN], fun k hk => heap_grow_old _ _ hk⟩
/-- Strings in memory, of whatever size. -/
def rdS : Rd ByteArray := fun w a s => w.cell? a = some (.string s)
abbrev StrsS := Sl rdS 1
theorem mono_strS : Mono rdS := fun _ _ _ _ hb h => Below.cell_some hb h
theorem Sl.strS {w : World} {A : Option Addr} {n k : Nat} {l : List ByteArray} (h : StrsS w A n l) (hk : k < n) :
    ∃ ad, A = some ad ∧ ∃ h : k < l.length, w.cell? (ad.add k) = some (.string l[k]) := by
  obtain ⟨rfl, _, h2⟩ := h
  obtain ⟨ad, h3, h4⟩ := h2 k hk
  exact ⟨ad, h3, hk, by simpa [rdS] using h4⟩
end Go.Proofs.YthiclaihlpkinaaGreat
