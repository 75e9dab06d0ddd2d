/- Lists of strings that ascend strictly: what is sorted and compacted, and what is inserted one by one (plain words). -/
import Derived.Test.YthemglpccpjokaaGreatBL
import Derived.Lib.SlicesCompact
set_option linter.unusedSimpArgs false
set_option linter.unusedVariables false
set_option linter.unnecessarySimpa false
set_option linter.unusedSectionVars false
namespace Go.Proofs.YthemglpccpjokaaGreat
open Go.RowKit
def ltB (x y : ByteArray) : Prop := Op.bytesLess x.data.toList y.data.toList = true
def ascB (l : List ByteArray) : Prop := l.Pairwise ltB
theorem ba_eq {x y : ByteArray} (h : x.data.toList = y.data.toList) : x = y := by
  cases x with | mk a => cases y with | mk b =>
  simp only [ByteArray.mk.injEq]
  exact Array.toList_inj.1 h
theorem ltB_irrefl (x : ByteArray) : ¬ ltB x x := by simp [ltB, bl_irrefl]
theorem ltB_trans {x y z : ByteArray} (h : ltB x y) (g : ltB y z) : ltB x z := bl_trans _ _ _ h g
theorem ltB_tri (x y : ByteArray) : ltB x y ∨ x = y ∨ ltB y x := by
  rcases bl_tri x.data.toList y.data.toList with h | h | h
  · exact .inl h
  · exact .inr (.inl (ba_eq h))
  · exact .inr (.inr h)
theorem asc_uniq : ∀ {l l' : List ByteArray}, ascB l → ascB l' → (∀ x, x ∈ l ↔ x ∈ l') → l = l' := by
  intro l
  induction l with
  | nil =>
    intro l' _ _ h
    cases l' with
    | nil => rfl
    | cons y r => have := (h y).2 (by simp); simp at this
  | cons x r ih =>
    intro l' h1 h2 h
    cases l' with
    | nil => have := (h x).1 (by simp); simp at this
    | cons y s =>
      obtain ⟨a1, a2⟩ := List.pairwise_cons.1 h1
      obtain ⟨b1, b2⟩ := List.pairwise_cons.1 h2
      have hxy : x = y := by
        rcases List.mem_cons.1 ((h x).1 (by simp)) with e | e
        · exact e
        · rcases List.mem_cons.1 ((h y).2 (by simp)) with e' | e'
          · exact e'.symm
          · exact absurd (ltB_trans (a1 y e') (b1 x e)) (ltB_irrefl _)
      subst hxy
      congr 1
      refine ih a2 b2 fun z => ⟨fun hz => ?_, fun hz => ?_⟩
      · rcases List.mem_cons.1 ((h z).1 (by simp [hz])) with e | e
        · subst e; exact absurd (a1 z hz) (ltB_irrefl _)
        · exact e
      · rcases List.mem_cons.1 ((h z).2 (by simp [hz])) with e | e
        · subst e; exact absurd (b1 z hz) (ltB_irrefl _)
        · exact e
def insG (s : ByteArray) : List ByteArray → List ByteArray
  | [] => [s]
  | x :: r => if Op.bytesLess s.data.toList x.data.toList = true then s :: x :: r else x :: insG s r
def hasB (l : List ByteArray) (s : ByteArray) : Bool := l.any fun x => x.data.toList == s.data.toList
theorem hasB_iff {l : List ByteArray} {s : ByteArray} : hasB l s = true ↔ s ∈ l := by
  simp only [hasB, List.any_eq_true, beq_iff_eq]
  exact ⟨fun ⟨x, h1, h2⟩ => ba_eq h2 ▸ h1, fun h => ⟨s, h, rfl⟩⟩
def insB (l : List ByteArray) (s : ByteArray) : List ByteArray := if hasB l s = true then l else insG s l
theorem mem_insG (s : ByteArray) : ∀ (l : List ByteArray) x, x ∈ insG s l ↔ x = s ∨ x ∈ l := by
  intro l
  induction l with
  | nil => intro x; simp [insG]
  | cons y r ih =>
    intro x
    simp only [insG]
    split
    · simp
    · simp only [List.mem_cons, ih]
      constructor
      · rintro (h | h | h)
        · exact .inr (.inl h)
        · exact .inl h
        · exact .inr (.inr h)
      · rintro (h | h | h)
        · exact .inr (.inl h)
        · exact .inl h
        · exact .inr (.inr h)
theorem asc_insG {s : ByteArray} : ∀ {l : List ByteArray}, ascB l → s ∉ l → ascB (insG s l) := by
  intro l
  induction l with
  | nil => intro _ _; simp [insG, ascB]
  | cons y r ih =>
    intro h hs
    obtain ⟨a1, a2⟩ := List.pairwise_cons.1 h
    simp only [insG]
    split
    · rename_i hlt
      refine List.pairwise_cons.2 ⟨fun z hz => ?_, h⟩
      rcases List.mem_cons.1 hz with rfl | hz
      · exact hlt
      · exact ltB_trans hlt (a1 z hz)
    · rename_i hlt
      refine List.pairwise_cons.2 ⟨fun z hz => ?_, ih a2 (fun q => hs (by simp [q]))⟩
      rcases (mem_insG s r z).1 hz with rfl | hz
      · rcases ltB_tri y z with q | q | q
        · exact q
        · exact absurd (by simp [q]) hs
        · exact absurd q hlt
      · exact a1 z hz
theorem mem_insB (l : List ByteArray) (s x : ByteArray) : x ∈ insB l s ↔ x = s ∨ x ∈ l := by
  unfold insB
  split
  · rename_i h
    have h := hasB_iff.1 h
    exact ⟨.inr, fun q => q.elim (fun q => q ▸ h) id⟩
  · exact mem_insG s l x
theorem asc_insB {l : List ByteArray} {s : ByteArray} (h : ascB l) : ascB (insB l s) := by
  unfold insB
  split
  · exact h
  · rename_i q; exact asc_insG h fun m => q (hasB_iff.2 m)
def setB (l : List ByteArray) : List ByteArray := l.foldl insB []
theorem foldl_insB : ∀ (l acc : List ByteArray), ascB acc → ascB (l.foldl insB acc) ∧ ∀ x, x ∈ l.foldl insB acc ↔ x ∈ acc ∨ x ∈ l := by
  intro l
  induction l with
  | nil => intro acc h; exact ⟨h, fun x => by simp⟩
  | cons s r ih =>
    intro acc h
    obtain ⟨h1, h2⟩ := ih (insB acc s) (asc_insB h)
    refine ⟨h1, fun x => ?_⟩
    rw [List.foldl_cons, h2, mem_insB]
    simp only [List.mem_cons]
    constructor
    · rintro ((h | h) | h)
      · exact .inr (.inl h)
      · exact .inl h
      · exact .inr (.inr h)
    · rintro (h | h | h)
      · exact .inl (.inr h)
      · exact .inl (.inl h)
      · exact .inr h
theorem setB_asc (l : List ByteArray) : ascB (setB l) := (foldl_insB l [] List.Pairwise.nil).1
theorem setB_mem (l : List ByteArray) (x : ByteArray) : x ∈ setB l ↔ x ∈ l := by rw [setB, (foldl_insB l [] List.Pairwise.nil).2]; simp
/-! Sorted and compacted. -/
theorem bl_lt : ∀ x y : List UInt8, Op.bytesLess x y = true ↔ x < y := by
  intro x
  induction x with
  | nil => intro y; cases y <;> simp [Op.bytesLess]
  | cons a x ih =>
    intro y
    cases y with
    | nil => simp [Op.bytesLess]
    | cons b y => simp only [Op.bytesLess, Bool.or_eq_true, decide_eq_true_eq, Bool.and_eq_true, beq_iff_eq, ih, List.cons_lt_cons_iff]
theorem le_bl (x y : List UInt8) : x ≤ y ↔ Op.bytesLess y x = false := by
  rw [← List.not_lt, ← bl_lt]
  simp
theorem sort_sorted (zs : List (List UInt8)) : (zs.mergeSort fun x y => decide (x ≤ y)).Pairwise fun x y => x ≤ y := by
  refine (List.pairwise_mergeSort (fun a b c h1 h2 => ?_) (fun a b => ?_) zs).imp fun h => by simpa using h
  · simp only [decide_eq_true_eq] at *
    exact List.le_trans h1 h2
  · simp only [Bool.or_eq_true, decide_eq_true_eq]
    exact List.le_total a b
theorem compact_asc {zs : List (List UInt8)} (h : zs.Pairwise fun x y => x ≤ y) : (Lib.compact zs).Pairwise (fun x y => Op.bytesLess x y = true) ∧ ∀ x, x ∈ Lib.compact zs ↔ x ∈ zs := by
  have hget : ∀ i j (hi : i < zs.length) (hj : j < zs.length), i ≤ j → zs[i] ≤ zs[j] := fun i j hi hj hij => by
    by_cases e : i = j
    · subst e; exact List.le_refl _
    · exact List.pairwise_iff_getElem.1 h i j hi hj (by omega)
  have hbang : ∀ i (hi : i < zs.length), zs.toArray[i]! = zs[i] := fun i hi => by simp [hi]
  constructor
  · unfold Lib.compact Lib.compactUpTo
    rw [List.pairwise_map]
    have h1 : ((List.range zs.length).filter (Lib.keeps zs.toArray)).Pairwise fun i j => i < j := (List.pairwise_lt_range).filter _
    refine List.Pairwise.imp_of_mem (fun {i j} hi hj hij => ?_) h1
    simp only [List.mem_filter, List.mem_range] at hi hj
    rw [hbang i hi.1, hbang j hj.1]
    have hk := hj.2
    simp only [Lib.keeps, Bool.or_eq_true, decide_eq_true_eq, beq_iff_eq] at hk
    have hjm : j - 1 < zs.length := by omega
    have hne : zs[j] ≠ zs[j - 1] := by
      rcases hk with hk | hk
      · omega
      · have := hk
        simp only [bne_iff_ne, ne_eq] at this
        rwa [hbang j hj.1, hbang (j - 1) hjm] at this
    have a1 := hget i (j - 1) hi.1 hjm (by omega)
    have a2 := hget (j - 1) j hjm hj.1 (by omega)
    rw [le_bl] at a1 a2
    have a3 : Op.bytesLess zs[j - 1] zs[j] = true := by
      rcases bl_tri zs[j - 1] zs[j] with q | q | q
      · exact q
      · exact absurd q.symm hne
      · rw [q] at a2; cases a2
    rcases bl_tri zs[i] zs[j - 1] with q | q | q
    · exact bl_trans _ _ _ q a3
    · rw [q]; exact a3
    · rw [q] at a1; cases a1
  · intro x
    unfold Lib.compact Lib.compactUpTo
    simp only [List.mem_map, List.mem_filter, List.mem_range]
    constructor
    · rintro ⟨i, ⟨hi, _⟩, rfl⟩
      rw [hbang i hi]; exact List.getElem_mem hi
    · intro hx
      obtain ⟨n, hn, hx⟩ := List.getElem_of_mem hx
      -- the first place of x
      have key : ∀ n (hn : n < zs.length), zs[n] = x → ∃ i, (i < zs.length ∧ Lib.keeps zs.toArray i = true) ∧ zs.toArray[i]! = x := by
        intro n
        induction n with
        | zero => intro hn hx; exact ⟨0, ⟨hn, by simp [Lib.keeps]⟩, by rw [hbang 0 hn, hx]⟩
        | succ n ih =>
          intro hn hx
          by_cases e : zs[n] = x
          · exact ih (by omega) e
          · refine ⟨n + 1, ⟨hn, ?_⟩, by rw [hbang _ hn, hx]⟩
            have : zs.toArray[n + 1]! ≠ zs.toArray[n + 1 - 1]! := by
              rw [Nat.add_sub_cancel, hbang _ hn, hbang n (by omega), hx]
              exact fun q => e q.symm
            exact Lib.keeps_pos this
      exact key n hn hx
end Go.Proofs.YthemglpccpjokaaGreat
