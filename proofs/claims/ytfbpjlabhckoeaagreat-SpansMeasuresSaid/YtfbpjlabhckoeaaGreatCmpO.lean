/- slices.Compare over strings: what it returns, and the world that it leaves (sorting asks this). -/
import Derived.Test.YtfbpjlabhckoeaaGreatStrW
import Derived.Test.YtfbpjlabhckoeaaGreatLib
import Derived.WalkSpells
import Derived.WalkLawsBesides
import Derived.Deep.QuietTactic
import Derived.BigQuiet
import Derived.Outline
import Derived.Sort.Grow
namespace Go.Proofs.YtfbpjlabhckoeaaGreat
set_option linter.unusedSimpArgs false
set_option linter.unusedVariables false
set_option linter.unnecessarySimpa false
set_option linter.unusedSectionVars false
open Go.RowKit Go.Sort
variable [Glob]
set_option maxRecDepth 100000
/-- The world is as it was, but for draws and new blocks. -/
def Grown (w w' : World) : Prop := ∃ q os', w' = grow (w.drewN q) os'
theorem Grown.refl (w : World) : Grown w w := ⟨0, #[], by simp [World.drewN]⟩
theorem Grown.drewN {w a : World} (h : Grown w a) (n : Nat) : Grown w (a.drewN n) := by
  obtain ⟨q, os, rfl⟩ := h
  exact ⟨q + n, os, by simp [grow, World.drewN, Nat.add_assoc]⟩
theorem Grown.drew {w a : World} (h : Grown w a) : Grown w a.drew := h.drewN 1
theorem Grown.alloc {w a : World} (h : Grown w a) (o : Obj) : Grown w (a.alloc o) := by
  obtain ⟨q, os, rfl⟩ := h
  exact ⟨q, os ++ #[o], by rw [alloc_eq_grow, grow_grow]⟩
theorem Grown.trans {a b c : World} (h : Grown a b) (k : Grown b c) : Grown a c := by
  obtain ⟨q, os, rfl⟩ := h
  obtain ⟨q', os', rfl⟩ := k
  exact ⟨q + q', os ++ os', by simp [grow, World.drewN, Nat.add_assoc, Array.append_assoc]⟩
theorem Grown.below {w w' : World} (h : Grown w w') : Below w.heap.size w w' := by
  obtain ⟨q, os, rfl⟩ := h
  exact ⟨rfl, rfl, rfl, by simp [World.drewN], fun k hk => heap_grow_old _ _ hk⟩
/-- Strings in memory, of whatever size. -/
def rdS : Rd ByteArray := fun w a s => w.cell? a = some (.string s)
abbrev StrsS := Sl rdS 1
theorem mono_strS : Mono rdS := fun _ _ _ _ hb h => Below.cell_some hb h
theorem Sl.strS {w : World} {A : Option Addr} {n k : Nat} {l : List ByteArray} (h : StrsS w A n l) (hk : k < n) :
    ∃ ad, A = some ad ∧ ∃ h : k < l.length, w.cell? (ad.add k) = some (.string l[k]) := by
  obtain ⟨rfl, _, h2⟩ := h
  obtain ⟨ad, h3, h4⟩ := h2 k hk
  exact ⟨ad, h3, hk, by simpa [rdS] using h4⟩
end Go.Proofs.YtfbpjlabhckoeaaGreat
