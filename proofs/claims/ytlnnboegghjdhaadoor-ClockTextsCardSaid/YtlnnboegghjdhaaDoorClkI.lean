/- strings.Cut, instants, and the examples of the chapter. -/
import Derived.Test.YtlnnboegghjdhaaDoorClk1
import Derived.Test.YtlnnboegghjdhaaDoorTy
import Derived.Test.YtlnnboegghjdhaaDoorM3
import Derived.Test.YtlnnboegghjdhaaDoorAbBase
import Derived.Test.YtlnnboegghjdhaaDoorBr
import Derived.Test.YtlnnboegghjdhaaDoorShelf
import Derived.Test.YtlnnboegghjdhaaDoorAbExec
import Derived.Test.YtlnnboegghjdhaaDoorLib
namespace Go.Proofs.YtlnnboegghjdhaaDoor
set_option linter.unusedSimpArgs false
set_option linter.unusedVariables false
set_option linter.unnecessarySimpa false
set_option linter.unusedSectionVars false
open Go.RowKit
variable [Glob]
set_option maxRecDepth 100000
theorem glob_int {w : World} {X : Nat → Prop} {g : Nat} {m : Int} (h : VarsOk w X) (hg : Glob.row g = some [.int .i64 m]) : w.cell? ⟨g, 0, none⟩ = some (.int .i64 m) := by
  have := h.1 g _ hg
  cases this with
  | rp f hb hx hc hr =>
    have h1 := (hc 0 (.int .i64 m) rfl).1
    have h2 := hr 0 (.int .i64 m) rfl
    have h3 : f 0 = .int .i64 m := by generalize f 0 = v at h2; cases h2; rfl
    rw [h3] at h1
    exact h1
theorem below_drewN {w : World} (n : Nat) : Below w.heap.size w (w.drewN n) := bdrewN (Below.refl _ _) n
theorem cut_pure {m : Int} (hg : Glob.row 0 = some [.int .i64 m]) (s sep : ByteArray) (hs : s.size < 4294967281) : Pure Tryd.prog 18 [.str s, .str sep]
    (.tup [.str ⟨(Lib.cut s.data.toList sep.data.toList).1.toArray⟩, .str ⟨(Lib.cut s.data.toList sep.data.toList).2.1.toArray⟩, .bool (Lib.cut s.data.toList sep.data.toList).2.2]) := by
  refine ⟨by kernel_rfl, fun w X vs hX hvo hl hv => ?_⟩
  obtain ⟨v0, v1, rfl⟩ : ∃ v0 v1, vs = #[v0, v1] := by
    rcases vs with ⟨l⟩
    match l, hl with
    | [a, b], _ => exact ⟨a, b, rfl⟩
  have e0 := hv 0 (.str s) v0 rfl rfl
  have e1 := hv 1 (.str sep) v1 rfl rfl
  cases e0
  cases e1
  refine (Tryd.strings_Cut s sep m w hs (glob_int hvo hg)).mono ?_
  rintro e w' ⟨rfl, n, rfl⟩
  refine ⟨_, rfl, .tup rfl fun j x v hj hv => ?_, below_drewN n⟩
  match j with
  | 0 => simp at hj hv; subst hj hv; exact .str
  | 1 => simp at hj hv; subst hj hv; exact .str
  | 2 => simp at hj hv; subst hj hv; exact .bool
  | j + 3 => simp at hj
def cutV : List AV → Option AV
  | [.str s, .str sep] => if s.size < 4294967281 then some (.tup [.str ⟨(Lib.cut s.data.toList sep.data.toList).1.toArray⟩, .str ⟨(Lib.cut s.data.toList sep.data.toList).2.1.toArray⟩, .bool (Lib.cut s.data.toList sep.data.toList).2.2]) else none
  | _ => none
def cutHook : Hook := hkAdd 18 cutV fun _ => none
theorem cutHook_ok {m : Int} (hg : Glob.row 0 = some [.int .i64 m]) : HookOk Tryd.prog cutHook := by
  refine hkAdd_ok (fun ys r h => ?_) noHook
  unfold cutV at h
  split at h
  · split at h
    · cases h; exact cut_pure hg _ _ ‹_›
    · cases h
  · cases h
theorem awake_pure {m : Int} (hg : Glob.row 0 = some [.int .i64 m]) : Pure Tryd.prog 4 [] (.bool true) := exF_pure (m := 4096) (n := 30) mixed (cutHook_ok hg) (by kernel_rfl)
theorem maxLen_some (w : World) (h : w.ShapedOpen Tryd.prog) : ∃ m, w.cell? ⟨0, 0, none⟩ = some (.int .i64 m) :=
  Go.Proofs.cell_of_shapedOpen_int (zero := #[.int .i64 0]) (t := 3) h (of_decide_eq_true (by kernel_rfl)) (by kernel_rfl) rfl (by kernel_rfl) (by kernel_rfl) Tryd.underlying3
theorem instant_pure (t : Int) : Pure Tryd.prog 12 [.int .i64 t] (.bool (inst t)) := by
  refine pure_of mixed Tryd.func12 rfl (by kernel_rfl) (of_decide_eq_true rfl) (by kernel_rfl) (vc_run ?_)
  ((try simp -implicitDefEqProofs [-loopQ_n]) <;> (repeat' (first | (refine condD_dec ?_ ?_ <;> (intro hc; (try simp -implicitDefEqProofs [-loopQ_n, hc]))) | (refine guardD_dec ?_ ?_ <;> (intro hc; (try simp -implicitDefEqProofs [-loopQ_n, hc]))) | (refine condD_intro ?_ ?_ <;> (intro hd; have hc := hd; (try simp at hc) <;> (try simp -implicitDefEqProofs [-loopQ_n, hd, hc]))) | (refine guardD_intro ?_ ?_ <;> (intro hd; have hc := hd; (try simp at hc) <;> (try simp -implicitDefEqProofs [-loopQ_n, hd, hc]))) | (refine ldD_ep ?_ ?_; (focus kernel_rfl); (try simp -implicitDefEqProofs [-loopQ_n]))))) <;> simp [inst, *]
theorem rinstant_pure (t : Int) : Pure Tryd.prog 15 [.int .i64 t] (.bool (inst t)) := by
  refine pure_of mixed Tryd.func15 rfl (by kernel_rfl) (of_decide_eq_true rfl) (by kernel_rfl) (vc_run ?_)
  ((try simp -implicitDefEqProofs [-loopQ_n]) <;> (repeat' (first | (refine condD_dec ?_ ?_ <;> (intro hc; (try simp -implicitDefEqProofs [-loopQ_n, hc]))) | (refine guardD_dec ?_ ?_ <;> (intro hc; (try simp -implicitDefEqProofs [-loopQ_n, hc]))) | (refine condD_intro ?_ ?_ <;> (intro hd; have hc := hd; (try simp at hc) <;> (try simp -implicitDefEqProofs [-loopQ_n, hd, hc]))) | (refine guardD_intro ?_ ?_ <;> (intro hd; have hc := hd; (try simp at hc) <;> (try simp -implicitDefEqProofs [-loopQ_n, hd, hc]))) | (refine ldD_ep ?_ ?_; (focus kernel_rfl); (try simp -implicitDefEqProofs [-loopQ_n]))))) <;> simp [inst, *]
end Go.Proofs.YtlnnboegghjdhaaDoor
