/- slices.SortFunc and slices.Clone of spans, at a slice of the call's own. -/
import Derived.Test.YtlobmblakilmiaaDoorSrtK
import Derived.Test.YtlobmblakilmiaaDoorClkR
import Derived.Shelf.SlicesG.Cmp
import Derived.Test.YtlobmblakilmiaaDoorLaySp
import Derived.ProofKit
namespace Go.Proofs.YtlobmblakilmiaaDoor
set_option linter.unusedSimpArgs false
set_option linter.unusedVariables false
set_option linter.unnecessarySimpa false
set_option linter.unusedSectionVars false
open Go.RowKit Go.Sort Go.Shelf Go.Lib
variable [Glob]
set_option maxRecDepth 100000
def encSp (s : Sp) : List Value := [.int .i64 s.f, .int .i64 s.t]
instance : Inhabited Sp := ⟨⟨0, 0⟩⟩
set_option maxHeartbeats 1000000 in
theorem cmpSp_calls (x y : Sp) (W : World) : Calls Tryd.prog 55 #[.agg #[.int .i64 x.f, .int .i64 x.t], .agg #[.int .i64 y.f, .int .i64 y.t]] W fun e w' => e = .returned (.int .i64 (Lib.compareInt x.f y.f)) ∧ ∃ q os', w' = grow (W.drewN q) os' := by
  have hcon := fun W' => AnyG.cmp_Compare_int Tryd.cmpIL x.f y.f W'
  change ∀ W', Calls Tryd.prog 56 _ _ _ at hcon
  generalize Lib.compareInt x.f y.f = r at hcon ⊢
  go_enter Tryd.func55, Tryd.ntmps55
  go_wp2_with (go_at_call 56; refine (hcon _).mono ?_; rintro e w' ⟨rfl, rfl⟩)
  go_ret
  exact ⟨rfl, 0, _, by rw [alloc_eq_grow, alloc_eq_grow, grow_grow]; rfl⟩
theorem cmpSp_lays (blk off size : Nat) (w : World) : CmpLays Tryd.prog 55 #[] encSp 2 (fun x y => Lib.compareInt x.f y.f) blk off size w :=
  fun _ _ _ _ x y => cmpSp_calls x y _
theorem ltSp (x y : Sp) : ltOf (fun x y : Sp => Lib.compareInt x.f y.f) x y = decide (x.f < y.f) := by
  unfold ltOf Lib.compareInt
  by_cases h1 : x.f < y.f
  · simp [h1]
  · by_cases h2 : y.f < x.f <;> simp [h1, h2]
theorem swoSp : SWO (ltOf fun x y : Sp => Lib.compareInt x.f y.f) where
  irrefl x := by rw [ltSp]; simp
  trans x y z h1 h2 := by rw [ltSp] at *; simp at *; omega
  ntrans x y z h1 h2 := by rw [ltSp] at *; simp at *; omega
theorem sortSp_G {nb : Bool} {l : List Sp} {id n : Nat} {H : List Blk} {K : AV → List Blk → Prop} (hb : H[id]? = some (.row 26 nb (rowsOf spC l))) (hn : n = l.length) (h0 : l ≠ []) (hlen : l.length ≤ 1073741824)
    (hK : ∀ l', l'.Perm l → l'.Pairwise (fun a b => a.f ≤ b.f) → K (.tup []) (H.set id (.row 26 nb (rowsOf spC l')))) : CallG Tryd.prog 54 [.os id n, .fn 55 []] H K := by
  refine ⟨by kernel_rfl, fun w0 w X φ vs hr hl hv => ?_⟩
  obtain ⟨v0, v1, rfl⟩ := args2 hl
  have hv0 := hv 0 (.os id n) v0 rfl rfl
  have hv1 := hv 1 (.fn 55 []) v1 rfl rfl
  obtain rfl : v1 = .func (.func 55) #[] #[] := by
    cases hv1 with
    | ro h => cases h with | fn h1 h2 => simp at h1; rw [Array.eq_empty_of_size_eq_zero h1.symm]
    | fn h1 h2 => simp at h1; rw [Array.eq_empty_of_size_eq_zero h1.symm]
  have hl0 : l.length ≠ 0 := by simpa using h0
  have hce : Tryd.prog.cellsOf 26 = 2 := by kernel_rfl
  cases hv0 with
  | ro h => cases h
  | os g0 hid hv' =>
    rcases (hv' _ nb _ hb).2 (by rw [hn, rowsOf_length]) with ⟨_, _, _, hz⟩ | ⟨c, cap, cur, hφ, rfl, hheap, hsz, hcap, hncap⟩
    · omega
    · have hk : ∀ x, (encSp x).length = 2 := fun x => rfl
      have hC : ∀ x, (spC x).length = 2 := fun x => rfl
      obtain ⟨hle, hH⟩ := holdsK_row (k := 2) (l := l) (C := spC) hr hb hφ hheap hce encSp hk hC fun i j x a v u _ ha hv _ hu => by
        match j with
        | 0 => simp [spC, encSp] at ha hv; subst ha hv; exact hu.int_inv
        | 1 => simp [spC, encSp] at ha hv; subst ha hv; exact hu.int_inv
        | j + 2 => simp [spC] at ha
      have eg : ∀ args w, (callFunc 55 args).run Tryd.prog w = .ok (.enter 55 args) w := enters_of Tryd.func55 (by kernel_rfl) rfl
      have hcon := AnyQ.slices_SortFunc Tryd.sortSpL 2 Tryd.isAgg26 Tryd.sizeOf26 encSp hk (fun x v hv => by simp [encSp] at hv; rcases hv with rfl | rfl <;> rfl) (fun x y => Lib.compareInt x.f y.f) swoSp 55 #[] c 0 cap l.toArray w eg (cmpSp_lays c 0 _ w) hH (Array.getElem?_eq_some_iff.1 hheap).1 (by simp; omega)
      change Calls Tryd.prog 54 _ _ _ at hcon
      rw [List.size_toArray, ← hn] at hcon
      refine hcon.mono ?_
      rintro e w' ⟨rfl, d', m, os, hp, hs, rfl⟩
      have hd' : d'.size = l.length := by have := hp.1; simpa [hn] using this
      obtain ⟨h1, h2⟩ := putK_row (k := 2) (m := m) (os := os) hr hb hφ hheap hce (by omega) encSp spC hk hC (fun x j a v ha hv => by
        match j with
        | 0 => simp [spC, encSp] at ha hv; subst ha hv; exact ⟨.ro .int, rfl⟩
        | 1 => simp [spC, encSp] at ha hv; subst ha hv; exact ⟨.ro .int, rfl⟩
        | j + 2 => simp [spC] at ha) d' (by rw [rowsOf_length, hd']) (by rw [rowsOf_length]; exact hle)
      refine ⟨_, .tup [], φ, _, rfl, h1, h2, .ro (.tup rfl (by simp)), hK d'.toList ?_ ?_⟩
      · have := hp.2.2
        rw [hn] at this
        have e1 : (d'.extract 0 l.length).toList = d'.toList := by rw [← hd']; simp
        have e2 : (l.toArray.extract 0 l.length).toList = l := by simp
        rw [e1, e2] at this
        exact this
      · rw [List.pairwise_iff_getElem]
        intro i j hi hj hij
        have hi' : i < d'.size := by simpa using hi
        have hj' : j < d'.size := by simpa using hj
        have := hs i j (Nat.zero_le _) hij (by rw [hn, ← hd']; exact hj')
        rw [ltSp, getElem!_pos d' i hi', getElem!_pos d' j hj'] at this
        simp at this
        simpa using this
theorem cloneSp_fresh (l : List Sp) (h0 : l ≠ []) (hl : l.length ≤ 1073741824) : Fresh Tryd.prog 53 [.rs (rowsOf spC l)] 26 (rowsOf spC l) := by
  refine fresh_of mixed Tryd.func53 rfl (by kernel_rfl) (of_decide_eq_true rfl) (by kernel_rfl) (vc_run ?_)
  have h1 : l.isEmpty = false := by cases l <;> simp at h0 ⊢
  have h2 : allLen 2 (rowsOf spC l) = true := rowsOf_allLen fun x => rfl
  simp -implicitDefEqProofs [h1, hl, h2]
  exact rowsOf_owns' (f := spC) fun x c hc => by simp [spC] at hc; rcases hc with rfl | rfl <;> rfl
end Go.Proofs.YtlobmblakilmiaaDoor
