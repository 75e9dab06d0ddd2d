/- Sorting and copying of spans (chapter 18). -/
import Derived.Test.YtfbpjlabhckoeaaGreatSrtK
import Derived.Test.YtfbpjlabhckoeaaGreatOrS
import Derived.Test.YtfbpjlabhckoeaaGreatCl0
import Derived.Test.YtfbpjlabhckoeaaGreatClk2
import Derived.Test.YtfbpjlabhckoeaaGreatAbBase
import Derived.Test.YtfbpjlabhckoeaaGreatAbEx2
import Derived.Lib.SliceRun
import Derived.Lib.Walk
import Derived.ProofKit
namespace Go.Proofs.YtfbpjlabhckoeaaGreat
set_option linter.unusedSimpArgs false
set_option linter.unusedVariables false
set_option linter.unnecessarySimpa false
set_option linter.unusedSectionVars false
open Go.RowKit Go.Sort Go.Shelf Go.Lib
variable [Glob]
set_option maxRecDepth 100000
def encSp (s : Sp) : List Value := [.int .i64 s.f, .int .i64 s.t]
instance : Inhabited Sp := ⟨⟨0, 0⟩⟩
def cfM (x y : Sp) : Int := orL [Lib.compareInt x.f y.f, Lib.compareInt x.t y.t]
theorem cmpI (a b : Int) : (a < b ∧ Lib.compareInt a b = -1) ∨ (a = b ∧ Lib.compareInt a b = 0) ∨ (b < a ∧ Lib.compareInt a b = 1) := by
  unfold Lib.compareInt
  rcases Int.lt_trichotomy a b with h | h | h
  · exact .inl ⟨h, by simp [h]⟩
  · subst h; exact .inr (.inl ⟨rfl, by simp⟩)
  · exact .inr (.inr ⟨h, by rw [if_neg (by omega), if_pos (by omega)]⟩)
theorem or_lex (a b c d : Int) : orL [Lib.compareInt a b, Lib.compareInt c d] < 0 ↔ a < b ∨ (a = b ∧ c < d) := by
  simp only [orL]
  rcases cmpI a b with ⟨h, e⟩ | ⟨h, e⟩ | ⟨h, e⟩ <;> rcases cmpI c d with ⟨h', e'⟩ | ⟨h', e'⟩ | ⟨h', e'⟩ <;> rw [e, e'] <;> simp <;> omega
theorem ltM (x y : Sp) : ltOf cfM x y = decide (x.f < y.f ∨ (x.f = y.f ∧ x.t < y.t)) := by
  unfold ltOf cfM
  exact decide_eq_decide.2 (or_lex _ _ _ _)
theorem ltM_le {x y : Sp} (h : ltOf cfM y x = false) : x.f ≤ y.f := by
  rw [ltM] at h
  simp only [decide_eq_false_iff_not] at h
  omega
theorem swoM : SWO (ltOf cfM) where
  irrefl x := by rw [ltM]; simp
  trans x y z h1 h2 := by rw [ltM] at *; simp only [decide_eq_true_eq] at *; omega
  ntrans x y z h1 h2 := by rw [ltM] at *; simp only [decide_eq_false_iff_not] at *; omega
theorem mergedCmp_lays (blk off size : Nat) (w : World) : CmpLays Tryz.prog 54 #[] encSp 2 cfM blk off size w :=
  fun _ _ _ _ x y => mergedCmp_calls x.f x.t y.f y.t _
theorem sortM_G {nb : Bool} {l : List Sp} {id n : Nat} {H : List Blk} {K : AV → List Blk → Prop} (hb : H[id]? = some (.row 48 nb (rowsOf spC l))) (hn : n = l.length) (h0 : l ≠ []) (hlen : l.length ≤ 1073741824)
    (hK : ∀ l', l'.Perm l → l'.Pairwise (fun a b => a.f ≤ b.f) → K (.tup []) (H.set id (.row 48 nb (rowsOf spC l')))) : CallG Tryz.prog 53 [.os id n, .fn 54 []] H K := by
  refine ⟨by kernel_rfl, fun w0 w X φ vs hr hl hv => ?_⟩
  obtain ⟨v0, v1, rfl⟩ := args2 hl
  have hv0 := hv 0 (.os id n) v0 rfl rfl
  have hv1 := hv 1 (.fn 54 []) v1 rfl rfl
  obtain rfl : v1 = .func (.func 54) #[] #[] := by
    cases hv1 with
    | ro h => cases h with | fn h1 h2 => simp at h1; rw [Array.eq_empty_of_size_eq_zero h1.symm]
    | fn h1 h2 => simp at h1; rw [Array.eq_empty_of_size_eq_zero h1.symm]
  have hl0 : l.length ≠ 0 := by simpa using h0
  have hce : Tryz.prog.cellsOf 48 = 2 := by kernel_rfl
  cases hv0 with
  | ro h => cases h
  | os g0 hid hv' =>
    rcases (hv' _ nb _ hb).2 (by rw [hn, rowsOf_length]) with ⟨_, _, _, hz⟩ | ⟨c, cap, cur, hφ, rfl, hheap, hsz, hcap, hncap⟩
    · omega
    · have hk : ∀ x, (encSp x).length = 2 := fun x => rfl
      have hC : ∀ x, (spC x).length = 2 := fun x => rfl
      obtain ⟨hle, hH⟩ := holdsK_row (k := 2) (l := l) (C := spC) hr hb hφ hheap hce encSp hk hC fun i j x a v u _ ha hv _ hu => by
        match j with
        | 0 => simp [spC, encSp] at ha hv; subst ha hv; exact hu.int_inv
        | 1 => simp [spC, encSp] at ha hv; subst ha hv; exact hu.int_inv
        | j + 2 => simp [spC] at ha
      have eg : ∀ args w, (callFunc 54 args).run Tryz.prog w = .ok (.enter 54 args) w := enters_of Tryz.func54 (by kernel_rfl) rfl
      have hcon := AnyQ.slices_SortFunc Tryz.sortSpL 2 Tryz.isAgg48 Tryz.sizeOf48 encSp hk (fun x v hv => by simp [encSp] at hv; rcases hv with rfl | rfl <;> rfl) cfM swoM 54 #[] c 0 cap l.toArray w eg (mergedCmp_lays c 0 _ w) hH (Array.getElem?_eq_some_iff.1 hheap).1 (by simp; omega)
      change Calls Tryz.prog 53 _ _ _ at hcon
      rw [List.size_toArray, ← hn] at hcon
      refine hcon.mono ?_
      rintro e w' ⟨rfl, d', m, os, hp, hs, rfl⟩
      have hd' : d'.size = l.length := by have := hp.1; simpa [hn] using this
      obtain ⟨h1, h2⟩ := putK_row (k := 2) (m := m) (os := os) hr hb hφ hheap hce (by omega) encSp spC hk hC (fun x j a v ha hv => by
        match j with
        | 0 => simp [spC, encSp] at ha hv; subst ha hv; exact ⟨.ro .int, rfl⟩
        | 1 => simp [spC, encSp] at ha hv; subst ha hv; exact ⟨.ro .int, rfl⟩
        | j + 2 => simp [spC] at ha) d' (by rw [rowsOf_length, hd']) (by rw [rowsOf_length]; exact hle)
      refine ⟨_, .tup [], φ, _, rfl, h1, h2, .ro (.tup rfl (by simp)), hK d'.toList ?_ ?_⟩
      · have := hp.2.2
        rw [hn] at this
        have e1 : (d'.extract 0 l.length).toList = d'.toList := by rw [← hd']; simp
        have e2 : (l.toArray.extract 0 l.length).toList = l := by simp
        rw [e1, e2] at this
        exact this
      · rw [List.pairwise_iff_getElem]
        intro i j hi hj hij
        have hi' : i < d'.size := by simpa using hi
        have hj' : j < d'.size := by simpa using hj
        have := hs i j (Nat.zero_le _) hij (by rw [hn, ← hd']; exact hj')
        rw [getElem!_pos d' i hi', getElem!_pos d' j hj'] at this
        have := ltM_le this
        simpa using this
theorem cloneSp_fresh (l : List Sp) (h0 : l ≠ []) (hl : l.length ≤ 1073741824) : Fresh Tryz.prog 52 [.rs (rowsOf spC l)] 48 (rowsOf spC l) := by
  refine fresh_of mixed Tryz.func52 rfl (by kernel_rfl) (of_decide_eq_true rfl) (by kernel_rfl) (vc_run ?_)
  have h1 : l.isEmpty = false := by cases l <;> simp at h0 ⊢
  have h2 : allLen 2 (rowsOf spC l) = true := rowsOf_allLen fun x => rfl
  simp -implicitDefEqProofs [h1, hl, h2]
  exact rowsOf_owns' (f := spC) fun x c hc => by simp [spC] at hc; rcases hc with rfl | rfl <;> rfl
theorem sp_info : ∃ i, Tryz.prog.info? 48 = some i ∧ i.zero = some (.agg #[.int .i64 0, .int .i64 0]) ∧ i.size = 2 ∧ i.bytes = 16 := by
  obtain ⟨j, h1, h2⟩ := Option.map_eq_some_iff.1 (show (Tryz.prog.info? 48).map (fun i => (i.zero, i.size, i.bytes)) = some (some (.agg #[.int .i64 0, .int .i64 0]), 2, 16) by kernel_rfl)
  simp only [Prod.mk.injEq] at h2
  exact ⟨j, h1, h2.1, h2.2.1, h2.2.2⟩
set_option maxHeartbeats 2000000 in
theorem cloneSp_nil (c : Nat) (w : World) : Calls Tryz.prog 52 #[.slice none 0 c] w fun en w' => en = .returned (.slice none 0 0) ∧ w' = w := by
  have q24 : ∀ (w : World) (a : Option Addr) (n c n' c' : Nat), (binOp .eql 23 (.slice a n c) (.slice none n' c')).run Tryz.prog w = .ok (.bool a.isNone) w := fun w a n c n' c' => Lib.run_eql_slice_nil w _ _ a n c n' c' Tryz.underlying23
  go_enter Tryz.func52, Tryz.ntmps52
  go_wp2
  go_ret
  exact ⟨rfl, rfl⟩
set_option maxHeartbeats 2000000 in
theorem cloneSp_zero (a : Addr) (c : Nat) (w : World) : Calls Tryz.prog 52 #[.slice (some a) 0 c] w fun en w' => ∃ v', en = .returned v' ∧ w'.ownsRow w.heap.size 48 2 v' 0 [] ∧ Below w.heap.size w w' := by
  obtain ⟨i0, hi, hz0, hz1, hz2⟩ := sp_info
  have q24 : ∀ (w : World) (a : Option Addr) (n c n' c' : Nat), (binOp .eql 23 (.slice a n c) (.slice none n' c')).run Tryz.prog w = .ok (.bool a.isNone) w := fun w a n c n' c' => Lib.run_eql_slice_nil w _ _ a n c n' c' Tryz.underlying23
  go_enter Tryz.func52, Tryz.ntmps52
  go_wp2_with (at_builtin; refine wpList_append_own _ rfl _ _ 23 rfl w.heap.size 48 i0 (.agg #[.int .i64 0, .int .i64 0]) 2 16 Tryz.underlying23 hi hz0 hz1 hz2 rfl (by decide) _ _ _ rfl (World.ownsRow_made w #[] 0 (Nat.le_refl _) (Nat.zero_le _) rfl) a 0 c [] rfl rfl (by intro j u hj; simp at hj) (by intro u hu; cases hu) (by unfold maxLen; omega) (by omega) (by simp) ?_)
  intro v' w1 hown hgrow hnil
  go_wp2
  go_ret
  refine ⟨v', rfl, by simpa using hown, ?_⟩
  exact ((Below.refl _ w).alloc (Nat.le_refl _) _).grown hgrow (by simp) (by intro k hk; simp [Value.ownBlock] at hk; omega)
theorem cloneSp0_G {H : List Blk} {K : AV → List Blk → Prop} (hK : ∀ nb, K (.os H.length 0) (H ++ [.row 48 nb []])) : CallG Tryz.prog 52 [.rs []] H K :=
  clone0_core (by kernel_rfl) (fun c w => cloneSp_nil c w) (fun a c w => (cloneSp_zero a c w).mono fun en w' ⟨v', h1, h2, h3⟩ => ⟨v', h1, by rw [show Tryz.prog.cellsOf 48 = 2 by kernel_rfl]; exact h2, h3⟩) hK
end Go.Proofs.YtfbpjlabhckoeaaGreat
