/- Sorted alphabets: slices.Clone of strings, Sorted of program and reference. -/
import Derived.Test.YtlcblpofikijmaaStrN
import Derived.Test.YtlcblpofikijmaaSortS
import Derived.Test.YtlcblpofikijmaaAbRen
namespace Go.Proofs.Ytlcblpofikijmaa
set_option linter.unusedSimpArgs false
set_option linter.unusedVariables false
set_option linter.unnecessarySimpa false
set_option linter.unusedSectionVars false
open Go.RowKit
variable [Glob]
set_option maxRecDepth 100000
theorem strs_snoc {l : List ByteArray} {s : ByteArray} : rowsOf strC l ++ [[AV.str s]] = rowsOf strC (l ++ [s]) := by simp [rowsOf, strC]
theorem strs_snoc2 {l : List ByteArray} {s x : ByteArray} : rowsOf strC l ++ [[AV.str s], [AV.str x]] = rowsOf strC (l ++ [s, x]) := by simp [rowsOf, strC]
theorem w_succB {i n : Nat} (h : i < n) (hn : n ≤ 9223372036854775807) : wrapI .i64 ((i : Int) + 1) = (i : Int) + 1 := by rw [wrap_in (by omega) (by omega)]
theorem comp_sortB (l : List ByteArray) : compB (sortB l) = setB l := by
  have h1 : (sortB l).map (·.data.toList) = (l.map (·.data.toList)).mergeSort fun x y => decide (x ≤ y) := sortB_map l
  obtain ⟨a1, a2⟩ := compact_asc (sort_sorted (l.map (·.data.toList)))
  refine asc_uniq ?_ (setB_asc l) fun x => ?_
  · unfold compB ascB
    rw [h1, List.pairwise_map]
    exact a1.imp fun h => by simpa [ltB] using h
  · rw [setB_mem]
    unfold compB
    rw [h1]
    simp only [List.mem_map]
    constructor
    · rintro ⟨y, hy, rfl⟩
      rw [a2, List.mem_mergeSort, List.mem_map] at hy
      obtain ⟨z, hz, rfl⟩ := hy
      have : (⟨z.data.toList.toArray⟩ : ByteArray) = z := ba_eq (by simp)
      rw [this]; exact hz
    · intro hx
      refine ⟨x.data.toList, ?_, ba_eq (by simp)⟩
      rw [a2, List.mem_mergeSort, List.mem_map]
      exact ⟨x, hx, rfl⟩
theorem setB_lenB (l : List ByteArray) : ∀ acc : List ByteArray, (l.foldl insB acc).length ≤ acc.length + l.length := by
  induction l with
  | nil => intro acc; simp
  | cons s r ih =>
    intro acc
    have h1 := ih (insB acc s)
    have h2 : (insB acc s).length ≤ acc.length + 1 := by
      unfold insB
      split
      · omega
      · have : ∀ l : List ByteArray, (insG s l).length = l.length + 1 := by
          intro l
          induction l with
          | nil => rfl
          | cons x q ih => simp only [insG]; split <;> simp [ih]
        rw [this]; omega
    simp only [List.foldl_cons, List.length_cons]; omega
set_option maxHeartbeats 8000000 in
theorem rins_pure (l : List ByteArray) (s : ByteArray) (hl : l.length ≤ 1000000) : Pure Try.prog 58 [.rs (rowsOf strC l), .str s] (.rs (rowsOf strC (insB l s))) := by
  refine pure_of mixed Try.func58 rfl (by kernel_rfl) (of_decide_eq_true rfl) (by kernel_rfl) (vc_run ?_)
  ((try simp -implicitDefEqProofs [-loopQ_n]) <;> (repeat' (first | (refine condD_dec ?_ ?_ <;> (intro hc; (try simp -implicitDefEqProofs [-loopQ_n, hc]))) | (refine guardD_dec ?_ ?_ <;> (intro hc; (try simp -implicitDefEqProofs [-loopQ_n, hc]))) | (refine condD_intro ?_ ?_ <;> (intro hd; have hc := hd; (try simp at hc) <;> (try simp -implicitDefEqProofs [-loopQ_n, hd, hc]))) | (refine guardD_intro ?_ ?_ <;> (intro hd; have hc := hd; (try simp at hc) <;> (try simp -implicitDefEqProofs [-loopQ_n, hd, hc]))) | (refine ldD_ep ?_ ?_; (focus kernel_rfl); (try simp -implicitDefEqProofs [-loopQ_n])))))
  refine loop_intro (σ := Nat × Bool × List ByteArray) (fun x => ⟨[(0, .rs (rowsOf strC l)), (1, .str s), (5, .os 0 x.2.2.length), (6, .bool x.2.1), (7, .int .i64 x.1)], [.row 9 true (rowsOf strC x.2.2)]⟩)
    (fun x => x.1 ≤ l.length ∧ hasB (l.drop x.1) s = hasB l s ∧ x.2.2.length ≤ x.1 + (if x.2.1 = true then 1 else 0) ∧ x.2.2 ++ (if x.2.1 = true then l.drop x.1 else insG s (l.drop x.1)) = insG s l) (fun x => l.length - x.1) (0, false, []) ⟨by simp, by simp, by simp, by simp⟩ ?_ ?_
  · refine weak_of 0 1 rfl rfl ?_ ?_ <;> simp
  · rintro ⟨i, dn, acc⟩ ⟨hi, hH, hL, hR⟩
    simp only at hi hH hL hR
    by_cases h : i < l.length
    · have w1 := w_succB h (by omega)
      obtain ⟨x, hf⟩ : ∃ e, l[i] = e := ⟨_, rfl⟩
      rw [List.drop_eq_getElem_cons h, hf] at hH hR
      have hL2 : acc.length ≤ i + 1 := by split at hL <;> omega
      have hlen : acc.length + 1 ≤ 1073741824 := by omega
      have hlen2 : acc.length + 1 + 1 ≤ 1073741824 := by omega
      have hH2 : ¬ x.toList = s.toList → hasB (l.drop (i + 1)) s = hasB l s := fun q => by
        rw [← hH]
        simp only [hasB, List.any_cons]
        rw [show (x.data.toList == s.data.toList) = false from by rw [← ba_toList, ← ba_toList]; simpa using q]
        simp
      ((try simp -implicitDefEqProofs [-loopQ_n, h, hf, strC, hlen, hlen2]) <;> (repeat' (first | (refine condD_dec ?_ ?_ <;> (intro hc; (try simp -implicitDefEqProofs [-loopQ_n, hc, h, hf, strC, hlen, hlen2]))) | (refine guardD_dec ?_ ?_ <;> (intro hc; (try simp -implicitDefEqProofs [-loopQ_n, hc, h, hf, strC, hlen, hlen2]))) | (refine condD_intro ?_ ?_ <;> (intro hd; have hc := hd; (try simp at hc) <;> (try simp -implicitDefEqProofs [-loopQ_n, hd, hc, h, hf, strC, hlen, hlen2]))) | (refine guardD_intro ?_ ?_ <;> (intro hd; have hc := hd; (try simp at hc) <;> (try simp -implicitDefEqProofs [-loopQ_n, hd, hc, h, hf, strC, hlen, hlen2]))) | (refine ldD_ep ?_ ?_; (focus kernel_rfl); (try simp -implicitDefEqProofs [-loopQ_n, h, hf, strC, hlen, hlen2])))))
      · have : insB l s = l := by
          unfold insB
          rw [if_pos (by rw [← hH]; simp only [hasB, List.any_cons]; rw [← ba_toList, ← ba_toList, ‹x.toList = s.toList›]; simp)]
        rw [this]
      · subst_vars
        refine loop_next (i + 1, true, acc ++ [l[i]]) ⟨by simp only; omega, hH2 ‹_›, by simp; omega, by rw [← hR]; simp⟩ (by simp only; omega) (weak_of 1 0 rfl rfl ?_ ?_) <;> simp [w1, sw_refs, strs_snoc, strs_snoc2]
      · have hlt : Op.bytesLess s.data.toList x.data.toList = true := by
          obtain ⟨q1, q2⟩ := ‹Op.bytesLess x.toList s.toList = false ∧ ¬x.toList = s.toList›
          rw [ba_toList, ba_toList] at q1 q2
          rcases bl_tri x.data.toList s.data.toList with q | q | q
          · rw [q] at q1; cases q1
          · exact absurd q q2
          · exact q
        have hdn : dn = false := ‹_›
        rw [hdn] at hR
        simp only [Bool.false_eq_true, if_false, insG] at hR
        rw [if_pos hlt] at hR
        refine loop_next (i + 1, true, acc ++ [s] ++ [x]) ⟨by simp only; omega, hH2 ‹_›, by rw [hdn] at hL; simp at hL ⊢; omega, by rw [← hR]; simp⟩ (by simp only; omega) (weak_of 1 0 rfl rfl ?_ ?_) <;> simp [w1, sw_refs, strs_snoc, strs_snoc2]
      · have hdn : dn = false := ‹_›
        have hlt : ¬ Op.bytesLess s.data.toList x.data.toList = true := fun q => by
          have q0 := bl_asymm q
          rw [← ba_toList, ← ba_toList] at q0
          exact absurd (‹Op.bytesLess x.toList s.toList = false → x.toList = s.toList› q0) ‹_›
        rw [hdn] at hR
        simp only [Bool.false_eq_true, if_false, insG] at hR
        rw [if_neg hlt] at hR
        refine loop_next (i + 1, false, acc ++ [x]) ⟨by simp only; omega, hH2 ‹_›, by rw [hdn] at hL; simp at hL ⊢; omega, by rw [← hR]; simp⟩ (by simp only; omega) (weak_of 1 0 rfl rfl ?_ ?_) <;> simp [w1, sw_refs, strs_snoc, strs_snoc2]
    · rw [List.drop_eq_nil_of_le (by omega)] at hH hR
      have hno : insB l s = insG s l := by unfold insB; rw [if_neg (by rw [← hH]; simp [hasB])]
      have hlen : acc.length + 1 ≤ 1073741824 := by split at hL <;> omega
      rw [hno]
      ((try simp -implicitDefEqProofs [-loopQ_n, h, hlen, strs_snoc, sw_reify]) <;> (repeat' (first | (refine condD_dec ?_ ?_ <;> (intro hc; (try simp -implicitDefEqProofs [-loopQ_n, hc, h, hlen, strs_snoc, sw_reify]))) | (refine guardD_dec ?_ ?_ <;> (intro hc; (try simp -implicitDefEqProofs [-loopQ_n, hc, h, hlen, strs_snoc, sw_reify]))) | (refine condD_intro ?_ ?_ <;> (intro hd; have hc := hd; (try simp at hc) <;> (try simp -implicitDefEqProofs [-loopQ_n, hd, hc, h, hlen, strs_snoc, sw_reify]))) | (refine guardD_intro ?_ ?_ <;> (intro hd; have hc := hd; (try simp at hc) <;> (try simp -implicitDefEqProofs [-loopQ_n, hd, hc, h, hlen, strs_snoc, sw_reify]))) | (refine ldD_ep ?_ ?_; (focus kernel_rfl); (try simp -implicitDefEqProofs [-loopQ_n, h, hlen, strs_snoc, sw_reify])))))
      · rw [← hR, ‹dn = true›]; simp
      · rw [← hR, ‹dn = false›]; simp [insG]

theorem cloneS_fresh (l : List ByteArray) (h0 : l ≠ []) (hl : l.length ≤ 1073741824) : Fresh Try.prog 30 [.rs (rowsOf strC l)] 9 (rowsOf strC l) := by
  refine fresh_of mixed Try.func30 rfl (by kernel_rfl) (of_decide_eq_true rfl) (by kernel_rfl) (vc_run ?_)
  have h1 : l.isEmpty = false := by cases l <;> simp at h0 ⊢
  simp -implicitDefEqProofs [h1, hl]
  exact rowsOf_owns' fun x c hc => by simp [strC] at hc; subst hc; rfl
theorem e_strC : Try.prog.cellsOf 9 = 1 := by kernel_rfl
theorem cloneS0_G {H : List Blk} {K : AV → List Blk → Prop} (hK : ∀ nb, K (.os H.length 0) (H ++ [.row 9 nb []])) : CallG Try.prog 30 [.rs []] H K := by
  refine ⟨by kernel_rfl, fun w0 w X φ vs hr hl hv => ?_⟩
  obtain ⟨v0, rfl⟩ := one_arg hl
  have hv0 := hv 0 _ v0 rfl rfl
  obtain ⟨A, c, rfl⟩ : ∃ A c, v0 = .slice A 0 c := by
    cases hv0 with
    | ro h =>
      cases h with
      | @rs _ A n cap sz f hn hcap hA hx =>
        have : n = 0 := by simpa using hn.symm
        subst this
        exact ⟨A, cap, rfl⟩
  have hφ : φ H.length = none := by
    cases h : φ H.length with
    | none => rfl
    | some g => have := (hr.own _ g h).2.2; omega
  have hbk : ∀ nb, (H ++ [Blk.row 9 nb []])[H.length]? = some (.row 9 nb []) := fun nb => by simp
  have knil : ∀ w', Below w.heap.size w w' → ∃ v r φ' H', Ending.returned (.slice none 0 0) = .returned v ∧ HR Try.prog w0 X w' φ' H' ∧ Turn w φ H w' φ' H' ∧ RV Try.prog w' X φ' H' r v ∧ K r H' := fun w' hb => by
    refine ⟨_, .os H.length 0, φ, _, rfl, hr_push (hr_below hr hb) _, (turn_below hr hb).trans (turn_push w' φ H _), .os rfl (by simp) (fun e nb rows h => ?_), hK true⟩
    rw [hbk] at h
    simp at h
    obtain ⟨rfl, rfl, rfl⟩ := h
    exact ⟨Nat.le_refl _, fun _ => .inl ⟨rfl, hφ, ⟨none, rfl⟩, rfl⟩⟩
  cases A with
  | none =>
    refine (Try.slices_Clone_string_nil 0 c w).mono ?_
    rintro e w' ⟨rfl, rfl⟩
    exact knil _ (Below.refl _ _)
  | some a =>
    refine (Try.slices_Clone_string_zero a c w).mono ?_
    rintro e w' ⟨v', rfl, hown, _, hb⟩
    rcases hown.2 with ⟨rfl, _⟩ | ⟨g, cap, cur, rfl, hg, hheap, hncap, hcapm, hcs, _⟩
    · exact knil _ hb
    · have hr1 := hr_push hr (.row 9 false [])
      have hT0 := turn_push w φ H (.row 9 false [])
      have hT := turn_new hr1 hb (hbk false) hφ (fun _ _ h => by simp at h) hg
      have hglt : g < w'.heap.size := (Array.getElem?_eq_some_iff.1 hheap).1
      refine ⟨_, .os H.length 0, setφ φ H.length g, _, rfl, ⟨hr.vo, hr.fr.trans (hb.mono hr.fr.size), ext_turn hr1 hT, fun i k hk => ?_, fun i j k hi hj => ?_, fun i b k hi hk => ?_⟩, hT0.trans hT, .os rfl (by simp) (fun e nb rows h => ?_), hK false⟩
      · unfold setφ at hk
        split at hk
        · rename_i e1; simp at hk; subst hk e1
          exact ⟨Nat.le_trans hr.fr.size hg, hglt, by simp⟩
        · have := hr1.own i k hk; have := hb.size; omega
      · unfold setφ at hi hj
        split at hi <;> split at hj
        · subst_vars; rfl
        · simp at hi; subst hi; have := (hr1.own j _ hj).2.1; omega
        · simp at hj; subst hj; have := (hr1.own i _ hi).2.1; omega
        · exact hr.inj i j k hi hj
      · by_cases e1 : i = H.length
        · subst e1
          rw [hbk] at hi
          simp at hi
          subst hi
          simp [setφ] at hk
          subst hk
          exact ⟨cur, hheap, by simp, by simp, fun i j row x v q1 q2 q3 => by simp at q1⟩
        · simp [setφ, e1] at hk
          exact (hr1.blk i b k hi hk).turn hT (hb.block k (hr1.own i k hk).2.1)
      · rw [hbk] at h
        simp at h
        obtain ⟨rfl, rfl, rfl⟩ := h
        exact ⟨Nat.le_refl _, fun _ => .inr ⟨g, cap, cur, by simp [setφ], rfl, hheap, by rw [e_strC]; exact hcs, hcapm, hncap⟩⟩
/-- The alphabet of a list, or an error. -/
def sortedR (l : List ByteArray) : Except Int (List ByteArray) := if namesL l = true then (if 1000 < l.length then .error 5 else if 40 < (setB l).length then .error 5 else .ok (setB l)) else .error 1
def exN (r : Except Int (List ByteArray)) : AV := match r with | .ok l => .tup [.rs (rowsOf strC l), .int .i64 0] | .error e => .tup [.rs [], .int .i64 e]
theorem nms_idx {p : ByteArray → Bool} {l : List ByteArray} {g : Nat} {caps : List AV} (hp : ∀ x ∈ l, Pure Try.prog g (.str x :: caps) (.bool (p x))) (hc : ∀ H k, caps.mapM (reify H (k + 5)) = some caps) (hf : refsL 0 caps = true) (hl : l.length ≤ 9223372036854775807) :
    Pure Try.prog 59 [.rs (rowsOf strC l), .fn g caps] (.int .i64 (idxOf p l)) := by
  refine pure_of mixed Try.func59 rfl (by kernel_rfl) (of_decide_eq_true rfl) (by kernel_rfl) (vc_run ?_)
  simp -implicitDefEqProofs
  refine loop_intro (σ := Nat) (fun i => ⟨[(0, .rs (rowsOf strC l)), (1, .fn g caps), (7, .int .i64 l.length), (8, .int .i64 i)], []⟩) (fun i => i ≤ l.length ∧ allF p (l.take i)) (fun i => l.length - i) 0 ⟨Nat.zero_le _, allF_nil⟩ ?_ ?_
  · refine weak_of 0 0 rfl rfl ?_ ?_ <;> simp [hf]
  · rintro i ⟨hi, hall⟩
    by_cases h : i < l.length
    · simp -implicitDefEqProofs [h, strC]
      have hc8 : ∀ H, caps.mapM (reify H 8) = some caps := fun H => hc H 3
      refine call_intro (hp l[i] (by simp)) (by simp -implicitDefEqProofs [hc8, strC]) (.inl rfl) ?_
      by_cases hpx : p l[i] = true
      · simp -implicitDefEqProofs [hpx]
        exact (idxOf_some p l i h hall hpx).symm
      · have hpx : p l[i] = false := by simpa using hpx
        simp -implicitDefEqProofs [hpx]
        refine ⟨i + 1, ⟨by omega, allF_succ hall h hpx⟩, by omega, weak_of 0 0 rfl rfl ?_ ?_⟩
        · simp [hf]
          exact (wrap_in (by omega) (by omega)).symm
        · simp
    · simp -implicitDefEqProofs [h]
      rw [idxOf_none p l (allF_all hall h)]
theorem nms_any {p : ByteArray → Bool} {l : List ByteArray} {g : Nat} {caps : List AV} (hp : ∀ x ∈ l, Pure Try.prog g (.str x :: caps) (.bool (p x))) (hc : ∀ H k, caps.mapM (reify H (k + 5)) = some caps) (hf : refsL 0 caps = true) (hl : l.length ≤ 9223372036854775807) :
    Pure Try.prog 33 [.rs (rowsOf strC l), .fn g caps] (.bool (l.any p)) := by
  refine pure_of mixed Try.func33 rfl (by kernel_rfl) (of_decide_eq_true rfl) (by kernel_rfl) (vc_run ?_)
  simp -implicitDefEqProofs
  have hc7 : ∀ H, caps.mapM (reify H 7) = some caps := fun H => hc H 2
  refine call_intro (nms_idx hp hc hf hl) (by simp -implicitDefEqProofs [hc7]) (.inl rfl) ?_
  simp -implicitDefEqProofs
  rw [← ge_idxOf]

theorem sorted1_pure (s : ByteArray) : Pure Try.prog 55 [.str s] (.bool (!isNameS s)) := by
  refine pure_of mixed Try.func55 rfl (by kernel_rfl) (of_decide_eq_true rfl) (by kernel_rfl) (vc_run ?_)
  ((try simp -implicitDefEqProofs [-loopQ_n]) <;> (repeat' (first | (refine condD_dec ?_ ?_ <;> (intro hc; (try simp -implicitDefEqProofs [-loopQ_n, hc]))) | (refine guardD_dec ?_ ?_ <;> (intro hc; (try simp -implicitDefEqProofs [-loopQ_n, hc]))) | (refine condD_intro ?_ ?_ <;> (intro hd; have hc := hd; (try simp at hc) <;> (try simp -implicitDefEqProofs [-loopQ_n, hd, hc]))) | (refine guardD_intro ?_ ?_ <;> (intro hd; have hc := hd; (try simp at hc) <;> (try simp -implicitDefEqProofs [-loopQ_n, hd, hc]))) | (refine ldD_ep ?_ ?_; (focus kernel_rfl); (try simp -implicitDefEqProofs [-loopQ_n])) | (refine callS_mk ?_; (try simp -implicitDefEqProofs [-loopQ_n]); (first | refine callS_intro (isName_pure s) (.inl rfl) ?_); (try simp -implicitDefEqProofs [-loopQ_n])))))
set_option maxHeartbeats 8000000 in
theorem nsorted_pure (l : List ByteArray) (hl : l.length ≤ 1000000) : Pure Try.prog 31 [.rs (rowsOf strC l)] (exN (sortedR l)) := by
  have hA := nms_any (p := fun s => !isNameS s) (l := l) (g := 55) (caps := []) (fun x _ => sorted1_pure x) (fun H k => rfl) rfl (by omega)
  rw [show (l.any fun s => !isNameS s) = !namesL l by simp [namesL, List.any_eq_not_all_not]] at hA
  refine pure_of mixed Try.func31 rfl (by kernel_rfl) (of_decide_eq_true rfl) (by kernel_rfl) (vc_run ?_)
  by_cases hN : namesL l = true
  · rw [hN] at hA
    by_cases h1 : 1000 < l.length
    · have h1' : (1000 : Int) < l.length := by omega
      ((try simp -implicitDefEqProofs [-loopQ_n, h1']) <;> (repeat' (first | (refine condD_dec ?_ ?_ <;> (intro hc; (try simp -implicitDefEqProofs [-loopQ_n, hc, h1']))) | (refine guardD_dec ?_ ?_ <;> (intro hc; (try simp -implicitDefEqProofs [-loopQ_n, hc, h1']))) | (refine condD_intro ?_ ?_ <;> (intro hd; have hc := hd; (try simp at hc) <;> (try simp -implicitDefEqProofs [-loopQ_n, hd, hc, h1']))) | (refine guardD_intro ?_ ?_ <;> (intro hd; have hc := hd; (try simp at hc) <;> (try simp -implicitDefEqProofs [-loopQ_n, hd, hc, h1']))) | (refine ldD_ep ?_ ?_; (focus kernel_rfl); (try simp -implicitDefEqProofs [-loopQ_n, h1'])) | (refine callS_mk ?_; (try simp -implicitDefEqProofs [-loopQ_n, h1']); (first | refine callS_intro (hA) (.inl rfl) ?_); (try simp -implicitDefEqProofs [-loopQ_n, h1'])))))
      simp [sortedR, hN, h1, exN]
    have h1' : ¬ (1000 : Int) < l.length := by omega
    by_cases h0 : l = []
    · subst h0
      ((try simp -implicitDefEqProofs [-loopQ_n, rowsOf]) <;> (repeat' (first | (refine condD_dec ?_ ?_ <;> (intro hc; (try simp -implicitDefEqProofs [-loopQ_n, hc, rowsOf]))) | (refine guardD_dec ?_ ?_ <;> (intro hc; (try simp -implicitDefEqProofs [-loopQ_n, hc, rowsOf]))) | (refine condD_intro ?_ ?_ <;> (intro hd; have hc := hd; (try simp at hc) <;> (try simp -implicitDefEqProofs [-loopQ_n, hd, hc, rowsOf]))) | (refine guardD_intro ?_ ?_ <;> (intro hd; have hc := hd; (try simp at hc) <;> (try simp -implicitDefEqProofs [-loopQ_n, hd, hc, rowsOf]))) | (refine ldD_ep ?_ ?_; (focus kernel_rfl); (try simp -implicitDefEqProofs [-loopQ_n, rowsOf])) | (refine callS_mk ?_; (try simp -implicitDefEqProofs [-loopQ_n, rowsOf]); (first | refine callS_intro (hA) (.inl rfl) ?_); (try simp -implicitDefEqProofs [-loopQ_n, rowsOf])))))
      refine callG_intro (cloneS0_G fun nb => ?_)
      ((try simp -implicitDefEqProofs [-loopQ_n, rowsOf]) <;> (repeat' (first | (refine condD_dec ?_ ?_ <;> (intro hc; (try simp -implicitDefEqProofs [-loopQ_n, hc, rowsOf]))) | (refine guardD_dec ?_ ?_ <;> (intro hc; (try simp -implicitDefEqProofs [-loopQ_n, hc, rowsOf]))) | (refine condD_intro ?_ ?_ <;> (intro hd; have hc := hd; (try simp at hc) <;> (try simp -implicitDefEqProofs [-loopQ_n, hd, hc, rowsOf]))) | (refine guardD_intro ?_ ?_ <;> (intro hd; have hc := hd; (try simp at hc) <;> (try simp -implicitDefEqProofs [-loopQ_n, hd, hc, rowsOf]))) | (refine ldD_ep ?_ ?_; (focus kernel_rfl); (try simp -implicitDefEqProofs [-loopQ_n, rowsOf])))))
      refine callG_intro (sort_G (e := 9) (nb := nb) (l := []) (by simp [rowsOf]) rfl e_strC (by simp) ?_)
      ((try simp -implicitDefEqProofs [-loopQ_n, rowsOf]) <;> (repeat' (first | (refine condD_dec ?_ ?_ <;> (intro hc; (try simp -implicitDefEqProofs [-loopQ_n, hc, rowsOf]))) | (refine guardD_dec ?_ ?_ <;> (intro hc; (try simp -implicitDefEqProofs [-loopQ_n, hc, rowsOf]))) | (refine condD_intro ?_ ?_ <;> (intro hd; have hc := hd; (try simp at hc) <;> (try simp -implicitDefEqProofs [-loopQ_n, hd, hc, rowsOf]))) | (refine guardD_intro ?_ ?_ <;> (intro hd; have hc := hd; (try simp at hc) <;> (try simp -implicitDefEqProofs [-loopQ_n, hd, hc, rowsOf]))) | (refine ldD_ep ?_ ?_; (focus kernel_rfl); (try simp -implicitDefEqProofs [-loopQ_n, rowsOf])))))
      refine callG_intro (comp_G (e := 9) (nb := nb) (l := sortB []) (by simp [rowsOf]) (by rw [sortB_len]; rfl) e_strC (by rw [sortB_len]; simp) ?_)
      have hs : setB [] = [] := rfl
      ((try simp -implicitDefEqProofs [-loopQ_n, comp_sortB, hs, rowsOf]) <;> (repeat' (first | (refine condD_dec ?_ ?_ <;> (intro hc; (try simp -implicitDefEqProofs [-loopQ_n, hc, comp_sortB, hs, rowsOf]))) | (refine guardD_dec ?_ ?_ <;> (intro hc; (try simp -implicitDefEqProofs [-loopQ_n, hc, comp_sortB, hs, rowsOf]))) | (refine condD_intro ?_ ?_ <;> (intro hd; have hc := hd; (try simp at hc) <;> (try simp -implicitDefEqProofs [-loopQ_n, hd, hc, comp_sortB, hs, rowsOf]))) | (refine guardD_intro ?_ ?_ <;> (intro hd; have hc := hd; (try simp at hc) <;> (try simp -implicitDefEqProofs [-loopQ_n, hd, hc, comp_sortB, hs, rowsOf]))) | (refine ldD_ep ?_ ?_; (focus kernel_rfl); (try simp -implicitDefEqProofs [-loopQ_n, comp_sortB, hs, rowsOf])))))
      simp [sortedR, hN, exN, hs, rowsOf]
    · have hc := cloneS_fresh l h0 (by omega)
      have hlf : ((rowsOf strC l).all fun r => r.all flat) = true := rowsOf_flat fun x => by simp [strC, flat]
      ((try simp -implicitDefEqProofs [-loopQ_n, h1']) <;> (repeat' (first | (refine condD_dec ?_ ?_ <;> (intro hc; (try simp -implicitDefEqProofs [-loopQ_n, hc, h1']))) | (refine guardD_dec ?_ ?_ <;> (intro hc; (try simp -implicitDefEqProofs [-loopQ_n, hc, h1']))) | (refine condD_intro ?_ ?_ <;> (intro hd; have hc := hd; (try simp at hc) <;> (try simp -implicitDefEqProofs [-loopQ_n, hd, hc, h1']))) | (refine guardD_intro ?_ ?_ <;> (intro hd; have hc := hd; (try simp at hc) <;> (try simp -implicitDefEqProofs [-loopQ_n, hd, hc, h1']))) | (refine ldD_ep ?_ ?_; (focus kernel_rfl); (try simp -implicitDefEqProofs [-loopQ_n, h1'])) | (refine callS_mk ?_; (try simp -implicitDefEqProofs [-loopQ_n, h1']); (first | refine callS_intro (hA) (.inl rfl) ?_); (try simp -implicitDefEqProofs [-loopQ_n, h1'])))))
      refine fresh_intro hc (by simp) (.inl hlf) ?_
      ((try simp -implicitDefEqProofs [-loopQ_n]) <;> (repeat' (first | (refine condD_dec ?_ ?_ <;> (intro hc; (try simp -implicitDefEqProofs [-loopQ_n, hc]))) | (refine guardD_dec ?_ ?_ <;> (intro hc; (try simp -implicitDefEqProofs [-loopQ_n, hc]))) | (refine condD_intro ?_ ?_ <;> (intro hd; have hc := hd; (try simp at hc) <;> (try simp -implicitDefEqProofs [-loopQ_n, hd, hc]))) | (refine guardD_intro ?_ ?_ <;> (intro hd; have hc := hd; (try simp at hc) <;> (try simp -implicitDefEqProofs [-loopQ_n, hd, hc]))) | (refine ldD_ep ?_ ?_; (focus kernel_rfl); (try simp -implicitDefEqProofs [-loopQ_n])))))
      refine callG_intro (sort_G (e := 9) (nb := false) (l := l) (by simp) (by simp) e_strC (by omega) ?_)
      ((try simp -implicitDefEqProofs [-loopQ_n]) <;> (repeat' (first | (refine condD_dec ?_ ?_ <;> (intro hc; (try simp -implicitDefEqProofs [-loopQ_n, hc]))) | (refine guardD_dec ?_ ?_ <;> (intro hc; (try simp -implicitDefEqProofs [-loopQ_n, hc]))) | (refine condD_intro ?_ ?_ <;> (intro hd; have hc := hd; (try simp at hc) <;> (try simp -implicitDefEqProofs [-loopQ_n, hd, hc]))) | (refine guardD_intro ?_ ?_ <;> (intro hd; have hc := hd; (try simp at hc) <;> (try simp -implicitDefEqProofs [-loopQ_n, hd, hc]))) | (refine ldD_ep ?_ ?_; (focus kernel_rfl); (try simp -implicitDefEqProofs [-loopQ_n])))))
      refine callG_intro (comp_G (e := 9) (nb := false) (l := sortB l) (by simp) (by simp [sortB_len]) e_strC (by rw [sortB_len]; omega) ?_)
      by_cases h4 : 40 < (setB l).length
      · have h4' : (40 : Int) < (setB l).length := by omega
        ((try simp -implicitDefEqProofs [-loopQ_n, comp_sortB, h4']) <;> (repeat' (first | (refine condD_dec ?_ ?_ <;> (intro hc; (try simp -implicitDefEqProofs [-loopQ_n, hc, comp_sortB, h4']))) | (refine guardD_dec ?_ ?_ <;> (intro hc; (try simp -implicitDefEqProofs [-loopQ_n, hc, comp_sortB, h4']))) | (refine condD_intro ?_ ?_ <;> (intro hd; have hc := hd; (try simp at hc) <;> (try simp -implicitDefEqProofs [-loopQ_n, hd, hc, comp_sortB, h4']))) | (refine guardD_intro ?_ ?_ <;> (intro hd; have hc := hd; (try simp at hc) <;> (try simp -implicitDefEqProofs [-loopQ_n, hd, hc, comp_sortB, h4']))) | (refine ldD_ep ?_ ?_; (focus kernel_rfl); (try simp -implicitDefEqProofs [-loopQ_n, comp_sortB, h4'])))))
        simp [sortedR, hN, h1, h4, exN]
      · have h4' : ¬ (40 : Int) < (setB l).length := by omega
        ((try simp -implicitDefEqProofs [-loopQ_n, comp_sortB, h4', sw_reify]) <;> (repeat' (first | (refine condD_dec ?_ ?_ <;> (intro hc; (try simp -implicitDefEqProofs [-loopQ_n, hc, comp_sortB, h4', sw_reify]))) | (refine guardD_dec ?_ ?_ <;> (intro hc; (try simp -implicitDefEqProofs [-loopQ_n, hc, comp_sortB, h4', sw_reify]))) | (refine condD_intro ?_ ?_ <;> (intro hd; have hc := hd; (try simp at hc) <;> (try simp -implicitDefEqProofs [-loopQ_n, hd, hc, comp_sortB, h4', sw_reify]))) | (refine guardD_intro ?_ ?_ <;> (intro hd; have hc := hd; (try simp at hc) <;> (try simp -implicitDefEqProofs [-loopQ_n, hd, hc, comp_sortB, h4', sw_reify]))) | (refine ldD_ep ?_ ?_; (focus kernel_rfl); (try simp -implicitDefEqProofs [-loopQ_n, comp_sortB, h4', sw_reify])))))
        simp [sortedR, hN, h1, h4, exN]
  · have hN : namesL l = false := by simpa using hN
    rw [hN] at hA
    ((try simp -implicitDefEqProofs [-loopQ_n]) <;> (repeat' (first | (refine condD_dec ?_ ?_ <;> (intro hc; (try simp -implicitDefEqProofs [-loopQ_n, hc]))) | (refine guardD_dec ?_ ?_ <;> (intro hc; (try simp -implicitDefEqProofs [-loopQ_n, hc]))) | (refine condD_intro ?_ ?_ <;> (intro hd; have hc := hd; (try simp at hc) <;> (try simp -implicitDefEqProofs [-loopQ_n, hd, hc]))) | (refine guardD_intro ?_ ?_ <;> (intro hd; have hc := hd; (try simp at hc) <;> (try simp -implicitDefEqProofs [-loopQ_n, hd, hc]))) | (refine ldD_ep ?_ ?_; (focus kernel_rfl); (try simp -implicitDefEqProofs [-loopQ_n])) | (refine callS_mk ?_; (try simp -implicitDefEqProofs [-loopQ_n]); (first | refine callS_intro (hA) (.inl rfl) ?_); (try simp -implicitDefEqProofs [-loopQ_n])))))
    simp [sortedR, hN, exN]
set_option maxHeartbeats 8000000 in
theorem rsorted_pure (l : List ByteArray) (hl : l.length ≤ 1000000) : Pure Try.prog 32 [.rs (rowsOf strC l)] (exN (sortedR l)) := by
  refine pure_of mixed Try.func32 rfl (by kernel_rfl) (of_decide_eq_true rfl) (by kernel_rfl) (vc_run ?_)
  by_cases hN : namesL l = true
  · by_cases h1 : 1000 < l.length
    · have h1' : (1000 : Int) < l.length := by omega
      ((try simp -implicitDefEqProofs [-loopQ_n, hN, h1']) <;> (repeat' (first | (refine condD_dec ?_ ?_ <;> (intro hc; (try simp -implicitDefEqProofs [-loopQ_n, hc, hN, h1']))) | (refine guardD_dec ?_ ?_ <;> (intro hc; (try simp -implicitDefEqProofs [-loopQ_n, hc, hN, h1']))) | (refine condD_intro ?_ ?_ <;> (intro hd; have hc := hd; (try simp at hc) <;> (try simp -implicitDefEqProofs [-loopQ_n, hd, hc, hN, h1']))) | (refine guardD_intro ?_ ?_ <;> (intro hd; have hc := hd; (try simp at hc) <;> (try simp -implicitDefEqProofs [-loopQ_n, hd, hc, hN, h1']))) | (refine ldD_ep ?_ ?_; (focus kernel_rfl); (try simp -implicitDefEqProofs [-loopQ_n, hN, h1'])) | (refine callS_mk ?_; (try simp -implicitDefEqProofs [-loopQ_n, hN, h1']); (first | refine callS_intro (rnames_pure l (by omega)) (.inl rfl) ?_); (try simp -implicitDefEqProofs [-loopQ_n, hN, h1'])))))
      simp [sortedR, hN, h1, exN]
    have h1' : ¬ (1000 : Int) < l.length := by omega
    ((try simp -implicitDefEqProofs [-loopQ_n, hN, h1']) <;> (repeat' (first | (refine condD_dec ?_ ?_ <;> (intro hc; (try simp -implicitDefEqProofs [-loopQ_n, hc, hN, h1']))) | (refine guardD_dec ?_ ?_ <;> (intro hc; (try simp -implicitDefEqProofs [-loopQ_n, hc, hN, h1']))) | (refine condD_intro ?_ ?_ <;> (intro hd; have hc := hd; (try simp at hc) <;> (try simp -implicitDefEqProofs [-loopQ_n, hd, hc, hN, h1']))) | (refine guardD_intro ?_ ?_ <;> (intro hd; have hc := hd; (try simp at hc) <;> (try simp -implicitDefEqProofs [-loopQ_n, hd, hc, hN, h1']))) | (refine ldD_ep ?_ ?_; (focus kernel_rfl); (try simp -implicitDefEqProofs [-loopQ_n, hN, h1'])) | (refine callS_mk ?_; (try simp -implicitDefEqProofs [-loopQ_n, hN, h1']); (first | refine callS_intro (rnames_pure l (by omega)) (.inl rfl) ?_); (try simp -implicitDefEqProofs [-loopQ_n, hN, h1'])))))
    refine loop_intro (σ := Nat × List ByteArray) (fun x => ⟨[(0, .rs (rowsOf strC l)), (4, .rs (rowsOf strC x.2)), (5, .int .i64 x.1)], []⟩) (fun x => x.1 ≤ l.length ∧ x.2.length ≤ x.1 ∧ (l.drop x.1).foldl insB x.2 = setB l) (fun x => l.length - x.1) (0, []) ⟨by simp, by simp, rfl⟩ ?_ ?_
    · refine weak_of 0 0 rfl rfl ?_ ?_ <;> simp [rowsOf]
    rintro ⟨i, acc⟩ ⟨hi, hal, hR⟩
    simp only at hi hal hR
    by_cases h : i < l.length
    · have w1 := w_succB h (by omega)
      rw [List.drop_eq_getElem_cons h, List.foldl_cons] at hR
      have hlen := setB_lenB [l[i]] acc
      simp only [List.foldl_cons, List.foldl_nil, List.length_singleton] at hlen
      ((try simp -implicitDefEqProofs [-loopQ_n, h, w1, strC]) <;> (repeat' (first | (refine condD_dec ?_ ?_ <;> (intro hc; (try simp -implicitDefEqProofs [-loopQ_n, hc, h, w1, strC]))) | (refine guardD_dec ?_ ?_ <;> (intro hc; (try simp -implicitDefEqProofs [-loopQ_n, hc, h, w1, strC]))) | (refine condD_intro ?_ ?_ <;> (intro hd; have hc := hd; (try simp at hc) <;> (try simp -implicitDefEqProofs [-loopQ_n, hd, hc, h, w1, strC]))) | (refine guardD_intro ?_ ?_ <;> (intro hd; have hc := hd; (try simp at hc) <;> (try simp -implicitDefEqProofs [-loopQ_n, hd, hc, h, w1, strC]))) | (refine ldD_ep ?_ ?_; (focus kernel_rfl); (try simp -implicitDefEqProofs [-loopQ_n, h, w1, strC])) | (refine callS_mk ?_; (try simp -implicitDefEqProofs [-loopQ_n, h, w1, strC]); (first | refine callS_intro (rins_pure acc l[i] (by omega)) (.inr ⟨rfl, rfl⟩) ?_); (try simp -implicitDefEqProofs [-loopQ_n, h, w1, strC])))))
      refine loop_next (i + 1, insB acc l[i]) ⟨h, by simp only; omega, by simpa using hR⟩ (by simp only; omega) (weak_of 0 0 rfl rfl ?_ ?_) <;> simp
    · rw [List.drop_eq_nil_of_le (by omega), List.foldl_nil] at hR
      subst hR
      by_cases h4 : 40 < (setB l).length
      · have h4' : (40 : Int) < (setB l).length := by omega
        ((try simp -implicitDefEqProofs [-loopQ_n, h, h4']) <;> (repeat' (first | (refine condD_dec ?_ ?_ <;> (intro hc; (try simp -implicitDefEqProofs [-loopQ_n, hc, h, h4']))) | (refine guardD_dec ?_ ?_ <;> (intro hc; (try simp -implicitDefEqProofs [-loopQ_n, hc, h, h4']))) | (refine condD_intro ?_ ?_ <;> (intro hd; have hc := hd; (try simp at hc) <;> (try simp -implicitDefEqProofs [-loopQ_n, hd, hc, h, h4']))) | (refine guardD_intro ?_ ?_ <;> (intro hd; have hc := hd; (try simp at hc) <;> (try simp -implicitDefEqProofs [-loopQ_n, hd, hc, h, h4']))) | (refine ldD_ep ?_ ?_; (focus kernel_rfl); (try simp -implicitDefEqProofs [-loopQ_n, h, h4'])))))
        simp [sortedR, hN, h1, h4, exN]
      · have h4' : ¬ (40 : Int) < (setB l).length := by omega
        ((try simp -implicitDefEqProofs [-loopQ_n, h, h4']) <;> (repeat' (first | (refine condD_dec ?_ ?_ <;> (intro hc; (try simp -implicitDefEqProofs [-loopQ_n, hc, h, h4']))) | (refine guardD_dec ?_ ?_ <;> (intro hc; (try simp -implicitDefEqProofs [-loopQ_n, hc, h, h4']))) | (refine condD_intro ?_ ?_ <;> (intro hd; have hc := hd; (try simp at hc) <;> (try simp -implicitDefEqProofs [-loopQ_n, hd, hc, h, h4']))) | (refine guardD_intro ?_ ?_ <;> (intro hd; have hc := hd; (try simp at hc) <;> (try simp -implicitDefEqProofs [-loopQ_n, hd, hc, h, h4']))) | (refine ldD_ep ?_ ?_; (focus kernel_rfl); (try simp -implicitDefEqProofs [-loopQ_n, h, h4'])))))
        simp [sortedR, hN, h1, h4, exN]
  · have hN : namesL l = false := by simpa using hN
    ((try simp -implicitDefEqProofs [-loopQ_n, hN]) <;> (repeat' (first | (refine condD_dec ?_ ?_ <;> (intro hc; (try simp -implicitDefEqProofs [-loopQ_n, hc, hN]))) | (refine guardD_dec ?_ ?_ <;> (intro hc; (try simp -implicitDefEqProofs [-loopQ_n, hc, hN]))) | (refine condD_intro ?_ ?_ <;> (intro hd; have hc := hd; (try simp at hc) <;> (try simp -implicitDefEqProofs [-loopQ_n, hd, hc, hN]))) | (refine guardD_intro ?_ ?_ <;> (intro hd; have hc := hd; (try simp at hc) <;> (try simp -implicitDefEqProofs [-loopQ_n, hd, hc, hN]))) | (refine ldD_ep ?_ ?_; (focus kernel_rfl); (try simp -implicitDefEqProofs [-loopQ_n, hN])) | (refine callS_mk ?_; (try simp -implicitDefEqProofs [-loopQ_n, hN]); (first | refine callS_intro (rnames_pure l (by omega)) (.inl rfl) ?_); (try simp -implicitDefEqProofs [-loopQ_n, hN])))))
    simp [sortedR, hN, exN]
end Go.Proofs.Ytlcblpofikijmaa
