/- Suppress of the program, walked. -/
import Derived.Test.YtkppfaennogcmaaPrwE
import Derived.Test.YtkppfaennogcmaaM5
import Derived.Test.YtkppfaennogcmaaPrw3
import Derived.Test.YtkppfaennogcmaaM4
import Derived.Test.YtkppfaennogcmaaAbMv
namespace Go.Proofs.Ytkppfaennogcmaa
set_option linter.unusedSimpArgs false
set_option linter.unusedVariables false
set_option linter.unnecessarySimpa false
set_option linter.unusedSectionVars false
open Go.RowKit Go.Sort Go.Shelf
variable [Glob]
set_option maxRecDepth 100000
theorem nm_size {w : Wo} (h : nmW w) : ∀ s ∈ w, s.size ≤ 1000 := fun s hs => by
  have := h s hs
  unfold isNameS at this
  simp only [Bool.and_eq_true, decide_eq_true_eq] at this
  omega
theorem sumN_le : ∀ x : List Wd, (∀ v ∈ x, wdG v) → sumN x ≤ (x.length : Int) * 1048576 := by
  intro x
  induction x with
  | nil => intro _; simp [sumN]
  | cons v r ih =>
    intro h
    have := ih fun y hy => h y (by simp [hy])
    have := (h v (by simp)).2.2.1
    simp only [sumN, List.length_cons]; omega
theorem add_G {bs : Bs} {w : Wo} {n : Int} {K : AV → List Blk → Prop} (hw : w.length ≤ 200) (hn : nmW w) (n0 : 0 ≤ n) (n1 : n ≤ 1099511627776) (hl : ∀ v ∈ lvB bs w.length, nmW v.acts ∧ 0 ≤ v.n ∧ v.n ≤ 1099511627776) (hK : K (.tup []) (memS (addS bs w n))) :
    CallG Try.prog 50 [.rs (rowsOf strC w), .int .i64 n, .op 1 0] (memS bs) K :=
  callG_mono (add_mem hw hn (nm_size hn) n0 n1 hl) fun r H' h => by rw [h.1, h.2]; exact hK
def Bd (bs : Bs) (M : Nat) (B : Int) : Prop := ∀ j, j < M → ∀ v ∈ lvB bs j, nmW v.acts ∧ 0 ≤ v.n ∧ v.n ≤ B
theorem bd_add {bs : Bs} {M : Nat} {B c : Int} {w : Wo} {n : Int} (h : Bd bs M B) (hw : nmW w) (n0 : 0 ≤ n) (hB : 0 ≤ B) (hn : n ≤ c) : Bd (addS bs w n) M (B + c) := fun j hj v hv => by
  rw [lv_addS] at hv
  split at hv
  · rename_i e
    rw [e] at hj
    rcases mem_aW _ v hv with ⟨h1, h2⟩ | h1
    · rw [h1]
      refine ⟨hw, ?_⟩
      rcases h2 with h2 | ⟨x, hx, _, h2⟩
      · omega
      · have := h _ hj x hx; omega
    · have := h _ hj v h1
      exact ⟨this.1, by omega, by omega⟩
  · have := h _ hj v hv
    exact ⟨this.1, by omega, by omega⟩
theorem bd_add1 {bs : Bs} {i : Nat} {w : Wo} {n : Int} (h : Bd bs 201 (1048576 * (i : Int))) (hw : nmW w) (n0 : 0 ≤ n) (hn : n ≤ 1048576) : Bd (addS bs w n) 201 (1048576 * ((i + 1 : Nat) : Int)) := by
  have := bd_add h hw n0 (by omega) hn
  have e : (1048576 : Int) * (i : Int) + 1048576 = 1048576 * ((i + 1 : Nat) : Int) := by omega
  rwa [e] at this
theorem bd_cln {ks : List Nat} {bs : Bs} {M : Nat} {B : Int} (h : Bd bs M B) : Bd (cln ks bs) M B := fun j hj v hv => by rw [cln_lv] at hv; exact h j hj v hv
theorem bd_ot {bs : Bs} {b : Blk} {M : Nat} {B : Int} (h : Bd bs M B) : Bd (bs ++ [.ot b]) M B := fun j hj v hv => by rw [lvB_ot] at hv; exact h j hj v hv
theorem weak_cln {X : Bs} {ks : List Nat} {T T' : List (Nat × AV)} (hT : cvT (2 + X.length) 0 T T') (hk : ∀ i ∈ ks, ∀ b, X[i]? = some (.ot b) → cvB (2 + X.length) 0 b b) : Weak Try.prog 0 ⟨T, memS X⟩ ⟨T', memS (cln ks X)⟩ :=
  weak_of (2 + X.length) 0 (by simp [memS_len, cln_len]) (by simp [memS_len, cln_len]) hT (mem_cln (Nat.le_refl _) hk)
theorem lv_round {ks : List Nat} {bs : Bs} {b : Blk} {v : Wd} : lvB (cln ks (addS (bs ++ [.ot b]) v.acts v.n)) = addL (lvB bs) v := by
  have e : lvB (bs ++ [.ot b]) = lvB bs := funext fun j => lvB_ot
  rw [← e, ← lv_addS']
  funext j
  rw [cln_lv]
/-- The slice that is put out. -/
def oI (id : Nat) (o : List Wd) : AV := if o = [] then .nils else .os id o.length
theorem oI_refs {id m : Nat} {o : List Wd} (h : id < m) : refs m (oI id o) = true := by unfold oI; split <;> simp [refs, h]
structure Inv2 (k : Int) (O : List Wd) (T : Int) (m : Nat) (bs : Bs) (o : List Wd) (id : Nat) (ws out : List Wd) : Prop where
  le : m ≤ 201
  nm : ∀ j, j < m → ∀ v ∈ lvB bs j, nmW v.acts
  rel : RelS m ws out (lvB bs) o
  eq : supN k m ws out = O
  len : ws.length + out.length ≤ 300
  sum : sumN ws + sumN out ≤ T
  oko : okO m k o
  oln : lnW o
  blk : OutB bs o id
theorem inv_step {k : Int} {O : List Wd} {T : Int} {m id id1 : Nat} {bs X : Bs} {o ws out p o1 : List Wd} (h : Inv2 k O T (m + 1) bs o id ws out) (hp : p.Perm (lvB bs m)) (hlv : ∀ j, j < m → lvB X j = (runP m k p (lvB bs, o)).1 j)
    (ho : o1 = (runP m k p (lvB bs, o)).2) (hnm : ∀ j, j < m → ∀ v ∈ lvB X j, nmW v.acts) (hb : OutB X o1 id1) : Inv2 k O T m (cln (kO o1 id1) X) o1 id1 (supL m k ws out).1 (supL m k ws out).2 := by
  have hs := supL_ok (m := m) (k := k) h.rel.pos h.rel.posO
  have := h.len
  have := h.sum
  have := h.le
  have h7 := h.eq
  simp only [supN] at h7
  refine ⟨by omega, fun j hj v hv => hnm j hj v (by rwa [cln_lv] at hv), ?_, h7, by omega, by omega, ?_, ?_, outB_cln hb fun i hi => hi⟩
  · rw [ho]
    exact (h.rel.step (k := k) hp).congr fun j hj => cln_lv.trans (hlv j hj)
  · rw [ho]; exact okO_step h.rel h.oko hp
  · rw [ho, runP_out]
    intro v hv
    rcases List.mem_append.1 hv with hv | hv
    · exact h.oln v hv
    · have h1 := h.rel.le (j := m) (by omega) (hp.mem_iff.1 (List.mem_filter.1 hv).1)
      exact ⟨h1.2.1, by omega⟩
theorem oI_nil {id : Nat} : oI id [] = .nils := rfl
theorem oI_ne {id : Nat} {o : List Wd} (h : o ≠ []) : oI id o = .os id o.length := if_neg h
theorem oI_one {id : Nat} {v : Wd} : oI id [v] = .os id 1 := rfl
theorem oI_snoc {id : Nat} {o : List Wd} {v : Wd} : oI id (o ++ [v]) = .os id (o.length + 1) := by unfold oI; rw [if_neg (by simp)]; simp
theorem oI_ref {X : Bs} {o : List Wd} {id : Nat} (h : OutB X o id) : refs (2 + X.length) (oI (2 + id) o) = true := by
  by_cases ho : o = []
  · rw [ho]; rfl
  · obtain ⟨nb, hb⟩ := h ho
    have := (List.getElem?_eq_some_iff.1 hb).1
    exact oI_refs (by omega)
theorem MidS.weak {k : Int} {m q q2 : Nat} {E o : List Wd} {f : Lv} {X : Bs} {seen : List Nat} {o1 : List Wd} {id1 : Nat} (h : MidS k m q q2 E f o X seen o1 id1) {T T' : List (Nat × AV)} (hT : cvT (2 + X.length) 0 T T') :
    Weak Try.prog 0 ⟨T, memS X⟩ ⟨T', memS (cln (q2 :: kO o1 id1) X)⟩ := weak_cln hT h.keep
theorem entF_idx {p : Wd → Bool} {l : List Wd} {g : Nat} {caps : List AV} (hp : ∀ x ∈ l, Pure Try.prog g (.agg (wdC x) :: caps) (.bool (p x))) (hc : ∀ H k, caps.mapM (reify H (k + 5)) = some caps) (hf : refsL 0 caps = true) (hl : l.length ≤ 9223372036854775807) :
    Pure Try.prog 89 [.rs (rowsOf wdC l), .fn g caps] (.int .i64 (idxOf p l)) := by
  refine pure_of mixed Try.func89 rfl (by kernel_rfl) (of_decide_eq_true rfl) (by kernel_rfl) (vc_run ?_)
  simp -implicitDefEqProofs
  refine loop_intro (σ := Nat) (fun i => ⟨[(0, .rs (rowsOf wdC l)), (1, .fn g caps), (7, .int .i64 l.length), (8, .int .i64 i)], []⟩) (fun i => i ≤ l.length ∧ allF p (l.take i)) (fun i => l.length - i) 0 ⟨Nat.zero_le _, allF_nil⟩ ?_ ?_
  · refine weak_of 0 0 rfl rfl ?_ ?_ <;> simp [hf]
  · rintro i ⟨hi, hall⟩
    by_cases h : i < l.length
    · simp -implicitDefEqProofs [h, wdC]
      have hc8 : ∀ H, caps.mapM (reify H 8) = some caps := fun H => hc H 3
      refine call_intro (hp l[i] (by simp)) (by simp -implicitDefEqProofs [hc8, wdC]) (.inl rfl) ?_
      by_cases hpx : p l[i] = true
      · simp -implicitDefEqProofs [hpx]
        exact (idxOf_some p l i h hall hpx).symm
      · have hpx : p l[i] = false := by simpa using hpx
        simp -implicitDefEqProofs [hpx]
        refine ⟨i + 1, ⟨by omega, allF_succ hall h hpx⟩, by omega, weak_of 0 0 rfl rfl ?_ ?_⟩
        · simp [hf]
          exact (wrap_in (by omega) (by omega)).symm
        · simp
    · simp -implicitDefEqProofs [h]
      rw [idxOf_none p l (allF_all hall h)]
theorem entF_any {p : Wd → Bool} {l : List Wd} {g : Nat} {caps : List AV} (hp : ∀ x ∈ l, Pure Try.prog g (.agg (wdC x) :: caps) (.bool (p x))) (hc : ∀ H k, caps.mapM (reify H (k + 5)) = some caps) (hf : refsL 0 caps = true) (hl : l.length ≤ 9223372036854775807) :
    Pure Try.prog 52 [.rs (rowsOf wdC l), .fn g caps] (.bool (l.any p)) := by
  refine pure_of mixed Try.func52 rfl (by kernel_rfl) (of_decide_eq_true rfl) (by kernel_rfl) (vc_run ?_)
  simp -implicitDefEqProofs
  have hc7 : ∀ H, caps.mapM (reify H 7) = some caps := fun H => hc H 2
  refine call_intro (entF_idx hp hc hf hl) (by simp -implicitDefEqProofs [hc7]) (.inl rfl) ?_
  simp -implicitDefEqProofs
  rw [← ge_idxOf]

theorem sup2_pure (v : Wd) : Pure Try.prog 53 [.agg (wdC v)] (.bool (decide (1048576 < v.n))) := by
  obtain ⟨A, n⟩ := v
  refine pure_of mixed Try.func53 rfl (by kernel_rfl) (of_decide_eq_true rfl) (by kernel_rfl) (vc_run ?_)
  ((try simp -implicitDefEqProofs [-loopQ_n, wdC]) <;> (repeat' (first | (refine condD_dec ?_ ?_ <;> (intro hc; (try simp -implicitDefEqProofs [-loopQ_n, hc, wdC]))) | (refine guardD_dec ?_ ?_ <;> (intro hc; (try simp -implicitDefEqProofs [-loopQ_n, hc, wdC]))) | (refine condD_intro ?_ ?_ <;> (intro hd; have hc := hd; (try simp at hc) <;> (try simp -implicitDefEqProofs [-loopQ_n, hd, hc, wdC]))) | (refine guardD_intro ?_ ?_ <;> (intro hd; have hc := hd; (try simp at hc) <;> (try simp -implicitDefEqProofs [-loopQ_n, hd, hc, wdC]))) | (refine ldD_ep ?_ ?_; (focus kernel_rfl); (try simp -implicitDefEqProofs [-loopQ_n, wdC])))))
/-- The reference's check of what it publishes is that of the numbers alone. -/
theorem validW_big {O : List Wd} (h : ascW O) (hl : lnW O) (hn : strI (fun s => isNameS s = true) O) : validW O = !O.any fun v => decide (1048576 < v.n) := by
  have key : ∀ i (hi : i < O.length), badW O i = decide (1048576 < O[i].n) := fun i hi => by
    have h1 := hl O[i] (List.getElem_mem hi)
    have h2 : namesL O[i].acts = true := by
      unfold namesL
      exact List.all_eq_true.2 fun s hs => hn O[i] (List.getElem_mem hi) s hs
    have h3 : (decide (0 < i) && decide (0 ≤ cmpL (wat O (i - 1)).acts (wat O i).acts)) = false := by
      by_cases h0 : 0 < i
      · have h4 := List.pairwise_iff_getElem.1 h (i - 1) i (by omega) hi (by omega)
        rw [wat_get hi, wat_get (by omega)]
        simp; intro _; omega
      · simp [h0]
    unfold badW
    rw [h3, wat_get hi, h2]
    have h5 : decide (200 < O[i].acts.length) = false := by simp; omega
    have h6 : decide (O[i].n < 1) = false := by simp; omega
    rw [h5, h6]
    simp
  unfold validW
  rw [Bool.eq_iff_iff, List.all_eq_true, Bool.not_eq_true', List.any_eq_false]
  constructor
  · intro hA v hv
    obtain ⟨i, hi, rfl⟩ := List.getElem_of_mem hv
    have := hA i (List.mem_range.2 hi)
    rw [key i hi] at this
    simpa using this
  · intro hA i hi
    have hi := List.mem_range.1 hi
    rw [key i hi]
    have := hA O[i] (List.getElem_mem hi)
    simpa using this
theorem nm_addAll : ∀ (l : List Wd) (f : Lv), (∀ v ∈ l, nmW v.acts) → (∀ j, ∀ v ∈ f j, nmW v.acts) → ∀ j, ∀ v ∈ addAll l f j, nmW v.acts := by
  intro l
  induction l with
  | nil => intro f _ h; exact h
  | cons x r ih =>
    intro f hl hf
    refine ih _ (fun v hv => hl v (by simp [hv])) fun j v hv => ?_
    unfold addL updL at hv
    split at hv
    · rcases mem_aW _ v hv with ⟨h1, _⟩ | h1
      · rw [h1]; exact hl x (by simp)
      · exact hf _ v h1
    · exact hf j v hv
set_option maxHeartbeats 16000000 in
theorem sup_pure (l : List Wd) (k : Int) (hl : l.length ≤ 300) (hw : ∀ v ∈ l, wdI v) : Pure Try.prog 15 [.rs (rowsOf wdC l), .int .i64 k] (supV (supR l k)) := by
  have h1 := variants_pure l hl
  have h2 := right_pure l hl hw
  have h3 := entry_pure k
  cases v1 : validW l with
  | false =>
    have hR : supR l k = ([], 1) := by unfold supR; rw [if_pos v1]
    rw [hR]
    rw [v1] at h2
    refine pure_D [22] [] mixed Try.func15 rfl (by kernel_rfl) (of_decide_eq_true rfl) (by kernel_rfl) (vc_run ?_)
    ((try simp -implicitDefEqProofs [-loopQ_n, supV, rowsOf]) <;> (repeat' (first | (refine condD_dec ?_ ?_ <;> (intro hc; (try simp -implicitDefEqProofs [-loopQ_n, hc, supV, rowsOf]))) | (refine guardD_dec ?_ ?_ <;> (intro hc; (try simp -implicitDefEqProofs [-loopQ_n, hc, supV, rowsOf]))) | (refine condD_intro ?_ ?_ <;> (intro hd; have hc := hd; (try simp at hc) <;> (try simp -implicitDefEqProofs [-loopQ_n, hd, hc, supV, rowsOf]))) | (refine guardD_intro ?_ ?_ <;> (intro hd; have hc := hd; (try simp at hc) <;> (try simp -implicitDefEqProofs [-loopQ_n, hd, hc, supV, rowsOf]))) | (refine ldD_ep ?_ ?_; (focus kernel_rfl); (try simp -implicitDefEqProofs [-loopQ_n, supV, rowsOf])) | (refine callS_mk ?_; (try simp -implicitDefEqProofs [-loopQ_n, supV, rowsOf]); (first | refine callS_intro (h1) (.inr ⟨rfl, rfl⟩) ?_ | refine callS_intro (h2) (.inl rfl) ?_); (try simp -implicitDefEqProofs [-loopQ_n, supV, rowsOf])))))
  | true =>
  rw [v1] at h2
  by_cases ke : 1 ≤ k ∧ k ≤ 1048576
  rotate_left
  · have hR : supR l k = ([], 2) := by unfold supR; rw [if_neg (by rw [v1]; simp), if_pos ke]
    rw [hR]
    rw [decide_eq_false ke] at h3
    refine pure_D [22] [] mixed Try.func15 rfl (by kernel_rfl) (of_decide_eq_true rfl) (by kernel_rfl) (vc_run ?_)
    ((try simp -implicitDefEqProofs [-loopQ_n, supV, rowsOf]) <;> (repeat' (first | (refine condD_dec ?_ ?_ <;> (intro hc; (try simp -implicitDefEqProofs [-loopQ_n, hc, supV, rowsOf]))) | (refine guardD_dec ?_ ?_ <;> (intro hc; (try simp -implicitDefEqProofs [-loopQ_n, hc, supV, rowsOf]))) | (refine condD_intro ?_ ?_ <;> (intro hd; have hc := hd; (try simp at hc) <;> (try simp -implicitDefEqProofs [-loopQ_n, hd, hc, supV, rowsOf]))) | (refine guardD_intro ?_ ?_ <;> (intro hd; have hc := hd; (try simp at hc) <;> (try simp -implicitDefEqProofs [-loopQ_n, hd, hc, supV, rowsOf]))) | (refine ldD_ep ?_ ?_; (focus kernel_rfl); (try simp -implicitDefEqProofs [-loopQ_n, supV, rowsOf])) | (refine callS_mk ?_; (try simp -implicitDefEqProofs [-loopQ_n, supV, rowsOf]); (first | refine callS_intro (h1) (.inr ⟨rfl, rfl⟩) ?_ | refine callS_intro (h2) (.inl rfl) ?_ | refine callS_intro (h3) (.inl rfl) ?_); (try simp -implicitDefEqProofs [-loopQ_n, supV, rowsOf])))))
  rw [decide_eq_true ke] at h3
  have gL := validW_good v1
  have lL : lnW l := fun v hv => ⟨(gL v hv).2.1, (gL v hv).1⟩
  obtain ⟨T, hT⟩ : ∃ T, sumN l = T := ⟨_, rfl⟩
  have hTb : T ≤ 314572800 := by have := sumN_le l gL; omega
  obtain ⟨O, hO⟩ : ∃ O, supN k 201 l [] = O := ⟨_, rfl⟩
  have hR : supR l k = if validW O = false then ([], 5) else (O, 0) := by unfold supR; rw [if_neg (by rw [v1]; simp), if_neg (by simpa using ke), hO]
  have hrel := rel_start v1
  have hlw : ∀ j, j < 201 → ∀ v ∈ addAll l (fun _ => []) j, nmW v.acts := fun j _ => nm_addAll l _ (fun v hv => (gL v hv).2.2.2) (by simp) j
  obtain ⟨F, hF⟩ : ∃ F, addAll l (fun _ => []) = F := ⟨_, rfl⟩
  rw [hF] at hrel hlw
  rw [hR]
  clear hR
  refine pure_D [22] [] mixed Try.func15 rfl (by kernel_rfl) (of_decide_eq_true rfl) (by kernel_rfl) (vc_run ?_)
  ((try simp -implicitDefEqProofs [-loopQ_n]) <;> (repeat' (first | (refine condD_dec ?_ ?_ <;> (intro hc; (try simp -implicitDefEqProofs [-loopQ_n, hc]))) | (refine guardD_dec ?_ ?_ <;> (intro hc; (try simp -implicitDefEqProofs [-loopQ_n, hc]))) | (refine condD_intro ?_ ?_ <;> (intro hd; have hc := hd; (try simp at hc) <;> (try simp -implicitDefEqProofs [-loopQ_n, hd, hc]))) | (refine guardD_intro ?_ ?_ <;> (intro hd; have hc := hd; (try simp at hc) <;> (try simp -implicitDefEqProofs [-loopQ_n, hd, hc]))) | (refine ldD_ep ?_ ?_; (focus kernel_rfl); (try simp -implicitDefEqProofs [-loopQ_n])) | (refine callS_mk ?_; (try simp -implicitDefEqProofs [-loopQ_n]); (first | refine callS_intro (h1) (.inr ⟨rfl, rfl⟩) ?_ | refine callS_intro (h2) (.inl rfl) ?_ | refine callS_intro (h3) (.inl rfl) ?_); (try simp -implicitDefEqProofs [-loopQ_n])))))
  refine loop_intro (σ := Nat × Bs) (fun x => ⟨[(1, .int .i64 k), (6, .op 1 0), (7, .fn 50 [.op 1 0]), (25, .rs (rowsOf wdC l)), (26, .int .i64 l.length), (27, .int .i64 x.1)], memS x.2⟩)
    (fun x => x.1 ≤ l.length ∧ Bd x.2 201 (1048576 * (x.1 : Int)) ∧ addAll (l.drop x.1) (lvB x.2) = F) (fun x => l.length - x.1) (0, []) ⟨by simp, ⟨fun j _ v hv => (by cases hv), hF⟩⟩ ?_ ?_
  · refine weak_of 2 0 rfl rfl ?_ ⟨⟨rfl, rfl, rfl, cells_refs (bs := []) (by simp)⟩, ⟨rfl, .inr (.inl ⟨rfl, by simp [refs]⟩), trivial⟩, trivial⟩
    simp
  rintro ⟨i, bs⟩ ⟨hi, hbd, hA⟩
  simp only at hi hbd hA
  by_cases h : i < l.length
  · have w1 : wrapI .i64 ((i : Int) + 1) = (i : Int) + 1 := wrap_in (by omega) (by omega)
    obtain ⟨⟨A, n⟩, hx⟩ : ∃ x, l[i] = x := ⟨_, rfl⟩
    have hg := gL l[i] (by simp)
    rw [hx] at hg
    obtain ⟨g1, g2, g3, g4⟩ := hg
    simp only at g1 g2 g3 g4
    ((try simp -implicitDefEqProofs [-loopQ_n, h, hx, wdC, memS_snoc, memS_len, memS_last, memS_lastE, memS_0, memS_0E, memS_1, memS_1E, memS_setlast]) <;> (repeat' (first | (refine condD_dec ?_ ?_ <;> (intro hc; (try simp -implicitDefEqProofs [-loopQ_n, hc, h, hx, wdC, memS_snoc, memS_len, memS_last, memS_lastE, memS_0, memS_0E, memS_1, memS_1E, memS_setlast]))) | (refine guardD_dec ?_ ?_ <;> (intro hc; (try simp -implicitDefEqProofs [-loopQ_n, hc, h, hx, wdC, memS_snoc, memS_len, memS_last, memS_lastE, memS_0, memS_0E, memS_1, memS_1E, memS_setlast]))) | (refine condD_intro ?_ ?_ <;> (intro hd; have hc := hd; (try simp at hc) <;> (try simp -implicitDefEqProofs [-loopQ_n, hd, hc, h, hx, wdC, memS_snoc, memS_len, memS_last, memS_lastE, memS_0, memS_0E, memS_1, memS_1E, memS_setlast]))) | (refine guardD_intro ?_ ?_ <;> (intro hd; have hc := hd; (try simp at hc) <;> (try simp -implicitDefEqProofs [-loopQ_n, hd, hc, h, hx, wdC, memS_snoc, memS_len, memS_last, memS_lastE, memS_0, memS_0E, memS_1, memS_1E, memS_setlast]))) | (refine ldD_ep ?_ ?_; (focus kernel_rfl); (try simp -implicitDefEqProofs [-loopQ_n, h, hx, wdC, memS_snoc, memS_len, memS_last, memS_lastE, memS_0, memS_0E, memS_1, memS_1E, memS_setlast])))))
    refine callG_intro (add_G (w := A) (n := n) g1 g4 (by omega) (by omega) ?_ ?_)
    · intro v hv
      rw [lvB_ot] at hv
      have := hbd A.length (by omega) v hv
      exact ⟨this.1, this.2.1, by omega⟩
    ((try simp -implicitDefEqProofs [-loopQ_n, h, hx, wdC, memS_snoc, memS_len, memS_last, memS_lastE, memS_0, memS_0E, memS_1, memS_1E, memS_setlast]) <;> (repeat' (first | (refine condD_dec ?_ ?_ <;> (intro hc; (try simp -implicitDefEqProofs [-loopQ_n, hc, h, hx, wdC, memS_snoc, memS_len, memS_last, memS_lastE, memS_0, memS_0E, memS_1, memS_1E, memS_setlast]))) | (refine guardD_dec ?_ ?_ <;> (intro hc; (try simp -implicitDefEqProofs [-loopQ_n, hc, h, hx, wdC, memS_snoc, memS_len, memS_last, memS_lastE, memS_0, memS_0E, memS_1, memS_1E, memS_setlast]))) | (refine condD_intro ?_ ?_ <;> (intro hd; have hc := hd; (try simp at hc) <;> (try simp -implicitDefEqProofs [-loopQ_n, hd, hc, h, hx, wdC, memS_snoc, memS_len, memS_last, memS_lastE, memS_0, memS_0E, memS_1, memS_1E, memS_setlast]))) | (refine guardD_intro ?_ ?_ <;> (intro hd; have hc := hd; (try simp at hc) <;> (try simp -implicitDefEqProofs [-loopQ_n, hd, hc, h, hx, wdC, memS_snoc, memS_len, memS_last, memS_lastE, memS_0, memS_0E, memS_1, memS_1E, memS_setlast]))) | (refine ldD_ep ?_ ?_; (focus kernel_rfl); (try simp -implicitDefEqProofs [-loopQ_n, h, hx, wdC, memS_snoc, memS_len, memS_last, memS_lastE, memS_0, memS_0E, memS_1, memS_1E, memS_setlast])))))
    refine loop_next (i + 1, cln [] (addS (bs ++ [.ot _]) A n)) ⟨by simp only; omega, bd_cln (bd_add1 (bd_ot hbd) g4 (by omega) g3), ?_⟩ (by simp only; omega) (weak_cln ?_ (by simp))
    · rw [List.drop_eq_getElem_cons h, hx, addAll] at hA
      simp only
      rw [lv_round (v := ⟨A, n⟩)]
      exact hA
    · simp [w1, refs, sw_refs, wd_refs]; omega
  have hbe : lvB bs = F := by rw [List.drop_eq_nil_of_le (by omega)] at hA; exact hA
  rw [← hbe] at hlw hrel
  clear hA hbd hbe
  have w200 : wrapI .i64 200 = 200 := wrap_in (by omega) (by omega)
  ((try simp -implicitDefEqProofs [-loopQ_n, h, w200]) <;> (repeat' (first | (refine condD_dec ?_ ?_ <;> (intro hc; (try simp -implicitDefEqProofs [-loopQ_n, hc, h, w200]))) | (refine guardD_dec ?_ ?_ <;> (intro hc; (try simp -implicitDefEqProofs [-loopQ_n, hc, h, w200]))) | (refine condD_intro ?_ ?_ <;> (intro hd; have hc := hd; (try simp at hc) <;> (try simp -implicitDefEqProofs [-loopQ_n, hd, hc, h, w200]))) | (refine guardD_intro ?_ ?_ <;> (intro hd; have hc := hd; (try simp at hc) <;> (try simp -implicitDefEqProofs [-loopQ_n, hd, hc, h, w200]))) | (refine ldD_ep ?_ ?_; (focus kernel_rfl); (try simp -implicitDefEqProofs [-loopQ_n, h, w200])))))
  refine loop_intro (σ := Nat × Bs × List Wd × Nat) (fun x => ⟨[(1, .int .i64 k), (6, .op 1 0), (7, .fn 50 [.op 1 0]), (10, oI (2 + x.2.2.2) x.2.2.1), (11, .int .i64 ((x.1 : Int) - 1))], memS x.2.1⟩)
    (fun x => ∃ ws out, Inv2 k O T x.1 x.2.1 x.2.2.1 x.2.2.2 ws out) (fun x => x.1) (201, cln [] bs, [], 0) ⟨l, [], ?_⟩ ?_ ?_
  · exact ⟨by simp, fun j hj v hv => by simp only [cln_lv] at hv; exact hlw j hj v hv, hrel.congr fun j _ => cln_lv, hO, by simpa using hl, by simp only [sumN]; omega, ⟨by simp [keyN], by simp⟩, by simp [lnW], fun h => (h rfl).elim⟩
  · refine weak_cln ?_ (by simp)
    simp [oI, refs]; omega
  clear hrel hlw
  clear hi h
  clear bs
  rintro ⟨m, bs, o, id⟩ ⟨ws, out, ⟨i1, i2, i3, i4, i5, i6, i7, i8, i9⟩⟩
  simp only at i1 i2 i3 i4 i5 i6 i7 i8 i9
  cases m with
  | zero =>
    have g1 : ¬ (0 : Int) ≤ -1 := by omega
    simp only [supN] at i4
    subst i4
    have hpm : o.Perm out := same_perm i7.1 (asc_key i3.ascO) (fun v hv => (i7.2 v hv).2.1) (fun v hv => (i3.posO v hv).1) fun u => (i3.eqO u).symm
    have hol := hpm.length_eq
    have hA := entF_any (p := fun v => decide (1048576 < v.n)) (l := o) (g := 53) (caps := []) (fun x _ => sup2_pure x) (fun H k => by simp) (by simp [refsL]) (by omega)
    have hany : (o.any fun v => decide (1048576 < v.n)) = out.any fun v => decide (1048576 < v.n) := by
      rw [Bool.eq_iff_iff, List.any_eq_true, List.any_eq_true]
      exact ⟨fun ⟨x, h, h'⟩ => ⟨x, hpm.mem_iff.1 h, h'⟩, fun ⟨x, h, h'⟩ => ⟨x, hpm.mem_iff.2 h, h'⟩⟩
    rw [hany] at hA
    have hVB := validW_big i3.ascO i3.posO (by
      rw [← hO]
      exact strI_supN 201 l [] (fun v hv s hs => (gL v hv).2.2.2 s hs) (by simp [strI]))
    rw [hVB]
    by_cases ho : o = []
    · subst ho
      have : out = [] := by cases out with | nil => rfl | cons _ _ => simp at hol
      subst this
      ((try simp -implicitDefEqProofs [-loopQ_n, g1, oI_nil, supV, rowsOf]) <;> (repeat' (first | (refine condD_dec ?_ ?_ <;> (intro hc; (try simp -implicitDefEqProofs [-loopQ_n, hc, g1, oI_nil, supV, rowsOf]))) | (refine guardD_dec ?_ ?_ <;> (intro hc; (try simp -implicitDefEqProofs [-loopQ_n, hc, g1, oI_nil, supV, rowsOf]))) | (refine condD_intro ?_ ?_ <;> (intro hd; have hc := hd; (try simp at hc) <;> (try simp -implicitDefEqProofs [-loopQ_n, hd, hc, g1, oI_nil, supV, rowsOf]))) | (refine guardD_intro ?_ ?_ <;> (intro hd; have hc := hd; (try simp at hc) <;> (try simp -implicitDefEqProofs [-loopQ_n, hd, hc, g1, oI_nil, supV, rowsOf]))) | (refine ldD_ep ?_ ?_; (focus kernel_rfl); (try simp -implicitDefEqProofs [-loopQ_n, g1, oI_nil, supV, rowsOf])) | (refine callS_mk ?_; (try simp -implicitDefEqProofs [-loopQ_n, g1, oI_nil, supV, rowsOf]); (first | refine callS_intro (hA) (.inl rfl) ?_); (try simp -implicitDefEqProofs [-loopQ_n, g1, oI_nil, supV, rowsOf])))))
      refine callG_intro (own_G pub_nil rfl ?_)
      ((try simp -implicitDefEqProofs [-loopQ_n, supV, rowsOf]) <;> (repeat' (first | (refine condD_dec ?_ ?_ <;> (intro hc; (try simp -implicitDefEqProofs [-loopQ_n, hc, supV, rowsOf]))) | (refine guardD_dec ?_ ?_ <;> (intro hc; (try simp -implicitDefEqProofs [-loopQ_n, hc, supV, rowsOf]))) | (refine condD_intro ?_ ?_ <;> (intro hd; have hc := hd; (try simp at hc) <;> (try simp -implicitDefEqProofs [-loopQ_n, hd, hc, supV, rowsOf]))) | (refine guardD_intro ?_ ?_ <;> (intro hd; have hc := hd; (try simp at hc) <;> (try simp -implicitDefEqProofs [-loopQ_n, hd, hc, supV, rowsOf]))) | (refine ldD_ep ?_ ?_; (focus kernel_rfl); (try simp -implicitDefEqProofs [-loopQ_n, supV, rowsOf])))))
    · obtain ⟨nb, hrow⟩ := i9 ho
      have hQ := memS_getQ hrow
      simp only [blkS] at hQ
      have oi := oI_ne (id := 2 + id) ho
      cases hb : out.any fun v => decide (1048576 < v.n) with
      | true =>
        rw [hb] at hA
        ((try simp -implicitDefEqProofs [-loopQ_n, g1, oi, supV, rowsOf_nil, hQ, wd_reify]) <;> (repeat' (first | (refine condD_dec ?_ ?_ <;> (intro hc; (try simp -implicitDefEqProofs [-loopQ_n, hc, g1, oi, supV, rowsOf_nil, hQ, wd_reify]))) | (refine guardD_dec ?_ ?_ <;> (intro hc; (try simp -implicitDefEqProofs [-loopQ_n, hc, g1, oi, supV, rowsOf_nil, hQ, wd_reify]))) | (refine condD_intro ?_ ?_ <;> (intro hd; have hc := hd; (try simp at hc) <;> (try simp -implicitDefEqProofs [-loopQ_n, hd, hc, g1, oi, supV, rowsOf_nil, hQ, wd_reify]))) | (refine guardD_intro ?_ ?_ <;> (intro hd; have hc := hd; (try simp at hc) <;> (try simp -implicitDefEqProofs [-loopQ_n, hd, hc, g1, oi, supV, rowsOf_nil, hQ, wd_reify]))) | (refine ldD_ep ?_ ?_; (focus kernel_rfl); (try simp -implicitDefEqProofs [-loopQ_n, g1, oi, supV, rowsOf_nil, hQ, wd_reify])) | (refine callS_mk ?_; (try simp -implicitDefEqProofs [-loopQ_n, g1, oi, supV, rowsOf_nil, hQ, wd_reify]); (first | refine callS_intro (hA) (.inl rfl) ?_); (try simp -implicitDefEqProofs [-loopQ_n, g1, oi, supV, rowsOf_nil, hQ, wd_reify])))))
      | false =>
        rw [hb] at hA
        ((try simp -implicitDefEqProofs [-loopQ_n, g1, oi, hQ, wd_reify]) <;> (repeat' (first | (refine condD_dec ?_ ?_ <;> (intro hc; (try simp -implicitDefEqProofs [-loopQ_n, hc, g1, oi, hQ, wd_reify]))) | (refine guardD_dec ?_ ?_ <;> (intro hc; (try simp -implicitDefEqProofs [-loopQ_n, hc, g1, oi, hQ, wd_reify]))) | (refine condD_intro ?_ ?_ <;> (intro hd; have hc := hd; (try simp at hc) <;> (try simp -implicitDefEqProofs [-loopQ_n, hd, hc, g1, oi, hQ, wd_reify]))) | (refine guardD_intro ?_ ?_ <;> (intro hd; have hc := hd; (try simp at hc) <;> (try simp -implicitDefEqProofs [-loopQ_n, hd, hc, g1, oi, hQ, wd_reify]))) | (refine ldD_ep ?_ ?_; (focus kernel_rfl); (try simp -implicitDefEqProofs [-loopQ_n, g1, oi, hQ, wd_reify])) | (refine callS_mk ?_; (try simp -implicitDefEqProofs [-loopQ_n, g1, oi, hQ, wd_reify]); (first | refine callS_intro (hA) (.inl rfl) ?_); (try simp -implicitDefEqProofs [-loopQ_n, g1, oi, hQ, wd_reify])))))
        refine callG_intro (pub_G hQ ho (by omega) i8 fun p r H' hp hs hr => ?_)
        have hpo : p = out := end_eq i3 i7 hp hs
        rw [hpo] at hr
        have hr := hr 4
        ((try simp -implicitDefEqProofs [-loopQ_n, supV, hr]) <;> (repeat' (first | (refine condD_dec ?_ ?_ <;> (intro hc; (try simp -implicitDefEqProofs [-loopQ_n, hc, supV, hr]))) | (refine guardD_dec ?_ ?_ <;> (intro hc; (try simp -implicitDefEqProofs [-loopQ_n, hc, supV, hr]))) | (refine condD_intro ?_ ?_ <;> (intro hd; have hc := hd; (try simp at hc) <;> (try simp -implicitDefEqProofs [-loopQ_n, hd, hc, supV, hr]))) | (refine guardD_intro ?_ ?_ <;> (intro hd; have hc := hd; (try simp at hc) <;> (try simp -implicitDefEqProofs [-loopQ_n, hd, hc, supV, hr]))) | (refine ldD_ep ?_ ?_; (focus kernel_rfl); (try simp -implicitDefEqProofs [-loopQ_n, supV, hr])))))
  | succ m =>
    have g2 : (0 : Int) ≤ m := by omega
    have g3 : ((m + 1 : Nat) : Int) - 1 = m := by omega
    have hm : m < 201 := by omega
    have hm2 : (m : Int) < 201 := by omega
    have w2 : wrapI .i64 ((m : Int) - 1) = (m : Int) - 1 := wrap_in (by omega) (by omega)
    have hc := cellsS_get (bs := bs) hm
    have hcl := cellsS_len (bs := bs)
    dsimp only
    rw [g3]
    cases hq : atL bs m with
    | none =>
      unfold cellS at hc
      rw [hq] at hc
      have hcE : (cellsS bs)[m]'(by omega) = [.nilm] := by rw [List.getElem?_eq_getElem (by omega)] at hc; exact Option.some.inj hc
      have hE : lvB bs m = [] := lvB_none hq
      have hI : Inv2 k O T (m + 1) bs o id ws out := ⟨i1, i2, i3, i4, i5, i6, i7, i8, i9⟩
      ((try simp -implicitDefEqProofs [-loopQ_n, g2, memS_0, memS_0E, memS_1, memS_1E, hc, hcE, hcl, hm, hm2, memS_len, memS_snoc]) <;> (repeat' (first | (refine condD_dec ?_ ?_ <;> (intro hc; (try simp -implicitDefEqProofs [-loopQ_n, hc, g2, memS_0, memS_0E, memS_1, memS_1E, hc, hcE, hcl, hm, hm2, memS_len, memS_snoc]))) | (refine guardD_dec ?_ ?_ <;> (intro hc; (try simp -implicitDefEqProofs [-loopQ_n, hc, g2, memS_0, memS_0E, memS_1, memS_1E, hc, hcE, hcl, hm, hm2, memS_len, memS_snoc]))) | (refine condD_intro ?_ ?_ <;> (intro hd; have hc := hd; (try simp at hc) <;> (try simp -implicitDefEqProofs [-loopQ_n, hd, hc, g2, memS_0, memS_0E, memS_1, memS_1E, hc, hcE, hcl, hm, hm2, memS_len, memS_snoc]))) | (refine guardD_intro ?_ ?_ <;> (intro hd; have hc := hd; (try simp at hc) <;> (try simp -implicitDefEqProofs [-loopQ_n, hd, hc, g2, memS_0, memS_0E, memS_1, memS_1E, hc, hcE, hcl, hm, hm2, memS_len, memS_snoc]))) | (refine ldD_ep ?_ ?_; (focus kernel_rfl); (try simp -implicitDefEqProofs [-loopQ_n, g2, memS_0, memS_0E, memS_1, memS_1E, hc, hcE, hcl, hm, hm2, memS_len, memS_snoc])))))
      refine loop_intro (σ := Unit) (fun _ => ⟨[(1, .int .i64 k), (6, .op 1 0), (7, .fn 50 [.op 1 0]), (10, oI (2 + id) o), (11, .int .i64 m), (46, .it (2 + bs.length))], memS (cln (bs.length :: kO o id) (bs ++ [.ot (.iter none 0 [])]))⟩)
        (fun _ => True) (fun _ => 0) () trivial ?_ ?_
      · refine weak_cln ?_ ?_
        · have := oI_ref (X := bs ++ [.ot (.iter none 0 [])]) (outB_mono i9 fun b h => ot_app h)
          simp at this
          simp [refs, this]
          omega
        · intro i hi b hb
          rcases List.mem_cons.1 hi with rfl | hi
          · simp at hb
            subst hb
            exact ⟨rfl, rfl, rfl, fun i h => by cases h⟩
          · exact outB_row (outB_mono i9 fun b h => ot_app h) i hi b hb
      intro _ _
      ((try simp -implicitDefEqProofs [-loopQ_n]) <;> (repeat' (first | (refine condD_dec ?_ ?_ <;> (intro hc; (try simp -implicitDefEqProofs [-loopQ_n, hc]))) | (refine guardD_dec ?_ ?_ <;> (intro hc; (try simp -implicitDefEqProofs [-loopQ_n, hc]))) | (refine condD_intro ?_ ?_ <;> (intro hd; have hc := hd; (try simp at hc) <;> (try simp -implicitDefEqProofs [-loopQ_n, hd, hc]))) | (refine guardD_intro ?_ ?_ <;> (intro hd; have hc := hd; (try simp at hc) <;> (try simp -implicitDefEqProofs [-loopQ_n, hd, hc]))) | (refine ldD_ep ?_ ?_; (focus kernel_rfl); (try simp -implicitDefEqProofs [-loopQ_n])))))
      refine nxt_nil (id := 2 + bs.length) (n := 0) (seen := []) (by rw [memS_getQ (cln_ot (by simp) (b := .iter none 0 []) (by simp))]; rfl) ?_
      ((try simp -implicitDefEqProofs [-loopQ_n, w2]) <;> (repeat' (first | (refine condD_dec ?_ ?_ <;> (intro hc; (try simp -implicitDefEqProofs [-loopQ_n, hc, w2]))) | (refine guardD_dec ?_ ?_ <;> (intro hc; (try simp -implicitDefEqProofs [-loopQ_n, hc, w2]))) | (refine condD_intro ?_ ?_ <;> (intro hd; have hc := hd; (try simp at hc) <;> (try simp -implicitDefEqProofs [-loopQ_n, hd, hc, w2]))) | (refine guardD_intro ?_ ?_ <;> (intro hd; have hc := hd; (try simp at hc) <;> (try simp -implicitDefEqProofs [-loopQ_n, hd, hc, w2]))) | (refine ldD_ep ?_ ?_; (focus kernel_rfl); (try simp -implicitDefEqProofs [-loopQ_n, w2])))))
      have hX : OutB (cln (bs.length :: kO o id) (bs ++ [.ot (.iter none 0 [])])) o id := outB_cln (outB_mono i9 fun b h => ot_app h) fun i hi => by simp [hi]
      refine loop_next (m, cln (kO o id) (cln (bs.length :: kO o id) (bs ++ [.ot (.iter none 0 [])])), o, id) ⟨_, _, inv_step hI (p := []) (by rw [hE]) (fun j hj => by rw [cln_lv, lvB_ot]; rfl) rfl (fun j hj v hv => by rw [cln_lv, lvB_ot] at hv; exact i2 j (by omega) v hv) hX⟩ (by simp) (weak_cln ?_ (outB_row hX))
      have := oI_ref hX
      simp [refs, this]
      omega
    | some q =>
      unfold cellS at hc
      rw [hq] at hc
      have hcE : (cellsS bs)[m]'(by omega) = [.mp (2 + q)] := by rw [List.getElem?_eq_getElem (by omega)] at hc; exact Option.some.inj hc
      have hmg := lvB_some hq
      have hql := atL_lt hq
      have hmQ := memS_getQ hmg
      have hmE := fun h => memS_getE hmg (h := h)
      have hI : Inv2 k O T (m + 1) bs o id ws out := ⟨i1, i2, i3, i4, i5, i6, i7, i8, i9⟩
      have hlE := i3.lvlen
      have hol := i3.olen i7
      obtain ⟨E, hE⟩ : ∃ E, lvB bs m = E := ⟨_, rfl⟩
      rw [hE] at hmg hmQ hmE hlE
      have hEo : ∀ v ∈ E, v.acts.length = m ∧ 1 ≤ v.n ∧ v.n ≤ 314572800 ∧ nmW v.acts := fun v hv => by
        rw [← hE] at hv
        have h1 := i3.le (j := m) (by omega) hv
        have h2 := (sumN_nn out i3.posO).1
        exact ⟨h1.1, h1.2.1, by omega, i2 m (by omega) v hv⟩
      have toM_len : (toM E).length = E.length := by simp [toM]
      have hM0 : MidS k m q bs.length E (lvB bs) o (bs ++ [.ot (.iter (some (2 + q)) E.length [])]) [] o id := MidS.start hmg i9 fun j hj v hv => by
        have h1 := i3.le (j := j) (by omega) hv
        have h2 := (sumN_nn out i3.posO).1
        exact ⟨i2 j (by omega) v hv, by omega, by omega⟩
      ((try simp -implicitDefEqProofs [-loopQ_n, g2, memS_0, memS_0E, memS_1, memS_1E, hc, hcE, hcl, hm, hm2, memS_len, memS_snoc, hmQ, hmE, hql, blkS, mE_len, toM_len]) <;> (repeat' (first | (refine condD_dec ?_ ?_ <;> (intro hc; (try simp -implicitDefEqProofs [-loopQ_n, hc, g2, memS_0, memS_0E, memS_1, memS_1E, hc, hcE, hcl, hm, hm2, memS_len, memS_snoc, hmQ, hmE, hql, blkS, mE_len, toM_len]))) | (refine guardD_dec ?_ ?_ <;> (intro hc; (try simp -implicitDefEqProofs [-loopQ_n, hc, g2, memS_0, memS_0E, memS_1, memS_1E, hc, hcE, hcl, hm, hm2, memS_len, memS_snoc, hmQ, hmE, hql, blkS, mE_len, toM_len]))) | (refine condD_intro ?_ ?_ <;> (intro hd; have hc := hd; (try simp at hc) <;> (try simp -implicitDefEqProofs [-loopQ_n, hd, hc, g2, memS_0, memS_0E, memS_1, memS_1E, hc, hcE, hcl, hm, hm2, memS_len, memS_snoc, hmQ, hmE, hql, blkS, mE_len, toM_len]))) | (refine guardD_intro ?_ ?_ <;> (intro hd; have hc := hd; (try simp at hc) <;> (try simp -implicitDefEqProofs [-loopQ_n, hd, hc, g2, memS_0, memS_0E, memS_1, memS_1E, hc, hcE, hcl, hm, hm2, memS_len, memS_snoc, hmQ, hmE, hql, blkS, mE_len, toM_len]))) | (refine ldD_ep ?_ ?_; (focus kernel_rfl); (try simp -implicitDefEqProofs [-loopQ_n, g2, memS_0, memS_0E, memS_1, memS_1E, hc, hcE, hcl, hm, hm2, memS_len, memS_snoc, hmQ, hmE, hql, blkS, mE_len, toM_len])))))
      refine loop_intro (σ := Bs × List Nat × List Wd × Nat) (fun x => ⟨[(1, .int .i64 k), (6, .op 1 0), (7, .fn 50 [.op 1 0]), (10, oI (2 + x.2.2.2) x.2.2.1), (11, .int .i64 m), (46, .it (2 + bs.length))], memS x.1⟩)
        (fun x => MidS k m q bs.length E (lvB bs) o x.1 x.2.1 x.2.2.1 x.2.2.2) (fun x => E.length - x.2.1.length) (cln (bs.length :: kO o id) (bs ++ [.ot (.iter (some (2 + q)) E.length [])]), [], o, id) hM0.forget ?_ ?_
      · refine hM0.weak ?_
        have := oI_ref hM0.blk
        simp at this
        simp [refs, this]
        omega
      rintro ⟨X, seen, o1, id1⟩ hM
      simp only at hM
      ((try simp -implicitDefEqProofs [-loopQ_n]) <;> (repeat' (first | (refine condD_dec ?_ ?_ <;> (intro hc; (try simp -implicitDefEqProofs [-loopQ_n, hc]))) | (refine guardD_dec ?_ ?_ <;> (intro hc; (try simp -implicitDefEqProofs [-loopQ_n, hc]))) | (refine condD_intro ?_ ?_ <;> (intro hd; have hc := hd; (try simp at hc) <;> (try simp -implicitDefEqProofs [-loopQ_n, hd, hc]))) | (refine guardD_intro ?_ ?_ <;> (intro hd; have hc := hd; (try simp at hc) <;> (try simp -implicitDefEqProofs [-loopQ_n, hd, hc]))) | (refine ldD_ep ?_ ?_; (focus kernel_rfl); (try simp -implicitDefEqProofs [-loopQ_n])))))
      refine nxt_map (id := 2 + bs.length) (mid := 2 + q) (n := E.length) (seen := seen) (es := mE psK pwV (toM E)) (memS_getQ hM.it) (memS_getQ hM.mp) (by rw [mE_len, toM_len]) ?_ ?_
      · intro i key y hi hg
        obtain ⟨v, rfl, rfl, he⟩ : ∃ v, key = .str (jnS v.acts) ∧ y = .agg (wdC v) ∧ E[i]? = some v := by
          simp only [mE, toM, List.map_map, List.getElem?_map, Option.map_eq_some_iff] at hg
          obtain ⟨v, h1, h2⟩ := hg
          simp only [Function.comp, psK, pwV, Prod.mk.injEq] at h2
          exact ⟨v, h2.1.symm, h2.2.symm, h1⟩
        have hil := (List.getElem?_eq_some_iff.1 he).1
        have hwa : wat E i = v := by rw [wat_get hil]; exact (List.getElem?_eq_some_iff.1 he).2
        obtain ⟨X2, hX2⟩ : ∃ X2, X.set bs.length (.ot (.iter (some (2 + q)) E.length (seen ++ [i]))) = X2 := ⟨_, rfl⟩
        have hset : (memS X).set (2 + bs.length) (.iter (some (2 + q)) E.length (seen ++ [i])) = memS X2 := by rw [memS_set hM.it, hX2]
        have hXl : X2.length = X.length := by rw [← hX2]; simp
        have hqX := (List.getElem?_eq_some_iff.1 hM.it).1
        have t1 : X2[bs.length]? = some (.ot (.iter (some (2 + q)) E.length (seen ++ [i]))) := by rw [← hX2]; simp [hqX]
        have t2 : X2[q]? = some (.mp m E) := by rw [← hX2]; exact bs_set hM.mp (by omega)
        have f1 := memS_getQ t1
        have f2 := memS_getQ t2
        simp only [blkS] at f1 f2
        have hlast : (seen ++ [i]).getLast? = some i := by simp
        have hln : (mE psK pwV (toM E)).length = E.length := by rw [mE_len, toM_len]
        have hlvX : ∀ j, lvB X2 j = lvB X j := fun j => by rw [← hX2]; exact lvB_setot hM.it
        have hbX : OutB X2 o1 id1 := fun ho => by
          obtain ⟨nb, hr⟩ := hM.blk ho
          refine ⟨nb, ?_⟩
          rw [← hX2]
          exact bs_set hr fun e => by rw [← e, hM.it] at hr; simp at hr
        have hvE := hEo v (List.mem_of_getElem? he)
        have hso := hM.olen
        have hsl := hM.len
        obtain ⟨A, c⟩ := v
        simp only at hvE
        obtain ⟨v1, v2, v3, v4⟩ := hvE
        have st1 : k ≤ c → stP m k (lvB X, o1) (wat E i) = (lvB X, o1 ++ [⟨A, c⟩]) := fun h => by rw [hwa]; unfold stP; rw [if_pos h]
        have hnm2 : ∀ j, j < m → ∀ v ∈ lvB X j, nmW v.acts ∧ 0 ≤ v.n ∧ v.n ≤ 314572800 * (1 + (seen.length : Int)) + 314572800 := fun j hj v hv => by
          have := hM.nm j hj v hv
          exact ⟨this.1, this.2.1, by omega⟩
        have hms : ∀ s : List Nat, s = seen ++ [i] → s.length ≤ E.length → E.length - s.length < E.length - seen.length := fun s hs hl => by rw [hs] at hl ⊢; simp at hl ⊢; omega
        dsimp only
        rw [hset]
        by_cases hk : k ≤ c
        · by_cases ho : o1 = []
          · subst ho
            ((try simp -implicitDefEqProofs [-loopQ_n, hk, hg, f1, f2, hlast, hln, wdC, memS_0, memS_0E, memS_1, memS_1E, memS_len, memS_snoc, memS_last, memS_lastE, memS_setlast, memS_l2, memS_l2E, -List.append_assoc, oI_nil]) <;> (repeat' (first | (refine condD_dec ?_ ?_ <;> (intro hc; (try simp -implicitDefEqProofs [-loopQ_n, hc, hk, hg, f1, f2, hlast, hln, wdC, memS_0, memS_0E, memS_1, memS_1E, memS_len, memS_snoc, memS_last, memS_lastE, memS_setlast, memS_l2, memS_l2E, -List.append_assoc, oI_nil]))) | (refine guardD_dec ?_ ?_ <;> (intro hc; (try simp -implicitDefEqProofs [-loopQ_n, hc, hk, hg, f1, f2, hlast, hln, wdC, memS_0, memS_0E, memS_1, memS_1E, memS_len, memS_snoc, memS_last, memS_lastE, memS_setlast, memS_l2, memS_l2E, -List.append_assoc, oI_nil]))) | (refine condD_intro ?_ ?_ <;> (intro hd; have hc := hd; (try simp at hc) <;> (try simp -implicitDefEqProofs [-loopQ_n, hd, hc, hk, hg, f1, f2, hlast, hln, wdC, memS_0, memS_0E, memS_1, memS_1E, memS_len, memS_snoc, memS_last, memS_lastE, memS_setlast, memS_l2, memS_l2E, -List.append_assoc, oI_nil]))) | (refine guardD_intro ?_ ?_ <;> (intro hd; have hc := hd; (try simp at hc) <;> (try simp -implicitDefEqProofs [-loopQ_n, hd, hc, hk, hg, f1, f2, hlast, hln, wdC, memS_0, memS_0E, memS_1, memS_1E, memS_len, memS_snoc, memS_last, memS_lastE, memS_setlast, memS_l2, memS_l2E, -List.append_assoc, oI_nil]))) | (refine ldD_ep ?_ ?_; (focus kernel_rfl); (try simp -implicitDefEqProofs [-loopQ_n, hk, hg, f1, f2, hlast, hln, wdC, memS_0, memS_0E, memS_1, memS_1E, memS_len, memS_snoc, memS_last, memS_lastE, memS_setlast, memS_l2, memS_l2E, -List.append_assoc, oI_nil])))))
            obtain ⟨XX, hXX⟩ : ∃ XX, X2 ++ [BE.ot (Blk.box 97 [AV.rs (rowsOf strC A), AV.int IntKind.i64 c])] ++ [BE.ot (Blk.row 97 false [[AV.rs (rowsOf strC A), AV.int IntKind.i64 c]])] ++ [BE.ot (Blk.row 97 false [[AV.rs (rowsOf strC A), AV.int IntKind.i64 c]])] = XX := ⟨_, rfl⟩
            have hM' : MidS k m q bs.length E (lvB bs) o XX (seen ++ [i]) [⟨A, c⟩] (X2.length + 1 + 1) := by
              rw [← hXX]
              refine hM.snoc hi hil (ot_app (ot_app (ot_app t1))) (ot_app (ot_app (ot_app t2))) (fun j _ => by rw [lvB_ot, lvB_ot, lvB_ot, hlvX, st1 hk]) (by rw [st1 hk]; rfl) (fun j hj v hv => hnm2 j hj v (by rwa [lvB_ot, lvB_ot, lvB_ot, hlvX] at hv)) fun _ => ⟨false, ?_⟩
              rw [List.getElem?_append_right (by simp)]
              simp [rowsOf, wdC]
            rw [hXX]
            refine loop_next (cln (bs.length :: kO [⟨A, c⟩] (X2.length + 1 + 1)) XX, seen ++ [i], [⟨A, c⟩], X2.length + 1 + 1) hM'.forget (hms _ rfl hM'.len) (hM'.weak ?_)
            have hXXl : XX.length = X2.length + 3 := by rw [← hXX]; simp
            simp [refs, oI_one, hXXl]
            omega
          · have oi := oI_ne (id := 2 + id1) ho
            obtain ⟨nb, hrow⟩ := hbX ho
            obtain ⟨bx, hbx⟩ : ∃ bx : Blk, bx = .box 97 [.rs (rowsOf strC A), .int .i64 c] := ⟨_, rfl⟩
            obtain ⟨by_, hby⟩ : ∃ by_ : Blk, by_ = .row 97 false [[.rs (rowsOf strC A), .int .i64 c]] := ⟨_, rfl⟩
            have g3 := ot_app (x := .ot by_) (ot_app (x := .ot bx) hrow)
            have f3 := memS_getQ g3
            have f4 := fun b' => memS_set (b' := b') g3
            obtain ⟨Y, hY⟩ : ∃ Y, X2 ++ [BE.ot bx] ++ [BE.ot by_] = Y := ⟨_, rfl⟩
            have u1 := ot_app (x := .ot by_) (ot_app (x := .ot bx) t1)
            have u2 := ot_app (x := .ot by_) (ot_app (x := .ot bx) t2)
            have u3 : ∀ j, lvB Y j = lvB X j := fun j => by rw [← hY, lvB_ot, lvB_ot, hlvX]
            have hYl : Y.length = X2.length + 2 := by rw [← hY]; simp
            have hid := (List.getElem?_eq_some_iff.1 hrow).1
            rw [hY] at g3 u1 u2
            rw [hbx, hby] at f3 f4 hY
            have h5 : o1.length + 1 ≤ 1073741824 := by omega
            have h6 : (rowsOf wdC o1).length = o1.length := rowsOf_length
            simp only [blkS] at f3
            have hM' : MidS k m q bs.length E (lvB bs) o (Y.set id1 (.ot (.row 97 nb (rowsOf wdC (o1 ++ [⟨A, c⟩]))))) (seen ++ [i]) (o1 ++ [⟨A, c⟩]) id1 := by
              refine hM.snoc hi hil (bs_set u1 fun e => ?_) (bs_set u2 fun e => ?_) (fun j _ => by rw [lvB_setot g3, u3, st1 hk]) (by rw [st1 hk]) (fun j hj v hv => hnm2 j hj v (by rwa [lvB_setot g3, u3] at hv)) fun _ => ⟨nb, ?_⟩
              · rw [← e, g3] at u1; simp at u1
              · rw [← e, g3] at u2; simp at u2
              · rw [List.getElem?_set, if_pos rfl, if_pos (by omega)]
            have hsn : rowsOf wdC o1 ++ [[.rs (rowsOf strC A), .int .i64 c]] = rowsOf wdC (o1 ++ [⟨A, c⟩]) := wd_snoc (v := ⟨A, c⟩)
            ((try simp -implicitDefEqProofs [-loopQ_n, hk, hg, f1, f2, f3, f4, h5, h6, hsn, memS_l2, memS_l2E, hlast, hln, wdC, memS_0, memS_0E, memS_1, memS_1E, memS_len, memS_snoc, memS_last, memS_lastE, memS_setlast, -List.append_assoc, oi]) <;> (repeat' (first | (refine condD_dec ?_ ?_ <;> (intro hc; (try simp -implicitDefEqProofs [-loopQ_n, hc, hk, hg, f1, f2, f3, f4, h5, h6, hsn, memS_l2, memS_l2E, hlast, hln, wdC, memS_0, memS_0E, memS_1, memS_1E, memS_len, memS_snoc, memS_last, memS_lastE, memS_setlast, -List.append_assoc, oi]))) | (refine guardD_dec ?_ ?_ <;> (intro hc; (try simp -implicitDefEqProofs [-loopQ_n, hc, hk, hg, f1, f2, f3, f4, h5, h6, hsn, memS_l2, memS_l2E, hlast, hln, wdC, memS_0, memS_0E, memS_1, memS_1E, memS_len, memS_snoc, memS_last, memS_lastE, memS_setlast, -List.append_assoc, oi]))) | (refine condD_intro ?_ ?_ <;> (intro hd; have hc := hd; (try simp at hc) <;> (try simp -implicitDefEqProofs [-loopQ_n, hd, hc, hk, hg, f1, f2, f3, f4, h5, h6, hsn, memS_l2, memS_l2E, hlast, hln, wdC, memS_0, memS_0E, memS_1, memS_1E, memS_len, memS_snoc, memS_last, memS_lastE, memS_setlast, -List.append_assoc, oi]))) | (refine guardD_intro ?_ ?_ <;> (intro hd; have hc := hd; (try simp at hc) <;> (try simp -implicitDefEqProofs [-loopQ_n, hd, hc, hk, hg, f1, f2, f3, f4, h5, h6, hsn, memS_l2, memS_l2E, hlast, hln, wdC, memS_0, memS_0E, memS_1, memS_1E, memS_len, memS_snoc, memS_last, memS_lastE, memS_setlast, -List.append_assoc, oi]))) | (refine ldD_ep ?_ ?_; (focus kernel_rfl); (try simp -implicitDefEqProofs [-loopQ_n, hk, hg, f1, f2, f3, f4, h5, h6, hsn, memS_l2, memS_l2E, hlast, hln, wdC, memS_0, memS_0E, memS_1, memS_1E, memS_len, memS_snoc, memS_last, memS_lastE, memS_setlast, -List.append_assoc, oi])))))
            rw [hY]
            refine loop_next (cln (bs.length :: kO (o1 ++ [⟨A, c⟩]) id1) (Y.set id1 _), seen ++ [i], o1 ++ [⟨A, c⟩], id1) hM'.forget (hms _ rfl hM'.len) (hM'.weak ?_)
            simp [refs, oI_snoc, hYl]
            omega
        · by_cases h0 : m = 0
          · subst h0
            have st2 : stP 0 k (lvB X, o1) (wat E i) = (lvB X, o1) := by rw [hwa]; unfold stP; rw [if_neg hk, if_neg (by omega)]
            ((try simp -implicitDefEqProofs [-loopQ_n, hk, hg, f1, f2, hlast, hln, wdC, memS_0, memS_0E, memS_1, memS_1E, memS_len, memS_snoc, memS_last, memS_lastE, memS_setlast, -List.append_assoc]) <;> (repeat' (first | (refine condD_dec ?_ ?_ <;> (intro hc; (try simp -implicitDefEqProofs [-loopQ_n, hc, hk, hg, f1, f2, hlast, hln, wdC, memS_0, memS_0E, memS_1, memS_1E, memS_len, memS_snoc, memS_last, memS_lastE, memS_setlast, -List.append_assoc]))) | (refine guardD_dec ?_ ?_ <;> (intro hc; (try simp -implicitDefEqProofs [-loopQ_n, hc, hk, hg, f1, f2, hlast, hln, wdC, memS_0, memS_0E, memS_1, memS_1E, memS_len, memS_snoc, memS_last, memS_lastE, memS_setlast, -List.append_assoc]))) | (refine condD_intro ?_ ?_ <;> (intro hd; have hc := hd; (try simp at hc) <;> (try simp -implicitDefEqProofs [-loopQ_n, hd, hc, hk, hg, f1, f2, hlast, hln, wdC, memS_0, memS_0E, memS_1, memS_1E, memS_len, memS_snoc, memS_last, memS_lastE, memS_setlast, -List.append_assoc]))) | (refine guardD_intro ?_ ?_ <;> (intro hd; have hc := hd; (try simp at hc) <;> (try simp -implicitDefEqProofs [-loopQ_n, hd, hc, hk, hg, f1, f2, hlast, hln, wdC, memS_0, memS_0E, memS_1, memS_1E, memS_len, memS_snoc, memS_last, memS_lastE, memS_setlast, -List.append_assoc]))) | (refine ldD_ep ?_ ?_; (focus kernel_rfl); (try simp -implicitDefEqProofs [-loopQ_n, hk, hg, f1, f2, hlast, hln, wdC, memS_0, memS_0E, memS_1, memS_1E, memS_len, memS_snoc, memS_last, memS_lastE, memS_setlast, -List.append_assoc])))))
            obtain ⟨XX, hXX⟩ : ∃ XX, X2 ++ [BE.ot (Blk.box 97 [AV.rs (rowsOf strC A), AV.int IntKind.i64 c])] = XX := ⟨_, rfl⟩
            have hM' : MidS k 0 q bs.length E (lvB bs) o XX (seen ++ [i]) o1 id1 := by
              rw [← hXX]
              exact hM.snoc hi hil (ot_app t1) (ot_app t2) (fun j _ => by rw [lvB_ot, hlvX, st2]) (by rw [st2]) (fun j hj v hv => hnm2 j hj v (by rwa [lvB_ot, hlvX] at hv)) (outB_mono hbX fun b h => ot_app h)
            rw [hXX]
            refine loop_next (cln (bs.length :: kO o1 id1) XX, seen ++ [i], o1, id1) hM'.forget (hms _ rfl hM'.len) (hM'.weak ?_)
            have hXXl : XX.length = X2.length + 1 := by rw [← hXX]; simp
            have := oI_ref hM'.blk
            simp [refs, this]
            omega
          · have h0' : 0 < m := by omega
            have h0i : (1 : Int) ≤ m := by omega
            have h0j : (m : Int) - 1 ≤ A.length := by omega
            have w3 : wrapI .i64 ((m : Int) - 1) = (m : Int) - 1 := wrap_in (by omega) (by omega)
            have htk : List.take (m - 1) (rowsOf strC A) = rowsOf strC (A.take (m - 1)) := by simp [rowsOf, List.map_take]
            have hal : (A.take (m - 1)).length = m - 1 := by simp; omega
            ((try simp -implicitDefEqProofs [-loopQ_n, hk, hg, f1, f2, h0', h0i, h0j, htk, w3, hlast, hln, wdC, memS_0, memS_0E, memS_1, memS_1E, memS_len, memS_snoc, memS_last, memS_lastE, memS_setlast, -List.append_assoc]) <;> (repeat' (first | (refine condD_dec ?_ ?_ <;> (intro hc; (try simp -implicitDefEqProofs [-loopQ_n, hc, hk, hg, f1, f2, h0', h0i, h0j, htk, w3, hlast, hln, wdC, memS_0, memS_0E, memS_1, memS_1E, memS_len, memS_snoc, memS_last, memS_lastE, memS_setlast, -List.append_assoc]))) | (refine guardD_dec ?_ ?_ <;> (intro hc; (try simp -implicitDefEqProofs [-loopQ_n, hc, hk, hg, f1, f2, h0', h0i, h0j, htk, w3, hlast, hln, wdC, memS_0, memS_0E, memS_1, memS_1E, memS_len, memS_snoc, memS_last, memS_lastE, memS_setlast, -List.append_assoc]))) | (refine condD_intro ?_ ?_ <;> (intro hd; have hc := hd; (try simp at hc) <;> (try simp -implicitDefEqProofs [-loopQ_n, hd, hc, hk, hg, f1, f2, h0', h0i, h0j, htk, w3, hlast, hln, wdC, memS_0, memS_0E, memS_1, memS_1E, memS_len, memS_snoc, memS_last, memS_lastE, memS_setlast, -List.append_assoc]))) | (refine guardD_intro ?_ ?_ <;> (intro hd; have hc := hd; (try simp at hc) <;> (try simp -implicitDefEqProofs [-loopQ_n, hd, hc, hk, hg, f1, f2, h0', h0i, h0j, htk, w3, hlast, hln, wdC, memS_0, memS_0E, memS_1, memS_1E, memS_len, memS_snoc, memS_last, memS_lastE, memS_setlast, -List.append_assoc]))) | (refine ldD_ep ?_ ?_; (focus kernel_rfl); (try simp -implicitDefEqProofs [-loopQ_n, hk, hg, f1, f2, h0', h0i, h0j, htk, w3, hlast, hln, wdC, memS_0, memS_0E, memS_1, memS_1E, memS_len, memS_snoc, memS_last, memS_lastE, memS_setlast, -List.append_assoc])))))
            have st2 : stP m k (lvB X, o1) (wat E i) = (updL (lvB X) (m - 1) (aW (A.take (m - 1)) c (lvB X (m - 1))), o1) := by rw [hwa]; unfold stP; rw [if_neg hk, if_pos h0']
            have hnt : nmW (A.take (m - 1)) := fun s hs => v4 s (List.mem_of_mem_take hs)
            obtain ⟨bx, hbx⟩ : ∃ bx : Blk, bx = .box 97 [.rs (rowsOf strC A), .int .i64 c] := ⟨_, rfl⟩
            have hlvB : ∀ j, lvB (X2 ++ [.ot bx]) j = lvB X j := fun j => by rw [lvB_ot, hlvX]
            have hbd : Bd (X2 ++ [.ot bx]) m (314572800 * (1 + (seen.length : Int))) := fun j hj v hv => hM.nm j hj v (by rwa [hlvB] at hv)
            rw [← hbx]
            refine callG_intro (add_G (bs := X2 ++ [BE.ot bx]) (w := A.take (m - 1)) (n := c) (by omega) hnt (by omega) (by omega) (fun v hv => ?_) ?_)
            · have := hbd _ (by omega) v hv
              exact ⟨this.1, this.2.1, by omega⟩
            obtain ⟨XX, hXX⟩ : ∃ XX, addS (X2 ++ [.ot bx]) (A.take (m - 1)) c = XX := ⟨_, rfl⟩
            have hM' : MidS k m q bs.length E (lvB bs) o XX (seen ++ [i]) o1 id1 := by
              rw [← hXX]
              refine hM.snoc hi hil (addS_get (ot_app t1) (by simp [kd])) (addS_get (ot_app t2) (by simp only [kd, hal]; intro e; simp at e; omega)) (fun j _ => ?_) (by rw [st2]) (bd_add hbd hnt (by omega) (by omega) (by omega)) (outB_mono hbX fun b h => addS_get (ot_app h) (by simp [kd]))
              rw [lv_addS, hal, st2]
              simp only [updL, hlvB]
            rw [hXX]
            ((try simp -implicitDefEqProofs [-loopQ_n]) <;> (repeat' (first | (refine condD_dec ?_ ?_ <;> (intro hc; (try simp -implicitDefEqProofs [-loopQ_n, hc]))) | (refine guardD_dec ?_ ?_ <;> (intro hc; (try simp -implicitDefEqProofs [-loopQ_n, hc]))) | (refine condD_intro ?_ ?_ <;> (intro hd; have hc := hd; (try simp at hc) <;> (try simp -implicitDefEqProofs [-loopQ_n, hd, hc]))) | (refine guardD_intro ?_ ?_ <;> (intro hd; have hc := hd; (try simp at hc) <;> (try simp -implicitDefEqProofs [-loopQ_n, hd, hc]))) | (refine ldD_ep ?_ ?_; (focus kernel_rfl); (try simp -implicitDefEqProofs [-loopQ_n])))))
            refine loop_next (cln (bs.length :: kO o1 id1) XX, seen ++ [i], o1, id1) hM'.forget (hms _ rfl hM'.len) (hM'.weak ?_)
            have hXXl := (List.getElem?_eq_some_iff.1 hM'.it).1
            have := oI_ref hM'.blk
            simp [refs, this]
            omega
      · intro hall
        have hpm := hM.perm hall
        rw [← hE] at hpm
        ((try simp -implicitDefEqProofs [-loopQ_n, w2]) <;> (repeat' (first | (refine condD_dec ?_ ?_ <;> (intro hc; (try simp -implicitDefEqProofs [-loopQ_n, hc, w2]))) | (refine guardD_dec ?_ ?_ <;> (intro hc; (try simp -implicitDefEqProofs [-loopQ_n, hc, w2]))) | (refine condD_intro ?_ ?_ <;> (intro hd; have hc := hd; (try simp at hc) <;> (try simp -implicitDefEqProofs [-loopQ_n, hd, hc, w2]))) | (refine guardD_intro ?_ ?_ <;> (intro hd; have hc := hd; (try simp at hc) <;> (try simp -implicitDefEqProofs [-loopQ_n, hd, hc, w2]))) | (refine ldD_ep ?_ ?_; (focus kernel_rfl); (try simp -implicitDefEqProofs [-loopQ_n, w2])))))
        refine loop_next (m, cln (kO o1 id1) X, o1, id1) ⟨_, _, inv_step hI hpm (fun j hj => by rw [hM.lv j hj, hE]) (by rw [hM.out, hE]) (fun j hj v hv => (hM.nm j hj v hv).1) hM.blk⟩ (by simp) (weak_cln ?_ (outB_row hM.blk))
        have := oI_ref hM.blk
        simp [refs, this]
        omega
end Go.Proofs.Ytkppfaennogcmaa
