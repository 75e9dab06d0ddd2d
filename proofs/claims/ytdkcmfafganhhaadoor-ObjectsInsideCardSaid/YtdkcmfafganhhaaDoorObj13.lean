/- The components: lists of numbers, each in a slice of its own. -/
import Derived.Test.YtdkcmfafganhhaaDoorObj9
import Derived.Test.YtdkcmfafganhhaaDoorM3
import Derived.Test.YtdkcmfafganhhaaDoorGrG
namespace Go.Proofs.YtdkcmfafganhhaaDoor
set_option linter.unusedSimpArgs false
set_option linter.unusedVariables false
set_option linter.unnecessarySimpa false
set_option linter.unusedSectionVars false
open Go.RowKit
variable [Glob]
set_option maxRecDepth 100000
def iK (x : Int) : AV := .int .i64 x
def nV (x : Nat) : AV := .int .i64 x
def rowI (l : List Int) : Blk := .row 3 false (rowsOf intC l)
/-- The slices of the lists, each its own; from number 3 on. -/
def osL : Nat → List (List Int) → List (List AV)
  | _, [] => []
  | k, l :: r => [.os k l.length] :: osL (k + 1) r
theorem mf_i (k : Int) (es : List (Int × Nat)) : mfind (false, [0]) (.int .i64 k) (mE iK nV es) 0 = some ((afind k es 0).map fun e => (e.1, nV e.2)) := by
  refine mfind_E (kc := iK) (vc := nV) (ks := (false, [0])) (fun x y => ?_) k es 0
  simp only [keq, iK, eqCs, if_true, Option.some.injEq]
  by_cases h : y = x
  · subst h; simp
  · have : ¬ x = y := fun e => h e.symm
    simp [h, this]
theorem mp_i {k : Int} {j : Nat} {es : List (Int × Nat)} (h : afind k es 0 = none) : mE iK nV es ++ [(.int .i64 k, .int .i64 j)] = mE iK nV (aput es k j) := by
  simp [aput, h, mE, iK, nV]
theorem i_refs {m : Nat} {es : List (Int × Nat)} : refsM m (mE iK nV es) = true := mE_refs (fun x => by simp [iK]) fun x => by simp [nV]
theorem osL_len : ∀ (k : Nat) (ls : List (List Int)), (osL k ls).length = ls.length := by
  intro k ls
  induction ls generalizing k with
  | nil => rfl
  | cons l r ih => simp [osL, ih]
theorem osL_get : ∀ (k : Nat) (ls : List (List Int)) (j : Nat) (x : List Int), ls[j]? = some x → (osL k ls)[j]? = some [.os (j + k) x.length] := by
  intro k ls
  induction ls generalizing k with
  | nil => intro j x h; simp at h
  | cons l r ih =>
    intro j x h
    cases j with
    | zero => simp at h; subst h; simp [osL]
    | succ j => simp only [List.getElem?_cons_succ] at h; simp only [osL, List.getElem?_cons_succ]; rw [ih (k + 1) j x h]; simp; omega
theorem osL_set : ∀ (k : Nat) (ls : List (List Int)) (j : Nat) (x : List Int), (osL k ls).set j [.os (j + k) x.length] = osL k (ls.set j x) := by
  intro k ls
  induction ls generalizing k with
  | nil => intro j x; simp [osL]
  | cons l r ih =>
    intro j x
    cases j with
    | zero => simp [osL]
    | succ j => simp only [osL, List.set_cons_succ]; rw [← ih (k + 1) j x]; congr 4; omega
theorem osL_snoc : ∀ (k : Nat) (ls : List (List Int)) (x : List Int), osL k (ls ++ [x]) = osL k ls ++ [[.os (ls.length + k) x.length]] := by
  intro k ls
  induction ls generalizing k with
  | nil => intro x; simp [osL]
  | cons l r ih => intro x; simp only [List.cons_append, osL, ih, List.length_cons]; congr 5; omega
theorem osL_refs {m : Nat} : ∀ (k : Nat) (ls : List (List Int)), k + ls.length ≤ m → refsR m (osL k ls) = true := by
  intro k ls
  induction ls generalizing k with
  | nil => intro _; rfl
  | cons l r ih =>
    intro h
    simp only [List.length_cons] at h
    have := ih (k + 1) (by omega)
    simp only [refsR] at this ⊢
    simp [osL, refs, this]; omega
theorem cvH_rowI {m n : Nat} {r : List Blk} : ∀ ls : List (List Int), cvH m n (ls.map rowI ++ r) (ls.map rowI) := by
  intro ls
  induction ls with
  | nil => cases r <;> simp [cvH]
  | cons l q ih => exact ⟨⟨rfl, rfl, rfl, rowsOf_refs fun x => by simp [intC, refs]⟩, ih⟩
theorem osL_getE (k : Nat) (ls : List (List Int)) (j : Nat) (h : j < (osL k ls).length) : (osL k ls)[j] = [.os (j + k) (ls[j]'(by rwa [osL_len] at h)).length] := by
  rw [osL_len] at h
  have := osL_get k ls j ls[j] (List.getElem?_eq_getElem h)
  rw [List.getElem?_eq_getElem (by rwa [osL_len])] at this
  simpa using this
theorem rowI_reify {F : List Blk} {n k : Nat} {l : List Int} (h : F[k]? = some (rowI l)) : reify F (n + 2) (.os k l.length) = some (.rs (rowsOf intC l)) := by
  have h1 : (rowsOf intC l).mapM (fun row => row.mapM (reify F (n + 1))) = some (rowsOf intC l) := rowsOf_reify fun x => by simp [intC, reify]
  rw [reify]
  simp only [h, rowI, rowsOf_length, if_true, h1]
  rfl
theorem mapI_get {r : List Blk} {ls : List (List Int)} {j : Nat} (h : j < ls.length) : (ls.map rowI ++ r)[j]? = some (rowI ls[j]) := by
  rw [List.getElem?_append_left (by simpa using h)]; simp [h]
theorem mapI_set {r : List Blk} {ls : List (List Int)} {j : Nat} {b : Blk} (h : j < ls.length) : (ls.map rowI ++ r).set j b = (ls.map rowI).set j b ++ r := by
  rw [List.set_append_left _ _ (by simpa using h)]
theorem rowI_snoc {l : List Int} {i : Int} : Blk.row 3 false (rowsOf intC l ++ [[.int .i64 i]]) = rowI (l ++ [i]) := by simp [rowI, rowsOf, intC]
theorem rowI_one {i : Int} : Blk.row 3 false [[.int .i64 i]] = rowI [i] := by simp [rowI, rowsOf, intC]
theorem rowI_mB {ρ : Nat → Nat} {l : List Int} : mB ρ (rowI l) = rowI l := by
  simp only [rowI, mB, rowsOf, List.map_map]
  congr 1
theorem osL_mL {ρ : Nat → Nat} : ∀ (k : Nat) (ls : List (List Int)), (∀ i, i < k + ls.length → ρ i = i) → (osL k ls).map (mL ρ) = osL k ls := by
  intro k ls
  induction ls generalizing k with
  | nil => intro _; rfl
  | cons l r ih =>
    intro h
    simp only [List.length_cons] at h
    simp only [osL, List.map_cons, mL, mA, h k (by omega)]
    rw [ih (k + 1) fun i hi => h i (by omega)]
theorem mE_mB {ρ : Nat → Nat} {es : List (Int × Nat)} : mB ρ (.map (mE iK nV es)) = .map (mE iK nV es) := by
  simp only [mB, mE, List.map_map]
  congr 1
theorem afind_put {es : List (Int × Nat)} {k : Int} {n : Nat} (h : afind k es 0 = none) (hb : ∀ k j, afind k es 0 = some j → j.2 < n) : ∀ k' j, afind k' (aput es k n) 0 = some j → j.2 < n + 1 := by
  intro k' j hj
  have h1 := alook_put es k k' n
  unfold alook at h1
  rw [hj] at h1
  simp only [Option.map_some] at h1
  split at h1
  · simp at h1; omega
  · cases h2 : afind k' es 0 with
    | none => simp [h2] at h1
    | some e => have := hb _ _ h2; simp [h2] at h1; omega
theorem osL_reify {F : List Blk} {m n : Nat} (hm : m = n + 2) : ∀ (k : Nat) (ls : List (List Int)), (∀ (j : Nat) x, ls[j]? = some x → F[j + k]? = some (rowI x)) →
    (osL k ls).mapM (fun row => row.mapM (reify F m)) = some (ls.map fun l => [.rs (rowsOf intC l)]) := by
  intro k ls
  induction ls generalizing k with
  | nil => intro _; rfl
  | cons l r ih =>
    intro h
    have h0 := h 0 l rfl
    have h1 := ih (k + 1) fun j x hj => by have := h (j + 1) x (by simpa using hj); rwa [show j + (k + 1) = j + 1 + k by omega]
    simp only [Nat.zero_add] at h0
    subst hm
    simp only [osL, List.mapM_cons, h1, List.mapM_nil, rowI_reify h0]
    rfl
set_option maxHeartbeats 8000000 in
theorem ocomp_pure (l : List Obj) (p : List Int) (hp : Pure Tryd.prog 27 [.agg [.rs (rowsOf objC l)]] (.rs (rowsOf intC p))) (hV : objV l = true) (hl : p.length ≤ 2000) :
    Pure Tryd.prog 7 [.agg [.rs (rowsOf objC l)]] (.tup [.rs ((compR 0 p ([], [])).map fun l => [.rs (rowsOf intC l)]), .int .i64 0]) := by
  refine pure_of mixed Tryd.func7 rfl (by kernel_rfl) (of_decide_eq_true rfl) (by kernel_rfl) (vc_run ?_)
  ((try simp -implicitDefEqProofs [-loopQ_n, hV]) <;> (repeat' (first | (refine condD_dec ?_ ?_ <;> (intro hc; (try simp -implicitDefEqProofs [-loopQ_n, hc, hV]))) | (refine guardD_dec ?_ ?_ <;> (intro hc; (try simp -implicitDefEqProofs [-loopQ_n, hc, hV]))) | (refine condD_intro ?_ ?_ <;> (intro hd; have hc := hd; (try simp at hc) <;> (try simp -implicitDefEqProofs [-loopQ_n, hd, hc, hV]))) | (refine guardD_intro ?_ ?_ <;> (intro hd; have hc := hd; (try simp at hc) <;> (try simp -implicitDefEqProofs [-loopQ_n, hd, hc, hV]))) | (refine ldD_ep ?_ ?_; (focus kernel_rfl); (try simp -implicitDefEqProofs [-loopQ_n, hV])) | (refine callS_mk ?_; (try simp -implicitDefEqProofs [-loopQ_n, hV]); (first | refine callS_intro (ovalid_pure _) (.inl rfl) ?_ | refine callS_intro (hp) (.inr ⟨rfl, rfl⟩) ?_); (try simp -implicitDefEqProofs [-loopQ_n, hV])))))
  refine loop_intro (σ := Nat × List (Int × Nat) × List (List Int)) (fun x => ⟨[(4, .os 2 x.2.2.length), (5, .mp 1), (15, .rs (rowsOf intC p)), (16, .int .i64 p.length), (17, .int .i64 x.1)], .gone :: .map (mE iK nV x.2.1) :: .row 70 true (osL 3 x.2.2) :: x.2.2.map rowI⟩)
    (fun x => x.1 ≤ p.length ∧ x.2.2.length ≤ x.1 ∧ (∀ r ∈ x.2.2, r.length ≤ x.1) ∧ (∀ k j, afind k x.2.1 0 = some j → j.2 < x.2.2.length) ∧ compR x.1 (p.drop x.1) x.2 = compR 0 p ([], [])) (fun x => p.length - x.1) (0, [], []) ⟨by simp, by simp, by simp, by simp [afind], by simp⟩ ?_ ?_
  · refine weak_of 2 1 rfl rfl ?_ ?_ <;> simp [mE, refsM, osL]
  · rintro ⟨i, es, ls⟩ ⟨hi, hsz, hln, hbd, hR⟩
    simp only at hi hR hsz hln hbd
    have hll : ∀ r ∈ ls, r.length ≤ 1073741823 := fun r hr => by have := hln r hr; omega
    by_cases h : i < p.length
    · have w1 := w_succ h (by omega)
      rw [List.drop_eq_getElem_cons h] at hR
      simp only [compR] at hR
      cases hf : afind p[i] es 0 with
      | some e =>
        obtain ⟨q, j⟩ := e
        have hj := hbd _ _ hf
        simp only at hj
        obtain ⟨lj, hlj⟩ : ∃ x, ls[j]? = some x := ⟨_, List.getElem?_eq_getElem hj⟩
        have hg := osL_get 3 ls j lj hlj
        have hj0 : (j : Int) < ls.length := by omega
        have hlj' : ls[j] = lj := by simpa [hj] using hlj
        have hll : lj.length ≤ 1073741823 := hll _ (List.mem_of_getElem? hlj)
        ((try simp -implicitDefEqProofs [-loopQ_n, h, hf, mf_i, osL_len, osL_getE, hlj', mapI_get, mapI_set, rowI, nV, hj, hj0, hll]) <;> (repeat' (first | (refine condD_dec ?_ ?_ <;> (intro hc; (try simp -implicitDefEqProofs [-loopQ_n, hc, h, hf, mf_i, osL_len, osL_getE, hlj', mapI_get, mapI_set, rowI, nV, hj, hj0, hll]))) | (refine guardD_dec ?_ ?_ <;> (intro hc; (try simp -implicitDefEqProofs [-loopQ_n, hc, h, hf, mf_i, osL_len, osL_getE, hlj', mapI_get, mapI_set, rowI, nV, hj, hj0, hll]))) | (refine condD_intro ?_ ?_ <;> (intro hd; have hc := hd; (try simp at hc) <;> (try simp -implicitDefEqProofs [-loopQ_n, hd, hc, h, hf, mf_i, osL_len, osL_getE, hlj', mapI_get, mapI_set, rowI, nV, hj, hj0, hll]))) | (refine guardD_intro ?_ ?_ <;> (intro hd; have hc := hd; (try simp at hc) <;> (try simp -implicitDefEqProofs [-loopQ_n, hd, hc, h, hf, mf_i, osL_len, osL_getE, hlj', mapI_get, mapI_set, rowI, nV, hj, hj0, hll]))) | (refine ldD_ep ?_ ?_; (focus kernel_rfl); (try simp -implicitDefEqProofs [-loopQ_n, h, hf, mf_i, osL_len, osL_getE, hlj', mapI_get, mapI_set, rowI, nV, hj, hj0, hll])))))
        rw [rowI_snoc, show [AV.os (j + 3) (lj.length + 1)] = [AV.os (j + 3) (lj ++ [(i : Int)]).length] by simp, osL_set, ← List.map_set]
        refine loop_next (i + 1, es, ls.set j (lj ++ [(i : Int)])) ⟨by simp only; omega, by simp; omega, fun r hr => ?_, by simpa using hbd, ?_⟩ (by simp only; omega) (weak_of (3 + ls.length) 0 (by simp; omega) (by simp; omega) ?_ ?_)
        · rcases List.mem_or_eq_of_mem_set hr with hr | rfl
          · have := hln r hr; simp only; omega
          · have := hln lj (List.mem_of_getElem? hlj); simp; omega
        · rw [← hR]
          have : alook es p[i] = some j := by unfold alook; rw [hf]; rfl
          simp only [compStep, this]
          simp [hlj]
        · simp [w1, refs]; omega
        · simp [-List.map_set, -refsM, i_refs, osL_refs, cvH_rowI]
      | none =>
        have hsz2 : ls.length ≤ 1073741823 := by omega
        ((try simp -implicitDefEqProofs [-loopQ_n, h, hf, mf_i, osL_len, mp_i hf, hsz2]) <;> (repeat' (first | (refine condD_dec ?_ ?_ <;> (intro hc; (try simp -implicitDefEqProofs [-loopQ_n, hc, h, hf, mf_i, osL_len, mp_i hf, hsz2]))) | (refine guardD_dec ?_ ?_ <;> (intro hc; (try simp -implicitDefEqProofs [-loopQ_n, hc, h, hf, mf_i, osL_len, mp_i hf, hsz2]))) | (refine condD_intro ?_ ?_ <;> (intro hd; have hc := hd; (try simp at hc) <;> (try simp -implicitDefEqProofs [-loopQ_n, hd, hc, h, hf, mf_i, osL_len, mp_i hf, hsz2]))) | (refine guardD_intro ?_ ?_ <;> (intro hd; have hc := hd; (try simp at hc) <;> (try simp -implicitDefEqProofs [-loopQ_n, hd, hc, h, hf, mf_i, osL_len, mp_i hf, hsz2]))) | (refine ldD_ep ?_ ?_; (focus kernel_rfl); (try simp -implicitDefEqProofs [-loopQ_n, h, hf, mf_i, osL_len, mp_i hf, hsz2])))))
        refine loop_next (i + 1, aput es p[i] ls.length, ls ++ [[(i : Int)]]) ⟨by simp only; omega, by simp; omega, fun r hr => ?_, ?_, ?_⟩ (by simp only; omega) (weak_new (ls.length + 3) 2 (.gone :: .map (mE iK nV (aput es p[i] ls.length)) :: .row 70 true (osL 3 (ls ++ [[(i : Int)]])) :: ls.map rowI) (rowI [(i : Int)]) (by simp) (by simp) (by simp) fun ρ h1 h2 => ⟨?_, ?_, ?_⟩)
        · simp only [List.mem_append, List.mem_singleton] at hr
          rcases hr with hr | rfl
          · have := hln r hr; simp only; omega
          · simp
        · have := afind_put hf hbd
          simpa using this
        · rw [← hR]
          have : alook es p[i] = none := by unfold alook; rw [hf]; rfl
          simp only [compStep, this]
        · have e1 : (osL 3 ls).map (mL ρ) = osL 3 ls := osL_mL 3 ls fun i hi => h1 i (by omega)
          have e2 : (List.map (mB ρ) (ls.map rowI)) = ls.map rowI := by rw [List.map_map]; exact List.map_congr_left fun x _ => rowI_mB
          simp only [List.map_cons, mE_mB, e2, osL_snoc, mB, List.map_append, e1, List.map_nil, mL, mA, h2]
          have e3 := mE_mB (ρ := ρ) (es := aput es p[i] ls.length)
          simp only [mB, Blk.map.injEq] at e3
          simp [e3]
        · simp [-mB, rowI_mB, rowI_one]
        · simp [tEq, w1, mA, h1]
    · rw [List.drop_eq_nil_of_le (by omega)] at hR
      have hR : ls = compR 0 p ([], []) := hR
      have := osL_reify (m := 6) (n := 4) rfl (F := .gone :: .map (mE iK nV es) :: .row 70 true (osL 3 ls) :: ls.map rowI) 3 ls fun j x hj => by simp [hj]
      rw [← hR]
      ((try simp -implicitDefEqProofs [-loopQ_n, h, this, osL_len]) <;> (repeat' (first | (refine condD_dec ?_ ?_ <;> (intro hc; (try simp -implicitDefEqProofs [-loopQ_n, hc, h, this, osL_len]))) | (refine guardD_dec ?_ ?_ <;> (intro hc; (try simp -implicitDefEqProofs [-loopQ_n, hc, h, this, osL_len]))) | (refine condD_intro ?_ ?_ <;> (intro hd; have hc := hd; (try simp at hc) <;> (try simp -implicitDefEqProofs [-loopQ_n, hd, hc, h, this, osL_len]))) | (refine guardD_intro ?_ ?_ <;> (intro hd; have hc := hd; (try simp at hc) <;> (try simp -implicitDefEqProofs [-loopQ_n, hd, hc, h, this, osL_len]))) | (refine ldD_ep ?_ ?_; (focus kernel_rfl); (try simp -implicitDefEqProofs [-loopQ_n, h, this, osL_len])))))
end Go.Proofs.YtdkcmfafganhhaaDoor
