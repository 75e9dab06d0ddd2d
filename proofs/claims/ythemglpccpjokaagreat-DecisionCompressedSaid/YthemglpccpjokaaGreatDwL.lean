/- Of the compressed table: it is equal to the table, compressed once for all, and each of its rows is hit and needed (plain). -/
import Derived.Test.YthemglpccpjokaaGreatDwN
import Derived.Test.YthemglpccpjokaaGreatDwC
namespace Go.Proofs.YthemglpccpjokaaGreat
set_option linter.unusedSimpArgs false
set_option linter.unusedVariables false
set_option linter.unnecessarySimpa false
set_option linter.unusedSectionVars false
open Go.RowKit
variable [Glob]
set_option maxRecDepth 100000
theorem cmpG_with (d : Dec) (R0 : List Rw) : ∀ (i : Nat) (R : List Rw), cmpG (withR d R0) i R = cmpG d i R
  | 0, R => rfl
  | i + 1, R => by
    show (if differA (withR d R) (withR d (R.eraseIdx i)) = none then cmpG (withR d R0) i (R.eraseIdx i) else cmpG (withR d R0) i R) = _
    rw [cmpG_with d R0 i, cmpG_with d R0 i]
    rfl
theorem fault_with {d : Dec} (h : faultE d = 0) {R : List Rw} (hv : decV (withR d R) = true) : faultE (withR d R) = 0 := by
  have := (faultE_ok h).2
  rw [faultE, if_pos hv]
  exact if_neg (show ¬ 10000 < capA 1 d.inputs by omega)
theorem hits_mem (v : List Val) : ∀ (l : List Rw) (i j : Nat) (h : j < l.length), rowT l[j] v = true → ((i + j : Nat) : Int) ∈ hitsA l v i
  | r :: l, i, 0, _, h => by
    have h : rowT r v = true := h
    rw [hitsA, if_pos h]; simp
  | r :: l, i, j + 1, hj, h => by
    have := hits_mem v l (i + 1) j (by simpa using hj) (by simpa using h)
    rw [hitsA, List.mem_append]
    right
    rwa [show i + (j + 1) = i + 1 + j by omega]
theorem stepH_keep : ∀ (H : List Int) (F : List Bool) (j : Nat), F[j]? = some true → (stepH F H)[j]? = some true
  | [], F, j, h => h
  | a :: H, F, j, h => by
    show (stepH (F.set a.toNat true) H)[j]? = some true
    refine stepH_keep H _ j ?_
    have hj := (List.getElem?_eq_some_iff.1 h).1
    rw [List.getElem?_set]
    split
    · rw [if_pos (by omega)]
    · exact h
theorem stepH_hit : ∀ (H : List Int) (F : List Bool) (j : Nat), j < F.length → (j : Int) ∈ H → (stepH F H)[j]? = some true
  | a :: H, F, j, hj, h => by
    show (stepH (F.set a.toNat true) H)[j]? = some true
    rcases List.mem_cons.1 h with e | h
    · refine stepH_keep H _ j ?_
      rw [← e, List.getElem?_set]
      simp [hj]
    · exact stepH_hit H _ j (by simpa using hj) h
theorem flags_hit (d : Dec) (j : Nat) : ∀ (L : List (List Val)) (F : List Bool), j < F.length → (F[j]? = some true ∨ ∃ v ∈ L, (j : Int) ∈ hitsL d v) → (L.foldl (fun F v => stepH F (hitsL d v)) F)[j]? = some true
  | [], F, hj, h => by
    rcases h with h | ⟨v, hv, _⟩
    · exact h
    · cases hv
  | v :: L, F, hj, h => by
    rw [List.foldl_cons]
    refine flags_hit d j L _ (by rw [stepH_len]; exact hj) ?_
    rcases h with h | ⟨u, hu, hm⟩
    · exact .inl (stepH_keep _ _ _ h)
    · rcases List.mem_cons.1 hu with rfl | hu
      · exact .inl (stepH_hit _ _ _ hj hm)
      · exact .inr ⟨u, hu, hm⟩
theorem unL_nil : ∀ (F : List Bool) (i : Nat), (∀ j, j < F.length → F[j]? = some true) → unL F i = []
  | [], _, _ => rfl
  | b :: r, i, h => by
    have hb := h 0 (by simp)
    simp at hb
    rw [unL, hb, if_pos rfl, unL_nil r (i + 1) fun j hj => by have := h (j + 1) (by simpa using hj); simpa using this]
    rfl
theorem erase_idle {v : List Val} : ∀ (R : List Rw) (j : Nat) (h : j < R.length), ¬ rowT R[j] v = true → outsR (R.eraseIdx j) v = outsR R v
  | r :: R, 0, _, h => by
    have h : ¬ rowT r v = true := h
    rw [outsR_neg h]; rfl
  | r :: R, j + 1, hj, h => by
    have ih := erase_idle R j (by simpa using hj) (by simpa using h)
    rw [List.eraseIdx_cons_succ]
    by_cases q : rowT r v = true
    · rw [outsR_pos q, outsR_pos q, ih]
    · rw [outsR_neg q, outsR_neg q, ih]
theorem unused_nil {d : Dec} {R : List Rw} (hm : ∀ j, j < R.length → ¬ Eqv d (R.eraseIdx j) R) : unL (flagsU (withR d R) (allA d.inputs).length) 0 = [] := by
  refine unL_nil _ 0 fun j hj => ?_
  rw [flags_len] at hj
  have hj : j < R.length := hj
  obtain ⟨v, hv, hr⟩ : ∃ v ∈ allA d.inputs, rowT R[j] v = true := by
    by_cases q : ∃ v ∈ allA d.inputs, rowT R[j] v = true
    · exact q
    · refine absurd (fun v hv => ?_) (hm j hj)
      rw [outD_withR, outD_withR, erase_idle R j hj fun h => q ⟨v, hv, h⟩]
  rw [flagsU]
  have htl : (allA (withR d R).inputs).take (allA d.inputs).length = allA d.inputs := List.take_length
  rw [htl]
  refine flags_hit (withR d R) j (allA d.inputs) _ (by simpa [withR] using hj) (.inr ⟨v, hv, ?_⟩)
  have := hits_mem v R 0 j hj hr
  rwa [Nat.zero_add] at this
theorem comp_facts {d : Dec} (h : faultE d = 0) : ∃ R, compO d = .tup [.agg (decC (withR d R)), .int .i64 0] ∧ List.Sublist R d.rows ∧ decV (withR d R) = true ∧ equalO d (withR d R) = .tup [.bool true, .rs [], .int .i64 0] ∧ compO (withR d R) = .tup [.agg (decC (withR d R)), .int .i64 0] ∧
    (∀ j, j < R.length → ∃ w, equalO (withR d R) (withR d (R.eraseIdx j)) = .tup [.bool false, .rs (rowsOf valC w), .int .i64 0] ∧ w.length = d.inputs.length) ∧ unusedO (withR d R) = .tup [.rs [], .int .i64 0] := by
  obtain ⟨hd, hcap⟩ := faultE_ok h
  obtain ⟨R, h1, h2, h3, h4, h5, h6⟩ := comp_law hd
  have hf := fault_with h h6
  refine ⟨R, by rw [compO, if_pos h, h1], h2, h6, ?_, ?_, fun j hj => ?_, ?_⟩
  · rw [equalO, hd, h6]
    simp only [Bool.and_self, if_true]
    rw [if_pos (show d.inputs = (withR d R).inputs from rfl), if_pos hcap]
    have : differA d (withR d R) = none := (differ_none (d := d) (R := d.rows) (S := R)).2 h3.symm
    rw [this]
  · rw [compO, if_pos hf, compD, cmpG_with]
    show AV.tup [.agg (decC (withR (withR d R) (cmpG d R.length R))), .int .i64 0] = _
    rw [h5]
    rfl
  · have h7 : decV (withR d (R.eraseIdx j)) = true := dec_sub hd ((List.eraseIdx_sublist ..).trans h2)
    rw [equalO, h6, h7]
    simp only [Bool.and_self, if_true]
    rw [if_pos (show (withR d R).inputs = (withR d (R.eraseIdx j)).inputs from rfl), if_pos (show capA 1 (withR d R).inputs ≤ 10000 from hcap)]
    cases q : differA (withR d R) (withR d (R.eraseIdx j)) with
    | none => exact absurd (differ_none.1 q).symm (h4 j hj)
    | some w =>
      refine ⟨w, rfl, ?_⟩
      have := (differ_some q).1
      exact ass_len (allA_mem (doms_mem (dec_facts hd).1) w this).1
  · rw [unusedO, if_pos hf]
    show AV.tup [.rs (rowsOf intC (unL (flagsU (withR d R) (allA d.inputs).length) 0)), .int .i64 0] = _
    rw [unused_nil h4]
    rfl
end Go.Proofs.YthemglpccpjokaaGreat
