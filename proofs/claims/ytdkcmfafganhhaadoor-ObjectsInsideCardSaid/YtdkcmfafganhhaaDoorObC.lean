/- The reference's components, and the cases of both sides. -/
import Derived.Test.YtdkcmfafganhhaaDoorObN
import Derived.Test.YtdkcmfafganhhaaDoorObj12
import Derived.Test.YtdkcmfafganhhaaDoorIta
namespace Go.Proofs.YtdkcmfafganhhaaDoor
set_option linter.unusedSimpArgs false
set_option linter.unusedVariables false
set_option linter.unnecessarySimpa false
set_option linter.unusedSectionVars false
open Go.RowKit
variable [Glob]
set_option maxRecDepth 100000
theorem numL_len {p : List Nat} {n : Nat} : (numL p n).length = n := by simp [numL]
theorem numL_get {p : List Nat} {n i : Nat} (h : i < n) : (numL p n)[i]'(by rw [numL_len]; exact h) = (numP p i : Int) := by simp [numL]
set_option maxHeartbeats 32000000 in
theorem rcomp_pure (l : List Obj) (hV : objV l = true) (p : List Nat) (hp : isParts (shareR l) l.length p) : Pure Tryd.prog 11 [.agg [.rs (rowsOf objC l)]] (.rs ((compR 0 (nI p) ([], [])).map fun l => [.rs (rowsOf intC l)])) := by
  have hN := rnumbers_pure l hV p hp
  have hln := (objV_small hV).1
  have hnl : (numL p l.length).length = l.length := numL_len
  have hng : ∀ i (h : i < l.length), (numL p l.length)[i]'(by rw [hnl]; exact h) = (numP p i : Int) := fun i h => numL_get h
  obtain ⟨N, hNN⟩ : ∃ N, numL p l.length = N := ⟨_, rfl⟩
  simp only [hNN] at hN hnl hng
  obtain ⟨C, hC⟩ : ∃ C, compR 0 (nI p) ([], []) = C := ⟨_, rfl⟩
  have hst := CInv.start (p := p)
  rw [hC] at hst ⊢
  refine pure_M [8] mixed Tryd.func11 rfl (by kernel_rfl) (of_decide_eq_true rfl) (by kernel_rfl) (vc_run ?_)
  ((try simp -implicitDefEqProofs [-loopQ_n]) <;> (repeat' (first | (refine condD_dec ?_ ?_ <;> (intro hc; (try simp -implicitDefEqProofs [-loopQ_n, hc]))) | (refine guardD_dec ?_ ?_ <;> (intro hc; (try simp -implicitDefEqProofs [-loopQ_n, hc]))) | (refine condD_intro ?_ ?_ <;> (intro hd; have hc := hd; (try simp at hc) <;> (try simp -implicitDefEqProofs [-loopQ_n, hd, hc]))) | (refine guardD_intro ?_ ?_ <;> (intro hd; have hc := hd; (try simp at hc) <;> (try simp -implicitDefEqProofs [-loopQ_n, hd, hc]))) | (refine ldD_ep ?_ ?_; (focus kernel_rfl); (try simp -implicitDefEqProofs [-loopQ_n])) | ((first | (refine ld2_op ?_ ?_; (focus kernel_rfl)) | (refine ld2_ep ?_ ?_; (focus kernel_rfl)) | (refine nbx_intro ?_ ?_; (focus kernel_rfl)) | (refine nbx_fin ?_; (focus kernel_rfl))); (try simp -implicitDefEqProofs [-loopQ_n])) | (refine callS_mk ?_; (try simp -implicitDefEqProofs [-loopQ_n]); (first | refine callS_intro (hN) (.inr ⟨rfl, rfl⟩) ?_); (try simp -implicitDefEqProofs [-loopQ_n])))))
  refine loop_intro (σ := Nat × List (List Int)) (fun x => ⟨[(3, .os 1 x.2.length), (4, .rs (rowsOf intC N)), (5, .int .i64 x.1)], .gone :: .row 70 true (osL 2 x.2) :: x.2.map rowI⟩)
    (fun x => x.1 ≤ l.length ∧ x.2.length ≤ x.1 ∧ (∀ r ∈ x.2, r.length ≤ x.1) ∧ CInv p x.1 x.2 C) (fun x => l.length - x.1) (0, []) ⟨by simp, by simp, by simp, hst⟩ ?_ ?_
  · refine weak_of 1 1 rfl rfl ?_ ?_ <;> simp [osL, intN_refs]
  rintro ⟨i, ls⟩ ⟨hi, hsz, hlr, hR⟩
  simp only at hi hsz hlr hR
  by_cases h : i < l.length
  · have w1 := w_succ h (by omega)
    have hiN : i < N.length := by omega
    have hx := hng i h
    rcases CInv.step hp h hR with ⟨hv, hR'⟩ | ⟨hv, lj, hlj, hR'⟩
    · rw [hv] at hx
      have hl1 : ls.length ≤ 1073741823 := by omega
      ((try simp -implicitDefEqProofs [-loopQ_n, hnl, h, hiN, hx, intC, hl1, osL_len, osL_getE, mapI_get, mapI_set]) <;> (repeat' (first | (refine condD_dec ?_ ?_ <;> (intro hc; (try simp -implicitDefEqProofs [-loopQ_n, hc, hnl, h, hiN, hx, intC, hl1, osL_len, osL_getE, mapI_get, mapI_set]))) | (refine guardD_dec ?_ ?_ <;> (intro hc; (try simp -implicitDefEqProofs [-loopQ_n, hc, hnl, h, hiN, hx, intC, hl1, osL_len, osL_getE, mapI_get, mapI_set]))) | (refine condD_intro ?_ ?_ <;> (intro hd; have hc := hd; (try simp at hc) <;> (try simp -implicitDefEqProofs [-loopQ_n, hd, hc, hnl, h, hiN, hx, intC, hl1, osL_len, osL_getE, mapI_get, mapI_set]))) | (refine guardD_intro ?_ ?_ <;> (intro hd; have hc := hd; (try simp at hc) <;> (try simp -implicitDefEqProofs [-loopQ_n, hd, hc, hnl, h, hiN, hx, intC, hl1, osL_len, osL_getE, mapI_get, mapI_set]))) | (refine ldD_ep ?_ ?_; (focus kernel_rfl); (try simp -implicitDefEqProofs [-loopQ_n, hnl, h, hiN, hx, intC, hl1, osL_len, osL_getE, mapI_get, mapI_set])) | ((first | (refine ld2_op ?_ ?_; (focus kernel_rfl)) | (refine ld2_ep ?_ ?_; (focus kernel_rfl)) | (refine nbx_intro ?_ ?_; (focus kernel_rfl)) | (refine nbx_fin ?_; (focus kernel_rfl))); (try simp -implicitDefEqProofs [-loopQ_n, hnl, h, hiN, hx, intC, hl1, osL_len, osL_getE, mapI_get, mapI_set])))))
      refine loop_next (i + 1, ls ++ [[(i : Int)]]) ⟨h, by simp; omega, fun r hr => ?_, hR'⟩ (by simp only; omega) (weak_new (ls.length + 2) 2 (.gone :: .row 70 true (osL 2 (ls ++ [[(i : Int)]])) :: ls.map rowI) (rowI [(i : Int)]) (by simp) (by simp) (by simp) fun ρ h1 h2 => ⟨?_, ?_, ?_⟩)
      · simp only [List.mem_append, List.mem_singleton] at hr
        rcases hr with hr | rfl
        · have := hlr r hr; simp only; omega
        · simp
      · have e1 : (osL 2 ls).map (mL ρ) = osL 2 ls := osL_mL 2 ls fun i hi => h1 i (by omega)
        have e2 : (List.map (mB ρ) (ls.map rowI)) = ls.map rowI := by rw [List.map_map]; exact List.map_congr_left fun x _ => rowI_mB
        simp only [List.map_cons, e2, osL_snoc, mB, List.map_append, e1, List.map_nil, mL, mA, h2]
        simp
      · simp [-mB, rowI_mB, rowI_one]
      · simp [tEq, w1, mA, h1]
    · have hne : ¬ numP p i = ls.length := by omega
      obtain ⟨v, hvv⟩ : ∃ v, numP p i = v := ⟨_, rfl⟩
      rw [hvv] at hx hv hlj hR'
      have hne : ¬ v = ls.length := by omega
      have hneI : ¬ (v : Int) = (ls.length : Int) := by omega
      have hg := osL_get 2 ls v lj hlj
      have hlj' : ls[v] = lj := by simpa [hv] using hlj
      have hll : lj.length ≤ 1073741823 := by have := hlr lj (List.mem_of_getElem? hlj); omega
      ((try simp -implicitDefEqProofs [-loopQ_n, hnl, h, hiN, hx, hne, hneI, hv, intC, osL_len, osL_getE, hlj', mapI_get, mapI_set, rowI, hll]) <;> (repeat' (first | (refine condD_dec ?_ ?_ <;> (intro hc; (try simp -implicitDefEqProofs [-loopQ_n, hc, hnl, h, hiN, hx, hne, hneI, hv, intC, osL_len, osL_getE, hlj', mapI_get, mapI_set, rowI, hll]))) | (refine guardD_dec ?_ ?_ <;> (intro hc; (try simp -implicitDefEqProofs [-loopQ_n, hc, hnl, h, hiN, hx, hne, hneI, hv, intC, osL_len, osL_getE, hlj', mapI_get, mapI_set, rowI, hll]))) | (refine condD_intro ?_ ?_ <;> (intro hd; have hc := hd; (try simp at hc) <;> (try simp -implicitDefEqProofs [-loopQ_n, hd, hc, hnl, h, hiN, hx, hne, hneI, hv, intC, osL_len, osL_getE, hlj', mapI_get, mapI_set, rowI, hll]))) | (refine guardD_intro ?_ ?_ <;> (intro hd; have hc := hd; (try simp at hc) <;> (try simp -implicitDefEqProofs [-loopQ_n, hd, hc, hnl, h, hiN, hx, hne, hneI, hv, intC, osL_len, osL_getE, hlj', mapI_get, mapI_set, rowI, hll]))) | (refine ldD_ep ?_ ?_; (focus kernel_rfl); (try simp -implicitDefEqProofs [-loopQ_n, hnl, h, hiN, hx, hne, hneI, hv, intC, osL_len, osL_getE, hlj', mapI_get, mapI_set, rowI, hll])) | ((first | (refine ld2_op ?_ ?_; (focus kernel_rfl)) | (refine ld2_ep ?_ ?_; (focus kernel_rfl)) | (refine nbx_intro ?_ ?_; (focus kernel_rfl)) | (refine nbx_fin ?_; (focus kernel_rfl))); (try simp -implicitDefEqProofs [-loopQ_n, hnl, h, hiN, hx, hne, hneI, hv, intC, osL_len, osL_getE, hlj', mapI_get, mapI_set, rowI, hll])))))
      rw [rowI_snoc, show [AV.os (v + 2) (lj.length + 1)] = [AV.os (v + 2) (lj ++ [(i : Int)]).length] by simp, osL_set, ← List.map_set]
      refine loop_next (i + 1, ls.set v (lj ++ [(i : Int)])) ⟨h, by simp; omega, fun r hr => ?_, hR'⟩ (by simp only; omega) (weak_of (2 + ls.length) 0 (by simp; omega) (by simp; omega) ?_ ?_)
      · rcases List.mem_or_eq_of_mem_set hr with hr | rfl
        · have := hlr r hr; simp only; omega
        · have := hlr lj (List.mem_of_getElem? hlj); simp; omega
      · simp [w1, refs, intN_refs]; omega
      · simp [-List.map_set, -refsM, osL_refs, cvH_rowI]
  · have hie : i = l.length := by omega
    have hR2 : CInv p l.length ls C := hie ▸ hR
    have hfin := CInv.fin hp hR2
    subst hfin
    have := osL_reify (m := 7) (n := 5) rfl (F := .gone :: .row 70 true (osL 2 ls) :: ls.map rowI) 2 ls fun j x hj => by simp [hj]
    ((try simp -implicitDefEqProofs [-loopQ_n, hnl, h, this, osL_len]) <;> (repeat' (first | (refine condD_dec ?_ ?_ <;> (intro hc; (try simp -implicitDefEqProofs [-loopQ_n, hc, hnl, h, this, osL_len]))) | (refine guardD_dec ?_ ?_ <;> (intro hc; (try simp -implicitDefEqProofs [-loopQ_n, hc, hnl, h, this, osL_len]))) | (refine condD_intro ?_ ?_ <;> (intro hd; have hc := hd; (try simp at hc) <;> (try simp -implicitDefEqProofs [-loopQ_n, hd, hc, hnl, h, this, osL_len]))) | (refine guardD_intro ?_ ?_ <;> (intro hd; have hc := hd; (try simp at hc) <;> (try simp -implicitDefEqProofs [-loopQ_n, hd, hc, hnl, h, this, osL_len]))) | (refine ldD_ep ?_ ?_; (focus kernel_rfl); (try simp -implicitDefEqProofs [-loopQ_n, hnl, h, this, osL_len])) | ((first | (refine ld2_op ?_ ?_; (focus kernel_rfl)) | (refine ld2_ep ?_ ?_; (focus kernel_rfl)) | (refine nbx_intro ?_ ?_; (focus kernel_rfl)) | (refine nbx_fin ?_; (focus kernel_rfl))); (try simp -implicitDefEqProofs [-loopQ_n, hnl, h, this, osL_len])))))
/-! The cases: one for each component. -/
def cB (v : Nat) : ByteArray := sb (99 :: Lib.decDigits (v + 1))
def evN (o : Obj) (v : Nat) : Evt := mkE o.act o.time (cB v)
def casN (p : List Nat) : Nat → List Obj → List Evt
  | _, [] => []
  | i, o :: r => evN o (numP p i) :: casN p (i + 1) r
theorem casN_len {p : List Nat} : ∀ (l : List Obj) (i : Nat), (casN p i l).length = l.length := by
  intro l
  induction l with
  | nil => intro i; rfl
  | cons o r ih => intro i; simp [casN, ih]
theorem cB_size {v : Nat} (h : v ≤ 2000) : (cB v).size ≤ 2003 := by
  unfold cB
  rw [sb_size]
  have := dec_len (v + 1)
  simp only [List.length_cons]
  omega
theorem cB_app (v : Nat) : (⟨#[99]⟩ : ByteArray) ++ sb (Lib.decDigits (v + 1)) = cB v := by
  unfold cB
  rw [show (⟨#[99]⟩ : ByteArray) = sb [99] from rfl, sb_app]
  rfl
set_option maxHeartbeats 32000000 in
theorem rcases_pure (l : List Obj) (hV : objV l = true) (p : List Nat) (hp : isParts (shareR l) l.length p) : Pure Tryd.prog 13 [.agg [.rs (rowsOf objC l)]] (.agg [.rs (rowsOf evtC (casN p 0 l))]) := by
  have hN := rnumbers_pure l hV p hp
  have hln := (objV_small hV).1
  have hnl : (numL p l.length).length = l.length := numL_len
  have hng : ∀ i (h : i < l.length), (numL p l.length)[i]'(by rw [hnl]; exact h) = (numP p i : Int) := fun i h => numL_get h
  have hnb : ∀ i, i < l.length → numP p i ≤ i := fun i h => num_le hp h
  obtain ⟨N, hNN⟩ : ∃ N, numL p l.length = N := ⟨_, rfl⟩
  simp only [hNN] at hN hnl hng
  obtain ⟨E, hE⟩ : ∃ E, casN p 0 l = E := ⟨_, rfl⟩
  rw [hE]
  refine pure_of mixed Tryd.func13 rfl (by kernel_rfl) (of_decide_eq_true rfl) (by kernel_rfl) (vc_run ?_)
  ((try simp -implicitDefEqProofs [-loopQ_n]) <;> (repeat' (first | (refine condD_dec ?_ ?_ <;> (intro hc; (try simp -implicitDefEqProofs [-loopQ_n, hc]))) | (refine guardD_dec ?_ ?_ <;> (intro hc; (try simp -implicitDefEqProofs [-loopQ_n, hc]))) | (refine condD_intro ?_ ?_ <;> (intro hd; have hc := hd; (try simp at hc) <;> (try simp -implicitDefEqProofs [-loopQ_n, hd, hc]))) | (refine guardD_intro ?_ ?_ <;> (intro hd; have hc := hd; (try simp at hc) <;> (try simp -implicitDefEqProofs [-loopQ_n, hd, hc]))) | (refine ldD_ep ?_ ?_; (focus kernel_rfl); (try simp -implicitDefEqProofs [-loopQ_n])) | (refine callS_mk ?_; (try simp -implicitDefEqProofs [-loopQ_n]); (first | refine callS_intro (hN) (.inr ⟨rfl, rfl⟩) ?_); (try simp -implicitDefEqProofs [-loopQ_n])))))
  refine loop_intro (σ := Nat × List Evt) (fun x => ⟨[(1, .op 0 0), (2, .op 1 0), (3, .op 2 0), (4, .rs (rowsOf intC N)), (5, .int .i64 x.1)], [.box 24 [.rs (rowsOf objC l)], .box 33 [.nils], .box 33 [.os 3 x.2.length], .row 51 true (rowsOf evtC x.2)]⟩)
    (fun x => x.1 ≤ l.length ∧ x.2.length ≤ x.1 ∧ x.2 ++ casN p x.1 (l.drop x.1) = E) (fun x => l.length - x.1) (0, []) ⟨by simp, by simp, by simpa using hE⟩ ?_ ?_
  · refine weak_of 3 1 rfl rfl ?_ ?_ <;> simp [objN_refs, intN_refs, rowsOf_nil]
  rintro ⟨i, acc⟩ ⟨hi, hal, hR⟩
  simp only at hi hal hR
  by_cases h : i < l.length
  · have w1 := w_succ h (by omega)
    have hiN : i < N.length := by omega
    have hx := hng i h
    have hvb := hnb i h
    obtain ⟨v, hvv⟩ : ∃ v, numP p i = v := ⟨_, rfl⟩
    rw [List.drop_eq_getElem_cons h, casN, hvv] at hR
    rw [hvv] at hx hvb
    obtain ⟨⟨act, time, rf⟩, hf⟩ : ∃ e, l[i] = e := ⟨_, rfl⟩
    rw [hf] at hR
    have wv : wrapI .i64 ((v : Int) + 1) = ((v + 1 : Nat) : Int) := by rw [wrap_in (by omega) (by omega)]; omega
    have hD := rdec_pure (v + 1) (by omega)
    have hA := cB_app v
    have hsz := cB_size (v := v) (by omega)
    have hM := rplain_pure act time rf (cB v)
    have hds : (sb (Lib.decDigits (v + 1))).size ≤ 2002 := by
      rw [sb_size]
      have := dec_len (v + 1)
      omega
    obtain ⟨D, hDD⟩ : ∃ D, sb (Lib.decDigits (v + 1)) = D := ⟨_, rfl⟩
    rw [hDD] at hD hA hds
    obtain ⟨m, hm⟩ : ∃ m, v + 1 = m := ⟨_, rfl⟩
    rw [hm] at hD wv
    have hl1 : acc.length ≤ 1073741823 := by omega
    have hd2 : (⟨#[99]⟩ : ByteArray).size + D.size ≤ 1073741824 := by show 1 + D.size ≤ _; omega
    have hev : evtC (mkE act time (cB v)) = evtC (evN ⟨act, time, rf⟩ v) := rfl
    ((try simp -implicitDefEqProofs [-loopQ_n, hnl, h, hiN, hx, hf, objC, intC, wv, hA, hd2, hl1, evtC_len, evt_snoc, w1]) <;> (repeat' (first | (refine condD_dec ?_ ?_ <;> (intro hc; (try simp -implicitDefEqProofs [-loopQ_n, hc, hnl, h, hiN, hx, hf, objC, intC, wv, hA, hd2, hl1, evtC_len, evt_snoc, w1]))) | (refine guardD_dec ?_ ?_ <;> (intro hc; (try simp -implicitDefEqProofs [-loopQ_n, hc, hnl, h, hiN, hx, hf, objC, intC, wv, hA, hd2, hl1, evtC_len, evt_snoc, w1]))) | (refine condD_intro ?_ ?_ <;> (intro hd; have hc := hd; (try simp at hc) <;> (try simp -implicitDefEqProofs [-loopQ_n, hd, hc, hnl, h, hiN, hx, hf, objC, intC, wv, hA, hd2, hl1, evtC_len, evt_snoc, w1]))) | (refine guardD_intro ?_ ?_ <;> (intro hd; have hc := hd; (try simp at hc) <;> (try simp -implicitDefEqProofs [-loopQ_n, hd, hc, hnl, h, hiN, hx, hf, objC, intC, wv, hA, hd2, hl1, evtC_len, evt_snoc, w1]))) | (refine ldD_ep ?_ ?_; (focus kernel_rfl); (try simp -implicitDefEqProofs [-loopQ_n, hnl, h, hiN, hx, hf, objC, intC, wv, hA, hd2, hl1, evtC_len, evt_snoc, w1])) | (refine callS_mk ?_; (try simp -implicitDefEqProofs [-loopQ_n, hnl, h, hiN, hx, hf, objC, intC, wv, hA, hd2, hl1, evtC_len, evt_snoc, w1]); (first | refine callS_intro (hD) (.inl rfl) ?_ | refine callS_intro (hM) (.inr ⟨rfl, rfl⟩) ?_); (try simp -implicitDefEqProofs [-loopQ_n, hnl, h, hiN, hx, hf, objC, intC, wv, hA, hd2, hl1, evtC_len, evt_snoc, w1])))))
    refine loop_next (i + 1, acc ++ [mkE act time (cB v)]) ⟨h, by simp; omega, by simpa [evN] using hR⟩ (by simp only; omega) (weak_of 4 0 rfl rfl ?_ ?_) <;> simp [objN_refs, intN_refs, evt_refsR, w1, refs]
  · rw [List.drop_eq_nil_of_le (by omega), casN, List.append_nil] at hR
    subst hR
    ((try simp -implicitDefEqProofs [-loopQ_n, hnl, h, evt_reify, rowsOf_length]) <;> (repeat' (first | (refine condD_dec ?_ ?_ <;> (intro hc; (try simp -implicitDefEqProofs [-loopQ_n, hc, hnl, h, evt_reify, rowsOf_length]))) | (refine guardD_dec ?_ ?_ <;> (intro hc; (try simp -implicitDefEqProofs [-loopQ_n, hc, hnl, h, evt_reify, rowsOf_length]))) | (refine condD_intro ?_ ?_ <;> (intro hd; have hc := hd; (try simp at hc) <;> (try simp -implicitDefEqProofs [-loopQ_n, hd, hc, hnl, h, evt_reify, rowsOf_length]))) | (refine guardD_intro ?_ ?_ <;> (intro hd; have hc := hd; (try simp at hc) <;> (try simp -implicitDefEqProofs [-loopQ_n, hd, hc, hnl, h, evt_reify, rowsOf_length]))) | (refine ldD_ep ?_ ?_; (focus kernel_rfl); (try simp -implicitDefEqProofs [-loopQ_n, hnl, h, evt_reify, rowsOf_length])))))
theorem afind_new {es : List (Int × Nat)} {k : Int} {v : Nat} (h : afind k es 0 = none) : afind k (aput es k v) 0 = some (es.length, v) := by
  have key : ∀ (r : List (Int × Nat)) (i : Nat), afind k r i = none → afind k (r ++ [(k, v)]) i = some (i + r.length, v) := by
    intro r
    induction r with
    | nil => intro i _; simp [afind]
    | cons e r ih =>
      intro i h
      simp only [afind] at h
      by_cases q : e.1 = k
      · rw [if_pos q] at h; cases h
      · rw [if_neg q] at h
        simp only [List.cons_append, afind]
        rw [if_neg q, ih (i + 1) h]
        simp only [List.length_cons]
        congr 2
        omega
  unfold aput
  rw [h]
  have := key es 0 h
  simpa using this
theorem ocases_bad (l : List Obj) (hV : objV l = false) : Pure Tryd.prog 8 [.agg [.rs (rowsOf objC l)]] (.tup [.agg [.rs []], .int .i64 1]) := by
  refine pure_of mixed Tryd.func8 rfl (by kernel_rfl) (of_decide_eq_true rfl) (by kernel_rfl) (vc_run ?_)
  ((try simp -implicitDefEqProofs [-loopQ_n, hV]) <;> (repeat' (first | (refine condD_dec ?_ ?_ <;> (intro hc; (try simp -implicitDefEqProofs [-loopQ_n, hc, hV]))) | (refine guardD_dec ?_ ?_ <;> (intro hc; (try simp -implicitDefEqProofs [-loopQ_n, hc, hV]))) | (refine condD_intro ?_ ?_ <;> (intro hd; have hc := hd; (try simp at hc) <;> (try simp -implicitDefEqProofs [-loopQ_n, hd, hc, hV]))) | (refine guardD_intro ?_ ?_ <;> (intro hd; have hc := hd; (try simp at hc) <;> (try simp -implicitDefEqProofs [-loopQ_n, hd, hc, hV]))) | (refine ldD_ep ?_ ?_; (focus kernel_rfl); (try simp -implicitDefEqProofs [-loopQ_n, hV])) | (refine callS_mk ?_; (try simp -implicitDefEqProofs [-loopQ_n, hV]); (first | refine callS_intro (ovalid_pure l) (.inl rfl) ?_); (try simp -implicitDefEqProofs [-loopQ_n, hV])))))
set_option maxHeartbeats 32000000 in
theorem ocases_pure (hx : Glob.exact 1 = some (Lib.pow10Tab.map fun z => Value.int .u64 z).toArray) (l : List Obj) (hV : objV l = true) (p : List Nat) (hp : isParts (shareR l) l.length p) (hP : Pure Tryd.prog 27 [.agg [.rs (rowsOf objC l)]] (.rs (rowsOf intC (nI p)))) :
    Pure Tryd.prog 8 [.agg [.rs (rowsOf objC l)]] (.tup [.agg [.rs (rowsOf evtC (casN p 0 l))], .int .i64 0]) := by
  have hln := (objV_small hV).1
  have hnl : (nI p).length = l.length := by simp [nI, hp.1]
  have hng : ∀ i (h : i < l.length), (nI p)[i]'(by rw [hnl]; exact h) = (par p i : Int) := fun i h => by
    have := nI_get (p := p) (i := i) (v := (par p i : Int))
    exact (List.getElem?_eq_some_iff.1 (this.2 ⟨by rw [hp.1]; exact h, rfl⟩)).2
  have hnb : ∀ i, i < l.length → numP p i ≤ i := fun i h => num_le hp h
  obtain ⟨N, hNN⟩ : ∃ N, nI p = N := ⟨_, rfl⟩
  simp only [hNN] at hP hnl hng
  obtain ⟨E, hE⟩ : ∃ E, casN p 0 l = E := ⟨_, rfl⟩
  rw [hE]
  refine pure_of mixed Tryd.func8 rfl (by kernel_rfl) (of_decide_eq_true rfl) (by kernel_rfl) (vc_run ?_)
  ((try simp -implicitDefEqProofs [-loopQ_n, hV]) <;> (repeat' (first | (refine condD_dec ?_ ?_ <;> (intro hc; (try simp -implicitDefEqProofs [-loopQ_n, hc, hV]))) | (refine guardD_dec ?_ ?_ <;> (intro hc; (try simp -implicitDefEqProofs [-loopQ_n, hc, hV]))) | (refine condD_intro ?_ ?_ <;> (intro hd; have hc := hd; (try simp at hc) <;> (try simp -implicitDefEqProofs [-loopQ_n, hd, hc, hV]))) | (refine guardD_intro ?_ ?_ <;> (intro hd; have hc := hd; (try simp at hc) <;> (try simp -implicitDefEqProofs [-loopQ_n, hd, hc, hV]))) | (refine ldD_ep ?_ ?_; (focus kernel_rfl); (try simp -implicitDefEqProofs [-loopQ_n, hV])) | (refine callS_mk ?_; (try simp -implicitDefEqProofs [-loopQ_n, hV]); (first | refine callS_intro (ovalid_pure l) (.inl rfl) ?_ | refine callS_intro (hP) (.inr ⟨rfl, rfl⟩) ?_); (try simp -implicitDefEqProofs [-loopQ_n, hV])))))
  refine loop_intro (σ := Nat × List Evt × List (Int × Nat)) (fun x => ⟨[(1, .op 0 0), (2, .op 1 0), (4, .op 2 0), (5, .mp 3), (14, .rs (rowsOf intC N)), (15, .int .i64 l.length), (16, .int .i64 x.1)], [.box 24 [.rs (rowsOf objC l)], .box 33 [.nils], .box 33 [.os 4 x.2.1.length], .map (mE iK nV x.2.2), .row 51 true (rowsOf evtC x.2.1)]⟩)
    (fun x => x.1 ≤ l.length ∧ x.2.1.length ≤ x.1 ∧ x.2.1 ++ casN p x.1 (l.drop x.1) = E ∧ MInv p x.1 x.2.2) (fun x => l.length - x.1) (0, [], []) ⟨by simp, by simp, by simpa using hE, .start⟩ ?_ ?_
  · refine weak_of 4 1 rfl rfl ?_ ?_ <;> simp [-refsM, objN_refs, intN_refs, rowsOf_nil, mE, refsM, hnl]
  rintro ⟨i, acc, es⟩ ⟨hi, hal, hR, hM⟩
  simp only at hi hal hR hM
  by_cases h : i < l.length
  · have w1 := w_succ h (by omega)
    have hiN : i < N.length := by omega
    have hxi := hng i h
    have hvb := hnb i h
    obtain ⟨v, hvv⟩ : ∃ v, numP p i = v := ⟨_, rfl⟩
    rw [List.drop_eq_getElem_cons h, casN, hvv] at hR
    rw [hvv] at hvb
    obtain ⟨⟨act, time, rf⟩, hf⟩ : ∃ e, l[i] = e := ⟨_, rfl⟩
    rw [hf] at hR
    have hD := itoa_pure hx (v + 1) (by omega)
    have hA := cB_app v
    have hPl := oplain_pure act time rf (cB v)
    have hds : (sb (Lib.decDigits (v + 1))).size ≤ 2002 := by
      rw [sb_size]
      have := dec_len (v + 1)
      omega
    obtain ⟨D, hDD⟩ : ∃ D, sb (Lib.decDigits (v + 1)) = D := ⟨_, rfl⟩
    rw [hDD] at hD hA hds
    have hl1 : acc.length ≤ 1073741823 := by omega
    have hd2 : (⟨#[99]⟩ : ByteArray).size + D.size ≤ 1073741824 := by show 1 + D.size ≤ _; omega
    cases hq : afind (par p i : Int) es 0 with
    | some e =>
      obtain ⟨q, j⟩ := e
      have hal2 : alook es (par p i : Int) = some j := by unfold alook; rw [hq]; rfl
      obtain ⟨hj, hM'⟩ := hM.found hp h hal2
      rw [hvv] at hj
      subst hj
      have hj0 : ¬ (v : Int) + 1 = 0 := by omega
      obtain ⟨m, hm⟩ : ∃ m, v + 1 = m := ⟨_, rfl⟩
      rw [hm] at hD hq
      have hm0 : ¬ m = 0 := by omega
      ((try simp -implicitDefEqProofs [-loopQ_n, hnl, h, hiN, hxi, hf, objC, intC, mf_i, hq, nV, hm0, hA, hd2, hl1, evtC_len, evt_snoc, w1]) <;> (repeat' (first | (refine condD_dec ?_ ?_ <;> (intro hc; (try simp -implicitDefEqProofs [-loopQ_n, hc, hnl, h, hiN, hxi, hf, objC, intC, mf_i, hq, nV, hm0, hA, hd2, hl1, evtC_len, evt_snoc, w1]))) | (refine guardD_dec ?_ ?_ <;> (intro hc; (try simp -implicitDefEqProofs [-loopQ_n, hc, hnl, h, hiN, hxi, hf, objC, intC, mf_i, hq, nV, hm0, hA, hd2, hl1, evtC_len, evt_snoc, w1]))) | (refine condD_intro ?_ ?_ <;> (intro hd; have hc := hd; (try simp at hc) <;> (try simp -implicitDefEqProofs [-loopQ_n, hd, hc, hnl, h, hiN, hxi, hf, objC, intC, mf_i, hq, nV, hm0, hA, hd2, hl1, evtC_len, evt_snoc, w1]))) | (refine guardD_intro ?_ ?_ <;> (intro hd; have hc := hd; (try simp at hc) <;> (try simp -implicitDefEqProofs [-loopQ_n, hd, hc, hnl, h, hiN, hxi, hf, objC, intC, mf_i, hq, nV, hm0, hA, hd2, hl1, evtC_len, evt_snoc, w1]))) | (refine ldD_ep ?_ ?_; (focus kernel_rfl); (try simp -implicitDefEqProofs [-loopQ_n, hnl, h, hiN, hxi, hf, objC, intC, mf_i, hq, nV, hm0, hA, hd2, hl1, evtC_len, evt_snoc, w1])) | (refine callS_mk ?_; (try simp -implicitDefEqProofs [-loopQ_n, hnl, h, hiN, hxi, hf, objC, intC, mf_i, hq, nV, hm0, hA, hd2, hl1, evtC_len, evt_snoc, w1]); (first | refine callS_intro (hD) (.inl rfl) ?_ | refine callS_intro (hPl) (.inr ⟨rfl, rfl⟩) ?_); (try simp -implicitDefEqProofs [-loopQ_n, hnl, h, hiN, hxi, hf, objC, intC, mf_i, hq, nV, hm0, hA, hd2, hl1, evtC_len, evt_snoc, w1])))))
      refine loop_next (i + 1, acc ++ [mkE act time (cB v)], es) ⟨h, by simp; omega, by simpa [evN] using hR, hM'⟩ (by simp only; omega) (weak_of 5 0 rfl rfl ?_ ?_)
      · simp [w1, intN_refs, refs]
      · simp [-refsM, objN_refs, i_refs, evt_refsR, refs]
    | none =>
      have hal2 : alook es (par p i : Int) = none := by unfold alook; rw [hq]; rfl
      obtain ⟨hj, hM'⟩ := hM.fresh hp h hal2
      rw [hvv] at hj
      rw [hj] at hM'
      have wv : wrapI .i64 ((v : Int) + 1) = ((v + 1 : Nat) : Int) := by rw [wrap_in (by omega) (by omega)]; omega
      obtain ⟨m, hm⟩ : ∃ m, v + 1 = m := ⟨_, rfl⟩
      rw [hm] at hD wv hM'
      have hq2 : afind (par p i : Int) (aput es (par p i : Int) m) 0 = some (es.length, m) := by
        exact afind_new hq
      ((try simp -implicitDefEqProofs [-loopQ_n, hnl, h, hiN, hxi, hf, objC, intC, mf_i, hq, mp_i hq, hj, wv, mE_len, nV, hq2, hA, hd2, hl1, evtC_len, evt_snoc, w1]) <;> (repeat' (first | (refine condD_dec ?_ ?_ <;> (intro hc; (try simp -implicitDefEqProofs [-loopQ_n, hc, hnl, h, hiN, hxi, hf, objC, intC, mf_i, hq, mp_i hq, hj, wv, mE_len, nV, hq2, hA, hd2, hl1, evtC_len, evt_snoc, w1]))) | (refine guardD_dec ?_ ?_ <;> (intro hc; (try simp -implicitDefEqProofs [-loopQ_n, hc, hnl, h, hiN, hxi, hf, objC, intC, mf_i, hq, mp_i hq, hj, wv, mE_len, nV, hq2, hA, hd2, hl1, evtC_len, evt_snoc, w1]))) | (refine condD_intro ?_ ?_ <;> (intro hd; have hc := hd; (try simp at hc) <;> (try simp -implicitDefEqProofs [-loopQ_n, hd, hc, hnl, h, hiN, hxi, hf, objC, intC, mf_i, hq, mp_i hq, hj, wv, mE_len, nV, hq2, hA, hd2, hl1, evtC_len, evt_snoc, w1]))) | (refine guardD_intro ?_ ?_ <;> (intro hd; have hc := hd; (try simp at hc) <;> (try simp -implicitDefEqProofs [-loopQ_n, hd, hc, hnl, h, hiN, hxi, hf, objC, intC, mf_i, hq, mp_i hq, hj, wv, mE_len, nV, hq2, hA, hd2, hl1, evtC_len, evt_snoc, w1]))) | (refine ldD_ep ?_ ?_; (focus kernel_rfl); (try simp -implicitDefEqProofs [-loopQ_n, hnl, h, hiN, hxi, hf, objC, intC, mf_i, hq, mp_i hq, hj, wv, mE_len, nV, hq2, hA, hd2, hl1, evtC_len, evt_snoc, w1])) | (refine callS_mk ?_; (try simp -implicitDefEqProofs [-loopQ_n, hnl, h, hiN, hxi, hf, objC, intC, mf_i, hq, mp_i hq, hj, wv, mE_len, nV, hq2, hA, hd2, hl1, evtC_len, evt_snoc, w1]); (first | refine callS_intro (hD) (.inl rfl) ?_ | refine callS_intro (hPl) (.inr ⟨rfl, rfl⟩) ?_); (try simp -implicitDefEqProofs [-loopQ_n, hnl, h, hiN, hxi, hf, objC, intC, mf_i, hq, mp_i hq, hj, wv, mE_len, nV, hq2, hA, hd2, hl1, evtC_len, evt_snoc, w1])))))
      refine loop_next (i + 1, acc ++ [mkE act time (cB v)], aput es (par p i : Int) m) ⟨h, by simp; omega, by simpa [evN] using hR, hM'⟩ (by simp only; omega) (weak_of 5 0 rfl rfl ?_ ?_)
      · simp [w1, intN_refs, refs]
      · simp [-refsM, objN_refs, i_refs, evt_refsR, refs]
  · rw [List.drop_eq_nil_of_le (by omega), casN, List.append_nil] at hR
    subst hR
    ((try simp -implicitDefEqProofs [-loopQ_n, hnl, h, evt_reify, rowsOf_length]) <;> (repeat' (first | (refine condD_dec ?_ ?_ <;> (intro hc; (try simp -implicitDefEqProofs [-loopQ_n, hc, hnl, h, evt_reify, rowsOf_length]))) | (refine guardD_dec ?_ ?_ <;> (intro hc; (try simp -implicitDefEqProofs [-loopQ_n, hc, hnl, h, evt_reify, rowsOf_length]))) | (refine condD_intro ?_ ?_ <;> (intro hd; have hc := hd; (try simp at hc) <;> (try simp -implicitDefEqProofs [-loopQ_n, hd, hc, hnl, h, evt_reify, rowsOf_length]))) | (refine guardD_intro ?_ ?_ <;> (intro hd; have hc := hd; (try simp at hc) <;> (try simp -implicitDefEqProofs [-loopQ_n, hd, hc, hnl, h, evt_reify, rowsOf_length]))) | (refine ldD_ep ?_ ?_; (focus kernel_rfl); (try simp -implicitDefEqProofs [-loopQ_n, hnl, h, evt_reify, rowsOf_length])))))
end Go.Proofs.YtdkcmfafganhhaaDoor
