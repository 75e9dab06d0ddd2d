/- The cases of a log, ascending. -/
import Derived.Test.YtkionfcafifhdaaKeysS
import Derived.Test.YtkionfcafifhdaaLog
import Derived.Test.YtkionfcafifhdaaMapL
import Derived.Test.YtkionfcafifhdaaAbRen
namespace Go.Proofs.Ytkionfcafifhdaa
set_option linter.unusedSimpArgs false
set_option linter.unusedVariables false
set_option linter.unnecessarySimpa false
set_option linter.unusedSectionVars false
open Go.RowKit
variable [Glob]
set_option maxRecDepth 100000
def sK (x : ByteArray) : AV := .str x
def bV (x : Bool) : AV := .bool x
theorem mf_s {β : Type} {vc : β → AV} (k : ByteArray) (es : List (ByteArray × β)) : mfind (false, [2]) (.str k) (mE sK vc es) 0 = some ((afind k es 0).map fun e => (e.1, vc e.2)) := by
  refine mfind_E (kc := sK) (vc := vc) (ks := (false, [2])) (fun x y => ?_) k es 0
  simp only [keq, sK, eqCs, Option.some.injEq]
  by_cases h : y = x
  · subst h; simp
  · have : ¬ x.toList = y.toList := fun e => h (ba_eq (by rw [ba_toList, ba_toList] at e; exact e.symm))
    simp [h, this]
theorem mp_s {β : Type} {vc : β → AV} (k : ByteArray) (v : β) (es : List (ByteArray × β)) : mput (mE sK vc es) ((afind k es 0).map fun e => (e.1, vc e.2)) (.str k) (vc v) = mE sK vc (aput es k v) := mput_E (kc := sK) es k v
theorem afind_none {α β : Type} [DecidableEq α] {es : List (α × β)} {k : α} : ∀ i, afind k es i = none ↔ k ∉ es.map (·.1) := by
  induction es with
  | nil => intro i; simp [afind]
  | cons e r ih =>
    intro i
    simp only [afind]
    by_cases h : e.1 = k
    · simp [h]
    · have : ¬ k = e.1 := fun q => h q.symm
      simp only [if_neg h, ih, List.map_cons, List.mem_cons, this, false_or]
theorem aput_keys {α β : Type} [DecidableEq α] (es : List (α × β)) (k : α) (v : β) : (aput es k v).map (·.1) = if k ∈ es.map (·.1) then es.map (·.1) else es.map (·.1) ++ [k] := by
  unfold aput
  cases h : afind k es 0 with
  | none => rw [if_neg ((afind_none 0).1 h)]; simp
  | some e =>
    have h1 : k ∈ es.map (·.1) := Classical.byContradiction fun q => by rw [(afind_none 0).2 q] at h; cases h
    rw [if_pos h1]
    obtain ⟨i, w⟩ := e
    have h2 := afind_eq h
    refine List.ext_getElem? fun j => ?_
    simp only [List.getElem?_map, List.getElem?_set]
    by_cases e1 : i = j
    · subst e1
      have := (List.getElem?_eq_some_iff.1 h2).1
      have h3 : es[i] = (k, w) := by rw [List.getElem?_eq_getElem this] at h2; simpa using h2
      simp [this, h3]
    · simp [e1]
theorem mE_keys {β : Type} {vc : β → AV} {es : List (ByteArray × β)} : (mE sK vc es).map (·.1) = (es.map (·.1)).map .str := by simp [mE, sK]
def casesL (l : List Evt) : List ByteArray := setB (l.map (·.case_))
theorem setB_eq {l l' : List ByteArray} (h : ∀ x, x ∈ l ↔ x ∈ l') : setB l = setB l' := asc_uniq (setB_asc _) (setB_asc _) fun x => by rw [setB_mem, setB_mem, h]
/-- The keys are the cases so far. -/
def kInv (es : List (ByteArray × Bool)) (l : List Evt) (i : Nat) : Prop := (es.map (·.1)).Nodup ∧ ∀ k, k ∈ es.map (·.1) ↔ k ∈ (l.take i).map (·.case_)
set_option maxHeartbeats 8000000 in
theorem cases_pure (l : List Evt) (hl : l.length ≤ 2000) (hsz : ∀ e ∈ l, e.case_.size ≤ maxLen) : Pure Try.prog 28 [.agg [.rs (rowsOf evtC l)]] (.rs (rowsOf strC (casesL l))) := by
  refine pure_of mixed Try.func28 rfl (by kernel_rfl) (of_decide_eq_true rfl) (by kernel_rfl) (vc_run ?_)
  ((try simp -implicitDefEqProofs [-loopQ_n]) <;> (repeat' (first | (refine condD_dec ?_ ?_ <;> (intro hc; (try simp -implicitDefEqProofs [-loopQ_n, hc]))) | (refine guardD_dec ?_ ?_ <;> (intro hc; (try simp -implicitDefEqProofs [-loopQ_n, hc]))) | (refine condD_intro ?_ ?_ <;> (intro hd; have hc := hd; (try simp at hc) <;> (try simp -implicitDefEqProofs [-loopQ_n, hd, hc]))) | (refine guardD_intro ?_ ?_ <;> (intro hd; have hc := hd; (try simp at hc) <;> (try simp -implicitDefEqProofs [-loopQ_n, hd, hc]))) | (refine ldD_ep ?_ ?_; (focus kernel_rfl); (try simp -implicitDefEqProofs [-loopQ_n])))))
  refine loop_intro (σ := Nat × List (ByteArray × Bool)) (fun x => ⟨[(3, .mp 1), (8, .rs (rowsOf evtC l)), (9, .int .i64 l.length), (10, .int .i64 x.1)], [.gone, .map (mE sK bV x.2)]⟩)
    (fun x => x.1 ≤ l.length ∧ x.2.length ≤ x.1 ∧ kInv x.2 l x.1) (fun x => l.length - x.1) (0, []) ⟨by simp, by simp, by simp [kInv]⟩ ?_ ?_
  · refine weak_of 2 0 rfl rfl ?_ ?_ <;> simp [mE, refsM]
  rintro ⟨i, es⟩ ⟨hi, hln, hnd, hmem⟩
  simp only at hi hln hnd hmem
  by_cases h : i < l.length
  · have w1 : wrapI .i64 ((i : Int) + 1) = ((i + 1 : Nat) : Int) := by rw [wrap_in (by omega) (by omega)]; omega
    obtain ⟨⟨c, a, r, life, time, data⟩, hf⟩ : ∃ e, l[i] = e := ⟨_, rfl⟩
    have hmp := mp_s (vc := bV) c true es
    ((try simp -implicitDefEqProofs [-loopQ_n, h, hf, evtC, mf_s, hmp]) <;> (repeat' (first | (refine condD_dec ?_ ?_ <;> (intro hc; (try simp -implicitDefEqProofs [-loopQ_n, hc, h, hf, evtC, mf_s, hmp]))) | (refine guardD_dec ?_ ?_ <;> (intro hc; (try simp -implicitDefEqProofs [-loopQ_n, hc, h, hf, evtC, mf_s, hmp]))) | (refine condD_intro ?_ ?_ <;> (intro hd; have hc := hd; (try simp at hc) <;> (try simp -implicitDefEqProofs [-loopQ_n, hd, hc, h, hf, evtC, mf_s, hmp]))) | (refine guardD_intro ?_ ?_ <;> (intro hd; have hc := hd; (try simp at hc) <;> (try simp -implicitDefEqProofs [-loopQ_n, hd, hc, h, hf, evtC, mf_s, hmp]))) | (refine ldD_ep ?_ ?_; (focus kernel_rfl); (try simp -implicitDefEqProofs [-loopQ_n, h, hf, evtC, mf_s, hmp])))))
    have hk := aput_keys es c true
    have hc : (l.take (i + 1)).map (·.case_) = (l.take i).map (·.case_) ++ [c] := by rw [List.take_add_one, List.getElem?_eq_getElem h, hf]; simp
    refine loop_next (i + 1, aput es c true) ⟨by simp only; omega, by have := aput_len_le es c true; simp only; omega, ?_, fun k => ?_⟩ (by simp only; omega) (weak_of 2 0 rfl rfl (by simp [w1]) ⟨trivial, ⟨hmp.symm, ?_⟩, trivial⟩)
    · rw [hk]
      split
      · exact hnd
      · rename_i q
        exact List.nodup_append.2 ⟨hnd, by simp, fun a ha b hb => by simp at hb; subst hb; exact fun e => q (e ▸ ha)⟩
    · rw [hk, hc]
      split
      · rename_i q
        rw [hmem, List.mem_append, List.mem_singleton]
        exact ⟨.inl, fun g => g.elim id fun g => by subst g; exact (hmem _).1 q⟩
      · rw [List.mem_append, List.mem_append, hmem]
    · show refsM 2 (mput (mE sK bV es) ((afind c es 0).map fun e => (e.1, bV e.2)) (.str c) (bV true)) = true
      rw [hmp]
      exact mE_refs (fun x => by simp [sK, refs]) fun x => by simp [bV, refs]
  · have hin : i = l.length := by omega
    subst hin
    rw [List.take_length] at hmem
    ((try simp -implicitDefEqProofs [-loopQ_n]) <;> (repeat' (first | (refine condD_dec ?_ ?_ <;> (intro hc; (try simp -implicitDefEqProofs [-loopQ_n, hc]))) | (refine guardD_dec ?_ ?_ <;> (intro hc; (try simp -implicitDefEqProofs [-loopQ_n, hc]))) | (refine condD_intro ?_ ?_ <;> (intro hd; have hc := hd; (try simp at hc) <;> (try simp -implicitDefEqProofs [-loopQ_n, hd, hc]))) | (refine guardD_intro ?_ ?_ <;> (intro hd; have hc := hd; (try simp at hc) <;> (try simp -implicitDefEqProofs [-loopQ_n, hd, hc]))) | (refine ldD_ep ?_ ?_; (focus kernel_rfl); (try simp -implicitDefEqProofs [-loopQ_n])))))
    refine inl_intro mixed Try.func42 rfl (by kernel_rfl) (of_decide_eq_true rfl) (by kernel_rfl) ?_
    ((try simp -implicitDefEqProofs [-loopQ_n]) <;> (repeat' (first | (refine condD_dec ?_ ?_ <;> (intro hc; (try simp -implicitDefEqProofs [-loopQ_n, hc]))) | (refine guardD_dec ?_ ?_ <;> (intro hc; (try simp -implicitDefEqProofs [-loopQ_n, hc]))) | (refine condD_intro ?_ ?_ <;> (intro hd; have hc := hd; (try simp at hc) <;> (try simp -implicitDefEqProofs [-loopQ_n, hd, hc]))) | (refine guardD_intro ?_ ?_ <;> (intro hd; have hc := hd; (try simp at hc) <;> (try simp -implicitDefEqProofs [-loopQ_n, hd, hc]))) | (refine ldD_ep ?_ ?_; (focus kernel_rfl); (try simp -implicitDefEqProofs [-loopQ_n])))))
    refine endG_r (.fn 64 [.op 2 0]) rfl ?_
    simp -implicitDefEqProofs [contK]
    refine callG_intro (keys_G (b := 2) (m := 1) (ks := es.map (·.1)) rfl rfl mE_keys hnd (fun k hk => ?_) (by simp; omega) ?_)
    · obtain ⟨e, he, rfl⟩ := List.mem_map.1 ((hmem k).1 hk)
      exact hsz e he
    have : setB (es.map (·.1)) = casesL l := setB_eq hmem
    ((try simp -implicitDefEqProofs [-loopQ_n, this]) <;> (repeat' (first | (refine condD_dec ?_ ?_ <;> (intro hc; (try simp -implicitDefEqProofs [-loopQ_n, hc, this]))) | (refine guardD_dec ?_ ?_ <;> (intro hc; (try simp -implicitDefEqProofs [-loopQ_n, hc, this]))) | (refine condD_intro ?_ ?_ <;> (intro hd; have hc := hd; (try simp at hc) <;> (try simp -implicitDefEqProofs [-loopQ_n, hd, hc, this]))) | (refine guardD_intro ?_ ?_ <;> (intro hd; have hc := hd; (try simp at hc) <;> (try simp -implicitDefEqProofs [-loopQ_n, hd, hc, this]))) | (refine ldD_ep ?_ ?_; (focus kernel_rfl); (try simp -implicitDefEqProofs [-loopQ_n, this])))))
end Go.Proofs.Ytkionfcafifhdaa
