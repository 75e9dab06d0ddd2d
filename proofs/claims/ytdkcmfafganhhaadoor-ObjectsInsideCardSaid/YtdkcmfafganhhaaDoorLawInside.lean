/- All events of a flattened case belong to one component, and what Types and Relations say of it (the law ObjectsInside holds for every input; the table of powers of ten is laid). -/
import Derived.Test.YtdkcmfafganhhaaDoorRows
import Derived.Test.YtdkcmfafganhhaaDoorLaid
import Derived.Test.YtdkcmfafganhhaaDoorTie
import Derived.Test.YtdkcmfafganhhaaDoorCards
import Derived.SevenTiedAt
import Derived.Lib.LaidTab
import Derived.Stop.LaidErr
import Derived.Test.YtdkcmfafganhhaaDoorObR
import Derived.Test.YtdkcmfafganhhaaDoorObI
namespace Go.Proofs.YtdkcmfafganhhaaDoor.lawInside
set_option linter.unusedSimpArgs false
set_option linter.unusedVariables false
set_option linter.unnecessarySimpa false
set_option linter.unusedSectionVars false
open Go.ChangeShapes Go.WideShapes Go.ChangeAt Go.RowKit Go.Joins Go.Deep
section
variable [Glob]
set_option maxRecDepth 100000
theorem wS {i n : Nat} (h : i < n) (hn : n ≤ 9223372036854775807) : wrapI .i64 ((i : Int) + 1) = ((i + 1 : Nat) : Int) := by rw [wrap_in (by omega) (by omega)]; omega
def eqB (x y : ByteArray) : Bool := decide (x.toList = y.toList)
theorem rfI_refs {m : Nat} {l : List Rf} : refsR m (rowsOf refC l) = true := rowsOf_refs fun x => by simp [refC, refs]
theorem st_refs {m : Nat} {l : List ByteArray} : refsR m (rowsOf strC l) = true := rowsOf_refs fun x => by simp [strC, refs]
theorem index_pure (l : List ByteArray) (x : ByteArray) (hl : l.length ≤ 9223372036854775807) : Pure Tryd.prog 42 [.rs (rowsOf strC l), .str x] (.int .i64 (idxOf (eqB x) l)) := by
  refine pure_of mixed Tryd.func42 rfl (by kernel_rfl) (of_decide_eq_true rfl) (by kernel_rfl) (vc_run ?_)
  ((try simp -implicitDefEqProofs [-loopQ_n]) <;> (repeat' (first | (refine condD_dec ?_ ?_ <;> (intro hc; (try simp -implicitDefEqProofs [-loopQ_n, hc]))) | (refine guardD_dec ?_ ?_ <;> (intro hc; (try simp -implicitDefEqProofs [-loopQ_n, hc]))) | (refine condD_intro ?_ ?_ <;> (intro hd; have hc := hd; (try simp at hc) <;> (try simp -implicitDefEqProofs [-loopQ_n, hd, hc]))) | (refine guardD_intro ?_ ?_ <;> (intro hd; have hc := hd; (try simp at hc) <;> (try simp -implicitDefEqProofs [-loopQ_n, hd, hc]))) | (refine ldD_ep ?_ ?_; (focus kernel_rfl); (try simp -implicitDefEqProofs [-loopQ_n])))))
  refine loop_intro (σ := Nat) (fun i => ⟨[(0, .rs (rowsOf strC l)), (1, .str x), (7, .int .i64 l.length), (8, .int .i64 i)], []⟩) (fun i => i ≤ l.length ∧ allF (eqB x) (l.take i)) (fun i => l.length - i) 0 ⟨Nat.zero_le _, allF_nil⟩ ?_ ?_
  · refine weak_of 0 0 rfl rfl ?_ ?_ <;> simp [st_refs]
  rintro i ⟨hi, hall⟩
  by_cases h : i < l.length
  · obtain ⟨c, hf⟩ : ∃ e, l[i] = e := ⟨_, rfl⟩
    have w1 := wS h hl
    by_cases e : x.toList = c.toList
    · ((try simp -implicitDefEqProofs [-loopQ_n, h, hf, strC, e]) <;> (repeat' (first | (refine condD_dec ?_ ?_ <;> (intro hc; (try simp -implicitDefEqProofs [-loopQ_n, hc, h, hf, strC, e]))) | (refine guardD_dec ?_ ?_ <;> (intro hc; (try simp -implicitDefEqProofs [-loopQ_n, hc, h, hf, strC, e]))) | (refine condD_intro ?_ ?_ <;> (intro hd; have hc := hd; (try simp at hc) <;> (try simp -implicitDefEqProofs [-loopQ_n, hd, hc, h, hf, strC, e]))) | (refine guardD_intro ?_ ?_ <;> (intro hd; have hc := hd; (try simp at hc) <;> (try simp -implicitDefEqProofs [-loopQ_n, hd, hc, h, hf, strC, e]))) | (refine ldD_ep ?_ ?_; (focus kernel_rfl); (try simp -implicitDefEqProofs [-loopQ_n, h, hf, strC, e])))))
      rw [idxOf_some _ l i h hall (by rw [hf]; simp [eqB, e])]
    · ((try simp -implicitDefEqProofs [-loopQ_n, h, hf, strC, e, w1]) <;> (repeat' (first | (refine condD_dec ?_ ?_ <;> (intro hc; (try simp -implicitDefEqProofs [-loopQ_n, hc, h, hf, strC, e, w1]))) | (refine guardD_dec ?_ ?_ <;> (intro hc; (try simp -implicitDefEqProofs [-loopQ_n, hc, h, hf, strC, e, w1]))) | (refine condD_intro ?_ ?_ <;> (intro hd; have hc := hd; (try simp at hc) <;> (try simp -implicitDefEqProofs [-loopQ_n, hd, hc, h, hf, strC, e, w1]))) | (refine guardD_intro ?_ ?_ <;> (intro hd; have hc := hd; (try simp at hc) <;> (try simp -implicitDefEqProofs [-loopQ_n, hd, hc, h, hf, strC, e, w1]))) | (refine ldD_ep ?_ ?_; (focus kernel_rfl); (try simp -implicitDefEqProofs [-loopQ_n, h, hf, strC, e, w1])))))
      refine loop_next (i + 1) ⟨by omega, allF_succ hall h (by rw [hf]; simp [eqB, e])⟩ (by omega) (weak_of 0 0 rfl rfl ?_ ?_) <;> simp [w1, st_refs]
  · ((try simp -implicitDefEqProofs [-loopQ_n, h]) <;> (repeat' (first | (refine condD_dec ?_ ?_ <;> (intro hc; (try simp -implicitDefEqProofs [-loopQ_n, hc, h]))) | (refine guardD_dec ?_ ?_ <;> (intro hc; (try simp -implicitDefEqProofs [-loopQ_n, hc, h]))) | (refine condD_intro ?_ ?_ <;> (intro hd; have hc := hd; (try simp at hc) <;> (try simp -implicitDefEqProofs [-loopQ_n, hd, hc, h]))) | (refine guardD_intro ?_ ?_ <;> (intro hd; have hc := hd; (try simp at hc) <;> (try simp -implicitDefEqProofs [-loopQ_n, hd, hc, h]))) | (refine ldD_ep ?_ ?_; (focus kernel_rfl); (try simp -implicitDefEqProofs [-loopQ_n, h])))))
    rw [idxOf_none _ l (allF_all hall h)]
theorem contains_pure (l : List ByteArray) (x : ByteArray) (hl : l.length ≤ 9223372036854775807) : Pure Tryd.prog 16 [.rs (rowsOf strC l), .str x] (.bool (l.any (eqB x))) := by
  refine pure_of mixed Tryd.func16 rfl (by kernel_rfl) (of_decide_eq_true rfl) (by kernel_rfl) (vc_run ?_)
  ((try simp -implicitDefEqProofs [-loopQ_n]) <;> (repeat' (first | (refine condD_dec ?_ ?_ <;> (intro hc; (try simp -implicitDefEqProofs [-loopQ_n, hc]))) | (refine guardD_dec ?_ ?_ <;> (intro hc; (try simp -implicitDefEqProofs [-loopQ_n, hc]))) | (refine condD_intro ?_ ?_ <;> (intro hd; have hc := hd; (try simp at hc) <;> (try simp -implicitDefEqProofs [-loopQ_n, hd, hc]))) | (refine guardD_intro ?_ ?_ <;> (intro hd; have hc := hd; (try simp at hc) <;> (try simp -implicitDefEqProofs [-loopQ_n, hd, hc]))) | (refine ldD_ep ?_ ?_; (focus kernel_rfl); (try simp -implicitDefEqProofs [-loopQ_n])) | (refine callS_mk ?_; (try simp -implicitDefEqProofs [-loopQ_n]); (first | refine callS_intro (index_pure _ _ hl) (.inl rfl) ?_); (try simp -implicitDefEqProofs [-loopQ_n])))))
  rw [← ge_idxOf]
theorem any_mem {l : List ByteArray} {x : ByteArray} : l.any (eqB x) = true ↔ x ∈ l := by
  simp only [List.any_eq_true, eqB, decide_eq_true_eq, toL_iff]
  exact ⟨fun ⟨y, h1, h2⟩ => h2 ▸ h1, fun h => ⟨x, h, rfl⟩⟩
theorem any_no {l : List ByteArray} {x : ByteArray} (h : x ∉ l) : l.any (eqB x) = false := by
  cases q : l.any (eqB x) with
  | false => rfl
  | true => exact absurd (any_mem.1 q) h
/-! The two maps. -/
def sKc (x : ByteArray) : AV := .str x
theorem mf_o (a b : ByteArray) (es : List (Rf × ByteArray)) : mfind (true, [2, 2]) (.agg [.str a, .str b]) (mE rfK sKc es) 0 = some ((afind ⟨a, b⟩ es 0).map fun e => (e.1, sKc e.2)) := by
  refine mfind_E (kc := rfK) (vc := sKc) (ks := (true, [2, 2])) (fun x y => ?_) ⟨a, b⟩ es 0
  obtain ⟨x1, x2⟩ := x
  obtain ⟨y1, y2⟩ := y
  have hb : ∀ u v : ByteArray, (u.toList == v.toList) = decide (v = u) := fun u v => by
    by_cases h : v = u
    · subst h; simp
    · have : ¬ u.toList = v.toList := fun q => h (toL_iff.1 q).symm
      simp [h, this]
  simp only [rfK, refC, keq, eqCs, Option.some.injEq, hb, Bool.and_true, Rf.mk.injEq]
  by_cases h1 : y1 = x1 <;> by_cases h2 : y2 = x2 <;> simp [h1, h2]
theorem mf_k (k : ByteArray) (es : List (ByteArray × Nat)) : mfind (false, [2]) (.str k) (mE sKc nV es) 0 = some ((afind k es 0).map fun e => (e.1, nV e.2)) := by
  refine mfind_E (kc := sKc) (vc := nV) (ks := (false, [2])) (fun x y => ?_) k es 0
  simp only [keq, sKc, eqCs, Option.some.injEq]
  by_cases h : y = x
  · subst h; simp
  · have : ¬ x.toList = y.toList := fun q => h (toL_iff.1 q).symm
    simp [h, this]
theorem mpo_none {a b c : ByteArray} {es : List (Rf × ByteArray)} (h : afind ⟨a, b⟩ es 0 = none) : mE rfK sKc es ++ [(.agg [.str a, .str b], .str c)] = mE rfK sKc (aput es ⟨a, b⟩ c) := by
  simp [aput, h, mE, rfK, refC, sKc]
theorem mpo_some {a b c d : ByteArray} {j : Nat} {es : List (Rf × ByteArray)} (h : afind ⟨a, b⟩ es 0 = some (j, d)) : (mE rfK sKc es).set j (.agg [.str a, .str b], .str c) = mE rfK sKc (aput es ⟨a, b⟩ c) := by
  simp [aput, h, mE, rfK, refC, sKc, List.map_set]
theorem mpk_none {k : ByteArray} {m : Nat} {es : List (ByteArray × Nat)} (h : afind k es 0 = none) : mE sKc nV es ++ [(.str k, .int .i64 (m : Int))] = mE sKc nV (aput es k m) := by
  simp [aput, h, mE, sKc, nV]
theorem mpk_some {k : ByteArray} {m d j : Nat} {es : List (ByteArray × Nat)} (h : afind k es 0 = some (j, d)) : (mE sKc nV es).set j (.str k, .int .i64 (m : Int)) = mE sKc nV (aput es k m) := by
  simp [aput, h, mE, sKc, nV, List.map_set]
theorem mo_refs {m : Nat} {es : List (Rf × ByteArray)} : refsM m (mE rfK sKc es) = true := mE_refs (fun x => by simp [rfK, refC]) fun x => by simp [sKc]
theorem mk_refs {m : Nat} {es : List (ByteArray × Nat)} : refsM m (mE sKc nV es) = true := mE_refs (fun x => by simp [sKc]) fun x => by simp [nV]
/-- What the maps hold. -/
def ownM (l : List Obj) (p : List Nat) (i : Nat) (es : List (Rf × ByteArray)) : Prop := ∀ r c, alook es r = some c → ∃ j, j < i ∧ ∃ h : j < l.length, r ∈ l[j].refs ∧ c = KC p j
def aloM (p : List Nat) (i : Nat) (es : List (ByteArray × Nat)) : Prop := ∀ c, (alook es c).getD 0 = cntK p i c
theorem aloM_put {p : List Nat} {i m : Nat} {es : List (ByteArray × Nat)} (h : aloM p i es) (hm : m = (alook es (KC p i)).getD 0 + 1) : aloM p (i + 1) (aput es (KC p i) m) := fun c => by
  rw [alook_put, cntK_succ]
  by_cases e : KC p i = c
  · rw [if_pos e, if_pos e, Option.getD_some, hm, ← e, h]
  · rw [if_neg e, if_neg e, h c]; rfl
theorem ownM_put {l : List Obj} {p : List Nat} {i : Nat} {es : List (Rf × ByteArray)} {r : Rf} (h : ownM l p (i + 1) es) (hi : i < l.length) (hr : r ∈ l[i].refs) : ownM l p (i + 1) (aput es r (KC p i)) := fun r' c hc => by
  rw [alook_put] at hc
  split at hc
  · rename_i e
    subst e
    exact ⟨i, by omega, hi, hr, (Option.some.inj hc).symm⟩
  · exact h r' c hc
set_option maxHeartbeats 32000000 in
theorem both (hx : Glob.exact 1 = some (Lib.pow10Tab.map fun z => Value.int .u64 z).toArray) (x0 : AV) (s0 : argS Tryd.prog 24 x0) (x1 : AV) (s1 : argS Tryd.prog 9 x1) (x2 : AV) (s2 : argS Tryd.prog 9 x2) :
    Pure Tryd.prog 4 [x0, x1, x2] (.bool true) := by
  obtain ⟨l, rfl, hl, hd⟩ := log_dec s0
  obtain ⟨kind, rfl, _⟩ := arg_str Tryd.underlying9 s1
  obtain ⟨act, rfl, _⟩ := arg_str Tryd.underlying9 s2
  rw [maxLen_eq] at hl
  have hdr : ∀ e ∈ l, e.refs.length ≤ 9223372036854775807 := fun e he => by have := hd e he; rwa [maxLen_eq] at this
  have hF := few_pure _ hl hdr
  refine pure_of mixed Tryd.func4 rfl (by kernel_rfl) (of_decide_eq_true rfl) (by kernel_rfl) (vc_run ?_)
  by_cases g1 : fewB l = true
  rotate_left
  · have g1 : fewB l = false := by simpa using g1
    ((try simp -implicitDefEqProofs [-loopQ_n, g1]) <;> (repeat' (first | (refine condD_dec ?_ ?_ <;> (intro hc; (try simp -implicitDefEqProofs [-loopQ_n, hc, g1]))) | (refine guardD_dec ?_ ?_ <;> (intro hc; (try simp -implicitDefEqProofs [-loopQ_n, hc, g1]))) | (refine condD_intro ?_ ?_ <;> (intro hd; have hc := hd; (try simp at hc) <;> (try simp -implicitDefEqProofs [-loopQ_n, hd, hc, g1]))) | (refine guardD_intro ?_ ?_ <;> (intro hd; have hc := hd; (try simp at hc) <;> (try simp -implicitDefEqProofs [-loopQ_n, hd, hc, g1]))) | (refine ldD_ep ?_ ?_; (focus kernel_rfl); (try simp -implicitDefEqProofs [-loopQ_n, g1])) | (refine callS_mk ?_; (try simp -implicitDefEqProofs [-loopQ_n, g1]); (first | refine callS_intro (awake_pure) (.inl rfl) ?_ | refine callS_intro (hF) (.inl rfl) ?_); (try simp -implicitDefEqProofs [-loopQ_n, g1])))))
  by_cases g2 : (100 : Int) < kind.size
  · ((try simp -implicitDefEqProofs [-loopQ_n, g1, g2]) <;> (repeat' (first | (refine condD_dec ?_ ?_ <;> (intro hc; (try simp -implicitDefEqProofs [-loopQ_n, hc, g1, g2]))) | (refine guardD_dec ?_ ?_ <;> (intro hc; (try simp -implicitDefEqProofs [-loopQ_n, hc, g1, g2]))) | (refine condD_intro ?_ ?_ <;> (intro hd; have hc := hd; (try simp at hc) <;> (try simp -implicitDefEqProofs [-loopQ_n, hd, hc, g1, g2]))) | (refine guardD_intro ?_ ?_ <;> (intro hd; have hc := hd; (try simp at hc) <;> (try simp -implicitDefEqProofs [-loopQ_n, hd, hc, g1, g2]))) | (refine ldD_ep ?_ ?_; (focus kernel_rfl); (try simp -implicitDefEqProofs [-loopQ_n, g1, g2])) | (refine callS_mk ?_; (try simp -implicitDefEqProofs [-loopQ_n, g1, g2]); (first | refine callS_intro (awake_pure) (.inl rfl) ?_ | refine callS_intro (hF) (.inl rfl) ?_); (try simp -implicitDefEqProofs [-loopQ_n, g1, g2])))))
  by_cases g3 : (100 : Int) < act.size
  · ((try simp -implicitDefEqProofs [-loopQ_n, g1, g2, g3]) <;> (repeat' (first | (refine condD_dec ?_ ?_ <;> (intro hc; (try simp -implicitDefEqProofs [-loopQ_n, hc, g1, g2, g3]))) | (refine guardD_dec ?_ ?_ <;> (intro hc; (try simp -implicitDefEqProofs [-loopQ_n, hc, g1, g2, g3]))) | (refine condD_intro ?_ ?_ <;> (intro hd; have hc := hd; (try simp at hc) <;> (try simp -implicitDefEqProofs [-loopQ_n, hd, hc, g1, g2, g3]))) | (refine guardD_intro ?_ ?_ <;> (intro hd; have hc := hd; (try simp at hc) <;> (try simp -implicitDefEqProofs [-loopQ_n, hd, hc, g1, g2, g3]))) | (refine ldD_ep ?_ ?_; (focus kernel_rfl); (try simp -implicitDefEqProofs [-loopQ_n, g1, g2, g3])) | (refine callS_mk ?_; (try simp -implicitDefEqProofs [-loopQ_n, g1, g2, g3]); (first | refine callS_intro (awake_pure) (.inl rfl) ?_ | refine callS_intro (hF) (.inl rfl) ?_); (try simp -implicitDefEqProofs [-loopQ_n, g1, g2, g3])))))
  by_cases g4 : (60 : Int) < l.length
  · ((try simp -implicitDefEqProofs [-loopQ_n, g1, g2, g3, g4]) <;> (repeat' (first | (refine condD_dec ?_ ?_ <;> (intro hc; (try simp -implicitDefEqProofs [-loopQ_n, hc, g1, g2, g3, g4]))) | (refine guardD_dec ?_ ?_ <;> (intro hc; (try simp -implicitDefEqProofs [-loopQ_n, hc, g1, g2, g3, g4]))) | (refine condD_intro ?_ ?_ <;> (intro hd; have hc := hd; (try simp at hc) <;> (try simp -implicitDefEqProofs [-loopQ_n, hd, hc, g1, g2, g3, g4]))) | (refine guardD_intro ?_ ?_ <;> (intro hd; have hc := hd; (try simp at hc) <;> (try simp -implicitDefEqProofs [-loopQ_n, hd, hc, g1, g2, g3, g4]))) | (refine ldD_ep ?_ ?_; (focus kernel_rfl); (try simp -implicitDefEqProofs [-loopQ_n, g1, g2, g3, g4])) | (refine callS_mk ?_; (try simp -implicitDefEqProofs [-loopQ_n, g1, g2, g3, g4]); (first | refine callS_intro (awake_pure) (.inl rfl) ?_ | refine callS_intro (hF) (.inl rfl) ?_); (try simp -implicitDefEqProofs [-loopQ_n, g1, g2, g3, g4])))))
  have hT := otypes_pure l
  by_cases hV : objV l = true
  rotate_left
  · have hV' : objV l = false := by simpa using hV
    have e : typesOut l = ([], 1) := by unfold typesOut; rw [if_neg hV]
    rw [e] at hT
    ((try simp -implicitDefEqProofs [-loopQ_n, g1, g2, g3, g4, rowsOf_nil]) <;> (repeat' (first | (refine condD_dec ?_ ?_ <;> (intro hc; (try simp -implicitDefEqProofs [-loopQ_n, hc, g1, g2, g3, g4, rowsOf_nil]))) | (refine guardD_dec ?_ ?_ <;> (intro hc; (try simp -implicitDefEqProofs [-loopQ_n, hc, g1, g2, g3, g4, rowsOf_nil]))) | (refine condD_intro ?_ ?_ <;> (intro hd; have hc := hd; (try simp at hc) <;> (try simp -implicitDefEqProofs [-loopQ_n, hd, hc, g1, g2, g3, g4, rowsOf_nil]))) | (refine guardD_intro ?_ ?_ <;> (intro hd; have hc := hd; (try simp at hc) <;> (try simp -implicitDefEqProofs [-loopQ_n, hd, hc, g1, g2, g3, g4, rowsOf_nil]))) | (refine ldD_ep ?_ ?_; (focus kernel_rfl); (try simp -implicitDefEqProofs [-loopQ_n, g1, g2, g3, g4, rowsOf_nil])) | (refine callS_mk ?_; (try simp -implicitDefEqProofs [-loopQ_n, g1, g2, g3, g4, rowsOf_nil]); (first | refine callS_intro (awake_pure) (.inl rfl) ?_ | refine callS_intro (hF) (.inl rfl) ?_ | refine callS_intro (hT) (.inr ⟨rfl, rfl⟩) ?_ | refine callS_intro (ocases_bad l hV') (.inr ⟨rfl, rfl⟩) ?_); (try simp -implicitDefEqProofs [-loopQ_n, g1, g2, g3, g4, rowsOf_nil])))))
  have e : typesOut l = (setB (allT l), 0) := by unfold typesOut; rw [if_pos hV]
  rw [e] at hT
  simp only at hT
  obtain ⟨p, hp, hP⟩ := oparts_pure l hV
  rw [nat_int] at hP
  have hCa := ocases_pure hx l hV p hp hP
  have hsm := objV_small hV
  have hval := casN_valid hV hp
  have hEl := casN_len (p := p) l 0
  have hEg : ∀ i (h : i < l.length), (casN p 0 l)[i]'(by rw [hEl]; exact h) = mkE l[i].act l[i].time (KC p i) := fun i h => casN_at h
  have hLV := log_pure (casN p 0 l)
  rw [hval] at hLV
  obtain ⟨E, hE⟩ : ∃ E, casN p 0 l = E := ⟨_, rfl⟩
  simp only [hE] at hCa hEl hEg hLV
  have htm := fun s => types_mem (l := l) (s := s)
  have htf := types_flat (l := l) (t := kind)
  have hatl : (allT l).length ≤ 20 * l.length := allT_len hsm.2
  have htl : (setB (allT l)).length ≤ 9223372036854775807 := by
    have := setB_len_le (allT l) []
    unfold setB
    simp only [List.length_nil] at this
    omega
  obtain ⟨Ty, hTy⟩ : ∃ Ty, setB (allT l) = Ty := ⟨_, rfl⟩
  rw [hTy] at hT htl htf
  simp only [hTy] at htm
  ((try simp -implicitDefEqProofs [-loopQ_n, g1, g2, g3, g4, hEl]) <;> (repeat' (first | (refine condD_dec ?_ ?_ <;> (intro hc; (try simp -implicitDefEqProofs [-loopQ_n, hc, g1, g2, g3, g4, hEl]))) | (refine guardD_dec ?_ ?_ <;> (intro hc; (try simp -implicitDefEqProofs [-loopQ_n, hc, g1, g2, g3, g4, hEl]))) | (refine condD_intro ?_ ?_ <;> (intro hd; have hc := hd; (try simp at hc) <;> (try simp -implicitDefEqProofs [-loopQ_n, hd, hc, g1, g2, g3, g4, hEl]))) | (refine guardD_intro ?_ ?_ <;> (intro hd; have hc := hd; (try simp at hc) <;> (try simp -implicitDefEqProofs [-loopQ_n, hd, hc, g1, g2, g3, g4, hEl]))) | (refine ldD_ep ?_ ?_; (focus kernel_rfl); (try simp -implicitDefEqProofs [-loopQ_n, g1, g2, g3, g4, hEl])) | (refine callS_mk ?_; (try simp -implicitDefEqProofs [-loopQ_n, g1, g2, g3, g4, hEl]); (first | refine callS_intro (awake_pure) (.inl rfl) ?_ | refine callS_intro (hF) (.inl rfl) ?_ | refine callS_intro (hT) (.inr ⟨rfl, rfl⟩) ?_ | refine callS_intro (hCa) (.inr ⟨rfl, rfl⟩) ?_ | refine callS_intro (hLV) (.inl rfl) ?_); (try simp -implicitDefEqProofs [-loopQ_n, g1, g2, g3, g4, hEl])))))
  refine loop_intro (σ := Nat × List (Rf × ByteArray) × List (ByteArray × Nat)) (fun x => ⟨[(1, .str kind), (2, .str act), (3, .op 0 0), (7, .rs (rowsOf strC Ty)), (9, .op 1 0), (11, .mp 2), (12, .mp 3), (91, .rs (rowsOf objC l)), (92, .int .i64 l.length), (93, .int .i64 x.1)], [.box 24 [.rs (rowsOf objC l)], .box 33 [.rs (rowsOf evtC E)], .map (mE rfK sKc x.2.1), .map (mE sKc nV x.2.2)]⟩)
    (fun x => x.1 ≤ l.length ∧ ownM l p x.1 x.2.1 ∧ aloM p x.1 x.2.2) (fun x => l.length - x.1) (0, [], []) ⟨by simp, fun r c h => by simp [alook_nil] at h, fun c => rfl⟩ ?_ ?_
  · refine weak_of 4 0 rfl rfl ?_ ?_ <;> simp [-refsM, objN_refs, evt_refsR, st_refs, mE, refsM]
  rintro ⟨i, es1, es2⟩ ⟨hi, hO, hAl⟩
  simp only at hi hO hAl
  by_cases h : i < l.length
  · have w1 := wS h hl
    have hiE : i < E.length := by omega
    have hEi := hEg i h
    have hrl := hsm.2 _ (List.getElem_mem h)
    have hshare := fun (j : Nat) (r : Rf) (hj : j < l.length) (h1 : r ∈ l[j].refs) (h2 : r ∈ l[i].refs) => share_same hp hj h h1 h2
    have hput := fun (es : List (Rf × ByteArray)) (r : Rf) (hh : ownM l p (i + 1) es) (hr : r ∈ l[i].refs) => ownM_put hh h hr
    have hty := fun (r : Rf) (hr : r ∈ l[i].refs) => (htm r.a).2 ⟨_, List.getElem_mem h, r, hr, rfl⟩
    obtain ⟨⟨ac, tm, rf⟩, hf⟩ : ∃ e, l[i] = e := ⟨_, rfl⟩
    rw [hf] at hEi hrl
    simp only [hf] at hshare hput hty
    simp only [mkE] at hEi hrl
    obtain ⟨k, hk⟩ : ∃ k, KC p i = k := ⟨_, rfl⟩
    have hO1 : ownM l p (i + 1) es1 := fun r c hc => by obtain ⟨j, h1, h2⟩ := hO r c hc; exact ⟨j, by omega, h2⟩
    have hcl := cntK_le (p := p) (c := k) i
    have hak := hAl k
    obtain ⟨m, hm⟩ : ∃ m, (alook es2 k).getD 0 + 1 = m := ⟨_, rfl⟩
    have hA1 := aloM_put hAl (m := m) (by rw [hk]; exact hm.symm)
    rw [hk] at hEi hA1
    cases hqk : afind k es2 0 with
    | none =>
      have hal0 : alook es2 k = none := by unfold alook; rw [hqk]; rfl
      rw [hal0] at hm
      simp only [Option.getD_none, Nat.zero_add] at hm
      subst hm
      have e1 : mE sKc nV es2 ++ [(AV.str k, AV.int .i64 1)] = mE sKc nV (aput es2 k 1) := mpk_none hqk
      have w0 : wrapI .i64 1 = 1 := wrap_in (by omega) (by omega)
      ((try simp -implicitDefEqProofs [-loopQ_n, h, hf, objC, hiE, hEi, evtC, mf_k, hqk, e1, w0]) <;> (repeat' (first | (refine condD_dec ?_ ?_ <;> (intro hc; (try simp -implicitDefEqProofs [-loopQ_n, hc, h, hf, objC, hiE, hEi, evtC, mf_k, hqk, e1, w0]))) | (refine guardD_dec ?_ ?_ <;> (intro hc; (try simp -implicitDefEqProofs [-loopQ_n, hc, h, hf, objC, hiE, hEi, evtC, mf_k, hqk, e1, w0]))) | (refine condD_intro ?_ ?_ <;> (intro hd; have hc := hd; (try simp at hc) <;> (try simp -implicitDefEqProofs [-loopQ_n, hd, hc, h, hf, objC, hiE, hEi, evtC, mf_k, hqk, e1, w0]))) | (refine guardD_intro ?_ ?_ <;> (intro hd; have hc := hd; (try simp at hc) <;> (try simp -implicitDefEqProofs [-loopQ_n, hd, hc, h, hf, objC, hiE, hEi, evtC, mf_k, hqk, e1, w0]))) | (refine ldD_ep ?_ ?_; (focus kernel_rfl); (try simp -implicitDefEqProofs [-loopQ_n, h, hf, objC, hiE, hEi, evtC, mf_k, hqk, e1, w0])))))
      refine loop_intro (σ := Nat × List (Rf × ByteArray)) (fun x => ⟨[(1, .str kind), (2, .str act), (3, .op 0 0), (7, .rs (rowsOf strC Ty)), (9, .op 1 0), (11, .mp 2), (12, .mp 3), (13, .int .i64 i), (91, .rs (rowsOf objC l)), (92, .int .i64 l.length), (93, .int .i64 i), (108, .rs (rowsOf refC rf)), (109, .int .i64 rf.length), (110, .int .i64 x.1)], [.box 24 [.rs (rowsOf objC l)], .box 33 [.rs (rowsOf evtC E)], .map (mE rfK sKc x.2), .map (mE sKc nV (aput es2 k 1))]⟩)
        (fun x => x.1 ≤ rf.length ∧ ownM l p (i + 1) x.2) (fun x => rf.length - x.1) (0, es1) ⟨by simp, hO1⟩ ?_ ?_
      · refine weak_of 4 0 rfl rfl ?_ ?_ <;> simp [-refsM, objN_refs, evt_refsR, st_refs, rfI_refs, mo_refs, mk_refs]
      rintro ⟨q, es1⟩ ⟨hq1, hO1⟩
      simp only at hq1 hO1
      by_cases g : q < rf.length
      · have w2 := wS g (by omega)
        have hrm := List.getElem_mem g
        obtain ⟨⟨a, b⟩, hr⟩ : ∃ r, rf[q] = r := ⟨_, rfl⟩
        rw [hr] at hrm
        have hO2 := hput es1 ⟨a, b⟩ hO1 hrm
        rw [hk] at hO2
        have hct := contains_pure Ty a htl
        rw [any_mem.2 (hty ⟨a, b⟩ hrm)] at hct
        cases hqo : afind (⟨a, b⟩ : Rf) es1 0 with
        | none =>
          ((try simp -implicitDefEqProofs [-loopQ_n, g, hr, refC, hiE, hEi, evtC, mf_o, hqo, mpo_none hqo, w2]) <;> (repeat' (first | (refine condD_dec ?_ ?_ <;> (intro hc; (try simp -implicitDefEqProofs [-loopQ_n, hc, g, hr, refC, hiE, hEi, evtC, mf_o, hqo, mpo_none hqo, w2]))) | (refine guardD_dec ?_ ?_ <;> (intro hc; (try simp -implicitDefEqProofs [-loopQ_n, hc, g, hr, refC, hiE, hEi, evtC, mf_o, hqo, mpo_none hqo, w2]))) | (refine condD_intro ?_ ?_ <;> (intro hd; have hc := hd; (try simp at hc) <;> (try simp -implicitDefEqProofs [-loopQ_n, hd, hc, g, hr, refC, hiE, hEi, evtC, mf_o, hqo, mpo_none hqo, w2]))) | (refine guardD_intro ?_ ?_ <;> (intro hd; have hc := hd; (try simp at hc) <;> (try simp -implicitDefEqProofs [-loopQ_n, hd, hc, g, hr, refC, hiE, hEi, evtC, mf_o, hqo, mpo_none hqo, w2]))) | (refine ldD_ep ?_ ?_; (focus kernel_rfl); (try simp -implicitDefEqProofs [-loopQ_n, g, hr, refC, hiE, hEi, evtC, mf_o, hqo, mpo_none hqo, w2])) | (refine callS_mk ?_; (try simp -implicitDefEqProofs [-loopQ_n, g, hr, refC, hiE, hEi, evtC, mf_o, hqo, mpo_none hqo, w2]); (first | refine callS_intro (hct) (.inl rfl) ?_); (try simp -implicitDefEqProofs [-loopQ_n, g, hr, refC, hiE, hEi, evtC, mf_o, hqo, mpo_none hqo, w2])))))
          refine loop_next (q + 1, aput es1 ⟨a, b⟩ k) ⟨g, hO2⟩ (by simp only; omega) (weak_of 4 0 rfl rfl ?_ ?_) <;> simp [-refsM, objN_refs, evt_refsR, st_refs, rfI_refs, mo_refs, mk_refs, w2]
        | some w =>
          obtain ⟨j, c⟩ := w
          have hck : c = k := by
            have hal2 : alook es1 (⟨a, b⟩ : Rf) = some c := by unfold alook; rw [hqo]; rfl
            obtain ⟨j', h1, h2, h3, h4⟩ := hO1 _ _ hal2
            rw [h4, hshare j' ⟨a, b⟩ h2 h3 hrm, hk]
          subst hck
          ((try simp -implicitDefEqProofs [-loopQ_n, g, hr, refC, hiE, hEi, evtC, mf_o, hqo, sKc, mpo_some hqo, w2]) <;> (repeat' (first | (refine condD_dec ?_ ?_ <;> (intro hc; (try simp -implicitDefEqProofs [-loopQ_n, hc, g, hr, refC, hiE, hEi, evtC, mf_o, hqo, sKc, mpo_some hqo, w2]))) | (refine guardD_dec ?_ ?_ <;> (intro hc; (try simp -implicitDefEqProofs [-loopQ_n, hc, g, hr, refC, hiE, hEi, evtC, mf_o, hqo, sKc, mpo_some hqo, w2]))) | (refine condD_intro ?_ ?_ <;> (intro hd; have hc := hd; (try simp at hc) <;> (try simp -implicitDefEqProofs [-loopQ_n, hd, hc, g, hr, refC, hiE, hEi, evtC, mf_o, hqo, sKc, mpo_some hqo, w2]))) | (refine guardD_intro ?_ ?_ <;> (intro hd; have hc := hd; (try simp at hc) <;> (try simp -implicitDefEqProofs [-loopQ_n, hd, hc, g, hr, refC, hiE, hEi, evtC, mf_o, hqo, sKc, mpo_some hqo, w2]))) | (refine ldD_ep ?_ ?_; (focus kernel_rfl); (try simp -implicitDefEqProofs [-loopQ_n, g, hr, refC, hiE, hEi, evtC, mf_o, hqo, sKc, mpo_some hqo, w2])) | (refine callS_mk ?_; (try simp -implicitDefEqProofs [-loopQ_n, g, hr, refC, hiE, hEi, evtC, mf_o, hqo, sKc, mpo_some hqo, w2]); (first | refine callS_intro (hct) (.inl rfl) ?_); (try simp -implicitDefEqProofs [-loopQ_n, g, hr, refC, hiE, hEi, evtC, mf_o, hqo, sKc, mpo_some hqo, w2])))))
          refine loop_next (q + 1, aput es1 ⟨a, b⟩ c) ⟨g, hO2⟩ (by simp only; omega) (weak_of 4 0 rfl rfl ?_ ?_) <;> simp [-refsM, objN_refs, evt_refsR, st_refs, rfI_refs, mo_refs, mk_refs, w2]
      · ((try simp -implicitDefEqProofs [-loopQ_n, g, w1]) <;> (repeat' (first | (refine condD_dec ?_ ?_ <;> (intro hc; (try simp -implicitDefEqProofs [-loopQ_n, hc, g, w1]))) | (refine guardD_dec ?_ ?_ <;> (intro hc; (try simp -implicitDefEqProofs [-loopQ_n, hc, g, w1]))) | (refine condD_intro ?_ ?_ <;> (intro hd; have hc := hd; (try simp at hc) <;> (try simp -implicitDefEqProofs [-loopQ_n, hd, hc, g, w1]))) | (refine guardD_intro ?_ ?_ <;> (intro hd; have hc := hd; (try simp at hc) <;> (try simp -implicitDefEqProofs [-loopQ_n, hd, hc, g, w1]))) | (refine ldD_ep ?_ ?_; (focus kernel_rfl); (try simp -implicitDefEqProofs [-loopQ_n, g, w1])))))
        refine loop_next (i + 1, es1, aput es2 k 1) ⟨h, hO1, hA1⟩ (by simp only; omega) (weak_of 4 0 rfl rfl ?_ ?_) <;> simp [-refsM, objN_refs, evt_refsR, st_refs, mo_refs, mk_refs, w1]
    | some w =>
      obtain ⟨jk, d⟩ := w
      have hal0 : alook es2 k = some d := by unfold alook; rw [hqk]; rfl
      rw [hal0] at hm hak
      simp only [Option.getD_some] at hm hak
      have w0 : wrapI .i64 ((d : Int) + 1) = (m : Int) := by rw [wrap_in (by omega) (by omega)]; omega
      have e1 : (mE sKc nV es2).set jk (AV.str k, AV.int .i64 (m : Int)) = mE sKc nV (aput es2 k m) := mpk_some hqk
      ((try simp -implicitDefEqProofs [-loopQ_n, h, hf, objC, hiE, hEi, evtC, mf_k, hqk, nV, e1, w0]) <;> (repeat' (first | (refine condD_dec ?_ ?_ <;> (intro hc; (try simp -implicitDefEqProofs [-loopQ_n, hc, h, hf, objC, hiE, hEi, evtC, mf_k, hqk, nV, e1, w0]))) | (refine guardD_dec ?_ ?_ <;> (intro hc; (try simp -implicitDefEqProofs [-loopQ_n, hc, h, hf, objC, hiE, hEi, evtC, mf_k, hqk, nV, e1, w0]))) | (refine condD_intro ?_ ?_ <;> (intro hd; have hc := hd; (try simp at hc) <;> (try simp -implicitDefEqProofs [-loopQ_n, hd, hc, h, hf, objC, hiE, hEi, evtC, mf_k, hqk, nV, e1, w0]))) | (refine guardD_intro ?_ ?_ <;> (intro hd; have hc := hd; (try simp at hc) <;> (try simp -implicitDefEqProofs [-loopQ_n, hd, hc, h, hf, objC, hiE, hEi, evtC, mf_k, hqk, nV, e1, w0]))) | (refine ldD_ep ?_ ?_; (focus kernel_rfl); (try simp -implicitDefEqProofs [-loopQ_n, h, hf, objC, hiE, hEi, evtC, mf_k, hqk, nV, e1, w0])))))
      refine loop_intro (σ := Nat × List (Rf × ByteArray)) (fun x => ⟨[(1, .str kind), (2, .str act), (3, .op 0 0), (7, .rs (rowsOf strC Ty)), (9, .op 1 0), (11, .mp 2), (12, .mp 3), (13, .int .i64 i), (91, .rs (rowsOf objC l)), (92, .int .i64 l.length), (93, .int .i64 i), (108, .rs (rowsOf refC rf)), (109, .int .i64 rf.length), (110, .int .i64 x.1)], [.box 24 [.rs (rowsOf objC l)], .box 33 [.rs (rowsOf evtC E)], .map (mE rfK sKc x.2), .map (mE sKc nV (aput es2 k m))]⟩)
        (fun x => x.1 ≤ rf.length ∧ ownM l p (i + 1) x.2) (fun x => rf.length - x.1) (0, es1) ⟨by simp, hO1⟩ ?_ ?_
      · refine weak_of 4 0 rfl rfl ?_ ?_ <;> simp [-refsM, objN_refs, evt_refsR, st_refs, rfI_refs, mo_refs, mk_refs]
      rintro ⟨q, es1⟩ ⟨hq1, hO1⟩
      simp only at hq1 hO1
      by_cases g : q < rf.length
      · have w2 := wS g (by omega)
        have hrm := List.getElem_mem g
        obtain ⟨⟨a, b⟩, hr⟩ : ∃ r, rf[q] = r := ⟨_, rfl⟩
        rw [hr] at hrm
        have hO2 := hput es1 ⟨a, b⟩ hO1 hrm
        rw [hk] at hO2
        have hct := contains_pure Ty a htl
        rw [any_mem.2 (hty ⟨a, b⟩ hrm)] at hct
        cases hqo : afind (⟨a, b⟩ : Rf) es1 0 with
        | none =>
          ((try simp -implicitDefEqProofs [-loopQ_n, g, hr, refC, hiE, hEi, evtC, mf_o, hqo, mpo_none hqo, w2]) <;> (repeat' (first | (refine condD_dec ?_ ?_ <;> (intro hc; (try simp -implicitDefEqProofs [-loopQ_n, hc, g, hr, refC, hiE, hEi, evtC, mf_o, hqo, mpo_none hqo, w2]))) | (refine guardD_dec ?_ ?_ <;> (intro hc; (try simp -implicitDefEqProofs [-loopQ_n, hc, g, hr, refC, hiE, hEi, evtC, mf_o, hqo, mpo_none hqo, w2]))) | (refine condD_intro ?_ ?_ <;> (intro hd; have hc := hd; (try simp at hc) <;> (try simp -implicitDefEqProofs [-loopQ_n, hd, hc, g, hr, refC, hiE, hEi, evtC, mf_o, hqo, mpo_none hqo, w2]))) | (refine guardD_intro ?_ ?_ <;> (intro hd; have hc := hd; (try simp at hc) <;> (try simp -implicitDefEqProofs [-loopQ_n, hd, hc, g, hr, refC, hiE, hEi, evtC, mf_o, hqo, mpo_none hqo, w2]))) | (refine ldD_ep ?_ ?_; (focus kernel_rfl); (try simp -implicitDefEqProofs [-loopQ_n, g, hr, refC, hiE, hEi, evtC, mf_o, hqo, mpo_none hqo, w2])) | (refine callS_mk ?_; (try simp -implicitDefEqProofs [-loopQ_n, g, hr, refC, hiE, hEi, evtC, mf_o, hqo, mpo_none hqo, w2]); (first | refine callS_intro (hct) (.inl rfl) ?_); (try simp -implicitDefEqProofs [-loopQ_n, g, hr, refC, hiE, hEi, evtC, mf_o, hqo, mpo_none hqo, w2])))))
          refine loop_next (q + 1, aput es1 ⟨a, b⟩ k) ⟨g, hO2⟩ (by simp only; omega) (weak_of 4 0 rfl rfl ?_ ?_) <;> simp [-refsM, objN_refs, evt_refsR, st_refs, rfI_refs, mo_refs, mk_refs, w2]
        | some w =>
          obtain ⟨j, c⟩ := w
          have hck : c = k := by
            have hal2 : alook es1 (⟨a, b⟩ : Rf) = some c := by unfold alook; rw [hqo]; rfl
            obtain ⟨j', h1, h2, h3, h4⟩ := hO1 _ _ hal2
            rw [h4, hshare j' ⟨a, b⟩ h2 h3 hrm, hk]
          subst hck
          ((try simp -implicitDefEqProofs [-loopQ_n, g, hr, refC, hiE, hEi, evtC, mf_o, hqo, sKc, mpo_some hqo, w2]) <;> (repeat' (first | (refine condD_dec ?_ ?_ <;> (intro hc; (try simp -implicitDefEqProofs [-loopQ_n, hc, g, hr, refC, hiE, hEi, evtC, mf_o, hqo, sKc, mpo_some hqo, w2]))) | (refine guardD_dec ?_ ?_ <;> (intro hc; (try simp -implicitDefEqProofs [-loopQ_n, hc, g, hr, refC, hiE, hEi, evtC, mf_o, hqo, sKc, mpo_some hqo, w2]))) | (refine condD_intro ?_ ?_ <;> (intro hd; have hc := hd; (try simp at hc) <;> (try simp -implicitDefEqProofs [-loopQ_n, hd, hc, g, hr, refC, hiE, hEi, evtC, mf_o, hqo, sKc, mpo_some hqo, w2]))) | (refine guardD_intro ?_ ?_ <;> (intro hd; have hc := hd; (try simp at hc) <;> (try simp -implicitDefEqProofs [-loopQ_n, hd, hc, g, hr, refC, hiE, hEi, evtC, mf_o, hqo, sKc, mpo_some hqo, w2]))) | (refine ldD_ep ?_ ?_; (focus kernel_rfl); (try simp -implicitDefEqProofs [-loopQ_n, g, hr, refC, hiE, hEi, evtC, mf_o, hqo, sKc, mpo_some hqo, w2])) | (refine callS_mk ?_; (try simp -implicitDefEqProofs [-loopQ_n, g, hr, refC, hiE, hEi, evtC, mf_o, hqo, sKc, mpo_some hqo, w2]); (first | refine callS_intro (hct) (.inl rfl) ?_); (try simp -implicitDefEqProofs [-loopQ_n, g, hr, refC, hiE, hEi, evtC, mf_o, hqo, sKc, mpo_some hqo, w2])))))
          refine loop_next (q + 1, aput es1 ⟨a, b⟩ c) ⟨g, hO2⟩ (by simp only; omega) (weak_of 4 0 rfl rfl ?_ ?_) <;> simp [-refsM, objN_refs, evt_refsR, st_refs, rfI_refs, mo_refs, mk_refs, w2]
      · ((try simp -implicitDefEqProofs [-loopQ_n, g, w1]) <;> (repeat' (first | (refine condD_dec ?_ ?_ <;> (intro hc; (try simp -implicitDefEqProofs [-loopQ_n, hc, g, w1]))) | (refine guardD_dec ?_ ?_ <;> (intro hc; (try simp -implicitDefEqProofs [-loopQ_n, hc, g, w1]))) | (refine condD_intro ?_ ?_ <;> (intro hd; have hc := hd; (try simp at hc) <;> (try simp -implicitDefEqProofs [-loopQ_n, hd, hc, g, w1]))) | (refine guardD_intro ?_ ?_ <;> (intro hd; have hc := hd; (try simp at hc) <;> (try simp -implicitDefEqProofs [-loopQ_n, hd, hc, g, w1]))) | (refine ldD_ep ?_ ?_; (focus kernel_rfl); (try simp -implicitDefEqProofs [-loopQ_n, g, w1])))))
        refine loop_next (i + 1, es1, aput es2 k m) ⟨h, hO1, hA1⟩ (by simp only; omega) (weak_of 4 0 rfl rfl ?_ ?_) <;> simp [-refsM, objN_refs, evt_refsR, st_refs, mo_refs, mk_refs, w1]
  have hie : i = l.length := by omega
  ((try simp -implicitDefEqProofs [-loopQ_n, h]) <;> (repeat' (first | (refine condD_dec ?_ ?_ <;> (intro hc; (try simp -implicitDefEqProofs [-loopQ_n, hc, h]))) | (refine guardD_dec ?_ ?_ <;> (intro hc; (try simp -implicitDefEqProofs [-loopQ_n, hc, h]))) | (refine condD_intro ?_ ?_ <;> (intro hd; have hc := hd; (try simp at hc) <;> (try simp -implicitDefEqProofs [-loopQ_n, hd, hc, h]))) | (refine guardD_intro ?_ ?_ <;> (intro hd; have hc := hd; (try simp at hc) <;> (try simp -implicitDefEqProofs [-loopQ_n, hd, hc, h]))) | (refine ldD_ep ?_ ?_; (focus kernel_rfl); (try simp -implicitDefEqProofs [-loopQ_n, h])))))
  clear h hi hO
  rw [hie] at hAl
  clear hie
  refine loop_intro (σ := Nat) (fun i => ⟨[(1, .str kind), (2, .str act), (3, .op 0 0), (7, .rs (rowsOf strC Ty)), (9, .op 1 0), (12, .mp 3), (149, .rs (rowsOf objC l)), (150, .int .i64 l.length), (151, .int .i64 i)], [.box 24 [.rs (rowsOf objC l)], .box 33 [.rs (rowsOf evtC E)], .map (mE rfK sKc es1), .map (mE sKc nV es2)]⟩)
    (fun i => i ≤ l.length) (fun i => l.length - i) 0 (by simp) ?_ ?_
  · refine weak_of 4 0 rfl rfl ?_ ?_ <;> simp [-refsM, objN_refs, evt_refsR, st_refs, mo_refs, mk_refs]
  rintro i hi
  by_cases h : i < l.length
  · have w1 := wS h hl
    have hiE : i < E.length := by omega
    have hEi := hEg i h
    have hone := alone_one hp h
    have hak := hAl (KC p i)
    obtain ⟨⟨ac, tm, rf⟩, hf⟩ : ∃ e, l[i] = e := ⟨_, rfl⟩
    rw [hf] at hEi hone
    simp only [mkE] at hEi hone
    obtain ⟨k, hk⟩ : ∃ k, KC p i = k := ⟨_, rfl⟩
    rw [hk] at hEi hone hak
    by_cases hrf : rf = []
    · rw [hone hrf] at hak
      subst hrf
      cases hqk : afind k es2 0 with
      | none => unfold alook at hak; rw [hqk] at hak; simp at hak
      | some w =>
        obtain ⟨jk, d⟩ := w
        unfold alook at hak
        rw [hqk] at hak
        simp at hak
        subst hak
        ((try simp -implicitDefEqProofs [-loopQ_n, h, hf, objC, rowsOf_nil, hiE, hEi, evtC, mf_k, hqk, nV, w1]) <;> (repeat' (first | (refine condD_dec ?_ ?_ <;> (intro hc; (try simp -implicitDefEqProofs [-loopQ_n, hc, h, hf, objC, rowsOf_nil, hiE, hEi, evtC, mf_k, hqk, nV, w1]))) | (refine guardD_dec ?_ ?_ <;> (intro hc; (try simp -implicitDefEqProofs [-loopQ_n, hc, h, hf, objC, rowsOf_nil, hiE, hEi, evtC, mf_k, hqk, nV, w1]))) | (refine condD_intro ?_ ?_ <;> (intro hd; have hc := hd; (try simp at hc) <;> (try simp -implicitDefEqProofs [-loopQ_n, hd, hc, h, hf, objC, rowsOf_nil, hiE, hEi, evtC, mf_k, hqk, nV, w1]))) | (refine guardD_intro ?_ ?_ <;> (intro hd; have hc := hd; (try simp at hc) <;> (try simp -implicitDefEqProofs [-loopQ_n, hd, hc, h, hf, objC, rowsOf_nil, hiE, hEi, evtC, mf_k, hqk, nV, w1]))) | (refine ldD_ep ?_ ?_; (focus kernel_rfl); (try simp -implicitDefEqProofs [-loopQ_n, h, hf, objC, rowsOf_nil, hiE, hEi, evtC, mf_k, hqk, nV, w1])))))
        refine loop_next (i + 1) h (by omega) (weak_of 4 0 rfl rfl ?_ ?_) <;> simp [-refsM, objN_refs, evt_refsR, st_refs, mo_refs, mk_refs, w1]
    · have hrl : ¬ rf.length = 0 := fun q => hrf (List.length_eq_zero_iff.1 q)
      ((try simp -implicitDefEqProofs [-loopQ_n, h, hf, objC, hrl, hrf, w1]) <;> (repeat' (first | (refine condD_dec ?_ ?_ <;> (intro hc; (try simp -implicitDefEqProofs [-loopQ_n, hc, h, hf, objC, hrl, hrf, w1]))) | (refine guardD_dec ?_ ?_ <;> (intro hc; (try simp -implicitDefEqProofs [-loopQ_n, hc, h, hf, objC, hrl, hrf, w1]))) | (refine condD_intro ?_ ?_ <;> (intro hd; have hc := hd; (try simp at hc) <;> (try simp -implicitDefEqProofs [-loopQ_n, hd, hc, h, hf, objC, hrl, hrf, w1]))) | (refine guardD_intro ?_ ?_ <;> (intro hd; have hc := hd; (try simp at hc) <;> (try simp -implicitDefEqProofs [-loopQ_n, hd, hc, h, hf, objC, hrl, hrf, w1]))) | (refine ldD_ep ?_ ?_; (focus kernel_rfl); (try simp -implicitDefEqProofs [-loopQ_n, h, hf, objC, hrl, hrf, w1])))))
      refine loop_next (i + 1) h (by omega) (weak_of 4 0 rfl rfl ?_ ?_) <;> simp [-refsM, objN_refs, evt_refsR, st_refs, mo_refs, mk_refs, w1]
  have hRel := orel_pure l act kind
  have hFl := oflat_pure l kind
  have hro := rel_out (l := l) (act := act) (t := kind)
  have hct := contains_pure Ty kind htl
  have hfl20 : (flatEv l kind).length ≤ 2000 := by have := flatEv_len (t := kind) hsm.2; omega
  obtain ⟨⟨⟨lo, hi2⟩, g⟩, hrel⟩ : ∃ r, relOut l act kind = r := ⟨_, rfl⟩
  rw [hrel] at hRel hro
  simp only at hRel hro
  have hfo : (isNameS kind = false ∧ (flatOut l kind) = ([], 1)) ∨ (flatEv l kind = [] ∧ flatOut l kind = ([], 10)) ∨ (flatEv l kind ≠ [] ∧ flatOut l kind = (flatEv l kind, 0)) := by
    by_cases hn : isNameS kind = true
    · by_cases he : flatEv l kind = []
      · exact .inr (.inl ⟨he, by unfold flatOut; rw [if_pos ⟨hV, hn⟩, if_pos he]⟩)
      · exact .inr (.inr ⟨he, by unfold flatOut; rw [if_pos ⟨hV, hn⟩, if_neg he, if_neg (by omega)]⟩)
    · exact .inl ⟨by simpa using hn, by unfold flatOut; rw [if_neg fun q => hn q.2]⟩
  have hcl : ∀ b : Bool, Ty.any (eqB kind) = b → b = true ∨ b = false := fun b _ => by cases b <;> simp
  by_cases hg : g = 0
  · subst hg
    obtain ⟨r1, r2, r3⟩ := hro rfl
    have r1' : ¬ lo < 0 := by omega
    have r2' : ¬ hi2 < lo := by omega
    rcases hfo with ⟨_, q2⟩ | ⟨q1, q2⟩ | ⟨q1, q2⟩
    · rw [q2] at hFl
      by_cases r0 : 0 < hi2
      · cases hb : Ty.any (eqB kind) with
        | true => rw [hb] at hct; ((try simp -implicitDefEqProofs [-loopQ_n, h, r1', r2', r0, rowsOf_nil]) <;> (repeat' (first | (refine condD_dec ?_ ?_ <;> (intro hc; (try simp -implicitDefEqProofs [-loopQ_n, hc, h, r1', r2', r0, rowsOf_nil]))) | (refine guardD_dec ?_ ?_ <;> (intro hc; (try simp -implicitDefEqProofs [-loopQ_n, hc, h, r1', r2', r0, rowsOf_nil]))) | (refine condD_intro ?_ ?_ <;> (intro hd; have hc := hd; (try simp at hc) <;> (try simp -implicitDefEqProofs [-loopQ_n, hd, hc, h, r1', r2', r0, rowsOf_nil]))) | (refine guardD_intro ?_ ?_ <;> (intro hd; have hc := hd; (try simp at hc) <;> (try simp -implicitDefEqProofs [-loopQ_n, hd, hc, h, r1', r2', r0, rowsOf_nil]))) | (refine ldD_ep ?_ ?_; (focus kernel_rfl); (try simp -implicitDefEqProofs [-loopQ_n, h, r1', r2', r0, rowsOf_nil])) | (refine callS_mk ?_; (try simp -implicitDefEqProofs [-loopQ_n, h, r1', r2', r0, rowsOf_nil]); (first | refine callS_intro (hRel) (.inr ⟨rfl, rfl⟩) ?_ | refine callS_intro (hFl) (.inr ⟨rfl, rfl⟩) ?_ | refine callS_intro (hct) (.inl rfl) ?_); (try simp -implicitDefEqProofs [-loopQ_n, h, r1', r2', r0, rowsOf_nil])))))
        | false => rw [hb] at hct; ((try simp -implicitDefEqProofs [-loopQ_n, h, r1', r2', r0, rowsOf_nil]) <;> (repeat' (first | (refine condD_dec ?_ ?_ <;> (intro hc; (try simp -implicitDefEqProofs [-loopQ_n, hc, h, r1', r2', r0, rowsOf_nil]))) | (refine guardD_dec ?_ ?_ <;> (intro hc; (try simp -implicitDefEqProofs [-loopQ_n, hc, h, r1', r2', r0, rowsOf_nil]))) | (refine condD_intro ?_ ?_ <;> (intro hd; have hc := hd; (try simp at hc) <;> (try simp -implicitDefEqProofs [-loopQ_n, hd, hc, h, r1', r2', r0, rowsOf_nil]))) | (refine guardD_intro ?_ ?_ <;> (intro hd; have hc := hd; (try simp at hc) <;> (try simp -implicitDefEqProofs [-loopQ_n, hd, hc, h, r1', r2', r0, rowsOf_nil]))) | (refine ldD_ep ?_ ?_; (focus kernel_rfl); (try simp -implicitDefEqProofs [-loopQ_n, h, r1', r2', r0, rowsOf_nil])) | (refine callS_mk ?_; (try simp -implicitDefEqProofs [-loopQ_n, h, r1', r2', r0, rowsOf_nil]); (first | refine callS_intro (hRel) (.inr ⟨rfl, rfl⟩) ?_ | refine callS_intro (hFl) (.inr ⟨rfl, rfl⟩) ?_ | refine callS_intro (hct) (.inl rfl) ?_); (try simp -implicitDefEqProofs [-loopQ_n, h, r1', r2', r0, rowsOf_nil])))))
      · cases hb : Ty.any (eqB kind) with
        | true => rw [hb] at hct; ((try simp -implicitDefEqProofs [-loopQ_n, h, r1', r2', r0, rowsOf_nil]) <;> (repeat' (first | (refine condD_dec ?_ ?_ <;> (intro hc; (try simp -implicitDefEqProofs [-loopQ_n, hc, h, r1', r2', r0, rowsOf_nil]))) | (refine guardD_dec ?_ ?_ <;> (intro hc; (try simp -implicitDefEqProofs [-loopQ_n, hc, h, r1', r2', r0, rowsOf_nil]))) | (refine condD_intro ?_ ?_ <;> (intro hd; have hc := hd; (try simp at hc) <;> (try simp -implicitDefEqProofs [-loopQ_n, hd, hc, h, r1', r2', r0, rowsOf_nil]))) | (refine guardD_intro ?_ ?_ <;> (intro hd; have hc := hd; (try simp at hc) <;> (try simp -implicitDefEqProofs [-loopQ_n, hd, hc, h, r1', r2', r0, rowsOf_nil]))) | (refine ldD_ep ?_ ?_; (focus kernel_rfl); (try simp -implicitDefEqProofs [-loopQ_n, h, r1', r2', r0, rowsOf_nil])) | (refine callS_mk ?_; (try simp -implicitDefEqProofs [-loopQ_n, h, r1', r2', r0, rowsOf_nil]); (first | refine callS_intro (hRel) (.inr ⟨rfl, rfl⟩) ?_ | refine callS_intro (hFl) (.inr ⟨rfl, rfl⟩) ?_ | refine callS_intro (hct) (.inl rfl) ?_); (try simp -implicitDefEqProofs [-loopQ_n, h, r1', r2', r0, rowsOf_nil])))))
        | false => rw [hb] at hct; ((try simp -implicitDefEqProofs [-loopQ_n, h, r1', r2', r0, rowsOf_nil]) <;> (repeat' (first | (refine condD_dec ?_ ?_ <;> (intro hc; (try simp -implicitDefEqProofs [-loopQ_n, hc, h, r1', r2', r0, rowsOf_nil]))) | (refine guardD_dec ?_ ?_ <;> (intro hc; (try simp -implicitDefEqProofs [-loopQ_n, hc, h, r1', r2', r0, rowsOf_nil]))) | (refine condD_intro ?_ ?_ <;> (intro hd; have hc := hd; (try simp at hc) <;> (try simp -implicitDefEqProofs [-loopQ_n, hd, hc, h, r1', r2', r0, rowsOf_nil]))) | (refine guardD_intro ?_ ?_ <;> (intro hd; have hc := hd; (try simp at hc) <;> (try simp -implicitDefEqProofs [-loopQ_n, hd, hc, h, r1', r2', r0, rowsOf_nil]))) | (refine ldD_ep ?_ ?_; (focus kernel_rfl); (try simp -implicitDefEqProofs [-loopQ_n, h, r1', r2', r0, rowsOf_nil])) | (refine callS_mk ?_; (try simp -implicitDefEqProofs [-loopQ_n, h, r1', r2', r0, rowsOf_nil]); (first | refine callS_intro (hRel) (.inr ⟨rfl, rfl⟩) ?_ | refine callS_intro (hFl) (.inr ⟨rfl, rfl⟩) ?_ | refine callS_intro (hct) (.inl rfl) ?_); (try simp -implicitDefEqProofs [-loopQ_n, h, r1', r2', r0, rowsOf_nil])))))
    · rw [q2] at hFl
      have r0 : ¬ 0 < hi2 := fun q => r3 q q1
      rw [any_no (htf.1 q1)] at hct
      ((try simp -implicitDefEqProofs [-loopQ_n, h, r1', r2', r0, rowsOf_nil]) <;> (repeat' (first | (refine condD_dec ?_ ?_ <;> (intro hc; (try simp -implicitDefEqProofs [-loopQ_n, hc, h, r1', r2', r0, rowsOf_nil]))) | (refine guardD_dec ?_ ?_ <;> (intro hc; (try simp -implicitDefEqProofs [-loopQ_n, hc, h, r1', r2', r0, rowsOf_nil]))) | (refine condD_intro ?_ ?_ <;> (intro hd; have hc := hd; (try simp at hc) <;> (try simp -implicitDefEqProofs [-loopQ_n, hd, hc, h, r1', r2', r0, rowsOf_nil]))) | (refine guardD_intro ?_ ?_ <;> (intro hd; have hc := hd; (try simp at hc) <;> (try simp -implicitDefEqProofs [-loopQ_n, hd, hc, h, r1', r2', r0, rowsOf_nil]))) | (refine ldD_ep ?_ ?_; (focus kernel_rfl); (try simp -implicitDefEqProofs [-loopQ_n, h, r1', r2', r0, rowsOf_nil])) | (refine callS_mk ?_; (try simp -implicitDefEqProofs [-loopQ_n, h, r1', r2', r0, rowsOf_nil]); (first | refine callS_intro (hRel) (.inr ⟨rfl, rfl⟩) ?_ | refine callS_intro (hFl) (.inr ⟨rfl, rfl⟩) ?_ | refine callS_intro (hct) (.inl rfl) ?_); (try simp -implicitDefEqProofs [-loopQ_n, h, r1', r2', r0, rowsOf_nil])))))
    · rw [q2] at hFl
      have hin : kind ∈ Ty := by
        by_cases q : kind ∈ Ty
        · exact q
        · exact absurd (htf.2 q) q1
      rw [any_mem.2 hin] at hct
      by_cases r0 : 0 < hi2
      · ((try simp -implicitDefEqProofs [-loopQ_n, h, r1', r2', r0]) <;> (repeat' (first | (refine condD_dec ?_ ?_ <;> (intro hc; (try simp -implicitDefEqProofs [-loopQ_n, hc, h, r1', r2', r0]))) | (refine guardD_dec ?_ ?_ <;> (intro hc; (try simp -implicitDefEqProofs [-loopQ_n, hc, h, r1', r2', r0]))) | (refine condD_intro ?_ ?_ <;> (intro hd; have hc := hd; (try simp at hc) <;> (try simp -implicitDefEqProofs [-loopQ_n, hd, hc, h, r1', r2', r0]))) | (refine guardD_intro ?_ ?_ <;> (intro hd; have hc := hd; (try simp at hc) <;> (try simp -implicitDefEqProofs [-loopQ_n, hd, hc, h, r1', r2', r0]))) | (refine ldD_ep ?_ ?_; (focus kernel_rfl); (try simp -implicitDefEqProofs [-loopQ_n, h, r1', r2', r0])) | (refine callS_mk ?_; (try simp -implicitDefEqProofs [-loopQ_n, h, r1', r2', r0]); (first | refine callS_intro (hRel) (.inr ⟨rfl, rfl⟩) ?_ | refine callS_intro (hFl) (.inr ⟨rfl, rfl⟩) ?_ | refine callS_intro (hct) (.inl rfl) ?_); (try simp -implicitDefEqProofs [-loopQ_n, h, r1', r2', r0])))))
      · ((try simp -implicitDefEqProofs [-loopQ_n, h, r1', r2', r0]) <;> (repeat' (first | (refine condD_dec ?_ ?_ <;> (intro hc; (try simp -implicitDefEqProofs [-loopQ_n, hc, h, r1', r2', r0]))) | (refine guardD_dec ?_ ?_ <;> (intro hc; (try simp -implicitDefEqProofs [-loopQ_n, hc, h, r1', r2', r0]))) | (refine condD_intro ?_ ?_ <;> (intro hd; have hc := hd; (try simp at hc) <;> (try simp -implicitDefEqProofs [-loopQ_n, hd, hc, h, r1', r2', r0]))) | (refine guardD_intro ?_ ?_ <;> (intro hd; have hc := hd; (try simp at hc) <;> (try simp -implicitDefEqProofs [-loopQ_n, hd, hc, h, r1', r2', r0]))) | (refine ldD_ep ?_ ?_; (focus kernel_rfl); (try simp -implicitDefEqProofs [-loopQ_n, h, r1', r2', r0])) | (refine callS_mk ?_; (try simp -implicitDefEqProofs [-loopQ_n, h, r1', r2', r0]); (first | refine callS_intro (hRel) (.inr ⟨rfl, rfl⟩) ?_ | refine callS_intro (hFl) (.inr ⟨rfl, rfl⟩) ?_ | refine callS_intro (hct) (.inl rfl) ?_); (try simp -implicitDefEqProofs [-loopQ_n, h, r1', r2', r0])))))
  · rcases hfo with ⟨_, q2⟩ | ⟨q1, q2⟩ | ⟨q1, q2⟩
    · rw [q2] at hFl
      cases hb : Ty.any (eqB kind) with
      | true => rw [hb] at hct; ((try simp -implicitDefEqProofs [-loopQ_n, h, hg, rowsOf_nil]) <;> (repeat' (first | (refine condD_dec ?_ ?_ <;> (intro hc; (try simp -implicitDefEqProofs [-loopQ_n, hc, h, hg, rowsOf_nil]))) | (refine guardD_dec ?_ ?_ <;> (intro hc; (try simp -implicitDefEqProofs [-loopQ_n, hc, h, hg, rowsOf_nil]))) | (refine condD_intro ?_ ?_ <;> (intro hd; have hc := hd; (try simp at hc) <;> (try simp -implicitDefEqProofs [-loopQ_n, hd, hc, h, hg, rowsOf_nil]))) | (refine guardD_intro ?_ ?_ <;> (intro hd; have hc := hd; (try simp at hc) <;> (try simp -implicitDefEqProofs [-loopQ_n, hd, hc, h, hg, rowsOf_nil]))) | (refine ldD_ep ?_ ?_; (focus kernel_rfl); (try simp -implicitDefEqProofs [-loopQ_n, h, hg, rowsOf_nil])) | (refine callS_mk ?_; (try simp -implicitDefEqProofs [-loopQ_n, h, hg, rowsOf_nil]); (first | refine callS_intro (hRel) (.inr ⟨rfl, rfl⟩) ?_ | refine callS_intro (hFl) (.inr ⟨rfl, rfl⟩) ?_ | refine callS_intro (hct) (.inl rfl) ?_); (try simp -implicitDefEqProofs [-loopQ_n, h, hg, rowsOf_nil])))))
      | false => rw [hb] at hct; ((try simp -implicitDefEqProofs [-loopQ_n, h, hg, rowsOf_nil]) <;> (repeat' (first | (refine condD_dec ?_ ?_ <;> (intro hc; (try simp -implicitDefEqProofs [-loopQ_n, hc, h, hg, rowsOf_nil]))) | (refine guardD_dec ?_ ?_ <;> (intro hc; (try simp -implicitDefEqProofs [-loopQ_n, hc, h, hg, rowsOf_nil]))) | (refine condD_intro ?_ ?_ <;> (intro hd; have hc := hd; (try simp at hc) <;> (try simp -implicitDefEqProofs [-loopQ_n, hd, hc, h, hg, rowsOf_nil]))) | (refine guardD_intro ?_ ?_ <;> (intro hd; have hc := hd; (try simp at hc) <;> (try simp -implicitDefEqProofs [-loopQ_n, hd, hc, h, hg, rowsOf_nil]))) | (refine ldD_ep ?_ ?_; (focus kernel_rfl); (try simp -implicitDefEqProofs [-loopQ_n, h, hg, rowsOf_nil])) | (refine callS_mk ?_; (try simp -implicitDefEqProofs [-loopQ_n, h, hg, rowsOf_nil]); (first | refine callS_intro (hRel) (.inr ⟨rfl, rfl⟩) ?_ | refine callS_intro (hFl) (.inr ⟨rfl, rfl⟩) ?_ | refine callS_intro (hct) (.inl rfl) ?_); (try simp -implicitDefEqProofs [-loopQ_n, h, hg, rowsOf_nil])))))
    · rw [q2] at hFl
      rw [any_no (htf.1 q1)] at hct
      ((try simp -implicitDefEqProofs [-loopQ_n, h, hg, rowsOf_nil]) <;> (repeat' (first | (refine condD_dec ?_ ?_ <;> (intro hc; (try simp -implicitDefEqProofs [-loopQ_n, hc, h, hg, rowsOf_nil]))) | (refine guardD_dec ?_ ?_ <;> (intro hc; (try simp -implicitDefEqProofs [-loopQ_n, hc, h, hg, rowsOf_nil]))) | (refine condD_intro ?_ ?_ <;> (intro hd; have hc := hd; (try simp at hc) <;> (try simp -implicitDefEqProofs [-loopQ_n, hd, hc, h, hg, rowsOf_nil]))) | (refine guardD_intro ?_ ?_ <;> (intro hd; have hc := hd; (try simp at hc) <;> (try simp -implicitDefEqProofs [-loopQ_n, hd, hc, h, hg, rowsOf_nil]))) | (refine ldD_ep ?_ ?_; (focus kernel_rfl); (try simp -implicitDefEqProofs [-loopQ_n, h, hg, rowsOf_nil])) | (refine callS_mk ?_; (try simp -implicitDefEqProofs [-loopQ_n, h, hg, rowsOf_nil]); (first | refine callS_intro (hRel) (.inr ⟨rfl, rfl⟩) ?_ | refine callS_intro (hFl) (.inr ⟨rfl, rfl⟩) ?_ | refine callS_intro (hct) (.inl rfl) ?_); (try simp -implicitDefEqProofs [-loopQ_n, h, hg, rowsOf_nil])))))
    · rw [q2] at hFl
      have hin : kind ∈ Ty := by
        by_cases q : kind ∈ Ty
        · exact q
        · exact absurd (htf.2 q) q1
      rw [any_mem.2 hin] at hct
      ((try simp -implicitDefEqProofs [-loopQ_n, h, hg]) <;> (repeat' (first | (refine condD_dec ?_ ?_ <;> (intro hc; (try simp -implicitDefEqProofs [-loopQ_n, hc, h, hg]))) | (refine guardD_dec ?_ ?_ <;> (intro hc; (try simp -implicitDefEqProofs [-loopQ_n, hc, h, hg]))) | (refine condD_intro ?_ ?_ <;> (intro hd; have hc := hd; (try simp at hc) <;> (try simp -implicitDefEqProofs [-loopQ_n, hd, hc, h, hg]))) | (refine guardD_intro ?_ ?_ <;> (intro hd; have hc := hd; (try simp at hc) <;> (try simp -implicitDefEqProofs [-loopQ_n, hd, hc, h, hg]))) | (refine ldD_ep ?_ ?_; (focus kernel_rfl); (try simp -implicitDefEqProofs [-loopQ_n, h, hg])) | (refine callS_mk ?_; (try simp -implicitDefEqProofs [-loopQ_n, h, hg]); (first | refine callS_intro (hRel) (.inr ⟨rfl, rfl⟩) ?_ | refine callS_intro (hFl) (.inr ⟨rfl, rfl⟩) ?_ | refine callS_intro (hct) (.inl rfl) ?_); (try simp -implicitDefEqProofs [-loopQ_n, h, hg])))))
theorem walk (W : World) (hvo : VarsOk W (fun _ => False)) (hx : Glob.exact 1 = some (Lib.pow10Tab.map fun z => Value.int .u64 z).toArray) (v0 : Value) (x0 : AV) (r0 : RO W (fun _ => False) x0 v0) (s0 : argS Tryd.prog 24 x0) (v1 : Value) (x1 : AV) (r1 : RO W (fun _ => False) x1 v1) (s1 : argS Tryd.prog 9 x1) (v2 : Value) (x2 : AV) (r2 : RO W (fun _ => False) x2 v2) (s2 : argS Tryd.prog 9 x2) :
    Calls Tryd.prog 4 #[v0, v1, v2] W fun e w' => e = .returned (.bool true) ∧ Below W.heap.size W w' := by
  refine ((both hx x0 s0 x1 s1 x2 s2).2 W (fun _ => False) _ (fun _ h => h.elim) hvo rfl ?_).mono ?_
  · intro j x v hj hv
    match j with
    | 0 => simp at hj hv; subst hj hv; exact r0
    | 1 => simp at hj hv; subst hj hv; exact r1
    | 2 => simp at hj hv; subst hj hv; exact r2
    | j + 3 => simp at hj
  · rintro e w' ⟨v, rfl, hv, hb⟩
    rw [ro_tt hv]
    exact ⟨rfl, hb⟩
end
theorem witness_row (os : Os) {H : Type} (enc : TypeId × Value → H) :
    (OpenSpec.ofChange Rows.objectsInsideSpec).preRow enc Tryd.prog Tryd.f4 Rows.objectsInsideRow.domain false Rows.objectsInsideRow.laid ((laidWorld os).forCall (fun _ _ => 0) ⟨#[], #[.agg #[.slice none 0 0], .string ByteArray.empty, .string ByteArray.empty], []⟩).memory #[.agg #[.slice none 0 0], .string ByteArray.empty, .string ByteArray.empty] := by
  have hw : (DataW.whole enc Tryd.prog ((laidWorld os).forCall (fun _ _ => 0) ⟨#[], #[.agg #[.slice none 0 0], .string ByteArray.empty, .string ByteArray.empty], []⟩).memory Tryd.f4.params.toList (OpenSpec.ofChange Rows.objectsInsideSpec).vars false #[.agg #[.slice none 0 0], .string ByteArray.empty, .string ByteArray.empty].toList 8).map (fun x => (x.1, x.2.1)) = some ([.agg [.nil], .lit (.string []), .lit (.string [])], []) := by kernel_rfl
  obtain ⟨⟨x1, x2, x3⟩, hx, hx1⟩ := Option.map_eq_some_iff.1 hw
  simp only [Prod.mk.injEq] at hx1
  obtain ⟨rfl, rfl⟩ := hx1
  exact OpenSpec.preRow_of_cond 8 hx (by kernel_rfl) (fun k hk => by cases hk) (by kernel_rfl) (laid_met os _)
set_option maxRecDepth 100000 in
theorem lifted (os : Os) (started : os.Started) (H : Type) (enc : TypeId × Value → H) (F : Stop.Interp) :
    ReturnsInHanded {} Tryd.checked os 4 .any ((OpenSpec.ofChange Rows.objectsInsideSpec).preRow enc Tryd.prog Tryd.f4 Rows.objectsInsideRow.domain false Rows.objectsInsideRow.laid) (((OpenSpec.ofChange Rows.objectsInsideSpec).at F).post enc Tryd.prog Tryd.f4 false true false false) := by
  refine returnsInHanded_of_row (C := Tryd.checked) (s := OpenSpec.ofChange Rows.objectsInsideSpec) (@ownK { row := fun _ => none }) started (by kernel_rfl) Tryd.func4
    (witness_row_atRef (enc := enc) (C := Tryd.checked) false (laidWorld os) #[.agg #[.slice none 0 0], .string ByteArray.empty, .string ByteArray.empty] rfl (by kernel_rfl) (by kernel_rfl) (by kernel_rfl) (witness_row os enc)) ?_
  intro W base args ds gs before hval0 hW _ _ _ hL hsh _
  have hval : ∀ (j : Nat) t v, Tryd.f4.params[j]? = some t → args[j]? = some v → Value.okWide Tryd.prog W .any base t v := hval0
  have hW' := hW
  obtain ⟨p, q, hA0, hV, rfl, hfz, hnd⟩ := hW
  have hA : DataW.TrodAll enc Tryd.prog W 0 (fun _ => true) true Tryd.f4.params.toList args.toList ds p := hA0
  rw [Tryd.params4] at hA hval
  obtain ⟨v0, vs0, d0, ds0, p0, q0, hargs, rfl, rfl, h0, r0⟩ := trodAll_cons hA
  obtain ⟨v1, vs1, d1, ds1, p1, q1, rfl, rfl, rfl, h1, r1⟩ := trodAll_cons r0
  obtain ⟨v2, vs2, d2, ds2, p2, q2, rfl, rfl, rfl, h2, r2⟩ := trodAll_cons r1
  obtain ⟨rfl, rfl, rfl⟩ := trodAll_nil r2
  obtain rfl : args = #[v0, v1, v2] := by cases args; simp_all
  obtain ⟨rfl, rfl⟩ := trodVars_none hV
  have hL2 := hL
  rw [MakeChecks.laidMetH_plain _ _ _ (by kernel_rfl)] at hL2
  have hL3 : laidMet Tryd.prog [("math/bits.deBruijn32tab", Rows.laid_math_bits_deBruijn32tab), ("math/bits.deBruijn64tab", Rows.laid_math_bits_deBruijn64tab), ("internal/strconv.uint64pow10", Rows.laid_internal_strconv_uint64pow10)] W := hL2
  have htab : Lib.TabIs Tryd.prog W "internal/strconv.uint64pow10" .u64 Lib.pow10Tab := Lib.tabIs_of_head (g := 1) (n := 20) (by kernel_rfl) (by kernel_rfl) Tryd.underlying135 Tryd.underlying119 (by kernel_rfl) (by kernel_rfl) (laidMet.tail (laidMet.tail hL3))
  letI : Glob := { row := fun _ => none, exact := fun g => if g = 1 then some (Lib.pow10Tab.map fun z => Value.int .u64 z).toArray else none }
  have hvo : VarsOk W (fun _ => False) := ⟨fun g row h => (by cases h), fun g cs h => by
    have h : (if g = 1 then some (Lib.pow10Tab.map fun z => Value.int .u64 z).toArray else none) = some cs := h
    by_cases e : g = 1
    · subst e
      simp only [if_true, Option.some.injEq] at h
      subst h
      unfold Lib.TabIs World.var? at htab
      rw [show Tryd.prog.globalNamed "internal/strconv.uint64pow10" = some 1 by kernel_rfl] at htab
      simp only [Option.bind_some] at htab
      split at htab
      · rename_i cs t f hh
        simp only [Option.some.injEq] at htab
        subst htab
        exact ⟨(Array.getElem?_eq_some_iff.1 hh).1, fun q => q, t, f, hh⟩
      · cases htab
    · simp [e] at h⟩
  have k0 := h0
  have lt0 : ∀ x ∈ p0, x.block < W.heap.size := by obtain ⟨m, hm⟩ := k0; exact DataW.trod_lt m _ _ _ hm
  obtain ⟨x0, y0, s0⟩ := arg_open (P := Tryd.prog) (t := 24) (by kernel_rfl) (by kernel_rfl) (hval 0 24 v0 rfl rfl) h0
  have k1 := h1
  have lt1 : ∀ x ∈ p1, x.block < W.heap.size := by obtain ⟨m, hm⟩ := k1; exact DataW.trod_lt m _ _ _ hm
  obtain ⟨x1, y1, s1⟩ := arg_open (P := Tryd.prog) (t := 9) (by kernel_rfl) (by kernel_rfl) (hval 1 9 v1 rfl rfl) h1
  have k2 := h2
  have lt2 : ∀ x ∈ p2, x.block < W.heap.size := by obtain ⟨m, hm⟩ := k2; exact DataW.trod_lt m _ _ _ hm
  obtain ⟨x2, y2, s2⟩ := arg_open (P := Tryd.prog) (t := 9) (by kernel_rfl) (by kernel_rfl) (hval 2 9 v2 rfl rfl) h2
  clear hA0 hval0
  refine (walk W hvo rfl v0 x0 y0 s0 v1 x1 y1 s1 v2 x2 y2 s2).mono fun e W' ⟨he, bel⟩ => ?_
  subst he
  exact ⟨_, rfl, _, _, _, [], _, [], hW', trodAll_mk1 (shut_bool Tryd.underlying4 _), (trodAll_cons_mk (Below.trod laidK (by kernel_rfl) (of_decide_eq_true (by kernel_rfl)) k0 bel lt0) (trodAll_cons_mk (Below.trod laidK (by kernel_rfl) (of_decide_eq_true (by kernel_rfl)) k1 bel lt1) (trodAll_cons_mk (Below.trod laidK (by kernel_rfl) (of_decide_eq_true (by kernel_rfl)) k2 bel lt2) trodAll_mk0))), rfl, bel.frame _, fun h => by cases h⟩

theorem over : Rows.objectsInsideRow.holds Tryd.pinned (OpenSpec.ofChange Rows.objectsInsideSpec) :=
  OpenClaim.holds_of_cond 4 Tryd.f4 rfl rfl rfl rfl rfl rfl rfl ⟨rfl, rfl, rfl, rfl, rfl⟩ rfl rfl rfl rfl rfl (by kernel_rfl) Tryd.func4 (by kernel_rfl)
    (of_decide_eq_true (by kernel_rfl)) (by unfold Func.isWrapper; first | (rw [if_pos (by decide +kernel)]; kernel_rfl) | (rw [if_neg (by decide +kernel)]; exact ⟨rfl, rfl⟩))
    (fun os started H enc _ F0 => by rw [OpenClaim.pre_eq_preRow]; exact lifted os started H enc F0)

theorem proved : Rows.ObjectsInsideCardSaid :=
  Claim7.holds_tied_plain_at .later [] [.data, .data, .data] true (true, "5507357303e68fb161500199b1a57d5b3532a6c570b0535d3ffe7b0033e882b4") false over (fun _ h => by cases h) (by kernel_rfl) (fun _ h => by cases h) objectsInside_row_tie rfl ⟨rfl, rfl⟩ (by kernel_rfl) rfl
    (fun f fn hf hfn => by
      obtain rfl : f = 4 := Option.some.inj ((show Tryd.prog.funcNamed "casebook/casebooklaw14.ObjectsInside" = some 4 by kernel_rfl).symm.trans hf) |>.symm
      obtain rfl : fn = Tryd.f4 := (Option.some.inj (Tryd.func4.symm.trans hfn)).symm
      exact ⟨by kernel_rfl, fun j t ht => by
        rw [Tryd.params4] at ht
        match j with
        | 0 => simp at ht; subst ht; exact (show Tryd.prog.wantsStandIn 24 = false by kernel_rfl)
        | 1 => simp at ht; subst ht; exact (show Tryd.prog.wantsStandIn 9 = false by kernel_rfl)
        | 2 => simp at ht; subst ht; exact (show Tryd.prog.wantsStandIn 9 = false by kernel_rfl)
        | j + 3 => simp at ht⟩)
    (by kernel_rfl)
end Go.Proofs.YtdkcmfafganhhaaDoor.lawInside
