/- The traces of a log: a map whose values are slices of the call's own. -/
import Derived.Test.YtnldjmokemgaoaaEl1
import Derived.Test.YtnldjmokemgaoaaSrt0
namespace Go.Proofs.Ytnldjmokemgaoaa
set_option linter.unusedSimpArgs false
set_option linter.unusedVariables false
set_option linter.unnecessarySimpa false
set_option linter.unusedSectionVars false
open Go.RowKit
variable [Glob]
set_option maxRecDepth 100000
abbrev Al := List (ByteArray × List ByteArray)
def rowS (e : ByteArray × List ByteArray) : Blk := .row 9 false (rowsOf strC e.2)
/-- The map's entries: slice number j stands in block j + k. -/
def osM : Nat → Al → List (AV × AV)
  | _, [] => []
  | k, e :: r => (.str e.1, .os k e.2.length) :: osM (k + 1) r
def trStep (al : Al) (e : Evt) : Al :=
  if e.life = 5 then (match afind e.case_ al 0 with | some q => al.set q.1 (e.case_, q.2 ++ [e.act]) | none => al ++ [(e.case_, [e.act])]) else al
def trL (l : List Evt) : Al := l.foldl trStep []
theorem osM_len : ∀ (k : Nat) (al : Al), (osM k al).length = al.length := by
  intro k al
  induction al generalizing k with
  | nil => rfl
  | cons e r ih => simp [osM, ih]
theorem osM_find (c : ByteArray) : ∀ (al : Al) (k i : Nat), mfind (false, [2]) (.str c) (osM k al) i = some ((afind c al i).map fun e => (e.1, .os (e.1 + k - i) e.2.length)) := by
  intro al
  induction al with
  | nil => intro k i; rfl
  | cons e r ih =>
    intro k i
    simp only [osM, mfind, afind]
    by_cases h : e.1 = c
    · subst h
      simp [keq, eqCs]
    · have h' : ¬ c.toList = e.1.toList := fun q => h (ba_eq (by rw [ba_toList, ba_toList] at q; exact q.symm))
      have h1 : keq (false, [2]) (.str c) (.str e.1) = some false := by simp [keq, eqCs, h']
      rw [h1]
      simp only [if_neg h, ih]
      rw [afind_shift c r (i + 1)]
      simp only [Option.map_map]
      congr 2
      funext x
      simp only [Function.comp]
      congr 2
      omega
theorem osM_set : ∀ (k : Nat) (al : Al) (j : Nat) (e : ByteArray × List ByteArray), (osM k al).set j (.str e.1, .os (j + k) e.2.length) = osM k (al.set j e) := by
  intro k al
  induction al generalizing k with
  | nil => intro j e; simp [osM]
  | cons l r ih =>
    intro j e
    cases j with
    | zero => simp [osM]
    | succ j => simp only [osM, List.set_cons_succ]; rw [← ih (k + 1) j e]; congr 4; omega
theorem osM_set1 {k j : Nat} {al : Al} {c : ByteArray} {v : List ByteArray} (x : ByteArray) : (osM k al).set j (.str c, .os (j + k) (v.length + 1)) = osM k (al.set j (c, v ++ [x])) := by
  rw [← osM_set]; simp
theorem osM_snoc : ∀ (k : Nat) (al : Al) (e : ByteArray × List ByteArray), osM k (al ++ [e]) = osM k al ++ [(.str e.1, .os (al.length + k) e.2.length)] := by
  intro k al
  induction al generalizing k with
  | nil => intro e; simp [osM]
  | cons l r ih => intro e; simp only [List.cons_append, osM, ih, List.length_cons]; congr 5; omega
theorem osM_refs {m : Nat} : ∀ (k : Nat) (al : Al), k + al.length ≤ m → refsM m (osM k al) = true := by
  intro k al
  induction al generalizing k with
  | nil => intro _; rfl
  | cons l r ih =>
    intro h
    simp only [List.length_cons] at h
    have := ih (k + 1) (by omega)
    simp only [refsM] at this ⊢
    simp only [osM, List.all_cons, refs, Bool.true_and, this, Bool.and_true, decide_eq_true_eq]
    omega
theorem cvH_rowS {m n : Nat} {r : List Blk} : ∀ al : Al, cvH m n (al.map rowS ++ r) (al.map rowS) := by
  intro al
  induction al with
  | nil => cases r <;> simp [cvH]
  | cons l q ih => exact ⟨⟨rfl, rfl, rfl, rowsOf_refs fun x => by simp [strC, refs]⟩, ih⟩
theorem mapS_get {r : List Blk} {al : Al} {j : Nat} (h : j < al.length) : (al.map rowS ++ r)[j]? = some (rowS al[j]) := by
  rw [List.getElem?_append_left (by simpa using h)]; simp [h]
theorem mapS_set {r : List Blk} {al : Al} {j : Nat} {b : Blk} (h : j < al.length) : (al.map rowS ++ r).set j b = (al.map rowS).set j b ++ r := by
  rw [List.set_append_left _ _ (by simpa using h)]
theorem rowS_snoc {c s : ByteArray} {l : List ByteArray} : Blk.row 9 false (rowsOf strC l ++ [[.str s]]) = rowS (c, l ++ [s]) := by simp [rowS, rowsOf, strC]
theorem rowS_one {c s : ByteArray} : Blk.row 9 false [[.str s]] = rowS (c, [s]) := by simp [rowS, rowsOf, strC]
theorem rowS_mB {ρ : Nat → Nat} {e : ByteArray × List ByteArray} : mB ρ (rowS e) = rowS e := by
  simp only [rowS, mB, rowsOf, List.map_map]
  congr 1
theorem osM_mB {ρ : Nat → Nat} : ∀ (k : Nat) (al : Al), (∀ i, i < k + al.length → ρ i = i) → (osM k al).map (fun e => (mA ρ e.1, mA ρ e.2)) = osM k al := by
  intro k al
  induction al generalizing k with
  | nil => intro _; rfl
  | cons l r ih =>
    intro h
    simp only [List.length_cons] at h
    simp only [osM, List.map_cons, mA, h k (by omega)]
    rw [ih (k + 1) fun i hi => h i (by omega)]
def alLe (al : Al) (i : Nat) : Prop := ∀ e ∈ al, e.2.length ≤ i
theorem trStep_len (al : Al) (e : Evt) : (trStep al e).length ≤ al.length + 1 := by
  unfold trStep
  split
  · split <;> simp
  · omega
/-- The slice of a case; nil if it has none. -/
def refO (k : Nat) (al : Al) (c : ByteArray) : AV := match afind c al 0 with | some e => .os (e.1 + k) e.2.length | none => .nils
def trRow (k : Nat) (al : Al) (c : ByteArray) : List AV := [.str c, refO k al c]
theorem mapS_last {al : Al} {b : Blk} : (al.map rowS ++ [b])[al.length]? = some b := by rw [List.getElem?_append_right (by simp)]; simp
theorem mapS_setL {al : Al} {b b' : Blk} : (al.map rowS ++ [b]).set al.length b' = al.map rowS ++ [b'] := by rw [List.set_append_right _ _ (by simp)]; simp
theorem cvH_rowS1 {m n : Nat} {e : TypeId} : ∀ al : Al, cvH m n (al.map rowS) (al.map rowS ++ [.row e true []]) := by
  intro al
  induction al with
  | nil => exact ⟨⟨rfl, rfl⟩, trivial⟩
  | cons l q ih => exact ⟨⟨rfl, rfl, rfl, rowsOf_refs fun x => by simp [strC, refs]⟩, ih⟩
theorem cvH_rowS2 {m n : Nat} {r r' : List Blk} (h : cvH m n r r') : ∀ al : Al, cvH m n (al.map rowS ++ r) (al.map rowS ++ r') := by
  intro al
  induction al with
  | nil => exact h
  | cons l q ih => exact ⟨⟨rfl, rfl, rfl, rowsOf_refs fun x => by simp [strC, refs]⟩, ih⟩
theorem afind_lt {c : ByteArray} {al : Al} {e : Nat × List ByteArray} (h : afind c al 0 = some e) : e.1 < al.length := (List.getElem?_eq_some_iff.1 (afind_eq (i := e.1) (v := e.2) h)).1
theorem refO_refs {k m : Nat} {al : Al} {c : ByteArray} (h : k + al.length ≤ m) : refs m (refO k al c) = true := by
  unfold refO
  split
  · rename_i e he
    have := afind_lt he
    simp [refs]; omega
  · simp [refs]
theorem trRows_refs {k m : Nat} {al : Al} {l : List ByteArray} (h : k + al.length ≤ m) : refsR m (rowsOf (trRow k al) l) = true := rowsOf_refs fun x => by
  have := refO_refs (c := x) h
  simp [trRow, refs, this]
set_option maxHeartbeats 8000000 in
theorem traces_new (l : List Evt) (hl : l.length ≤ 2000) (hsz : ∀ e ∈ l, e.case_.size ≤ maxLen) (hV : logV l = true) :
    New Try.prog 11 [.agg [.rs (rowsOf evtC l)]] (.tup [.os 0 (casesL l).length, .int .i64 0]) (.row 37 true (rowsOf (trRow 1 (trL l)) (casesL l)) :: (trL l).map rowS) := by
  have hcl : (casesL l).length ≤ 2000 := by
    have := setB_lenB (l.map (·.case_)) []
    simp only [List.length_nil, List.length_map] at this
    have h2 : (casesL l).length = ((l.map (·.case_)).foldl insB []).length := rfl
    omega
  refine new_of mixed Try.func11 rfl (by kernel_rfl) (of_decide_eq_true rfl) (by kernel_rfl) (vc_run ?_)
  ((try simp -implicitDefEqProofs [-loopQ_n, hV]) <;> (repeat' (first | (refine condD_dec ?_ ?_ <;> (intro hc; (try simp -implicitDefEqProofs [-loopQ_n, hc, hV]))) | (refine guardD_dec ?_ ?_ <;> (intro hc; (try simp -implicitDefEqProofs [-loopQ_n, hc, hV]))) | (refine condD_intro ?_ ?_ <;> (intro hd; have hc := hd; (try simp at hc) <;> (try simp -implicitDefEqProofs [-loopQ_n, hd, hc, hV]))) | (refine guardD_intro ?_ ?_ <;> (intro hd; have hc := hd; (try simp at hc) <;> (try simp -implicitDefEqProofs [-loopQ_n, hd, hc, hV]))) | (refine ldD_ep ?_ ?_; (focus kernel_rfl); (try simp -implicitDefEqProofs [-loopQ_n, hV])) | (refine callS_mk ?_; (try simp -implicitDefEqProofs [-loopQ_n, hV]); (first | refine callS_intro (log_pure _) (.inl rfl) ?_); (try simp -implicitDefEqProofs [-loopQ_n, hV])))))
  refine loop_intro (σ := Nat × Al) (fun x => ⟨[(1, .op 0 0), (4, .mp 1), (15, .rs (rowsOf evtC l)), (16, .int .i64 l.length), (17, .int .i64 x.1)], .box 24 [.rs (rowsOf evtC l)] :: .map (osM 2 x.2) :: x.2.map rowS⟩)
    (fun x => x.1 ≤ l.length ∧ x.2.length ≤ x.1 ∧ alLe x.2 x.1 ∧ (l.drop x.1).foldl trStep x.2 = trL l) (fun x => l.length - x.1) (0, []) ⟨by simp, by simp, fun e he => by simp at he, rfl⟩ ?_ ?_
  · refine weak_of 2 0 rfl rfl ?_ ?_ <;> simp [osM, refsM]
  rintro ⟨i, al⟩ ⟨hi, hln, hln2, hR⟩
  simp only at hi hln hln2 hR
  by_cases h : i < l.length
  · have w1 : wrapI .i64 ((i : Int) + 1) = ((i + 1 : Nat) : Int) := by rw [wrap_in (by omega) (by omega)]; omega
    obtain ⟨⟨c, a, r, life, time, data⟩, hf⟩ : ∃ e, l[i] = e := ⟨_, rfl⟩
    rw [List.drop_eq_getElem_cons h, hf, List.foldl_cons] at hR
    by_cases h5 : life = 5
    · subst h5
      cases hq : afind c al 0 with
      | some e =>
        obtain ⟨j, v⟩ := e
        have hj2 := afind_eq hq
        have hj := (List.getElem?_eq_some_iff.1 hj2).1
        have hje : al[j] = (c, v) := (List.getElem?_eq_some_iff.1 hj2).2
        have hv : v.length ≤ 1073741823 := by have := hln2 _ (List.mem_of_getElem? hj2); simp only at this; omega
        have hst : trStep al ⟨c, a, r, 5, time, data⟩ = al.set j (c, v ++ [a]) := by simp [trStep, hq]
        rw [hst] at hR
        ((try simp -implicitDefEqProofs [-loopQ_n, h, hf, evtC, osM_find, hq, hj, hje, hv, mapS_get, mapS_set, rowS]) <;> (repeat' (first | (refine condD_dec ?_ ?_ <;> (intro hc; (try simp -implicitDefEqProofs [-loopQ_n, hc, h, hf, evtC, osM_find, hq, hj, hje, hv, mapS_get, mapS_set, rowS]))) | (refine guardD_dec ?_ ?_ <;> (intro hc; (try simp -implicitDefEqProofs [-loopQ_n, hc, h, hf, evtC, osM_find, hq, hj, hje, hv, mapS_get, mapS_set, rowS]))) | (refine condD_intro ?_ ?_ <;> (intro hd; have hc := hd; (try simp at hc) <;> (try simp -implicitDefEqProofs [-loopQ_n, hd, hc, h, hf, evtC, osM_find, hq, hj, hje, hv, mapS_get, mapS_set, rowS]))) | (refine guardD_intro ?_ ?_ <;> (intro hd; have hc := hd; (try simp at hc) <;> (try simp -implicitDefEqProofs [-loopQ_n, hd, hc, h, hf, evtC, osM_find, hq, hj, hje, hv, mapS_get, mapS_set, rowS]))) | (refine ldD_ep ?_ ?_; (focus kernel_rfl); (try simp -implicitDefEqProofs [-loopQ_n, h, hf, evtC, osM_find, hq, hj, hje, hv, mapS_get, mapS_set, rowS])))))
        rw [rowS_snoc (c := c), osM_set1 a, ← List.map_set]
        refine loop_next (i + 1, al.set j (c, v ++ [a])) ⟨by simp only; omega, by simp; omega, fun r hr => ?_, hR⟩ (by simp only; omega) (weak_of (2 + al.length) 0 (by simp; omega) (by simp; omega) ?_ ?_)
        · rcases List.mem_or_eq_of_mem_set hr with hr | rfl
          · have := hln2 r hr; simp only; omega
          · have := hln2 _ (List.mem_of_getElem? hj2); simp at this ⊢; omega
        · simp [w1, refs]; omega
        · simp [-List.map_set, -refsM, osM_refs, cvH_rowS]
      | none =>
        have hst : trStep al ⟨c, a, r, 5, time, data⟩ = al ++ [(c, [a])] := by simp [trStep, hq]
        rw [hst] at hR
        ((try simp -implicitDefEqProofs [-loopQ_n, h, hf, evtC, osM_find, hq]) <;> (repeat' (first | (refine condD_dec ?_ ?_ <;> (intro hc; (try simp -implicitDefEqProofs [-loopQ_n, hc, h, hf, evtC, osM_find, hq]))) | (refine guardD_dec ?_ ?_ <;> (intro hc; (try simp -implicitDefEqProofs [-loopQ_n, hc, h, hf, evtC, osM_find, hq]))) | (refine condD_intro ?_ ?_ <;> (intro hd; have hc := hd; (try simp at hc) <;> (try simp -implicitDefEqProofs [-loopQ_n, hd, hc, h, hf, evtC, osM_find, hq]))) | (refine guardD_intro ?_ ?_ <;> (intro hd; have hc := hd; (try simp at hc) <;> (try simp -implicitDefEqProofs [-loopQ_n, hd, hc, h, hf, evtC, osM_find, hq]))) | (refine ldD_ep ?_ ?_; (focus kernel_rfl); (try simp -implicitDefEqProofs [-loopQ_n, h, hf, evtC, osM_find, hq])))))
        refine loop_next (i + 1, al ++ [(c, [a])]) ⟨by simp only; omega, by simp; omega, fun r hr => ?_, hR⟩ (by simp only; omega) (weak_new (al.length + 2) 2 (.box 24 [.rs (rowsOf evtC l)] :: .map (osM 2 (al ++ [(c, [a])])) :: al.map rowS) (rowS (c, [a])) (by simp) (by simp) (by simp) fun ρ h1 h2 => ⟨?_, ?_, ?_⟩)
        · replace hr := List.mem_append.1 hr
          rw [List.mem_singleton] at hr
          rcases hr with hr | rfl
          · have := hln2 r hr; omega
          · show 1 ≤ i + 1; omega
        · have e1 := osM_mB (ρ := ρ) 2 al fun i hi => h1 i (by omega)
          have e2 : (List.map (mB ρ) (al.map rowS)) = al.map rowS := by rw [List.map_map]; exact List.map_congr_left fun x _ => rowS_mB
          simp only [List.map_cons, e2, osM_snoc, mB, List.map_append, e1, List.map_nil, mA, h2]
          simp [rowsOf, mL, mA]
        · simp [-mB, rowS_mB, rowS_one (c := c)]
        · simp [tEq, w1, mA, h1]
    · have hst : trStep al ⟨c, a, r, life, time, data⟩ = al := by simp [trStep, h5]
      rw [hst] at hR
      ((try simp -implicitDefEqProofs [-loopQ_n, h, hf, evtC, h5]) <;> (repeat' (first | (refine condD_dec ?_ ?_ <;> (intro hc; (try simp -implicitDefEqProofs [-loopQ_n, hc, h, hf, evtC, h5]))) | (refine guardD_dec ?_ ?_ <;> (intro hc; (try simp -implicitDefEqProofs [-loopQ_n, hc, h, hf, evtC, h5]))) | (refine condD_intro ?_ ?_ <;> (intro hd; have hc := hd; (try simp at hc) <;> (try simp -implicitDefEqProofs [-loopQ_n, hd, hc, h, hf, evtC, h5]))) | (refine guardD_intro ?_ ?_ <;> (intro hd; have hc := hd; (try simp at hc) <;> (try simp -implicitDefEqProofs [-loopQ_n, hd, hc, h, hf, evtC, h5]))) | (refine ldD_ep ?_ ?_; (focus kernel_rfl); (try simp -implicitDefEqProofs [-loopQ_n, h, hf, evtC, h5])))))
      refine loop_next (i + 1, al) ⟨by simp only; omega, by simp only; omega, fun q hq => by have := hln2 q hq; simp only; omega, hR⟩ (by simp only; omega) (weak_of (2 + al.length) 0 (by simp; omega) (by simp; omega) ?_ ?_)
      · simp [w1, refs]; omega
      · simp [-refsM, osM_refs, cvH_rowS]
  · have hin : i = l.length := by omega
    subst hin
    simp only [List.drop_length, List.foldl_nil] at hR
    subst hR
    generalize hcs : casesL l = cs at hcl
    have hCP := cases_pure l hl hsz
    rw [hcs] at hCP
    generalize trL l = al at hln hln2
    ((try simp -implicitDefEqProofs [-loopQ_n]) <;> (repeat' (first | (refine condD_dec ?_ ?_ <;> (intro hc; (try simp -implicitDefEqProofs [-loopQ_n, hc]))) | (refine guardD_dec ?_ ?_ <;> (intro hc; (try simp -implicitDefEqProofs [-loopQ_n, hc]))) | (refine condD_intro ?_ ?_ <;> (intro hd; have hc := hd; (try simp at hc) <;> (try simp -implicitDefEqProofs [-loopQ_n, hd, hc]))) | (refine guardD_intro ?_ ?_ <;> (intro hd; have hc := hd; (try simp at hc) <;> (try simp -implicitDefEqProofs [-loopQ_n, hd, hc]))) | (refine ldD_ep ?_ ?_; (focus kernel_rfl); (try simp -implicitDefEqProofs [-loopQ_n])) | (refine callS_mk ?_; (try simp -implicitDefEqProofs [-loopQ_n]); (first | refine callS_intro (hCP) (.inr ⟨rfl, rfl⟩) ?_); (try simp -implicitDefEqProofs [-loopQ_n])))))
    refine loop_intro (σ := Nat) (fun i => ⟨[(4, .mp 1), (7, .os (al.length + 2) i), (37, .rs (rowsOf strC cs)), (38, .int .i64 cs.length), (39, .int .i64 i)], .gone :: .map (osM 2 al) :: (al.map rowS ++ [.row 37 true (rowsOf (trRow 2 al) (cs.take i))])⟩)
      (fun i => i ≤ cs.length) (fun i => cs.length - i) 0 (by simp) ?_ ?_
    · refine weak_of (2 + al.length) 1 (by simp; omega) (by simp; omega) ?_ ?_
      · simp [refs]; omega
      · simp only [List.take_zero, rowsOf_nil]
        exact ⟨trivial, ⟨rfl, osM_refs 2 al (by omega)⟩, cvH_rowS1 al⟩
    rintro i hi
    by_cases h : i < cs.length
    · have w2 : wrapI .i64 ((i : Int) + 1) = ((i + 1 : Nat) : Int) := by rw [wrap_in (by omega) (by omega)]; omega
      have hlen : (cs.take i).length ≤ 1073741823 := by rw [List.length_take]; omega
      have hmin : min i cs.length = i := by omega
      have hrow : rowsOf (trRow 2 al) (cs.take i) ++ [trRow 2 al cs[i]] = rowsOf (trRow 2 al) (cs.take (i + 1)) := by
        rw [List.take_succ_eq_append_getElem h]; simp only [rowsOf, List.map_append, List.map_cons, List.map_nil]
      have hlt : i ≤ 1073741823 := by omega
      have hfin : ∀ (s : St) (b : Blk), s.H = .gone :: .map (osM 2 al) :: (al.map rowS ++ [.row 37 true (rowsOf (trRow 2 al) (cs.take (i + 1))), b]) → cvT (3 + al.length) 0 s.T [(4, .mp 1), (7, .os (al.length + 2) (i + 1)), (37, .rs (rowsOf strC cs)), (38, .int .i64 cs.length), (39, .int .i64 (i + 1 : Nat))] →
          Weak Try.prog 0 s ⟨[(4, .mp 1), (7, .os (al.length + 2) (i + 1)), (37, .rs (rowsOf strC cs)), (38, .int .i64 cs.length), (39, .int .i64 (i + 1 : Nat))], .gone :: .map (osM 2 al) :: (al.map rowS ++ [.row 37 true (rowsOf (trRow 2 al) (cs.take (i + 1)))])⟩ := fun s b hH hT => by
        refine weak_of (3 + al.length) 0 (by rw [hH]; simp; omega) (by simp; omega) hT ?_
        rw [hH]
        exact ⟨trivial, ⟨rfl, osM_refs 2 al (by omega)⟩, cvH_rowS2 (r := [.row 37 true (rowsOf (trRow 2 al) (cs.take (i + 1))), b]) (r' := [.row 37 true (rowsOf (trRow 2 al) (cs.take (i + 1)))]) (by exact ⟨⟨rfl, rfl, rfl, trRows_refs (by omega)⟩, trivial⟩) al⟩
      cases hq : afind cs[i] al 0 with
      | some e =>
        obtain ⟨j, v⟩ := e
        have hro : trRow 2 al cs[i] = [.str cs[i], .os (j + 2) v.length] := by simp [trRow, refO, hq]
        rw [hro] at hrow
        ((try simp -implicitDefEqProofs [-loopQ_n, h, osM_find, hq, mapS_last, mapS_setL, hmin, hlt, hrow]) <;> (repeat' (first | (refine condD_dec ?_ ?_ <;> (intro hc; (try simp -implicitDefEqProofs [-loopQ_n, hc, h, osM_find, hq, mapS_last, mapS_setL, hmin, hlt, hrow]))) | (refine guardD_dec ?_ ?_ <;> (intro hc; (try simp -implicitDefEqProofs [-loopQ_n, hc, h, osM_find, hq, mapS_last, mapS_setL, hmin, hlt, hrow]))) | (refine condD_intro ?_ ?_ <;> (intro hd; have hc := hd; (try simp at hc) <;> (try simp -implicitDefEqProofs [-loopQ_n, hd, hc, h, osM_find, hq, mapS_last, mapS_setL, hmin, hlt, hrow]))) | (refine guardD_intro ?_ ?_ <;> (intro hd; have hc := hd; (try simp at hc) <;> (try simp -implicitDefEqProofs [-loopQ_n, hd, hc, h, osM_find, hq, mapS_last, mapS_setL, hmin, hlt, hrow]))) | (refine ldD_ep ?_ ?_; (focus kernel_rfl); (try simp -implicitDefEqProofs [-loopQ_n, h, osM_find, hq, mapS_last, mapS_setL, hmin, hlt, hrow])))))
        refine loop_next (i + 1) (by omega) (by omega) (hfin _ _ rfl ?_)
        simp [w2, refs]; omega
      | none =>
        have hro : trRow 2 al cs[i] = [.str cs[i], .nils] := by simp [trRow, refO, hq]
        rw [hro] at hrow
        ((try simp -implicitDefEqProofs [-loopQ_n, h, osM_find, hq, mapS_last, mapS_setL, hmin, hlt, hrow]) <;> (repeat' (first | (refine condD_dec ?_ ?_ <;> (intro hc; (try simp -implicitDefEqProofs [-loopQ_n, hc, h, osM_find, hq, mapS_last, mapS_setL, hmin, hlt, hrow]))) | (refine guardD_dec ?_ ?_ <;> (intro hc; (try simp -implicitDefEqProofs [-loopQ_n, hc, h, osM_find, hq, mapS_last, mapS_setL, hmin, hlt, hrow]))) | (refine condD_intro ?_ ?_ <;> (intro hd; have hc := hd; (try simp at hc) <;> (try simp -implicitDefEqProofs [-loopQ_n, hd, hc, h, osM_find, hq, mapS_last, mapS_setL, hmin, hlt, hrow]))) | (refine guardD_intro ?_ ?_ <;> (intro hd; have hc := hd; (try simp at hc) <;> (try simp -implicitDefEqProofs [-loopQ_n, hd, hc, h, osM_find, hq, mapS_last, mapS_setL, hmin, hlt, hrow]))) | (refine ldD_ep ?_ ?_; (focus kernel_rfl); (try simp -implicitDefEqProofs [-loopQ_n, h, osM_find, hq, mapS_last, mapS_setL, hmin, hlt, hrow])))))
        refine loop_next (i + 1) (by omega) (by omega) (hfin _ _ rfl ?_)
        simp [w2, refs]; omega
    · have hi2 : i = cs.length := by omega
      subst hi2
      rw [List.take_length]
      ((try simp -implicitDefEqProofs [-loopQ_n]) <;> (repeat' (first | (refine condD_dec ?_ ?_ <;> (intro hc; (try simp -implicitDefEqProofs [-loopQ_n, hc]))) | (refine guardD_dec ?_ ?_ <;> (intro hc; (try simp -implicitDefEqProofs [-loopQ_n, hc]))) | (refine condD_intro ?_ ?_ <;> (intro hd; have hc := hd; (try simp at hc) <;> (try simp -implicitDefEqProofs [-loopQ_n, hd, hc]))) | (refine guardD_intro ?_ ?_ <;> (intro hd; have hc := hd; (try simp at hc) <;> (try simp -implicitDefEqProofs [-loopQ_n, hd, hc]))) | (refine ldD_ep ?_ ?_; (focus kernel_rfl); (try simp -implicitDefEqProofs [-loopQ_n])))))
      refine ⟨_, .tup [.os 0 cs.length, .int .i64 0], _, rfl, weak_ren ((al.length + 2) :: List.range' 2 al.length) (by simp) ?_ (fun i hi => ?_) (fun i hi => absurd hi (Nat.not_lt_zero i)) (fun i j b hi hb => ?_) (fun k => ?_), rfl, rfl⟩
      · simp [List.nodup_range']
        omega
      · simp at hi ⊢
        omega
      · cases i with
        | zero =>
          simp at hi hb
          subst hi; subst hb
          simp only [List.getElem?_cons_succ, mapS_last, mB, Option.some.injEq, Blk.row.injEq, true_and]
          rw [rowsOf, rowsOf, List.map_map]
          refine List.map_congr_left fun c _ => ?_
          simp only [Function.comp, trRow, mL, mA, List.cons.injEq, true_and, and_true]
          unfold refO
          split
          · rename_i e he
            have := afind_lt he
            simp [mA, rn, List.getElem?_range', this]; omega
          · rfl
        | succ i =>
          simp only [List.getElem?_cons_succ] at hi hb
          obtain ⟨h1, rfl⟩ : i < al.length ∧ j = 2 + i := by
            by_cases hc : i < al.length
            · rw [List.getElem?_range' hc] at hi; simp at hi; exact ⟨hc, hi.symm⟩
            · rw [List.getElem?_eq_none (by simp; omega)] at hi; cases hi
          rw [List.getElem?_map, List.getElem?_eq_getElem h1] at hb
          simp at hb
          subst hb
          rw [rowS_mB, show 2 + i = i + 1 + 1 by omega]
          simp only [List.getElem?_cons_succ]
          exact mapS_get h1
      · cases k with
        | zero => right; simp [tget, mA, mL, rn]
        | succ k => left; simp [tget]
theorem cases_len {l : List Evt} (hl : l.length ≤ 2000) : (casesL l).length ≤ 2000 := by
  have := setB_lenB (l.map (·.case_)) []
  simp only [List.length_nil, List.length_map] at this
  have h2 : (casesL l).length = ((l.map (·.case_)).foldl insB []).length := rfl
  omega
/-- What the traces read as. -/
theorem refO_reify {n : Nat} {b : Blk} {al : Al} {c : ByteArray} : reify (b :: al.map rowS) (n + 2) (refO 1 al c) = some (.rs (rowsOf strC ((alook al c).getD []))) := by
  unfold refO alook
  cases h : afind c al 0 with
  | none => rfl
  | some e =>
    obtain ⟨j, v⟩ := e
    have hj := afind_eq h
    have h1 : (b :: al.map rowS)[j + 1]? = some (rowS (c, v)) := by rw [List.getElem?_cons_succ, List.getElem?_map, hj]; rfl
    have h2 : (rowsOf strC v).mapM (fun row => row.mapM (reify (b :: al.map rowS) (n + 1))) = some (rowsOf strC v) := sw_reify
    rw [rf_os]
    simp only [h1, rowS, rowsOf_length, if_true]
    rw [h2]
    rfl
theorem traces_pure (l : List Evt) (hl : l.length ≤ 2000) (hsz : ∀ e ∈ l, e.case_.size ≤ maxLen) (hV : logV l = true) :
    Pure Try.prog 11 [.agg [.rs (rowsOf evtC l)]] (.tup [.rs (rowsOf (fun c => [.str c, .rs (rowsOf strC ((alook (trL l) c).getD []))]) (casesL l)), .int .i64 0]) := by
  refine new_pure (traces_new l hl hsz hV) ?_
  generalize casesL l = cs
  generalize trL l = al
  have key : ∀ (b : Blk) (q : List ByteArray), (rowsOf (trRow 1 al) q).mapM (fun row => row.mapM (reify (b :: al.map rowS) 6)) = some (rowsOf (fun c => [.str c, .rs (rowsOf strC ((alook al c).getD []))]) q) := fun b q => by
    induction q with
    | nil => rfl
    | cons c q ih =>
      have h1 := refO_reify (n := 4) (b := b) (al := al) (c := c)
      simp only [rowsOf, List.map_cons, List.mapM_cons] at ih ⊢
      rw [ih]
      simp only [trRow, List.mapM_cons, List.mapM_nil, h1]
      rfl
  have h0 := key (.row 37 true (rowsOf (trRow 1 al) cs)) cs
  simp only [rf_tup, mapM_cons', mapM_nil', rf_os, rf_int, List.getElem?_cons_zero, rowsOf_length, if_true, h0]
  rfl
end Go.Proofs.Ytnldjmokemgaoaa
