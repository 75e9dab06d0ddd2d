/- The variants of a log (program). -/
import Derived.Test.YtnldjmokemgaoaaElV
import Derived.Test.YtnldjmokemgaoaaEl3
import Derived.Test.YtnldjmokemgaoaaElA
namespace Go.Proofs.Ytnldjmokemgaoaa
set_option linter.unusedSimpArgs false
set_option linter.unusedVariables false
set_option linter.unnecessarySimpa false
set_option linter.unusedSectionVars false
open Go.RowKit
variable [Glob]
set_option maxRecDepth 100000
theorem tr_put (al : Al) (e : Evt) : trStep al e = if e.life = 5 then aput al e.case_ ((alook al e.case_).getD [] ++ [e.act]) else al := by
  unfold trStep aput alook
  split
  · cases afind e.case_ al 0 <;> rfl
  · rfl
theorem tr_alook (c : ByteArray) : ∀ (l : List Evt) (al : Al), (alook (l.foldl trStep al) c).getD [] = (alook al c).getD [] ++ wordL l c := by
  intro l
  induction l with
  | nil => intro al; simp [wordL]
  | cons e l ih =>
    intro al
    rw [List.foldl_cons, ih, tr_put]
    by_cases h5 : e.life = 5
    · rw [if_pos h5, alook_put]
      by_cases hc : e.case_ = c
      · subst hc
        simp [wordL, wordE, h5]
      · have hw : wordL (e :: l) c = wordL l c := by simp [wordL, wordE, hc]
        simp [hw, hc]
    · have hw : wordL (e :: l) c = wordL l c := by simp [wordL, wordE, h5]
      rw [if_neg h5, hw]
theorem wd_word (l : List Evt) (c : ByteArray) : wd (trL l) c = wordL l c := by
  unfold wd trL
  rw [tr_alook]
  simp [alook, afind]
theorem word_len (l : List Evt) (c : ByteArray) : (wordL l c).length ≤ l.length := by
  simp only [wordL, List.length_map]
  exact List.length_filter_le _ _
/-! The numbers of words, the words by the cases that have them. -/
abbrev Ac := List (ByteArray × Int)
def grpA (al : Al) (acc : Ac) (c : ByteArray) : Ac :=
  match acc[acc.length - 1]? with
  | some p => if wd al p.1 = wd al c then acc.set (acc.length - 1) (p.1, p.2 + 1) else acc ++ [(c, 1)]
  | none => acc ++ [(c, 1)]
def acV (al : Al) (acc : Ac) : List Vr := acc.map fun p => ⟨wd al p.1, p.2⟩
theorem grpA_V (al : Al) (acc : Ac) (c : ByteArray) : acV al (grpA al acc c) = grpV (acV al acc) (wd al c) := by
  unfold grpA grpV acV
  simp only [List.length_map, List.getElem?_map]
  cases acc[acc.length - 1]? with
  | none => simp
  | some p =>
    simp only [Option.map_some]
    by_cases e : wd al p.1 = wd al c
    · rw [if_pos e, if_pos e, List.map_set]
    · rw [if_neg e, if_neg e]; simp
theorem acV_fold (al : Al) : ∀ (cs : List ByteArray) (acc : Ac), acV al (cs.foldl (grpA al) acc) = (cs.map (wd al)).foldl grpV (acV al acc) := by
  intro cs
  induction cs with
  | nil => intro acc; rfl
  | cons c cs ih => intro acc; rw [List.foldl_cons, ih, grpA_V, List.map_cons, List.foldl_cons]
def progV (al : Al) : List ByteArray → Ac → List Vr × Int
  | [], acc => if 300 < acc.length then ([], 5) else (acV al acc, 0)
  | c :: r, acc => if 200 < (wd al c).length then ([], 5) else progV al r (grpA al acc c)
theorem progV_eq (al : Al) : ∀ (cs : List ByteArray) (acc : Ac), progV al cs acc = if (cs.any fun c => decide (200 < (wd al c).length)) = true then ([], 5) else if 300 < (acV al (cs.foldl (grpA al) acc)).length then ([], 5) else (acV al (cs.foldl (grpA al) acc), 0) := by
  intro cs
  induction cs with
  | nil => intro acc; simp [progV, acV]
  | cons c cs ih =>
    intro acc
    by_cases h : 200 < (wd al c).length
    · simp [progV, h]
    · rw [progV, if_neg h, ih, List.foldl_cons]
      simp [h]
def varL (l : List Evt) : List Vr := ((casesL l).map (wordL l)).foldl (fun acc w => addV w 1 acc) []
def varR (l : List Evt) : List Vr × Int := if ((casesL l).any fun c => decide (200 < (wordL l c).length)) = true then ([], 5) else if 300 < (varL l).length then ([], 5) else (varL l, 0)
def varO (r : List Vr × Int) : AV := .tup [.rs (rowsOf vrC r.1), .int .i64 r.2]
theorem any_perm {α : Type} {p : α → Bool} {a b : List α} (h : a.Perm b) : a.any p = b.any p := by
  rw [Bool.eq_iff_iff, List.any_eq_true, List.any_eq_true]
  exact ⟨fun ⟨x, h1, h2⟩ => ⟨x, h.mem_iff.1 h1, h2⟩, fun ⟨x, h1, h2⟩ => ⟨x, h.mem_iff.2 h1, h2⟩⟩
theorem progV_varR {l : List Evt} {al : Al} {cs cs' : List ByteArray} (hcs : casesL l = cs) (hp : cs'.Perm cs) (hs : (cs'.map (wd al)).Pairwise (fun a b => cmpL a b ≤ 0)) (hw : ∀ c, wd al c = wordL l c) : progV al cs' [] = varR l := by
  have h1 : acV al (cs'.foldl (grpA al) []) = varL l := by
    rw [acV_fold, varL, hcs]
    have e : cs.map (wordL l) = cs.map (wd al) := List.map_congr_left fun c _ => (hw c).symm
    rw [e]
    exact grp_eq (hp.map _) hs
  have h2 : (cs'.any fun c => decide (200 < (wd al c).length)) = ((casesL l).any fun c => decide (200 < (wordL l c).length)) := by
    rw [hcs, any_perm hp]
    congr 1; funext c; rw [hw]
  rw [progV_eq, h1, h2, varR]
/-! The walk. -/
def vrO (k : Nat) (al : Al) (p : ByteArray × Int) : List AV := [refO k al p.1, .int .i64 p.2]
theorem refO_reify2 {n : Nat} {b b' : Blk} {r : List Blk} {al : Al} {c : ByteArray} : reify (b :: b' :: (al.map rowS ++ r)) (n + 2) (refO 2 al c) = some (.rs (rowsOf strC (wd al c))) := by
  unfold refO wd alook
  cases h : afind c al 0 with
  | none => rfl
  | some e =>
    obtain ⟨j, v⟩ := e
    have hj := afind_eq h
    have hjl : j < al.length := (List.getElem?_eq_some_iff.1 hj).1
    have h1 : (b :: b' :: (al.map rowS ++ r))[j + 2]? = some (rowS (c, v)) := by
      rw [List.getElem?_cons_succ, List.getElem?_cons_succ, mapS_get hjl]
      rw [(List.getElem?_eq_some_iff.1 hj).2]
    have h2 : (rowsOf strC v).mapM (fun row => row.mapM (reify (b :: b' :: (al.map rowS ++ r)) (n + 1))) = some (rowsOf strC v) := sw_reify
    rw [rf_os]
    simp only [h1, rowS, rowsOf_length, if_true]
    rw [h2]
    rfl
theorem vrO_reify {n : Nat} {b b' : Blk} {r : List Blk} {al : Al} {acc : Ac} : (rowsOf (vrO 2 al) acc).mapM (fun row => row.mapM (reify (b :: b' :: (al.map rowS ++ r)) (n + 2))) = some (rowsOf vrC (acV al acc)) := by
  induction acc with
  | nil => rfl
  | cons p q ih =>
    simp only [rowsOf, acV, List.map_cons, List.mapM_cons] at ih ⊢
    rw [ih]
    simp only [vrO, vrC, List.mapM_cons, List.mapM_nil, refO_reify2]
    rfl
theorem vrO_refs {k m : Nat} {al : Al} {acc : Ac} (h : k + al.length ≤ m) : refsR m (rowsOf (vrO k al) acc) = true := rowsOf_refs fun x => by
  have := refO_refs (c := x.1) h
  simp [vrO, refs, this]
theorem shB_tr {al : Al} {t : TypeId} {nb : Bool} {cs : List ByteArray} : shB 1 (.row t nb (rowsOf (trRow 1 al) cs)) = .row t nb (rowsOf (trRow 2 al) cs) := by
  simp only [shB, rowsOf, List.map_map]
  congr 1
  refine List.map_congr_left fun c _ => ?_
  simp only [Function.comp, trRow, shL, shA, refO]
  cases afind c al 0 <;> rfl
theorem shB_rowS {al : Al} : List.map (shB 1) (al.map rowS) = al.map rowS := by
  rw [List.map_map]
  refine List.map_congr_left fun e _ => ?_
  simp only [Function.comp, rowS, shB, rowsOf, List.map_map]
  congr 1
theorem flat_tr {al : Al} {t : TypeId} {nb : Bool} {cs : List ByteArray} : (Blk.row t nb (rowsOf (trRow 1 al) cs) :: al.map rowS).all flatB = true := by
  simp only [List.all_cons, Bool.and_eq_true, List.all_map]
  refine ⟨?_, ?_⟩
  · simp only [flatB, rowsOf, List.all_map, List.all_eq_true]
    intro c _
    simp only [Function.comp, trRow, refO]
    cases afind c al 0 <;> simp [flatO, flatOL]
  · rw [List.all_eq_true]
    intro e _
    simp only [Function.comp, rowS, flatB, rowsOf, List.all_map, List.all_eq_true]
    intro c _
    simp [strC, flatO, flatOL]
theorem variants_nil : Pure Try.prog 25 [.agg [.rs []]] (varO ([], 0)) := exFB_pure (m := 64) (n := 20) mixed elHook_ok keysB_ok (by kernel_rfl)
theorem variants_bad (l : List Evt) (hV : logV l = false) : Pure Try.prog 25 [.agg [.rs (rowsOf evtC l)]] (varO ([], 1)) := by
  have hT : Pure Try.prog 11 [.agg [.rs (rowsOf evtC l)]] (.tup [.rs [], .int .i64 1]) := by
    refine pure_of mixed Try.func11 rfl (by kernel_rfl) (of_decide_eq_true rfl) (by kernel_rfl) (vc_run ?_)
    ((try simp -implicitDefEqProofs [-loopQ_n, hV]) <;> (repeat' (first | (refine condD_dec ?_ ?_ <;> (intro hc; (try simp -implicitDefEqProofs [-loopQ_n, hc, hV]))) | (refine guardD_dec ?_ ?_ <;> (intro hc; (try simp -implicitDefEqProofs [-loopQ_n, hc, hV]))) | (refine condD_intro ?_ ?_ <;> (intro hd; have hc := hd; (try simp at hc) <;> (try simp -implicitDefEqProofs [-loopQ_n, hd, hc, hV]))) | (refine guardD_intro ?_ ?_ <;> (intro hd; have hc := hd; (try simp at hc) <;> (try simp -implicitDefEqProofs [-loopQ_n, hd, hc, hV]))) | (refine ldD_ep ?_ ?_; (focus kernel_rfl); (try simp -implicitDefEqProofs [-loopQ_n, hV])) | (refine callS_mk ?_; (try simp -implicitDefEqProofs [-loopQ_n, hV]); (first | refine callS_intro (log_pure _) (.inl rfl) ?_); (try simp -implicitDefEqProofs [-loopQ_n, hV])))))
  refine pure_of mixed Try.func25 rfl (by kernel_rfl) (of_decide_eq_true rfl) (by kernel_rfl) (vc_run ?_)
  ((try simp -implicitDefEqProofs [-loopQ_n, varO, rowsOf]) <;> (repeat' (first | (refine condD_dec ?_ ?_ <;> (intro hc; (try simp -implicitDefEqProofs [-loopQ_n, hc, varO, rowsOf]))) | (refine guardD_dec ?_ ?_ <;> (intro hc; (try simp -implicitDefEqProofs [-loopQ_n, hc, varO, rowsOf]))) | (refine condD_intro ?_ ?_ <;> (intro hd; have hc := hd; (try simp at hc) <;> (try simp -implicitDefEqProofs [-loopQ_n, hd, hc, varO, rowsOf]))) | (refine guardD_intro ?_ ?_ <;> (intro hd; have hc := hd; (try simp at hc) <;> (try simp -implicitDefEqProofs [-loopQ_n, hd, hc, varO, rowsOf]))) | (refine ldD_ep ?_ ?_; (focus kernel_rfl); (try simp -implicitDefEqProofs [-loopQ_n, varO, rowsOf])) | (refine callS_mk ?_; (try simp -implicitDefEqProofs [-loopQ_n, varO, rowsOf]); (first | refine callS_intro (hT) (.inr ⟨rfl, rfl⟩) ?_); (try simp -implicitDefEqProofs [-loopQ_n, varO, rowsOf])))))
def cntOk (acc : Ac) (i : Nat) : Prop := ∀ p ∈ acc, 0 ≤ p.2 ∧ p.2 ≤ i
theorem cntOk_nil : cntOk [] 0 := fun p h => by cases h
theorem cnt_grp {al : Al} {acc : Ac} {c : ByteArray} {i : Nat} (h : cntOk acc i) : cntOk (grpA al acc c) (i + 1) := by
  have hn : ∀ p ∈ acc ++ [(c, (1 : Int))], 0 ≤ p.2 ∧ p.2 ≤ ((i + 1 : Nat) : Int) := fun p hp => by
    rcases List.mem_append.1 hp with hp | hp
    · have := h p hp; omega
    · simp at hp; subst hp; simp only; omega
  unfold grpA
  split
  · rename_i q hq
    split
    · intro p hp
      rcases List.mem_or_eq_of_mem_set hp with hp | rfl
      · have := h p hp; omega
      · have := h q (List.mem_of_getElem? hq); simp only; omega
    · exact hn
  · exact hn
theorem shL_tr {al : Al} {cs : List ByteArray} : List.map (shL 1) (rowsOf (trRow 1 al) cs) = rowsOf (trRow 2 al) cs := by
  have := shB_tr (al := al) (t := 0) (nb := true) (cs := cs)
  simp only [shB, Blk.row.injEq, true_and] at this
  exact this
theorem shB_rowS2 {al : Al} : List.map (shB 1 ∘ rowS) al = al.map rowS := by
  have := shB_rowS (al := al)
  rwa [List.map_map] at this
theorem vrO_set {al : Al} {acc : Ac} {j : Nat} {c : ByteArray} {n : Int} : (rowsOf (vrO 2 al) acc).set j [refO 2 al c, .int .i64 n] = rowsOf (vrO 2 al) (acc.set j (c, n)) := by
  simp only [rowsOf, List.map_set, vrO]
set_option maxHeartbeats 16000000 in
theorem variants_pure (l : List Evt) (hl : l.length ≤ 2000) (hsz : ∀ e ∈ l, e.case_.size ≤ maxLen) (hV : logV l = true) :
    Pure Try.prog 25 [.agg [.rs (rowsOf evtC l)]] (varO (varR l)) := by
  by_cases hnil : l = []
  · subst hnil
    exact variants_nil
  have hne : casesL l ≠ [] := fun e => by
    obtain ⟨x, r, rfl⟩ : ∃ x r, l = x :: r := by cases l with | nil => exact absurd rfl hnil | cons x r => exact ⟨x, r, rfl⟩
    have : x.case_ ∈ casesL (x :: r) := (setB_mem _ _).2 (by simp)
    rw [e] at this; cases this
  have hcl := cases_len (l := l) hl
  have hN := traces_new l hl hsz hV
  have hw := wd_word l
  have hwl : ∀ c, (wd (trL l) c).length ≤ 9223372036854775807 := fun c => by rw [hw]; have := word_len l c; omega
  have hPV : ∀ cs' : List ByteArray, cs'.Perm (casesL l) → (cs'.map (wd (trL l))).Pairwise (fun a b => cmpL a b ≤ 0) → progV (trL l) cs' [] = varR l := fun cs' hp hs => progV_varR rfl hp hs hw
  generalize varR l = R at hPV
  generalize casesL l = cs at hN hne hcl hPV
  generalize trL l = al at hN hwl hPV
  have h0 : 0 < cs.length := List.length_pos_iff.2 hne
  refine pure_of mixed Try.func25 rfl (by kernel_rfl) (of_decide_eq_true rfl) (by kernel_rfl) (vc_run ?_)
  ((try simp -implicitDefEqProofs [-loopQ_n]) <;> (repeat' (first | (refine condD_dec ?_ ?_ <;> (intro hc; (try simp -implicitDefEqProofs [-loopQ_n, hc]))) | (refine guardD_dec ?_ ?_ <;> (intro hc; (try simp -implicitDefEqProofs [-loopQ_n, hc]))) | (refine condD_intro ?_ ?_ <;> (intro hd; have hc := hd; (try simp at hc) <;> (try simp -implicitDefEqProofs [-loopQ_n, hd, hc]))) | (refine guardD_intro ?_ ?_ <;> (intro hd; have hc := hd; (try simp at hc) <;> (try simp -implicitDefEqProofs [-loopQ_n, hd, hc]))) | (refine ldD_ep ?_ ?_; (focus kernel_rfl); (try simp -implicitDefEqProofs [-loopQ_n])))))
  refine new_intro hN (by simp) (.inl ⟨by simp [flatO, flatOL], flat_tr⟩) ?_
  ((try simp -implicitDefEqProofs [-loopQ_n, shA, shL, shB, shL_tr, shB_rowS2]) <;> (repeat' (first | (refine condD_dec ?_ ?_ <;> (intro hc; (try simp -implicitDefEqProofs [-loopQ_n, hc, shA, shL, shB, shL_tr, shB_rowS2]))) | (refine guardD_dec ?_ ?_ <;> (intro hc; (try simp -implicitDefEqProofs [-loopQ_n, hc, shA, shL, shB, shL_tr, shB_rowS2]))) | (refine condD_intro ?_ ?_ <;> (intro hd; have hc := hd; (try simp at hc) <;> (try simp -implicitDefEqProofs [-loopQ_n, hd, hc, shA, shL, shB, shL_tr, shB_rowS2]))) | (refine guardD_intro ?_ ?_ <;> (intro hd; have hc := hd; (try simp at hc) <;> (try simp -implicitDefEqProofs [-loopQ_n, hd, hc, shA, shL, shB, shL_tr, shB_rowS2]))) | (refine ldD_ep ?_ ?_; (focus kernel_rfl); (try simp -implicitDefEqProofs [-loopQ_n, shA, shL, shB, shL_tr, shB_rowS2])))))
  refine callG_intro (tsort_G rfl h0 (by omega) fun cs' hp hs => ?_)
  have hR0 := hPV cs' hp hs
  have hln : cs'.length = cs.length := hp.length_eq
  ((try simp -implicitDefEqProofs [-loopQ_n, hln]) <;> (repeat' (first | (refine condD_dec ?_ ?_ <;> (intro hc; (try simp -implicitDefEqProofs [-loopQ_n, hc, hln]))) | (refine guardD_dec ?_ ?_ <;> (intro hc; (try simp -implicitDefEqProofs [-loopQ_n, hc, hln]))) | (refine condD_intro ?_ ?_ <;> (intro hd; have hc := hd; (try simp at hc) <;> (try simp -implicitDefEqProofs [-loopQ_n, hd, hc, hln]))) | (refine guardD_intro ?_ ?_ <;> (intro hd; have hc := hd; (try simp at hc) <;> (try simp -implicitDefEqProofs [-loopQ_n, hd, hc, hln]))) | (refine ldD_ep ?_ ?_; (focus kernel_rfl); (try simp -implicitDefEqProofs [-loopQ_n, hln])))))
  refine loop_intro (σ := Nat × Ac) (fun x => ⟨[(6, .os (al.length + 2) x.2.length), (20, .os 1 cs.length), (21, .int .i64 cs.length), (22, .int .i64 x.1)], .gone :: .row 37 true (rowsOf (trRow 2 al) cs') :: (al.map rowS ++ [.row 59 true (rowsOf (vrO 2 al) x.2)])⟩)
    (fun x => x.1 ≤ cs.length ∧ (x.2.length ≤ x.1 ∧ cntOk x.2 x.1) ∧ progV al (cs'.drop x.1) x.2 = R) (fun x => cs.length - x.1) (0, []) ⟨by simp, ⟨by simp, cntOk_nil⟩, by simpa using hR0⟩ ?_ ?_
  · refine weak_of (2 + al.length) 1 (by simp; omega) (by simp; omega) ?_ ?_
    · simp [refs]; omega
    · exact ⟨trivial, ⟨rfl, rfl, rfl, trRows_refs (by omega)⟩, cvH_rowS1 al⟩
  rintro ⟨i, acc⟩ ⟨hi, ⟨hal, hco⟩, hR⟩
  simp only at hi hal hR hco
  have hmx : acc.length ≤ 1073741823 := by omega
  have hNl : al.length + 1 + 1 = al.length + 2 := rfl
  have hcnt : ∀ p ∈ acc, wrapI .i64 (p.2 + 1) = p.2 + 1 := fun p hp => by have := hco p hp; rw [wrap_in (by omega) (by omega)]
  have hfin : ∀ (s : St) (r : List Blk) (acc' : Ac) (rows : List (List AV)) (T' : List (Nat × AV)), rows = rowsOf (vrO 2 al) acc' → s.H = .gone :: .row 37 true (rowsOf (trRow 2 al) cs') :: (al.map rowS ++ .row 59 true rows :: r) → cvT (3 + al.length) 0 s.T T' →
      Weak Try.prog 0 s ⟨T', .gone :: .row 37 true (rowsOf (trRow 2 al) cs') :: (al.map rowS ++ [.row 59 true (rowsOf (vrO 2 al) acc')])⟩ := fun s r acc' rows T' hrw hH hT => by
    refine weak_of (3 + al.length) 0 (by rw [hH]; simp; omega) (by simp; omega) hT ?_
    rw [hH, hrw]
    exact ⟨trivial, ⟨rfl, rfl, rfl, trRows_refs (by omega)⟩, cvH_rowS2 (r := .row 59 true (rowsOf (vrO 2 al) acc') :: r) (r' := [.row 59 true (rowsOf (vrO 2 al) acc')]) (by exact ⟨⟨rfl, rfl, rfl, vrO_refs (by omega)⟩, by cases r <;> trivial⟩) al⟩
  by_cases h : i < cs.length
  · have h2 : i < cs'.length := by omega
    have w1 : wrapI .i64 ((i : Int) + 1) = (i : Int) + 1 := wrap_in (by omega) (by omega)
    rw [List.drop_eq_getElem_cons h2] at hR
    obtain ⟨c, hc⟩ : ∃ c, cs'[i] = c := ⟨_, rfl⟩
    rw [hc, progV] at hR
    have hstep : cntOk (grpA al acc c) (i + 1) := cnt_grp hco
    cases hq : afind c al 0 with
    | some e0 =>
      obtain ⟨j, v⟩ := e0
      have hj := (List.getElem?_eq_some_iff.1 (afind_eq hq)).1
      have hje : al[j] = (c, v) := (List.getElem?_eq_some_iff.1 (afind_eq hq)).2
      have hwd : wd al c = v := by unfold wd alook; rw [hq]; rfl
      have hro : refO 2 al c = .os (j + 2) v.length := by unfold refO; rw [hq]
      have htr : trRow 2 al c = [.str c, .os (j + 2) v.length] := by rw [trRow, hro]
      by_cases h200 : 200 < (wd al c).length
      · rw [if_pos h200] at hR
        rw [← hR]
        rw [hwd] at h200
        have h200' : (200 : Int) < (v.length : Int) := by omega
        ((try simp -implicitDefEqProofs [-loopQ_n, h, h2, hc, htr, w1, hmx, hln, hj, hje, mapS_get, rowS, sw_reify, h200', varO, rowsOf_nil]) <;> (repeat' (first | (refine condD_dec ?_ ?_ <;> (intro hc; (try simp -implicitDefEqProofs [-loopQ_n, hc, h, h2, hc, htr, w1, hmx, hln, hj, hje, mapS_get, rowS, sw_reify, h200', varO, rowsOf_nil]))) | (refine guardD_dec ?_ ?_ <;> (intro hc; (try simp -implicitDefEqProofs [-loopQ_n, hc, h, h2, hc, htr, w1, hmx, hln, hj, hje, mapS_get, rowS, sw_reify, h200', varO, rowsOf_nil]))) | (refine condD_intro ?_ ?_ <;> (intro hd; have hc := hd; (try simp at hc) <;> (try simp -implicitDefEqProofs [-loopQ_n, hd, hc, h, h2, hc, htr, w1, hmx, hln, hj, hje, mapS_get, rowS, sw_reify, h200', varO, rowsOf_nil]))) | (refine guardD_intro ?_ ?_ <;> (intro hd; have hc := hd; (try simp at hc) <;> (try simp -implicitDefEqProofs [-loopQ_n, hd, hc, h, h2, hc, htr, w1, hmx, hln, hj, hje, mapS_get, rowS, sw_reify, h200', varO, rowsOf_nil]))) | (refine ldD_ep ?_ ?_; (focus kernel_rfl); (try simp -implicitDefEqProofs [-loopQ_n, h, h2, hc, htr, w1, hmx, hln, hj, hje, mapS_get, rowS, sw_reify, h200', varO, rowsOf_nil])))))
      rw [if_neg h200] at hR
      have hwlc := hwl c
      rw [hwd] at h200 hwlc
      have h200' : ¬ (200 : Int) < (v.length : Int) := by omega
      cases hk : acc.length with
      | zero =>
        have he : acc = [] := List.eq_nil_of_length_eq_zero hk
        subst he
        have hg : grpA al [] c = [(c, 1)] := rfl
        rw [hg] at hR hstep
        have hrw : [[AV.os (j + 2) v.length, AV.int .i64 1]] = rowsOf (vrO 2 al) [(c, 1)] := by simp only [rowsOf, List.map_cons, List.map_nil, vrO, hro]
        have wm1 : wrapI .i64 (-1) = -1 := wrap_in (by omega) (by omega)
        ((try simp -implicitDefEqProofs [-loopQ_n, h, h2, hc, htr, w1, hmx, hln, hj, hje, mapS_get, rowS, sw_reify, h200', mapS_last, mapS_setL, rowsOf_nil, wm1]) <;> (repeat' (first | (refine condD_dec ?_ ?_ <;> (intro hc; (try simp -implicitDefEqProofs [-loopQ_n, hc, h, h2, hc, htr, w1, hmx, hln, hj, hje, mapS_get, rowS, sw_reify, h200', mapS_last, mapS_setL, rowsOf_nil, wm1]))) | (refine guardD_dec ?_ ?_ <;> (intro hc; (try simp -implicitDefEqProofs [-loopQ_n, hc, h, h2, hc, htr, w1, hmx, hln, hj, hje, mapS_get, rowS, sw_reify, h200', mapS_last, mapS_setL, rowsOf_nil, wm1]))) | (refine condD_intro ?_ ?_ <;> (intro hd; have hc := hd; (try simp at hc) <;> (try simp -implicitDefEqProofs [-loopQ_n, hd, hc, h, h2, hc, htr, w1, hmx, hln, hj, hje, mapS_get, rowS, sw_reify, h200', mapS_last, mapS_setL, rowsOf_nil, wm1]))) | (refine guardD_intro ?_ ?_ <;> (intro hd; have hc := hd; (try simp at hc) <;> (try simp -implicitDefEqProofs [-loopQ_n, hd, hc, h, h2, hc, htr, w1, hmx, hln, hj, hje, mapS_get, rowS, sw_reify, h200', mapS_last, mapS_setL, rowsOf_nil, wm1]))) | (refine ldD_ep ?_ ?_; (focus kernel_rfl); (try simp -implicitDefEqProofs [-loopQ_n, h, h2, hc, htr, w1, hmx, hln, hj, hje, mapS_get, rowS, sw_reify, h200', mapS_last, mapS_setL, rowsOf_nil, wm1])))))
        refine loop_next (i + 1, [(c, 1)]) ⟨by simp only; omega, ⟨by simp, hstep⟩, hR⟩ (by simp only; omega) (hfin _ _ [(c, 1)] _ _ hrw rfl ?_)
        simp [w1, refs]; omega
      | succ j0 =>
        have hj0 : j0 < acc.length := by omega
        obtain ⟨⟨c0, n0⟩, hq0⟩ : ∃ e, acc[j0] = e := ⟨_, rfl⟩
        have hget : acc[j0]? = some (c0, n0) := by rw [List.getElem?_eq_getElem hj0, hq0]
        have w3 : wrapI .i64 ((j0 : Int) + 1 - 1) = (j0 : Int) := by rw [wrap_in (by omega) (by omega)]; omega
        have w4 : wrapI .i64 (n0 + 1) = n0 + 1 := hcnt _ (List.mem_of_getElem? hget)
        have w5 : wrapI .i64 (j0 : Int) = (j0 : Int) := wrap_in (by omega) (by omega)
        have p0 : (0 : Int) ≤ (j0 : Int) := by omega
        have hb : j0 ≤ 1073741822 := by omega
        have hE := eqS_pure (wd al c0) (wd al c) (hwl c0) (hwl c)
        by_cases e : wd al c0 = wd al c
        · have hg : grpA al acc c = acc.set j0 (c0, n0 + 1) := by rw [grpA, hk]; simp [hget, e]
          rw [hg] at hR hstep
          rw [decide_eq_true e, hwd] at hE
          ((try simp -implicitDefEqProofs [-loopQ_n, h, h2, hc, htr, w1, hmx, hln, hj, hje, mapS_get, rowS, sw_reify, h200', mapS_last, mapS_setL, hk, hj0, hq0, hget, vrO, w3, w4, w5, p0, refO_reify2, vrO_set]) <;> (repeat' (first | (refine condD_dec ?_ ?_ <;> (intro hc; (try simp -implicitDefEqProofs [-loopQ_n, hc, h, h2, hc, htr, w1, hmx, hln, hj, hje, mapS_get, rowS, sw_reify, h200', mapS_last, mapS_setL, hk, hj0, hq0, hget, vrO, w3, w4, w5, p0, refO_reify2, vrO_set]))) | (refine guardD_dec ?_ ?_ <;> (intro hc; (try simp -implicitDefEqProofs [-loopQ_n, hc, h, h2, hc, htr, w1, hmx, hln, hj, hje, mapS_get, rowS, sw_reify, h200', mapS_last, mapS_setL, hk, hj0, hq0, hget, vrO, w3, w4, w5, p0, refO_reify2, vrO_set]))) | (refine condD_intro ?_ ?_ <;> (intro hd; have hc := hd; (try simp at hc) <;> (try simp -implicitDefEqProofs [-loopQ_n, hd, hc, h, h2, hc, htr, w1, hmx, hln, hj, hje, mapS_get, rowS, sw_reify, h200', mapS_last, mapS_setL, hk, hj0, hq0, hget, vrO, w3, w4, w5, p0, refO_reify2, vrO_set]))) | (refine guardD_intro ?_ ?_ <;> (intro hd; have hc := hd; (try simp at hc) <;> (try simp -implicitDefEqProofs [-loopQ_n, hd, hc, h, h2, hc, htr, w1, hmx, hln, hj, hje, mapS_get, rowS, sw_reify, h200', mapS_last, mapS_setL, hk, hj0, hq0, hget, vrO, w3, w4, w5, p0, refO_reify2, vrO_set]))) | (refine ldD_ep ?_ ?_; (focus kernel_rfl); (try simp -implicitDefEqProofs [-loopQ_n, h, h2, hc, htr, w1, hmx, hln, hj, hje, mapS_get, rowS, sw_reify, h200', mapS_last, mapS_setL, hk, hj0, hq0, hget, vrO, w3, w4, w5, p0, refO_reify2, vrO_set])) | (refine callS_mk ?_; (try simp -implicitDefEqProofs [-loopQ_n, h, h2, hc, htr, w1, hmx, hln, hj, hje, mapS_get, rowS, sw_reify, h200', mapS_last, mapS_setL, hk, hj0, hq0, hget, vrO, w3, w4, w5, p0, refO_reify2, vrO_set]); (first | refine callS_intro (hE) (.inl rfl) ?_); (try simp -implicitDefEqProofs [-loopQ_n, h, h2, hc, htr, w1, hmx, hln, hj, hje, mapS_get, rowS, sw_reify, h200', mapS_last, mapS_setL, hk, hj0, hq0, hget, vrO, w3, w4, w5, p0, refO_reify2, vrO_set])))))
          refine loop_next (i + 1, acc.set j0 (c0, n0 + 1)) ⟨by simp only; omega, ⟨by simp; omega, hstep⟩, hR⟩ (by simp only; omega) (hfin _ _ (acc.set j0 (c0, n0 + 1)) _ _ rfl rfl ?_)
          simp [w1, refs, hk]; omega
        · have hg : grpA al acc c = acc ++ [(c, 1)] := by rw [grpA, hk]; simp [hget, e]
          rw [hg] at hR hstep
          rw [decide_eq_false e, hwd] at hE
          have hsn : rowsOf (vrO 2 al) acc ++ [[refO 2 al c, .int .i64 1]] = rowsOf (vrO 2 al) (acc ++ [(c, 1)]) := by simp [rowsOf, vrO]
          rw [hro] at hsn
          ((try simp -implicitDefEqProofs [-loopQ_n, h, h2, hc, htr, w1, hmx, hln, hj, hje, mapS_get, rowS, sw_reify, h200', mapS_last, mapS_setL, hk, hj0, hq0, hget, vrO, w3, w5, p0, refO_reify2, hb, hsn]) <;> (repeat' (first | (refine condD_dec ?_ ?_ <;> (intro hc; (try simp -implicitDefEqProofs [-loopQ_n, hc, h, h2, hc, htr, w1, hmx, hln, hj, hje, mapS_get, rowS, sw_reify, h200', mapS_last, mapS_setL, hk, hj0, hq0, hget, vrO, w3, w5, p0, refO_reify2, hb, hsn]))) | (refine guardD_dec ?_ ?_ <;> (intro hc; (try simp -implicitDefEqProofs [-loopQ_n, hc, h, h2, hc, htr, w1, hmx, hln, hj, hje, mapS_get, rowS, sw_reify, h200', mapS_last, mapS_setL, hk, hj0, hq0, hget, vrO, w3, w5, p0, refO_reify2, hb, hsn]))) | (refine condD_intro ?_ ?_ <;> (intro hd; have hc := hd; (try simp at hc) <;> (try simp -implicitDefEqProofs [-loopQ_n, hd, hc, h, h2, hc, htr, w1, hmx, hln, hj, hje, mapS_get, rowS, sw_reify, h200', mapS_last, mapS_setL, hk, hj0, hq0, hget, vrO, w3, w5, p0, refO_reify2, hb, hsn]))) | (refine guardD_intro ?_ ?_ <;> (intro hd; have hc := hd; (try simp at hc) <;> (try simp -implicitDefEqProofs [-loopQ_n, hd, hc, h, h2, hc, htr, w1, hmx, hln, hj, hje, mapS_get, rowS, sw_reify, h200', mapS_last, mapS_setL, hk, hj0, hq0, hget, vrO, w3, w5, p0, refO_reify2, hb, hsn]))) | (refine ldD_ep ?_ ?_; (focus kernel_rfl); (try simp -implicitDefEqProofs [-loopQ_n, h, h2, hc, htr, w1, hmx, hln, hj, hje, mapS_get, rowS, sw_reify, h200', mapS_last, mapS_setL, hk, hj0, hq0, hget, vrO, w3, w5, p0, refO_reify2, hb, hsn])) | (refine callS_mk ?_; (try simp -implicitDefEqProofs [-loopQ_n, h, h2, hc, htr, w1, hmx, hln, hj, hje, mapS_get, rowS, sw_reify, h200', mapS_last, mapS_setL, hk, hj0, hq0, hget, vrO, w3, w5, p0, refO_reify2, hb, hsn]); (first | refine callS_intro (hE) (.inl rfl) ?_); (try simp -implicitDefEqProofs [-loopQ_n, h, h2, hc, htr, w1, hmx, hln, hj, hje, mapS_get, rowS, sw_reify, h200', mapS_last, mapS_setL, hk, hj0, hq0, hget, vrO, w3, w5, p0, refO_reify2, hb, hsn])))))
          refine loop_next (i + 1, acc ++ [(c, 1)]) ⟨by simp only; omega, ⟨by simp; omega, hstep⟩, hR⟩ (by simp only; omega) (hfin _ _ (acc ++ [(c, 1)]) _ _ rfl rfl ?_)
          simp [w1, refs, hk]; omega
    | none =>
      have hwd : wd al c = [] := by unfold wd alook; rw [hq]; rfl
      have hro : refO 2 al c = .nils := by unfold refO; rw [hq]
      have htr : trRow 2 al c = [.str c, .nils] := by rw [trRow, hro]
      rw [if_neg (by rw [hwd]; simp)] at hR
      have hwlc := hwl c
      rw [hwd] at hwlc
      cases hk : acc.length with
      | zero =>
        have he : acc = [] := List.eq_nil_of_length_eq_zero hk
        subst he
        have hg : grpA al [] c = [(c, 1)] := rfl
        rw [hg] at hR hstep
        have hrw : [[AV.nils, AV.int .i64 1]] = rowsOf (vrO 2 al) [(c, 1)] := by simp only [rowsOf, List.map_cons, List.map_nil, vrO, hro]
        have wm1 : wrapI .i64 (-1) = -1 := wrap_in (by omega) (by omega)
        ((try simp -implicitDefEqProofs [-loopQ_n, h, h2, hc, htr, w1, hmx, hln, mapS_last, mapS_setL, rowsOf_nil, wm1]) <;> (repeat' (first | (refine condD_dec ?_ ?_ <;> (intro hc; (try simp -implicitDefEqProofs [-loopQ_n, hc, h, h2, hc, htr, w1, hmx, hln, mapS_last, mapS_setL, rowsOf_nil, wm1]))) | (refine guardD_dec ?_ ?_ <;> (intro hc; (try simp -implicitDefEqProofs [-loopQ_n, hc, h, h2, hc, htr, w1, hmx, hln, mapS_last, mapS_setL, rowsOf_nil, wm1]))) | (refine condD_intro ?_ ?_ <;> (intro hd; have hc := hd; (try simp at hc) <;> (try simp -implicitDefEqProofs [-loopQ_n, hd, hc, h, h2, hc, htr, w1, hmx, hln, mapS_last, mapS_setL, rowsOf_nil, wm1]))) | (refine guardD_intro ?_ ?_ <;> (intro hd; have hc := hd; (try simp at hc) <;> (try simp -implicitDefEqProofs [-loopQ_n, hd, hc, h, h2, hc, htr, w1, hmx, hln, mapS_last, mapS_setL, rowsOf_nil, wm1]))) | (refine ldD_ep ?_ ?_; (focus kernel_rfl); (try simp -implicitDefEqProofs [-loopQ_n, h, h2, hc, htr, w1, hmx, hln, mapS_last, mapS_setL, rowsOf_nil, wm1])))))
        refine loop_next (i + 1, [(c, 1)]) ⟨by simp only; omega, ⟨by simp, hstep⟩, hR⟩ (by simp only; omega) (hfin _ _ [(c, 1)] _ _ hrw rfl ?_)
        simp [w1, refs]; omega
      | succ j0 =>
        have hj0 : j0 < acc.length := by omega
        obtain ⟨⟨c0, n0⟩, hq0⟩ : ∃ e, acc[j0] = e := ⟨_, rfl⟩
        have hget : acc[j0]? = some (c0, n0) := by rw [List.getElem?_eq_getElem hj0, hq0]
        have w3 : wrapI .i64 ((j0 : Int) + 1 - 1) = (j0 : Int) := by rw [wrap_in (by omega) (by omega)]; omega
        have w4 : wrapI .i64 (n0 + 1) = n0 + 1 := hcnt _ (List.mem_of_getElem? hget)
        have w5 : wrapI .i64 (j0 : Int) = (j0 : Int) := wrap_in (by omega) (by omega)
        have p0 : (0 : Int) ≤ (j0 : Int) := by omega
        have hb : j0 ≤ 1073741822 := by omega
        have hE := eqS_pure (wd al c0) (wd al c) (hwl c0) (hwl c)
        by_cases e : wd al c0 = wd al c
        · have hg : grpA al acc c = acc.set j0 (c0, n0 + 1) := by rw [grpA, hk]; simp [hget, e]
          rw [hg] at hR hstep
          rw [decide_eq_true e, hwd] at hE
          ((try simp -implicitDefEqProofs [-loopQ_n, h, h2, hc, htr, w1, hmx, hln, mapS_last, mapS_setL, hk, hj0, hq0, hget, vrO, w3, w4, w5, p0, refO_reify2, vrO_set]) <;> (repeat' (first | (refine condD_dec ?_ ?_ <;> (intro hc; (try simp -implicitDefEqProofs [-loopQ_n, hc, h, h2, hc, htr, w1, hmx, hln, mapS_last, mapS_setL, hk, hj0, hq0, hget, vrO, w3, w4, w5, p0, refO_reify2, vrO_set]))) | (refine guardD_dec ?_ ?_ <;> (intro hc; (try simp -implicitDefEqProofs [-loopQ_n, hc, h, h2, hc, htr, w1, hmx, hln, mapS_last, mapS_setL, hk, hj0, hq0, hget, vrO, w3, w4, w5, p0, refO_reify2, vrO_set]))) | (refine condD_intro ?_ ?_ <;> (intro hd; have hc := hd; (try simp at hc) <;> (try simp -implicitDefEqProofs [-loopQ_n, hd, hc, h, h2, hc, htr, w1, hmx, hln, mapS_last, mapS_setL, hk, hj0, hq0, hget, vrO, w3, w4, w5, p0, refO_reify2, vrO_set]))) | (refine guardD_intro ?_ ?_ <;> (intro hd; have hc := hd; (try simp at hc) <;> (try simp -implicitDefEqProofs [-loopQ_n, hd, hc, h, h2, hc, htr, w1, hmx, hln, mapS_last, mapS_setL, hk, hj0, hq0, hget, vrO, w3, w4, w5, p0, refO_reify2, vrO_set]))) | (refine ldD_ep ?_ ?_; (focus kernel_rfl); (try simp -implicitDefEqProofs [-loopQ_n, h, h2, hc, htr, w1, hmx, hln, mapS_last, mapS_setL, hk, hj0, hq0, hget, vrO, w3, w4, w5, p0, refO_reify2, vrO_set])) | (refine callS_mk ?_; (try simp -implicitDefEqProofs [-loopQ_n, h, h2, hc, htr, w1, hmx, hln, mapS_last, mapS_setL, hk, hj0, hq0, hget, vrO, w3, w4, w5, p0, refO_reify2, vrO_set]); (first | refine callS_intro (hE) (.inl rfl) ?_); (try simp -implicitDefEqProofs [-loopQ_n, h, h2, hc, htr, w1, hmx, hln, mapS_last, mapS_setL, hk, hj0, hq0, hget, vrO, w3, w4, w5, p0, refO_reify2, vrO_set])))))
          refine loop_next (i + 1, acc.set j0 (c0, n0 + 1)) ⟨by simp only; omega, ⟨by simp; omega, hstep⟩, hR⟩ (by simp only; omega) (hfin _ _ (acc.set j0 (c0, n0 + 1)) _ _ rfl rfl ?_)
          simp [w1, refs, hk]; omega
        · have hg : grpA al acc c = acc ++ [(c, 1)] := by rw [grpA, hk]; simp [hget, e]
          rw [hg] at hR hstep
          rw [decide_eq_false e, hwd] at hE
          have hsn : rowsOf (vrO 2 al) acc ++ [[refO 2 al c, .int .i64 1]] = rowsOf (vrO 2 al) (acc ++ [(c, 1)]) := by simp [rowsOf, vrO]
          rw [hro] at hsn
          ((try simp -implicitDefEqProofs [-loopQ_n, h, h2, hc, htr, w1, hmx, hln, mapS_last, mapS_setL, hk, hj0, hq0, hget, vrO, w3, w5, p0, refO_reify2, hb, hsn]) <;> (repeat' (first | (refine condD_dec ?_ ?_ <;> (intro hc; (try simp -implicitDefEqProofs [-loopQ_n, hc, h, h2, hc, htr, w1, hmx, hln, mapS_last, mapS_setL, hk, hj0, hq0, hget, vrO, w3, w5, p0, refO_reify2, hb, hsn]))) | (refine guardD_dec ?_ ?_ <;> (intro hc; (try simp -implicitDefEqProofs [-loopQ_n, hc, h, h2, hc, htr, w1, hmx, hln, mapS_last, mapS_setL, hk, hj0, hq0, hget, vrO, w3, w5, p0, refO_reify2, hb, hsn]))) | (refine condD_intro ?_ ?_ <;> (intro hd; have hc := hd; (try simp at hc) <;> (try simp -implicitDefEqProofs [-loopQ_n, hd, hc, h, h2, hc, htr, w1, hmx, hln, mapS_last, mapS_setL, hk, hj0, hq0, hget, vrO, w3, w5, p0, refO_reify2, hb, hsn]))) | (refine guardD_intro ?_ ?_ <;> (intro hd; have hc := hd; (try simp at hc) <;> (try simp -implicitDefEqProofs [-loopQ_n, hd, hc, h, h2, hc, htr, w1, hmx, hln, mapS_last, mapS_setL, hk, hj0, hq0, hget, vrO, w3, w5, p0, refO_reify2, hb, hsn]))) | (refine ldD_ep ?_ ?_; (focus kernel_rfl); (try simp -implicitDefEqProofs [-loopQ_n, h, h2, hc, htr, w1, hmx, hln, mapS_last, mapS_setL, hk, hj0, hq0, hget, vrO, w3, w5, p0, refO_reify2, hb, hsn])) | (refine callS_mk ?_; (try simp -implicitDefEqProofs [-loopQ_n, h, h2, hc, htr, w1, hmx, hln, mapS_last, mapS_setL, hk, hj0, hq0, hget, vrO, w3, w5, p0, refO_reify2, hb, hsn]); (first | refine callS_intro (hE) (.inl rfl) ?_); (try simp -implicitDefEqProofs [-loopQ_n, h, h2, hc, htr, w1, hmx, hln, mapS_last, mapS_setL, hk, hj0, hq0, hget, vrO, w3, w5, p0, refO_reify2, hb, hsn])))))
          refine loop_next (i + 1, acc ++ [(c, 1)]) ⟨by simp only; omega, ⟨by simp; omega, hstep⟩, hR⟩ (by simp only; omega) (hfin _ _ (acc ++ [(c, 1)]) _ _ rfl rfl ?_)
          simp [w1, refs, hk]; omega
  · have hi2 : i = cs.length := by omega
    subst hi2
    rw [List.drop_eq_nil_of_le (by omega), progV] at hR
    by_cases h300 : 300 < acc.length
    · have h300' : (300 : Int) < acc.length := by omega
      rw [if_pos h300] at hR
      rw [← hR]
      ((try simp -implicitDefEqProofs [-loopQ_n, h300', h300, varO, rowsOf]) <;> (repeat' (first | (refine condD_dec ?_ ?_ <;> (intro hc; (try simp -implicitDefEqProofs [-loopQ_n, hc, h300', h300, varO, rowsOf]))) | (refine guardD_dec ?_ ?_ <;> (intro hc; (try simp -implicitDefEqProofs [-loopQ_n, hc, h300', h300, varO, rowsOf]))) | (refine condD_intro ?_ ?_ <;> (intro hd; have hc := hd; (try simp at hc) <;> (try simp -implicitDefEqProofs [-loopQ_n, hd, hc, h300', h300, varO, rowsOf]))) | (refine guardD_intro ?_ ?_ <;> (intro hd; have hc := hd; (try simp at hc) <;> (try simp -implicitDefEqProofs [-loopQ_n, hd, hc, h300', h300, varO, rowsOf]))) | (refine ldD_ep ?_ ?_; (focus kernel_rfl); (try simp -implicitDefEqProofs [-loopQ_n, h300', h300, varO, rowsOf])))))
    · have h300' : ¬ (300 : Int) < acc.length := by omega
      rw [if_neg h300] at hR
      rw [← hR]
      ((try simp -implicitDefEqProofs [-loopQ_n, h300', h300, varO, vrO_reify, mapS_last]) <;> (repeat' (first | (refine condD_dec ?_ ?_ <;> (intro hc; (try simp -implicitDefEqProofs [-loopQ_n, hc, h300', h300, varO, vrO_reify, mapS_last]))) | (refine guardD_dec ?_ ?_ <;> (intro hc; (try simp -implicitDefEqProofs [-loopQ_n, hc, h300', h300, varO, vrO_reify, mapS_last]))) | (refine condD_intro ?_ ?_ <;> (intro hd; have hc := hd; (try simp at hc) <;> (try simp -implicitDefEqProofs [-loopQ_n, hd, hc, h300', h300, varO, vrO_reify, mapS_last]))) | (refine guardD_intro ?_ ?_ <;> (intro hd; have hc := hd; (try simp at hc) <;> (try simp -implicitDefEqProofs [-loopQ_n, hd, hc, h300', h300, varO, vrO_reify, mapS_last]))) | (refine ldD_ep ?_ ?_; (focus kernel_rfl); (try simp -implicitDefEqProofs [-loopQ_n, h300', h300, varO, vrO_reify, mapS_last])))))
end Go.Proofs.Ytnldjmokemgaoaa
