/- Several texts of the abstract machine, one behind the other. -/
import Derived.Test.YtnldjmokemgaoaaEl6
import Derived.Test.YtnldjmokemgaoaaEl7
import Derived.Test.YtnldjmokemgaoaaElW
import Derived.Test.YtnldjmokemgaoaaAbFrz
/- Shifting and renaming there and back (plain words). -/
namespace Go.Proofs.Ytnldjmokemgaoaa
set_option linter.unusedSimpArgs false
set_option linter.unusedVariables false
set_option linter.unnecessarySimpa false
set_option linter.unusedSectionVars false
open Go.RowKit
variable [Glob]
set_option maxRecDepth 100000
/-! Which logs are valid. -/
theorem logV_iff {l : List Evt} : logV l = true ↔ l.length ≤ 2000 ∧ (∀ e ∈ l, eventV e = true) ∧ ∀ (i : Nat) (h : i + 1 < l.length), l[i].time ≤ l[i + 1].time := by
  constructor
  · intro h
    refine ⟨log_lenE h, log_evt h, fun i hi => ?_⟩
    simp only [logV, Bool.and_eq_true, decide_eq_true_eq] at h
    have := h.2 (i + 1) hi hi
    simp only [evOk, Nat.add_sub_cancel, List.getElem?_eq_getElem (show i < l.length by omega), Bool.and_eq_true, Bool.not_eq_true', Bool.and_eq_false_iff, decide_eq_false_iff_not] at this
    rcases this.2 with h1 | h1 <;> omega
  · rintro ⟨h1, h2, h3⟩
    simp only [logV, Bool.and_eq_true, decide_eq_true_eq]
    refine ⟨by omega, fun i hi _ => ?_⟩
    simp only [evOk, Bool.and_eq_true]
    refine ⟨h2 _ (List.getElem_mem hi), ?_⟩
    cases i with
    | zero => cases l[0 - 1]? <;> simp
    | succ i =>
      have := h3 i hi
      simp only [Nat.add_sub_cancel, List.getElem?_eq_getElem (show i < l.length by omega), Bool.not_eq_true', Bool.and_eq_false_iff, decide_eq_false_iff_not]
      right; omega
theorem logV_map {l : List Evt} {f : Evt → Evt} (h : logV l = true) (h1 : ∀ e ∈ l, eventV (f e) = true) (h2 : ∀ e g : Evt, e ∈ l → g ∈ l → e.time ≤ g.time → (f e).time ≤ (f g).time) : logV (l.map f) = true := by
  obtain ⟨a1, a2, a3⟩ := logV_iff.1 h
  refine logV_iff.2 ⟨by simpa using a1, fun e he => ?_, fun i hi => ?_⟩
  · obtain ⟨e0, he0, rfl⟩ := List.mem_map.1 he
    exact h1 e0 he0
  · simp only [List.length_map] at hi
    simp only [List.getElem_map]
    exact h2 _ _ (List.getElem_mem _) (List.getElem_mem _) (a3 i hi)
/-! Shift. -/
theorem eventV_sh {e : Evt} {b : Int} (h : eventV e = true) (h1 : 0 ≤ e.time + b) (h2 : e.time + b ≤ 1099511627776) : eventV (shE b e) = true := by
  unfold eventV at h ⊢
  simp only [Bool.and_eq_true] at h ⊢
  exact ⟨⟨⟨⟨h.1.1.1.1, decide_eq_true h1⟩, decide_eq_true h2⟩, h.1.2⟩, h.2⟩
theorem shF_run (b : Int) : ∀ (l acc : List Evt), (∀ e ∈ l, 0 ≤ e.time + b ∧ e.time + b ≤ 1099511627776) → shF b l acc = (acc ++ l.map (shE b), 0) := by
  intro l
  induction l with
  | nil => intro acc _; simp [shF]
  | cons e l ih =>
    intro acc h
    have := h e (by simp)
    rw [shF, if_neg (by omega), ih _ fun x hx => h x (by simp [hx])]
    simp
theorem shF_ok (b : Int) : ∀ (l acc s : List Evt), shF b l acc = (s, 0) → ∀ e ∈ l, 0 ≤ e.time + b ∧ e.time + b ≤ 1099511627776 := by
  intro l
  induction l with
  | nil => intro acc s _ e he; cases he
  | cons x l ih =>
    intro acc s h e he
    rw [shF] at h
    split at h
    · cases h
    · rename_i hc
      rcases List.mem_cons.1 he with rfl | he
      · omega
      · exact ih _ _ h e he
theorem shift_ok {l s : List Evt} {b : Int} (h : shiftR l b = (s, 0)) : logV l = true ∧ s = l.map (shE b) ∧ logV s = true ∧ shiftR s (-b) = (l, 0) := by
  unfold shiftR at h
  split at h
  · rename_i hV
    split at h
    · cases h
    · rename_i hb
      have hok := shF_ok b l [] s h
      have hrun := shF_run b l [] hok
      rw [hrun] at h
      simp only [List.nil_append, Prod.mk.injEq, and_true] at h
      subst h
      have hVs : logV (l.map (shE b)) = true := logV_map hV (fun e he => eventV_sh (log_evt hV e he) (hok e he).1 (hok e he).2) fun e g _ _ q => by simp only [shE]; omega
      refine ⟨hV, rfl, hVs, ?_⟩
      rw [shiftR, if_pos hVs, if_neg (by omega), shF_run]
      · simp only [List.nil_append, List.map_map, Prod.mk.injEq, and_true]
        conv => rhs; rw [← List.map_id l]
        refine List.map_congr_left fun e _ => ?_
        cases e
        simp only [Function.comp, shE, id, Evt.mk.injEq, true_and, and_true]
        omega
      · intro e he
        obtain ⟨x, hx, rfl⟩ := List.mem_map.1 he
        have := evt_bd (log_evt hV x hx)
        simp only [shE]; omega
  · cases h
theorem cases_map {l : List Evt} {f : Evt → Evt} (h : ∀ e, (f e).case_ = e.case_) : casesL (l.map f) = casesL l := by
  unfold casesL
  rw [List.map_map]
  congr 1
  exact List.map_congr_left fun e _ => h e
theorem word_map {l : List Evt} {f : Evt → Evt} {σ : ByteArray → ByteArray} (h : ∀ e, (f e).case_ = e.case_ ∧ (f e).life = e.life ∧ (f e).act = σ e.act) (c : ByteArray) : wordL (l.map f) c = (wordL l c).map σ := by
  unfold wordL
  induction l with
  | nil => rfl
  | cons e l ih =>
    obtain ⟨h1, h2, h3⟩ := h e
    have hw : wordE c (f e) = wordE c e := by simp only [wordE, h1, h2]
    rw [List.map_cons, List.filter_cons, List.filter_cons, hw]
    split
    · rw [List.map_cons, List.map_cons, List.map_cons, h3, ih]
    · exact ih
/-! Fresh names. -/
def freshN (i : Nat) : ByteArray := ⟨#[122, 122, 122, 122, (97 + i / 26).toUInt8, (97 + i % 26).toUInt8]⟩
def freshL (n : Nat) : List ByteArray := (List.range n).map freshN
theorem fresh_names : ((List.range 40).all fun i => isNameS (freshN i)) = true := by kernel_rfl
theorem fresh_lts : ((List.range 40).all fun j => (List.range j).all fun i => ltS (freshN i) (freshN j)) = true := by kernel_rfl
theorem fresh_name {i : Nat} (h : i < 40) : isNameS (freshN i) = true := List.all_eq_true.1 fresh_names i (List.mem_range.2 h)
theorem fresh_lt {i j : Nat} (hj : j < 40) (h : i < j) : ltS (freshN i) (freshN j) = true := List.all_eq_true.1 (List.all_eq_true.1 fresh_lts j (List.mem_range.2 hj)) i (List.mem_range.2 h)
theorem fresh_len (n : Nat) : (freshL n).length = n := by simp [freshL]
theorem fresh_get {n j : Nat} (h : j < n) : (freshL n)[j]'(by rw [fresh_len]; exact h) = freshN j := by simp [freshL]
theorem asc_get {A : List ByteArray} (h : ascB A) {i j : Nat} (hj : j < A.length) (hij : i < j) : ltS A[i] A[j] = true := List.pairwise_iff_getElem.1 h i j (by omega) hj hij
theorem asc_nodup {A : List ByteArray} (h : ascB A) : A.Nodup := h.imp fun {a b} q e => by subst e; exact ltB_irrefl _ q
theorem fresh_asc {n : Nat} (hn : n ≤ 40) : ascB (freshL n) := by
  unfold ascB
  rw [List.pairwise_iff_getElem]
  intro i j hi hj hij
  rw [fresh_len] at hi hj
  rw [fresh_get hi, fresh_get hj]
  exact fresh_lt (by omega) hij
theorem namesL_fresh {n : Nat} (hn : n ≤ 40) : namesL (freshL n) = true := by
  simp only [namesL, List.all_eq_true]
  intro s hs
  obtain ⟨i, hi, rfl⟩ := List.mem_map.1 hs
  exact fresh_name (by have := List.mem_range.1 hi; omega)
/-! Names by others. -/
theorem alook_mem {es : List (ByteArray × ByteArray)} (h : (es.map (·.1)).Nodup) {k v : ByteArray} (hm : (k, v) ∈ es) : alook es k = some v := by
  induction es with
  | nil => cases hm
  | cons e r ih =>
    rw [alook_cons]
    simp only [List.map_cons, List.nodup_cons] at h
    rcases List.mem_cons.1 hm with rfl | hm
    · simp
    · rw [if_neg (fun q => h.1 (by rw [q]; exact List.mem_map.2 ⟨_, hm, rfl⟩)), ih h.2 hm]
theorem alook_no {es : List (ByteArray × ByteArray)} {k : ByteArray} (h : k ∉ es.map (·.1)) : alook es k = none := by
  unfold alook; rw [(afind_none 0).2 h]; rfl
theorem alook_zip {A F : List ByteArray} (hl : A.length = F.length) (hn : A.Nodup) {j : Nat} (hj : j < A.length) : alook (A.zip F) A[j] = some (F[j]'(by omega)) := by
  refine alook_mem (by rw [zip_keys hl]; exact hn) ?_
  have : (A.zip F)[j]'(by rw [List.length_zip]; omega) = (A[j], F[j]'(by omega)) := List.getElem_zip
  rw [← this]
  exact List.getElem_mem _
def renS (ps : List (ByteArray × ByteArray)) (a : ByteArray) : ByteArray := (alook ps a).getD a
theorem renE_eq (ps : List (ByteArray × ByteArray)) (e : Evt) : renE ps e = { e with act := renS ps e.act } := by
  unfold renE renS
  cases alook ps e.act <;> rfl
theorem renS_in {A F : List ByteArray} (hl : A.length = F.length) (hn : A.Nodup) {j : Nat} (hj : j < A.length) : renS (A.zip F) A[j] = F[j]'(by omega) := by rw [renS, alook_zip hl hn hj]; rfl
theorem renS_out {A F : List ByteArray} (hl : A.length = F.length) {a : ByteArray} (h : a ∉ A) : renS (A.zip F) a = a := by rw [renS, alook_no (by rw [zip_keys hl]; exact h)]; rfl
theorem ren_back {A F : List ByteArray} (hl : A.length = F.length) (hA : A.Nodup) (hF : F.Nodup) {a : ByteArray} (h : a ∉ F) : renS (F.zip A) (renS (A.zip F) a) = a := by
  by_cases ha : a ∈ A
  · obtain ⟨j, hj, rfl⟩ := List.getElem_of_mem ha
    rw [renS_in hl hA hj, renS_in hl.symm hF (by omega)]
  · rw [renS_out hl ha, renS_out hl.symm h]
theorem ren_names {A F : List ByteArray} (hl : A.length = F.length) (hA : A.Nodup) (hF : namesL F = true) {a : ByteArray} (h : isNameS a = true) : isNameS (renS (A.zip F) a) = true := by
  by_cases ha : a ∈ A
  · obtain ⟨j, hj, rfl⟩ := List.getElem_of_mem ha
    rw [renS_in hl hA hj]
    exact List.all_eq_true.1 hF _ (List.getElem_mem _)
  · rw [renS_out hl ha]; exact h
theorem eventV_ren {e : Evt} {s : ByteArray} (h : eventV e = true) (hs : isNameS s = true) : eventV { e with act := s } = true := by
  unfold eventV at h ⊢
  simp only [Bool.and_eq_true] at h ⊢
  exact ⟨⟨⟨⟨⟨⟨⟨⟨h.1.1.1.1.1.1.1.1, hs⟩, h.1.1.1.1.1.1.2⟩, h.1.1.1.1.1.2⟩, h.1.1.1.1.2⟩, h.1.1.1.2⟩, h.1.1.2⟩, h.1.2⟩, h.2⟩
/-- Renaming there and back. -/
theorem rename_there {l : List Evt} {A F : List ByteArray} (hV : logV l = true) (hl : A.length = F.length) (h1 : A.length ≤ 1000) (hA : A.Nodup) (hF : F.Nodup) (hAn : namesL A = true) (hFn : namesL F = true) (hno : ∀ e ∈ l, e.act ∉ F) :
    renameR l A F = (l.map (renE (A.zip F)), 0) ∧ logV (l.map (renE (A.zip F))) = true ∧ renameR (l.map (renE (A.zip F))) F A = (l, 0) := by
  have hVr : logV (l.map (renE (A.zip F))) = true := logV_map hV (fun e he => by
    have hb := log_evt hV e he
    rw [renE_eq]
    exact eventV_ren hb (ren_names hl hA hFn (evt_bd hb).2.2.2.2)) fun e g _ _ q => by rw [renE_eq, renE_eq]; exact q
  refine ⟨?_, hVr, ?_⟩
  · rw [renameR, if_pos ⟨hV, hAn, hFn⟩, if_neg (by simpa using hl), if_neg (by omega), if_pos hA]
  · rw [renameR, if_pos ⟨hVr, hFn, hAn⟩, if_neg (by simpa using hl.symm), if_neg (by omega), if_pos hF, List.map_map]
    simp only [Prod.mk.injEq, and_true]
    conv => rhs; rw [← List.map_id l]
    refine List.map_congr_left fun e he => ?_
    simp only [Function.comp, renE_eq, id]
    rw [ren_back hl hA hF (hno e he)]
/-! Words of renamed logs. -/
theorem ltS_ren {A F : List ByteArray} (hl : A.length = F.length) (hA : ascB A) (hF : ascB F) {x y : ByteArray} (hx : x ∈ A) (hy : y ∈ A) : ltS (renS (A.zip F) x) (renS (A.zip F) y) = ltS x y := by
  obtain ⟨i, hi, rfl⟩ := List.getElem_of_mem hx
  obtain ⟨j, hj, rfl⟩ := List.getElem_of_mem hy
  rw [renS_in hl (asc_nodup hA) hi, renS_in hl (asc_nodup hA) hj]
  rcases Nat.lt_trichotomy i j with q | q | q
  · rw [asc_get hA hj q, asc_get hF (by omega) q]
  · subst q; rw [ltS_irr, ltS_irr]
  · rw [(sless_of (asc_get hA hi q)).e, (sless_of (asc_get hF (by omega) q)).e]
theorem cmpL_ren {A F : List ByteArray} (hl : A.length = F.length) (hA : ascB A) (hF : ascB F) : ∀ {a b : List ByteArray}, (∀ x ∈ a, x ∈ A) → (∀ x ∈ b, x ∈ A) → cmpL (a.map (renS (A.zip F))) (b.map (renS (A.zip F))) = cmpL a b
  | [], [], _, _ => rfl
  | [], _ :: _, _, _ => rfl
  | _ :: _, [], _, _ => rfl
  | x :: a, y :: b, ha, hb => by
    rw [List.map_cons, List.map_cons, cmpL_cons, cmpL_cons, ltS_ren hl hA hF (ha x (by simp)) (hb y (by simp)), ltS_ren hl hA hF (hb y (by simp)) (ha x (by simp)), cmpL_ren hl hA hF (fun z hz => ha z (by simp [hz])) fun z hz => hb z (by simp [hz])]
def renV (ps : List (ByteArray × ByteArray)) (v : Vr) : Vr := ⟨v.acts.map (renS ps), v.count⟩
theorem add_ren {A F : List ByteArray} (hl : A.length = F.length) (hA : ascB A) (hF : ascB F) {w : List ByteArray} (hw : ∀ x ∈ w, x ∈ A) (n : Int) : ∀ {acc : List Vr}, (∀ v ∈ acc, ∀ x ∈ v.acts, x ∈ A) → addV (w.map (renS (A.zip F))) n (acc.map (renV (A.zip F))) = (addV w n acc).map (renV (A.zip F)) := by
  intro acc
  induction acc with
  | nil => intro _; rfl
  | cons v r ih =>
    intro h
    have hc : cmpL (renV (A.zip F) v).acts (w.map (renS (A.zip F))) = cmpL v.acts w := cmpL_ren hl hA hF (h v (by simp)) hw
    rw [List.map_cons, addV, addV, hc]
    split
    · rw [List.map_cons, ih fun u hu => h u (by simp [hu])]
    · split <;> simp [renV]
theorem fold_ren {A F : List ByteArray} (hl : A.length = F.length) (hA : ascB A) (hF : ascB F) : ∀ (ws : List (List ByteArray)) (acc : List Vr), (∀ w ∈ ws, ∀ x ∈ w, x ∈ A) → (∀ v ∈ acc, ∀ x ∈ v.acts, x ∈ A) →
    (ws.map fun w => w.map (renS (A.zip F))).foldl (fun acc w => addV w 1 acc) (acc.map (renV (A.zip F))) = (ws.foldl (fun acc w => addV w 1 acc) acc).map (renV (A.zip F)) := by
  intro ws
  induction ws with
  | nil => intro acc _ _; rfl
  | cons w ws ih =>
    intro acc hw h
    rw [List.map_cons, List.foldl_cons, List.foldl_cons, add_ren hl hA hF (hw w (by simp)) 1 h]
    refine ih _ (fun w' hw' => hw w' (by simp [hw'])) fun v hv x hx => ?_
    rcases addV_any w 1 acc v hv with h1 | ⟨h1, _⟩
    · exact h v h1 x hx
    · rw [h1] at hx; exact hw w (by simp) x hx
theorem varL_ren {l : List Evt} {A F : List ByteArray} (hl : A.length = F.length) (hA : ascB A) (hF : ascB F) (hw : ∀ c ∈ casesL l, ∀ x ∈ wordL l c, x ∈ A) : varL (l.map (renE (A.zip F))) = (varL l).map (renV (A.zip F)) := by
  have hc : casesL (l.map (renE (A.zip F))) = casesL l := cases_map fun e => by rw [renE_eq]
  have hwd : ∀ c, wordL (l.map (renE (A.zip F))) c = (wordL l c).map (renS (A.zip F)) := word_map fun e => by rw [renE_eq]; exact ⟨rfl, rfl, rfl⟩
  unfold varL
  rw [hc]
  have e : (casesL l).map (wordL (l.map (renE (A.zip F)))) = ((casesL l).map (wordL l)).map fun w => w.map (renS (A.zip F)) := by
    rw [List.map_map]; exact List.map_congr_left fun c _ => hwd c
  rw [e]
  have := fold_ren hl hA hF ((casesL l).map (wordL l)) [] (fun w hw' => by
    obtain ⟨c, hc', rfl⟩ := List.mem_map.1 hw'
    exact hw c hc') (fun v hv => by cases hv)
  exact this
/-! Variants of a log are valid. -/
theorem varL_good (l : List Evt) : goodV ((casesL l).map (wordL l)) (varL l) := by simpa [varL] using good_fold ((casesL l).map (wordL l)) [] [] good_nil
theorem occ_le (w : List ByteArray) (ws : List (List ByteArray)) : occ w ws ≤ ws.length := List.length_filter_le _ _
theorem occ_pos {w : List ByteArray} {ws : List (List ByteArray)} (h : w ∈ ws) : 0 < occ w ws := by
  unfold occ
  exact List.length_pos_of_mem (List.mem_filter.2 ⟨h, by simp⟩)
theorem word_names {l : List Evt} (hV : logV l = true) (c : ByteArray) : namesL (wordL l c) = true := by
  simp only [namesL, List.all_eq_true, wordL]
  intro s hs
  obtain ⟨e, he, rfl⟩ := List.mem_map.1 hs
  exact (evt_bd (log_evt hV e (List.mem_filter.1 he).1)).2.2.2.2
theorem vFrom_asc : ∀ {l : List Vr} {p : Option Vr}, ascV l → (∀ v ∈ l, vOk v = true) → (∀ q, p = some q → ∀ v ∈ l, ltV q v) → vFrom p l = true := by
  intro l
  induction l with
  | nil => intro p _ _ _; cases p <;> rfl
  | cons v r ih =>
    intro p h1 h2 h3
    obtain ⟨a1, a2⟩ := List.pairwise_cons.1 h1
    have hr : vFrom (some v) r = true := ih a2 (fun u hu => h2 u (by simp [hu])) fun q hq u hu => by cases hq; exact a1 u hu
    cases p with
    | none => simp [vFrom, h2 v (by simp), hr]
    | some q =>
      have := h3 q rfl v (by simp)
      unfold ltV at this
      simp [vFrom, h2 v (by simp), hr, this]
theorem varL_valid {l : List Evt} (hV : logV l = true) (hl : l.length ≤ 40) : vlV (varL l) = true ∧ varR l = (varL l, 0) ∧ (varL l).length ≤ 40 := by
  have hg := varL_good l
  have hcl : (casesL l).length ≤ 40 := by
    have := setB_lenB (l.map (·.case_)) []
    simp only [List.length_nil, List.length_map] at this
    have h2 : (casesL l).length = ((l.map (·.case_)).foldl insB []).length := rfl
    omega
  have hwl : ∀ c, (wordL l c).length ≤ 40 := fun c => by have := word_len l c; omega
  have hlen : (varL l).length ≤ 40 := by
    have key : ∀ (ws : List (List ByteArray)) (acc : List Vr), (ws.foldl (fun acc w => addV w 1 acc) acc).length ≤ acc.length + ws.length := by
      intro ws
      induction ws with
      | nil => intro acc; simp
      | cons w ws ih => intro acc; have := ih (addV w 1 acc); have := addV_len w 1 acc; simp only [List.foldl_cons, List.length_cons]; omega
    have := key ((casesL l).map (wordL l)) []
    simp only [List.length_nil, List.length_map] at this
    unfold varL; omega
  refine ⟨?_, ?_, hlen⟩
  · simp only [vlV, Bool.and_eq_true, decide_eq_true_eq]
    refine ⟨by omega, vFrom_asc hg.1 (fun v hv => ?_) fun q hq => by cases hq⟩
    obtain ⟨h1, h2⟩ := (hg.2 v).1 hv
    obtain ⟨c, hc, hcw⟩ := List.mem_map.1 h1
    have h3 := occ_le v.acts ((casesL l).map (wordL l))
    have h4 := occ_pos h1
    simp only [List.length_map] at h3
    simp only [vOk, Bool.and_eq_true, decide_eq_true_eq]
    refine ⟨⟨⟨by rw [← hcw]; have := hwl c; omega, by rw [← hcw]; exact word_names hV c⟩, by omega⟩, by omega⟩
  · have ha : ((casesL l).any fun c => decide (200 < (wordL l c).length)) = false := by
      rw [List.any_eq_false]
      intro c _
      have := hwl c
      simp; omega
    rw [varR, ha]
    simp; omega
theorem acts_in {l : List Evt} : ∀ c ∈ casesL l, ∀ x ∈ wordL l c, x ∈ actsL (varL l) := fun c hc x hx => by
  rw [actsL, setB_mem, List.mem_flatMap]
  exact ⟨⟨wordL l c, (occ (wordL l c) ((casesL l).map (wordL l)) : Nat)⟩, ((varL_good l).2 _).2 ⟨List.mem_map.2 ⟨c, hc, rfl⟩, rfl⟩, hx⟩
theorem acts_names {l : List Evt} (hV : logV l = true) : namesL (actsL (varL l)) = true := by
  simp only [namesL, List.all_eq_true]
  intro s hs
  rw [actsL, setB_mem, List.mem_flatMap] at hs
  obtain ⟨v, hv, hsv⟩ := hs
  obtain ⟨c, _, hcw⟩ := List.mem_map.1 (((varL_good l).2 v).1 hv).1
  rw [← hcw] at hsv
  exact List.all_eq_true.1 (word_names hV c) s hsv
end Go.Proofs.Ytnldjmokemgaoaa

/- Traces one by one; strings in lists. -/
namespace Go.Proofs.Ytnldjmokemgaoaa
set_option linter.unusedSimpArgs false
set_option linter.unusedVariables false
set_option linter.unnecessarySimpa false
set_option linter.unusedSectionVars false
open Go.RowKit
variable [Glob]
set_option maxRecDepth 100000
def trC (l : List Evt) (c : ByteArray) : List AV := [.str c, .rs (rowsOf strC (wordL l c))]
theorem trC_eq (l : List Evt) : (fun c => [.str c, .rs (rowsOf strC ((alook (trL l) c).getD []))]) = trC l := by
  funext c
  have := wd_word l c
  unfold wd at this
  rw [this]; rfl
theorem contains_pure (l : List ByteArray) (x : ByteArray) (hl : l.length ≤ 9223372036854775807) : Pure Try.prog 29 [.rs (rowsOf strC l), .str x] (.bool (hasB l x)) := by
  refine pure_of mixed Try.func29 rfl (by kernel_rfl) (of_decide_eq_true rfl) (by kernel_rfl) (vc_run ?_)
  by_cases h : x ∈ l
  · have h1 := idxS_yes h
    have h2 : 0 ≤ idxS l x := by omega
    rw [hasB_iff.2 h]
    ((try simp -implicitDefEqProofs [-loopQ_n, h2]) <;> (repeat' (first | (refine condD_dec ?_ ?_ <;> (intro hc; (try simp -implicitDefEqProofs [-loopQ_n, hc, h2]))) | (refine guardD_dec ?_ ?_ <;> (intro hc; (try simp -implicitDefEqProofs [-loopQ_n, hc, h2]))) | (refine condD_intro ?_ ?_ <;> (intro hd; have hc := hd; (try simp at hc) <;> (try simp -implicitDefEqProofs [-loopQ_n, hd, hc, h2]))) | (refine guardD_intro ?_ ?_ <;> (intro hd; have hc := hd; (try simp at hc) <;> (try simp -implicitDefEqProofs [-loopQ_n, hd, hc, h2]))) | (refine ldD_ep ?_ ?_; (focus kernel_rfl); (try simp -implicitDefEqProofs [-loopQ_n, h2])) | (refine callS_mk ?_; (try simp -implicitDefEqProofs [-loopQ_n, h2]); (first | refine callS_intro (index_pure l x hl) (.inl rfl) ?_); (try simp -implicitDefEqProofs [-loopQ_n, h2])))))
  · have h1 := idxS_no h
    have h2 : hasB l x = false := by
      cases q : hasB l x with
      | false => rfl
      | true => exact absurd (hasB_iff.1 q) h
    rw [h2]
    ((try simp -implicitDefEqProofs [-loopQ_n, h1]) <;> (repeat' (first | (refine condD_dec ?_ ?_ <;> (intro hc; (try simp -implicitDefEqProofs [-loopQ_n, hc, h1]))) | (refine guardD_dec ?_ ?_ <;> (intro hc; (try simp -implicitDefEqProofs [-loopQ_n, hc, h1]))) | (refine condD_intro ?_ ?_ <;> (intro hd; have hc := hd; (try simp at hc) <;> (try simp -implicitDefEqProofs [-loopQ_n, hd, hc, h1]))) | (refine guardD_intro ?_ ?_ <;> (intro hd; have hc := hd; (try simp at hc) <;> (try simp -implicitDefEqProofs [-loopQ_n, hd, hc, h1]))) | (refine ldD_ep ?_ ?_; (focus kernel_rfl); (try simp -implicitDefEqProofs [-loopQ_n, h1])) | (refine callS_mk ?_; (try simp -implicitDefEqProofs [-loopQ_n, h1]); (first | refine callS_intro (index_pure l x hl) (.inl rfl) ?_); (try simp -implicitDefEqProofs [-loopQ_n, h1])))))
/-- Traces that are the same, one by one. -/
theorem thsame_pure (l : List Evt) (c : ByteArray) (hl : l.length ≤ 2000) : Pure Try.prog 24 [.agg (trC l c), .agg (trC l c)] (.bool true) := by
  have hw := word_len l c
  have hE := eqS_pure (wordL l c) (wordL l c) (by omega) (by omega)
  rw [decide_eq_true rfl] at hE
  refine pure_of mixed Try.func24 rfl (by kernel_rfl) (of_decide_eq_true rfl) (by kernel_rfl) (vc_run ?_)
  ((try simp -implicitDefEqProofs [-loopQ_n, trC]) <;> (repeat' (first | (refine condD_dec ?_ ?_ <;> (intro hc; (try simp -implicitDefEqProofs [-loopQ_n, hc, trC]))) | (refine guardD_dec ?_ ?_ <;> (intro hc; (try simp -implicitDefEqProofs [-loopQ_n, hc, trC]))) | (refine condD_intro ?_ ?_ <;> (intro hd; have hc := hd; (try simp at hc) <;> (try simp -implicitDefEqProofs [-loopQ_n, hd, hc, trC]))) | (refine guardD_intro ?_ ?_ <;> (intro hd; have hc := hd; (try simp at hc) <;> (try simp -implicitDefEqProofs [-loopQ_n, hd, hc, trC]))) | (refine ldD_ep ?_ ?_; (focus kernel_rfl); (try simp -implicitDefEqProofs [-loopQ_n, trC])) | (refine callS_mk ?_; (try simp -implicitDefEqProofs [-loopQ_n, trC]); (first | refine callS_intro (hE) (.inl rfl) ?_); (try simp -implicitDefEqProofs [-loopQ_n, trC])))))
theorem theq_pure (l : List Evt) (cs : List ByteArray) (hl : l.length ≤ 2000) (hc : cs.length ≤ 9223372036854775807) : Pure Try.prog 23 [.rs (rowsOf (trC l) cs), .rs (rowsOf (trC l) cs), .fn 24 []] (.bool true) := by
  refine pure_of mixed Try.func23 rfl (by kernel_rfl) (of_decide_eq_true rfl) (by kernel_rfl) (vc_run ?_)
  ((try simp -implicitDefEqProofs [-loopQ_n]) <;> (repeat' (first | (refine condD_dec ?_ ?_ <;> (intro hc; (try simp -implicitDefEqProofs [-loopQ_n, hc]))) | (refine guardD_dec ?_ ?_ <;> (intro hc; (try simp -implicitDefEqProofs [-loopQ_n, hc]))) | (refine condD_intro ?_ ?_ <;> (intro hd; have hc := hd; (try simp at hc) <;> (try simp -implicitDefEqProofs [-loopQ_n, hd, hc]))) | (refine guardD_intro ?_ ?_ <;> (intro hd; have hc := hd; (try simp at hc) <;> (try simp -implicitDefEqProofs [-loopQ_n, hd, hc]))) | (refine ldD_ep ?_ ?_; (focus kernel_rfl); (try simp -implicitDefEqProofs [-loopQ_n])))))
  refine loop_intro (σ := Nat) (fun i => ⟨[(1, .rs (rowsOf (trC l) cs)), (2, .fn 24 []), (15, .rs (rowsOf (trC l) cs)), (16, .int .i64 cs.length), (17, .int .i64 i)], []⟩) (fun i => i ≤ cs.length) (fun i => cs.length - i) 0 (by omega) ?_ ?_
  · refine weak_of 0 0 rfl rfl ?_ ?_ <;> simp
  rintro i hi
  by_cases h : i < cs.length
  · have w1 := sw_suc h (by omega)
    ((try simp -implicitDefEqProofs [-loopQ_n, h, w1, trC]) <;> (repeat' (first | (refine condD_dec ?_ ?_ <;> (intro hc; (try simp -implicitDefEqProofs [-loopQ_n, hc, h, w1, trC]))) | (refine guardD_dec ?_ ?_ <;> (intro hc; (try simp -implicitDefEqProofs [-loopQ_n, hc, h, w1, trC]))) | (refine condD_intro ?_ ?_ <;> (intro hd; have hc := hd; (try simp at hc) <;> (try simp -implicitDefEqProofs [-loopQ_n, hd, hc, h, w1, trC]))) | (refine guardD_intro ?_ ?_ <;> (intro hd; have hc := hd; (try simp at hc) <;> (try simp -implicitDefEqProofs [-loopQ_n, hd, hc, h, w1, trC]))) | (refine ldD_ep ?_ ?_; (focus kernel_rfl); (try simp -implicitDefEqProofs [-loopQ_n, h, w1, trC])) | (refine callS_mk ?_; (try simp -implicitDefEqProofs [-loopQ_n, h, w1, trC]); (first | refine callS_intro (thsame_pure l cs[i] hl) (.inl rfl) ?_); (try simp -implicitDefEqProofs [-loopQ_n, h, w1, trC])))))
    refine loop_next (i + 1) h (by omega) (weak_of 0 0 rfl rfl ?_ ?_) <;> simp
  · ((try simp -implicitDefEqProofs [-loopQ_n, h]) <;> (repeat' (first | (refine condD_dec ?_ ?_ <;> (intro hc; (try simp -implicitDefEqProofs [-loopQ_n, hc, h]))) | (refine guardD_dec ?_ ?_ <;> (intro hc; (try simp -implicitDefEqProofs [-loopQ_n, hc, h]))) | (refine condD_intro ?_ ?_ <;> (intro hd; have hc := hd; (try simp at hc) <;> (try simp -implicitDefEqProofs [-loopQ_n, hd, hc, h]))) | (refine guardD_intro ?_ ?_ <;> (intro hd; have hc := hd; (try simp at hc) <;> (try simp -implicitDefEqProofs [-loopQ_n, hd, hc, h]))) | (refine ldD_ep ?_ ?_; (focus kernel_rfl); (try simp -implicitDefEqProofs [-loopQ_n, h])))))
theorem th2_pure (fr : List ByteArray) (e : Evt) (hl : fr.length ≤ 9223372036854775807) : Pure Try.prog 28 [.agg (evtC e), .rp [.rs (rowsOf strC fr)]] (.bool (hasB fr e.act)) := by
  obtain ⟨c, a, r, life, time, data⟩ := e
  refine pure_of mixed Try.func28 rfl (by kernel_rfl) (of_decide_eq_true rfl) (by kernel_rfl) (vc_run ?_)
  ((try simp -implicitDefEqProofs [-loopQ_n, evtC]) <;> (repeat' (first | (refine condD_dec ?_ ?_ <;> (intro hc; (try simp -implicitDefEqProofs [-loopQ_n, hc, evtC]))) | (refine guardD_dec ?_ ?_ <;> (intro hc; (try simp -implicitDefEqProofs [-loopQ_n, hc, evtC]))) | (refine condD_intro ?_ ?_ <;> (intro hd; have hc := hd; (try simp at hc) <;> (try simp -implicitDefEqProofs [-loopQ_n, hd, hc, evtC]))) | (refine guardD_intro ?_ ?_ <;> (intro hd; have hc := hd; (try simp at hc) <;> (try simp -implicitDefEqProofs [-loopQ_n, hd, hc, evtC]))) | (refine ldD_ep ?_ ?_; (focus kernel_rfl); (try simp -implicitDefEqProofs [-loopQ_n, evtC])) | (refine callS_mk ?_; (try simp -implicitDefEqProofs [-loopQ_n, evtC]); (first | refine callS_intro (contains_pure fr a hl) (.inl rfl) ?_); (try simp -implicitDefEqProofs [-loopQ_n, evtC])))))
end Go.Proofs.Ytnldjmokemgaoaa
