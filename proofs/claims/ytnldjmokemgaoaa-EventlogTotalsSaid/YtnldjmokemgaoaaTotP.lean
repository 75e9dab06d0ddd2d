/- The counts of variants; a log parted by its cases and merged again (plain words). -/
import Derived.Test.YtnldjmokemgaoaaMrg
import Derived.Test.YtnldjmokemgaoaaM6
namespace Go.Proofs.Ytnldjmokemgaoaa
set_option linter.unusedSimpArgs false
set_option linter.unusedVariables false
set_option linter.unnecessarySimpa false
set_option linter.unusedSectionVars false
open Go.RowKit
variable [Glob]
open Stab
set_option maxRecDepth 100000
/-! Sums of counts. -/
def sumC (R : List Vr) : Int := (R.map (·.count)).sum
theorem sumC_cons {v : Vr} {R : List Vr} : sumC (v :: R) = v.count + sumC R := rfl
theorem addV_sum (w : List ByteArray) (n : Int) : ∀ R : List Vr, sumC (addV w n R) = sumC R + n := by
  intro R
  induction R with
  | nil => simp [addV, sumC]
  | cons v R ih =>
    unfold addV
    split
    · rw [sumC_cons, sumC_cons, ih]; omega
    · split
      · rw [sumC_cons, sumC_cons]; simp only; omega
      · rw [sumC_cons]; simp only; omega
theorem fold_sum : ∀ (ws : List (List ByteArray)) (R : List Vr), sumC (ws.foldl (fun acc w => addV w 1 acc) R) = sumC R + ws.length := by
  intro ws
  induction ws with
  | nil => intro R; simp
  | cons w ws ih => intro R; rw [List.foldl_cons, ih, addV_sum, List.length_cons]; omega
theorem varL_sum (l : List Evt) : sumC (varL l) = (casesL l).length := by
  unfold varL
  rw [fold_sum]
  simp [sumC]
/-! Variants added to variants. -/
def goodO (f : List ByteArray → Nat) (R : List Vr) : Prop := ascV R ∧ ∀ v, v ∈ R ↔ 0 < f v.acts ∧ v.count = (f v.acts : Nat)
theorem occ_mem {w : List ByteArray} {ws : List (List ByteArray)} : w ∈ ws ↔ 0 < occ w ws := by
  constructor
  · intro h; exact occ_pos h
  · intro h
    by_cases hw : w ∈ ws
    · exact hw
    · rw [occ_zero hw] at h; omega
theorem goodV_O {ws : List (List ByteArray)} {R : List Vr} : goodV ws R ↔ goodO (fun w => occ w ws) R := by
  unfold goodV goodO
  simp only [occ_mem]
theorem goodO_add {f : List ByteArray → Nat} {R : List Vr} (h : goodO f R) (w : List ByteArray) (n : Nat) (hn : 0 < n) : goodO (fun x => f x + if x = w then n else 0) (addV w n R) := by
  obtain ⟨h1, h2⟩ := h
  refine ⟨add_asc h1, fun v => ?_⟩
  rw [add_mem h1]
  by_cases hv : v.acts = w
  · simp only [hv, if_true, ne_eq, not_true_eq_false, false_and, false_or, true_and]
    constructor
    · rintro (⟨u, hu, hu1, hu2⟩ | ⟨hno, hc⟩)
      · obtain ⟨q1, q2⟩ := (h2 u).1 hu
        rw [hu1] at q1 q2
        exact ⟨by omega, by omega⟩
      · have : f w = 0 := by
          by_cases hf : 0 < f w
          · exact absurd rfl (hno ⟨w, (f w : Nat)⟩ ((h2 _).2 ⟨hf, rfl⟩))
          · omega
        exact ⟨by omega, by omega⟩
    · rintro ⟨q1, q2⟩
      by_cases hf : 0 < f w
      · exact .inl ⟨⟨w, (f w : Nat)⟩, (h2 _).2 ⟨hf, rfl⟩, rfl, by simp only; omega⟩
      · refine .inr ⟨fun u hu hu1 => ?_, by omega⟩
        have := ((h2 u).1 hu).1
        rw [hu1] at this
        exact hf this
  · simp only [hv, if_false, Nat.add_zero, ne_eq, not_false_eq_true, true_and, false_and, or_false]
    exact h2 v
def cntL : List Vr → List ByteArray → Nat
  | [], _ => 0
  | z :: r, x => (if x = z.acts then z.count.toNat else 0) + cntL r x
theorem goodO_congr {f g : List ByteArray → Nat} {R : List Vr} (h : goodO f R) (e : ∀ x, f x = g x) : goodO g R := by
  have : f = g := funext e
  rw [← this]; exact h
theorem goodO_fold : ∀ (Z : List Vr) {f : List ByteArray → Nat} {R : List Vr}, (∀ z ∈ Z, 0 < z.count) → goodO f R → goodO (fun x => f x + cntL Z x) (Z.foldl (fun acc z => addV z.acts z.count acc) R) := by
  intro Z
  induction Z with
  | nil => intro f R _ h; exact h
  | cons z Z ih =>
    intro f R hz h
    rw [List.foldl_cons]
    have h0 := hz z (by simp)
    have h1 := goodO_add h z.acts z.count.toNat (by omega)
    rw [show ((z.count.toNat : Nat) : Int) = z.count by omega] at h1
    refine goodO_congr (ih (fun y hy => hz y (by simp [hy])) h1) fun x => ?_
    simp only [cntL]
    omega
theorem cnt_none {x : List ByteArray} : ∀ {Z : List Vr}, (∀ z ∈ Z, z.acts ≠ x) → cntL Z x = 0 := by
  intro Z
  induction Z with
  | nil => intro _; rfl
  | cons z Z ih =>
    intro h
    unfold cntL
    rw [if_neg (fun e => h z (by simp) e.symm), ih fun y hy => h y (by simp [hy])]
theorem cnt_asc {x : List ByteArray} : ∀ {Z : List Vr} {z : Vr}, ascV Z → z ∈ Z → z.acts = x → cntL Z x = z.count.toNat := by
  intro Z
  induction Z with
  | nil => intro z _ hz; cases hz
  | cons y Z ih =>
    intro z ha hz hx
    have ha' := List.pairwise_cons.1 ha
    unfold cntL
    rcases List.mem_cons.1 hz with rfl | hz
    · rw [if_pos hx.symm, cnt_none fun u hu e => ?_]
      · omega
      · have := ha'.1 u hu
        unfold ltV at this
        rw [hx, e, cmpL_self] at this
        omega
    · have hne : x ≠ y.acts := fun e => by
        have := ha'.1 z hz
        unfold ltV at this
        rw [hx, e, cmpL_self] at this
        omega
      rw [if_neg hne, ih ha'.2 hz hx]
      omega
theorem cnt_good {g : List ByteArray → Nat} {Z : List Vr} (h : goodO g Z) (x : List ByteArray) : cntL Z x = g x := by
  by_cases hg : 0 < g x
  · have hm := (h.2 ⟨x, (g x : Nat)⟩).2 ⟨hg, rfl⟩
    rw [cnt_asc h.1 hm rfl]
    simp
  · rw [cnt_none fun z hz e => ?_]
    · omega
    · have := ((h.2 z).1 hz).1
      rw [e] at this
      exact hg this
/-- Variants of some words, and those of others, added to them. -/
theorem good_both {ws ws' : List (List ByteArray)} {R R' : List Vr} (h : goodV ws R) (h' : goodV ws' R') : goodV (ws ++ ws') (R'.foldl (fun acc z => addV z.acts z.count acc) R) := by
  rw [goodV_O] at h h' ⊢
  refine goodO_congr (goodO_fold R' (fun z hz => ?_) h) fun x => ?_
  · have := (h'.2 z).1 hz
    omega
  · rw [cnt_good h', occ_app]
/-! A log parted by its cases. -/
theorem ltE_swo : Swo ltE := ⟨fun x => by simp [ltE], fun x y z a b => by simp [ltE] at *; omega, fun x y z a => by simp [ltE] at *; omega⟩
theorem logV_of {l : List Evt} (h1 : l.length ≤ 2000) (h2 : ∀ e ∈ l, eventV e = true) (h3 : Srtd ltE l) : logV l = true := by
  refine logV_iff.2 ⟨h1, h2, fun i hi => ?_⟩
  unfold Srtd at h3
  rw [List.pairwise_iff_getElem] at h3
  have := h3 i (i + 1) (by omega) hi (by omega)
  simp [ltE] at this
  omega
theorem logV_filter {l : List Evt} (h : logV l = true) (p : Evt → Bool) : logV (l.filter p) = true := by
  refine logV_of (Nat.le_trans (List.length_filter_le _ _) (log_lenE h)) (fun e he => log_evt h e (List.mem_filter.1 he).1) ?_
  have := log_srtd h
  unfold Srtd at this ⊢
  exact this.filter p
theorem mrgG_filterL {α : Type} {lt : α → α → Bool} {q : α → Bool} : ∀ a b : List α, (∀ y ∈ b, q y = false) → (mrgG lt a b).filter q = a.filter q := by
  intro a b
  fun_induction mrgG lt a b with
  | case1 b => intro h; rw [List.filter_nil]; exact List.filter_eq_nil_iff.2 fun y hy => by rw [h y hy]; simp
  | case2 x a => intro _; rfl
  | case3 x a y b hh ih => intro h; rw [List.filter_cons_of_neg (by rw [h y (by simp)]; simp), ih fun z hz => h z (by simp [hz])]
  | case4 x a y b hh ih => intro h; rw [List.filter_cons, List.filter_cons, ih h]
theorem mrgG_filterR {α : Type} {lt : α → α → Bool} {q : α → Bool} : ∀ a b : List α, (∀ y ∈ a, q y = false) → (mrgG lt a b).filter q = b.filter q := by
  intro a b
  fun_induction mrgG lt a b with
  | case1 b => intro _; rfl
  | case2 x a => intro h; rw [List.filter_nil]; exact List.filter_eq_nil_iff.2 fun y hy => by rw [h y hy]; simp
  | case3 x a y b hh ih => intro h; rw [List.filter_cons, List.filter_cons, ih h]
  | case4 x a y b hh ih => intro h; rw [List.filter_cons_of_neg (by rw [h x (by simp)]; simp), ih fun z hz => h z (by simp [hz])]
def inC (s : List ByteArray) (e : Evt) : Bool := hasB s e.case_
def outC (s : List ByteArray) (e : Evt) : Bool := !hasB s e.case_
theorem filt_word {l : List Evt} {p : Evt → Bool} {c : ByteArray} (h : ∀ e ∈ l, e.case_ = c → p e = true) : wordL (l.filter p) c = wordL l c := by
  unfold wordL
  rw [List.filter_filter]
  congr 1
  refine List.filter_congr fun e he => ?_
  cases hw : wordE c e
  · rfl
  · have : e.case_ = c := by
      simp only [wordE, Bool.and_eq_true, decide_eq_true_eq] at hw
      exact hw.1
    rw [h e he this]; rfl
theorem wordE_case {c : ByteArray} {e : Evt} (h : wordE c e = true) : e.case_ = c := by
  simp only [wordE, Bool.and_eq_true, decide_eq_true_eq] at h
  exact h.1
theorem merged_word (l : List Evt) (s : List ByteArray) (c : ByteArray) : wordL (mrgG ltE (l.filter (inC s)) (l.filter (outC s))) c = wordL l c := by
  by_cases hc : hasB s c = true
  · have e1 : wordL (mrgG ltE (l.filter (inC s)) (l.filter (outC s))) c = wordL (l.filter (inC s)) c := by
      unfold wordL
      rw [mrgG_filterL _ _ fun y hy => ?_]
      cases hw : wordE c y
      · rfl
      · have := (List.mem_filter.1 hy).2
        unfold outC at this
        rw [wordE_case hw, hc] at this
        cases this
    rw [e1]
    exact filt_word fun e _ he => by unfold inC; rw [he]; exact hc
  · have hc : hasB s c = false := by simpa using hc
    have e1 : wordL (mrgG ltE (l.filter (inC s)) (l.filter (outC s))) c = wordL (l.filter (outC s)) c := by
      unfold wordL
      rw [mrgG_filterR _ _ fun y hy => ?_]
      cases hw : wordE c y
      · rfl
      · have := (List.mem_filter.1 hy).2
        unfold inC at this
        rw [wordE_case hw, hc] at this
        cases this
    rw [e1]
    exact filt_word fun e _ he => by unfold outC; rw [he, hc]; rfl
theorem merged_mem (l : List Evt) (s : List ByteArray) (e : Evt) : e ∈ mrgG ltE (l.filter (inC s)) (l.filter (outC s)) ↔ e ∈ l := by
  rw [mrgG_mem, List.mem_filter, List.mem_filter]
  unfold inC outC
  cases hasB s e.case_ <;> simp
theorem merged_len (l : List Evt) (s : List ByteArray) : (mrgG ltE (l.filter (inC s)) (l.filter (outC s))).length = l.length := by
  rw [mrgG_len]
  induction l with
  | nil => rfl
  | cons e l ih =>
    rw [List.filter_cons, List.filter_cons]
    unfold inC outC at ih ⊢
    cases hasB s e.case_ <;> simp <;> omega
theorem merged_var (l : List Evt) (s : List ByteArray) : varL (mrgG ltE (l.filter (inC s)) (l.filter (outC s))) = varL l := by
  have hc : casesL (mrgG ltE (l.filter (inC s)) (l.filter (outC s))) = casesL l := setB_eq fun x => by
    simp only [List.mem_map, merged_mem]
  unfold varL
  rw [hc, List.map_congr_left fun c _ => merged_word l s c]
theorem merged_logV {l : List Evt} (h : logV l = true) (s : List ByteArray) : logV (mrgG ltE (l.filter (inC s)) (l.filter (outC s))) = true :=
  logV_of (by rw [merged_len]; exact log_lenE h) (fun e he => log_evt h e ((merged_mem l s e).1 he)) (mrgG_srtd ltE_swo _ _ (log_srtd (logV_filter h _)) (log_srtd (logV_filter h _)))
theorem cases_nodup (l : List Evt) : (casesL l).Nodup := (setB_asc _).imp fun {a b} q e => by subst e; exact ltB_irrefl _ q
theorem cases_filter (l : List Evt) (p : ByteArray → Bool) : (casesL (l.filter fun e => p e.case_)).Perm ((casesL l).filter p) := by
  refine (List.perm_ext_iff_of_nodup (cases_nodup _) ((cases_nodup l).filter p)).2 fun c => ?_
  unfold casesL
  rw [setB_mem, List.mem_filter, setB_mem, List.mem_map, List.mem_map]
  constructor
  · rintro ⟨e, he, rfl⟩
    obtain ⟨h1, h2⟩ := List.mem_filter.1 he
    exact ⟨⟨e, h1, rfl⟩, h2⟩
  · rintro ⟨⟨e, he, rfl⟩, hp⟩
    exact ⟨e, List.mem_filter.2 ⟨he, hp⟩, rfl⟩
theorem words_filter (l : List Evt) (p : ByteArray → Bool) : ((casesL (l.filter fun e => p e.case_)).map (wordL (l.filter fun e => p e.case_))).Perm (((casesL l).filter p).map (wordL l)) := by
  refine ((cases_filter l p).map _).trans (List.Perm.of_eq (List.map_congr_left fun c hc => ?_))
  exact filt_word fun e _ he => by rw [he]; exact (List.mem_filter.1 hc).2
/-- The variants of both parts, added. -/
theorem parted_var (l : List Evt) (s : List ByteArray) : (varL (l.filter (outC s))).foldl (fun acc z => addV z.acts z.count acc) (varL (l.filter (inC s))) = varL l := by
  refine good_uniq (good_both (varL_good _) (varL_good _)) (varL_good l) ?_
  refine ((words_filter l (hasB s)).append (words_filter l fun c => !hasB s c)).trans ?_
  rw [← List.map_append]
  refine List.Perm.map _ ?_
  have := List.filter_append_perm (hasB s) (casesL l)
  exact this
end Go.Proofs.Ytnldjmokemgaoaa
