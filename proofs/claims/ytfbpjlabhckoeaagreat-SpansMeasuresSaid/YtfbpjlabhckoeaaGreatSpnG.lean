/- The busiest time (program): spans.Most. -/
import Derived.Test.YtfbpjlabhckoeaaGreatSpnB
import Derived.Test.YtfbpjlabhckoeaaGreatSpnM
namespace Go.Proofs.YtfbpjlabhckoeaaGreat
set_option linter.unusedSimpArgs false
set_option linter.unusedVariables false
set_option linter.unnecessarySimpa false
set_option linter.unusedSectionVars false
open Go.RowKit Go.Sort Go.Shelf Go.Lib
variable [Glob]
set_option maxRecDepth 100000
def chC (c : Chg) : List AV := [.int .i64 c.time, .int .i64 c.by_]
def encCh (c : Chg) : List Value := [.int .i64 c.time, .int .i64 c.by_]
instance : Inhabited Chg := ⟨⟨0, 0⟩⟩
def cfC (x y : Chg) : Int := orL [Lib.compareInt x.time y.time, Lib.compareInt x.by_ y.by_]
theorem ltK (x y : Chg) : ltOf cfC x y = decide (x.time < y.time ∨ (x.time = y.time ∧ x.by_ < y.by_)) := by
  unfold ltOf cfC
  exact decide_eq_decide.2 (or_lex _ _ _ _)
theorem ltK_le {x y : Chg} (h : ltOf cfC y x = false) : leC x y := by
  rw [ltK] at h
  simp only [decide_eq_false_iff_not] at h
  unfold leC
  omega
theorem swoC : SWO (ltOf cfC) where
  irrefl x := by rw [ltK]; simp
  trans x y z h1 h2 := by rw [ltK] at *; simp only [decide_eq_true_eq] at *; omega
  ntrans x y z h1 h2 := by rw [ltK] at *; simp only [decide_eq_false_iff_not] at *; omega
theorem mostCmp_lays (blk off size : Nat) (w : World) : CmpLays Tryz.prog 36 #[] encCh 2 cfC blk off size w :=
  fun _ _ _ _ x y => mostCmp_calls x.time x.by_ y.time y.by_ _
theorem sortC_G {nb : Bool} {l : List Chg} {id n : Nat} {H : List Blk} {K : AV → List Blk → Prop} (hb : H[id]? = some (.row 75 nb (rowsOf chC l))) (hn : n = l.length) (h0 : l ≠ []) (hlen : l.length ≤ 1073741824)
    (hK : ∀ l', l'.Perm l → l'.Pairwise (fun a b => leC a b) → K (.tup []) (H.set id (.row 75 nb (rowsOf chC l')))) : CallG Tryz.prog 35 [.os id n, .fn 36 []] H K := by
  refine ⟨by kernel_rfl, fun w0 w X φ vs hr hl hv => ?_⟩
  obtain ⟨v0, v1, rfl⟩ := args2 hl
  have hv0 := hv 0 (.os id n) v0 rfl rfl
  have hv1 := hv 1 (.fn 36 []) v1 rfl rfl
  obtain rfl : v1 = .func (.func 36) #[] #[] := by
    cases hv1 with
    | ro h => cases h with | fn h1 h2 => simp at h1; rw [Array.eq_empty_of_size_eq_zero h1.symm]
    | fn h1 h2 => simp at h1; rw [Array.eq_empty_of_size_eq_zero h1.symm]
  have hl0 : l.length ≠ 0 := by simpa using h0
  have hce : Tryz.prog.cellsOf 75 = 2 := by kernel_rfl
  cases hv0 with
  | ro h => cases h
  | os g0 hid hv' =>
    rcases (hv' _ nb _ hb).2 (by rw [hn, rowsOf_length]) with ⟨_, _, _, hz⟩ | ⟨c, cap, cur, hφ, rfl, hheap, hsz, hcap, hncap⟩
    · omega
    · have hk : ∀ x, (encCh x).length = 2 := fun x => rfl
      have hC : ∀ x, (chC x).length = 2 := fun x => rfl
      obtain ⟨hle, hH⟩ := holdsK_row (k := 2) (l := l) (C := chC) hr hb hφ hheap hce encCh hk hC fun i j x a v u _ ha hv _ hu => by
        match j with
        | 0 => simp [chC, encCh] at ha hv; subst ha hv; exact hu.int_inv
        | 1 => simp [chC, encCh] at ha hv; subst ha hv; exact hu.int_inv
        | j + 2 => simp [chC] at ha
      have eg : ∀ args w, (callFunc 36 args).run Tryz.prog w = .ok (.enter 36 args) w := enters_of Tryz.func36 (by kernel_rfl) rfl
      have hcon := AnyQ.slices_SortFunc Tryz.sortChL 2 Tryz.isAgg75 Tryz.sizeOf75 encCh hk (fun x v hv => by simp [encCh] at hv; rcases hv with rfl | rfl <;> rfl) cfC swoC 36 #[] c 0 cap l.toArray w eg (mostCmp_lays c 0 _ w) hH (Array.getElem?_eq_some_iff.1 hheap).1 (by simp; omega)
      change Calls Tryz.prog 35 _ _ _ at hcon
      rw [List.size_toArray, ← hn] at hcon
      refine hcon.mono ?_
      rintro e w' ⟨rfl, d', m, os, hp, hs, rfl⟩
      have hd' : d'.size = l.length := by have := hp.1; simpa [hn] using this
      obtain ⟨h1, h2⟩ := putK_row (k := 2) (m := m) (os := os) hr hb hφ hheap hce (by omega) encCh chC hk hC (fun x j a v ha hv => by
        match j with
        | 0 => simp [chC, encCh] at ha hv; subst ha hv; exact ⟨.ro .int, rfl⟩
        | 1 => simp [chC, encCh] at ha hv; subst ha hv; exact ⟨.ro .int, rfl⟩
        | j + 2 => simp [chC] at ha) d' (by rw [rowsOf_length, hd']) (by rw [rowsOf_length]; exact hle)
      refine ⟨_, .tup [], φ, _, rfl, h1, h2, .ro (.tup rfl (by simp)), hK d'.toList ?_ ?_⟩
      · have := hp.2.2
        rw [hn] at this
        have e1 : (d'.extract 0 l.length).toList = d'.toList := by rw [← hd']; simp
        have e2 : (l.toArray.extract 0 l.length).toList = l := by simp
        rw [e1, e2] at this
        exact this
      · rw [List.pairwise_iff_getElem]
        intro i j hi hj hij
        have hi' : i < d'.size := by simpa using hi
        have hj' : j < d'.size := by simpa using hj
        have := hs i j (Nat.zero_le _) hij (by rw [hn, ← hd']; exact hj')
        rw [getElem!_pos d' i hi', getElem!_pos d' j hj'] at this
        have := ltK_le this
        simpa using this
theorem sortC_nil : Pure Tryz.prog 35 [.rs [], .fn 36 []] (.tup []) := exFC_pure (m := 64) (n := 20) mixed noHook noRow noBase (by kernel_rfl)
def mostL (A : List Sp) : Int × Int := (A.map Sp.f).foldl (stepA A) (0, 0)
theorem mostL_ok (A : List Sp) : MostS A (mostL A).1 (mostL A).2 := look_most fun s hs => List.mem_map.2 ⟨s, hs, rfl⟩
def mostR (l : List Ins) : Int × Int × Int := if insL l = true then ((mostL (activeL l)).1, (mostL (activeL l)).2, 0) else (0, 0, 1)
def mostO (r : Int × Int × Int) : AV := .tup [.int .i64 r.1, .int .i64 r.2.1, .int .i64 r.2.2]
theorem sweep_by {A : List Sp} {c : Chg} (h : c ∈ sweepL A) : c.by_ = 1 ∨ c.by_ = -1 := by
  simp only [sweepL, List.mem_flatMap] at h
  obtain ⟨s, _, h⟩ := h
  simp at h
  rcases h with rfl | rfl <;> simp
theorem sweep_len {A : List Sp} : (sweepL A).length = 2 * A.length := by
  induction A with
  | nil => rfl
  | cons s r ih => rw [sweepL, List.flatMap_cons, List.length_append]; rw [sweepL] at ih; rw [ih]; simp; omega
theorem ch_refs {m : Nat} {l : List Chg} : refsR m (rowsOf chC l) = true := rowsOf_refs fun x => by simp [chC, refs]
theorem ch_snoc {l : List Chg} {f t : Int} : rowsOf chC l ++ [[.int .i64 f, .int .i64 1], [.int .i64 t, .int .i64 (-1)]] = rowsOf chC (l ++ [⟨f, 1⟩, ⟨t, -1⟩]) := by simp [rowsOf, chC]
set_option maxHeartbeats 8000000 in
theorem most_pure (l : List Ins) (hl : l.length ≤ 9223372036854775807) : Pure Tryz.prog 10 [.rs (rowsOf insC l)] (mostO (mostR l)) := by
  refine pure_of mixed Tryz.func10 rfl (by kernel_rfl) (of_decide_eq_true rfl) (by kernel_rfl) (vc_run ?_)
  by_cases hV : insL l = true
  rotate_left
  · rw [mostR, if_neg hV]
    have hV : insL l = false := by simpa using hV
    ((try simp -implicitDefEqProofs [-loopQ_n, hV, mostO]) <;> (repeat' (first | (refine condD_dec ?_ ?_ <;> (intro hc; (try simp -implicitDefEqProofs [-loopQ_n, hc, hV, mostO]))) | (refine guardD_dec ?_ ?_ <;> (intro hc; (try simp -implicitDefEqProofs [-loopQ_n, hc, hV, mostO]))) | (refine condD_intro ?_ ?_ <;> (intro hd; have hc := hd; (try simp at hc) <;> (try simp -implicitDefEqProofs [-loopQ_n, hd, hc, hV, mostO]))) | (refine guardD_intro ?_ ?_ <;> (intro hd; have hc := hd; (try simp at hc) <;> (try simp -implicitDefEqProofs [-loopQ_n, hd, hc, hV, mostO]))) | (refine ldD_ep ?_ ?_; (focus kernel_rfl); (try simp -implicitDefEqProofs [-loopQ_n, hV, mostO])) | (refine callS_mk ?_; (try simp -implicitDefEqProofs [-loopQ_n, hV, mostO]); (first | refine callS_intro (svalid_pure l hl) (.inl rfl) ?_); (try simp -implicitDefEqProofs [-loopQ_n, hV, mostO])))))
  rw [mostR, if_pos hV]
  obtain ⟨hl2, hm⟩ := insL_mem hV
  have hA := active_ok hm
  have hAl := activeL_len (l := l)
  have hact := active_pure l (by omega)
  generalize activeL l = A at *
  have hr2 : ([0, 1] : List Nat) = List.range 2 := rfl
  obtain ⟨S, hS⟩ : ∃ S, sweepL A = S := ⟨_, rfl⟩
  ((try simp -implicitDefEqProofs [-loopQ_n, hV, ins_reify]) <;> (repeat' (first | (refine condD_dec ?_ ?_ <;> (intro hc; (try simp -implicitDefEqProofs [-loopQ_n, hc, hV, ins_reify]))) | (refine guardD_dec ?_ ?_ <;> (intro hc; (try simp -implicitDefEqProofs [-loopQ_n, hc, hV, ins_reify]))) | (refine condD_intro ?_ ?_ <;> (intro hd; have hc := hd; (try simp at hc) <;> (try simp -implicitDefEqProofs [-loopQ_n, hd, hc, hV, ins_reify]))) | (refine guardD_intro ?_ ?_ <;> (intro hd; have hc := hd; (try simp at hc) <;> (try simp -implicitDefEqProofs [-loopQ_n, hd, hc, hV, ins_reify]))) | (refine ldD_ep ?_ ?_; (focus kernel_rfl); (try simp -implicitDefEqProofs [-loopQ_n, hV, ins_reify])) | (refine callS_mk ?_; (try simp -implicitDefEqProofs [-loopQ_n, hV, ins_reify]); (first | refine callS_intro (svalid_pure l hl) (.inl rfl) ?_ | refine callS_intro (hact) (.inr ⟨rfl, rfl⟩) ?_); (try simp -implicitDefEqProofs [-loopQ_n, hV, ins_reify])))))
  refine loop_intro (σ := Nat × List Chg) (fun x => ⟨[(5, .os 0 x.2.length), (17, .rs (rowsOf spC A)), (18, .int .i64 A.length), (19, .int .i64 x.1)], [.row 75 true (rowsOf chC x.2)]⟩)
    (fun x => x.1 ≤ A.length ∧ x.2.length = 2 * x.1 ∧ x.2 ++ sweepL (A.drop x.1) = S) (fun x => A.length - x.1) (0, []) ⟨by simp, by simp, by simpa using hS⟩ ?_ ?_
  · refine weak_of 0 1 rfl rfl ?_ ?_ <;> simp [sp_refs, rowsOf_nil]
  rintro ⟨i, acc⟩ ⟨hi, hal, hR⟩
  simp only at hi hal hR
  by_cases h : i < A.length
  · have w1 := w_succ' h (by omega)
    obtain ⟨⟨f, t⟩, hf⟩ : ∃ e, A[i] = e := ⟨_, rfl⟩
    rw [List.drop_eq_getElem_cons h, hf, sweepL, List.flatMap_cons] at hR
    have hl1 : acc.length + 2 ≤ 1073741824 := by omega
    ((try simp -implicitDefEqProofs [-loopQ_n, h, hf, spC, w1, hl1, hr2, ch_snoc]) <;> (repeat' (first | (refine condD_dec ?_ ?_ <;> (intro hc; (try simp -implicitDefEqProofs [-loopQ_n, hc, h, hf, spC, w1, hl1, hr2, ch_snoc]))) | (refine guardD_dec ?_ ?_ <;> (intro hc; (try simp -implicitDefEqProofs [-loopQ_n, hc, h, hf, spC, w1, hl1, hr2, ch_snoc]))) | (refine condD_intro ?_ ?_ <;> (intro hd; have hc := hd; (try simp at hc) <;> (try simp -implicitDefEqProofs [-loopQ_n, hd, hc, h, hf, spC, w1, hl1, hr2, ch_snoc]))) | (refine guardD_intro ?_ ?_ <;> (intro hd; have hc := hd; (try simp at hc) <;> (try simp -implicitDefEqProofs [-loopQ_n, hd, hc, h, hf, spC, w1, hl1, hr2, ch_snoc]))) | (refine ldD_ep ?_ ?_; (focus kernel_rfl); (try simp -implicitDefEqProofs [-loopQ_n, h, hf, spC, w1, hl1, hr2, ch_snoc])))))
    refine loop_next (i + 1, acc ++ [⟨f, 1⟩, ⟨t, -1⟩]) ⟨h, by simp; omega, by rw [← hR]; simp [sweepL]⟩ (by simp only; omega) (weak_of 1 0 rfl rfl ?_ ?_) <;> simp [sp_refs, ch_refs, w1]
  have hi : i = A.length := by omega
  rw [List.drop_eq_nil_of_le (by omega)] at hR
  have hR : acc = S := by simpa [sweepL] using hR
  rw [← hS] at hR
  clear hS
  have hms := mostL_ok A
  have hdir : ∀ l' : List Chg, l'.Perm (sweepL A) → l'.Pairwise (fun a b => leC a b) → l'.length = acc.length ∧ (∀ c ∈ l', c.by_ = 1 ∨ c.by_ = -1) ∧ (l'.foldl scanM (0, 0, 0)).2 = mostL A := fun l' hp hs => by
    refine ⟨by rw [hp.length_eq, hR], fun c hc => sweep_by (hp.mem_iff.1 hc), ?_⟩
    obtain ⟨e1, e2⟩ := most_uniq (sweep_most (fun s hs => (hA s hs).2.1) hp hs) hms
    exact Prod.ext e1 e2
  have hslen : acc.length = 2 * A.length := by rw [hR, sweep_len]
  by_cases h0 : acc = []
  · subst h0
    have hA0 : A = [] := by cases A with | nil => rfl | cons s r => simp at hslen
    subst hA0
    have hm0 : mostL [] = (0, 0) := rfl
    rw [hm0]
    have hi0 : i = 0 := hi
    subst hi0
    ((try simp -implicitDefEqProofs [-loopQ_n, rowsOf_nil]) <;> (repeat' (first | (refine condD_dec ?_ ?_ <;> (intro hc; (try simp -implicitDefEqProofs [-loopQ_n, hc, rowsOf_nil]))) | (refine guardD_dec ?_ ?_ <;> (intro hc; (try simp -implicitDefEqProofs [-loopQ_n, hc, rowsOf_nil]))) | (refine condD_intro ?_ ?_ <;> (intro hd; have hc := hd; (try simp at hc) <;> (try simp -implicitDefEqProofs [-loopQ_n, hd, hc, rowsOf_nil]))) | (refine guardD_intro ?_ ?_ <;> (intro hd; have hc := hd; (try simp at hc) <;> (try simp -implicitDefEqProofs [-loopQ_n, hd, hc, rowsOf_nil]))) | (refine ldD_ep ?_ ?_; (focus kernel_rfl); (try simp -implicitDefEqProofs [-loopQ_n, rowsOf_nil])) | (refine callS_mk ?_; (try simp -implicitDefEqProofs [-loopQ_n, rowsOf_nil]); (first | refine callS_intro (sortC_nil) (.inl rfl) ?_); (try simp -implicitDefEqProofs [-loopQ_n, rowsOf_nil])))))
    refine loop_intro (σ := Unit) (fun _ => ⟨[(8, .int .i64 0), (9, .int .i64 0), (10, .int .i64 0), (35, .os 0 0), (36, .int .i64 0), (37, .int .i64 0)], [.row 75 true []]⟩) (fun _ => True) (fun _ => 0) () trivial ?_ ?_
    · refine weak_of 1 0 rfl rfl ?_ ?_ <;> simp
    rintro _ _
    ((try simp -implicitDefEqProofs [-loopQ_n, mostO]) <;> (repeat' (first | (refine condD_dec ?_ ?_ <;> (intro hc; (try simp -implicitDefEqProofs [-loopQ_n, hc, mostO]))) | (refine guardD_dec ?_ ?_ <;> (intro hc; (try simp -implicitDefEqProofs [-loopQ_n, hc, mostO]))) | (refine condD_intro ?_ ?_ <;> (intro hd; have hc := hd; (try simp at hc) <;> (try simp -implicitDefEqProofs [-loopQ_n, hd, hc, mostO]))) | (refine guardD_intro ?_ ?_ <;> (intro hd; have hc := hd; (try simp at hc) <;> (try simp -implicitDefEqProofs [-loopQ_n, hd, hc, mostO]))) | (refine ldD_ep ?_ ?_; (focus kernel_rfl); (try simp -implicitDefEqProofs [-loopQ_n, mostO])))))
  · rw [← hR] at hdir
    ((try simp -implicitDefEqProofs [-loopQ_n, h]) <;> (repeat' (first | (refine condD_dec ?_ ?_ <;> (intro hc; (try simp -implicitDefEqProofs [-loopQ_n, hc, h]))) | (refine guardD_dec ?_ ?_ <;> (intro hc; (try simp -implicitDefEqProofs [-loopQ_n, hc, h]))) | (refine condD_intro ?_ ?_ <;> (intro hd; have hc := hd; (try simp at hc) <;> (try simp -implicitDefEqProofs [-loopQ_n, hd, hc, h]))) | (refine guardD_intro ?_ ?_ <;> (intro hd; have hc := hd; (try simp at hc) <;> (try simp -implicitDefEqProofs [-loopQ_n, hd, hc, h]))) | (refine ldD_ep ?_ ?_; (focus kernel_rfl); (try simp -implicitDefEqProofs [-loopQ_n, h])))))
    refine callG_intro (sortC_G (nb := true) (l := acc) (by simp) (by simp) h0 (by omega) fun l' hp hs => ?_)
    obtain ⟨d1, d2, d3⟩ := hdir l' hp hs
    clear hdir hp hs
    generalize mostL A = M at *
    obtain ⟨N, hN⟩ : ∃ N, acc.length = N := ⟨_, rfl⟩
    rw [hN] at d1 hslen ⊢
    ((try simp -implicitDefEqProofs [-loopQ_n, d1]) <;> (repeat' (first | (refine condD_dec ?_ ?_ <;> (intro hc; (try simp -implicitDefEqProofs [-loopQ_n, hc, d1]))) | (refine guardD_dec ?_ ?_ <;> (intro hc; (try simp -implicitDefEqProofs [-loopQ_n, hc, d1]))) | (refine condD_intro ?_ ?_ <;> (intro hd; have hc := hd; (try simp at hc) <;> (try simp -implicitDefEqProofs [-loopQ_n, hd, hc, d1]))) | (refine guardD_intro ?_ ?_ <;> (intro hd; have hc := hd; (try simp at hc) <;> (try simp -implicitDefEqProofs [-loopQ_n, hd, hc, d1]))) | (refine ldD_ep ?_ ?_; (focus kernel_rfl); (try simp -implicitDefEqProofs [-loopQ_n, d1])))))
    refine loop_intro (σ := Nat × Int × Int × Int) (fun x => ⟨[(8, .int .i64 x.2.1), (9, .int .i64 x.2.2.1), (10, .int .i64 x.2.2.2), (35, .os 0 N), (36, .int .i64 N), (37, .int .i64 x.1)], [.row 75 true (rowsOf chC l')]⟩)
      (fun x => x.1 ≤ N ∧ -(x.1 : Int) ≤ x.2.1 ∧ x.2.1 ≤ x.1 ∧ ((l'.drop x.1).foldl scanM x.2).2 = M) (fun x => N - x.1) (0, 0, 0, 0) ⟨by simp, by simp, by simp, by simpa using d3⟩ ?_ ?_
    · refine weak_of 1 0 rfl rfl ?_ ?_ <;> simp [ch_refs]
    rintro ⟨i, s, m, t⟩ ⟨hi, hs1, hs2, hR⟩
    simp only at hi hs1 hs2 hR
    by_cases h : i < N
    · have h2 : i < l'.length := by omega
      have w1 := w_succ' h (by omega)
      have hby := d2 _ (List.getElem_mem h2)
      obtain ⟨⟨f, b⟩, hf⟩ : ∃ e, l'[i] = e := ⟨_, rfl⟩
      rw [hf] at hby
      simp only at hby
      have w2 : wrapI .i64 (s + b) = s + b := wrap_in (by omega) (by omega)
      rw [List.drop_eq_getElem_cons h2, hf, List.foldl_cons] at hR
      by_cases c1 : m < s + b
      · have hsc : scanM (s, m, t) ⟨f, b⟩ = (s + b, s + b, f) := by simp [scanM, c1]
        rw [hsc] at hR
        ((try simp -implicitDefEqProofs [-loopQ_n, h, h2, hf, chC, d1, w1, w2, c1]) <;> (repeat' (first | (refine condD_dec ?_ ?_ <;> (intro hc; (try simp -implicitDefEqProofs [-loopQ_n, hc, h, h2, hf, chC, d1, w1, w2, c1]))) | (refine guardD_dec ?_ ?_ <;> (intro hc; (try simp -implicitDefEqProofs [-loopQ_n, hc, h, h2, hf, chC, d1, w1, w2, c1]))) | (refine condD_intro ?_ ?_ <;> (intro hd; have hc := hd; (try simp at hc) <;> (try simp -implicitDefEqProofs [-loopQ_n, hd, hc, h, h2, hf, chC, d1, w1, w2, c1]))) | (refine guardD_intro ?_ ?_ <;> (intro hd; have hc := hd; (try simp at hc) <;> (try simp -implicitDefEqProofs [-loopQ_n, hd, hc, h, h2, hf, chC, d1, w1, w2, c1]))) | (refine ldD_ep ?_ ?_; (focus kernel_rfl); (try simp -implicitDefEqProofs [-loopQ_n, h, h2, hf, chC, d1, w1, w2, c1])))))
        refine loop_next (i + 1, s + b, s + b, f) ⟨h, by simp only; omega, by simp only; omega, hR⟩ (by simp only; omega) (weak_of 1 0 rfl rfl ?_ ?_) <;> simp [ch_refs, w1, w2]
      · have hsc : scanM (s, m, t) ⟨f, b⟩ = (s + b, m, t) := by simp [scanM, c1]
        rw [hsc] at hR
        ((try simp -implicitDefEqProofs [-loopQ_n, h, h2, hf, chC, d1, w1, w2, c1]) <;> (repeat' (first | (refine condD_dec ?_ ?_ <;> (intro hc; (try simp -implicitDefEqProofs [-loopQ_n, hc, h, h2, hf, chC, d1, w1, w2, c1]))) | (refine guardD_dec ?_ ?_ <;> (intro hc; (try simp -implicitDefEqProofs [-loopQ_n, hc, h, h2, hf, chC, d1, w1, w2, c1]))) | (refine condD_intro ?_ ?_ <;> (intro hd; have hc := hd; (try simp at hc) <;> (try simp -implicitDefEqProofs [-loopQ_n, hd, hc, h, h2, hf, chC, d1, w1, w2, c1]))) | (refine guardD_intro ?_ ?_ <;> (intro hd; have hc := hd; (try simp at hc) <;> (try simp -implicitDefEqProofs [-loopQ_n, hd, hc, h, h2, hf, chC, d1, w1, w2, c1]))) | (refine ldD_ep ?_ ?_; (focus kernel_rfl); (try simp -implicitDefEqProofs [-loopQ_n, h, h2, hf, chC, d1, w1, w2, c1])))))
        refine loop_next (i + 1, s + b, m, t) ⟨h, by simp only; omega, by simp only; omega, hR⟩ (by simp only; omega) (weak_of 1 0 rfl rfl ?_ ?_) <;> simp [ch_refs, w1, w2]
    · rw [List.drop_eq_nil_of_le (by omega), List.foldl_nil] at hR
      simp only at hR
      subst hR
      ((try simp -implicitDefEqProofs [-loopQ_n, h, mostO]) <;> (repeat' (first | (refine condD_dec ?_ ?_ <;> (intro hc; (try simp -implicitDefEqProofs [-loopQ_n, hc, h, mostO]))) | (refine guardD_dec ?_ ?_ <;> (intro hc; (try simp -implicitDefEqProofs [-loopQ_n, hc, h, mostO]))) | (refine condD_intro ?_ ?_ <;> (intro hd; have hc := hd; (try simp at hc) <;> (try simp -implicitDefEqProofs [-loopQ_n, hd, hc, h, mostO]))) | (refine guardD_intro ?_ ?_ <;> (intro hd; have hc := hd; (try simp at hc) <;> (try simp -implicitDefEqProofs [-loopQ_n, hd, hc, h, mostO]))) | (refine ldD_ep ?_ ?_; (focus kernel_rfl); (try simp -implicitDefEqProofs [-loopQ_n, h, mostO])))))
end Go.Proofs.YtfbpjlabhckoeaaGreat
