/- Each event belongs to one component, and the other components stay what they are when one event is taken out (the law ObjectsParts holds for every input; no condition). -/
import Derived.Test.YtdkcmfafganhhaaRows
import Derived.Test.YtdkcmfafganhhaaObR
namespace Go.Proofs.Ytdkcmfafganhhaa.lawParts
set_option linter.unusedSimpArgs false
set_option linter.unusedVariables false
set_option linter.unnecessarySimpa false
set_option linter.unusedSectionVars false
open Go.ChangeShapes Go.WideShapes Go.ChangeAt Go.RowKit Go.Joins Go.Deep
section
variable [Glob]
set_option maxRecDepth 100000
theorem wS {i n : Nat} (h : i < n) (hn : n ≤ 9223372036854775807) : wrapI .i64 ((i : Int) + 1) = ((i + 1 : Nat) : Int) := by rw [wrap_in (by omega) (by omega)]; omega
theorem delOb_at (l : List Obj) (i n id : Nat) (hn : l.length = n) (hi : i < n) (h0 : n ≤ 1073741824) {H : List Blk} (hb : H[id]? = some (.row 35 false (rowsOf objC l))) {K : AV → List Blk → Prop}
    (hK : K (.rs (rowsOf objC (l.eraseIdx i))) (H.set id .gone ++ [.gone])) :
    CallG Try.prog 11 [.os id n, .int .i64 i, .int .i64 (i + 1)] H K := by
  have hid : id < H.length := (List.getElem?_eq_some_iff.1 hb).1
  have h0' : rn [id] H.length 0 = id := rfl
  refine foot_G (delOb_G l i n hn hi h0) [id] rfl (by simp) (by simpa using hid) (fun j k b hj hbb => ?_) (by simp [h0']) fun r H' _ hk => ?_
  · cases j with
    | zero => simp at hj hbb; subst hj; subst hbb; rw [hb, obj_mB]
    | succ j => simp at hj
  · obtain ⟨rfl, rfl⟩ := hk
    have e1 : mA (rn [id] H.length) (.rs (rowsOf objC (l.eraseIdx i))) = .rs (rowsOf objC (l.eraseIdx i)) := by simp [mA]
    rw [e1]
    simpa [putB, mB] using hK
/-- What is known of the components. -/
structure CK (n : Nat) (c : List (List Int)) : Prop where
  ne : ∀ a ∈ c, a ≠ []
  asc : ∀ a ∈ c, a.Pairwise (· < ·)
  nat : ∀ a ∈ c, ∀ x ∈ a, ∃ t : Nat, t < n ∧ x = (t : Int)
  one : ∀ (j j' : Nat) (a a' : List Int) (x : Int), c[j]? = some a → c[j']? = some a' → x ∈ a → x ∈ a' → j = j'
  hd : ∀ (j : Nat) (a b : List Int), c[j]? = some a → c[j + 1]? = some b → ∀ x y, a[0]? = some x → b[0]? = some y → x < y
  sum : (c.map List.length).sum = n
theorem ck_of {R : Nat → Nat → Prop} {n : Nat} {p : List Nat} (hp : isParts R n p) : CK n (compR 0 (nI p) ([], [])) := by
  have g := grp (nI p)
  have hl : (nI p).length = n := by simp [nI, hp.1]
  refine ⟨fun a ha => ?_, fun a ha => ?_, fun a ha x hx => ?_, g.one, fun j a b h1 h2 x y hx hy => ?_, by rw [g.sum, hl]⟩
  · obtain ⟨t, v, h1, h2, rfl⟩ := g.form a ha
    intro e
    have : ((t : Nat) : Int) ∈ idxP (nI p) (nI p).length v := idxP_mem.2 ⟨t, h1, h2, rfl⟩
    rw [e] at this; cases this
  · obtain ⟨t, v, h1, h2, rfl⟩ := g.form a ha
    exact idxP_asc
  · obtain ⟨t, v, h1, h2, rfl⟩ := g.form a ha
    obtain ⟨s, h3, _, rfl⟩ := idxP_mem.1 hx
    exact ⟨s, by omega, rfl⟩
  · refine g.hd j x y ?_ ?_
    · rw [List.getElem?_map, h1, Option.map_some, List.head?_eq_getElem?, hx]
    · rw [List.getElem?_map, h2, Option.map_some, List.head?_eq_getElem?, hy]
theorem int_set {l : List Int} {i : Nat} {x : Int} : (rowsOf intC l).set i [.int .i64 x] = rowsOf intC (l.set i x) := by simp [rowsOf, intC, List.map_set]
theorem int_snoc {l : List Int} {x : Int} : rowsOf intC l ++ [[.int .i64 x]] = rowsOf intC (l ++ [x]) := by simp [rowsOf, intC]
theorem li_refs {m : Nat} {c : List (List Int)} : refsR m (rowsOf liC c) = true := rowsOf_refs fun x => by simp [liC, refs]
theorem ob_refs {m : Nat} {l : List Obj} : refsR m (rowsOf objC l) = true := rowsOf_refs fun x => by simp [objC, refs]
theorem rf_refs {m : Nat} {l : List Rf} : refsR m (rowsOf refC l) = true := rowsOf_refs fun x => by simp [refC, refs]
def sumL (c : List (List Int)) (i : Nat) : Nat := ((c.take i).map List.length).sum
theorem sumL_succ {c : List (List Int)} {i : Nat} (h : i < c.length) : sumL c (i + 1) = sumL c i + c[i].length := by
  unfold sumL
  rw [List.take_succ_eq_append_getElem h, List.map_append, List.sum_append]
  simp
theorem sumL_le {c : List (List Int)} {i : Nat} : sumL c i ≤ (c.map List.length).sum := by
  unfold sumL
  have h := congrArg (fun q : List (List Int) => (q.map List.length).sum) (List.take_append_drop i c)
  simp only [List.map_append, List.sum_append] at h
  omega
theorem sumL_all {c : List (List Int)} {n i : Nat} (h : CK n c) (hi : ¬ i < c.length) : sumL c i = n := by
  unfold sumL
  rw [List.take_of_length_le (by omega)]
  exact h.sum
/-- The places of the groups before number i are marked. -/
def mkd_ (c : List (List Int)) (i : Nat) (of : List Int) : Prop := ∀ j, j < i → ∀ a, c[j]? = some a → ∀ t : Nat, (t : Int) ∈ a → of[t]? = some (j : Int)
def mkk (a : List Int) (i k : Nat) (of : List Int) : Prop := ∀ t : Nat, (t : Int) ∈ a.take k → of[t]? = some (i : Int)
set_option maxHeartbeats 32000000 in
theorem main (l : List Obj) (u : Nat) (hu : u < 256) (hl : l.length ≤ 9223372036854775807) (hdr : ∀ e ∈ l, e.refs.length ≤ 9223372036854775807) :
    Pure Try.prog 3 [.agg [.rs (rowsOf objC l)], .int .u8 u] (.bool true) := by
  have hF := few_pure _ hl hdr
  refine pure_of mixed Try.func3 rfl (by kernel_rfl) (of_decide_eq_true rfl) (by kernel_rfl) (vc_run ?_)
  by_cases g1 : fewB l = true
  rotate_left
  · have g1 : fewB l = false := by simpa using g1
    ((try simp -implicitDefEqProofs [-loopQ_n, g1]) <;> (repeat' (first | (refine condD_dec ?_ ?_ <;> (intro hc; (try simp -implicitDefEqProofs [-loopQ_n, hc, g1]))) | (refine guardD_dec ?_ ?_ <;> (intro hc; (try simp -implicitDefEqProofs [-loopQ_n, hc, g1]))) | (refine condD_intro ?_ ?_ <;> (intro hd; have hc := hd; (try simp at hc) <;> (try simp -implicitDefEqProofs [-loopQ_n, hd, hc, g1]))) | (refine guardD_intro ?_ ?_ <;> (intro hd; have hc := hd; (try simp at hc) <;> (try simp -implicitDefEqProofs [-loopQ_n, hd, hc, g1]))) | (refine ldD_ep ?_ ?_; (focus kernel_rfl); (try simp -implicitDefEqProofs [-loopQ_n, g1])) | (refine callS_mk ?_; (try simp -implicitDefEqProofs [-loopQ_n, g1]); (first | refine callS_intro (awake_pure) (.inl rfl) ?_ | refine callS_intro (hF) (.inl rfl) ?_); (try simp -implicitDefEqProofs [-loopQ_n, g1])))))
  by_cases g2 : (60 : Int) < l.length
  · ((try simp -implicitDefEqProofs [-loopQ_n, g1, g2]) <;> (repeat' (first | (refine condD_dec ?_ ?_ <;> (intro hc; (try simp -implicitDefEqProofs [-loopQ_n, hc, g1, g2]))) | (refine guardD_dec ?_ ?_ <;> (intro hc; (try simp -implicitDefEqProofs [-loopQ_n, hc, g1, g2]))) | (refine condD_intro ?_ ?_ <;> (intro hd; have hc := hd; (try simp at hc) <;> (try simp -implicitDefEqProofs [-loopQ_n, hd, hc, g1, g2]))) | (refine guardD_intro ?_ ?_ <;> (intro hd; have hc := hd; (try simp at hc) <;> (try simp -implicitDefEqProofs [-loopQ_n, hd, hc, g1, g2]))) | (refine ldD_ep ?_ ?_; (focus kernel_rfl); (try simp -implicitDefEqProofs [-loopQ_n, g1, g2])) | (refine callS_mk ?_; (try simp -implicitDefEqProofs [-loopQ_n, g1, g2]); (first | refine callS_intro (awake_pure) (.inl rfl) ?_ | refine callS_intro (hF) (.inl rfl) ?_); (try simp -implicitDefEqProofs [-loopQ_n, g1, g2])))))
  have hl60 : l.length ≤ 60 := by omega
  by_cases hV : objV l = true
  rotate_left
  · have hV : objV l = false := by simpa using hV
    ((try simp -implicitDefEqProofs [-loopQ_n, g1, g2]) <;> (repeat' (first | (refine condD_dec ?_ ?_ <;> (intro hc; (try simp -implicitDefEqProofs [-loopQ_n, hc, g1, g2]))) | (refine guardD_dec ?_ ?_ <;> (intro hc; (try simp -implicitDefEqProofs [-loopQ_n, hc, g1, g2]))) | (refine condD_intro ?_ ?_ <;> (intro hd; have hc := hd; (try simp at hc) <;> (try simp -implicitDefEqProofs [-loopQ_n, hd, hc, g1, g2]))) | (refine guardD_intro ?_ ?_ <;> (intro hd; have hc := hd; (try simp at hc) <;> (try simp -implicitDefEqProofs [-loopQ_n, hd, hc, g1, g2]))) | (refine ldD_ep ?_ ?_; (focus kernel_rfl); (try simp -implicitDefEqProofs [-loopQ_n, g1, g2])) | (refine callS_mk ?_; (try simp -implicitDefEqProofs [-loopQ_n, g1, g2]); (first | refine callS_intro (awake_pure) (.inl rfl) ?_ | refine callS_intro (hF) (.inl rfl) ?_ | refine callS_intro (comp_bad l hV) (.inr ⟨rfl, rfl⟩) ?_); (try simp -implicitDefEqProofs [-loopQ_n, g1, g2])))))
  obtain ⟨p, hp, hC⟩ := comp_pure l hV
  have ck := ck_of hp
  obtain ⟨c, hcc⟩ : ∃ c, compR 0 (nI p) ([], []) = c := ⟨_, rfl⟩
  rw [hcc] at hC ck
  have hC : Pure Try.prog 6 [.agg [.rs (rowsOf objC l)]] (.tup [.rs (rowsOf liC c), .int .i64 0]) := hC
  obtain ⟨n, hn⟩ : ∃ n, l.length = n := ⟨_, rfl⟩
  rw [hn] at hp ck hl60
  have hcl : c.length ≤ n := by
    have h1 := ck.sum
    have h2 : ∀ (q : List (List Int)), (∀ a ∈ q, a ≠ []) → q.length ≤ (q.map List.length).sum := by
      intro q
      induction q with
      | nil => intro _; simp
      | cons a q ih =>
        intro h
        have h3 := ih fun b hb => h b (by simp [hb])
        have h4 : 0 < a.length := List.length_pos_iff.2 (h a (by simp))
        simp only [List.length_cons, List.map_cons, List.sum_cons]
        omega
    have := h2 c ck.ne
    omega
  have hal : ∀ a ∈ c, a.length ≤ n := fun a ha => by
    have h1 := ck.sum
    have h2 : ∀ (q : List (List Int)), a ∈ q → a.length ≤ (q.map List.length).sum := by
      intro q
      induction q with
      | nil => intro h; cases h
      | cons b q ih =>
        intro h
        simp only [List.map_cons, List.sum_cons]
        rcases List.mem_cons.1 h with rfl | h
        · omega
        · have := ih h; omega
    have := h2 c ha
    omega
  have hn2 : (n : Int) ≤ 1073741824 := by omega
  have hn3 : n ≤ 1073741824 := by omega
  have hrep : List.replicate n [AV.int .i64 0] = rowsOf intC (List.replicate n 0) := by simp [rowsOf, intC]
  ((try simp -implicitDefEqProofs [-loopQ_n, g1, g2, hn, hn2, hn3, hrep]) <;> (repeat' (first | (refine condD_dec ?_ ?_ <;> (intro hc; (try simp -implicitDefEqProofs [-loopQ_n, hc, g1, g2, hn, hn2, hn3, hrep]))) | (refine guardD_dec ?_ ?_ <;> (intro hc; (try simp -implicitDefEqProofs [-loopQ_n, hc, g1, g2, hn, hn2, hn3, hrep]))) | (refine condD_intro ?_ ?_ <;> (intro hd; have hc := hd; (try simp at hc) <;> (try simp -implicitDefEqProofs [-loopQ_n, hd, hc, g1, g2, hn, hn2, hn3, hrep]))) | (refine guardD_intro ?_ ?_ <;> (intro hd; have hc := hd; (try simp at hc) <;> (try simp -implicitDefEqProofs [-loopQ_n, hd, hc, g1, g2, hn, hn2, hn3, hrep]))) | (refine ldD_ep ?_ ?_; (focus kernel_rfl); (try simp -implicitDefEqProofs [-loopQ_n, g1, g2, hn, hn2, hn3, hrep])) | (refine callS_mk ?_; (try simp -implicitDefEqProofs [-loopQ_n, g1, g2, hn, hn2, hn3, hrep]); (first | refine callS_intro (awake_pure) (.inl rfl) ?_ | refine callS_intro (hF) (.inl rfl) ?_ | refine callS_intro (hC) (.inr ⟨rfl, rfl⟩) ?_); (try simp -implicitDefEqProofs [-loopQ_n, g1, g2, hn, hn2, hn3, hrep])))))
  refine loop_intro (σ := Nat × List Int) (fun q => ⟨[(1, .int .u8 u), (2, .op 0 0), (5, .rs (rowsOf liC c)), (7, .os 1 n), (8, .int .i64 (sumL c q.1 : Nat)), (51, .rs (rowsOf liC c)), (52, .int .i64 c.length), (53, .int .i64 q.1)], [.box 24 [.rs (rowsOf objC l)], .row 3 false (rowsOf intC q.2)]⟩)
    (fun q => q.1 ≤ c.length ∧ q.2.length = n ∧ mkd_ c q.1 q.2) (fun q => c.length - q.1) (0, List.replicate n 0) ⟨by simp, by simp, fun j hj => absurd hj (Nat.not_lt_zero _)⟩ ?_ ?_
  · refine weak_of 2 0 rfl rfl ?_ ?_ <;> simp [li_refs, ob_refs, intR_refs, sumL]
  rintro ⟨i, of⟩ ⟨hi, hof, hmk⟩
  simp only at hi hof hmk
  by_cases h : i < c.length
  · have w1 := wS h (by omega)
    have hmem := List.getElem_mem h
    obtain ⟨a, ha⟩ : ∃ a, c[i] = a := ⟨_, rfl⟩
    have hcg : c[i]? = some a := by rw [List.getElem?_eq_getElem h, ha]
    have hsu := sumL_succ h
    rw [ha] at hsu hmem
    have hS := isSorted_pure a (ck.asc a hmem) (by have := hal a hmem; omega)
    have hne := ck.ne a hmem
    have hpos : 0 < a.length := List.length_pos_iff.2 hne
    have hlen0 : ¬ a.length = 0 := by omega
    have hlen1 : ¬ (a.length : Int) = 0 := by omega
    have ha1000 := hal a hmem
    obtain ⟨S, hSS⟩ : ∃ S, sumL c i = S := ⟨_, rfl⟩
    have hSb : S + a.length ≤ n := by
      have h3 := sumL_le (c := c) (i := i + 1)
      rw [ck.sum] at h3
      omega
    by_cases i0 : i = 0
    · subst i0
      ((try simp -implicitDefEqProofs [-loopQ_n, h, ha, hn, liC, hlen0, hlen1, hne]) <;> (repeat' (first | (refine condD_dec ?_ ?_ <;> (intro hc; (try simp -implicitDefEqProofs [-loopQ_n, hc, h, ha, hn, liC, hlen0, hlen1, hne]))) | (refine guardD_dec ?_ ?_ <;> (intro hc; (try simp -implicitDefEqProofs [-loopQ_n, hc, h, ha, hn, liC, hlen0, hlen1, hne]))) | (refine condD_intro ?_ ?_ <;> (intro hd; have hc := hd; (try simp at hc) <;> (try simp -implicitDefEqProofs [-loopQ_n, hd, hc, h, ha, hn, liC, hlen0, hlen1, hne]))) | (refine guardD_intro ?_ ?_ <;> (intro hd; have hc := hd; (try simp at hc) <;> (try simp -implicitDefEqProofs [-loopQ_n, hd, hc, h, ha, hn, liC, hlen0, hlen1, hne]))) | (refine ldD_ep ?_ ?_; (focus kernel_rfl); (try simp -implicitDefEqProofs [-loopQ_n, h, ha, hn, liC, hlen0, hlen1, hne])) | (refine callS_mk ?_; (try simp -implicitDefEqProofs [-loopQ_n, h, ha, hn, liC, hlen0, hlen1, hne]); (first | refine callS_intro (hS) (.inl rfl) ?_); (try simp -implicitDefEqProofs [-loopQ_n, h, ha, hn, liC, hlen0, hlen1, hne])))))
      refine loop_intro (σ := Nat × List Int) (fun q => ⟨[(1, .int .u8 u), (2, .op 0 0), (5, .rs (rowsOf liC c)), (7, .os 1 n), (8, .int .i64 (S + q.1 : Nat)), (9, .int .i64 (0 : Nat)), (10, .rs (rowsOf intC a)), (51, .rs (rowsOf liC c)), (52, .int .i64 c.length), (53, .int .i64 (0 : Nat)), (83, .rs (rowsOf intC a)), (84, .int .i64 a.length), (85, .int .i64 q.1)], [.box 24 [.rs (rowsOf objC l)], .row 3 false (rowsOf intC q.2)]⟩)
        (fun q => q.1 ≤ a.length ∧ q.2.length = n ∧ mkd_ c 0 q.2 ∧ mkk a 0 q.1 q.2) (fun q => a.length - q.1) (0, of) ⟨by simp, hof, hmk, fun t ht => by simp at ht⟩ ?_ ?_
      · refine weak_of 2 0 rfl rfl ?_ ?_ <;> simp [li_refs, ob_refs, intR_refs, hSS]
      clear hof hmk
      rintro ⟨k, of⟩ ⟨hk, hof, hmk, hkk⟩
      simp only at hk hof hmk hkk
      by_cases g : k < a.length
      · have w2 := wS g (by omega)
        have w3 : wrapI .i64 (((S + k : Nat) : Int) + 1) = ((S + k + 1 : Nat) : Int) := by rw [wrap_in (by omega) (by omega)]; omega
        have w3' : wrapI .i64 ((S : Int) + (k : Int) + 1) = ((S + k + 1 : Nat) : Int) := by rw [wrap_in (by omega) (by omega)]; omega
        obtain ⟨t, ht, hx⟩ := ck.nat a hmem a[k] (List.getElem_mem g)
        have w5 : wrapI .i64 ((S : Int) + 1) = (S : Int) + 1 := wrap_in (by omega) (by omega)
        have w6 : wrapI .i64 1 = 1 := wrap_in (by omega) (by omega)
        have ht0 : ¬ (t : Int) < 0 := by omega
        have ht1 : ¬ n ≤ t := by omega
        have ht2 : t < of.length := by omega
        have hmk' : mkd_ c 0 (of.set t ((0 : Nat) : Int)) := fun j hj b hb s hs => by
          rw [List.getElem?_set]
          split
          · rename_i e
            subst e
            have := ck.one j 0 b a _ hb hcg hs (by rw [← hx]; exact List.getElem_mem g)
            omega
          · exact hmk j hj b hb s hs
        have hkk' : mkk a 0 (k + 1) (of.set t ((0 : Nat) : Int)) := fun s hs => by
          rw [List.take_succ_eq_append_getElem g, hx] at hs
          rw [List.getElem?_set]
          split
          · rename_i e; subst e; first | rfl | (rw [if_pos ht2])
          · rename_i e
            rcases List.mem_append.1 hs with hs | hs
            · exact hkk s hs
            · simp at hs; omega
        by_cases k0 : k = 0
        · subst k0
          ((try simp -implicitDefEqProofs [-loopQ_n, g, hx, ht, ht0, ht1, ht2, hn, hof, intC, int_set, w2, w3, w3']) <;> (repeat' (first | (refine condD_dec ?_ ?_ <;> (intro hc; (try simp -implicitDefEqProofs [-loopQ_n, hc, g, hx, ht, ht0, ht1, ht2, hn, hof, intC, int_set, w2, w3, w3']))) | (refine guardD_dec ?_ ?_ <;> (intro hc; (try simp -implicitDefEqProofs [-loopQ_n, hc, g, hx, ht, ht0, ht1, ht2, hn, hof, intC, int_set, w2, w3, w3']))) | (refine condD_intro ?_ ?_ <;> (intro hd; have hc := hd; (try simp at hc) <;> (try simp -implicitDefEqProofs [-loopQ_n, hd, hc, g, hx, ht, ht0, ht1, ht2, hn, hof, intC, int_set, w2, w3, w3']))) | (refine guardD_intro ?_ ?_ <;> (intro hd; have hc := hd; (try simp at hc) <;> (try simp -implicitDefEqProofs [-loopQ_n, hd, hc, g, hx, ht, ht0, ht1, ht2, hn, hof, intC, int_set, w2, w3, w3']))) | (refine ldD_ep ?_ ?_; (focus kernel_rfl); (try simp -implicitDefEqProofs [-loopQ_n, g, hx, ht, ht0, ht1, ht2, hn, hof, intC, int_set, w2, w3, w3'])))))
          refine loop_next (0 + 1, of.set t ((0 : Nat) : Int)) ⟨g, by simpa using hof, hmk', hkk'⟩ (by simp only; omega) (weak_of 2 0 rfl rfl ?_ ?_) <;> simp [li_refs, ob_refs, intR_refs, w2, w3, w3', w5, w6] <;> omega
        · obtain ⟨k1, hk1⟩ : ∃ k1, k1 + 1 = k := ⟨k - 1, by omega⟩
          have hk1l : k1 < a.length := by omega
          have hkp : 0 < k := by omega
          have w4 : wrapI .i64 ((k : Int) - 1) = (k1 : Int) := by rw [wrap_in (by omega) (by omega)]; omega
          obtain ⟨x1, hx1⟩ : ∃ x1, a[k1] = x1 := ⟨_, rfl⟩
          have hne1 : ¬ x1 = (t : Int) := by
            have h1 := List.pairwise_iff_getElem.1 (ck.asc a hmem) k1 k hk1l g (by omega)
            rw [hx1, hx] at h1
            omega
          ((try simp -implicitDefEqProofs [-loopQ_n, g, hx, ht, ht0, ht1, ht2, hn, hof, intC, int_set, w2, w3, w3', hk1l, hkp, w4, hx1, hne1]) <;> (repeat' (first | (refine condD_dec ?_ ?_ <;> (intro hc; (try simp -implicitDefEqProofs [-loopQ_n, hc, g, hx, ht, ht0, ht1, ht2, hn, hof, intC, int_set, w2, w3, w3', hk1l, hkp, w4, hx1, hne1]))) | (refine guardD_dec ?_ ?_ <;> (intro hc; (try simp -implicitDefEqProofs [-loopQ_n, hc, g, hx, ht, ht0, ht1, ht2, hn, hof, intC, int_set, w2, w3, w3', hk1l, hkp, w4, hx1, hne1]))) | (refine condD_intro ?_ ?_ <;> (intro hd; have hc := hd; (try simp at hc) <;> (try simp -implicitDefEqProofs [-loopQ_n, hd, hc, g, hx, ht, ht0, ht1, ht2, hn, hof, intC, int_set, w2, w3, w3', hk1l, hkp, w4, hx1, hne1]))) | (refine guardD_intro ?_ ?_ <;> (intro hd; have hc := hd; (try simp at hc) <;> (try simp -implicitDefEqProofs [-loopQ_n, hd, hc, g, hx, ht, ht0, ht1, ht2, hn, hof, intC, int_set, w2, w3, w3', hk1l, hkp, w4, hx1, hne1]))) | (refine ldD_ep ?_ ?_; (focus kernel_rfl); (try simp -implicitDefEqProofs [-loopQ_n, g, hx, ht, ht0, ht1, ht2, hn, hof, intC, int_set, w2, w3, w3', hk1l, hkp, w4, hx1, hne1])))))
          refine loop_next (k + 1, of.set t ((0 : Nat) : Int)) ⟨g, by simpa using hof, hmk', hkk'⟩ (by simp only; omega) (weak_of 2 0 rfl rfl ?_ ?_) <;> simp [li_refs, ob_refs, intR_refs, w2, w3, w3', w5, w6] <;> omega
      · have hke : k = a.length := by omega
        have hmk2 : mkd_ c (0 + 1) of := fun j hj b hb s hs => by
          by_cases e : j = 0
          · subst e
            rw [hcg] at hb
            have := Option.some.inj hb
            subst this
            exact hkk s (by rw [List.take_of_length_le (by omega)]; exact hs)
          · exact hmk j (by omega) b hb s hs
        ((try simp -implicitDefEqProofs [-loopQ_n, g, w1]) <;> (repeat' (first | (refine condD_dec ?_ ?_ <;> (intro hc; (try simp -implicitDefEqProofs [-loopQ_n, hc, g, w1]))) | (refine guardD_dec ?_ ?_ <;> (intro hc; (try simp -implicitDefEqProofs [-loopQ_n, hc, g, w1]))) | (refine condD_intro ?_ ?_ <;> (intro hd; have hc := hd; (try simp at hc) <;> (try simp -implicitDefEqProofs [-loopQ_n, hd, hc, g, w1]))) | (refine guardD_intro ?_ ?_ <;> (intro hd; have hc := hd; (try simp at hc) <;> (try simp -implicitDefEqProofs [-loopQ_n, hd, hc, g, w1]))) | (refine ldD_ep ?_ ?_; (focus kernel_rfl); (try simp -implicitDefEqProofs [-loopQ_n, g, w1])))))
        refine loop_next (0 + 1, of) ⟨h, hof, hmk2⟩ (by simp only; omega) (weak_of 2 0 rfl rfl ?_ ?_) <;> simp [li_refs, ob_refs, intR_refs, w1, hsu, hSS, hke, show wrapI .i64 1 = 1 from wrap_in (by omega) (by omega)]
    · obtain ⟨m, hm⟩ : ∃ m, m + 1 = i := ⟨i - 1, by omega⟩
      have hml : m < c.length := by omega
      have hip : 0 < i := by omega
      have wm : wrapI .i64 ((i : Int) - 1) = (m : Int) := by rw [wrap_in (by omega) (by omega)]; omega
      obtain ⟨b, hb⟩ : ∃ b, c[m] = b := ⟨_, rfl⟩
      have hbg : c[m]? = some b := by rw [List.getElem?_eq_getElem hml, hb]
      have hb0 : 0 < b.length := List.length_pos_iff.2 (ck.ne b (List.mem_of_getElem? hbg))
      obtain ⟨y, hy⟩ : ∃ y, b[0] = y := ⟨_, rfl⟩
      obtain ⟨x, hx⟩ : ∃ x, a[0] = x := ⟨_, rfl⟩
      have hyx := ck.hd m b a hbg (by rw [hm]; exact hcg) y x (by rw [List.getElem?_eq_getElem hb0, hy]) (by rw [List.getElem?_eq_getElem hpos, hx])
      have hyx' : ¬ x ≤ y := by omega
      ((try simp -implicitDefEqProofs [-loopQ_n, h, ha, hn, liC, intC, hlen0, hlen1, hne, hml, hip, wm, hb, hb0, hpos, hy, hx, hyx']) <;> (repeat' (first | (refine condD_dec ?_ ?_ <;> (intro hc; (try simp -implicitDefEqProofs [-loopQ_n, hc, h, ha, hn, liC, intC, hlen0, hlen1, hne, hml, hip, wm, hb, hb0, hpos, hy, hx, hyx']))) | (refine guardD_dec ?_ ?_ <;> (intro hc; (try simp -implicitDefEqProofs [-loopQ_n, hc, h, ha, hn, liC, intC, hlen0, hlen1, hne, hml, hip, wm, hb, hb0, hpos, hy, hx, hyx']))) | (refine condD_intro ?_ ?_ <;> (intro hd; have hc := hd; (try simp at hc) <;> (try simp -implicitDefEqProofs [-loopQ_n, hd, hc, h, ha, hn, liC, intC, hlen0, hlen1, hne, hml, hip, wm, hb, hb0, hpos, hy, hx, hyx']))) | (refine guardD_intro ?_ ?_ <;> (intro hd; have hc := hd; (try simp at hc) <;> (try simp -implicitDefEqProofs [-loopQ_n, hd, hc, h, ha, hn, liC, intC, hlen0, hlen1, hne, hml, hip, wm, hb, hb0, hpos, hy, hx, hyx']))) | (refine ldD_ep ?_ ?_; (focus kernel_rfl); (try simp -implicitDefEqProofs [-loopQ_n, h, ha, hn, liC, intC, hlen0, hlen1, hne, hml, hip, wm, hb, hb0, hpos, hy, hx, hyx'])) | (refine callS_mk ?_; (try simp -implicitDefEqProofs [-loopQ_n, h, ha, hn, liC, intC, hlen0, hlen1, hne, hml, hip, wm, hb, hb0, hpos, hy, hx, hyx']); (first | refine callS_intro (hS) (.inl rfl) ?_); (try simp -implicitDefEqProofs [-loopQ_n, h, ha, hn, liC, intC, hlen0, hlen1, hne, hml, hip, wm, hb, hb0, hpos, hy, hx, hyx'])))))
      clear hx
      refine loop_intro (σ := Nat × List Int) (fun q => ⟨[(1, .int .u8 u), (2, .op 0 0), (5, .rs (rowsOf liC c)), (7, .os 1 n), (8, .int .i64 (S + q.1 : Nat)), (9, .int .i64 i), (10, .rs (rowsOf intC a)), (51, .rs (rowsOf liC c)), (52, .int .i64 c.length), (53, .int .i64 i), (83, .rs (rowsOf intC a)), (84, .int .i64 a.length), (85, .int .i64 q.1)], [.box 24 [.rs (rowsOf objC l)], .row 3 false (rowsOf intC q.2)]⟩)
        (fun q => q.1 ≤ a.length ∧ q.2.length = n ∧ mkd_ c i q.2 ∧ mkk a i q.1 q.2) (fun q => a.length - q.1) (0, of) ⟨by simp, hof, hmk, fun t ht => by simp at ht⟩ ?_ ?_
      · refine weak_of 2 0 rfl rfl ?_ ?_ <;> simp [li_refs, ob_refs, intR_refs, hSS]
      clear hof hmk
      rintro ⟨k, of⟩ ⟨hk, hof, hmk, hkk⟩
      simp only at hk hof hmk hkk
      by_cases g : k < a.length
      · have w2 := wS g (by omega)
        have w3 : wrapI .i64 (((S + k : Nat) : Int) + 1) = ((S + k + 1 : Nat) : Int) := by rw [wrap_in (by omega) (by omega)]; omega
        have w3' : wrapI .i64 ((S : Int) + (k : Int) + 1) = ((S + k + 1 : Nat) : Int) := by rw [wrap_in (by omega) (by omega)]; omega
        obtain ⟨t, ht, hx⟩ := ck.nat a hmem a[k] (List.getElem_mem g)
        have w5 : wrapI .i64 ((S : Int) + 1) = (S : Int) + 1 := wrap_in (by omega) (by omega)
        have w6 : wrapI .i64 1 = 1 := wrap_in (by omega) (by omega)
        have ht0 : ¬ (t : Int) < 0 := by omega
        have ht1 : ¬ n ≤ t := by omega
        have ht2 : t < of.length := by omega
        have hmk' : mkd_ c i (of.set t (i : Int)) := fun j hj b hb s hs => by
          rw [List.getElem?_set]
          split
          · rename_i e
            subst e
            have := ck.one j i b a _ hb hcg hs (by rw [← hx]; exact List.getElem_mem g)
            omega
          · exact hmk j hj b hb s hs
        have hkk' : mkk a i (k + 1) (of.set t (i : Int)) := fun s hs => by
          rw [List.take_succ_eq_append_getElem g, hx] at hs
          rw [List.getElem?_set]
          split
          · rename_i e; subst e; first | rfl | (rw [if_pos ht2])
          · rename_i e
            rcases List.mem_append.1 hs with hs | hs
            · exact hkk s hs
            · simp at hs; omega
        by_cases k0 : k = 0
        · subst k0
          ((try simp -implicitDefEqProofs [-loopQ_n, g, hx, ht, ht0, ht1, ht2, hn, hof, intC, int_set, w2, w3, w3']) <;> (repeat' (first | (refine condD_dec ?_ ?_ <;> (intro hc; (try simp -implicitDefEqProofs [-loopQ_n, hc, g, hx, ht, ht0, ht1, ht2, hn, hof, intC, int_set, w2, w3, w3']))) | (refine guardD_dec ?_ ?_ <;> (intro hc; (try simp -implicitDefEqProofs [-loopQ_n, hc, g, hx, ht, ht0, ht1, ht2, hn, hof, intC, int_set, w2, w3, w3']))) | (refine condD_intro ?_ ?_ <;> (intro hd; have hc := hd; (try simp at hc) <;> (try simp -implicitDefEqProofs [-loopQ_n, hd, hc, g, hx, ht, ht0, ht1, ht2, hn, hof, intC, int_set, w2, w3, w3']))) | (refine guardD_intro ?_ ?_ <;> (intro hd; have hc := hd; (try simp at hc) <;> (try simp -implicitDefEqProofs [-loopQ_n, hd, hc, g, hx, ht, ht0, ht1, ht2, hn, hof, intC, int_set, w2, w3, w3']))) | (refine ldD_ep ?_ ?_; (focus kernel_rfl); (try simp -implicitDefEqProofs [-loopQ_n, g, hx, ht, ht0, ht1, ht2, hn, hof, intC, int_set, w2, w3, w3'])))))
          refine loop_next (0 + 1, of.set t (i : Int)) ⟨g, by simpa using hof, hmk', hkk'⟩ (by simp only; omega) (weak_of 2 0 rfl rfl ?_ ?_) <;> simp [li_refs, ob_refs, intR_refs, w2, w3, w3', w5, w6] <;> omega
        · obtain ⟨k1, hk1⟩ : ∃ k1, k1 + 1 = k := ⟨k - 1, by omega⟩
          have hk1l : k1 < a.length := by omega
          have hkp : 0 < k := by omega
          have w4 : wrapI .i64 ((k : Int) - 1) = (k1 : Int) := by rw [wrap_in (by omega) (by omega)]; omega
          obtain ⟨x1, hx1⟩ : ∃ x1, a[k1] = x1 := ⟨_, rfl⟩
          have hne1 : ¬ x1 = (t : Int) := by
            have h1 := List.pairwise_iff_getElem.1 (ck.asc a hmem) k1 k hk1l g (by omega)
            rw [hx1, hx] at h1
            omega
          ((try simp -implicitDefEqProofs [-loopQ_n, g, hx, ht, ht0, ht1, ht2, hn, hof, intC, int_set, w2, w3, w3', hk1l, hkp, w4, hx1, hne1]) <;> (repeat' (first | (refine condD_dec ?_ ?_ <;> (intro hc; (try simp -implicitDefEqProofs [-loopQ_n, hc, g, hx, ht, ht0, ht1, ht2, hn, hof, intC, int_set, w2, w3, w3', hk1l, hkp, w4, hx1, hne1]))) | (refine guardD_dec ?_ ?_ <;> (intro hc; (try simp -implicitDefEqProofs [-loopQ_n, hc, g, hx, ht, ht0, ht1, ht2, hn, hof, intC, int_set, w2, w3, w3', hk1l, hkp, w4, hx1, hne1]))) | (refine condD_intro ?_ ?_ <;> (intro hd; have hc := hd; (try simp at hc) <;> (try simp -implicitDefEqProofs [-loopQ_n, hd, hc, g, hx, ht, ht0, ht1, ht2, hn, hof, intC, int_set, w2, w3, w3', hk1l, hkp, w4, hx1, hne1]))) | (refine guardD_intro ?_ ?_ <;> (intro hd; have hc := hd; (try simp at hc) <;> (try simp -implicitDefEqProofs [-loopQ_n, hd, hc, g, hx, ht, ht0, ht1, ht2, hn, hof, intC, int_set, w2, w3, w3', hk1l, hkp, w4, hx1, hne1]))) | (refine ldD_ep ?_ ?_; (focus kernel_rfl); (try simp -implicitDefEqProofs [-loopQ_n, g, hx, ht, ht0, ht1, ht2, hn, hof, intC, int_set, w2, w3, w3', hk1l, hkp, w4, hx1, hne1])))))
          refine loop_next (k + 1, of.set t (i : Int)) ⟨g, by simpa using hof, hmk', hkk'⟩ (by simp only; omega) (weak_of 2 0 rfl rfl ?_ ?_) <;> simp [li_refs, ob_refs, intR_refs, w2, w3, w3', w5, w6] <;> omega
      · have hke : k = a.length := by omega
        have hmk2 : mkd_ c (i + 1) of := fun j hj b hb s hs => by
          by_cases e : j = i
          · subst e
            rw [hcg] at hb
            have := Option.some.inj hb
            subst this
            exact hkk s (by rw [List.take_of_length_le (by omega)]; exact hs)
          · exact hmk j (by omega) b hb s hs
        ((try simp -implicitDefEqProofs [-loopQ_n, g, w1]) <;> (repeat' (first | (refine condD_dec ?_ ?_ <;> (intro hc; (try simp -implicitDefEqProofs [-loopQ_n, hc, g, w1]))) | (refine guardD_dec ?_ ?_ <;> (intro hc; (try simp -implicitDefEqProofs [-loopQ_n, hc, g, w1]))) | (refine condD_intro ?_ ?_ <;> (intro hd; have hc := hd; (try simp at hc) <;> (try simp -implicitDefEqProofs [-loopQ_n, hd, hc, g, w1]))) | (refine guardD_intro ?_ ?_ <;> (intro hd; have hc := hd; (try simp at hc) <;> (try simp -implicitDefEqProofs [-loopQ_n, hd, hc, g, w1]))) | (refine ldD_ep ?_ ?_; (focus kernel_rfl); (try simp -implicitDefEqProofs [-loopQ_n, g, w1])))))
        refine loop_next (i + 1, of) ⟨h, hof, hmk2⟩ (by simp only; omega) (weak_of 2 0 rfl rfl ?_ ?_) <;> simp [li_refs, ob_refs, intR_refs, w1, hsu, hSS, hke, show wrapI .i64 1 = 1 from wrap_in (by omega) (by omega)]
  have hsn := sumL_all ck h
  rw [show i = c.length by omega] at hmk
  have hmkA : ∀ (j : Nat) (a : List Int), c[j]? = some a → ∀ t : Nat, (t : Int) ∈ a → of[t]? = some (j : Int) := fun j a hj t ht => hmk j (List.getElem?_eq_some_iff.1 hj).1 a hj t ht
  ((try simp -implicitDefEqProofs [-loopQ_n, h, hsn, hn, hof]) <;> (repeat' (first | (refine condD_dec ?_ ?_ <;> (intro hc; (try simp -implicitDefEqProofs [-loopQ_n, hc, h, hsn, hn, hof]))) | (refine guardD_dec ?_ ?_ <;> (intro hc; (try simp -implicitDefEqProofs [-loopQ_n, hc, h, hsn, hn, hof]))) | (refine condD_intro ?_ ?_ <;> (intro hd; have hc := hd; (try simp at hc) <;> (try simp -implicitDefEqProofs [-loopQ_n, hd, hc, h, hsn, hn, hof]))) | (refine guardD_intro ?_ ?_ <;> (intro hd; have hc := hd; (try simp at hc) <;> (try simp -implicitDefEqProofs [-loopQ_n, hd, hc, h, hsn, hn, hof]))) | (refine ldD_ep ?_ ?_; (focus kernel_rfl); (try simp -implicitDefEqProofs [-loopQ_n, h, hsn, hn, hof])))))
  clear hi h hmk hsn
  subst hn
  have hshare : ∀ (i j : Nat) (x y : Int), of[i]? = some x → of[j]? = some y → x ≠ y → ¬ shareR l i j := fun i j x y hx hy hne hs => by
    have hil : i < l.length := by rw [← hof]; exact (List.getElem?_eq_some_iff.1 hx).1
    have hjl : j < l.length := by rw [← hof]; exact (List.getElem?_eq_some_iff.1 hy).1
    have hpe := (parts_conn (shareR_symm l) hp hil hjl).2 (.one hs)
    have g := grp (nI p)
    have hli : (nI p).length = l.length := by simp [nI, hp.1]
    have hvi : (nI p)[i]? = some (par p i : Int) := nI_get.2 ⟨by rw [hp.1]; exact hil, rfl⟩
    have hvj : (nI p)[j]? = some (par p i : Int) := nI_get.2 ⟨by rw [hp.1]; exact hjl, by rw [hpe]⟩
    have hm := g.idx i _ hvi
    rw [hcc, hli] at hm
    obtain ⟨q, hq⟩ := List.getElem?_of_mem hm
    have h1 := hmkA q _ hq i (idxP_mem.2 ⟨i, hil, hvi, rfl⟩)
    have h2 := hmkA q _ hq j (idxP_mem.2 ⟨j, hjl, hvj, rfl⟩)
    rw [hx] at h1
    rw [hy] at h2
    exact hne ((Option.some.inj h1).trans (Option.some.inj h2).symm)
  refine loop_intro (σ := Nat) (fun i => ⟨[(1, .int .u8 u), (2, .op 0 0), (5, .rs (rowsOf liC c)), (7, .os 1 l.length), (124, .rs (rowsOf objC l)), (125, .int .i64 l.length), (126, .int .i64 i)], [.box 24 [.rs (rowsOf objC l)], .row 3 false (rowsOf intC of)]⟩)
    (fun i => i ≤ l.length) (fun i => l.length - i) 0 (by simp) ?_ ?_
  · refine weak_of 2 0 rfl rfl ?_ ?_ <;> simp [li_refs, ob_refs, intR_refs]
  rintro i hi
  by_cases h : i < l.length
  · have w1 := wS h (by omega)
    have hofi : i < of.length := by omega
    have hr1 := hdr _ (List.getElem_mem h)
    obtain ⟨⟨ac, tm, rf⟩, hf⟩ : ∃ e, l[i] = e := ⟨_, rfl⟩
    obtain ⟨x, hx⟩ : ∃ x, of[i] = x := ⟨_, rfl⟩
    rw [hf] at hr1
    simp only at hr1
    ((try simp -implicitDefEqProofs [-loopQ_n, h, hf, objC]) <;> (repeat' (first | (refine condD_dec ?_ ?_ <;> (intro hc; (try simp -implicitDefEqProofs [-loopQ_n, hc, h, hf, objC]))) | (refine guardD_dec ?_ ?_ <;> (intro hc; (try simp -implicitDefEqProofs [-loopQ_n, hc, h, hf, objC]))) | (refine condD_intro ?_ ?_ <;> (intro hd; have hc := hd; (try simp at hc) <;> (try simp -implicitDefEqProofs [-loopQ_n, hd, hc, h, hf, objC]))) | (refine guardD_intro ?_ ?_ <;> (intro hd; have hc := hd; (try simp at hc) <;> (try simp -implicitDefEqProofs [-loopQ_n, hd, hc, h, hf, objC]))) | (refine ldD_ep ?_ ?_; (focus kernel_rfl); (try simp -implicitDefEqProofs [-loopQ_n, h, hf, objC])))))
    refine loop_intro (σ := Nat) (fun j => ⟨[(1, .int .u8 u), (2, .op 0 0), (5, .rs (rowsOf liC c)), (7, .os 1 l.length), (13, .int .i64 i), (14, .op 2 0), (124, .rs (rowsOf objC l)), (125, .int .i64 l.length), (126, .int .i64 i), (132, .rs (rowsOf objC l)), (133, .int .i64 l.length), (134, .int .i64 j)], [.box 24 [.rs (rowsOf objC l)], .row 3 false (rowsOf intC of), .box 35 [.str ac, .int .i64 tm, .rs (rowsOf refC rf)]]⟩)
      (fun j => j ≤ l.length) (fun j => l.length - j) 0 (by simp) ?_ ?_
    · refine weak_of 3 0 rfl rfl ?_ ?_ <;> simp [li_refs, ob_refs, intR_refs, rf_refs]
    rintro j hj
    by_cases g : j < l.length
    · have w2 := wS g (by omega)
      have hofj : j < of.length := by omega
      have hr2 := hdr _ (List.getElem_mem g)
      obtain ⟨⟨ac2, tm2, rf2⟩, hf2⟩ : ∃ e, l[j] = e := ⟨_, rfl⟩
      obtain ⟨y, hy⟩ : ∃ y, of[j] = y := ⟨_, rfl⟩
      rw [hf2] at hr2
      simp only at hr2
      by_cases e : x = y
      · subst e
        ((try simp -implicitDefEqProofs [-loopQ_n, g, hf2, objC, hof, hofi, hofj, hx, hy, intC, h, w2]) <;> (repeat' (first | (refine condD_dec ?_ ?_ <;> (intro hc; (try simp -implicitDefEqProofs [-loopQ_n, hc, g, hf2, objC, hof, hofi, hofj, hx, hy, intC, h, w2]))) | (refine guardD_dec ?_ ?_ <;> (intro hc; (try simp -implicitDefEqProofs [-loopQ_n, hc, g, hf2, objC, hof, hofi, hofj, hx, hy, intC, h, w2]))) | (refine condD_intro ?_ ?_ <;> (intro hd; have hc := hd; (try simp at hc) <;> (try simp -implicitDefEqProofs [-loopQ_n, hd, hc, g, hf2, objC, hof, hofi, hofj, hx, hy, intC, h, w2]))) | (refine guardD_intro ?_ ?_ <;> (intro hd; have hc := hd; (try simp at hc) <;> (try simp -implicitDefEqProofs [-loopQ_n, hd, hc, g, hf2, objC, hof, hofi, hofj, hx, hy, intC, h, w2]))) | (refine ldD_ep ?_ ?_; (focus kernel_rfl); (try simp -implicitDefEqProofs [-loopQ_n, g, hf2, objC, hof, hofi, hofj, hx, hy, intC, h, w2])))))
        refine loop_next (j + 1) g (by omega) (weak_of 3 0 rfl rfl ?_ ?_) <;> simp [li_refs, ob_refs, intR_refs, rf_refs, w2]
      · have hns := hshare i j x y (by rw [List.getElem?_eq_getElem hofi, hx]) (by rw [List.getElem?_eq_getElem hofj, hy]) e
        have hany : (rf.any fun r => rf2.any (eqR r)) = false := by
          rw [List.any_eq_false]
          intro r hr q
          obtain ⟨r', hr', hq⟩ := List.any_eq_true.1 q
          have := eqR_iff.1 hq
          subst this
          exact hns ⟨_, _, by rw [List.getElem?_eq_getElem h, hf], by rw [List.getElem?_eq_getElem g, hf2], r, hr, hr'⟩
        have hA := cfRef_any (p := fun r => rf2.any (eqR r)) (l := rf) (g := 9) (caps := [.rp [.str ac2, .int .i64 tm2, .rs (rowsOf refC rf2)]]) (fun x _ => par1_pure x ac2 tm2 rf2 hr2) (fun H k => by simp) (by simp [refsL, refs]) hr1
        rw [hany] at hA
        ((try simp -implicitDefEqProofs [-loopQ_n, g, hf2, objC, hof, hofi, hofj, hx, hy, intC, h, w2, e]) <;> (repeat' (first | (refine condD_dec ?_ ?_ <;> (intro hc; (try simp -implicitDefEqProofs [-loopQ_n, hc, g, hf2, objC, hof, hofi, hofj, hx, hy, intC, h, w2, e]))) | (refine guardD_dec ?_ ?_ <;> (intro hc; (try simp -implicitDefEqProofs [-loopQ_n, hc, g, hf2, objC, hof, hofi, hofj, hx, hy, intC, h, w2, e]))) | (refine condD_intro ?_ ?_ <;> (intro hd; have hc := hd; (try simp at hc) <;> (try simp -implicitDefEqProofs [-loopQ_n, hd, hc, g, hf2, objC, hof, hofi, hofj, hx, hy, intC, h, w2, e]))) | (refine guardD_intro ?_ ?_ <;> (intro hd; have hc := hd; (try simp at hc) <;> (try simp -implicitDefEqProofs [-loopQ_n, hd, hc, g, hf2, objC, hof, hofi, hofj, hx, hy, intC, h, w2, e]))) | (refine ldD_ep ?_ ?_; (focus kernel_rfl); (try simp -implicitDefEqProofs [-loopQ_n, g, hf2, objC, hof, hofi, hofj, hx, hy, intC, h, w2, e])) | (refine callS_mk ?_; (try simp -implicitDefEqProofs [-loopQ_n, g, hf2, objC, hof, hofi, hofj, hx, hy, intC, h, w2, e]); (first | refine callS_intro (hA) (.inl rfl) ?_); (try simp -implicitDefEqProofs [-loopQ_n, g, hf2, objC, hof, hofi, hofj, hx, hy, intC, h, w2, e])))))
        refine loop_next (j + 1) g (by omega) (weak_of 3 0 rfl rfl ?_ ?_) <;> simp [li_refs, ob_refs, intR_refs, rf_refs, w2]
    · ((try simp -implicitDefEqProofs [-loopQ_n, g, w1]) <;> (repeat' (first | (refine condD_dec ?_ ?_ <;> (intro hc; (try simp -implicitDefEqProofs [-loopQ_n, hc, g, w1]))) | (refine guardD_dec ?_ ?_ <;> (intro hc; (try simp -implicitDefEqProofs [-loopQ_n, hc, g, w1]))) | (refine condD_intro ?_ ?_ <;> (intro hd; have hc := hd; (try simp at hc) <;> (try simp -implicitDefEqProofs [-loopQ_n, hd, hc, g, w1]))) | (refine guardD_intro ?_ ?_ <;> (intro hd; have hc := hd; (try simp at hc) <;> (try simp -implicitDefEqProofs [-loopQ_n, hd, hc, g, w1]))) | (refine ldD_ep ?_ ?_; (focus kernel_rfl); (try simp -implicitDefEqProofs [-loopQ_n, g, w1])))))
      refine loop_next (i + 1) h (by omega) (weak_of 2 0 rfl rfl ?_ ?_) <;> simp [li_refs, ob_refs, intR_refs, w1]
  by_cases h0 : l.length = 0
  · obtain rfl : i = 0 := by omega
    ((try simp -implicitDefEqProofs [-loopQ_n, h, h0, hof]) <;> (repeat' (first | (refine condD_dec ?_ ?_ <;> (intro hc; (try simp -implicitDefEqProofs [-loopQ_n, hc, h, h0, hof]))) | (refine guardD_dec ?_ ?_ <;> (intro hc; (try simp -implicitDefEqProofs [-loopQ_n, hc, h, h0, hof]))) | (refine condD_intro ?_ ?_ <;> (intro hd; have hc := hd; (try simp at hc) <;> (try simp -implicitDefEqProofs [-loopQ_n, hd, hc, h, h0, hof]))) | (refine guardD_intro ?_ ?_ <;> (intro hd; have hc := hd; (try simp at hc) <;> (try simp -implicitDefEqProofs [-loopQ_n, hd, hc, h, h0, hof]))) | (refine ldD_ep ?_ ?_; (focus kernel_rfl); (try simp -implicitDefEqProofs [-loopQ_n, h, h0, hof])))))
  have h0' : ¬ (l.length : Int) = 0 := by omega
  obtain ⟨k, hkm⟩ : ∃ k, u % l.length = k := ⟨_, rfl⟩
  have hkl : k < l.length := by rw [← hkm]; exact Nat.mod_lt _ (by omega)
  have wu : wrapI .i64 (u : Int) = (u : Int) := wrap_in (by omega) (by omega)
  have hrem : (u : Int).tmod (l.length : Int) = (k : Int) := by
    rw [Int.tmod_eq_emod_of_nonneg (by omega), ← hkm]
    exact (Int.natCast_emod _ _).symm
  have wk : wrapI .i64 ((k : Int) + 1) = (k : Int) + 1 := wrap_in (by omega) (by omega)
  have hlne : l ≠ [] := fun e => h0 (by rw [e]; rfl)
  have hVe := objV_erase hV k hkl
  obtain ⟨p', hp', hD⟩ := comp_pure (l.eraseIdx k) hVe
  have hle : (l.eraseIdx k).length = l.length - 1 := by rw [List.length_eraseIdx, if_pos hkl]
  rw [hle] at hp'
  have hdel := fun a ha hka => del_groups (a := a) hkl (shareR_symm l) (shareR_symm (l.eraseIdx k)) (share_up hkl) (share_down hkl) hp hp' (by rw [hcc]; exact ha) hka
  have ck' := ck_of hp'
  obtain ⟨d, hdd⟩ : ∃ d, compR 0 (nI p') ([], []) = d := ⟨_, rfl⟩
  rw [hdd] at hD ck' hdel
  have hD : Pure Try.prog 6 [.agg [.rs (rowsOf objC (l.eraseIdx k))]] (.tup [.rs (rowsOf liC d), .int .i64 0]) := hD
  have hdl : ∀ a ∈ d, a.length ≤ 1000000 := fun a ha => by
    have h1 := ck'.sum
    have h2 : ∀ (q : List (List Int)), a ∈ q → a.length ≤ (q.map List.length).sum := by
      intro q
      induction q with
      | nil => intro h; cases h
      | cons b q ih =>
        intro h
        simp only [List.map_cons, List.sum_cons]
        rcases List.mem_cons.1 h with rfl | h
        · omega
        · have := ih h; omega
    have := h2 d ha
    omega
  have hdll : d.length ≤ 1000000 := by
    have h1 := ck'.sum
    have h2 : ∀ (q : List (List Int)), (∀ a ∈ q, a ≠ []) → q.length ≤ (q.map List.length).sum := by
      intro q
      induction q with
      | nil => intro _; simp
      | cons a q ih =>
        intro h
        have h3 := ih fun b hb => h b (by simp [hb])
        have h4 : 0 < a.length := List.length_pos_iff.2 (h a (by simp))
        simp only [List.length_cons, List.map_cons, List.sum_cons]
        omega
    have := h2 d ck'.ne
    omega
  ((try simp -implicitDefEqProofs [-loopQ_n, h, h0, h0', hof, wu, hrem, hlne]) <;> (repeat' (first | (refine condD_dec ?_ ?_ <;> (intro hc; (try simp -implicitDefEqProofs [-loopQ_n, hc, h, h0, h0', hof, wu, hrem, hlne]))) | (refine guardD_dec ?_ ?_ <;> (intro hc; (try simp -implicitDefEqProofs [-loopQ_n, hc, h, h0, h0', hof, wu, hrem, hlne]))) | (refine condD_intro ?_ ?_ <;> (intro hd; have hc := hd; (try simp at hc) <;> (try simp -implicitDefEqProofs [-loopQ_n, hd, hc, h, h0, h0', hof, wu, hrem, hlne]))) | (refine guardD_intro ?_ ?_ <;> (intro hd; have hc := hd; (try simp at hc) <;> (try simp -implicitDefEqProofs [-loopQ_n, hd, hc, h, h0, h0', hof, wu, hrem, hlne]))) | (refine ldD_ep ?_ ?_; (focus kernel_rfl); (try simp -implicitDefEqProofs [-loopQ_n, h, h0, h0', hof, wu, hrem, hlne])))))
  refine fresh_intro (cloneOb_fresh l hlne (by omega)) (by simp) (.inr ⟨rfl, rfl⟩) ?_
  ((try simp -implicitDefEqProofs [-loopQ_n, wk, rowsOf_length, hof, wu, hrem]) <;> (repeat' (first | (refine condD_dec ?_ ?_ <;> (intro hc; (try simp -implicitDefEqProofs [-loopQ_n, hc, wk, rowsOf_length, hof, wu, hrem]))) | (refine guardD_dec ?_ ?_ <;> (intro hc; (try simp -implicitDefEqProofs [-loopQ_n, hc, wk, rowsOf_length, hof, wu, hrem]))) | (refine condD_intro ?_ ?_ <;> (intro hd; have hc := hd; (try simp at hc) <;> (try simp -implicitDefEqProofs [-loopQ_n, hd, hc, wk, rowsOf_length, hof, wu, hrem]))) | (refine guardD_intro ?_ ?_ <;> (intro hd; have hc := hd; (try simp at hc) <;> (try simp -implicitDefEqProofs [-loopQ_n, hd, hc, wk, rowsOf_length, hof, wu, hrem]))) | (refine ldD_ep ?_ ?_; (focus kernel_rfl); (try simp -implicitDefEqProofs [-loopQ_n, wk, rowsOf_length, hof, wu, hrem])))))
  refine callG_intro (delOb_at l k l.length 2 rfl hkl (by omega) rfl ?_)
  ((try simp -implicitDefEqProofs [-loopQ_n]) <;> (repeat' (first | (refine condD_dec ?_ ?_ <;> (intro hc; (try simp -implicitDefEqProofs [-loopQ_n, hc]))) | (refine guardD_dec ?_ ?_ <;> (intro hc; (try simp -implicitDefEqProofs [-loopQ_n, hc]))) | (refine condD_intro ?_ ?_ <;> (intro hd; have hc := hd; (try simp at hc) <;> (try simp -implicitDefEqProofs [-loopQ_n, hd, hc]))) | (refine guardD_intro ?_ ?_ <;> (intro hd; have hc := hd; (try simp at hc) <;> (try simp -implicitDefEqProofs [-loopQ_n, hd, hc]))) | (refine ldD_ep ?_ ?_; (focus kernel_rfl); (try simp -implicitDefEqProofs [-loopQ_n])) | (refine callS_mk ?_; (try simp -implicitDefEqProofs [-loopQ_n]); (first | refine callS_intro (hD) (.inr ⟨rfl, rfl⟩) ?_); (try simp -implicitDefEqProofs [-loopQ_n])))))
  clear hi h
  refine loop_intro (σ := Nat) (fun i => ⟨[(7, .os 1 l.length), (17, .int .i64 k), (19, .rs (rowsOf liC d)), (179, .rs (rowsOf liC c)), (180, .int .i64 c.length), (181, .int .i64 i)], [.box 24 [.rs (rowsOf objC l)], .row 3 false (rowsOf intC of)]⟩)
    (fun i => i ≤ c.length) (fun i => c.length - i) 0 (by simp) ?_ ?_
  · refine weak_of 2 0 rfl rfl ?_ ?_ <;> simp [li_refs, ob_refs, intR_refs]
  rintro i hi
  by_cases h : i < c.length
  · have w1 := wS h (by omega)
    have hmem := List.getElem_mem h
    obtain ⟨a, ha⟩ : ∃ a, c[i] = a := ⟨_, rfl⟩
    have hcg : c[i]? = some a := by rw [List.getElem?_eq_getElem h, ha]
    rw [ha] at hmem
    have ha60 := hal a hmem
    have hofk : k < of.length := by omega
    obtain ⟨x, hx⟩ : ∃ x, of[k] = x := ⟨_, rfl⟩
    by_cases e : (i : Int) = x
    · subst e
      ((try simp -implicitDefEqProofs [-loopQ_n, h, ha, hof, hofk, hkl, hx, intC, liC, w1]) <;> (repeat' (first | (refine condD_dec ?_ ?_ <;> (intro hc; (try simp -implicitDefEqProofs [-loopQ_n, hc, h, ha, hof, hofk, hkl, hx, intC, liC, w1]))) | (refine guardD_dec ?_ ?_ <;> (intro hc; (try simp -implicitDefEqProofs [-loopQ_n, hc, h, ha, hof, hofk, hkl, hx, intC, liC, w1]))) | (refine condD_intro ?_ ?_ <;> (intro hd; have hc := hd; (try simp at hc) <;> (try simp -implicitDefEqProofs [-loopQ_n, hd, hc, h, ha, hof, hofk, hkl, hx, intC, liC, w1]))) | (refine guardD_intro ?_ ?_ <;> (intro hd; have hc := hd; (try simp at hc) <;> (try simp -implicitDefEqProofs [-loopQ_n, hd, hc, h, ha, hof, hofk, hkl, hx, intC, liC, w1]))) | (refine ldD_ep ?_ ?_; (focus kernel_rfl); (try simp -implicitDefEqProofs [-loopQ_n, h, ha, hof, hofk, hkl, hx, intC, liC, w1])))))
      refine loop_next (i + 1) h (by omega) (weak_of 2 0 rfl rfl ?_ ?_) <;> simp [li_refs, ob_refs, intR_refs, w1]
    · have hka : (k : Int) ∉ a := fun q => by
        have := hmkA i a hcg k q
        rw [List.getElem?_eq_getElem hofk, hx] at this
        exact e (Option.some.inj this).symm
      have hwant := hdel a hmem hka
      obtain ⟨W, hW⟩ : ∃ W, a.map (shI k) = W := ⟨_, rfl⟩
      have hWl : W.length = a.length := by rw [← hW]; simp
      rw [hW] at hwant
      have hany : (d.any fun q => decide (q = W)) = true := List.any_eq_true.2 ⟨W, hwant, by simp⟩
      have hA := lsF_any (p := fun q => decide (q = W)) (l := d) (g := 14) (caps := [.rp [.rs (rowsOf intC W)]]) (fun q hq => par2_pure q W (hdl q hq) (by omega)) (fun H k => by simp) (by simp [refsL, refs]) (by omega)
      rw [hany] at hA
      ((try simp -implicitDefEqProofs [-loopQ_n, h, ha, hof, hofk, hkl, hx, intC, liC, e]) <;> (repeat' (first | (refine condD_dec ?_ ?_ <;> (intro hc; (try simp -implicitDefEqProofs [-loopQ_n, hc, h, ha, hof, hofk, hkl, hx, intC, liC, e]))) | (refine guardD_dec ?_ ?_ <;> (intro hc; (try simp -implicitDefEqProofs [-loopQ_n, hc, h, ha, hof, hofk, hkl, hx, intC, liC, e]))) | (refine condD_intro ?_ ?_ <;> (intro hd; have hc := hd; (try simp at hc) <;> (try simp -implicitDefEqProofs [-loopQ_n, hd, hc, h, ha, hof, hofk, hkl, hx, intC, liC, e]))) | (refine guardD_intro ?_ ?_ <;> (intro hd; have hc := hd; (try simp at hc) <;> (try simp -implicitDefEqProofs [-loopQ_n, hd, hc, h, ha, hof, hofk, hkl, hx, intC, liC, e]))) | (refine ldD_ep ?_ ?_; (focus kernel_rfl); (try simp -implicitDefEqProofs [-loopQ_n, h, ha, hof, hofk, hkl, hx, intC, liC, e])))))
      refine loop_intro (σ := Nat × List Int) (fun q => ⟨[(7, .os 1 l.length), (17, .int .i64 k), (19, .rs (rowsOf liC d)), (23, .op 2 0), (179, .rs (rowsOf liC c)), (180, .int .i64 c.length), (181, .int .i64 i), (192, .rs (rowsOf intC a)), (193, .int .i64 a.length), (194, .int .i64 q.1)], [.box 24 [.rs (rowsOf objC l)], .row 3 false (rowsOf intC of), .box 31 [.os 3 q.2.length], .row 3 true (rowsOf intC q.2)]⟩)
        (fun q => q.1 ≤ a.length ∧ q.2.length ≤ q.1 ∧ q.2 ++ (a.drop q.1).map (shI k) = W) (fun q => a.length - q.1) (0, []) ⟨by simp, by simp, by simpa using hW⟩ ?_ ?_
      · refine weak_of 3 1 rfl rfl ?_ ?_ <;> simp [li_refs, ob_refs, intR_refs, rowsOf_nil]
      rintro ⟨m, acc⟩ ⟨hm, hacc, hR⟩
      simp only at hm hacc hR
      by_cases g : m < a.length
      · have w2 := wS g (by omega)
        have hl1 : acc.length ≤ 1073741823 := by omega
        obtain ⟨t, ht, hxt⟩ := ck.nat a hmem a[m] (List.getElem_mem g)
        rw [List.drop_eq_getElem_cons g, hxt, List.map_cons] at hR
        by_cases c1 : k < t
        · have ws : wrapI .i64 ((t : Int) - 1) = (t : Int) - 1 := wrap_in (by omega) (by omega)
          have hs1 : shI k (t : Int) = (t : Int) - 1 := by unfold shI; rw [if_pos (by omega)]
          rw [hs1] at hR
          ((try simp -implicitDefEqProofs [-loopQ_n, g, hxt, intC, c1, w2, ws, hl1, int_snoc]) <;> (repeat' (first | (refine condD_dec ?_ ?_ <;> (intro hc; (try simp -implicitDefEqProofs [-loopQ_n, hc, g, hxt, intC, c1, w2, ws, hl1, int_snoc]))) | (refine guardD_dec ?_ ?_ <;> (intro hc; (try simp -implicitDefEqProofs [-loopQ_n, hc, g, hxt, intC, c1, w2, ws, hl1, int_snoc]))) | (refine condD_intro ?_ ?_ <;> (intro hd; have hc := hd; (try simp at hc) <;> (try simp -implicitDefEqProofs [-loopQ_n, hd, hc, g, hxt, intC, c1, w2, ws, hl1, int_snoc]))) | (refine guardD_intro ?_ ?_ <;> (intro hd; have hc := hd; (try simp at hc) <;> (try simp -implicitDefEqProofs [-loopQ_n, hd, hc, g, hxt, intC, c1, w2, ws, hl1, int_snoc]))) | (refine ldD_ep ?_ ?_; (focus kernel_rfl); (try simp -implicitDefEqProofs [-loopQ_n, g, hxt, intC, c1, w2, ws, hl1, int_snoc])))))
          refine loop_next (m + 1, acc ++ [(t : Int) - 1]) ⟨g, by simp; omega, by simpa using hR⟩ (by simp only; omega) (weak_of 4 0 rfl rfl ?_ ?_) <;> simp [li_refs, ob_refs, intR_refs, w2, refs]
        · have hs1 : shI k (t : Int) = (t : Int) := by unfold shI; rw [if_neg (by omega)]
          rw [hs1] at hR
          ((try simp -implicitDefEqProofs [-loopQ_n, g, hxt, intC, c1, w2, hl1, int_snoc]) <;> (repeat' (first | (refine condD_dec ?_ ?_ <;> (intro hc; (try simp -implicitDefEqProofs [-loopQ_n, hc, g, hxt, intC, c1, w2, hl1, int_snoc]))) | (refine guardD_dec ?_ ?_ <;> (intro hc; (try simp -implicitDefEqProofs [-loopQ_n, hc, g, hxt, intC, c1, w2, hl1, int_snoc]))) | (refine condD_intro ?_ ?_ <;> (intro hd; have hc := hd; (try simp at hc) <;> (try simp -implicitDefEqProofs [-loopQ_n, hd, hc, g, hxt, intC, c1, w2, hl1, int_snoc]))) | (refine guardD_intro ?_ ?_ <;> (intro hd; have hc := hd; (try simp at hc) <;> (try simp -implicitDefEqProofs [-loopQ_n, hd, hc, g, hxt, intC, c1, w2, hl1, int_snoc]))) | (refine ldD_ep ?_ ?_; (focus kernel_rfl); (try simp -implicitDefEqProofs [-loopQ_n, g, hxt, intC, c1, w2, hl1, int_snoc])))))
          refine loop_next (m + 1, acc ++ [(t : Int)]) ⟨g, by simp; omega, by simpa using hR⟩ (by simp only; omega) (weak_of 4 0 rfl rfl ?_ ?_) <;> simp [li_refs, ob_refs, intR_refs, w2, refs]
      · rw [List.drop_eq_nil_of_le (by omega), List.map_nil, List.append_nil] at hR
        subst hR
        ((try simp -implicitDefEqProofs [-loopQ_n, g, w1, intR_reify, rowsOf_length]) <;> (repeat' (first | (refine condD_dec ?_ ?_ <;> (intro hc; (try simp -implicitDefEqProofs [-loopQ_n, hc, g, w1, intR_reify, rowsOf_length]))) | (refine guardD_dec ?_ ?_ <;> (intro hc; (try simp -implicitDefEqProofs [-loopQ_n, hc, g, w1, intR_reify, rowsOf_length]))) | (refine condD_intro ?_ ?_ <;> (intro hd; have hc := hd; (try simp at hc) <;> (try simp -implicitDefEqProofs [-loopQ_n, hd, hc, g, w1, intR_reify, rowsOf_length]))) | (refine guardD_intro ?_ ?_ <;> (intro hd; have hc := hd; (try simp at hc) <;> (try simp -implicitDefEqProofs [-loopQ_n, hd, hc, g, w1, intR_reify, rowsOf_length]))) | (refine ldD_ep ?_ ?_; (focus kernel_rfl); (try simp -implicitDefEqProofs [-loopQ_n, g, w1, intR_reify, rowsOf_length])) | (refine callS_mk ?_; (try simp -implicitDefEqProofs [-loopQ_n, g, w1, intR_reify, rowsOf_length]); (first | refine callS_intro (hA) (.inl rfl) ?_); (try simp -implicitDefEqProofs [-loopQ_n, g, w1, intR_reify, rowsOf_length])))))
        refine loop_next (i + 1) h (by omega) (weak_of 2 0 rfl rfl ?_ ?_) <;> simp [li_refs, ob_refs, intR_refs, w1]
  · ((try simp -implicitDefEqProofs [-loopQ_n, h]) <;> (repeat' (first | (refine condD_dec ?_ ?_ <;> (intro hc; (try simp -implicitDefEqProofs [-loopQ_n, hc, h]))) | (refine guardD_dec ?_ ?_ <;> (intro hc; (try simp -implicitDefEqProofs [-loopQ_n, hc, h]))) | (refine condD_intro ?_ ?_ <;> (intro hd; have hc := hd; (try simp at hc) <;> (try simp -implicitDefEqProofs [-loopQ_n, hd, hc, h]))) | (refine guardD_intro ?_ ?_ <;> (intro hd; have hc := hd; (try simp at hc) <;> (try simp -implicitDefEqProofs [-loopQ_n, hd, hc, h]))) | (refine ldD_ep ?_ ?_; (focus kernel_rfl); (try simp -implicitDefEqProofs [-loopQ_n, h])))))
theorem u8_wf {x : Int} (h : (Lit.int .u8 x).wf = true) : 0 ≤ x ∧ x ≤ 255 := by
  simp [Lit.wf, IntKind.min, IntKind.max, IntKind.signed, IntKind.bits] at h
  omega
theorem both (x0 : AV) (s0 : argS Try.prog 24 x0) (x1 : AV) (s1 : argS Try.prog 5 x1) : Pure Try.prog 3 [x0, x1] (.bool true) := by
  obtain ⟨l, rfl, hl, hd⟩ := log_dec s0
  obtain ⟨i, rfl, hw⟩ := arg_int Try.underlying5 s1
  rw [maxLen_eq] at hl
  have hdr : ∀ e ∈ l, e.refs.length ≤ 9223372036854775807 := fun e he => by have := hd e he; rwa [maxLen_eq] at this
  obtain ⟨h0, h1⟩ := u8_wf hw
  obtain ⟨u, rfl⟩ := Int.eq_ofNat_of_zero_le h0
  exact main l u (by omega) hl hdr
theorem walk (W : World) (hvo : VarsOk W (fun _ => False)) (v0 : Value) (x0 : AV) (r0 : RO W (fun _ => False) x0 v0) (s0 : argS Try.prog 24 x0) (v1 : Value) (x1 : AV) (r1 : RO W (fun _ => False) x1 v1) (s1 : argS Try.prog 5 x1) :
    Calls Try.prog 3 #[v0, v1] W fun e w' => e = .returned (.bool true) ∧ Below W.heap.size W w' := by
  refine ((both x0 s0 x1 s1).2 W (fun _ => False) _ (fun _ h => h.elim) hvo rfl ?_).mono ?_
  · intro j x v hj hv
    match j with
    | 0 => simp at hj hv; subst hj hv; exact r0
    | 1 => simp at hj hv; subst hj hv; exact r1
    | j + 2 => simp at hj
  · rintro e w' ⟨v, rfl, hv, hb⟩
    rw [ro_tt hv]
    exact ⟨rfl, hb⟩
end
set_option maxRecDepth 100000 in
theorem lifted (os : Os) (started : os.Started) (H : Type) (enc : TypeId × Value → H) :
    ReturnsInHanded {} Try.checked os 3 .any (Rows.objectsPartsSpec.pre6 enc Try.prog Try.f3 Rows.objectsPartsRow.domain false) (Rows.objectsPartsSpec.post enc Try.prog Try.f3 false true false false) := by
  refine returnsInHanded_of_change (C := Try.checked) (@ownK { row := fun _ => none }) started (by kernel_rfl) Try.func3
    (ChangeSpec.witness6 (enc := enc) (C := Try.checked) false ⟨#[], #[.agg #[.slice none 0 0], .int .u8 0], []⟩ 8 (by kernel_rfl) (by kernel_rfl) (by kernel_rfl) (by kernel_rfl)) ?_
  intro W base args ds gs before hval0 hW hcnd _
  have hval : ∀ (j : Nat) t v, Try.f3.params[j]? = some t → args[j]? = some v → Value.okWide Try.prog W .any base t v := hval0
  have hW' := hW
  obtain ⟨p, q, hA0, hV, rfl, hfz, hnd⟩ := hW
  have hA : DataW.TrodAll enc Try.prog W 0 (fun _ => true) true Try.f3.params.toList args.toList ds p := hA0
  rw [Try.params3] at hA hval
  obtain ⟨v0, vs0, d0, ds0, p0, q0, hargs, rfl, rfl, h0, r0⟩ := trodAll_cons hA
  obtain ⟨v1, vs1, d1, ds1, p1, q1, rfl, rfl, rfl, h1, r1⟩ := trodAll_cons r0
  obtain ⟨rfl, rfl, rfl⟩ := trodAll_nil r1
  obtain rfl : args = #[v0, v1] := by cases args; simp_all
  obtain ⟨rfl, rfl⟩ := trodVars_none hV
  letI : Glob := { row := fun _ => none }
  have k0 := h0
  have lt0 : ∀ x ∈ p0, x.block < W.heap.size := by obtain ⟨m, hm⟩ := k0; exact DataW.trod_lt m _ _ _ hm
  obtain ⟨x0, y0, s0⟩ := arg_open (P := Try.prog) (t := 24) (by kernel_rfl) (by kernel_rfl) (hval 0 24 v0 rfl rfl) h0
  have k1 := h1
  have lt1 : ∀ x ∈ p1, x.block < W.heap.size := by obtain ⟨m, hm⟩ := k1; exact DataW.trod_lt m _ _ _ hm
  obtain ⟨x1, y1, s1⟩ := arg_open (P := Try.prog) (t := 5) (by kernel_rfl) (by kernel_rfl) (hval 1 5 v1 rfl rfl) h1
  clear hA0 hval0
  refine (walk W ⟨fun g row h => (by cases h), fun g cs h => (by cases h)⟩ v0 x0 y0 s0 v1 x1 y1 s1).mono fun e W' ⟨he, bel⟩ => ?_
  subst he
  exact ⟨_, rfl, _, _, _, [], _, [], hW', trodAll_mk1 (shut_bool Try.underlying4 _), (trodAll_cons_mk (Below.trod laidK (by kernel_rfl) (of_decide_eq_true (by kernel_rfl)) k0 bel lt0) (trodAll_cons_mk (Below.trod laidK (by kernel_rfl) (of_decide_eq_true (by kernel_rfl)) k1 bel lt1) trodAll_mk0)), rfl, bel.frame _, fun h => by cases h⟩

theorem over : Rows.objectsPartsRow.holds Try.pinned (OpenSpec.ofChange Rows.objectsPartsSpec) :=
  OpenClaim.holds_of_wide 3 Try.f3 rfl rfl rfl rfl rfl rfl rfl ⟨rfl, rfl, rfl, rfl, rfl⟩ rfl rfl rfl rfl rfl (by kernel_rfl) Try.func3 (by kernel_rfl)
    (of_decide_eq_true (by kernel_rfl)) (by unfold Func.isWrapper; first | (rw [if_pos (by decide +kernel)]; kernel_rfl) | (rw [if_neg (by decide +kernel)]; exact ⟨rfl, rfl⟩))
    (fun os started H enc _ => lifted os started H enc)

theorem proved : Rows.ObjectsPartsSaid := over
end Go.Proofs.Ytdkcmfafganhhaa.lawParts
