/- Components and Cases return what the reference does (the law ObjectsComponents holds for every input; the table of powers of ten is laid). -/
import Derived.Test.YtdkcmfafganhhaaDoorRows
import Derived.Test.YtdkcmfafganhhaaDoorLaid
import Derived.Test.YtdkcmfafganhhaaDoorTie
import Derived.Test.YtdkcmfafganhhaaDoorCards
import Derived.SevenTiedAt
import Derived.Lib.LaidTab
import Derived.Stop.LaidErr
import Derived.Test.YtdkcmfafganhhaaDoorObR
import Derived.Test.YtdkcmfafganhhaaDoorObC
namespace Go.Proofs.YtdkcmfafganhhaaDoor.lawComps
set_option linter.unusedSimpArgs false
set_option linter.unusedVariables false
set_option linter.unnecessarySimpa false
set_option linter.unusedSectionVars false
open Go.ChangeShapes Go.WideShapes Go.ChangeAt Go.RowKit Go.Joins Go.Deep
section
variable [Glob]
set_option maxRecDepth 100000
theorem wS {i n : Nat} (h : i < n) (hn : n ≤ 9223372036854775807) : wrapI .i64 ((i : Int) + 1) = ((i + 1 : Nat) : Int) := by rw [wrap_in (by omega) (by omega)]; omega
def liCc (x : List Int) : List AV := [.rs (rowsOf intC x)]
theorem same1_pure (x : List Int) (hx : x.length ≤ 1000000) : Pure Tryd.prog 33 [.rs (rowsOf intC x), .rs (rowsOf intC x)] (.bool true) := by
  have h := eqI2_pure x x hx hx
  rw [decide_eq_true rfl] at h
  refine pure_of mixed Tryd.func33 rfl (by kernel_rfl) (of_decide_eq_true rfl) (by kernel_rfl) (vc_run ?_)
  ((try simp -implicitDefEqProofs [-loopQ_n]) <;> (repeat' (first | (refine condD_dec ?_ ?_ <;> (intro hc; (try simp -implicitDefEqProofs [-loopQ_n, hc]))) | (refine guardD_dec ?_ ?_ <;> (intro hc; (try simp -implicitDefEqProofs [-loopQ_n, hc]))) | (refine condD_intro ?_ ?_ <;> (intro hd; have hc := hd; (try simp at hc) <;> (try simp -implicitDefEqProofs [-loopQ_n, hd, hc]))) | (refine guardD_intro ?_ ?_ <;> (intro hd; have hc := hd; (try simp at hc) <;> (try simp -implicitDefEqProofs [-loopQ_n, hd, hc]))) | (refine ldD_ep ?_ ?_; (focus kernel_rfl); (try simp -implicitDefEqProofs [-loopQ_n])) | (refine callS_mk ?_; (try simp -implicitDefEqProofs [-loopQ_n]); (first | refine callS_intro (h) (.inl rfl) ?_); (try simp -implicitDefEqProofs [-loopQ_n])))))
theorem li_refs {m : Nat} {c : List (List Int)} : refsR m (rowsOf liCc c) = true := rowsOf_refs fun x => by simp [liCc, refs]
theorem eqF_pure (c : List (List Int)) (hc : c.length ≤ 1000000) (hl : ∀ a ∈ c, a.length ≤ 1000000) : Pure Tryd.prog 32 [.rs (rowsOf liCc c), .rs (rowsOf liCc c), .fn 33 []] (.bool true) := by
  refine pure_of mixed Tryd.func32 rfl (by kernel_rfl) (of_decide_eq_true rfl) (by kernel_rfl) (vc_run ?_)
  ((try simp -implicitDefEqProofs [-loopQ_n]) <;> (repeat' (first | (refine condD_dec ?_ ?_ <;> (intro hc; (try simp -implicitDefEqProofs [-loopQ_n, hc]))) | (refine guardD_dec ?_ ?_ <;> (intro hc; (try simp -implicitDefEqProofs [-loopQ_n, hc]))) | (refine condD_intro ?_ ?_ <;> (intro hd; have hc := hd; (try simp at hc) <;> (try simp -implicitDefEqProofs [-loopQ_n, hd, hc]))) | (refine guardD_intro ?_ ?_ <;> (intro hd; have hc := hd; (try simp at hc) <;> (try simp -implicitDefEqProofs [-loopQ_n, hd, hc]))) | (refine ldD_ep ?_ ?_; (focus kernel_rfl); (try simp -implicitDefEqProofs [-loopQ_n])))))
  refine loop_intro (σ := Nat) (fun i => ⟨[(1, .rs (rowsOf liCc c)), (2, .fn 33 []), (15, .rs (rowsOf liCc c)), (16, .int .i64 c.length), (17, .int .i64 i)], []⟩) (fun i => i ≤ c.length) (fun i => c.length - i) 0 (by simp) ?_ ?_
  · refine weak_of 0 0 rfl rfl ?_ ?_ <;> simp [li_refs, refs, refsL]
  intro i hi
  by_cases h : i < c.length
  · have w1 := wS h (by omega)
    have hm := hl _ (List.getElem_mem h)
    obtain ⟨a, ha⟩ : ∃ a, c[i] = a := ⟨_, rfl⟩
    rw [ha] at hm
    have hS := same1_pure a hm
    ((try simp -implicitDefEqProofs [-loopQ_n, h, ha, liCc, w1]) <;> (repeat' (first | (refine condD_dec ?_ ?_ <;> (intro hc; (try simp -implicitDefEqProofs [-loopQ_n, hc, h, ha, liCc, w1]))) | (refine guardD_dec ?_ ?_ <;> (intro hc; (try simp -implicitDefEqProofs [-loopQ_n, hc, h, ha, liCc, w1]))) | (refine condD_intro ?_ ?_ <;> (intro hd; have hc := hd; (try simp at hc) <;> (try simp -implicitDefEqProofs [-loopQ_n, hd, hc, h, ha, liCc, w1]))) | (refine guardD_intro ?_ ?_ <;> (intro hd; have hc := hd; (try simp at hc) <;> (try simp -implicitDefEqProofs [-loopQ_n, hd, hc, h, ha, liCc, w1]))) | (refine ldD_ep ?_ ?_; (focus kernel_rfl); (try simp -implicitDefEqProofs [-loopQ_n, h, ha, liCc, w1])) | (refine callS_mk ?_; (try simp -implicitDefEqProofs [-loopQ_n, h, ha, liCc, w1]); (first | refine callS_intro (hS) (.inl rfl) ?_); (try simp -implicitDefEqProofs [-loopQ_n, h, ha, liCc, w1])))))
    refine loop_next (i + 1) h (by omega) (weak_of 0 0 rfl rfl ?_ ?_) <;> simp [li_refs, refs, refsL, w1]
  · ((try simp -implicitDefEqProofs [-loopQ_n, h]) <;> (repeat' (first | (refine condD_dec ?_ ?_ <;> (intro hc; (try simp -implicitDefEqProofs [-loopQ_n, hc, h]))) | (refine guardD_dec ?_ ?_ <;> (intro hc; (try simp -implicitDefEqProofs [-loopQ_n, hc, h]))) | (refine condD_intro ?_ ?_ <;> (intro hd; have hc := hd; (try simp at hc) <;> (try simp -implicitDefEqProofs [-loopQ_n, hd, hc, h]))) | (refine guardD_intro ?_ ?_ <;> (intro hd; have hc := hd; (try simp at hc) <;> (try simp -implicitDefEqProofs [-loopQ_n, hd, hc, h]))) | (refine ldD_ep ?_ ?_; (focus kernel_rfl); (try simp -implicitDefEqProofs [-loopQ_n, h])))))
theorem same_pure (c : List (List Int)) (hc : c.length ≤ 1000000) (hl : ∀ a ∈ c, a.length ≤ 1000000) : Pure Tryd.prog 10 [.rs (rowsOf liCc c), .rs (rowsOf liCc c)] (.bool true) := by
  have h := eqF_pure c hc hl
  refine pure_of mixed Tryd.func10 rfl (by kernel_rfl) (of_decide_eq_true rfl) (by kernel_rfl) (vc_run ?_)
  ((try simp -implicitDefEqProofs [-loopQ_n]) <;> (repeat' (first | (refine condD_dec ?_ ?_ <;> (intro hc; (try simp -implicitDefEqProofs [-loopQ_n, hc]))) | (refine guardD_dec ?_ ?_ <;> (intro hc; (try simp -implicitDefEqProofs [-loopQ_n, hc]))) | (refine condD_intro ?_ ?_ <;> (intro hd; have hc := hd; (try simp at hc) <;> (try simp -implicitDefEqProofs [-loopQ_n, hd, hc]))) | (refine guardD_intro ?_ ?_ <;> (intro hd; have hc := hd; (try simp at hc) <;> (try simp -implicitDefEqProofs [-loopQ_n, hd, hc]))) | (refine ldD_ep ?_ ?_; (focus kernel_rfl); (try simp -implicitDefEqProofs [-loopQ_n])) | (refine callS_mk ?_; (try simp -implicitDefEqProofs [-loopQ_n]); (first | refine callS_intro (h) (.inl rfl) ?_); (try simp -implicitDefEqProofs [-loopQ_n])))))
theorem casN_data {p : List Nat} : ∀ (l : List Obj) (i : Nat), ∀ e ∈ casN p i l, e.data = [] := by
  intro l
  induction l with
  | nil => intro i e he; cases he
  | cons o r ih =>
    intro i e he
    simp only [casN, List.mem_cons] at he
    rcases he with rfl | he
    · rfl
    · exact ih _ e he
set_option maxHeartbeats 16000000 in
theorem both (hx : Glob.exact 1 = some (Lib.pow10Tab.map fun z => Value.int .u64 z).toArray) (x0 : AV) (s0 : argS Tryd.prog 24 x0) :
    Pure Tryd.prog 3 [x0] (.bool true) := by
  obtain ⟨l, rfl, hl, hd⟩ := log_dec s0
  rw [maxLen_eq] at hl
  have hdr : ∀ e ∈ l, e.refs.length ≤ 9223372036854775807 := fun e he => by have := hd e he; rwa [maxLen_eq] at this
  have hF := few_pure _ hl hdr
  refine pure_of mixed Tryd.func3 rfl (by kernel_rfl) (of_decide_eq_true rfl) (by kernel_rfl) (vc_run ?_)
  by_cases g1 : fewB l = true
  rotate_left
  · have g1 : fewB l = false := by simpa using g1
    ((try simp -implicitDefEqProofs [-loopQ_n, g1]) <;> (repeat' (first | (refine condD_dec ?_ ?_ <;> (intro hc; (try simp -implicitDefEqProofs [-loopQ_n, hc, g1]))) | (refine guardD_dec ?_ ?_ <;> (intro hc; (try simp -implicitDefEqProofs [-loopQ_n, hc, g1]))) | (refine condD_intro ?_ ?_ <;> (intro hd; have hc := hd; (try simp at hc) <;> (try simp -implicitDefEqProofs [-loopQ_n, hd, hc, g1]))) | (refine guardD_intro ?_ ?_ <;> (intro hd; have hc := hd; (try simp at hc) <;> (try simp -implicitDefEqProofs [-loopQ_n, hd, hc, g1]))) | (refine ldD_ep ?_ ?_; (focus kernel_rfl); (try simp -implicitDefEqProofs [-loopQ_n, g1])) | (refine callS_mk ?_; (try simp -implicitDefEqProofs [-loopQ_n, g1]); (first | refine callS_intro (awake_pure) (.inl rfl) ?_ | refine callS_intro (hF) (.inl rfl) ?_); (try simp -implicitDefEqProofs [-loopQ_n, g1])))))
  by_cases hV : objV l = true
  rotate_left
  · have hV : objV l = false := by simpa using hV
    ((try simp -implicitDefEqProofs [-loopQ_n, g1, hV, rowsOf_nil]) <;> (repeat' (first | (refine condD_dec ?_ ?_ <;> (intro hc; (try simp -implicitDefEqProofs [-loopQ_n, hc, g1, hV, rowsOf_nil]))) | (refine guardD_dec ?_ ?_ <;> (intro hc; (try simp -implicitDefEqProofs [-loopQ_n, hc, g1, hV, rowsOf_nil]))) | (refine condD_intro ?_ ?_ <;> (intro hd; have hc := hd; (try simp at hc) <;> (try simp -implicitDefEqProofs [-loopQ_n, hd, hc, g1, hV, rowsOf_nil]))) | (refine guardD_intro ?_ ?_ <;> (intro hd; have hc := hd; (try simp at hc) <;> (try simp -implicitDefEqProofs [-loopQ_n, hd, hc, g1, hV, rowsOf_nil]))) | (refine ldD_ep ?_ ?_; (focus kernel_rfl); (try simp -implicitDefEqProofs [-loopQ_n, g1, hV, rowsOf_nil])) | (refine callS_mk ?_; (try simp -implicitDefEqProofs [-loopQ_n, g1, hV, rowsOf_nil]); (first | refine callS_intro (awake_pure) (.inl rfl) ?_ | refine callS_intro (hF) (.inl rfl) ?_ | refine callS_intro (comp_bad l hV) (.inr ⟨rfl, rfl⟩) ?_ | refine callS_intro (ocases_bad l hV) (.inr ⟨rfl, rfl⟩) ?_ | refine callS_intro (rovalid_pure l) (.inl rfl) ?_); (try simp -implicitDefEqProofs [-loopQ_n, g1, hV, rowsOf_nil])))))
  obtain ⟨p, hp, hP⟩ := oparts_pure l hV
  rw [nat_int] at hP
  have hln := (objV_small hV).1
  have hC := ocomp_pure l (nI p) hP hV (by simp [nI, hp.1]; omega)
  have hCa := ocases_pure hx l hV p hp hP
  have hR := rcomp_pure l hV p hp
  have hRa := rcases_pure l hV p hp
  have hG := grp (nI p)
  have hli : (nI p).length = l.length := by simp [nI, hp.1]
  obtain ⟨c, hcc⟩ : ∃ c, compR 0 (nI p) ([], []) = c := ⟨_, rfl⟩
  rw [hcc] at hC hR hG
  have hsum := hG.sum
  rw [hli] at hsum
  have hal : ∀ a ∈ c, a.length ≤ 1000000 := fun a ha => by
    have h2 : ∀ (q : List (List Int)), a ∈ q → a.length ≤ (q.map List.length).sum := by
      intro q
      induction q with
      | nil => intro h; cases h
      | cons b q ih =>
        intro h
        simp only [List.map_cons, List.sum_cons]
        rcases List.mem_cons.1 h with rfl | h
        · omega
        · have := ih h; omega
    have := h2 c ha
    omega
  have hcl : c.length ≤ 1000000 := by
    have h2 : ∀ (q : List (List Int)), (∀ a ∈ q, a ≠ []) → q.length ≤ (q.map List.length).sum := by
      intro q
      induction q with
      | nil => intro _; simp
      | cons a q ih =>
        intro h
        have h3 := ih fun b hb => h b (by simp [hb])
        have h4 : 0 < a.length := List.length_pos_iff.2 (h a (by simp))
        simp only [List.length_cons, List.map_cons, List.sum_cons]
        omega
    have := h2 c fun a ha e => by
      obtain ⟨t, v, h1, h2, h3⟩ := hG.form a ha
      have : ((t : Nat) : Int) ∈ idxP (nI p) (nI p).length v := idxP_mem.2 ⟨t, h1, h2, rfl⟩
      rw [← h3, e] at this; cases this
    omega
  have hS := same_pure c hcl hal
  have hC : Pure Tryd.prog 7 [.agg [.rs (rowsOf objC l)]] (.tup [.rs (rowsOf liCc c), .int .i64 0]) := hC
  have hR : Pure Tryd.prog 11 [.agg [.rs (rowsOf objC l)]] (.rs (rowsOf liCc c)) := hR
  have hcd := casN_data (p := p) l 0
  have hclen := casN_len (p := p) l 0
  obtain ⟨E, hE⟩ : ∃ E, casN p 0 l = E := ⟨_, rfl⟩
  rw [hE] at hCa hRa hcd hclen
  have hSm := same12_refl E (by omega) hcd
  ((try simp -implicitDefEqProofs [-loopQ_n, g1, hV]) <;> (repeat' (first | (refine condD_dec ?_ ?_ <;> (intro hc; (try simp -implicitDefEqProofs [-loopQ_n, hc, g1, hV]))) | (refine guardD_dec ?_ ?_ <;> (intro hc; (try simp -implicitDefEqProofs [-loopQ_n, hc, g1, hV]))) | (refine condD_intro ?_ ?_ <;> (intro hd; have hc := hd; (try simp at hc) <;> (try simp -implicitDefEqProofs [-loopQ_n, hd, hc, g1, hV]))) | (refine guardD_intro ?_ ?_ <;> (intro hd; have hc := hd; (try simp at hc) <;> (try simp -implicitDefEqProofs [-loopQ_n, hd, hc, g1, hV]))) | (refine ldD_ep ?_ ?_; (focus kernel_rfl); (try simp -implicitDefEqProofs [-loopQ_n, g1, hV])) | (refine callS_mk ?_; (try simp -implicitDefEqProofs [-loopQ_n, g1, hV]); (first | refine callS_intro (awake_pure) (.inl rfl) ?_ | refine callS_intro (hF) (.inl rfl) ?_ | refine callS_intro (hC) (.inr ⟨rfl, rfl⟩) ?_ | refine callS_intro (hCa) (.inr ⟨rfl, rfl⟩) ?_ | refine callS_intro (rovalid_pure l) (.inl rfl) ?_ | refine callS_intro (hR) (.inr ⟨rfl, rfl⟩) ?_ | refine callS_intro (hS) (.inl rfl) ?_ | refine callS_intro (hRa) (.inr ⟨rfl, rfl⟩) ?_ | refine callS_intro (hSm) (.inl rfl) ?_); (try simp -implicitDefEqProofs [-loopQ_n, g1, hV])))))
theorem walk (W : World) (hvo : VarsOk W (fun _ => False)) (hx : Glob.exact 1 = some (Lib.pow10Tab.map fun z => Value.int .u64 z).toArray) (v0 : Value) (x0 : AV) (r0 : RO W (fun _ => False) x0 v0) (s0 : argS Tryd.prog 24 x0) :
    Calls Tryd.prog 3 #[v0] W fun e w' => e = .returned (.bool true) ∧ Below W.heap.size W w' := by
  refine ((both hx x0 s0).2 W (fun _ => False) _ (fun _ h => h.elim) hvo rfl ?_).mono ?_
  · intro j x v hj hv
    match j with
    | 0 => simp at hj hv; subst hj hv; exact r0
    | j + 1 => simp at hj
  · rintro e w' ⟨v, rfl, hv, hb⟩
    rw [ro_tt hv]
    exact ⟨rfl, hb⟩
end
theorem witness_row (os : Os) {H : Type} (enc : TypeId × Value → H) :
    (OpenSpec.ofChange Rows.objectsComponentsSpec).preRow enc Tryd.prog Tryd.f3 Rows.objectsComponentsRow.domain false Rows.objectsComponentsRow.laid ((laidWorld os).forCall (fun _ _ => 0) ⟨#[], #[.agg #[.slice none 0 0]], []⟩).memory #[.agg #[.slice none 0 0]] := by
  have hw : (DataW.whole enc Tryd.prog ((laidWorld os).forCall (fun _ _ => 0) ⟨#[], #[.agg #[.slice none 0 0]], []⟩).memory Tryd.f3.params.toList (OpenSpec.ofChange Rows.objectsComponentsSpec).vars false #[.agg #[.slice none 0 0]].toList 8).map (fun x => (x.1, x.2.1)) = some ([.agg [.nil]], []) := by kernel_rfl
  obtain ⟨⟨x1, x2, x3⟩, hx, hx1⟩ := Option.map_eq_some_iff.1 hw
  simp only [Prod.mk.injEq] at hx1
  obtain ⟨rfl, rfl⟩ := hx1
  exact OpenSpec.preRow_of_cond 8 hx (by kernel_rfl) (fun k hk => by cases hk) (by kernel_rfl) (laid_met os _)
set_option maxRecDepth 100000 in
theorem lifted (os : Os) (started : os.Started) (H : Type) (enc : TypeId × Value → H) (F : Stop.Interp) :
    ReturnsInHanded {} Tryd.checked os 3 .any ((OpenSpec.ofChange Rows.objectsComponentsSpec).preRow enc Tryd.prog Tryd.f3 Rows.objectsComponentsRow.domain false Rows.objectsComponentsRow.laid) (((OpenSpec.ofChange Rows.objectsComponentsSpec).at F).post enc Tryd.prog Tryd.f3 false true false false) := by
  refine returnsInHanded_of_row (C := Tryd.checked) (s := OpenSpec.ofChange Rows.objectsComponentsSpec) (@ownK { row := fun _ => none }) started (by kernel_rfl) Tryd.func3
    (witness_row_atRef (enc := enc) (C := Tryd.checked) false (laidWorld os) #[.agg #[.slice none 0 0]] rfl (by kernel_rfl) (by kernel_rfl) (by kernel_rfl) (witness_row os enc)) ?_
  intro W base args ds gs before hval0 hW _ _ _ hL hsh _
  have hval : ∀ (j : Nat) t v, Tryd.f3.params[j]? = some t → args[j]? = some v → Value.okWide Tryd.prog W .any base t v := hval0
  have hW' := hW
  obtain ⟨p, q, hA0, hV, rfl, hfz, hnd⟩ := hW
  have hA : DataW.TrodAll enc Tryd.prog W 0 (fun _ => true) true Tryd.f3.params.toList args.toList ds p := hA0
  rw [Tryd.params3] at hA hval
  obtain ⟨v0, vs0, d0, ds0, p0, q0, hargs, rfl, rfl, h0, r0⟩ := trodAll_cons hA
  obtain ⟨rfl, rfl, rfl⟩ := trodAll_nil r0
  obtain rfl : args = #[v0] := by cases args; simp_all
  obtain ⟨rfl, rfl⟩ := trodVars_none hV
  have hL2 := hL
  rw [MakeChecks.laidMetH_plain _ _ _ (by kernel_rfl)] at hL2
  have hL3 : laidMet Tryd.prog [("math/bits.deBruijn32tab", Rows.laid_math_bits_deBruijn32tab), ("math/bits.deBruijn64tab", Rows.laid_math_bits_deBruijn64tab), ("internal/strconv.uint64pow10", Rows.laid_internal_strconv_uint64pow10)] W := hL2
  have htab : Lib.TabIs Tryd.prog W "internal/strconv.uint64pow10" .u64 Lib.pow10Tab := Lib.tabIs_of_head (g := 1) (n := 20) (by kernel_rfl) (by kernel_rfl) Tryd.underlying135 Tryd.underlying119 (by kernel_rfl) (by kernel_rfl) (laidMet.tail (laidMet.tail hL3))
  letI : Glob := { row := fun _ => none, exact := fun g => if g = 1 then some (Lib.pow10Tab.map fun z => Value.int .u64 z).toArray else none }
  have hvo : VarsOk W (fun _ => False) := ⟨fun g row h => (by cases h), fun g cs h => by
    have h : (if g = 1 then some (Lib.pow10Tab.map fun z => Value.int .u64 z).toArray else none) = some cs := h
    by_cases e : g = 1
    · subst e
      simp only [if_true, Option.some.injEq] at h
      subst h
      unfold Lib.TabIs World.var? at htab
      rw [show Tryd.prog.globalNamed "internal/strconv.uint64pow10" = some 1 by kernel_rfl] at htab
      simp only [Option.bind_some] at htab
      split at htab
      · rename_i cs t f hh
        simp only [Option.some.injEq] at htab
        subst htab
        exact ⟨(Array.getElem?_eq_some_iff.1 hh).1, fun q => q, t, f, hh⟩
      · cases htab
    · simp [e] at h⟩
  have k0 := h0
  have lt0 : ∀ x ∈ p0, x.block < W.heap.size := by obtain ⟨m, hm⟩ := k0; exact DataW.trod_lt m _ _ _ hm
  obtain ⟨x0, y0, s0⟩ := arg_open (P := Tryd.prog) (t := 24) (by kernel_rfl) (by kernel_rfl) (hval 0 24 v0 rfl rfl) h0
  clear hA0 hval0
  refine (walk W hvo rfl v0 x0 y0 s0).mono fun e W' ⟨he, bel⟩ => ?_
  subst he
  exact ⟨_, rfl, _, _, _, [], _, [], hW', trodAll_mk1 (shut_bool Tryd.underlying4 _), (trodAll_cons_mk (Below.trod laidK (by kernel_rfl) (of_decide_eq_true (by kernel_rfl)) k0 bel lt0) trodAll_mk0), rfl, bel.frame _, fun h => by cases h⟩

theorem over : Rows.objectsComponentsRow.holds Tryd.pinned (OpenSpec.ofChange Rows.objectsComponentsSpec) :=
  OpenClaim.holds_of_cond 3 Tryd.f3 rfl rfl rfl rfl rfl rfl rfl ⟨rfl, rfl, rfl, rfl, rfl⟩ rfl rfl rfl rfl rfl (by kernel_rfl) Tryd.func3 (by kernel_rfl)
    (of_decide_eq_true (by kernel_rfl)) (by unfold Func.isWrapper; first | (rw [if_pos (by decide +kernel)]; kernel_rfl) | (rw [if_neg (by decide +kernel)]; exact ⟨rfl, rfl⟩))
    (fun os started H enc _ F0 => by rw [OpenClaim.pre_eq_preRow]; exact lifted os started H enc F0)

theorem proved : Rows.ObjectsComponentsCardSaid :=
  Claim7.holds_tied_plain_at .later [] [.data, .data, .data] true (true, "5507357303e68fb161500199b1a57d5b3532a6c570b0535d3ffe7b0033e882b4") false over (fun _ h => by cases h) (by kernel_rfl) (fun _ h => by cases h) objectsComponents_row_tie rfl ⟨rfl, rfl⟩ (by kernel_rfl) rfl
    (fun f fn hf hfn => by
      obtain rfl : f = 3 := Option.some.inj ((show Tryd.prog.funcNamed "casebook/casebooklaw14.ObjectsComponents" = some 3 by kernel_rfl).symm.trans hf) |>.symm
      obtain rfl : fn = Tryd.f3 := (Option.some.inj (Tryd.func3.symm.trans hfn)).symm
      exact ⟨by kernel_rfl, fun j t ht => by
        rw [Tryd.params3] at ht
        match j with
        | 0 => simp at ht; subst ht; exact (show Tryd.prog.wantsStandIn 24 = false by kernel_rfl)
        | j + 1 => simp at ht⟩)
    (by kernel_rfl)
end Go.Proofs.YtdkcmfafganhhaaDoor.lawComps
