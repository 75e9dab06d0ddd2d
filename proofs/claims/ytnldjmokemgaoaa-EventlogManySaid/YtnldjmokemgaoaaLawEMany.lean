/- Many events, long traces, and many variants are refused where the page says so (the law EventlogMany holds for every input; no condition). -/
import Derived.Test.YtnldjmokemgaoaaRows
import Derived.Test.YtnldjmokemgaoaaElA
import Derived.Test.YtnldjmokemgaoaaMnyP
import Derived.Test.YtnldjmokemgaoaaDecV
namespace Go.Proofs.Ytnldjmokemgaoaa.lawEMany
set_option linter.unusedSimpArgs false
set_option linter.unusedVariables false
set_option linter.unnecessarySimpa false
set_option linter.unusedSectionVars false
open Go.ChangeShapes Go.WideShapes Go.ChangeAt Go.RowKit Go.Joins Go.Deep
section
variable [Glob]
open Stab
set_option maxRecDepth 100000
/-! Memory read as less. -/
theorem ro_rows {w : World} {X : Nat → Prop} {rows rows' : List (List AV)} {v : Value} (h : RO w X (.rs rows) v) (hl : rows.length = rows'.length) (hr : ∀ (i : Nat) row row', rows[i]? = some row → rows'[i]? = some row' → row.length = row'.length ∧ ∀ (j : Nat) x x', row[j]? = some x → row'[j]? = some x' → ∀ u, RO w X x u → RO w X x' u) : RO w X (.rs rows') v := by
  cases h with
  | rs sz f hn hcap hA h =>
    have hget : ∀ (i : Nat) row', rows'[i]? = some row' → ∃ row, rows[i]? = some row := fun i row' hi => by
      have := (List.getElem?_eq_some_iff.1 hi).1
      exact ⟨rows[i]'(by omega), List.getElem?_eq_getElem _⟩
    refine .rs sz f (by omega) hcap (fun i row' hi => ?_) fun i j row' x' hi hj => ?_
    · obtain ⟨row, hi0⟩ := hget i row' hi
      obtain ⟨h1, h2⟩ := hA i row hi0
      exact ⟨by have := (hr i row row' hi0 hi).1; omega, h2⟩
    · obtain ⟨row, hi0⟩ := hget i row' hi
      obtain ⟨h1, h2⟩ := hr i row row' hi0 hi
      have hjl := (List.getElem?_eq_some_iff.1 hj).1
      have hj0 : row[j]? = some (row[j]'(by omega)) := List.getElem?_eq_getElem _
      exact h2 j _ x' hj0 hj _ (h i j row _ hi0 hj0)
/-- An event without data, its data nil. -/
def evN (e : Evt) : List AV := [.str e.case_, .str e.act, .str e.res, .int .i64 e.life, .int .i64 e.time, .nils]
theorem ro_evN {w : World} {X : Nat → Prop} {l : List Evt} (hd : ∀ e ∈ l, e.data = []) {v : Value} (h : RO w X (.rs (rowsOf evN l)) v) : RO w X (.rs (rowsOf evtC l)) v := by
  refine ro_rows h (by simp [rowsOf_length]) fun i row row' h1 h2 => ?_
  rw [rowsOf_get, Option.map_eq_some_iff] at h1 h2
  obtain ⟨e, he, rfl⟩ := h1
  obtain ⟨e', he', rfl⟩ := h2
  rw [he] at he'
  simp only [Option.some.injEq] at he'
  subst he'
  refine ⟨rfl, fun j x x' hx hx' u hu => ?_⟩
  have hde := hd e (List.mem_of_getElem? he)
  match j with
  | 0 => simp [evN, evtC] at hx hx'; subst hx hx'; exact hu
  | 1 => simp [evN, evtC] at hx hx'; subst hx hx'; exact hu
  | 2 => simp [evN, evtC] at hx hx'; subst hx hx'; exact hu
  | 3 => simp [evN, evtC] at hx hx'; subst hx hx'; exact hu
  | 4 => simp [evN, evtC] at hx hx'; subst hx hx'; exact hu
  | 5 =>
    simp [evN, evtC, hde, rowsOf_nil] at hx hx'
    subst hx hx'
    cases hu
    exact .rs 0 (fun _ _ => undef) rfl (Nat.le_refl _) (by simp) (by simp)
  | j + 6 => simp [evN] at hx
theorem ro_logN {w : World} {X : Nat → Prop} {l : List Evt} (hd : ∀ e ∈ l, e.data = []) {v : Value} (h : RO w X (.agg [.rs (rowsOf evN l)]) v) : RO w X (.agg [.rs (rowsOf evtC l)]) v := by
  cases h with
  | agg hl h1 h =>
    refine .agg hl h1 fun j x u hj hu => ?_
    match j with
    | 0 => simp at hj; subst hj; exact ro_evN hd (h 0 _ u (by simp) hu)
    | j + 1 => simp at hj
theorem arg1 {P : Program} {f : FuncId} {x x' r : AV} (h : Pure P f [x'] r) (hw : ∀ w X v, RO w X x v → RO w X x' v) : Pure P f [x] r :=
  ⟨h.1, fun w X vs hX hvo hl hv => h.2 w X vs hX hvo (by simpa using hl) fun j y v hj hu => by
    match j with
    | 0 => simp at hj; subst hj; exact hw _ _ _ (hv 0 x v (by simp) hu)
    | j + 1 => simp at hj⟩
theorem arg2 {P : Program} {f : FuncId} {x x' y y' r : AV} (h : Pure P f [x', y'] r) (hw : ∀ w X v, RO w X x v → RO w X x' v) (hw2 : ∀ w X v, RO w X y v → RO w X y' v) : Pure P f [x, y] r :=
  ⟨h.1, fun w X vs hX hvo hl hv => h.2 w X vs hX hvo (by simpa using hl) fun j z v hj hu => by
    match j with
    | 0 => simp at hj; subst hj; exact hw _ _ _ (hv 0 x v (by simp) hu)
    | 1 => simp at hj; subst hj; exact hw2 _ _ _ (hv 1 y v (by simp) hu)
    | j + 2 => simp at hj⟩
theorem evN_refs {m : Nat} {l : List Evt} : refsR m (rowsOf evN l) = true := rowsOf_refs fun x => by simp [evN, refs]
theorem evN_own {l : List Evt} : ∀ r ∈ rowsOf evN l, ∀ c ∈ r, owns c = false := rowsOf_owns' fun e c hc => by
  simp [evN] at hc
  rcases hc with rfl | rfl | rfl | rfl | rfl | rfl <;> rfl
theorem evN_frL {id : Nat} {rows : List (List AV)} {l : List Evt} : List.map (frL id rows) (rowsOf evN l) = rowsOf evN l := by
  unfold rowsOf
  rw [List.map_map]
  exact List.map_congr_left fun e _ => rfl
/-! The name of a case, the other log. -/
theorem nm_cat {i : Nat} : (⟨#[99]⟩ : ByteArray) ++ ⟨#[UInt8.ofNat (97 + (i : Int) / 26).toNat, UInt8.ofNat (97 + (i : Int) % 26).toNat]⟩ = nmI i := by
  have e1 : (97 + (i : Int) / 26).toNat = 97 + i / 26 := by omega
  have e2 : (97 + (i : Int) % 26).toNat = 97 + i % 26 := by omega
  rw [e1, e2]
  apply ba_eq
  simp [nmI]
theorem sz1 : (⟨#[99]⟩ : ByteArray).size = 1 := rfl
theorem sz2 {x y : UInt8} : (⟨#[x, y]⟩ : ByteArray).size = 2 := rfl
theorem wrap_u8 {n : Int} (h1 : 0 ≤ n) (h2 : n < 256) : wrapI .u8 n = n := by
  rw [wrapI_eq]; simp [IntKind.wrap, IntKind.bits, IntKind.signed]; omega
def zB : ByteArray := ⟨#[122]⟩
def zE : Evt := ⟨zB, zB, ByteArray.empty, 2, 0, []⟩
theorem zE_logV : logV [zE] = true := by
  have h0 : isNameS zB = true := by kernel_rfl
  have h3 : emptyS ByteArray.empty = true := by kernel_rfl
  have h4 : fldsOk [] 0 := fun j hj => absurd hj (by simp)
  have hz : eventV zE = true := by unfold eventV zE; simp [h0, h3, h4]
  unfold logV
  simp only [Bool.and_eq_true, decide_eq_true_eq]
  refine ⟨by simp, fun i hi _ => ?_⟩
  have hi0 : i = 0 := by simpa using hi
  subst hi0
  simp [evOk, hz]
theorem gen_data {n k : Nat} : ∀ e ∈ genL n k, e.data = [] := fun e he => by
  obtain ⟨i, j, _, _, rfl⟩ := gen_mem he
  rfl
theorem gen_size {n k : Nat} : ∀ e ∈ genL n k, e.case_.size ≤ maxLen := fun e he => by
  obtain ⟨i, j, _, _, rfl⟩ := gen_mem he
  rw [maxLen_eq]
  show (nmI i).size ≤ _
  have : (nmI i).size = 3 := rfl
  omega
theorem varR_nil : varR [] = ([], 0) := by simp [varR, varL, casesL, setB]
theorem blk_succ {k i j : Nat} {L : List Evt} : rowsOf evN (L ++ blkI j i) ++ [[.str (nmI i), .str (if j = 0 then nmI i else xB), .str ByteArray.empty, .int .i64 5, .int .i64 0, .nils]] = rowsOf evN (L ++ blkI (j + 1) i) := by
  have : blkI (j + 1) i = blkI j i ++ [evI i j] := by simp [blkI, List.range_succ]
  rw [this, ← List.append_assoc]
  simp only [rowsOf, List.map_append, List.map_cons, List.map_nil, evN, evI]
theorem gen_succ {n k : Nat} : genL (n + 1) k = genL n k ++ blkI k n := by simp [genL, List.range_succ]
set_option maxHeartbeats 16000000 in
theorem both (x0 : AV) (s0 : argS Try.prog 62 x0) (x1 : AV) (s1 : argS Try.prog 62 x1) : Pure Try.prog 6 [x0, x1] (.bool true) := by
  obtain ⟨c, rfl, hc⟩ := arg_int Try.underlying62 s0
  obtain ⟨d, rfl, hd⟩ := arg_int Try.underlying62 s1
  have hc' : 0 ≤ c ∧ c < 65536 := by simp [Lit.wf, IntKind.min, IntKind.max, IntKind.signed, IntKind.bits] at hc; omega
  have hd' : 0 ≤ d ∧ d < 65536 := by simp [Lit.wf, IntKind.min, IntKind.max, IntKind.signed, IntKind.bits] at hd; omega
  have wc : wrapI .i64 c = c := wrap_in (by omega) (by omega)
  have wd : wrapI .i64 d = d := wrap_in (by omega) (by omega)
  obtain ⟨n, hn, hn4⟩ : ∃ n : Nat, c.tmod 400 = (n : Int) ∧ n < 400 := ⟨(c.tmod 400).toNat, by rw [Int.tmod_eq_emod_of_nonneg (by omega)]; omega, by rw [Int.tmod_eq_emod_of_nonneg (by omega)]; omega⟩
  obtain ⟨k, hk, hk3⟩ : ∃ k : Nat, d.tmod 300 = (k : Int) ∧ k < 300 := ⟨(d.tmod 300).toNat, by rw [Int.tmod_eq_emod_of_nonneg (by omega)]; omega, by rw [Int.tmod_eq_emod_of_nonneg (by omega)]; omega⟩
  have hN : n * k ≤ 120000 := by
    have := Nat.mul_le_mul (Nat.le_of_lt hn4) (Nat.le_of_lt hk3)
    omega
  have wN : wrapI .i64 ((n : Int) * k) = ((n * k : Nat) : Int) := by rw [wrap_in (by rw [← Int.natCast_mul]; omega) (by rw [← Int.natCast_mul]; omega)]; exact (Int.natCast_mul n k).symm
  refine pure_of mixed Try.func6 rfl (by kernel_rfl) (of_decide_eq_true rfl) (by kernel_rfl) (vc_run ?_)
  by_cases h3 : 3000 < n * k
  · have h3' : (3000 : Int) < ((n * k : Nat) : Int) := by omega
    generalize n * k = N at *
    ((try simp -implicitDefEqProofs [-loopQ_n, wc, wd, hn, hk, wN, h3']) <;> (repeat' (first | (refine condD_dec ?_ ?_ <;> (intro hc; (try simp -implicitDefEqProofs [-loopQ_n, hc, wc, wd, hn, hk, wN, h3']))) | (refine guardD_dec ?_ ?_ <;> (intro hc; (try simp -implicitDefEqProofs [-loopQ_n, hc, wc, wd, hn, hk, wN, h3']))) | (refine condD_intro ?_ ?_ <;> (intro hd; have hc := hd; (try simp at hc) <;> (try simp -implicitDefEqProofs [-loopQ_n, hd, hc, wc, wd, hn, hk, wN, h3']))) | (refine guardD_intro ?_ ?_ <;> (intro hd; have hc := hd; (try simp at hc) <;> (try simp -implicitDefEqProofs [-loopQ_n, hd, hc, wc, wd, hn, hk, wN, h3']))) | (refine ldD_ep ?_ ?_; (focus kernel_rfl); (try simp -implicitDefEqProofs [-loopQ_n, wc, wd, hn, hk, wN, h3'])) | (refine callS_mk ?_; (try simp -implicitDefEqProofs [-loopQ_n, wc, wd, hn, hk, wN, h3']); (first | refine callS_intro (awake_pure) (.inl rfl) ?_); (try simp -implicitDefEqProofs [-loopQ_n, wc, wd, hn, hk, wN, h3'])))))
  have h3' : ¬ (3000 : Int) < ((n * k : Nat) : Int) := by omega
  obtain ⟨N, hNN⟩ : ∃ N, n * k = N := ⟨_, rfl⟩
  rw [hNN] at wN h3'
  ((try simp -implicitDefEqProofs [-loopQ_n, wc, wd, hn, hk, wN, h3']) <;> (repeat' (first | (refine condD_dec ?_ ?_ <;> (intro hc; (try simp -implicitDefEqProofs [-loopQ_n, hc, wc, wd, hn, hk, wN, h3']))) | (refine guardD_dec ?_ ?_ <;> (intro hc; (try simp -implicitDefEqProofs [-loopQ_n, hc, wc, wd, hn, hk, wN, h3']))) | (refine condD_intro ?_ ?_ <;> (intro hd; have hc := hd; (try simp at hc) <;> (try simp -implicitDefEqProofs [-loopQ_n, hd, hc, wc, wd, hn, hk, wN, h3']))) | (refine guardD_intro ?_ ?_ <;> (intro hd; have hc := hd; (try simp at hc) <;> (try simp -implicitDefEqProofs [-loopQ_n, hd, hc, wc, wd, hn, hk, wN, h3']))) | (refine ldD_ep ?_ ?_; (focus kernel_rfl); (try simp -implicitDefEqProofs [-loopQ_n, wc, wd, hn, hk, wN, h3'])) | (refine callS_mk ?_; (try simp -implicitDefEqProofs [-loopQ_n, wc, wd, hn, hk, wN, h3']); (first | refine callS_intro (awake_pure) (.inl rfl) ?_); (try simp -implicitDefEqProofs [-loopQ_n, wc, wd, hn, hk, wN, h3'])))))
  refine loop_intro (σ := Nat) (fun i => ⟨[(5, .int .i64 n), (6, .int .i64 k), (7, .op 0 0), (29, .int .i64 n), (30, .int .i64 i)], [.box 24 [.os 1 (genL i k).length], .row 54 true (rowsOf evN (genL i k))]⟩)
    (fun i => i ≤ n) (fun i => n - i) 0 (by simp) ?_ ?_
  · refine weak_of 1 1 rfl rfl ?_ ?_ <;> simp [genL, rowsOf]
  intro i hi
  by_cases h : i < n
  · have w1 : wrapI .i64 ((i : Int) + 1) = (i : Int) + 1 := wrap_in (by omega) (by omega)
    have hr2 : ([0, 1] : List Nat) = List.range 2 := rfl
    have q1 : wrapI .i64 ((i : Int) / 26) = (i : Int) / 26 := wrap_in (by omega) (by omega)
    have q2 : wrapI .i64 (97 + (i : Int) / 26) = 97 + (i : Int) / 26 := wrap_in (by omega) (by omega)
    have q3 : wrapI .u8 (97 + (i : Int) / 26) = 97 + (i : Int) / 26 := wrap_u8 (by omega) (by omega)
    have q4 : (i : Int).tmod 26 = (i : Int) % 26 := Int.tmod_eq_emod_of_nonneg (by omega)
    have q5 : wrapI .i64 (97 + (i : Int) % 26) = 97 + (i : Int) % 26 := wrap_in (by omega) (by omega)
    have q6 : wrapI .u8 (97 + (i : Int) % 26) = 97 + (i : Int) % 26 := wrap_u8 (by omega) (by omega)
    ((try simp -implicitDefEqProofs [-loopQ_n, h, hr2, q1, q2, q3, q4, q5, q6, unbytes, nm_cat, sz1, sz2]) <;> (repeat' (first | (refine condD_dec ?_ ?_ <;> (intro hc; (try simp -implicitDefEqProofs [-loopQ_n, hc, h, hr2, q1, q2, q3, q4, q5, q6, unbytes, nm_cat, sz1, sz2]))) | (refine guardD_dec ?_ ?_ <;> (intro hc; (try simp -implicitDefEqProofs [-loopQ_n, hc, h, hr2, q1, q2, q3, q4, q5, q6, unbytes, nm_cat, sz1, sz2]))) | (refine condD_intro ?_ ?_ <;> (intro hd; have hc := hd; (try simp at hc) <;> (try simp -implicitDefEqProofs [-loopQ_n, hd, hc, h, hr2, q1, q2, q3, q4, q5, q6, unbytes, nm_cat, sz1, sz2]))) | (refine guardD_intro ?_ ?_ <;> (intro hd; have hc := hd; (try simp at hc) <;> (try simp -implicitDefEqProofs [-loopQ_n, hd, hc, h, hr2, q1, q2, q3, q4, q5, q6, unbytes, nm_cat, sz1, sz2]))) | (refine ldD_ep ?_ ?_; (focus kernel_rfl); (try simp -implicitDefEqProofs [-loopQ_n, h, hr2, q1, q2, q3, q4, q5, q6, unbytes, nm_cat, sz1, sz2])))))
    refine loop_intro (σ := Nat) (fun j => ⟨[(5, .int .i64 n), (6, .int .i64 k), (7, .op 0 0), (9, .str (nmI i)), (29, .int .i64 n), (30, .int .i64 i), (44, .int .i64 k), (45, .int .i64 j)], [.box 24 [.os 1 (genL i k ++ blkI j i).length], .row 54 true (rowsOf evN (genL i k ++ blkI j i))]⟩)
      (fun j => j ≤ k) (fun j => k - j) 0 (by simp) ?_ ?_
    · refine weak_of 2 0 rfl rfl ?_ ?_ <;> simp [blkI, evN_refs]
    intro j hj
    have w10 : wrapI .i64 1 = 1 := wrap_in (by omega) (by omega)
    have hlen : (genL i k ++ blkI j i).length ≤ 1073741823 := by
      rw [List.length_append, genL_len, blkI_len]
      have := Nat.mul_le_mul (Nat.le_of_lt (Nat.lt_of_le_of_lt hi hn4)) (Nat.le_of_lt hk3)
      omega
    have hsn := blk_succ (k := k) (i := i) (j := j) (L := genL i k)
    have hsl : (genL i k ++ blkI j i).length + 1 = (genL i k ++ blkI (j + 1) i).length := by simp [blkI_len]; omega
    by_cases g : j < k
    · have w2 : wrapI .i64 ((j : Int) + 1) = (j : Int) + 1 := wrap_in (by omega) (by omega)
      generalize genL i k ++ blkI j i = L0 at *
      by_cases hj0 : j = 0
      · subst hj0
        rw [if_pos rfl] at hsn
        ((try simp -implicitDefEqProofs [-loopQ_n, g, hlen, hsn]) <;> (repeat' (first | (refine condD_dec ?_ ?_ <;> (intro hc; (try simp -implicitDefEqProofs [-loopQ_n, hc, g, hlen, hsn]))) | (refine guardD_dec ?_ ?_ <;> (intro hc; (try simp -implicitDefEqProofs [-loopQ_n, hc, g, hlen, hsn]))) | (refine condD_intro ?_ ?_ <;> (intro hd; have hc := hd; (try simp at hc) <;> (try simp -implicitDefEqProofs [-loopQ_n, hd, hc, g, hlen, hsn]))) | (refine guardD_intro ?_ ?_ <;> (intro hd; have hc := hd; (try simp at hc) <;> (try simp -implicitDefEqProofs [-loopQ_n, hd, hc, g, hlen, hsn]))) | (refine ldD_ep ?_ ?_; (focus kernel_rfl); (try simp -implicitDefEqProofs [-loopQ_n, g, hlen, hsn])))))
        refine loop_next 1 (by omega) (by omega) (weak_of 2 0 rfl rfl ?_ ?_)
        · simp [w10]
        · simp only [List.length_append, Nat.zero_add] at hsl
          simp [← hsl, evN_refs]
      · rw [if_neg hj0] at hsn
        have hj0' : ¬ (j : Int) = 0 := by omega
        have hx : (⟨#[120]⟩ : ByteArray) = xB := rfl
        ((try simp -implicitDefEqProofs [-loopQ_n, g, hlen, hj0, hj0', hx, hsn, w2]) <;> (repeat' (first | (refine condD_dec ?_ ?_ <;> (intro hc; (try simp -implicitDefEqProofs [-loopQ_n, hc, g, hlen, hj0, hj0', hx, hsn, w2]))) | (refine guardD_dec ?_ ?_ <;> (intro hc; (try simp -implicitDefEqProofs [-loopQ_n, hc, g, hlen, hj0, hj0', hx, hsn, w2]))) | (refine condD_intro ?_ ?_ <;> (intro hd; have hc := hd; (try simp at hc) <;> (try simp -implicitDefEqProofs [-loopQ_n, hd, hc, g, hlen, hj0, hj0', hx, hsn, w2]))) | (refine guardD_intro ?_ ?_ <;> (intro hd; have hc := hd; (try simp at hc) <;> (try simp -implicitDefEqProofs [-loopQ_n, hd, hc, g, hlen, hj0, hj0', hx, hsn, w2]))) | (refine ldD_ep ?_ ?_; (focus kernel_rfl); (try simp -implicitDefEqProofs [-loopQ_n, g, hlen, hj0, hj0', hx, hsn, w2])))))
        refine loop_next (j + 1) (by omega) (by omega) (weak_of 2 0 rfl rfl ?_ ?_)
        · simp [w2]
        · simp only [List.length_append] at hsl
          simp [← hsl, evN_refs]
    · have hjk : j = k := by omega
      subst hjk
      rw [← gen_succ]
      ((try simp -implicitDefEqProofs [-loopQ_n, g, w1]) <;> (repeat' (first | (refine condD_dec ?_ ?_ <;> (intro hc; (try simp -implicitDefEqProofs [-loopQ_n, hc, g, w1]))) | (refine guardD_dec ?_ ?_ <;> (intro hc; (try simp -implicitDefEqProofs [-loopQ_n, hc, g, w1]))) | (refine condD_intro ?_ ?_ <;> (intro hd; have hc := hd; (try simp at hc) <;> (try simp -implicitDefEqProofs [-loopQ_n, hd, hc, g, w1]))) | (refine guardD_intro ?_ ?_ <;> (intro hd; have hc := hd; (try simp at hc) <;> (try simp -implicitDefEqProofs [-loopQ_n, hd, hc, g, w1]))) | (refine ldD_ep ?_ ?_; (focus kernel_rfl); (try simp -implicitDefEqProofs [-loopQ_n, g, w1])))))
      refine loop_next (i + 1) (by omega) (by omega) (weak_of 2 0 rfl rfl ?_ ?_)
      · simp [w1]
      · simp [evN_refs]
  · have hin : i = n := by omega
    subst hin
    have hL := genL_len (n := i) (k := k)
    rw [hNN] at hL
    have hdt := gen_data (n := i) (k := k)
    have hsz := gen_size (n := i) (k := k)
    have hVal := log_pure (genL i k)
    -- what Variants hands back
    have hvar : ∃ r : List Vr × Int, Pure Try.prog 25 [.agg [.rs (rowsOf evtC (genL i k))]] (varO r) ∧
        (2000 < N → r = ([], 1) ∧ logV (genL i k) = false) ∧ (N ≤ 2000 → ((200 < k ∧ 0 < i) ∨ (300 < i ∧ 0 < k) → r = ([], 5)) ∧ (¬ ((200 < k ∧ 0 < i) ∨ (300 < i ∧ 0 < k)) → r.2 = 0 ∧ r.1.length = if k = 0 then 0 else i)) := by
      by_cases hb : 2000 < N
      · have hV := gen_bad (n := i) (k := k) (by omega)
        exact ⟨_, variants_bad _ hV, fun _ => ⟨rfl, hV⟩, fun q => by omega⟩
      · have hV := gen_logV (n := i) (k := k) (by omega) (by omega)
        refine ⟨_, variants_pure (genL i k) (by omega) hsz hV, fun q => by omega, fun _ => ?_⟩
        by_cases hk0 : k = 0
        · subst hk0
          have : genL i 0 = [] := List.eq_nil_of_length_eq_zero (by rw [genL_len]; omega)
          rw [this, varR_nil]
          exact ⟨fun q => by omega, fun _ => by simp⟩
        · rw [gen_varR (by omega) (by omega), if_neg hk0]
          have hvl := gen_varL (n := i) (k := k) (by omega) (by omega)
          by_cases c1 : 0 < i ∧ 200 < k
          · rw [if_pos c1]
            exact ⟨fun _ => rfl, fun q => absurd (.inl ⟨c1.2, c1.1⟩) q⟩
          · rw [if_neg c1]
            by_cases c2 : 300 < i
            · rw [if_pos c2]
              exact ⟨fun _ => rfl, fun q => absurd (.inr ⟨c2, by omega⟩) q⟩
            · rw [if_neg c2]
              exact ⟨fun q => by omega, fun _ => ⟨rfl, hvl⟩⟩
    obtain ⟨⟨R, e⟩, hvar, hr1, hr2⟩ := hvar
    -- what Merge hands back
    have hmer : ∃ m : List Evt × Int, Pure Try.prog 32 [.agg [.rs (rowsOf evtC (genL i k))], .agg [.rs (rowsOf evtC [zE])]] (logO m) ∧
        (2000 < N → m = ([], 1)) ∧ (N = 2000 → m = ([], 5)) ∧ (N < 2000 → m.2 = 0 ∧ m.1.length = N + 1) := by
      refine ⟨_, merge_pure (genL i k) [zE] (by omega) (by simp), fun hb => ?_, fun hb => ?_, fun hb => ?_⟩
      · unfold mergeR
        rw [if_neg (fun q => by rw [(hr1 hb).2] at q; exact absurd q.1 (by simp))]
      · unfold mergeR
        rw [if_pos ⟨gen_logV (n := i) (k := k) (by omega) (by omega), zE_logV⟩, if_pos (by simp; omega)]
      · unfold mergeR
        rw [if_pos ⟨gen_logV (n := i) (k := k) (by omega) (by omega), zE_logV⟩, if_neg (by simp; omega)]
        exact ⟨rfl, by simp only [mrgG_len]; simp; omega⟩
    obtain ⟨⟨M, f⟩, hmer, hm1, hm2, hm3⟩ := hmer
    have hvar' := arg1 hvar (x := .agg [.rs (rowsOf evN (genL i k))]) fun w X v => ro_logN hdt
    have hmer' := arg2 hmer (x := .agg [.rs (rowsOf evN (genL i k))]) (y := .agg [.rs (rowsOf evN [zE])]) (fun w X v => ro_logN hdt) fun w X v => ro_logN (by simp [zE])
    have hVal' := arg1 hVal (x := .agg [.rs (rowsOf evN (genL i k))]) fun w X v => ro_logN hdt
    generalize hLL : genL i k = L at *
    simp only [varO, logO] at hvar' hmer'
    ((try simp -implicitDefEqProofs [-loopQ_n, h]) <;> (repeat' (first | (refine condD_dec ?_ ?_ <;> (intro hc; (try simp -implicitDefEqProofs [-loopQ_n, hc, h]))) | (refine guardD_dec ?_ ?_ <;> (intro hc; (try simp -implicitDefEqProofs [-loopQ_n, hc, h]))) | (refine condD_intro ?_ ?_ <;> (intro hd; have hc := hd; (try simp at hc) <;> (try simp -implicitDefEqProofs [-loopQ_n, hd, hc, h]))) | (refine guardD_intro ?_ ?_ <;> (intro hd; have hc := hd; (try simp at hc) <;> (try simp -implicitDefEqProofs [-loopQ_n, hd, hc, h]))) | (refine ldD_ep ?_ ?_; (focus kernel_rfl); (try simp -implicitDefEqProofs [-loopQ_n, h])))))
    refine callG_intro (frz_G (id := 1) hvar' rfl evN_own ?_ rfl ?_)
    · simp [frL, frA, rowsOf_length]
    ((try simp -implicitDefEqProofs [-loopQ_n, frH, frB, frL, frA, rowsOf_length]) <;> (repeat' (first | (refine condD_dec ?_ ?_ <;> (intro hc; (try simp -implicitDefEqProofs [-loopQ_n, hc, frH, frB, frL, frA, rowsOf_length]))) | (refine guardD_dec ?_ ?_ <;> (intro hc; (try simp -implicitDefEqProofs [-loopQ_n, hc, frH, frB, frL, frA, rowsOf_length]))) | (refine condD_intro ?_ ?_ <;> (intro hd; have hc := hd; (try simp at hc) <;> (try simp -implicitDefEqProofs [-loopQ_n, hd, hc, frH, frB, frL, frA, rowsOf_length]))) | (refine guardD_intro ?_ ?_ <;> (intro hd; have hc := hd; (try simp at hc) <;> (try simp -implicitDefEqProofs [-loopQ_n, hd, hc, frH, frB, frL, frA, rowsOf_length]))) | (refine ldD_ep ?_ ?_; (focus kernel_rfl); (try simp -implicitDefEqProofs [-loopQ_n, frH, frB, frL, frA, rowsOf_length])))))
    refine callG_intro (frz_G (id := 2) hmer' rfl (fun x hx c hc => ?_) ?_ rfl ?_)
    · simp at hx
      subst hx
      simp at hc
      rcases hc with rfl | rfl | rfl | rfl | rfl | rfl <;> rfl
    · simp only [frL, frA, rowsOf, List.map_cons, List.map_nil]
      rfl
    clear hmer hvar hVal
    rcases Nat.lt_trichotomy N 2000 with hlt | heq | hgt
    · obtain ⟨hm, hml⟩ := hm3 hlt
      simp only at hm hml
      subst hm
      have f1 : ¬ (2000 : Int) < (N : Int) := by omega
      have f2 : ¬ (N : Int) = 2000 := by omega
      have f3 : (N : Int) < 2000 := by omega
      have f4 : M.length = N + 1 := hml
      have f4' : (M.length : Int) = (N : Int) + 1 := by omega
      have w4 : wrapI .i64 ((N : Int) + 1) = (N : Int) + 1 := wrap_in (by omega) (by omega)
      obtain ⟨hrA, hrB⟩ := hr2 (by omega)
      by_cases c1 : 200 < k
      · have c1' : (200 : Int) < (k : Int) := by omega
        by_cases c2 : 0 < i
        · have c2' : (0 : Int) < (i : Int) := by omega
          obtain ⟨rfl, rfl⟩ := Prod.mk.inj (hrA (.inl ⟨c1, c2⟩))
          ((try simp -implicitDefEqProofs [-loopQ_n, frH, frB, frL, frA, hL, rowsOf_length, f1, f2, f3, f4, f4', w4, c1, c1', c2, c2', rowsOf_nil]) <;> (repeat' (first | (refine condD_dec ?_ ?_ <;> (intro hc; (try simp -implicitDefEqProofs [-loopQ_n, hc, frH, frB, frL, frA, hL, rowsOf_length, f1, f2, f3, f4, f4', w4, c1, c1', c2, c2', rowsOf_nil]))) | (refine guardD_dec ?_ ?_ <;> (intro hc; (try simp -implicitDefEqProofs [-loopQ_n, hc, frH, frB, frL, frA, hL, rowsOf_length, f1, f2, f3, f4, f4', w4, c1, c1', c2, c2', rowsOf_nil]))) | (refine condD_intro ?_ ?_ <;> (intro hd; have hc := hd; (try simp at hc) <;> (try simp -implicitDefEqProofs [-loopQ_n, hd, hc, frH, frB, frL, frA, hL, rowsOf_length, f1, f2, f3, f4, f4', w4, c1, c1', c2, c2', rowsOf_nil]))) | (refine guardD_intro ?_ ?_ <;> (intro hd; have hc := hd; (try simp at hc) <;> (try simp -implicitDefEqProofs [-loopQ_n, hd, hc, frH, frB, frL, frA, hL, rowsOf_length, f1, f2, f3, f4, f4', w4, c1, c1', c2, c2', rowsOf_nil]))) | (refine ldD_ep ?_ ?_; (focus kernel_rfl); (try simp -implicitDefEqProofs [-loopQ_n, frH, frB, frL, frA, hL, rowsOf_length, f1, f2, f3, f4, f4', w4, c1, c1', c2, c2', rowsOf_nil])) | (refine callS_mk ?_; (try simp -implicitDefEqProofs [-loopQ_n, frH, frB, frL, frA, hL, rowsOf_length, f1, f2, f3, f4, f4', w4, c1, c1', c2, c2', rowsOf_nil]); (first | refine callS_intro (hVal') (.inl rfl) ?_); (try simp -implicitDefEqProofs [-loopQ_n, frH, frB, frL, frA, hL, rowsOf_length, f1, f2, f3, f4, f4', w4, c1, c1', c2, c2', rowsOf_nil])))))
        · have hi0 : i = 0 := by omega
          have k0 : ¬ (k : Int) = 0 := by omega
          have k0' : ¬ k = 0 := by omega
          have hq := hrB (by omega)
          rw [if_neg k0'] at hq
          obtain ⟨h1, h2⟩ := hq
          simp only at h1 h2
          subst h1 hi0
          ((try simp -implicitDefEqProofs [-loopQ_n, frH, frB, frL, frA, hL, rowsOf_length, f1, f2, f3, f4, f4', w4, c1, c1', k0, k0', h2]) <;> (repeat' (first | (refine condD_dec ?_ ?_ <;> (intro hc; (try simp -implicitDefEqProofs [-loopQ_n, hc, frH, frB, frL, frA, hL, rowsOf_length, f1, f2, f3, f4, f4', w4, c1, c1', k0, k0', h2]))) | (refine guardD_dec ?_ ?_ <;> (intro hc; (try simp -implicitDefEqProofs [-loopQ_n, hc, frH, frB, frL, frA, hL, rowsOf_length, f1, f2, f3, f4, f4', w4, c1, c1', k0, k0', h2]))) | (refine condD_intro ?_ ?_ <;> (intro hd; have hc := hd; (try simp at hc) <;> (try simp -implicitDefEqProofs [-loopQ_n, hd, hc, frH, frB, frL, frA, hL, rowsOf_length, f1, f2, f3, f4, f4', w4, c1, c1', k0, k0', h2]))) | (refine guardD_intro ?_ ?_ <;> (intro hd; have hc := hd; (try simp at hc) <;> (try simp -implicitDefEqProofs [-loopQ_n, hd, hc, frH, frB, frL, frA, hL, rowsOf_length, f1, f2, f3, f4, f4', w4, c1, c1', k0, k0', h2]))) | (refine ldD_ep ?_ ?_; (focus kernel_rfl); (try simp -implicitDefEqProofs [-loopQ_n, frH, frB, frL, frA, hL, rowsOf_length, f1, f2, f3, f4, f4', w4, c1, c1', k0, k0', h2])) | (refine callS_mk ?_; (try simp -implicitDefEqProofs [-loopQ_n, frH, frB, frL, frA, hL, rowsOf_length, f1, f2, f3, f4, f4', w4, c1, c1', k0, k0', h2]); (first | refine callS_intro (hVal') (.inl rfl) ?_); (try simp -implicitDefEqProofs [-loopQ_n, frH, frB, frL, frA, hL, rowsOf_length, f1, f2, f3, f4, f4', w4, c1, c1', k0, k0', h2])))))
      have c1' : ¬ (200 : Int) < (k : Int) := by omega
      by_cases c4 : k = 0
      · subst c4
        obtain ⟨h1, h2⟩ := hrB (by omega)
        rw [if_pos rfl] at h2
        simp only at h1 h2
        subst h1
        by_cases c3 : 300 < i
        · have c3' : (300 : Int) < (i : Int) := by omega
          ((try simp -implicitDefEqProofs [-loopQ_n, frH, frB, frL, frA, hL, rowsOf_length, f1, f2, f3, f4, f4', w4, c1, c1', c3, c3', h2]) <;> (repeat' (first | (refine condD_dec ?_ ?_ <;> (intro hc; (try simp -implicitDefEqProofs [-loopQ_n, hc, frH, frB, frL, frA, hL, rowsOf_length, f1, f2, f3, f4, f4', w4, c1, c1', c3, c3', h2]))) | (refine guardD_dec ?_ ?_ <;> (intro hc; (try simp -implicitDefEqProofs [-loopQ_n, hc, frH, frB, frL, frA, hL, rowsOf_length, f1, f2, f3, f4, f4', w4, c1, c1', c3, c3', h2]))) | (refine condD_intro ?_ ?_ <;> (intro hd; have hc := hd; (try simp at hc) <;> (try simp -implicitDefEqProofs [-loopQ_n, hd, hc, frH, frB, frL, frA, hL, rowsOf_length, f1, f2, f3, f4, f4', w4, c1, c1', c3, c3', h2]))) | (refine guardD_intro ?_ ?_ <;> (intro hd; have hc := hd; (try simp at hc) <;> (try simp -implicitDefEqProofs [-loopQ_n, hd, hc, frH, frB, frL, frA, hL, rowsOf_length, f1, f2, f3, f4, f4', w4, c1, c1', c3, c3', h2]))) | (refine ldD_ep ?_ ?_; (focus kernel_rfl); (try simp -implicitDefEqProofs [-loopQ_n, frH, frB, frL, frA, hL, rowsOf_length, f1, f2, f3, f4, f4', w4, c1, c1', c3, c3', h2])) | (refine callS_mk ?_; (try simp -implicitDefEqProofs [-loopQ_n, frH, frB, frL, frA, hL, rowsOf_length, f1, f2, f3, f4, f4', w4, c1, c1', c3, c3', h2]); (first | refine callS_intro (hVal') (.inl rfl) ?_); (try simp -implicitDefEqProofs [-loopQ_n, frH, frB, frL, frA, hL, rowsOf_length, f1, f2, f3, f4, f4', w4, c1, c1', c3, c3', h2])))))
        · have c3' : ¬ (300 : Int) < (i : Int) := by omega
          ((try simp -implicitDefEqProofs [-loopQ_n, frH, frB, frL, frA, hL, rowsOf_length, f1, f2, f3, f4, f4', w4, c1, c1', c3, c3', h2]) <;> (repeat' (first | (refine condD_dec ?_ ?_ <;> (intro hc; (try simp -implicitDefEqProofs [-loopQ_n, hc, frH, frB, frL, frA, hL, rowsOf_length, f1, f2, f3, f4, f4', w4, c1, c1', c3, c3', h2]))) | (refine guardD_dec ?_ ?_ <;> (intro hc; (try simp -implicitDefEqProofs [-loopQ_n, hc, frH, frB, frL, frA, hL, rowsOf_length, f1, f2, f3, f4, f4', w4, c1, c1', c3, c3', h2]))) | (refine condD_intro ?_ ?_ <;> (intro hd; have hc := hd; (try simp at hc) <;> (try simp -implicitDefEqProofs [-loopQ_n, hd, hc, frH, frB, frL, frA, hL, rowsOf_length, f1, f2, f3, f4, f4', w4, c1, c1', c3, c3', h2]))) | (refine guardD_intro ?_ ?_ <;> (intro hd; have hc := hd; (try simp at hc) <;> (try simp -implicitDefEqProofs [-loopQ_n, hd, hc, frH, frB, frL, frA, hL, rowsOf_length, f1, f2, f3, f4, f4', w4, c1, c1', c3, c3', h2]))) | (refine ldD_ep ?_ ?_; (focus kernel_rfl); (try simp -implicitDefEqProofs [-loopQ_n, frH, frB, frL, frA, hL, rowsOf_length, f1, f2, f3, f4, f4', w4, c1, c1', c3, c3', h2])) | (refine callS_mk ?_; (try simp -implicitDefEqProofs [-loopQ_n, frH, frB, frL, frA, hL, rowsOf_length, f1, f2, f3, f4, f4', w4, c1, c1', c3, c3', h2]); (first | refine callS_intro (hVal') (.inl rfl) ?_); (try simp -implicitDefEqProofs [-loopQ_n, frH, frB, frL, frA, hL, rowsOf_length, f1, f2, f3, f4, f4', w4, c1, c1', c3, c3', h2])))))
      have c4' : (0 : Int) < (k : Int) := by omega
      have c4k : 0 < k := by omega
      have k0 : ¬ (k : Int) = 0 := by omega
      by_cases c3 : 300 < i
      · have c3' : (300 : Int) < (i : Int) := by omega
        obtain ⟨rfl, rfl⟩ := Prod.mk.inj (hrA (.inr ⟨c3, c4k⟩))
        ((try simp -implicitDefEqProofs [-loopQ_n, frH, frB, frL, frA, hL, rowsOf_length, f1, f2, f3, f4, f4', w4, c1, c1', c3, c3', c4, c4', c4k, k0, rowsOf_nil]) <;> (repeat' (first | (refine condD_dec ?_ ?_ <;> (intro hc; (try simp -implicitDefEqProofs [-loopQ_n, hc, frH, frB, frL, frA, hL, rowsOf_length, f1, f2, f3, f4, f4', w4, c1, c1', c3, c3', c4, c4', c4k, k0, rowsOf_nil]))) | (refine guardD_dec ?_ ?_ <;> (intro hc; (try simp -implicitDefEqProofs [-loopQ_n, hc, frH, frB, frL, frA, hL, rowsOf_length, f1, f2, f3, f4, f4', w4, c1, c1', c3, c3', c4, c4', c4k, k0, rowsOf_nil]))) | (refine condD_intro ?_ ?_ <;> (intro hd; have hc := hd; (try simp at hc) <;> (try simp -implicitDefEqProofs [-loopQ_n, hd, hc, frH, frB, frL, frA, hL, rowsOf_length, f1, f2, f3, f4, f4', w4, c1, c1', c3, c3', c4, c4', c4k, k0, rowsOf_nil]))) | (refine guardD_intro ?_ ?_ <;> (intro hd; have hc := hd; (try simp at hc) <;> (try simp -implicitDefEqProofs [-loopQ_n, hd, hc, frH, frB, frL, frA, hL, rowsOf_length, f1, f2, f3, f4, f4', w4, c1, c1', c3, c3', c4, c4', c4k, k0, rowsOf_nil]))) | (refine ldD_ep ?_ ?_; (focus kernel_rfl); (try simp -implicitDefEqProofs [-loopQ_n, frH, frB, frL, frA, hL, rowsOf_length, f1, f2, f3, f4, f4', w4, c1, c1', c3, c3', c4, c4', c4k, k0, rowsOf_nil])) | (refine callS_mk ?_; (try simp -implicitDefEqProofs [-loopQ_n, frH, frB, frL, frA, hL, rowsOf_length, f1, f2, f3, f4, f4', w4, c1, c1', c3, c3', c4, c4', c4k, k0, rowsOf_nil]); (first | refine callS_intro (hVal') (.inl rfl) ?_); (try simp -implicitDefEqProofs [-loopQ_n, frH, frB, frL, frA, hL, rowsOf_length, f1, f2, f3, f4, f4', w4, c1, c1', c3, c3', c4, c4', c4k, k0, rowsOf_nil])))))
      · have c3' : ¬ (300 : Int) < (i : Int) := by omega
        have hq := hrB (by omega)
        rw [if_neg c4] at hq
        obtain ⟨h1, h2⟩ := hq
        simp only at h1 h2
        subst h1
        ((try simp -implicitDefEqProofs [-loopQ_n, frH, frB, frL, frA, hL, rowsOf_length, f1, f2, f3, f4, f4', w4, c1, c1', c3, c3', c4, c4', c4k, k0, h2]) <;> (repeat' (first | (refine condD_dec ?_ ?_ <;> (intro hc; (try simp -implicitDefEqProofs [-loopQ_n, hc, frH, frB, frL, frA, hL, rowsOf_length, f1, f2, f3, f4, f4', w4, c1, c1', c3, c3', c4, c4', c4k, k0, h2]))) | (refine guardD_dec ?_ ?_ <;> (intro hc; (try simp -implicitDefEqProofs [-loopQ_n, hc, frH, frB, frL, frA, hL, rowsOf_length, f1, f2, f3, f4, f4', w4, c1, c1', c3, c3', c4, c4', c4k, k0, h2]))) | (refine condD_intro ?_ ?_ <;> (intro hd; have hc := hd; (try simp at hc) <;> (try simp -implicitDefEqProofs [-loopQ_n, hd, hc, frH, frB, frL, frA, hL, rowsOf_length, f1, f2, f3, f4, f4', w4, c1, c1', c3, c3', c4, c4', c4k, k0, h2]))) | (refine guardD_intro ?_ ?_ <;> (intro hd; have hc := hd; (try simp at hc) <;> (try simp -implicitDefEqProofs [-loopQ_n, hd, hc, frH, frB, frL, frA, hL, rowsOf_length, f1, f2, f3, f4, f4', w4, c1, c1', c3, c3', c4, c4', c4k, k0, h2]))) | (refine ldD_ep ?_ ?_; (focus kernel_rfl); (try simp -implicitDefEqProofs [-loopQ_n, frH, frB, frL, frA, hL, rowsOf_length, f1, f2, f3, f4, f4', w4, c1, c1', c3, c3', c4, c4', c4k, k0, h2])) | (refine callS_mk ?_; (try simp -implicitDefEqProofs [-loopQ_n, frH, frB, frL, frA, hL, rowsOf_length, f1, f2, f3, f4, f4', w4, c1, c1', c3, c3', c4, c4', c4k, k0, h2]); (first | refine callS_intro (hVal') (.inl rfl) ?_); (try simp -implicitDefEqProofs [-loopQ_n, frH, frB, frL, frA, hL, rowsOf_length, f1, f2, f3, f4, f4', w4, c1, c1', c3, c3', c4, c4', c4k, k0, h2])))))
    · subst heq
      obtain ⟨rfl, rfl⟩ := Prod.mk.inj (hm2 rfl)
      have f1 : ¬ (2000 : Int) < ((2000 : Nat) : Int) := by omega
      have f2 : ((2000 : Nat) : Int) = 2000 := rfl
      have f3 : ¬ ((2000 : Nat) : Int) < 2000 := by omega
      have f4 : (rowsOf evtC ([] : List Evt)).length = 0 := rfl
      have f4' : (rowsOf evtC ([] : List Evt)) = [] := rfl
      have w4 : wrapI .i64 ((2000 : Int) + 1) = (2000 : Int) + 1 := wrap_in (by omega) (by omega)
      obtain ⟨hrA, hrB⟩ := hr2 (by omega)
      by_cases c1 : 200 < k
      · have c1' : (200 : Int) < (k : Int) := by omega
        by_cases c2 : 0 < i
        · have c2' : (0 : Int) < (i : Int) := by omega
          obtain ⟨rfl, rfl⟩ := Prod.mk.inj (hrA (.inl ⟨c1, c2⟩))
          ((try simp -implicitDefEqProofs [-loopQ_n, frH, frB, frL, frA, hL, rowsOf_length, f1, f2, f3, f4, f4', w4, c1, c1', c2, c2', rowsOf_nil]) <;> (repeat' (first | (refine condD_dec ?_ ?_ <;> (intro hc; (try simp -implicitDefEqProofs [-loopQ_n, hc, frH, frB, frL, frA, hL, rowsOf_length, f1, f2, f3, f4, f4', w4, c1, c1', c2, c2', rowsOf_nil]))) | (refine guardD_dec ?_ ?_ <;> (intro hc; (try simp -implicitDefEqProofs [-loopQ_n, hc, frH, frB, frL, frA, hL, rowsOf_length, f1, f2, f3, f4, f4', w4, c1, c1', c2, c2', rowsOf_nil]))) | (refine condD_intro ?_ ?_ <;> (intro hd; have hc := hd; (try simp at hc) <;> (try simp -implicitDefEqProofs [-loopQ_n, hd, hc, frH, frB, frL, frA, hL, rowsOf_length, f1, f2, f3, f4, f4', w4, c1, c1', c2, c2', rowsOf_nil]))) | (refine guardD_intro ?_ ?_ <;> (intro hd; have hc := hd; (try simp at hc) <;> (try simp -implicitDefEqProofs [-loopQ_n, hd, hc, frH, frB, frL, frA, hL, rowsOf_length, f1, f2, f3, f4, f4', w4, c1, c1', c2, c2', rowsOf_nil]))) | (refine ldD_ep ?_ ?_; (focus kernel_rfl); (try simp -implicitDefEqProofs [-loopQ_n, frH, frB, frL, frA, hL, rowsOf_length, f1, f2, f3, f4, f4', w4, c1, c1', c2, c2', rowsOf_nil])) | (refine callS_mk ?_; (try simp -implicitDefEqProofs [-loopQ_n, frH, frB, frL, frA, hL, rowsOf_length, f1, f2, f3, f4, f4', w4, c1, c1', c2, c2', rowsOf_nil]); (first | refine callS_intro (hVal') (.inl rfl) ?_); (try simp -implicitDefEqProofs [-loopQ_n, frH, frB, frL, frA, hL, rowsOf_length, f1, f2, f3, f4, f4', w4, c1, c1', c2, c2', rowsOf_nil])))))
        · have hi0 : i = 0 := by omega
          have k0 : ¬ (k : Int) = 0 := by omega
          have k0' : ¬ k = 0 := by omega
          have hq := hrB (by omega)
          rw [if_neg k0'] at hq
          obtain ⟨h1, h2⟩ := hq
          simp only at h1 h2
          subst h1 hi0
          ((try simp -implicitDefEqProofs [-loopQ_n, frH, frB, frL, frA, hL, rowsOf_length, f1, f2, f3, f4, f4', w4, c1, c1', k0, k0', h2]) <;> (repeat' (first | (refine condD_dec ?_ ?_ <;> (intro hc; (try simp -implicitDefEqProofs [-loopQ_n, hc, frH, frB, frL, frA, hL, rowsOf_length, f1, f2, f3, f4, f4', w4, c1, c1', k0, k0', h2]))) | (refine guardD_dec ?_ ?_ <;> (intro hc; (try simp -implicitDefEqProofs [-loopQ_n, hc, frH, frB, frL, frA, hL, rowsOf_length, f1, f2, f3, f4, f4', w4, c1, c1', k0, k0', h2]))) | (refine condD_intro ?_ ?_ <;> (intro hd; have hc := hd; (try simp at hc) <;> (try simp -implicitDefEqProofs [-loopQ_n, hd, hc, frH, frB, frL, frA, hL, rowsOf_length, f1, f2, f3, f4, f4', w4, c1, c1', k0, k0', h2]))) | (refine guardD_intro ?_ ?_ <;> (intro hd; have hc := hd; (try simp at hc) <;> (try simp -implicitDefEqProofs [-loopQ_n, hd, hc, frH, frB, frL, frA, hL, rowsOf_length, f1, f2, f3, f4, f4', w4, c1, c1', k0, k0', h2]))) | (refine ldD_ep ?_ ?_; (focus kernel_rfl); (try simp -implicitDefEqProofs [-loopQ_n, frH, frB, frL, frA, hL, rowsOf_length, f1, f2, f3, f4, f4', w4, c1, c1', k0, k0', h2])) | (refine callS_mk ?_; (try simp -implicitDefEqProofs [-loopQ_n, frH, frB, frL, frA, hL, rowsOf_length, f1, f2, f3, f4, f4', w4, c1, c1', k0, k0', h2]); (first | refine callS_intro (hVal') (.inl rfl) ?_); (try simp -implicitDefEqProofs [-loopQ_n, frH, frB, frL, frA, hL, rowsOf_length, f1, f2, f3, f4, f4', w4, c1, c1', k0, k0', h2])))))
      have c1' : ¬ (200 : Int) < (k : Int) := by omega
      by_cases c4 : k = 0
      · subst c4
        obtain ⟨h1, h2⟩ := hrB (by omega)
        rw [if_pos rfl] at h2
        simp only at h1 h2
        subst h1
        by_cases c3 : 300 < i
        · have c3' : (300 : Int) < (i : Int) := by omega
          ((try simp -implicitDefEqProofs [-loopQ_n, frH, frB, frL, frA, hL, rowsOf_length, f1, f2, f3, f4, f4', w4, c1, c1', c3, c3', h2]) <;> (repeat' (first | (refine condD_dec ?_ ?_ <;> (intro hc; (try simp -implicitDefEqProofs [-loopQ_n, hc, frH, frB, frL, frA, hL, rowsOf_length, f1, f2, f3, f4, f4', w4, c1, c1', c3, c3', h2]))) | (refine guardD_dec ?_ ?_ <;> (intro hc; (try simp -implicitDefEqProofs [-loopQ_n, hc, frH, frB, frL, frA, hL, rowsOf_length, f1, f2, f3, f4, f4', w4, c1, c1', c3, c3', h2]))) | (refine condD_intro ?_ ?_ <;> (intro hd; have hc := hd; (try simp at hc) <;> (try simp -implicitDefEqProofs [-loopQ_n, hd, hc, frH, frB, frL, frA, hL, rowsOf_length, f1, f2, f3, f4, f4', w4, c1, c1', c3, c3', h2]))) | (refine guardD_intro ?_ ?_ <;> (intro hd; have hc := hd; (try simp at hc) <;> (try simp -implicitDefEqProofs [-loopQ_n, hd, hc, frH, frB, frL, frA, hL, rowsOf_length, f1, f2, f3, f4, f4', w4, c1, c1', c3, c3', h2]))) | (refine ldD_ep ?_ ?_; (focus kernel_rfl); (try simp -implicitDefEqProofs [-loopQ_n, frH, frB, frL, frA, hL, rowsOf_length, f1, f2, f3, f4, f4', w4, c1, c1', c3, c3', h2])) | (refine callS_mk ?_; (try simp -implicitDefEqProofs [-loopQ_n, frH, frB, frL, frA, hL, rowsOf_length, f1, f2, f3, f4, f4', w4, c1, c1', c3, c3', h2]); (first | refine callS_intro (hVal') (.inl rfl) ?_); (try simp -implicitDefEqProofs [-loopQ_n, frH, frB, frL, frA, hL, rowsOf_length, f1, f2, f3, f4, f4', w4, c1, c1', c3, c3', h2])))))
        · have c3' : ¬ (300 : Int) < (i : Int) := by omega
          ((try simp -implicitDefEqProofs [-loopQ_n, frH, frB, frL, frA, hL, rowsOf_length, f1, f2, f3, f4, f4', w4, c1, c1', c3, c3', h2]) <;> (repeat' (first | (refine condD_dec ?_ ?_ <;> (intro hc; (try simp -implicitDefEqProofs [-loopQ_n, hc, frH, frB, frL, frA, hL, rowsOf_length, f1, f2, f3, f4, f4', w4, c1, c1', c3, c3', h2]))) | (refine guardD_dec ?_ ?_ <;> (intro hc; (try simp -implicitDefEqProofs [-loopQ_n, hc, frH, frB, frL, frA, hL, rowsOf_length, f1, f2, f3, f4, f4', w4, c1, c1', c3, c3', h2]))) | (refine condD_intro ?_ ?_ <;> (intro hd; have hc := hd; (try simp at hc) <;> (try simp -implicitDefEqProofs [-loopQ_n, hd, hc, frH, frB, frL, frA, hL, rowsOf_length, f1, f2, f3, f4, f4', w4, c1, c1', c3, c3', h2]))) | (refine guardD_intro ?_ ?_ <;> (intro hd; have hc := hd; (try simp at hc) <;> (try simp -implicitDefEqProofs [-loopQ_n, hd, hc, frH, frB, frL, frA, hL, rowsOf_length, f1, f2, f3, f4, f4', w4, c1, c1', c3, c3', h2]))) | (refine ldD_ep ?_ ?_; (focus kernel_rfl); (try simp -implicitDefEqProofs [-loopQ_n, frH, frB, frL, frA, hL, rowsOf_length, f1, f2, f3, f4, f4', w4, c1, c1', c3, c3', h2])) | (refine callS_mk ?_; (try simp -implicitDefEqProofs [-loopQ_n, frH, frB, frL, frA, hL, rowsOf_length, f1, f2, f3, f4, f4', w4, c1, c1', c3, c3', h2]); (first | refine callS_intro (hVal') (.inl rfl) ?_); (try simp -implicitDefEqProofs [-loopQ_n, frH, frB, frL, frA, hL, rowsOf_length, f1, f2, f3, f4, f4', w4, c1, c1', c3, c3', h2])))))
      have c4' : (0 : Int) < (k : Int) := by omega
      have c4k : 0 < k := by omega
      have k0 : ¬ (k : Int) = 0 := by omega
      by_cases c3 : 300 < i
      · have c3' : (300 : Int) < (i : Int) := by omega
        obtain ⟨rfl, rfl⟩ := Prod.mk.inj (hrA (.inr ⟨c3, c4k⟩))
        ((try simp -implicitDefEqProofs [-loopQ_n, frH, frB, frL, frA, hL, rowsOf_length, f1, f2, f3, f4, f4', w4, c1, c1', c3, c3', c4, c4', c4k, k0, rowsOf_nil]) <;> (repeat' (first | (refine condD_dec ?_ ?_ <;> (intro hc; (try simp -implicitDefEqProofs [-loopQ_n, hc, frH, frB, frL, frA, hL, rowsOf_length, f1, f2, f3, f4, f4', w4, c1, c1', c3, c3', c4, c4', c4k, k0, rowsOf_nil]))) | (refine guardD_dec ?_ ?_ <;> (intro hc; (try simp -implicitDefEqProofs [-loopQ_n, hc, frH, frB, frL, frA, hL, rowsOf_length, f1, f2, f3, f4, f4', w4, c1, c1', c3, c3', c4, c4', c4k, k0, rowsOf_nil]))) | (refine condD_intro ?_ ?_ <;> (intro hd; have hc := hd; (try simp at hc) <;> (try simp -implicitDefEqProofs [-loopQ_n, hd, hc, frH, frB, frL, frA, hL, rowsOf_length, f1, f2, f3, f4, f4', w4, c1, c1', c3, c3', c4, c4', c4k, k0, rowsOf_nil]))) | (refine guardD_intro ?_ ?_ <;> (intro hd; have hc := hd; (try simp at hc) <;> (try simp -implicitDefEqProofs [-loopQ_n, hd, hc, frH, frB, frL, frA, hL, rowsOf_length, f1, f2, f3, f4, f4', w4, c1, c1', c3, c3', c4, c4', c4k, k0, rowsOf_nil]))) | (refine ldD_ep ?_ ?_; (focus kernel_rfl); (try simp -implicitDefEqProofs [-loopQ_n, frH, frB, frL, frA, hL, rowsOf_length, f1, f2, f3, f4, f4', w4, c1, c1', c3, c3', c4, c4', c4k, k0, rowsOf_nil])) | (refine callS_mk ?_; (try simp -implicitDefEqProofs [-loopQ_n, frH, frB, frL, frA, hL, rowsOf_length, f1, f2, f3, f4, f4', w4, c1, c1', c3, c3', c4, c4', c4k, k0, rowsOf_nil]); (first | refine callS_intro (hVal') (.inl rfl) ?_); (try simp -implicitDefEqProofs [-loopQ_n, frH, frB, frL, frA, hL, rowsOf_length, f1, f2, f3, f4, f4', w4, c1, c1', c3, c3', c4, c4', c4k, k0, rowsOf_nil])))))
      · have c3' : ¬ (300 : Int) < (i : Int) := by omega
        have hq := hrB (by omega)
        rw [if_neg c4] at hq
        obtain ⟨h1, h2⟩ := hq
        simp only at h1 h2
        subst h1
        ((try simp -implicitDefEqProofs [-loopQ_n, frH, frB, frL, frA, hL, rowsOf_length, f1, f2, f3, f4, f4', w4, c1, c1', c3, c3', c4, c4', c4k, k0, h2]) <;> (repeat' (first | (refine condD_dec ?_ ?_ <;> (intro hc; (try simp -implicitDefEqProofs [-loopQ_n, hc, frH, frB, frL, frA, hL, rowsOf_length, f1, f2, f3, f4, f4', w4, c1, c1', c3, c3', c4, c4', c4k, k0, h2]))) | (refine guardD_dec ?_ ?_ <;> (intro hc; (try simp -implicitDefEqProofs [-loopQ_n, hc, frH, frB, frL, frA, hL, rowsOf_length, f1, f2, f3, f4, f4', w4, c1, c1', c3, c3', c4, c4', c4k, k0, h2]))) | (refine condD_intro ?_ ?_ <;> (intro hd; have hc := hd; (try simp at hc) <;> (try simp -implicitDefEqProofs [-loopQ_n, hd, hc, frH, frB, frL, frA, hL, rowsOf_length, f1, f2, f3, f4, f4', w4, c1, c1', c3, c3', c4, c4', c4k, k0, h2]))) | (refine guardD_intro ?_ ?_ <;> (intro hd; have hc := hd; (try simp at hc) <;> (try simp -implicitDefEqProofs [-loopQ_n, hd, hc, frH, frB, frL, frA, hL, rowsOf_length, f1, f2, f3, f4, f4', w4, c1, c1', c3, c3', c4, c4', c4k, k0, h2]))) | (refine ldD_ep ?_ ?_; (focus kernel_rfl); (try simp -implicitDefEqProofs [-loopQ_n, frH, frB, frL, frA, hL, rowsOf_length, f1, f2, f3, f4, f4', w4, c1, c1', c3, c3', c4, c4', c4k, k0, h2])) | (refine callS_mk ?_; (try simp -implicitDefEqProofs [-loopQ_n, frH, frB, frL, frA, hL, rowsOf_length, f1, f2, f3, f4, f4', w4, c1, c1', c3, c3', c4, c4', c4k, k0, h2]); (first | refine callS_intro (hVal') (.inl rfl) ?_); (try simp -implicitDefEqProofs [-loopQ_n, frH, frB, frL, frA, hL, rowsOf_length, f1, f2, f3, f4, f4', w4, c1, c1', c3, c3', c4, c4', c4k, k0, h2])))))
    · obtain ⟨rfl, rfl⟩ := Prod.mk.inj (hm1 hgt)
      obtain ⟨hq, hVb⟩ := hr1 hgt
      obtain ⟨rfl, rfl⟩ := Prod.mk.inj hq
      have f1 : (2000 : Int) < (N : Int) := by omega
      rw [hVb] at hVal'
      ((try simp -implicitDefEqProofs [-loopQ_n, frH, frB, frL, frA, hL, rowsOf_length, rowsOf_nil, f1]) <;> (repeat' (first | (refine condD_dec ?_ ?_ <;> (intro hc; (try simp -implicitDefEqProofs [-loopQ_n, hc, frH, frB, frL, frA, hL, rowsOf_length, rowsOf_nil, f1]))) | (refine guardD_dec ?_ ?_ <;> (intro hc; (try simp -implicitDefEqProofs [-loopQ_n, hc, frH, frB, frL, frA, hL, rowsOf_length, rowsOf_nil, f1]))) | (refine condD_intro ?_ ?_ <;> (intro hd; have hc := hd; (try simp at hc) <;> (try simp -implicitDefEqProofs [-loopQ_n, hd, hc, frH, frB, frL, frA, hL, rowsOf_length, rowsOf_nil, f1]))) | (refine guardD_intro ?_ ?_ <;> (intro hd; have hc := hd; (try simp at hc) <;> (try simp -implicitDefEqProofs [-loopQ_n, hd, hc, frH, frB, frL, frA, hL, rowsOf_length, rowsOf_nil, f1]))) | (refine ldD_ep ?_ ?_; (focus kernel_rfl); (try simp -implicitDefEqProofs [-loopQ_n, frH, frB, frL, frA, hL, rowsOf_length, rowsOf_nil, f1])) | (refine callS_mk ?_; (try simp -implicitDefEqProofs [-loopQ_n, frH, frB, frL, frA, hL, rowsOf_length, rowsOf_nil, f1]); (first | refine callS_intro (hVal') (.inl rfl) ?_); (try simp -implicitDefEqProofs [-loopQ_n, frH, frB, frL, frA, hL, rowsOf_length, rowsOf_nil, f1])))))
theorem walk (W : World) (hvo : VarsOk W (fun _ => False)) (v0 : Value) (x0 : AV) (r0 : RO W (fun _ => False) x0 v0) (s0 : argS Try.prog 62 x0) (v1 : Value) (x1 : AV) (r1 : RO W (fun _ => False) x1 v1) (s1 : argS Try.prog 62 x1) :
    Calls Try.prog 6 #[v0, v1] W fun e w' => e = .returned (.bool true) ∧ Below W.heap.size W w' := by
  refine ((both x0 s0 x1 s1).2 W (fun _ => False) _ (fun _ h => h.elim) hvo rfl ?_).mono ?_
  · intro j x v hj hv
    match j with
    | 0 => simp at hj hv; subst hj hv; exact r0
    | 1 => simp at hj hv; subst hj hv; exact r1
    | j + 2 => simp at hj
  · rintro e w' ⟨v, rfl, hv, hb⟩
    rw [ro_tt hv]
    exact ⟨rfl, hb⟩
end
set_option maxRecDepth 100000 in
theorem lifted (os : Os) (started : os.Started) (H : Type) (enc : TypeId × Value → H) :
    ReturnsInHanded {} Try.checked os 6 .any (Rows.eventlogManySpec.pre6 enc Try.prog Try.f6 Rows.eventlogManyRow.domain false) (Rows.eventlogManySpec.post enc Try.prog Try.f6 false true false false) := by
  refine returnsInHanded_of_change (C := Try.checked) (@ownK ⟨fun _ => none⟩) started (by kernel_rfl) Try.func6
    (ChangeSpec.witness6 (enc := enc) (C := Try.checked) false ⟨#[], #[.int .u16 0, .int .u16 0], []⟩ 8 (by kernel_rfl) (by kernel_rfl) (by kernel_rfl) (by kernel_rfl)) ?_
  intro W base args ds gs before hval0 hW hcnd _
  have hval : ∀ (j : Nat) t v, Try.f6.params[j]? = some t → args[j]? = some v → Value.okWide Try.prog W .any base t v := hval0
  have hW' := hW
  obtain ⟨p, q, hA0, hV, rfl, hfz, hnd⟩ := hW
  have hA : DataW.TrodAll enc Try.prog W 0 (fun _ => true) true Try.f6.params.toList args.toList ds p := hA0
  rw [Try.params6] at hA hval
  obtain ⟨v0, vs0, d0, ds0, p0, q0, hargs, rfl, rfl, h0, r0⟩ := trodAll_cons hA
  obtain ⟨v1, vs1, d1, ds1, p1, q1, rfl, rfl, rfl, h1, r1⟩ := trodAll_cons r0
  obtain ⟨rfl, rfl, rfl⟩ := trodAll_nil r1
  obtain rfl : args = #[v0, v1] := by cases args; simp_all
  obtain ⟨rfl, rfl⟩ := trodVars_none hV
  letI : Glob := ⟨fun _ => none⟩
  have k0 := h0
  have lt0 : ∀ x ∈ p0, x.block < W.heap.size := by obtain ⟨m, hm⟩ := k0; exact DataW.trod_lt m _ _ _ hm
  obtain ⟨x0, y0, s0⟩ := arg_open (P := Try.prog) (t := 62) (by kernel_rfl) (by kernel_rfl) (hval 0 62 v0 rfl rfl) h0
  have k1 := h1
  have lt1 : ∀ x ∈ p1, x.block < W.heap.size := by obtain ⟨m, hm⟩ := k1; exact DataW.trod_lt m _ _ _ hm
  obtain ⟨x1, y1, s1⟩ := arg_open (P := Try.prog) (t := 62) (by kernel_rfl) (by kernel_rfl) (hval 1 62 v1 rfl rfl) h1
  clear hA0 hval0
  refine (walk W (fun g row h => by cases h) v0 x0 y0 s0 v1 x1 y1 s1).mono fun e W' ⟨he, bel⟩ => ?_
  subst he
  exact ⟨_, rfl, _, _, _, [], _, [], hW', trodAll_mk1 (shut_bool Try.underlying4 _), (trodAll_cons_mk (Below.trod laidK (by kernel_rfl) (of_decide_eq_true (by kernel_rfl)) k0 bel lt0) (trodAll_cons_mk (Below.trod laidK (by kernel_rfl) (of_decide_eq_true (by kernel_rfl)) k1 bel lt1) trodAll_mk0)), rfl, bel.frame _, fun h => by cases h⟩

theorem over : Rows.eventlogManyRow.holds Try.pinned (OpenSpec.ofChange Rows.eventlogManySpec) :=
  OpenClaim.holds_of_wide 6 Try.f6 rfl rfl rfl rfl rfl rfl rfl ⟨rfl, rfl, rfl, rfl, rfl⟩ rfl rfl rfl rfl rfl (by kernel_rfl) Try.func6 (by kernel_rfl)
    (of_decide_eq_true (by kernel_rfl)) (by unfold Func.isWrapper; first | (rw [if_pos (by decide +kernel)]; kernel_rfl) | (rw [if_neg (by decide +kernel)]; exact ⟨rfl, rfl⟩))
    (fun os started H enc _ => lifted os started H enc)

theorem proved : Rows.EventlogManySaid := over
end Go.Proofs.Ytnldjmokemgaoaa.lawEMany
