/- Several texts of the abstract machine, one behind the other. -/
import Derived.Test.YtkppfaennogcmaaPrvZ
import Derived.Test.YtkppfaennogcmaaM4
/- The closure add of Suppress, walked on any memory that holds the levels' row in block 0 and the variable in block 1. -/
namespace Go.Proofs.Ytkppfaennogcmaa
set_option linter.unusedSimpArgs false
set_option linter.unusedVariables false
set_option linter.unnecessarySimpa false
set_option linter.unusedSectionVars false
open Go.RowKit
variable [Glob]
set_option maxRecDepth 100000
def pwV (v : Wd) : AV := .agg (wdC v)
abbrev Me := List (ByteArray × Wd)
/-- The level's map is not there yet. -/
structure AddH (H : List Blk) (rows : List (List AV)) : Prop where
  row : H[0]? = some (.row 95 false rows)
  box : H[1]? = some (.box 94 [.os 0 201])
  len : rows.length = 201
set_option maxHeartbeats 8000000 in
theorem add_one {w : List ByteArray} {n : Int} {rows : List (List AV)} {id : Nat} {E : Me} {H : List Blk} (hA : AddH H rows) (hw : w.length ≤ 200) (hs : ∀ s ∈ w, s.size ≤ 1000) (hj : rows[w.length]? = some [.mp id]) (hm : H[id]? = some (.map (mE psK pwV E)))
    (hf : afind (jnS w) E 0 = none) (hn : wrapI .i64 n = n) :
    CallG Try.prog 50 [.rs (rowsOf strC w), .int .i64 n, .op 1 0] H fun r H' => r = .tup [] ∧ H' = H.set id (.map (mE psK pwV (E ++ [(jnS w, ⟨w, n⟩)]))) := by
  obtain ⟨hr, hb, hl⟩ := hA
  have hk := key_pure w (by omega) hs
  generalize jnS w = K at *
  have hw' : (w.length : Int) < 201 := by omega
  have hw2 : w.length < 201 := by omega
  have hwr : w.length < rows.length := by omega
  have hj2 : rows[w.length] = [.mp id] := by rw [List.getElem?_eq_getElem hwr] at hj; exact Option.some.inj hj
  refine inl_G mixed Try.func50 rfl (by kernel_rfl) (of_decide_eq_true rfl) (by kernel_rfl) (vc_run ?_)
  ((try simp -implicitDefEqProofs [-loopQ_n, hr, hb, hl, hj, hj2, hm, hw', hw2, pmf_s, hf, hn]) <;> (repeat' (first | (refine condD_dec ?_ ?_ <;> (intro hc; (try simp -implicitDefEqProofs [-loopQ_n, hc, hr, hb, hl, hj, hj2, hm, hw', hw2, pmf_s, hf, hn]))) | (refine guardD_dec ?_ ?_ <;> (intro hc; (try simp -implicitDefEqProofs [-loopQ_n, hc, hr, hb, hl, hj, hj2, hm, hw', hw2, pmf_s, hf, hn]))) | (refine condD_intro ?_ ?_ <;> (intro hd; have hc := hd; (try simp at hc) <;> (try simp -implicitDefEqProofs [-loopQ_n, hd, hc, hr, hb, hl, hj, hj2, hm, hw', hw2, pmf_s, hf, hn]))) | (refine guardD_intro ?_ ?_ <;> (intro hd; have hc := hd; (try simp at hc) <;> (try simp -implicitDefEqProofs [-loopQ_n, hd, hc, hr, hb, hl, hj, hj2, hm, hw', hw2, pmf_s, hf, hn]))) | (refine ldD_ep ?_ ?_; (focus kernel_rfl); (try simp -implicitDefEqProofs [-loopQ_n, hr, hb, hl, hj, hj2, hm, hw', hw2, pmf_s, hf, hn])) | (refine callS_mk ?_; (try simp -implicitDefEqProofs [-loopQ_n, hr, hb, hl, hj, hj2, hm, hw', hw2, pmf_s, hf, hn]); (first | refine callS_intro (hk) (.inl rfl) ?_); (try simp -implicitDefEqProofs [-loopQ_n, hr, hb, hl, hj, hj2, hm, hw', hw2, pmf_s, hf, hn])))))
  refine endG_n (.tup []) rfl ⟨rfl, ?_⟩
  simp [mE, psK, pwV, wdC]
set_option maxHeartbeats 8000000 in
theorem add_more {w : List ByteArray} {n : Int} {rows : List (List AV)} {id i : Nat} {v : Wd} {E : Me} {H : List Blk} (hA : AddH H rows) (hw : w.length ≤ 200) (hs : ∀ s ∈ w, s.size ≤ 1000) (hj : rows[w.length]? = some [.mp id]) (hm : H[id]? = some (.map (mE psK pwV E)))
    (hf : afind (jnS w) E 0 = some (i, v)) (hn : wrapI .i64 (v.n + n) = v.n + n) :
    CallG Try.prog 50 [.rs (rowsOf strC w), .int .i64 n, .op 1 0] H fun r H' => r = .tup [] ∧ H' = H.set id (.map (mE psK pwV (E.set i (jnS w, ⟨w, v.n + n⟩)))) := by
  obtain ⟨hr, hb, hl⟩ := hA
  have hk := key_pure w (by omega) hs
  generalize jnS w = K at *
  have hw' : (w.length : Int) < 201 := by omega
  have hw2 : w.length < 201 := by omega
  have hwr : w.length < rows.length := by omega
  have hj2 : rows[w.length] = [.mp id] := by rw [List.getElem?_eq_getElem hwr] at hj; exact Option.some.inj hj
  refine inl_G mixed Try.func50 rfl (by kernel_rfl) (of_decide_eq_true rfl) (by kernel_rfl) (vc_run ?_)
  ((try simp -implicitDefEqProofs [-loopQ_n, hr, hb, hl, hj, hj2, hm, hw', hw2, pmf_s, hf, hn, pwV, wdC]) <;> (repeat' (first | (refine condD_dec ?_ ?_ <;> (intro hc; (try simp -implicitDefEqProofs [-loopQ_n, hc, hr, hb, hl, hj, hj2, hm, hw', hw2, pmf_s, hf, hn, pwV, wdC]))) | (refine guardD_dec ?_ ?_ <;> (intro hc; (try simp -implicitDefEqProofs [-loopQ_n, hc, hr, hb, hl, hj, hj2, hm, hw', hw2, pmf_s, hf, hn, pwV, wdC]))) | (refine condD_intro ?_ ?_ <;> (intro hd; have hc := hd; (try simp at hc) <;> (try simp -implicitDefEqProofs [-loopQ_n, hd, hc, hr, hb, hl, hj, hj2, hm, hw', hw2, pmf_s, hf, hn, pwV, wdC]))) | (refine guardD_intro ?_ ?_ <;> (intro hd; have hc := hd; (try simp at hc) <;> (try simp -implicitDefEqProofs [-loopQ_n, hd, hc, hr, hb, hl, hj, hj2, hm, hw', hw2, pmf_s, hf, hn, pwV, wdC]))) | (refine ldD_ep ?_ ?_; (focus kernel_rfl); (try simp -implicitDefEqProofs [-loopQ_n, hr, hb, hl, hj, hj2, hm, hw', hw2, pmf_s, hf, hn, pwV, wdC])) | (refine callS_mk ?_; (try simp -implicitDefEqProofs [-loopQ_n, hr, hb, hl, hj, hj2, hm, hw', hw2, pmf_s, hf, hn, pwV, wdC]); (first | refine callS_intro (hk) (.inl rfl) ?_); (try simp -implicitDefEqProofs [-loopQ_n, hr, hb, hl, hj, hj2, hm, hw', hw2, pmf_s, hf, hn, pwV, wdC])))))
  refine endG_n (.tup []) rfl ⟨rfl, ?_⟩
  simp [mE, psK, pwV, wdC]
set_option maxHeartbeats 8000000 in
theorem add_new {w : List ByteArray} {n : Int} {rows : List (List AV)} {H : List Blk} (hA : AddH H rows) (hw : w.length ≤ 200) (hs : ∀ s ∈ w, s.size ≤ 1000) (hj : rows[w.length]? = some [.nilm]) (hn : wrapI .i64 n = n) (h2 : 2 ≤ H.length) :
    CallG Try.prog 50 [.rs (rowsOf strC w), .int .i64 n, .op 1 0] H fun r H' => r = .tup [] ∧ H' = (H.set 0 (.row 95 false (rows.set w.length [.mp H.length]))) ++ [.map (mE psK pwV [(jnS w, ⟨w, n⟩)])] := by
  obtain ⟨hr, hb, hl⟩ := hA
  have hk := key_pure w (by omega) hs
  generalize jnS w = K at *
  have hw' : (w.length : Int) < 201 := by omega
  have hw2 : w.length < 201 := by omega
  have hwr : w.length < rows.length := by omega
  have hj2 : rows[w.length] = [.nilm] := by rw [List.getElem?_eq_getElem hwr] at hj; exact Option.some.inj hj
  have hH0 : 0 < H.length := by omega
  have hH1 : 1 < H.length := by omega
  have hr2 : H[0] = .row 95 false rows := by rw [List.getElem?_eq_getElem hH0] at hr; exact Option.some.inj hr
  have hb2 : H[1] = .box 94 [.os 0 201] := by rw [List.getElem?_eq_getElem hH1] at hb; exact Option.some.inj hb
  refine inl_G mixed Try.func50 rfl (by kernel_rfl) (of_decide_eq_true rfl) (by kernel_rfl) (vc_run ?_)
  ((try simp -implicitDefEqProofs [-loopQ_n, hr, hb, hr2, hb2, hH0, hH1, hl, hj, hj2, hw', hw2, hn]) <;> (repeat' (first | (refine condD_dec ?_ ?_ <;> (intro hc; (try simp -implicitDefEqProofs [-loopQ_n, hc, hr, hb, hr2, hb2, hH0, hH1, hl, hj, hj2, hw', hw2, hn]))) | (refine guardD_dec ?_ ?_ <;> (intro hc; (try simp -implicitDefEqProofs [-loopQ_n, hc, hr, hb, hr2, hb2, hH0, hH1, hl, hj, hj2, hw', hw2, hn]))) | (refine condD_intro ?_ ?_ <;> (intro hd; have hc := hd; (try simp at hc) <;> (try simp -implicitDefEqProofs [-loopQ_n, hd, hc, hr, hb, hr2, hb2, hH0, hH1, hl, hj, hj2, hw', hw2, hn]))) | (refine guardD_intro ?_ ?_ <;> (intro hd; have hc := hd; (try simp at hc) <;> (try simp -implicitDefEqProofs [-loopQ_n, hd, hc, hr, hb, hr2, hb2, hH0, hH1, hl, hj, hj2, hw', hw2, hn]))) | (refine ldD_ep ?_ ?_; (focus kernel_rfl); (try simp -implicitDefEqProofs [-loopQ_n, hr, hb, hr2, hb2, hH0, hH1, hl, hj, hj2, hw', hw2, hn])) | (refine callS_mk ?_; (try simp -implicitDefEqProofs [-loopQ_n, hr, hb, hr2, hb2, hH0, hH1, hl, hj, hj2, hw', hw2, hn]); (first | refine callS_intro (hk) (.inl rfl) ?_); (try simp -implicitDefEqProofs [-loopQ_n, hr, hb, hr2, hb2, hH0, hH1, hl, hj, hj2, hw', hw2, hn])))))
  refine endG_n (.tup []) rfl ⟨rfl, ?_⟩
  simp [mE, psK, pwV, wdC]
end Go.Proofs.Ytkppfaennogcmaa

/- A level's map and its words (plain words). -/
namespace Go.Proofs.Ytkppfaennogcmaa
set_option linter.unusedSimpArgs false
set_option linter.unusedVariables false
set_option linter.unnecessarySimpa false
set_option linter.unusedSectionVars false
open Go.RowKit
variable [Glob]
set_option maxRecDepth 100000
def toM (l : List Wd) : Me := l.map fun v => (jnS v.acts, v)
theorem toM_find {w : Wo} {c : Int} (hw : nmW w) : ∀ l : List Wd, (∀ v ∈ l, nmW v.acts) →
    (afind (jnS w) (toM l) 0 = none ∧ aW w c l = l ++ [⟨w, c⟩]) ∨ (∃ i v, afind (jnS w) (toM l) 0 = some (i, v) ∧ l[i]? = some v ∧ v.acts = w ∧ aW w c l = l.set i ⟨w, v.n + c⟩) := by
  intro l
  induction l with
  | nil => intro _; exact .inl ⟨rfl, rfl⟩
  | cons x r ih =>
    intro h
    have hx := h x (by simp)
    by_cases e : x.acts = w
    · refine .inr ⟨0, x, ?_, rfl, e, ?_⟩
      · simp [toM, afind, e]
      · simp [aW, e]
    · have e2 : ¬ jnS x.acts = jnS w := fun q => e (jnS_inj hx hw q)
      have hs : afind (jnS w) (toM (x :: r)) 0 = (afind (jnS w) (toM r) 0).map fun y => (y.1 + 1, y.2) := by
        simp only [toM, List.map_cons, afind, if_neg e2]
        exact afind_shift _ _ 1
      rcases ih fun y hy => h y (by simp [hy]) with ⟨h1, h2⟩ | ⟨i, v, h1, h2, h3, h4⟩
      · refine .inl ⟨by rw [hs, h1]; rfl, ?_⟩
        simp only [aW, if_neg e, h2, List.cons_append]
      · refine .inr ⟨i + 1, v, by rw [hs, h1]; rfl, by simpa using h2, h3, ?_⟩
        simp only [aW, if_neg e, h4, List.set_cons_succ]
theorem toM_snoc {l : List Wd} {v : Wd} : toM l ++ [(jnS v.acts, v)] = toM (l ++ [v]) := by simp [toM]
theorem toM_set {l : List Wd} {i : Nat} {v : Wd} : (toM l).set i (jnS v.acts, v) = toM (l.set i v) := by simp [toM]
end Go.Proofs.Ytkppfaennogcmaa

/- The memory of Suppress: the levels' row, its variable, and the maps. -/
namespace Go.Proofs.Ytkppfaennogcmaa
set_option linter.unusedSimpArgs false
set_option linter.unusedVariables false
set_option linter.unnecessarySimpa false
set_option linter.unusedSectionVars false
open Go.RowKit
variable [Glob]
set_option maxRecDepth 100000
/-- A block of Suppress's memory behind the two fixed ones: a level's map, or another block. -/
inductive BE where
  | mp (j : Nat) (l : List Wd)
  | ot (b : Blk)
abbrev Bs := List BE
def blkS : BE → Blk
  | .mp _ l => .map (mE psK pwV (toM l))
  | .ot b => b
theorem pw_refs {m : Nat} {E : Me} : refsM m (mE psK pwV E) = true := mE_refs (fun x => by simp [psK, refs]) fun v => by simp [pwV, wdC, refs, sw_refs]
def cvOt (m n : Nat) : BE → Prop
  | .mp _ _ => True
  | .ot b => cvB m n b b
theorem cvB_blk {m n : Nat} (b : BE) (h : cvOt m n b) : cvB m n (blkS b) (blkS b) := by
  cases b with
  | ot b => exact h
  | mp j l => exact ⟨rfl, pw_refs⟩
theorem cvH_blk {m n : Nat} : ∀ bs : Bs, (∀ b ∈ bs, cvOt m n b) → cvH m n (bs.map blkS) (bs.map blkS) := by
  intro bs
  induction bs with
  | nil => intro _; exact trivial
  | cons b r ih => intro h; exact ⟨cvB_blk b (h b (by simp)), ih fun x hx => h x (by simp [hx])⟩
theorem cvH_app {m n : Nat} : ∀ (A A' B B' : List Blk), A.length = A'.length → cvH m n A A' → cvH m n B B' → cvH m n (A ++ B) (A' ++ B') := by
  intro A
  induction A with
  | nil =>
    intro A' B B' h _ h2
    cases A' with
    | nil => exact h2
    | cons _ _ => simp at h
  | cons a A ih =>
    intro A' B B' h h1 h2
    cases A' with
    | nil => simp at h
    | cons a' A' => exact ⟨h1.1, ih A' B B' (by simpa using h) h1.2 h2⟩
/-- Where level j's map lies. -/
def atL (bs : Bs) (j : Nat) : Option Nat := bs.findIdx? fun b => match b with | .mp i _ => decide (i = j) | .ot _ => false
def cellS (bs : Bs) (j : Nat) : List AV := match atL bs j with | some i => [.mp (2 + i)] | none => [.nilm]
def cellsS (bs : Bs) : List (List AV) := (List.range 201).map (cellS bs)
theorem cellsS_len {bs : Bs} : (cellsS bs).length = 201 := by simp [cellsS]
theorem cellsS_get {bs : Bs} {j : Nat} (h : j < 201) : (cellsS bs)[j]? = some (cellS bs j) := by simp [cellsS, h]
def memS (bs : Bs) : List Blk := [.row 95 false (cellsS bs), .box 94 [.os 0 201]] ++ bs.map blkS
theorem memS_add {bs : Bs} : AddH (memS bs) (cellsS bs) := ⟨rfl, rfl, cellsS_len⟩
theorem atL_some {bs : Bs} {j i : Nat} (h : atL bs j = some i) : ∃ l, bs[i]? = some (.mp j l) := by
  unfold atL at h
  have := List.findIdx?_eq_some_iff_getElem.1 h
  obtain ⟨hi, h1, _⟩ := this
  rw [List.getElem?_eq_getElem hi]
  cases hb : bs[i] with
  | ot b => rw [hb] at h1; simp at h1
  | mp a l =>
    rw [hb] at h1
    have : a = j := by simpa using h1
    exact ⟨l, by rw [this]⟩
theorem cellsS_set {bs : Bs} {i j : Nat} {l l' : List Wd} (h : bs[i]? = some (.mp j l)) : cellsS (bs.set i (.mp j l')) = cellsS bs := by
  unfold cellsS
  apply List.map_congr_left
  intro a _
  unfold cellS
  have : atL (bs.set i (.mp j l')) a = atL bs a := by
    unfold atL
    induction bs generalizing i with
    | nil => simp
    | cons b r ih =>
      cases i with
      | zero =>
        simp only [List.getElem?_cons_zero, Option.some.injEq] at h
        subst h
        simp only [List.set_cons_zero, List.findIdx?_cons]
      | succ i =>
        simp only [List.getElem?_cons_succ] at h
        simp only [List.set_cons_succ, List.findIdx?_cons, ih h]
  rw [this]
theorem cellsS_snoc {bs : Bs} {j : Nat} {l : List Wd} (hj : j < 201) (h : atL bs j = none) : cellsS (bs ++ [.mp j l]) = (cellsS bs).set j [.mp (2 + bs.length)] := by
  apply List.ext_getElem?
  intro a
  by_cases ha : a < 201
  · rw [cellsS_get ha, List.getElem?_set, cellsS_get ha, cellsS_len]
    have hap : atL (bs ++ [.mp j l]) a = match atL bs a with | some i => some i | none => if j = a then some bs.length else none := by
      unfold atL
      rw [List.findIdx?_append]
      cases hq : List.findIdx? (fun b => match b with | .mp i _ => decide (i = a) | .ot _ => false) bs with
      | some q => simp
      | none =>
        by_cases e : j = a
        · simp [e]
        · simp [e]
    unfold cellS
    rw [hap]
    by_cases e : j = a
    · subst e
      rw [h]
      simp [ha]
    · simp only [if_neg e]
      cases atL bs a <;> rfl
  · rw [List.getElem?_eq_none (by rw [cellsS_len]; omega), List.getElem?_eq_none (by rw [List.length_set, cellsS_len]; omega)]
theorem memS_len {bs : Bs} : (memS bs).length = 2 + bs.length := by simp [memS]; omega
theorem memS_get {bs : Bs} {i : Nat} : (memS bs)[2 + i]? = (bs[i]?).map blkS := by
  unfold memS
  rw [List.getElem?_append_right (by simp)]
  simp
theorem atL_ot {bs : Bs} {b : Blk} {j : Nat} : atL (bs ++ [.ot b]) j = atL bs j := by
  unfold atL
  rw [List.findIdx?_append]
  simp
theorem cellsS_ot {bs : Bs} {b : Blk} : cellsS (bs ++ [.ot b]) = cellsS bs := by
  unfold cellsS
  apply List.map_congr_left
  intro a _
  unfold cellS
  rw [atL_ot]
theorem memS_snoc {bs : Bs} {b : Blk} : memS bs ++ [b] = memS (bs ++ [.ot b]) := by
  unfold memS
  rw [cellsS_ot]
  simp [blkS]
theorem atL_setot {bs : Bs} {i j : Nat} {b b' : Blk} (h : bs[i]? = some (.ot b)) : atL (bs.set i (.ot b')) j = atL bs j := by
  unfold atL
  induction bs generalizing i with
  | nil => simp
  | cons x r ih =>
    cases i with
    | zero =>
      simp only [List.getElem?_cons_zero, Option.some.injEq] at h
      subst h
      simp only [List.set_cons_zero, List.findIdx?_cons]
    | succ i =>
      simp only [List.getElem?_cons_succ] at h
      simp only [List.set_cons_succ, List.findIdx?_cons, ih h]
theorem memS_set {bs : Bs} {i : Nat} {b b' : Blk} (h : bs[i]? = some (.ot b)) : (memS bs).set (2 + i) b' = memS (bs.set i (.ot b')) := by
  unfold memS
  have : cellsS (bs.set i (.ot b')) = cellsS bs := by
    unfold cellsS
    apply List.map_congr_left
    intro a _
    unfold cellS
    rw [atL_setot h]
  rw [this, Nat.add_comm 2 i]
  simp [List.map_set, blkS]
end Go.Proofs.Ytkppfaennogcmaa

/- add on the memory of Suppress. -/
namespace Go.Proofs.Ytkppfaennogcmaa
set_option linter.unusedSimpArgs false
set_option linter.unusedVariables false
set_option linter.unnecessarySimpa false
set_option linter.unusedSectionVars false
open Go.RowKit
variable [Glob]
set_option maxRecDepth 100000
def lvB (bs : Bs) (j : Nat) : List Wd := match atL bs j with
  | some i => (match bs[i]? with | some (.mp _ l) => l | _ => [])
  | none => []
def addS (bs : Bs) (w : Wo) (n : Int) : Bs := match atL bs w.length with
  | some i => bs.set i (.mp w.length (aW w n (lvB bs w.length)))
  | none => bs ++ [.mp w.length [⟨w, n⟩]]
theorem add_mem {bs : Bs} {w : Wo} {n : Int} (hw : w.length ≤ 200) (hn : nmW w) (hs : ∀ s ∈ w, s.size ≤ 1000) (n0 : 0 ≤ n) (n1 : n ≤ 1099511627776) (hl : ∀ v ∈ lvB bs w.length, nmW v.acts ∧ 0 ≤ v.n ∧ v.n ≤ 1099511627776) :
    CallG Try.prog 50 [.rs (rowsOf strC w), .int .i64 n, .op 1 0] (memS bs) fun r H' => r = .tup [] ∧ H' = memS (addS bs w n) := by
  have w1 : wrapI .i64 n = n := wrap_in (by omega) (by omega)
  cases hq : atL bs w.length with
  | none =>
    have hc : (cellsS bs)[w.length]? = some [.nilm] := by rw [cellsS_get (by omega)]; unfold cellS; rw [hq]
    refine callG_mono (add_new memS_add hw hs hc w1 (by rw [memS_len]; omega)) fun r H' h => ⟨h.1, ?_⟩
    rw [h.2]
    unfold addS
    rw [hq, memS_len]
    simp only
    unfold memS
    rw [cellsS_snoc (by omega) hq]
    simp [blkS, toM]
  | some i =>
    obtain ⟨l, hb⟩ := atL_some hq
    have hlv : lvB bs w.length = l := by unfold lvB; rw [hq]; simp only; rw [hb]
    rw [hlv] at hl
    have hc : (cellsS bs)[w.length]? = some [.mp (2 + i)] := by rw [cellsS_get (by omega)]; unfold cellS; rw [hq]
    have hm : (memS bs)[2 + i]? = some (.map (mE psK pwV (toM l))) := by rw [memS_get, hb]; rfl
    have hset : ∀ l', (memS bs).set (2 + i) (.map (mE psK pwV (toM l'))) = memS (bs.set i (.mp w.length l')) := fun l' => by
      unfold memS
      rw [cellsS_set hb]
      simp [List.map_set, blkS, Nat.add_comm 2 i]
    rcases toM_find (c := n) hn l (fun v hv => (hl v hv).1) with ⟨h1, h2⟩ | ⟨q, v, h1, h2, h3, h4⟩
    · refine callG_mono (add_one memS_add hw hs hc hm h1 w1) fun r H' h => ⟨h.1, ?_⟩
      rw [h.2]
      unfold addS
      rw [hq]
      simp only
      rw [hlv, h2, ← hset, ← toM_snoc]
    · have hv := hl v (List.mem_of_getElem? h2)
      have w2 : wrapI .i64 (v.n + n) = v.n + n := wrap_in (by omega) (by omega)
      refine callG_mono (add_more memS_add hw hs hc hm h1 w2) fun r H' h => ⟨h.1, ?_⟩
      rw [h.2]
      unfold addS
      rw [hq]
      simp only
      rw [hlv, h4, ← hset, ← toM_set]
end Go.Proofs.Ytkppfaennogcmaa

/- Suppress's memory: what add does to it, and what a loop's head forgets of it (plain words). -/
namespace Go.Proofs.Ytkppfaennogcmaa
set_option linter.unusedSimpArgs false
set_option linter.unusedVariables false
set_option linter.unnecessarySimpa false
set_option linter.unusedSectionVars false
open Go.RowKit
variable [Glob]
set_option maxRecDepth 100000
def kd : BE → Option Nat
  | .mp j _ => some j
  | .ot _ => none
theorem atL_kd {bs : Bs} {j : Nat} : atL bs j = (bs.map kd).findIdx? fun o => decide (o = some j) := by
  unfold atL
  rw [List.findIdx?_map]
  congr 1
  funext b
  cases b <;> simp [kd]
theorem atL_same {bs bs' : Bs} (h : bs'.map kd = bs.map kd) {j : Nat} : atL bs' j = atL bs j := by rw [atL_kd, atL_kd, h]
theorem cellsS_same {bs bs' : Bs} (h : bs'.map kd = bs.map kd) : cellsS bs' = cellsS bs := by
  unfold cellsS
  apply List.map_congr_left
  intro a _
  unfold cellS
  rw [atL_same h]
theorem atL_lt {bs : Bs} {j i : Nat} (h : atL bs j = some i) : i < bs.length := by
  obtain ⟨l, hl⟩ := atL_some h
  exact (List.getElem?_eq_some_iff.1 hl).1
theorem lvB_some {bs : Bs} {j i : Nat} (h : atL bs j = some i) : bs[i]? = some (.mp j (lvB bs j)) := by
  obtain ⟨l, hl⟩ := atL_some h
  unfold lvB
  rw [h]
  simp only [hl]
theorem lvB_none {bs : Bs} {j : Nat} (h : atL bs j = none) : lvB bs j = [] := by unfold lvB; rw [h]
theorem lvB_same {bs bs' : Bs} {j : Nat} (h : atL bs' j = atL bs j) (hg : ∀ i, atL bs j = some i → bs'[i]? = bs[i]?) : lvB bs' j = lvB bs j := by
  unfold lvB
  rw [h]
  cases hq : atL bs j with
  | none => rfl
  | some i => simp only; rw [hg i hq]
theorem atL_snoc {bs : Bs} {j a : Nat} {l : List Wd} : atL (bs ++ [.mp j l]) a = match atL bs a with | some i => some i | none => if j = a then some bs.length else none := by
  rw [atL_kd, atL_kd, List.map_append, List.findIdx?_append]
  cases hq : List.findIdx? (fun o => decide (o = some a)) (bs.map kd) with
  | some q => simp
  | none => by_cases e : j = a <;> simp [e, kd]
theorem kd_set {bs : Bs} {i : Nat} {b b' : BE} (h : bs[i]? = some b) (hk : kd b' = kd b) : (bs.set i b').map kd = bs.map kd := by
  refine List.ext_getElem? fun a => ?_
  simp only [List.getElem?_map, List.getElem?_set]
  split
  · rename_i e
    subst e
    have hi := (List.getElem?_eq_some_iff.1 h).1
    rw [if_pos hi, h, Option.map_some, Option.map_some, hk]
  · rfl
theorem addS_len {bs : Bs} {w : Wo} {n : Int} : bs.length ≤ (addS bs w n).length := by unfold addS; split <;> simp
theorem atL_addS {bs : Bs} {w : Wo} {n : Int} {j : Nat} (hj : j ≠ w.length) : atL (addS bs w n) j = atL bs j := by
  unfold addS
  cases hq : atL bs w.length with
  | some i => exact atL_same (kd_set (lvB_some hq) (by rfl))
  | none =>
    simp only
    rw [atL_snoc]
    cases atL bs j with
    | some i => rfl
    | none => simp only [if_neg (Ne.symm hj)]
theorem addS_get {bs : Bs} {w : Wo} {n : Int} {i : Nat} {b : BE} (h : bs[i]? = some b) (hb : kd b ≠ some w.length) : (addS bs w n)[i]? = some b := by
  unfold addS
  have hi := (List.getElem?_eq_some_iff.1 h).1
  cases hq : atL bs w.length with
  | some i' =>
    simp only
    rw [List.getElem?_set]
    split
    · rename_i e
      subst e
      have := lvB_some hq
      rw [h] at this
      cases this
      exact (hb rfl).elim
    · exact h
  | none => simp only; rw [List.getElem?_append_left hi]; exact h
theorem lv_addS {bs : Bs} {w : Wo} {n : Int} {j : Nat} : lvB (addS bs w n) j = if j = w.length then aW w n (lvB bs w.length) else lvB bs j := by
  by_cases e : j = w.length
  · rw [if_pos e, e]
    unfold addS
    cases hq : atL bs w.length with
    | some i =>
      have h1 := lvB_some hq
      have h2 : atL (bs.set i (.mp w.length (aW w n (lvB bs w.length)))) w.length = some i := (atL_same (kd_set h1 (by rfl))).trans hq
      have h3 := lvB_some h2
      simp only
      rw [List.getElem?_set, if_pos rfl, if_pos (atL_lt hq)] at h3
      simp only [Option.some.injEq, BE.mp.injEq, true_and] at h3
      exact h3.symm
    | none =>
      rw [lvB_none hq]
      simp only [aW]
      have h2 : atL (bs ++ [.mp w.length [⟨w, n⟩]]) w.length = some bs.length := by rw [atL_snoc, hq]; simp
      have h3 := lvB_some h2
      rw [List.getElem?_append_right (Nat.le_refl _), Nat.sub_self] at h3
      simp only [List.getElem?_cons_zero, Option.some.injEq, BE.mp.injEq, true_and] at h3
      exact h3.symm
  · rw [if_neg e]
    refine lvB_same (atL_addS e) fun i hi => ?_
    have h1 := lvB_some hi
    rw [h1]
    exact addS_get h1 (by simp [kd, e])
theorem lv_addS' {bs : Bs} {v : Wd} : lvB (addS bs v.acts v.n) = addL (lvB bs) v := by
  funext j
  rw [lv_addS]
  unfold addL updL
  rfl
theorem lvB_ot {bs : Bs} {b : Blk} {j : Nat} : lvB (bs ++ [.ot b]) j = lvB bs j :=
  lvB_same atL_ot fun i hi => List.getElem?_append_left (atL_lt hi)
theorem lvB_setot {bs : Bs} {i j : Nat} {b b' : Blk} (h : bs[i]? = some (.ot b)) : lvB (bs.set i (.ot b')) j = lvB bs j := by
  refine lvB_same (atL_setot h) fun a ha => ?_
  rw [List.getElem?_set]
  split
  · rename_i e
    subst e
    have := lvB_some ha
    rw [h] at this; cases this
  · rfl
theorem memS_last {bs : Bs} {b : Blk} : (memS (bs ++ [.ot b]))[2 + bs.length]? = some b := by rw [memS_get]; simp [blkS]
theorem memS_setlast {bs : Bs} {b b' : Blk} : (memS (bs ++ [.ot b])).set (2 + bs.length) b' = memS (bs ++ [.ot b']) := by
  have h : (bs ++ [BE.ot b])[bs.length]? = some (.ot b) := by simp
  rw [memS_set h]
  simp
theorem memS_0 {bs : Bs} : (memS bs)[0]? = some (.row 95 false (cellsS bs)) := rfl
theorem memS_1 {bs : Bs} : (memS bs)[1]? = some (.box 94 [.os 0 201]) := rfl
theorem memS_lastE {bs : Bs} {b : Blk} {h : 2 + bs.length < (memS (bs ++ [.ot b])).length} : (memS (bs ++ [.ot b]))[2 + bs.length]'h = b := by
  have := memS_last (bs := bs) (b := b)
  rw [List.getElem?_eq_getElem h] at this
  exact Option.some.inj this
theorem memS_0E {bs : Bs} {h : 0 < (memS bs).length} : (memS bs)[0]'h = .row 95 false (cellsS bs) := rfl
theorem memS_1E {bs : Bs} {h : 1 < (memS bs).length} : (memS bs)[1]'h = .box 94 [.os 0 201] := rfl
theorem memS_getE {bs : Bs} {i : Nat} {b : BE} (hb : bs[i]? = some b) {h : 2 + i < (memS bs).length} : (memS bs)[2 + i]'h = blkS b := by
  have := memS_get (bs := bs) (i := i)
  rw [hb, List.getElem?_eq_getElem h] at this
  exact Option.some.inj this
theorem memS_getQ {bs : Bs} {i : Nat} {b : BE} (hb : bs[i]? = some b) : (memS bs)[2 + i]? = some (blkS b) := by rw [memS_get, hb]; rfl
theorem memS_l2 {bs : Bs} {a : BE} {b : Blk} : (memS (bs ++ [a] ++ [.ot b]))[2 + (bs.length + 1)]? = some b := by
  have := memS_last (bs := bs ++ [a]) (b := b)
  rwa [List.length_append, List.length_singleton] at this
theorem memS_l2E {bs : Bs} {a : BE} {b : Blk} {h : 2 + (bs.length + 1) < (memS (bs ++ [a] ++ [.ot b])).length} : (memS (bs ++ [a] ++ [.ot b]))[2 + (bs.length + 1)]'h = b := by
  have := memS_l2 (bs := bs) (a := a) (b := b)
  rw [List.getElem?_eq_getElem h] at this
  exact Option.some.inj this
/-- Blocks that are not kept are forgotten. -/
def cln (ks : List Nat) (bs : Bs) : Bs := bs.mapIdx fun i b => match b with | .mp j l => .mp j l | .ot b => if i ∈ ks then .ot b else .ot .gone
theorem cln_len {ks : List Nat} {bs : Bs} : (cln ks bs).length = bs.length := by simp [cln]
theorem cln_mp {ks : List Nat} {bs : Bs} {i j : Nat} {l : List Wd} (h : bs[i]? = some (.mp j l)) : (cln ks bs)[i]? = some (.mp j l) := by simp [cln, h]
theorem cln_ot {ks : List Nat} {bs : Bs} {i : Nat} {b : Blk} (hi : i ∈ ks) (h : bs[i]? = some (.ot b)) : (cln ks bs)[i]? = some (.ot b) := by simp [cln, h, hi]
theorem cln_kd {ks : List Nat} {bs : Bs} : (cln ks bs).map kd = bs.map kd := by
  refine List.ext_getElem? fun a => ?_
  simp only [cln, List.getElem?_map, List.getElem?_mapIdx]
  cases bs[a]? with
  | none => rfl
  | some b =>
    cases b with
    | mp j l => rfl
    | ot b => simp only [Option.map_some]; split <;> rfl
theorem cln_lv {ks : List Nat} {bs : Bs} {j : Nat} : lvB (cln ks bs) j = lvB bs j :=
  lvB_same (atL_same cln_kd) fun i hi => by rw [lvB_some hi]; exact cln_mp (lvB_some hi)
theorem cln_at {ks : List Nat} {bs : Bs} {j : Nat} : atL (cln ks bs) j = atL bs j := atL_same cln_kd
theorem cvH_get2 {m n : Nat} : ∀ (H H' : List Blk), H.length = H'.length → (∀ (i : Nat) b b', H[i]? = some b → H'[i]? = some b' → cvB m n b b') → cvH m n H H' := by
  intro H
  induction H with
  | nil =>
    intro H' h _
    cases H' with
    | nil => exact trivial
    | cons _ _ => simp at h
  | cons b H ih =>
    intro H' h hg
    cases H' with
    | nil => simp at h
    | cons b' H' => exact ⟨hg 0 b b' rfl rfl, ih H' (by simpa using h) fun i x x' h1 h2 => hg (i + 1) x x' (by simpa using h1) (by simpa using h2)⟩
theorem cells_refs {m : Nat} {bs : Bs} (hm : 2 + bs.length ≤ m) : refsR m (cellsS bs) = true := by
  unfold refsR cellsS
  rw [List.all_eq_true]
  intro r hr
  obtain ⟨j, _, rfl⟩ := List.mem_map.1 hr
  unfold cellS
  cases hq : atL bs j with
  | none => simp [refs]
  | some i =>
    have := atL_lt hq
    simp [refs]; omega
theorem mem_cln {m n : Nat} {ks : List Nat} {bs : Bs} (hm : 2 + bs.length ≤ m) (hk : ∀ i ∈ ks, ∀ b, bs[i]? = some (.ot b) → cvB m n b b) : cvH m n (memS bs) (memS (cln ks bs)) := by
  have e : cellsS (cln ks bs) = cellsS bs := cellsS_same cln_kd
  unfold memS
  rw [e]
  have hc : cvH m n (bs.map blkS) ((cln ks bs).map blkS) := by
    refine cvH_get2 _ _ (by simp [cln_len]) fun i b b' h1 h2 => ?_
    simp only [List.getElem?_map, Option.map_eq_some_iff] at h1 h2
    obtain ⟨x, hx, rfl⟩ := h1
    obtain ⟨x', hx', rfl⟩ := h2
    cases x with
    | mp j l => rw [cln_mp hx] at hx'; cases hx'; exact ⟨rfl, pw_refs⟩
    | ot b =>
      simp only [cln, List.getElem?_mapIdx, hx, Option.map_some, Option.some.injEq] at hx'
      subst hx'
      split
      · rename_i hi; exact hk i hi b hx
      · cases b <;> trivial
  exact ⟨⟨rfl, rfl, rfl, cells_refs hm⟩, ⟨rfl, .inr (.inl ⟨rfl, by simp [refs]; omega⟩), trivial⟩, hc⟩
/-- What is left of a level's relation when the level alone counts. -/
theorem RelS.congr {m : Nat} {ws out o : List Wd} {f g : Lv} (h : RelS m ws out f o) (hfg : ∀ j, j < m → g j = f j) : RelS m ws out g o :=
  ⟨fun j hj => by rw [hfg j hj]; exact h.ok j hj, h.asc, h.pos, fun u hu => by rw [hfg _ hu]; exact h.cnt u hu, h.top, h.eqO, h.ascO, h.posO⟩
theorem runP_snoc {m : Nat} {k : Int} : ∀ (p : List Wd) (v : Wd) (s : Lv × List Wd), runP m k (p ++ [v]) s = stP m k (runP m k p s) v := by
  intro p
  induction p with
  | nil => intro v s; rfl
  | cons x r ih => intro v s; simp only [List.cons_append, runP]; exact ih v _
theorem cnt_le {u : Wo} : ∀ l : List Wd, lnW l → cntW u l ≤ sumN l := by
  intro l
  induction l with
  | nil => intro _; simp [cntW, sumN]
  | cons v r ih =>
    intro h
    have h1 := ih fun x hx => h x (by simp [hx])
    have h2 := (h v (by simp)).1
    simp only [cntW, sumN]
    split <;> omega
theorem RelS.le {m j : Nat} {ws out o : List Wd} {f : Lv} (h : RelS m ws out f o) (hj : j < m) {v : Wd} (hv : v ∈ f j) : v.acts.length = j ∧ 1 ≤ v.n ∧ v.n ≤ sumN ws := by
  obtain ⟨k1, k2⟩ := h.ok j hj
  obtain ⟨h1, h2⟩ := k2 v hv
  have h3 := cnt_some _ k1 v hv
  have h4 := h.cnt v.acts (by omega)
  rw [h1, h3] at h4
  have h5 := cnt_le (u := v.acts) ws h.pos
  exact ⟨h1, h2, by omega⟩
theorem RelS.olen {m : Nat} {k : Int} {ws out o : List Wd} {f : Lv} (h : RelS m ws out f o) (ho : okO m k o) : o.length = out.length :=
  (same_perm ho.1 (asc_key h.ascO) (fun v hv => (ho.2 v hv).2.1) (fun v hv => (h.posO v hv).1) fun u => (h.eqO u).symm).length_eq
theorem RelS.lvlen {m : Nat} {ws out o : List Wd} {f : Lv} (h : RelS (m + 1) ws out f o) : (f m).length ≤ ws.length := by
  rw [(h.level (List.Perm.refl _)).length_eq]
  exact List.length_filter_le _ _
def kO (o : List Wd) (id : Nat) : List Nat := if o = [] then [] else [id]
def OutB (bs : Bs) (o : List Wd) (id : Nat) : Prop := o ≠ [] → ∃ nb, bs[id]? = some (.ot (.row 97 nb (rowsOf wdC o)))
theorem outB_cln {ks : List Nat} {bs : Bs} {o : List Wd} {id : Nat} (h : OutB bs o id) (hs : ∀ i ∈ kO o id, i ∈ ks) : OutB (cln ks bs) o id := fun ho => by
  obtain ⟨nb, hb⟩ := h ho
  exact ⟨nb, cln_ot (hs id (by simp [kO, ho])) hb⟩
theorem outB_row {bs : Bs} {o : List Wd} {id : Nat} (h : OutB bs o id) {m n : Nat} : ∀ i ∈ kO o id, ∀ b, bs[i]? = some (.ot b) → cvB m n b b := fun i hi b hb => by
  unfold kO at hi
  split at hi
  · simp at hi
  · rename_i ho
    simp only [List.mem_singleton] at hi
    subst hi
    obtain ⟨nb, h2⟩ := h ho
    rw [hb] at h2
    simp only [Option.some.injEq, BE.ot.injEq] at h2
    subst h2
    exact ⟨rfl, rfl, rfl, wd_refs⟩
theorem outB_mono {bs X : Bs} {o : List Wd} {id : Nat} (h : OutB bs o id) (hg : ∀ b, bs[id]? = some (.ot b) → X[id]? = some (.ot b)) : OutB X o id := fun ho => by
  obtain ⟨nb, hb⟩ := h ho
  exact ⟨nb, hg _ hb⟩
theorem ot_app {bs : Bs} {i : Nat} {b x : BE} (h : bs[i]? = some b) : (bs ++ [x])[i]? = some b := by
  rw [List.getElem?_append_left (List.getElem?_eq_some_iff.1 h).1]; exact h
theorem bs_set {bs : Bs} {i q : Nat} {b x : BE} (h : bs[i]? = some b) (hne : q ≠ i) : (bs.set q x)[i]? = some b := by
  rw [List.getElem?_set, if_neg hne]; exact h
/-- What the program has done to a level, after so many of its words. -/
structure MidS (k : Int) (m q q2 : Nat) (E : List Wd) (f : Lv) (o : List Wd) (bs : Bs) (seen : List Nat) (o1 : List Wd) (id1 : Nat) : Prop where
  it : bs[q2]? = some (.ot (.iter (some (2 + q)) E.length seen))
  mp : bs[q]? = some (.mp m E)
  nd : seen.Nodup
  lt : ∀ i ∈ seen, i < E.length
  lv : ∀ j, j < m → lvB bs j = (runP m k (seen.map (wat E)) (f, o)).1 j
  out : o1 = (runP m k (seen.map (wat E)) (f, o)).2
  nm : ∀ j, j < m → ∀ v ∈ lvB bs j, nmW v.acts ∧ 0 ≤ v.n ∧ v.n ≤ 314572800 * (1 + (seen.length : Int))
  blk : OutB bs o1 id1
theorem MidS.len {k : Int} {m q q2 : Nat} {E o : List Wd} {f : Lv} {bs : Bs} {seen : List Nat} {o1 : List Wd} {id1 : Nat} (h : MidS k m q q2 E f o bs seen o1 id1) : seen.length ≤ E.length := by
  have := List.Nodup.length_le_of_subset h.nd (l₂ := List.range E.length) fun i hi => List.mem_range.2 (h.lt i hi)
  simpa using this
theorem MidS.olen {k : Int} {m q q2 : Nat} {E o : List Wd} {f : Lv} {bs : Bs} {seen : List Nat} {o1 : List Wd} {id1 : Nat} (h : MidS k m q q2 E f o bs seen o1 id1) : o1.length ≤ o.length + seen.length := by
  rw [h.out, runP_out, List.length_append]
  have := List.length_filter_le (fun v : Wd => decide (k ≤ v.n)) (seen.map (wat E))
  simp at this ⊢; omega
theorem MidS.perm {k : Int} {m q q2 : Nat} {E o : List Wd} {f : Lv} {bs : Bs} {seen : List Nat} {o1 : List Wd} {id1 : Nat} (h : MidS k m q q2 E f o bs seen o1 id1) (hall : ∀ i, i < E.length → i ∈ seen) : (seen.map (wat E)).Perm E := by
  have h1 : seen.Perm (List.range E.length) := (List.perm_ext_iff_of_nodup h.nd List.nodup_range).2 fun i => ⟨fun hi => List.mem_range.2 (h.lt i hi), fun hi => hall i (List.mem_range.1 hi)⟩
  have h2 : (List.range E.length).map (wat E) = E := by
    refine List.ext_getElem (by simp) fun i h1 h2 => ?_
    simp [wat_get (l := E) (i := i) (by simpa using h2)]
  have := h1.map (wat E)
  rwa [h2] at this
/-- One word more: it is put out, it goes to the level below, or it is dropped. -/
theorem MidS.snoc {k : Int} {m q q2 i : Nat} {E o : List Wd} {f : Lv} {bs X : Bs} {seen : List Nat} {o1 o2 : List Wd} {id1 id2 : Nat} (h : MidS k m q q2 E f o bs seen o1 id1) (hi : i ∉ seen) (hl : i < E.length)
    (hit : X[q2]? = some (.ot (.iter (some (2 + q)) E.length (seen ++ [i])))) (hmp : X[q]? = some (.mp m E)) (hlv : ∀ j, j < m → lvB X j = (stP m k (lvB bs, o1) (wat E i)).1 j) (ho : o2 = (stP m k (lvB bs, o1) (wat E i)).2)
    (hnm : ∀ j, j < m → ∀ v ∈ lvB X j, nmW v.acts ∧ 0 ≤ v.n ∧ v.n ≤ 314572800 * (1 + (seen.length : Int)) + 314572800) (hb : OutB X o2 id2) : MidS k m q q2 E f o X (seen ++ [i]) o2 id2 := by
  refine ⟨hit, hmp, List.nodup_append.2 ⟨h.nd, by simp, fun a ha b hb => by simp at hb; subst hb; exact fun e => hi (e ▸ ha)⟩, fun j hj => ?_, fun j hj => ?_, ?_, fun j hj v hv => ?_, hb⟩
  · rcases List.mem_append.1 hj with hj | hj
    · exact h.lt j hj
    · simp at hj; subst hj; exact hl
  · rw [List.map_append, List.map_cons, List.map_nil, runP_snoc, hlv j hj]
    unfold stP
    split
    · exact h.lv j hj
    · split
      · simp only [updL]
        split
        · rename_i e
          rw [h.lv (m - 1) (by omega)]
        · exact h.lv j hj
      · exact h.lv j hj
  · rw [List.map_append, List.map_cons, List.map_nil, runP_snoc, ho, h.out]
    unfold stP
    split
    · rfl
    · split <;> rfl
  · have := hnm j hj v hv
    refine ⟨this.1, this.2.1, ?_⟩
    simp only [List.length_append, List.length_singleton]
    omega
theorem MidS.forget {k : Int} {m q q2 : Nat} {E o : List Wd} {f : Lv} {bs : Bs} {seen : List Nat} {o1 : List Wd} {id1 : Nat} (h : MidS k m q q2 E f o bs seen o1 id1) : MidS k m q q2 E f o (cln (q2 :: kO o1 id1) bs) seen o1 id1 :=
  ⟨cln_ot (by simp) h.it, cln_mp h.mp, h.nd, h.lt, fun j hj => cln_lv.trans (h.lv j hj), h.out, fun j hj v hv => h.nm j hj v (by rwa [cln_lv] at hv), outB_cln h.blk fun i hi => by simp [hi]⟩
theorem MidS.keep {k : Int} {m q q2 : Nat} {E o : List Wd} {f : Lv} {bs : Bs} {seen : List Nat} {o1 : List Wd} {id1 : Nat} (h : MidS k m q q2 E f o bs seen o1 id1) {n : Nat} : ∀ i ∈ q2 :: kO o1 id1, ∀ b, bs[i]? = some (.ot b) → cvB (2 + bs.length) n b b := fun i hi b hb => by
  rcases List.mem_cons.1 hi with rfl | hi
  · have h1 := h.it
    rw [hb] at h1
    simp only [Option.some.injEq, BE.ot.injEq] at h1
    subst h1
    have h2 := (List.getElem?_eq_some_iff.1 h.mp).1
    exact ⟨rfl, rfl, rfl, fun i hi => by simp only [Option.some.injEq] at hi; omega⟩
  · exact outB_row h.blk i hi b hb
theorem MidS.start {k : Int} {m q id : Nat} {E o : List Wd} {bs : Bs} (hq : bs[q]? = some (.mp m E)) (hb : OutB bs o id) (hn : ∀ j, j < m → ∀ v ∈ lvB bs j, nmW v.acts ∧ 0 ≤ v.n ∧ v.n ≤ 314572800) :
    MidS k m q bs.length E (lvB bs) o (bs ++ [.ot (.iter (some (2 + q)) E.length [])]) [] o id :=
  ⟨by simp, ot_app hq, by simp, by simp, fun j _ => lvB_ot, rfl, fun j hj v hv => by rw [lvB_ot] at hv; have := hn j hj v hv; exact ⟨this.1, this.2.1, by simp; omega⟩, outB_mono hb fun b h => ot_app h⟩
end Go.Proofs.Ytkppfaennogcmaa
