/- slices.Delete of one element of an own slice of executions. -/
import Derived.Test.YtpgoefakhecdnaaAbMv
import Derived.Test.YtpgoefakhecdnaaAbBase
import Derived.Test.YtpgoefakhecdnaaAbEx2
import Derived.Test.YtpgoefakhecdnaaTy
namespace Go.Proofs.Ytpgoefakhecdnaa
set_option linter.unusedSimpArgs false
set_option linter.unusedVariables false
set_option linter.unnecessarySimpa false
set_option linter.unusedSectionVars false
open Go.RowKit
variable [Glob]
set_option maxRecDepth 100000
def zEx : List AV := [.int .i64 0, .int .i64 0, .int .i64 0]
def delR (rows : List (List AV)) (i : Nat) : List (List AV) := rows.take i ++ rows.drop (i + 1) ++ [zEx]
theorem del_putR {rows : List (List AV)} {i n : Nat} (hn : rows.length = n) (hi : i < n) :
    putR (putR rows i ((rows.take n).drop (i + 1))) (n - 1) [zEx] = delR rows i := by
  have h1 : (rows.take n).drop (i + 1) = rows.drop (i + 1) := by rw [List.take_of_length_le (by omega)]
  rw [h1]
  have h2 : putR rows i (rows.drop (i + 1)) = rows.take i ++ rows.drop (i + 1) ++ rows.drop (n - 1) := by
    unfold putR
    rw [List.length_drop, show i + (rows.length - (i + 1)) = n - 1 by omega]
  rw [h2]
  unfold putR delR
  have h3 : (rows.take i ++ rows.drop (i + 1)).length = n - 1 := by simp; omega
  have h9 : (rows.take i ++ rows.drop (i + 1) ++ rows.drop (n - 1)).drop (n - 1 + [zEx].length) = [] := List.drop_of_length_le (by simp only [List.length_append, List.length_take, List.length_drop, List.length_cons, List.length_nil]; omega)
  rw [List.take_append_of_le_length (by omega), List.take_of_length_le (by omega), h9]
  simp
set_option maxHeartbeats 8000000 in
theorem del_G (rows : List (List AV)) (n i : Nat) (hn : rows.length = n) (hi : i < n) (ha : allLen 3 rows = true) (h0 : n ≤ 1073741824) :
    CallG Try.prog 60 [.os 0 n, .int .i64 i, .int .i64 (i + 1)] [.row 95 false rows] fun r H => r = .ow 0 n 0 (n - 1) ∧ H = [.row 95 false (delR rows i)] := by
  have h1 : (i : Int) ≤ n := by omega
  have h2 : (i : Int) + 1 ≤ n := by omega
  have h3 : ¬ (i : Int) = i + 1 := by omega
  have h4 : (0 : Int) ≤ i := by omega
  have h5 : (i : Int) ≤ i + 1 := by omega
  have h6 : 0 < n := by omega
  have h8 : (0 : Int) ≤ (i : Int) + 1 := by omega
  have e1 : i + (n - (i + 1)) = n - 1 := by omega
  have e2 : n - 1 ≤ n := by omega
  have e3 : ((n - 1 : Nat) : Int) ≤ n := by omega
  have e4 : n - (n - 1) = 1 := by omega
  have h7 : (n : Int) ≠ 0 := by omega
  have hP : (putR rows i ((rows.take n).drop (i + 1))).length = n := by
    rw [putR_len (by simp only [List.length_take, List.length_drop]; omega), hn]
  have hD := del_putR hn hi
  refine inl_G mixed Try.func60 rfl (by kernel_rfl) (of_decide_eq_true rfl) (by kernel_rfl) (vc_run ?_)
  ((try simp -implicitDefEqProofs [-loopQ_n, hn, hi, h1, h2, h3, h4, h5, h6, h7, h8, e1, e2, e3, e4, ha, h0, hP, hD, zEx]) <;> (repeat' (first | (refine condD_dec ?_ ?_ <;> (intro hc; (try simp -implicitDefEqProofs [-loopQ_n, hc, hn, hi, h1, h2, h3, h4, h5, h6, h7, h8, e1, e2, e3, e4, ha, h0, hP, hD, zEx]))) | (refine guardD_dec ?_ ?_ <;> (intro hc; (try simp -implicitDefEqProofs [-loopQ_n, hc, hn, hi, h1, h2, h3, h4, h5, h6, h7, h8, e1, e2, e3, e4, ha, h0, hP, hD, zEx]))) | (refine condD_intro ?_ ?_ <;> (intro hd; have hc := hd; (try simp at hc) <;> (try simp -implicitDefEqProofs [-loopQ_n, hd, hc, hn, hi, h1, h2, h3, h4, h5, h6, h7, h8, e1, e2, e3, e4, ha, h0, hP, hD, zEx]))) | (refine guardD_intro ?_ ?_ <;> (intro hd; have hc := hd; (try simp at hc) <;> (try simp -implicitDefEqProofs [-loopQ_n, hd, hc, hn, hi, h1, h2, h3, h4, h5, h6, h7, h8, e1, e2, e3, e4, ha, h0, hP, hD, zEx]))) | (refine ldD_ep ?_ ?_; (focus kernel_rfl); (try simp -implicitDefEqProofs [-loopQ_n, hn, hi, h1, h2, h3, h4, h5, h6, h7, h8, e1, e2, e3, e4, ha, h0, hP, hD, zEx])))))
  split
  · rename_i e1 e2 e3
    simp at e3
    omega
  rotate_left
  · rename_i e
    exact absurd rfl (e _ _ _ rfl rfl)
  rename_i l h m _ e1 e2 e3
  simp only [Option.some.injEq] at e1 e2 e3
  subst e1 e2 e3
  ((try simp -implicitDefEqProofs [-loopQ_n, hn, hi, h1, h2, h3, h4, h5, h6, h7, h8, e1, e2, e3, e4, ha, h0, hP, hD, zEx]) <;> (repeat' (first | (refine condD_dec ?_ ?_ <;> (intro hc; (try simp -implicitDefEqProofs [-loopQ_n, hc, hn, hi, h1, h2, h3, h4, h5, h6, h7, h8, e1, e2, e3, e4, ha, h0, hP, hD, zEx]))) | (refine guardD_dec ?_ ?_ <;> (intro hc; (try simp -implicitDefEqProofs [-loopQ_n, hc, hn, hi, h1, h2, h3, h4, h5, h6, h7, h8, e1, e2, e3, e4, ha, h0, hP, hD, zEx]))) | (refine condD_intro ?_ ?_ <;> (intro hd; have hc := hd; (try simp at hc) <;> (try simp -implicitDefEqProofs [-loopQ_n, hd, hc, hn, hi, h1, h2, h3, h4, h5, h6, h7, h8, e1, e2, e3, e4, ha, h0, hP, hD, zEx]))) | (refine guardD_intro ?_ ?_ <;> (intro hd; have hc := hd; (try simp at hc) <;> (try simp -implicitDefEqProofs [-loopQ_n, hd, hc, hn, hi, h1, h2, h3, h4, h5, h6, h7, h8, e1, e2, e3, e4, ha, h0, hP, hD, zEx]))) | (refine ldD_ep ?_ ?_; (focus kernel_rfl); (try simp -implicitDefEqProofs [-loopQ_n, hn, hi, h1, h2, h3, h4, h5, h6, h7, h8, e1, e2, e3, e4, ha, h0, hP, hD, zEx])))))
  exact endG_r (.ow 0 n 0 (n - 1)) (by simp) ⟨rfl, by rw [← hD]; rfl⟩
/-- Plain data. -/
def flatR (rows : List (List AV)) : Bool := rows.all fun r => r.all fun x => match x with | .int .. => true | _ => false
theorem flatR_m {rows : List (List AV)} (h : flatR rows = true) (ρ : Nat → Nat) : rows.map (mL ρ) = rows := by
  have key : ∀ l : List AV, (l.all fun x => match x with | .int .. => true | _ => false) = true → mL ρ l = l := by
    intro l
    induction l with
    | nil => intro _; rfl
    | cons x l ih =>
      intro h
      simp only [List.all_cons, Bool.and_eq_true] at h
      cases x with
      | int k n => simp only [mL, mA, ih h.2]
      | _ => simp at h
  rw [List.map_congr_left (g := id) fun r hr => ?_, List.map_id]
  exact key r (List.all_eq_true.1 h r hr)
theorem flatR_del {rows : List (List AV)} (h : flatR rows = true) (i : Nat) : flatR (delR rows i) = true := by
  unfold flatR delR at *
  rw [List.all_append, List.all_append, Bool.and_eq_true, Bool.and_eq_true]
  rw [List.all_eq_true] at h
  refine ⟨⟨List.all_eq_true.2 fun r hr => h r (List.mem_of_mem_take hr), List.all_eq_true.2 fun r hr => h r (List.mem_of_mem_drop hr)⟩, rfl⟩
/-- The same, wherever the slice lies. -/
theorem del_at (rows : List (List AV)) (n i id : Nat) (hn : rows.length = n) (hi : i < n) (ha : allLen 3 rows = true) (h0 : n ≤ 1073741824) (hf : flatR rows = true) {H : List Blk} (hb : H[id]? = some (.row 95 false rows)) :
    CallG Try.prog 60 [.os id n, .int .i64 i, .int .i64 (i + 1)] H fun r H' => r = .ow id n 0 (n - 1) ∧ H' = H.set id (.row 95 false (delR rows i)) := by
  have hid : id < H.length := (List.getElem?_eq_some_iff.1 hb).1
  have h0' : rn [id] H.length 0 = id := rfl
  refine foot_G (del_G rows n i hn hi ha h0) [id] rfl (by simp) (by simpa using hid) (fun j k b hj hbb => ?_) (by simp [h0']) fun r H' _ hk => ?_
  · cases j with
    | zero => simp at hj hbb; subst hj; subst hbb; rw [hb]; simp only [mB, flatR_m hf]
    | succ j => simp at hj
  · obtain ⟨rfl, rfl⟩ := hk
    refine ⟨by simp [h0'], ?_⟩
    simp only [putB, List.map_cons, List.map_nil, mB, flatR_m (flatR_del hf i), List.append_nil]
def delRow : RowF := fun g xs H =>
  if g = 60 then match xs with
    | [.os id n, .int .i64 i, .int .i64 j] => match H[id]? with
      | some (.row e false rows) => if e = 95 ∧ rows.length = n ∧ 0 ≤ i ∧ i.toNat < n ∧ j = i + 1 ∧ allLen 3 rows = true ∧ n ≤ 1073741824 ∧ flatR rows = true then some (.ow id n 0 (n - 1), id, .row e false (delR rows i.toNat)) else none
      | _ => none
    | _ => none else none
theorem delRow_ok : RowOk Try.prog delRow := by
  intro g xs H r id b h
  unfold delRow at h
  split at h
  · rename_i hg
    subst hg
    split at h
    · rename_i id' n i j
      split at h
      · rename_i e rows hb
        split at h
        · rename_i hc
          obtain ⟨rfl, h1, h2, h3, rfl, h4, h5, h6⟩ := hc
          simp at h
          obtain ⟨rfl, rfl, rfl⟩ := h
          obtain ⟨i, rfl⟩ := Int.eq_ofNat_of_zero_le h2
          have := del_at rows n i id' h1 (by simpa using h3) h4 h5 h6 hb
          exact ⟨(List.getElem?_eq_some_iff.1 hb).1, rfl, by rw [hb]; rfl, by simpa using this⟩
        · simp at h
      · simp at h
    · simp at h
  · simp at h
end Go.Proofs.Ytpgoefakhecdnaa
