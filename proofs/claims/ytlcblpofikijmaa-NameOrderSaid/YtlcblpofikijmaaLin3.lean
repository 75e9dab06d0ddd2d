/- Literals: Quote and Unquote of program and reference. -/
import Derived.Test.YtlcblpofikijmaaLin2
import Derived.Test.YtlcblpofikijmaaAbExec
namespace Go.Proofs.Ytlcblpofikijmaa
set_option linter.unusedSimpArgs false
set_option linter.unusedVariables false
set_option linter.unnecessarySimpa false
set_option linter.unusedSectionVars false
open Go.RowKit
variable [Glob]
set_option maxRecDepth 100000
section
variable {L : Nat} {k : List Item} {st : St} {Q : Ex → St → Prop} {dst : Option Nat} {all rest : List Oper}
theorem lit_call {s : ByteArray} {a id : Nat} {t q : List UInt8} (hR : rdL [] ((bl s).drop a) = .ok (t, q)) (hb : st.H[id]? = some (rdB s a)) (hs : s.size ≤ 100000) (ha : a ≤ s.size) (h3 : run Try.prog L (.ops false all rest :: k) ⟨tputD st.T dst (.tup [.str ⟨t.toArray⟩, .int .i64 0]), st.H.set id (rdB s (s.size - q.length))⟩ Q) : callD Try.prog L (.fn 37 []) [.op id 0] dst false all rest k st Q :=
  callG_intro (foot1 (rlit_G s a hs ha) id hb (fun _ => rdB_mB) (fun ρ h => by simp [mL, mA, h]) fun r H' h => by
    rw [hR] at h
    obtain ⟨h1, h2⟩ := h
    exact ⟨_, h2, fun _ => rdB_mB, fun _ => by rw [h1]; simp [mA, mL], by rw [h1]; exact h3⟩)
theorem lit_callE {s : ByteArray} {a id : Nat} {e : Int} (hR : rdL [] ((bl s).drop a) = .error e) (hb : st.H[id]? = some (rdB s a)) (hs : s.size ≤ 100000) (ha : a ≤ s.size) (h3 : ∀ b, run Try.prog L (.ops false all rest :: k) ⟨tputD st.T dst (.tup [.str ByteArray.empty, .int .i64 e]), st.H.set id (rdB s b)⟩ Q) : callD Try.prog L (.fn 37 []) [.op id 0] dst false all rest k st Q :=
  callG_intro (foot1 (rlit_G s a hs ha) id hb (fun _ => rdB_mB) (fun ρ h => by simp [mL, mA, h]) fun r H' h => by
    rw [hR] at h
    obtain ⟨h1, b, h2⟩ := h
    exact ⟨_, h2, fun _ => rdB_mB, fun _ => by rw [h1]; simp [mA, mL], by rw [h1]; exact h3 b⟩)
end
theorem hasQ_pure (s : ByteArray) (hs : s.size ≤ 1000000) : Pure Try.prog 53 [.str s, .str "\"".toUTF8] (.bool (decide ((bl s).head? = some 34))) := by
  have h2 : Pure Try.prog 65 [.str s, .str "\"".toUTF8] (.bool (decide ((bl s).head? = some 34))) := by
    refine pure_of mixed Try.func65 rfl (by kernel_rfl) (of_decide_eq_true rfl) (by kernel_rfl) (vc_run ?_)
    ((try simp -implicitDefEqProofs [-loopQ_n]) <;> (repeat' (first | (refine condD_dec ?_ ?_ <;> (intro hc; (try simp -implicitDefEqProofs [-loopQ_n, hc]))) | (refine guardD_dec ?_ ?_ <;> (intro hc; (try simp -implicitDefEqProofs [-loopQ_n, hc]))) | (refine condD_intro ?_ ?_ <;> (intro hd; have hc := hd; (try simp at hc) <;> (try simp -implicitDefEqProofs [-loopQ_n, hd, hc]))) | (refine guardD_intro ?_ ?_ <;> (intro hd; have hc := hd; (try simp at hc) <;> (try simp -implicitDefEqProofs [-loopQ_n, hd, hc]))) | (refine ldD_ep ?_ ?_; (focus kernel_rfl); (try simp -implicitDefEqProofs [-loopQ_n])))))
    · rename_i hc
      have u1 : "\"".utf8ByteSize = 1 := by decide +kernel
      have h1 : 1 ≤ s.size := by rw [u1] at hc; exact hc
      have e0 : (s.extract 0 1).data.toList = [s.data[0]'h1] := by
        rw [ByteArray.data_extract, Array.toList_extract]
        show ((bl s).drop 0).take 1 = _
        rw [bl_drop h1]; rfl
      have e1 : bl s = s.data[0]'h1 :: (bl s).drop 1 := by have := bl_drop h1; simpa using this
      rw [u1, ba_toList, e0, ba_toList, show "\"".toByteArray.data.toList = [34] from by decide +kernel, e1]
      simp
    · rename_i hc
      have u1 : "\"".utf8ByteSize = 1 := by decide +kernel
      have h1 : ¬ 1 ≤ s.size := by rw [u1] at hc; exact hc
      have : bl s = [] := List.eq_nil_of_length_eq_zero (by rw [bl_len]; omega)
      rw [this]; simp
  refine pure_of mixed Try.func53 rfl (by kernel_rfl) (of_decide_eq_true rfl) (by kernel_rfl) (vc_run ?_)
  ((try simp -implicitDefEqProofs [-loopQ_n]) <;> (repeat' (first | (refine condD_dec ?_ ?_ <;> (intro hc; (try simp -implicitDefEqProofs [-loopQ_n, hc]))) | (refine guardD_dec ?_ ?_ <;> (intro hc; (try simp -implicitDefEqProofs [-loopQ_n, hc]))) | (refine condD_intro ?_ ?_ <;> (intro hd; have hc := hd; (try simp at hc) <;> (try simp -implicitDefEqProofs [-loopQ_n, hd, hc]))) | (refine guardD_intro ?_ ?_ <;> (intro hd; have hc := hd; (try simp at hc) <;> (try simp -implicitDefEqProofs [-loopQ_n, hd, hc]))) | (refine ldD_ep ?_ ?_; (focus kernel_rfl); (try simp -implicitDefEqProofs [-loopQ_n])) | (refine callS_mk ?_; (try simp -implicitDefEqProofs [-loopQ_n]); (first | refine callS_intro (h2) (.inl rfl) ?_); (try simp -implicitDefEqProofs [-loopQ_n])))))
theorem baSize {l : List UInt8} : ByteArray.size ⟨l.toArray⟩ = l.length := rfl
def readR (s : ByteArray) : AV :=
  match rdL [] (bl s).tail with
  | .ok (t, q) => .tup [.str ⟨t.toArray⟩, .int .i64 (s.size - q.length : Nat), .int .i64 0]
  | .error e => .tup [.str ⟨#[]⟩, .int .i64 0, .int .i64 e]
theorem rread_pure (s : ByteArray) (hs : s.size ≤ 100000) (h0 : 1 ≤ s.size) : Pure Try.prog 40 [.str s] (readR s) := by
  refine pure_of mixed Try.func40 rfl (by kernel_rfl) (of_decide_eq_true rfl) (by kernel_rfl) (vc_run ?_)
  ((try simp -implicitDefEqProofs [-loopQ_n]) <;> (repeat' (first | (refine condD_dec ?_ ?_ <;> (intro hc; (try simp -implicitDefEqProofs [-loopQ_n, hc]))) | (refine guardD_dec ?_ ?_ <;> (intro hc; (try simp -implicitDefEqProofs [-loopQ_n, hc]))) | (refine condD_intro ?_ ?_ <;> (intro hd; have hc := hd; (try simp at hc) <;> (try simp -implicitDefEqProofs [-loopQ_n, hd, hc]))) | (refine guardD_intro ?_ ?_ <;> (intro hd; have hc := hd; (try simp at hc) <;> (try simp -implicitDefEqProofs [-loopQ_n, hd, hc]))) | (refine ldD_ep ?_ ?_; (focus kernel_rfl); (try simp -implicitDefEqProofs [-loopQ_n])))))
  refine loop_intro (σ := Nat × List UInt8) (fun x => ⟨[(0, .str s), (5, .os 0 x.2.length), (6, .int .i64 x.1)], [.row 5 true (bR x.2)]⟩) (fun x => x.1 ≤ s.size ∧ x.2.length ≤ x.1 ∧ rdL x.2 ((bl s).drop x.1) = rdL [] (bl s).tail) (fun x => s.size - x.1) (1, []) ⟨h0, by simp, by simp⟩ ?_ ?_
  · refine weak_of 0 1 rfl rfl ?_ ?_ <;> simp [bR, rowsOf]
  rintro ⟨i, acc⟩ ⟨hi, hl, hR⟩
  simp only at hi hl hR
  have hl1 : acc.length < 1073741824 := by omega
  by_cases h : i < s.size
  · rw [bl_drop h] at hR
    have w1 := w_suc h (by omega)
    have hl2 : acc.length ≤ 1073741823 := by omega
    by_cases c34 : (s.data[i].toNat : Int) = 34
    · have c34' : s.data[i] = 34 := by simpa only [u8_34] using c34
      rw [c34', rdL_cons, if_pos rfl] at hR
      have hlen : s.size - ((bl s).drop (i + 1)).length = i + 1 := by simp; omega
      ((try simp -implicitDefEqProofs [-loopQ_n, h, byte_at h, c34, bR_len, bR_all1, unb_bR, w1]) <;> (repeat' (first | (refine condD_dec ?_ ?_ <;> (intro hc; (try simp -implicitDefEqProofs [-loopQ_n, hc, h, byte_at h, c34, bR_len, bR_all1, unb_bR, w1]))) | (refine guardD_dec ?_ ?_ <;> (intro hc; (try simp -implicitDefEqProofs [-loopQ_n, hc, h, byte_at h, c34, bR_len, bR_all1, unb_bR, w1]))) | (refine condD_intro ?_ ?_ <;> (intro hd; have hc := hd; (try simp at hc) <;> (try simp -implicitDefEqProofs [-loopQ_n, hd, hc, h, byte_at h, c34, bR_len, bR_all1, unb_bR, w1]))) | (refine guardD_intro ?_ ?_ <;> (intro hd; have hc := hd; (try simp at hc) <;> (try simp -implicitDefEqProofs [-loopQ_n, hd, hc, h, byte_at h, c34, bR_len, bR_all1, unb_bR, w1]))) | (refine ldD_ep ?_ ?_; (focus kernel_rfl); (try simp -implicitDefEqProofs [-loopQ_n, h, byte_at h, c34, bR_len, bR_all1, unb_bR, w1])))))
      rw [readR, ← hR]
      simp only
      rw [hlen]; simp
    have n34 : ¬ s.data[i] = 34 := by simpa only [u8_34] using c34
    by_cases c92 : (s.data[i].toNat : Int) = 92
    · have c92' : s.data[i] = 92 := by simpa only [u8_92] using c92
      rw [rdL_cons, if_neg n34, if_pos c92'] at hR
      by_cases h2 : i + 1 < s.size
      · rw [bl_drop h2] at hR
        have w2 := w_suc h2 (by omega)
        have b2 := byte_at h2
        have ne : ¬ (i : Int) + 1 = s.size := by omega
        have p1 : (0 : Int) ≤ (i : Int) + 1 := by omega
        simp only [Int.natCast_add, Int.natCast_one] at w2
        simp only at hR
        by_cases d34 : (s.data[i + 1].toNat : Int) = 34
        · have d34' : s.data[i + 1] = 34 := by simpa only [u8_34] using d34
          simp only [d34', true_or, if_true] at hR
          ((try simp -implicitDefEqProofs [-loopQ_n, h, h2, byte_at h, b2, p1, ne, hl2, c34, c92, d34, bR_k34, bR_len, bR_all1, unb_bR, w1, w2]) <;> (repeat' (first | (refine condD_dec ?_ ?_ <;> (intro hc; (try simp -implicitDefEqProofs [-loopQ_n, hc, h, h2, byte_at h, b2, p1, ne, hl2, c34, c92, d34, bR_k34, bR_len, bR_all1, unb_bR, w1, w2]))) | (refine guardD_dec ?_ ?_ <;> (intro hc; (try simp -implicitDefEqProofs [-loopQ_n, hc, h, h2, byte_at h, b2, p1, ne, hl2, c34, c92, d34, bR_k34, bR_len, bR_all1, unb_bR, w1, w2]))) | (refine condD_intro ?_ ?_ <;> (intro hd; have hc := hd; (try simp at hc) <;> (try simp -implicitDefEqProofs [-loopQ_n, hd, hc, h, h2, byte_at h, b2, p1, ne, hl2, c34, c92, d34, bR_k34, bR_len, bR_all1, unb_bR, w1, w2]))) | (refine guardD_intro ?_ ?_ <;> (intro hd; have hc := hd; (try simp at hc) <;> (try simp -implicitDefEqProofs [-loopQ_n, hd, hc, h, h2, byte_at h, b2, p1, ne, hl2, c34, c92, d34, bR_k34, bR_len, bR_all1, unb_bR, w1, w2]))) | (refine ldD_ep ?_ ?_; (focus kernel_rfl); (try simp -implicitDefEqProofs [-loopQ_n, h, h2, byte_at h, b2, p1, ne, hl2, c34, c92, d34, bR_k34, bR_len, bR_all1, unb_bR, w1, w2])))))
          refine loop_next (i + 1 + 1, acc ++ [34]) ⟨by simp only; omega, by simp; omega, hR⟩ (by simp only; omega) (weak_of 1 0 rfl rfl ?_ ?_) <;> simp [bR_refs]
        have e34 : ¬ s.data[i + 1] = 34 := by simpa only [u8_34] using d34
        by_cases d92 : (s.data[i + 1].toNat : Int) = 92
        · have d92' : s.data[i + 1] = 92 := by simpa only [u8_92] using d92
          simp only [d92', or_true, if_true] at hR
          ((try simp -implicitDefEqProofs [-loopQ_n, h, h2, byte_at h, b2, p1, ne, hl2, c34, c92, d34, d92, bR_k92, bR_len, bR_all1, unb_bR, w1, w2]) <;> (repeat' (first | (refine condD_dec ?_ ?_ <;> (intro hc; (try simp -implicitDefEqProofs [-loopQ_n, hc, h, h2, byte_at h, b2, p1, ne, hl2, c34, c92, d34, d92, bR_k92, bR_len, bR_all1, unb_bR, w1, w2]))) | (refine guardD_dec ?_ ?_ <;> (intro hc; (try simp -implicitDefEqProofs [-loopQ_n, hc, h, h2, byte_at h, b2, p1, ne, hl2, c34, c92, d34, d92, bR_k92, bR_len, bR_all1, unb_bR, w1, w2]))) | (refine condD_intro ?_ ?_ <;> (intro hd; have hc := hd; (try simp at hc) <;> (try simp -implicitDefEqProofs [-loopQ_n, hd, hc, h, h2, byte_at h, b2, p1, ne, hl2, c34, c92, d34, d92, bR_k92, bR_len, bR_all1, unb_bR, w1, w2]))) | (refine guardD_intro ?_ ?_ <;> (intro hd; have hc := hd; (try simp at hc) <;> (try simp -implicitDefEqProofs [-loopQ_n, hd, hc, h, h2, byte_at h, b2, p1, ne, hl2, c34, c92, d34, d92, bR_k92, bR_len, bR_all1, unb_bR, w1, w2]))) | (refine ldD_ep ?_ ?_; (focus kernel_rfl); (try simp -implicitDefEqProofs [-loopQ_n, h, h2, byte_at h, b2, p1, ne, hl2, c34, c92, d34, d92, bR_k92, bR_len, bR_all1, unb_bR, w1, w2])))))
          refine loop_next (i + 1 + 1, acc ++ [92]) ⟨by simp only; omega, by simp; omega, hR⟩ (by simp only; omega) (weak_of 1 0 rfl rfl ?_ ?_) <;> simp [bR_refs]
        have e92 : ¬ s.data[i + 1] = 92 := by simpa only [u8_92] using d92
        simp only [e34, e92, or_self, if_false] at hR
        ((try simp -implicitDefEqProofs [-loopQ_n, h, h2, byte_at h, b2, p1, ne, c34, c92, d34, d92, bR_len, bR_all1, unb_bR, w1, w2]) <;> (repeat' (first | (refine condD_dec ?_ ?_ <;> (intro hc; (try simp -implicitDefEqProofs [-loopQ_n, hc, h, h2, byte_at h, b2, p1, ne, c34, c92, d34, d92, bR_len, bR_all1, unb_bR, w1, w2]))) | (refine guardD_dec ?_ ?_ <;> (intro hc; (try simp -implicitDefEqProofs [-loopQ_n, hc, h, h2, byte_at h, b2, p1, ne, c34, c92, d34, d92, bR_len, bR_all1, unb_bR, w1, w2]))) | (refine condD_intro ?_ ?_ <;> (intro hd; have hc := hd; (try simp at hc) <;> (try simp -implicitDefEqProofs [-loopQ_n, hd, hc, h, h2, byte_at h, b2, p1, ne, c34, c92, d34, d92, bR_len, bR_all1, unb_bR, w1, w2]))) | (refine guardD_intro ?_ ?_ <;> (intro hd; have hc := hd; (try simp at hc) <;> (try simp -implicitDefEqProofs [-loopQ_n, hd, hc, h, h2, byte_at h, b2, p1, ne, c34, c92, d34, d92, bR_len, bR_all1, unb_bR, w1, w2]))) | (refine ldD_ep ?_ ?_; (focus kernel_rfl); (try simp -implicitDefEqProofs [-loopQ_n, h, h2, byte_at h, b2, p1, ne, c34, c92, d34, d92, bR_len, bR_all1, unb_bR, w1, w2])))))
        rw [readR, ← hR]
      · rw [List.drop_eq_nil_of_le (by simp; omega)] at hR
        have ne : (i : Int) + 1 = s.size := by omega
        have w3 : wrapI .i64 (s.size : Int) = s.size := wrap_in (by omega) (by omega)
        ((try simp -implicitDefEqProofs [-loopQ_n, h, byte_at h, c34, c92, ne, w1, w3]) <;> (repeat' (first | (refine condD_dec ?_ ?_ <;> (intro hc; (try simp -implicitDefEqProofs [-loopQ_n, hc, h, byte_at h, c34, c92, ne, w1, w3]))) | (refine guardD_dec ?_ ?_ <;> (intro hc; (try simp -implicitDefEqProofs [-loopQ_n, hc, h, byte_at h, c34, c92, ne, w1, w3]))) | (refine condD_intro ?_ ?_ <;> (intro hd; have hc := hd; (try simp at hc) <;> (try simp -implicitDefEqProofs [-loopQ_n, hd, hc, h, byte_at h, c34, c92, ne, w1, w3]))) | (refine guardD_intro ?_ ?_ <;> (intro hd; have hc := hd; (try simp at hc) <;> (try simp -implicitDefEqProofs [-loopQ_n, hd, hc, h, byte_at h, c34, c92, ne, w1, w3]))) | (refine ldD_ep ?_ ?_; (focus kernel_rfl); (try simp -implicitDefEqProofs [-loopQ_n, h, byte_at h, c34, c92, ne, w1, w3])))))
        rw [readR, ← hR]
    have n92 : ¬ s.data[i] = 92 := by simpa only [u8_92] using c92
    rw [rdL_cons, if_neg n34, if_neg n92] at hR
    ((try simp -implicitDefEqProofs [-loopQ_n, h, byte_at h, c34, c92, hl2, bR_len, bR_snoc, w1]) <;> (repeat' (first | (refine condD_dec ?_ ?_ <;> (intro hc; (try simp -implicitDefEqProofs [-loopQ_n, hc, h, byte_at h, c34, c92, hl2, bR_len, bR_snoc, w1]))) | (refine guardD_dec ?_ ?_ <;> (intro hc; (try simp -implicitDefEqProofs [-loopQ_n, hc, h, byte_at h, c34, c92, hl2, bR_len, bR_snoc, w1]))) | (refine condD_intro ?_ ?_ <;> (intro hd; have hc := hd; (try simp at hc) <;> (try simp -implicitDefEqProofs [-loopQ_n, hd, hc, h, byte_at h, c34, c92, hl2, bR_len, bR_snoc, w1]))) | (refine guardD_intro ?_ ?_ <;> (intro hd; have hc := hd; (try simp at hc) <;> (try simp -implicitDefEqProofs [-loopQ_n, hd, hc, h, byte_at h, c34, c92, hl2, bR_len, bR_snoc, w1]))) | (refine ldD_ep ?_ ?_; (focus kernel_rfl); (try simp -implicitDefEqProofs [-loopQ_n, h, byte_at h, c34, c92, hl2, bR_len, bR_snoc, w1])))))
    refine loop_next (i + 1, acc ++ [s.data[i]]) ⟨by simp only; omega, by simp; omega, hR⟩ (by simp only; omega) (weak_of 1 0 rfl rfl ?_ ?_) <;> simp [bR_refs]
  · rw [List.drop_eq_nil_of_le (by simp; omega), rdL_nil] at hR
    ((try simp -implicitDefEqProofs [-loopQ_n, h]) <;> (repeat' (first | (refine condD_dec ?_ ?_ <;> (intro hc; (try simp -implicitDefEqProofs [-loopQ_n, hc, h]))) | (refine guardD_dec ?_ ?_ <;> (intro hc; (try simp -implicitDefEqProofs [-loopQ_n, hc, h]))) | (refine condD_intro ?_ ?_ <;> (intro hd; have hc := hd; (try simp at hc) <;> (try simp -implicitDefEqProofs [-loopQ_n, hd, hc, h]))) | (refine guardD_intro ?_ ?_ <;> (intro hd; have hc := hd; (try simp at hc) <;> (try simp -implicitDefEqProofs [-loopQ_n, hd, hc, h]))) | (refine ldD_ep ?_ ?_; (focus kernel_rfl); (try simp -implicitDefEqProofs [-loopQ_n, h])))))
    rw [readR, ← hR]
/-- The text of a literal, or an error. -/
def unqL (l : List UInt8) : Except Int (List UInt8) :=
  match rdL [] l.tail with
  | .error e => .error e
  | .ok (t, q) => if q = [] then (if 16384 < t.length then .error 5 else .ok t) else .error 3
def unqR (s : ByteArray) : Except Int (List UInt8) := if 32770 < s.size then .error 5 else if (bl s).head? = some 34 ∧ prS s = true then unqL (bl s) else .error 3
def exS (r : Except Int (List UInt8)) : AV := match r with | .ok t => .tup [.str ⟨t.toArray⟩, .int .i64 0] | .error e => .tup [.str ⟨#[]⟩, .int .i64 e]
theorem rdL_err : ∀ (n : Nat) (l acc : List UInt8) (e : Int), l.length ≤ n → rdL acc l = .error e → e = 4 ∨ e = 3 := by
  intro n
  induction n with
  | zero => intro l acc e hl h; cases l with
    | nil => simp [rdL] at h; exact .inl h.symm
    | cons c r => simp at hl
  | succ n ih =>
    intro l acc e hl h
    cases l with
    | nil => simp [rdL] at h; exact .inl h.symm
    | cons c r =>
      rw [rdL_cons] at h
      split at h
      · simp at h
      · split at h
        · cases r with
          | nil => simp at h; exact .inl h.symm
          | cons d r =>
            simp only at h
            split at h
            · exact ih r _ e (by simp at hl; omega) h
            · simp at h; exact .inr h.symm
        · exact ih r _ e (by simp at hl; omega) h
set_option maxHeartbeats 4000000 in
theorem unq_pure (s : ByteArray) (hs : s.size ≤ 100000) : Pure Try.prog 24 [.str s] (exS (unqR s)) := by
  refine pure_of mixed Try.func24 rfl (by kernel_rfl) (of_decide_eq_true rfl) (by kernel_rfl) (vc_run ?_)
  by_cases h1 : 32770 < s.size
  · have h1' : (32770 : Int) < s.size := by omega
    ((try simp -implicitDefEqProofs [-loopQ_n, h1']) <;> (repeat' (first | (refine condD_dec ?_ ?_ <;> (intro hc; (try simp -implicitDefEqProofs [-loopQ_n, hc, h1']))) | (refine guardD_dec ?_ ?_ <;> (intro hc; (try simp -implicitDefEqProofs [-loopQ_n, hc, h1']))) | (refine condD_intro ?_ ?_ <;> (intro hd; have hc := hd; (try simp at hc) <;> (try simp -implicitDefEqProofs [-loopQ_n, hd, hc, h1']))) | (refine guardD_intro ?_ ?_ <;> (intro hd; have hc := hd; (try simp at hc) <;> (try simp -implicitDefEqProofs [-loopQ_n, hd, hc, h1']))) | (refine ldD_ep ?_ ?_; (focus kernel_rfl); (try simp -implicitDefEqProofs [-loopQ_n, h1'])))))
    simp [unqR, h1, exS]
  have h1' : ¬ (32770 : Int) < s.size := by omega
  have hs2 : s.size ≤ 1000000 := by omega
  by_cases h2 : (bl s).head? = some 34
  · by_cases h3 : prS s = true
    · have h0 : 1 ≤ s.size := by
        cases e : bl s with
        | nil => simp [e] at h2
        | cons c r => have := congrArg List.length e; simp at this; omega
      cases hR : rdL [] (bl s).tail with
      | error e =>
        have e0 : ¬ e = 0 := by rcases rdL_err _ _ _ _ (Nat.le_refl _) hR with h | h <;> omega
        have hR1 : rdL [] ((bl s).drop 1) = .error e := by rw [List.drop_one]; exact hR
        have hu : unqR s = .error e := by simp [unqR, h1, h2, h3, unqL, hR]
        ((try simp -implicitDefEqProofs [-loopQ_n, h1', h2, h3, e0]) <;> (repeat' (first | (refine condD_dec ?_ ?_ <;> (intro hc; (try simp -implicitDefEqProofs [-loopQ_n, hc, h1', h2, h3, e0]))) | (refine guardD_dec ?_ ?_ <;> (intro hc; (try simp -implicitDefEqProofs [-loopQ_n, hc, h1', h2, h3, e0]))) | (refine condD_intro ?_ ?_ <;> (intro hd; have hc := hd; (try simp at hc) <;> (try simp -implicitDefEqProofs [-loopQ_n, hd, hc, h1', h2, h3, e0]))) | (refine guardD_intro ?_ ?_ <;> (intro hd; have hc := hd; (try simp at hc) <;> (try simp -implicitDefEqProofs [-loopQ_n, hd, hc, h1', h2, h3, e0]))) | (refine ldD_ep ?_ ?_; (focus kernel_rfl); (try simp -implicitDefEqProofs [-loopQ_n, h1', h2, h3, e0])) | (refine callS_mk ?_; (try simp -implicitDefEqProofs [-loopQ_n, h1', h2, h3, e0]); (first | refine callS_intro (hasQ_pure s hs2) (.inl rfl) ?_ | refine callS_intro (printable_pure s hs2) (.inl rfl) ?_); (try simp -implicitDefEqProofs [-loopQ_n, h1', h2, h3, e0])) | (refine lit_callE (a := 1) hR1 rfl hs h0 ?_; (try simp -implicitDefEqProofs [-loopQ_n, h1', h2, h3, e0])))))
        rw [hu]; rfl
      | ok p =>
        obtain ⟨t, q⟩ := p
        have hR1 : rdL [] ((bl s).drop 1) = .ok (t, q) := by rw [List.drop_one]; exact hR
        obtain ⟨l1, l2, _⟩ := rdL_len _ _ _ _ _ (Nat.le_refl _) hR
        simp at l1 l2
        by_cases hq : q = []
        · subst hq
          by_cases ht : 16384 < t.length
          · have ht' : (16384 : Int) < t.length := by omega
            have hu : unqR s = .error 5 := by simp [unqR, h1, h2, h3, unqL, hR, ht]
            ((try simp -implicitDefEqProofs [-loopQ_n, h1', h2, h3, ht', baSize, rdB]) <;> (repeat' (first | (refine condD_dec ?_ ?_ <;> (intro hc; (try simp -implicitDefEqProofs [-loopQ_n, hc, h1', h2, h3, ht', baSize, rdB]))) | (refine guardD_dec ?_ ?_ <;> (intro hc; (try simp -implicitDefEqProofs [-loopQ_n, hc, h1', h2, h3, ht', baSize, rdB]))) | (refine condD_intro ?_ ?_ <;> (intro hd; have hc := hd; (try simp at hc) <;> (try simp -implicitDefEqProofs [-loopQ_n, hd, hc, h1', h2, h3, ht', baSize, rdB]))) | (refine guardD_intro ?_ ?_ <;> (intro hd; have hc := hd; (try simp at hc) <;> (try simp -implicitDefEqProofs [-loopQ_n, hd, hc, h1', h2, h3, ht', baSize, rdB]))) | (refine ldD_ep ?_ ?_; (focus kernel_rfl); (try simp -implicitDefEqProofs [-loopQ_n, h1', h2, h3, ht', baSize, rdB])) | (refine callS_mk ?_; (try simp -implicitDefEqProofs [-loopQ_n, h1', h2, h3, ht', baSize, rdB]); (first | refine callS_intro (hasQ_pure s hs2) (.inl rfl) ?_ | refine callS_intro (printable_pure s hs2) (.inl rfl) ?_); (try simp -implicitDefEqProofs [-loopQ_n, h1', h2, h3, ht', baSize, rdB])) | (refine lit_call (a := 1) hR1 rfl hs h0 ?_; (try simp -implicitDefEqProofs [-loopQ_n, h1', h2, h3, ht', baSize, rdB])) | (refine more_call rfl hs2 ?_; (try simp -implicitDefEqProofs [-loopQ_n, h1', h2, h3, ht', baSize, rdB])))))
            rw [hu]; rfl
          · have ht' : ¬ (16384 : Int) < t.length := by omega
            have hu : unqR s = .ok t := by simp [unqR, h1, h2, h3, unqL, hR, ht]
            ((try simp -implicitDefEqProofs [-loopQ_n, h1', h2, h3, ht', baSize, rdB]) <;> (repeat' (first | (refine condD_dec ?_ ?_ <;> (intro hc; (try simp -implicitDefEqProofs [-loopQ_n, hc, h1', h2, h3, ht', baSize, rdB]))) | (refine guardD_dec ?_ ?_ <;> (intro hc; (try simp -implicitDefEqProofs [-loopQ_n, hc, h1', h2, h3, ht', baSize, rdB]))) | (refine condD_intro ?_ ?_ <;> (intro hd; have hc := hd; (try simp at hc) <;> (try simp -implicitDefEqProofs [-loopQ_n, hd, hc, h1', h2, h3, ht', baSize, rdB]))) | (refine guardD_intro ?_ ?_ <;> (intro hd; have hc := hd; (try simp at hc) <;> (try simp -implicitDefEqProofs [-loopQ_n, hd, hc, h1', h2, h3, ht', baSize, rdB]))) | (refine ldD_ep ?_ ?_; (focus kernel_rfl); (try simp -implicitDefEqProofs [-loopQ_n, h1', h2, h3, ht', baSize, rdB])) | (refine callS_mk ?_; (try simp -implicitDefEqProofs [-loopQ_n, h1', h2, h3, ht', baSize, rdB]); (first | refine callS_intro (hasQ_pure s hs2) (.inl rfl) ?_ | refine callS_intro (printable_pure s hs2) (.inl rfl) ?_); (try simp -implicitDefEqProofs [-loopQ_n, h1', h2, h3, ht', baSize, rdB])) | (refine lit_call (a := 1) hR1 rfl hs h0 ?_; (try simp -implicitDefEqProofs [-loopQ_n, h1', h2, h3, ht', baSize, rdB])) | (refine more_call rfl hs2 ?_; (try simp -implicitDefEqProofs [-loopQ_n, h1', h2, h3, ht', baSize, rdB])))))
            rw [hu]; rfl
        · have hu : unqR s = .error 3 := by simp [unqR, h1, h2, h3, unqL, hR, hq]
          have hq2 : q.length ≠ 0 := by simpa using hq
          have hm : s.size - q.length < s.size := by omega
          ((try simp -implicitDefEqProofs [-loopQ_n, h1', h2, h3, hm, rdB]) <;> (repeat' (first | (refine condD_dec ?_ ?_ <;> (intro hc; (try simp -implicitDefEqProofs [-loopQ_n, hc, h1', h2, h3, hm, rdB]))) | (refine guardD_dec ?_ ?_ <;> (intro hc; (try simp -implicitDefEqProofs [-loopQ_n, hc, h1', h2, h3, hm, rdB]))) | (refine condD_intro ?_ ?_ <;> (intro hd; have hc := hd; (try simp at hc) <;> (try simp -implicitDefEqProofs [-loopQ_n, hd, hc, h1', h2, h3, hm, rdB]))) | (refine guardD_intro ?_ ?_ <;> (intro hd; have hc := hd; (try simp at hc) <;> (try simp -implicitDefEqProofs [-loopQ_n, hd, hc, h1', h2, h3, hm, rdB]))) | (refine ldD_ep ?_ ?_; (focus kernel_rfl); (try simp -implicitDefEqProofs [-loopQ_n, h1', h2, h3, hm, rdB])) | (refine callS_mk ?_; (try simp -implicitDefEqProofs [-loopQ_n, h1', h2, h3, hm, rdB]); (first | refine callS_intro (hasQ_pure s hs2) (.inl rfl) ?_ | refine callS_intro (printable_pure s hs2) (.inl rfl) ?_); (try simp -implicitDefEqProofs [-loopQ_n, h1', h2, h3, hm, rdB])) | (refine lit_call (a := 1) hR1 rfl hs h0 ?_; (try simp -implicitDefEqProofs [-loopQ_n, h1', h2, h3, hm, rdB])) | (refine more_call rfl hs2 ?_; (try simp -implicitDefEqProofs [-loopQ_n, h1', h2, h3, hm, rdB])))))
          rw [hu]; rfl
    · have h3 : prS s = false := by simpa using h3
      ((try simp -implicitDefEqProofs [-loopQ_n, h1', h2, h3]) <;> (repeat' (first | (refine condD_dec ?_ ?_ <;> (intro hc; (try simp -implicitDefEqProofs [-loopQ_n, hc, h1', h2, h3]))) | (refine guardD_dec ?_ ?_ <;> (intro hc; (try simp -implicitDefEqProofs [-loopQ_n, hc, h1', h2, h3]))) | (refine condD_intro ?_ ?_ <;> (intro hd; have hc := hd; (try simp at hc) <;> (try simp -implicitDefEqProofs [-loopQ_n, hd, hc, h1', h2, h3]))) | (refine guardD_intro ?_ ?_ <;> (intro hd; have hc := hd; (try simp at hc) <;> (try simp -implicitDefEqProofs [-loopQ_n, hd, hc, h1', h2, h3]))) | (refine ldD_ep ?_ ?_; (focus kernel_rfl); (try simp -implicitDefEqProofs [-loopQ_n, h1', h2, h3])) | (refine callS_mk ?_; (try simp -implicitDefEqProofs [-loopQ_n, h1', h2, h3]); (first | refine callS_intro (hasQ_pure s hs2) (.inl rfl) ?_ | refine callS_intro (printable_pure s hs2) (.inl rfl) ?_); (try simp -implicitDefEqProofs [-loopQ_n, h1', h2, h3])))))
      simp [unqR, h1, h2, h3, exS]
  · ((try simp -implicitDefEqProofs [-loopQ_n, h1', h2]) <;> (repeat' (first | (refine condD_dec ?_ ?_ <;> (intro hc; (try simp -implicitDefEqProofs [-loopQ_n, hc, h1', h2]))) | (refine guardD_dec ?_ ?_ <;> (intro hc; (try simp -implicitDefEqProofs [-loopQ_n, hc, h1', h2]))) | (refine condD_intro ?_ ?_ <;> (intro hd; have hc := hd; (try simp at hc) <;> (try simp -implicitDefEqProofs [-loopQ_n, hd, hc, h1', h2]))) | (refine guardD_intro ?_ ?_ <;> (intro hd; have hc := hd; (try simp at hc) <;> (try simp -implicitDefEqProofs [-loopQ_n, hd, hc, h1', h2]))) | (refine ldD_ep ?_ ?_; (focus kernel_rfl); (try simp -implicitDefEqProofs [-loopQ_n, h1', h2])) | (refine callS_mk ?_; (try simp -implicitDefEqProofs [-loopQ_n, h1', h2]); (first | refine callS_intro (hasQ_pure s hs2) (.inl rfl) ?_ | refine callS_intro (printable_pure s hs2) (.inl rfl) ?_); (try simp -implicitDefEqProofs [-loopQ_n, h1', h2])))))
    simp [unqR, h1, h2, exS]
theorem headQ {s : ByteArray} (h0 : 0 < s.size) : ((bl s).head? = some 34) = ((s.data[0]'h0).toNat = (34 : Int)) := by
  have e1 := bl_drop h0
  simp only [List.drop_zero] at e1
  rw [e1]
  simp [u8_34]
set_option maxHeartbeats 4000000 in
theorem runq_pure (s : ByteArray) (hs : s.size ≤ 100000) : Pure Try.prog 26 [.str s] (exS (unqR s)) := by
  refine pure_of mixed Try.func26 rfl (by kernel_rfl) (of_decide_eq_true rfl) (by kernel_rfl) (vc_run ?_)
  by_cases h1 : 32770 < s.size
  · have h1' : (32770 : Int) < s.size := by omega
    ((try simp -implicitDefEqProofs [-loopQ_n, h1']) <;> (repeat' (first | (refine condD_dec ?_ ?_ <;> (intro hc; (try simp -implicitDefEqProofs [-loopQ_n, hc, h1']))) | (refine guardD_dec ?_ ?_ <;> (intro hc; (try simp -implicitDefEqProofs [-loopQ_n, hc, h1']))) | (refine condD_intro ?_ ?_ <;> (intro hd; have hc := hd; (try simp at hc) <;> (try simp -implicitDefEqProofs [-loopQ_n, hd, hc, h1']))) | (refine guardD_intro ?_ ?_ <;> (intro hd; have hc := hd; (try simp at hc) <;> (try simp -implicitDefEqProofs [-loopQ_n, hd, hc, h1']))) | (refine ldD_ep ?_ ?_; (focus kernel_rfl); (try simp -implicitDefEqProofs [-loopQ_n, h1'])))))
    simp [unqR, h1, exS]
  have h1' : ¬ (32770 : Int) < s.size := by omega
  have hs2 : s.size ≤ 1000000 := by omega
  by_cases h0 : 0 < s.size
  · have hne : s.toList.isEmpty = false := by
      rw [ba_toList, List.isEmpty_eq_false_iff]
      intro e
      have : (bl s).length = 0 := congrArg List.length e
      rw [bl_len] at this; omega
    by_cases h2 : ((s.data[0]'h0).toNat : Int) = 34
    · have h2' : (bl s).head? = some 34 := by rw [headQ h0]; exact h2
      by_cases h3 : prS s = true
      · cases hR : rdL [] (bl s).tail with
        | error e =>
          have e0 : ¬ e = 0 := by rcases rdL_err _ _ _ _ (Nat.le_refl _) hR with h | h <;> omega
          have hr : readR s = .tup [.str ⟨#[]⟩, .int .i64 0, .int .i64 e] := by simp [readR, hR]
          have hu : unqR s = .error e := by simp [unqR, h1, h2', h3, unqL, hR]
          have hP := rread_pure s hs h0
          rw [hr] at hP
          ((try simp -implicitDefEqProofs [-loopQ_n, h1', hne, h0, byte_at h0, h2, h3, e0]) <;> (repeat' (first | (refine condD_dec ?_ ?_ <;> (intro hc; (try simp -implicitDefEqProofs [-loopQ_n, hc, h1', hne, h0, byte_at h0, h2, h3, e0]))) | (refine guardD_dec ?_ ?_ <;> (intro hc; (try simp -implicitDefEqProofs [-loopQ_n, hc, h1', hne, h0, byte_at h0, h2, h3, e0]))) | (refine condD_intro ?_ ?_ <;> (intro hd; have hc := hd; (try simp at hc) <;> (try simp -implicitDefEqProofs [-loopQ_n, hd, hc, h1', hne, h0, byte_at h0, h2, h3, e0]))) | (refine guardD_intro ?_ ?_ <;> (intro hd; have hc := hd; (try simp at hc) <;> (try simp -implicitDefEqProofs [-loopQ_n, hd, hc, h1', hne, h0, byte_at h0, h2, h3, e0]))) | (refine ldD_ep ?_ ?_; (focus kernel_rfl); (try simp -implicitDefEqProofs [-loopQ_n, h1', hne, h0, byte_at h0, h2, h3, e0])) | (refine callS_mk ?_; (try simp -implicitDefEqProofs [-loopQ_n, h1', hne, h0, byte_at h0, h2, h3, e0]); (first | refine callS_intro (rPrintable_pure s hs2) (.inl rfl) ?_ | refine callS_intro (hP) (.inl rfl) ?_); (try simp -implicitDefEqProofs [-loopQ_n, h1', hne, h0, byte_at h0, h2, h3, e0])))))
          rw [hu]; rfl
        | ok p =>
          obtain ⟨t, q⟩ := p
          have hr : readR s = .tup [.str ⟨t.toArray⟩, .int .i64 (s.size - q.length : Nat), .int .i64 0] := by simp [readR, hR]
          have hP := rread_pure s hs h0
          rw [hr] at hP
          obtain ⟨l1, l2, _⟩ := rdL_len _ _ _ _ _ (Nat.le_refl _) hR
          simp at l1 l2
          by_cases hq : q = []
          · subst hq
            by_cases ht : 16384 < t.length
            · have ht' : (16384 : Int) < t.length := by omega
              have hu : unqR s = .error 5 := by simp [unqR, h1, h2', h3, unqL, hR, ht]
              ((try simp -implicitDefEqProofs [-loopQ_n, h1', hne, h0, byte_at h0, h2, h3, ht', baSize]) <;> (repeat' (first | (refine condD_dec ?_ ?_ <;> (intro hc; (try simp -implicitDefEqProofs [-loopQ_n, hc, h1', hne, h0, byte_at h0, h2, h3, ht', baSize]))) | (refine guardD_dec ?_ ?_ <;> (intro hc; (try simp -implicitDefEqProofs [-loopQ_n, hc, h1', hne, h0, byte_at h0, h2, h3, ht', baSize]))) | (refine condD_intro ?_ ?_ <;> (intro hd; have hc := hd; (try simp at hc) <;> (try simp -implicitDefEqProofs [-loopQ_n, hd, hc, h1', hne, h0, byte_at h0, h2, h3, ht', baSize]))) | (refine guardD_intro ?_ ?_ <;> (intro hd; have hc := hd; (try simp at hc) <;> (try simp -implicitDefEqProofs [-loopQ_n, hd, hc, h1', hne, h0, byte_at h0, h2, h3, ht', baSize]))) | (refine ldD_ep ?_ ?_; (focus kernel_rfl); (try simp -implicitDefEqProofs [-loopQ_n, h1', hne, h0, byte_at h0, h2, h3, ht', baSize])) | (refine callS_mk ?_; (try simp -implicitDefEqProofs [-loopQ_n, h1', hne, h0, byte_at h0, h2, h3, ht', baSize]); (first | refine callS_intro (rPrintable_pure s hs2) (.inl rfl) ?_ | refine callS_intro (hP) (.inl rfl) ?_); (try simp -implicitDefEqProofs [-loopQ_n, h1', hne, h0, byte_at h0, h2, h3, ht', baSize])))))
              rw [hu]; rfl
            · have ht' : ¬ (16384 : Int) < t.length := by omega
              have hu : unqR s = .ok t := by simp [unqR, h1, h2', h3, unqL, hR, ht]
              ((try simp -implicitDefEqProofs [-loopQ_n, h1', hne, h0, byte_at h0, h2, h3, ht', baSize]) <;> (repeat' (first | (refine condD_dec ?_ ?_ <;> (intro hc; (try simp -implicitDefEqProofs [-loopQ_n, hc, h1', hne, h0, byte_at h0, h2, h3, ht', baSize]))) | (refine guardD_dec ?_ ?_ <;> (intro hc; (try simp -implicitDefEqProofs [-loopQ_n, hc, h1', hne, h0, byte_at h0, h2, h3, ht', baSize]))) | (refine condD_intro ?_ ?_ <;> (intro hd; have hc := hd; (try simp at hc) <;> (try simp -implicitDefEqProofs [-loopQ_n, hd, hc, h1', hne, h0, byte_at h0, h2, h3, ht', baSize]))) | (refine guardD_intro ?_ ?_ <;> (intro hd; have hc := hd; (try simp at hc) <;> (try simp -implicitDefEqProofs [-loopQ_n, hd, hc, h1', hne, h0, byte_at h0, h2, h3, ht', baSize]))) | (refine ldD_ep ?_ ?_; (focus kernel_rfl); (try simp -implicitDefEqProofs [-loopQ_n, h1', hne, h0, byte_at h0, h2, h3, ht', baSize])) | (refine callS_mk ?_; (try simp -implicitDefEqProofs [-loopQ_n, h1', hne, h0, byte_at h0, h2, h3, ht', baSize]); (first | refine callS_intro (rPrintable_pure s hs2) (.inl rfl) ?_ | refine callS_intro (hP) (.inl rfl) ?_); (try simp -implicitDefEqProofs [-loopQ_n, h1', hne, h0, byte_at h0, h2, h3, ht', baSize])))))
              rw [hu]; rfl
          · have hu : unqR s = .error 3 := by simp [unqR, h1, h2', h3, unqL, hR, hq]
            have hq2 : q.length ≠ 0 := by simpa using hq
            have hm : ¬ ((s.size - q.length : Nat) : Int) = s.size := by omega
            ((try simp -implicitDefEqProofs [-loopQ_n, h1', hne, h0, byte_at h0, h2, h3, hm, baSize]) <;> (repeat' (first | (refine condD_dec ?_ ?_ <;> (intro hc; (try simp -implicitDefEqProofs [-loopQ_n, hc, h1', hne, h0, byte_at h0, h2, h3, hm, baSize]))) | (refine guardD_dec ?_ ?_ <;> (intro hc; (try simp -implicitDefEqProofs [-loopQ_n, hc, h1', hne, h0, byte_at h0, h2, h3, hm, baSize]))) | (refine condD_intro ?_ ?_ <;> (intro hd; have hc := hd; (try simp at hc) <;> (try simp -implicitDefEqProofs [-loopQ_n, hd, hc, h1', hne, h0, byte_at h0, h2, h3, hm, baSize]))) | (refine guardD_intro ?_ ?_ <;> (intro hd; have hc := hd; (try simp at hc) <;> (try simp -implicitDefEqProofs [-loopQ_n, hd, hc, h1', hne, h0, byte_at h0, h2, h3, hm, baSize]))) | (refine ldD_ep ?_ ?_; (focus kernel_rfl); (try simp -implicitDefEqProofs [-loopQ_n, h1', hne, h0, byte_at h0, h2, h3, hm, baSize])) | (refine callS_mk ?_; (try simp -implicitDefEqProofs [-loopQ_n, h1', hne, h0, byte_at h0, h2, h3, hm, baSize]); (first | refine callS_intro (rPrintable_pure s hs2) (.inl rfl) ?_ | refine callS_intro (hP) (.inl rfl) ?_); (try simp -implicitDefEqProofs [-loopQ_n, h1', hne, h0, byte_at h0, h2, h3, hm, baSize])))))
            rw [hu]; rfl
      · have h3 : prS s = false := by simpa using h3
        ((try simp -implicitDefEqProofs [-loopQ_n, h1', hne, h0, byte_at h0, h2, h3]) <;> (repeat' (first | (refine condD_dec ?_ ?_ <;> (intro hc; (try simp -implicitDefEqProofs [-loopQ_n, hc, h1', hne, h0, byte_at h0, h2, h3]))) | (refine guardD_dec ?_ ?_ <;> (intro hc; (try simp -implicitDefEqProofs [-loopQ_n, hc, h1', hne, h0, byte_at h0, h2, h3]))) | (refine condD_intro ?_ ?_ <;> (intro hd; have hc := hd; (try simp at hc) <;> (try simp -implicitDefEqProofs [-loopQ_n, hd, hc, h1', hne, h0, byte_at h0, h2, h3]))) | (refine guardD_intro ?_ ?_ <;> (intro hd; have hc := hd; (try simp at hc) <;> (try simp -implicitDefEqProofs [-loopQ_n, hd, hc, h1', hne, h0, byte_at h0, h2, h3]))) | (refine ldD_ep ?_ ?_; (focus kernel_rfl); (try simp -implicitDefEqProofs [-loopQ_n, h1', hne, h0, byte_at h0, h2, h3])) | (refine callS_mk ?_; (try simp -implicitDefEqProofs [-loopQ_n, h1', hne, h0, byte_at h0, h2, h3]); (first | refine callS_intro (rPrintable_pure s hs2) (.inl rfl) ?_); (try simp -implicitDefEqProofs [-loopQ_n, h1', hne, h0, byte_at h0, h2, h3])))))
        simp [unqR, h1, h3, exS]
    · have h2' : ¬ (bl s).head? = some 34 := by rw [headQ h0]; exact h2
      ((try simp -implicitDefEqProofs [-loopQ_n, h1', hne, h0, byte_at h0, h2]) <;> (repeat' (first | (refine condD_dec ?_ ?_ <;> (intro hc; (try simp -implicitDefEqProofs [-loopQ_n, hc, h1', hne, h0, byte_at h0, h2]))) | (refine guardD_dec ?_ ?_ <;> (intro hc; (try simp -implicitDefEqProofs [-loopQ_n, hc, h1', hne, h0, byte_at h0, h2]))) | (refine condD_intro ?_ ?_ <;> (intro hd; have hc := hd; (try simp at hc) <;> (try simp -implicitDefEqProofs [-loopQ_n, hd, hc, h1', hne, h0, byte_at h0, h2]))) | (refine guardD_intro ?_ ?_ <;> (intro hd; have hc := hd; (try simp at hc) <;> (try simp -implicitDefEqProofs [-loopQ_n, hd, hc, h1', hne, h0, byte_at h0, h2]))) | (refine ldD_ep ?_ ?_; (focus kernel_rfl); (try simp -implicitDefEqProofs [-loopQ_n, h1', hne, h0, byte_at h0, h2])))))
      simp [unqR, h1, h2', exS]
  · have he : bl s = [] := List.eq_nil_of_length_eq_zero (by rw [bl_len]; omega)
    have hne : s.toList.isEmpty = true := by rw [ba_toList]; simp [he]
    ((try simp -implicitDefEqProofs [-loopQ_n, h1', hne]) <;> (repeat' (first | (refine condD_dec ?_ ?_ <;> (intro hc; (try simp -implicitDefEqProofs [-loopQ_n, hc, h1', hne]))) | (refine guardD_dec ?_ ?_ <;> (intro hc; (try simp -implicitDefEqProofs [-loopQ_n, hc, h1', hne]))) | (refine condD_intro ?_ ?_ <;> (intro hd; have hc := hd; (try simp at hc) <;> (try simp -implicitDefEqProofs [-loopQ_n, hd, hc, h1', hne]))) | (refine guardD_intro ?_ ?_ <;> (intro hd; have hc := hd; (try simp at hc) <;> (try simp -implicitDefEqProofs [-loopQ_n, hd, hc, h1', hne]))) | (refine ldD_ep ?_ ?_; (focus kernel_rfl); (try simp -implicitDefEqProofs [-loopQ_n, h1', hne])))))
    simp [unqR, h1, he, exS]
/-- The literal of a text, or an error. -/
def quoR (s : ByteArray) : Except Int (List UInt8) := if 16384 < s.size then .error 5 else if prS s = true then .ok (litL (bl s)) else .error 3
theorem quo_pure (s : ByteArray) (hs : s.size ≤ 100000) : Pure Try.prog 23 [.str s] (exS (quoR s)) := by
  refine pure_of mixed Try.func23 rfl (by kernel_rfl) (of_decide_eq_true rfl) (by kernel_rfl) (vc_run ?_)
  have hs2 : s.size ≤ 1000000 := by omega
  by_cases h1 : 16384 < s.size
  · have h1' : (16384 : Int) < s.size := by omega
    ((try simp -implicitDefEqProofs [-loopQ_n, h1']) <;> (repeat' (first | (refine condD_dec ?_ ?_ <;> (intro hc; (try simp -implicitDefEqProofs [-loopQ_n, hc, h1']))) | (refine guardD_dec ?_ ?_ <;> (intro hc; (try simp -implicitDefEqProofs [-loopQ_n, hc, h1']))) | (refine condD_intro ?_ ?_ <;> (intro hd; have hc := hd; (try simp at hc) <;> (try simp -implicitDefEqProofs [-loopQ_n, hd, hc, h1']))) | (refine guardD_intro ?_ ?_ <;> (intro hd; have hc := hd; (try simp at hc) <;> (try simp -implicitDefEqProofs [-loopQ_n, hd, hc, h1']))) | (refine ldD_ep ?_ ?_; (focus kernel_rfl); (try simp -implicitDefEqProofs [-loopQ_n, h1'])))))
    simp [quoR, h1, exS]
  have h1' : ¬ (16384 : Int) < s.size := by omega
  by_cases h3 : prS s = true
  · ((try simp -implicitDefEqProofs [-loopQ_n, h1', h3]) <;> (repeat' (first | (refine condD_dec ?_ ?_ <;> (intro hc; (try simp -implicitDefEqProofs [-loopQ_n, hc, h1', h3]))) | (refine guardD_dec ?_ ?_ <;> (intro hc; (try simp -implicitDefEqProofs [-loopQ_n, hc, h1', h3]))) | (refine condD_intro ?_ ?_ <;> (intro hd; have hc := hd; (try simp at hc) <;> (try simp -implicitDefEqProofs [-loopQ_n, hd, hc, h1', h3]))) | (refine guardD_intro ?_ ?_ <;> (intro hd; have hc := hd; (try simp at hc) <;> (try simp -implicitDefEqProofs [-loopQ_n, hd, hc, h1', h3]))) | (refine ldD_ep ?_ ?_; (focus kernel_rfl); (try simp -implicitDefEqProofs [-loopQ_n, h1', h3])) | (refine callS_mk ?_; (try simp -implicitDefEqProofs [-loopQ_n, h1', h3]); (first | refine callS_intro (printable_pure s hs2) (.inl rfl) ?_ | refine callS_intro (literal_pure s hs) (.inl rfl) ?_); (try simp -implicitDefEqProofs [-loopQ_n, h1', h3])))))
    simp [quoR, h1, h3, exS, litS]
  · have h3 : prS s = false := by simpa using h3
    ((try simp -implicitDefEqProofs [-loopQ_n, h1', h3]) <;> (repeat' (first | (refine condD_dec ?_ ?_ <;> (intro hc; (try simp -implicitDefEqProofs [-loopQ_n, hc, h1', h3]))) | (refine guardD_dec ?_ ?_ <;> (intro hc; (try simp -implicitDefEqProofs [-loopQ_n, hc, h1', h3]))) | (refine condD_intro ?_ ?_ <;> (intro hd; have hc := hd; (try simp at hc) <;> (try simp -implicitDefEqProofs [-loopQ_n, hd, hc, h1', h3]))) | (refine guardD_intro ?_ ?_ <;> (intro hd; have hc := hd; (try simp at hc) <;> (try simp -implicitDefEqProofs [-loopQ_n, hd, hc, h1', h3]))) | (refine ldD_ep ?_ ?_; (focus kernel_rfl); (try simp -implicitDefEqProofs [-loopQ_n, h1', h3])) | (refine callS_mk ?_; (try simp -implicitDefEqProofs [-loopQ_n, h1', h3]); (first | refine callS_intro (printable_pure s hs2) (.inl rfl) ?_ | refine callS_intro (literal_pure s hs) (.inl rfl) ?_); (try simp -implicitDefEqProofs [-loopQ_n, h1', h3])))))
    simp [quoR, h1, h3, exS]
theorem rquo_pure (s : ByteArray) (hs : s.size ≤ 100000) : Pure Try.prog 25 [.str s] (exS (quoR s)) := by
  refine pure_of mixed Try.func25 rfl (by kernel_rfl) (of_decide_eq_true rfl) (by kernel_rfl) (vc_run ?_)
  have hs2 : s.size ≤ 1000000 := by omega
  by_cases h1 : 16384 < s.size
  · have h1' : (16384 : Int) < s.size := by omega
    ((try simp -implicitDefEqProofs [-loopQ_n, h1']) <;> (repeat' (first | (refine condD_dec ?_ ?_ <;> (intro hc; (try simp -implicitDefEqProofs [-loopQ_n, hc, h1']))) | (refine guardD_dec ?_ ?_ <;> (intro hc; (try simp -implicitDefEqProofs [-loopQ_n, hc, h1']))) | (refine condD_intro ?_ ?_ <;> (intro hd; have hc := hd; (try simp at hc) <;> (try simp -implicitDefEqProofs [-loopQ_n, hd, hc, h1']))) | (refine guardD_intro ?_ ?_ <;> (intro hd; have hc := hd; (try simp at hc) <;> (try simp -implicitDefEqProofs [-loopQ_n, hd, hc, h1']))) | (refine ldD_ep ?_ ?_; (focus kernel_rfl); (try simp -implicitDefEqProofs [-loopQ_n, h1'])))))
    simp [quoR, h1, exS]
  have h1' : ¬ (16384 : Int) < s.size := by omega
  by_cases h3 : prS s = true
  · ((try simp -implicitDefEqProofs [-loopQ_n, h1', h3]) <;> (repeat' (first | (refine condD_dec ?_ ?_ <;> (intro hc; (try simp -implicitDefEqProofs [-loopQ_n, hc, h1', h3]))) | (refine guardD_dec ?_ ?_ <;> (intro hc; (try simp -implicitDefEqProofs [-loopQ_n, hc, h1', h3]))) | (refine condD_intro ?_ ?_ <;> (intro hd; have hc := hd; (try simp at hc) <;> (try simp -implicitDefEqProofs [-loopQ_n, hd, hc, h1', h3]))) | (refine guardD_intro ?_ ?_ <;> (intro hd; have hc := hd; (try simp at hc) <;> (try simp -implicitDefEqProofs [-loopQ_n, hd, hc, h1', h3]))) | (refine ldD_ep ?_ ?_; (focus kernel_rfl); (try simp -implicitDefEqProofs [-loopQ_n, h1', h3])) | (refine callS_mk ?_; (try simp -implicitDefEqProofs [-loopQ_n, h1', h3]); (first | refine callS_intro (rPrintable_pure s hs2) (.inl rfl) ?_ | refine callS_intro (rliteral_pure s hs) (.inl rfl) ?_); (try simp -implicitDefEqProofs [-loopQ_n, h1', h3])))))
    simp [quoR, h1, h3, exS, litS]
  · have h3 : prS s = false := by simpa using h3
    ((try simp -implicitDefEqProofs [-loopQ_n, h1', h3]) <;> (repeat' (first | (refine condD_dec ?_ ?_ <;> (intro hc; (try simp -implicitDefEqProofs [-loopQ_n, hc, h1', h3]))) | (refine guardD_dec ?_ ?_ <;> (intro hc; (try simp -implicitDefEqProofs [-loopQ_n, hc, h1', h3]))) | (refine condD_intro ?_ ?_ <;> (intro hd; have hc := hd; (try simp at hc) <;> (try simp -implicitDefEqProofs [-loopQ_n, hd, hc, h1', h3]))) | (refine guardD_intro ?_ ?_ <;> (intro hd; have hc := hd; (try simp at hc) <;> (try simp -implicitDefEqProofs [-loopQ_n, hd, hc, h1', h3]))) | (refine ldD_ep ?_ ?_; (focus kernel_rfl); (try simp -implicitDefEqProofs [-loopQ_n, h1', h3])) | (refine callS_mk ?_; (try simp -implicitDefEqProofs [-loopQ_n, h1', h3]); (first | refine callS_intro (rPrintable_pure s hs2) (.inl rfl) ?_ | refine callS_intro (rliteral_pure s hs) (.inl rfl) ?_); (try simp -implicitDefEqProofs [-loopQ_n, h1', h3])))))
    simp [quoR, h1, h3, exS]
end Go.Proofs.Ytlcblpofikijmaa
