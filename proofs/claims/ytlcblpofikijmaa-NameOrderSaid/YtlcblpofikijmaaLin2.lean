/- Reading literals: the program's reader and the reference's read. -/
import Derived.Test.YtlcblpofikijmaaLin1
namespace Go.Proofs.Ytlcblpofikijmaa
set_option linter.unusedSimpArgs false
set_option linter.unusedVariables false
set_option linter.unnecessarySimpa false
set_option linter.unusedSectionVars false
open Go.RowKit
variable [Glob]
set_option maxRecDepth 100000
abbrev rdT : TypeId := 48
def rdB (s : ByteArray) (a : Nat) : Blk := .box rdT [.str s, .int .i64 a]
theorem more_G (s : ByteArray) (a : Nat) (hs : s.size ≤ 1000000) : CallG Try.prog 36 [.op 0 0] [rdB s a] fun r H => r = .bool (decide (a < s.size)) ∧ H = [rdB s a] := by
  refine inl_G mixed Try.func36 rfl (by kernel_rfl) (of_decide_eq_true rfl) (by kernel_rfl) (vc_run ?_)
  ((try simp -implicitDefEqProofs [-loopQ_n, rdB]) <;> (repeat' (first | (refine condD_dec ?_ ?_ <;> (intro hc; (try simp -implicitDefEqProofs [-loopQ_n, hc, rdB]))) | (refine guardD_dec ?_ ?_ <;> (intro hc; (try simp -implicitDefEqProofs [-loopQ_n, hc, rdB]))) | (refine condD_intro ?_ ?_ <;> (intro hd; have hc := hd; (try simp at hc) <;> (try simp -implicitDefEqProofs [-loopQ_n, hd, hc, rdB]))) | (refine guardD_intro ?_ ?_ <;> (intro hd; have hc := hd; (try simp at hc) <;> (try simp -implicitDefEqProofs [-loopQ_n, hd, hc, rdB]))) | (refine ldD_ep ?_ ?_; (focus kernel_rfl); (try simp -implicitDefEqProofs [-loopQ_n, rdB])))))
  exact endG_r _ rfl ⟨by simp, rfl⟩
theorem next_G (s : ByteArray) (a : Nat) (ha : a < s.size) (hs : s.size ≤ 1000000) : CallG Try.prog 38 [.op 0 0] [rdB s a] fun r H => r = .int .u8 (s.data[a]'ha).toNat ∧ H = [rdB s (a + 1)] := by
  refine inl_G mixed Try.func38 rfl (by kernel_rfl) (of_decide_eq_true rfl) (by kernel_rfl) (vc_run ?_)
  have w1 := w_suc ha (by omega)
  have w2 : wrapI .i64 (((a + 1 : Nat) : Int) - 1) = (a : Int) := by rw [wrap_in (by omega) (by omega)]; omega
  have w3 : wrapI .i64 ((a : Int) + 1 - 1) = (a : Int) := by rw [wrap_in (by omega) (by omega)]; omega
  have w4 : wrapI .i64 (a : Int) = (a : Int) := wrap_in (by omega) (by omega)
  ((try simp -implicitDefEqProofs [-loopQ_n, rdB, w1, w2, w3, w4, byte_at ha]) <;> (repeat' (first | (refine condD_dec ?_ ?_ <;> (intro hc; (try simp -implicitDefEqProofs [-loopQ_n, hc, rdB, w1, w2, w3, w4, byte_at ha]))) | (refine guardD_dec ?_ ?_ <;> (intro hc; (try simp -implicitDefEqProofs [-loopQ_n, hc, rdB, w1, w2, w3, w4, byte_at ha]))) | (refine condD_intro ?_ ?_ <;> (intro hd; have hc := hd; (try simp at hc) <;> (try simp -implicitDefEqProofs [-loopQ_n, hd, hc, rdB, w1, w2, w3, w4, byte_at ha]))) | (refine guardD_intro ?_ ?_ <;> (intro hd; have hc := hd; (try simp at hc) <;> (try simp -implicitDefEqProofs [-loopQ_n, hd, hc, rdB, w1, w2, w3, w4, byte_at ha]))) | (refine ldD_ep ?_ ?_; (focus kernel_rfl); (try simp -implicitDefEqProofs [-loopQ_n, rdB, w1, w2, w3, w4, byte_at ha])))))
  exact endG_r _ rfl ⟨by simp, rfl⟩
section
variable {L : Nat} {k : List Item} {st : St} {Q : Ex → St → Prop} {dst : Option Nat} {all rest : List Oper}
theorem rdB_mB {ρ : Nat → Nat} {s : ByteArray} {a : Nat} : mB ρ (rdB s a) = rdB s a := by simp [rdB, mB, mL, mA]
theorem more_call {s : ByteArray} {a id : Nat} (hb : st.H[id]? = some (rdB s a)) (hs : s.size ≤ 1000000) (h3 : run Try.prog L (.ops false all rest :: k) ⟨tputD st.T dst (.bool (decide (a < s.size))), st.H⟩ Q) : callD Try.prog L (.fn 36 []) [.op id 0] dst false all rest k st Q :=
  callG_intro (foot1 (more_G s a hs) id hb (fun _ => rdB_mB) (fun ρ h => by simp [mL, mA, h]) fun r H' ⟨h1, h2⟩ => ⟨_, h2, fun _ => rdB_mB, fun _ => by rw [h1]; rfl, by rw [h1, set_self hb]; exact h3⟩)
theorem next_call {s : ByteArray} {a id : Nat} (hb : st.H[id]? = some (rdB s a)) (ha : a < s.size) (hs : s.size ≤ 1000000) (h3 : run Try.prog L (.ops false all rest :: k) ⟨tputD st.T dst (.int .u8 (s.data[a]'ha).toNat), st.H.set id (rdB s (a + 1))⟩ Q) : callD Try.prog L (.fn 38 []) [.op id 0] dst false all rest k st Q :=
  callG_intro (foot1 (next_G s a ha hs) id hb (fun _ => rdB_mB) (fun ρ h => by simp [mL, mA, h]) fun r H' ⟨h1, h2⟩ => ⟨_, h2, fun _ => rdB_mB, fun _ => by rw [h1]; rfl, by rw [h1]; exact h3⟩)
end
/-- The rest of a literal: its text and what comes behind it, or an error. -/
def rdL : List UInt8 → List UInt8 → Except Int (List UInt8 × List UInt8)
  | _, [] => .error 4
  | acc, c :: r => if c = 34 then .ok (acc, r) else if c = 92 then (match r with | [] => .error 4 | d :: q => if d = 34 ∨ d = 92 then rdL (acc ++ [d]) q else .error 3) else rdL (acc ++ [c]) r
theorem rdL_cons (acc : List UInt8) (c : UInt8) (r : List UInt8) : rdL acc (c :: r) = if c = 34 then .ok (acc, r) else if c = 92 then (match r with | [] => .error 4 | d :: q => if d = 34 ∨ d = 92 then rdL (acc ++ [d]) q else .error 3) else rdL (acc ++ [c]) r := by cases r <;> rfl
theorem rdL_nil (acc : List UInt8) : rdL acc [] = .error 4 := rfl
theorem rdL_len : ∀ (n : Nat) (l acc t q : List UInt8), l.length ≤ n → rdL acc l = .ok (t, q) → q.length < l.length ∧ t.length ≤ acc.length + l.length ∧ q = l.drop (l.length - q.length) := by
  intro n
  induction n with
  | zero => intro l acc t q hl h; cases l with
    | nil => simp [rdL] at h
    | cons c r => simp at hl
  | succ n ih =>
    intro l acc t q hl h
    cases l with
    | nil => simp [rdL] at h
    | cons c r =>
      rw [rdL_cons] at h
      split at h
      · simp at h; obtain ⟨rfl, rfl⟩ := h; simp
      · split at h
        · cases r with
          | nil => simp at h
          | cons d r =>
            simp only at h
            split at h
            · obtain ⟨h1, h2, h3⟩ := ih r _ t q (by simp at hl; omega) h
              refine ⟨by simp; omega, by simp at h2 ⊢; omega, ?_⟩
              rw [show (c :: d :: r).length - q.length = (r.length - q.length) + 2 by simp; omega]
              simpa using h3
            · simp at h
        · obtain ⟨h1, h2, h3⟩ := ih r _ t q (by simp at hl; omega) h
          refine ⟨by simp; omega, by simp at h2 ⊢; omega, ?_⟩
          rw [show (c :: r).length - q.length = (r.length - q.length) + 1 by simp; omega]
          simpa using h3
theorem u8_eq {c : UInt8} {n : Nat} (hn : n < 256) : ((c.toNat : Int) = n) = (c = UInt8.ofNat n) := propext ⟨fun h => UInt8.toNat_inj.1 (by simp; omega), fun h => by subst h; simp; omega⟩
theorem u8_34 {c : UInt8} : ((c.toNat : Int) = 34) = (c = 34) := u8_eq (n := 34) (by omega)
theorem u8_92 {c : UInt8} : ((c.toNat : Int) = 92) = (c = 92) := u8_eq (n := 92) (by omega)
theorem u8_32 {c : UInt8} : ((c.toNat : Int) = 32) = (c = 32) := u8_eq (n := 32) (by omega)
def rlSt (s : ByteArray) (x : Nat × List UInt8) : St := ⟨[(0, .op 0 0), (4, .op 1 0)], if x.2 = [] then [rdB s x.1, .box bT [.nilp, .nils]] else [rdB s x.1, .box bT [.op 1 0, .os 2 x.2.length], .row 5 false (bR x.2)]⟩
def rlK (s : ByteArray) (R : Except Int (List UInt8 × List UInt8)) (r : AV) (H : List Blk) : Prop :=
  match R with
  | .ok (t, q) => r = .tup [.str ⟨t.toArray⟩, .int .i64 0] ∧ H = [rdB s (s.size - q.length)]
  | .error e => r = .tup [.str ByteArray.empty, .int .i64 e] ∧ ∃ a : Nat, H = [rdB s a]
theorem endG_w {P : Program} {L : Nat} {fn : Func} {K : AV → List Blk → Prop} {s : St} (x : AV) (m : Nat) (H' : List Blk) (h1 : resA P fn s = some x) (hm : m = min s.H.length H'.length) (hL : min L s.H.length ≤ m) (hn : 0 = H'.length - m) (hx : refs m x = true) (hH : cvH m 0 s.H H') (h2 : K x H') : endG P L fn K .ret s := ⟨x, x, H', h1, weak_ofL m 0 hm hL hn ⟨.inr (.inl ⟨rfl, hx⟩), trivial⟩ hH, h2⟩
set_option maxHeartbeats 8000000 in
theorem rlit_G (s : ByteArray) (a : Nat) (hs : s.size ≤ 100000) (ha : a ≤ s.size) : CallG Try.prog 37 [.op 0 0] [rdB s a] (rlK s (rdL [] ((bl s).drop a))) := by
  refine inl_G mixed Try.func37 rfl (by kernel_rfl) (of_decide_eq_true rfl) (by kernel_rfl) (vc_run ?_)
  ((try simp -implicitDefEqProofs [-loopQ_n]) <;> (repeat' (first | (refine condD_dec ?_ ?_ <;> (intro hc; (try simp -implicitDefEqProofs [-loopQ_n, hc]))) | (refine guardD_dec ?_ ?_ <;> (intro hc; (try simp -implicitDefEqProofs [-loopQ_n, hc]))) | (refine condD_intro ?_ ?_ <;> (intro hd; have hc := hd; (try simp at hc) <;> (try simp -implicitDefEqProofs [-loopQ_n, hd, hc]))) | (refine guardD_intro ?_ ?_ <;> (intro hd; have hc := hd; (try simp at hc) <;> (try simp -implicitDefEqProofs [-loopQ_n, hd, hc]))) | (refine ldD_ep ?_ ?_; (focus kernel_rfl); (try simp -implicitDefEqProofs [-loopQ_n])))))
  refine loop_intro (σ := Nat × List UInt8) (rlSt s) (fun x => x.1 ≤ s.size ∧ x.2.length ≤ x.1 ∧ rdL x.2 ((bl s).drop x.1) = rdL [] ((bl s).drop a)) (fun x => s.size - x.1) (a, []) ⟨ha, by simp, rfl⟩ ?_ ?_
  · refine weak_ofL 2 0 rfl (by simp) rfl ?_ ?_ <;> simp [rlSt, rdB]
  rintro ⟨i, acc⟩ ⟨hi, hl, hR⟩
  simp only at hi hl hR
  have hs1 : s.size ≤ 1000000 := by omega
  have hl1 : acc.length < 1073741824 := by omega
  by_cases h : i < s.size
  · rw [bl_drop h] at hR
    by_cases c34 : (s.data[i].toNat : Int) = 34
    · have c34' : s.data[i] = 34 := by simpa only [u8_34] using c34
      rw [c34', rdL_cons, if_pos rfl] at hR
      have hlen : s.size - ((bl s).drop (i + 1)).length = i + 1 := by simp; omega
      by_cases hacc : acc = []
      · subst hacc
        ((try simp -implicitDefEqProofs [-loopQ_n, rlSt, h, c34]) <;> (repeat' (first | (refine condD_dec ?_ ?_ <;> (intro hc; (try simp -implicitDefEqProofs [-loopQ_n, hc, rlSt, h, c34]))) | (refine guardD_dec ?_ ?_ <;> (intro hc; (try simp -implicitDefEqProofs [-loopQ_n, hc, rlSt, h, c34]))) | (refine condD_intro ?_ ?_ <;> (intro hd; have hc := hd; (try simp at hc) <;> (try simp -implicitDefEqProofs [-loopQ_n, hd, hc, rlSt, h, c34]))) | (refine guardD_intro ?_ ?_ <;> (intro hd; have hc := hd; (try simp at hc) <;> (try simp -implicitDefEqProofs [-loopQ_n, hd, hc, rlSt, h, c34]))) | (refine ldD_ep ?_ ?_; (focus kernel_rfl); (try simp -implicitDefEqProofs [-loopQ_n, rlSt, h, c34])) | (refine more_call (a := i) rfl hs1 ?_; (try simp -implicitDefEqProofs [-loopQ_n, rlSt, h, c34])) | (refine next_call rfl h hs1 ?_; (try simp -implicitDefEqProofs [-loopQ_n, rlSt, h, c34])) | (refine str_call0 rfl ?_; (try simp -implicitDefEqProofs [-loopQ_n, rlSt, h, c34])))))
        exact endG_w _ 1 [rdB s (i + 1)] rfl rfl (by simp) rfl rfl (by simp [rdB]) (by rw [← hR]; exact ⟨rfl, by rw [hlen]⟩)
      · ((try simp -implicitDefEqProofs [-loopQ_n, rlSt, hacc, h, c34]) <;> (repeat' (first | (refine condD_dec ?_ ?_ <;> (intro hc; (try simp -implicitDefEqProofs [-loopQ_n, hc, rlSt, hacc, h, c34]))) | (refine guardD_dec ?_ ?_ <;> (intro hc; (try simp -implicitDefEqProofs [-loopQ_n, hc, rlSt, hacc, h, c34]))) | (refine condD_intro ?_ ?_ <;> (intro hd; have hc := hd; (try simp at hc) <;> (try simp -implicitDefEqProofs [-loopQ_n, hd, hc, rlSt, hacc, h, c34]))) | (refine guardD_intro ?_ ?_ <;> (intro hd; have hc := hd; (try simp at hc) <;> (try simp -implicitDefEqProofs [-loopQ_n, hd, hc, rlSt, hacc, h, c34]))) | (refine ldD_ep ?_ ?_; (focus kernel_rfl); (try simp -implicitDefEqProofs [-loopQ_n, rlSt, hacc, h, c34])) | (refine more_call (a := i) rfl hs1 ?_; (try simp -implicitDefEqProofs [-loopQ_n, rlSt, hacc, h, c34])) | (refine next_call rfl h hs1 ?_; (try simp -implicitDefEqProofs [-loopQ_n, rlSt, hacc, h, c34])) | (refine str_call (j := 2) rfl rfl rfl hacc ?_; (try simp -implicitDefEqProofs [-loopQ_n, rlSt, hacc, h, c34])))))
        exact endG_w _ 1 [rdB s (i + 1)] rfl rfl (by simp) rfl rfl (by simp [rdB]) (by rw [← hR]; exact ⟨rfl, by rw [hlen]⟩)
    have n34 : ¬ s.data[i] = 34 := by simpa only [u8_34] using c34
    by_cases c92 : (s.data[i].toNat : Int) = 92
    · have c92' : s.data[i] = 92 := by simpa only [u8_92] using c92
      by_cases h2 : i + 1 < s.size
      · rw [bl_drop h2] at hR
        rw [rdL_cons, if_neg n34, if_pos c92'] at hR
        by_cases d34 : (s.data[i + 1].toNat : Int) = 34
        · have d34' : s.data[i + 1] = 34 := by simpa only [u8_34] using d34
          simp only [d34', true_or, if_true] at hR
          by_cases hacc : acc = []
          · subst hacc
            ((try simp -implicitDefEqProofs [-loopQ_n, rlSt, h, h2, c34, c92, d34]) <;> (repeat' (first | (refine condD_dec ?_ ?_ <;> (intro hc; (try simp -implicitDefEqProofs [-loopQ_n, hc, rlSt, h, h2, c34, c92, d34]))) | (refine guardD_dec ?_ ?_ <;> (intro hc; (try simp -implicitDefEqProofs [-loopQ_n, hc, rlSt, h, h2, c34, c92, d34]))) | (refine condD_intro ?_ ?_ <;> (intro hd; have hc := hd; (try simp at hc) <;> (try simp -implicitDefEqProofs [-loopQ_n, hd, hc, rlSt, h, h2, c34, c92, d34]))) | (refine guardD_intro ?_ ?_ <;> (intro hd; have hc := hd; (try simp at hc) <;> (try simp -implicitDefEqProofs [-loopQ_n, hd, hc, rlSt, h, h2, c34, c92, d34]))) | (refine ldD_ep ?_ ?_; (focus kernel_rfl); (try simp -implicitDefEqProofs [-loopQ_n, rlSt, h, h2, c34, c92, d34])) | (refine more_call (a := i) rfl hs1 ?_; (try simp -implicitDefEqProofs [-loopQ_n, rlSt, h, h2, c34, c92, d34])) | (refine more_call (a := i + 1) rfl hs1 ?_; (try simp -implicitDefEqProofs [-loopQ_n, rlSt, h, h2, c34, c92, d34])) | (refine next_call rfl h hs1 ?_; (try simp -implicitDefEqProofs [-loopQ_n, rlSt, h, h2, c34, c92, d34])) | (refine next_call rfl h2 hs1 ?_; (try simp -implicitDefEqProofs [-loopQ_n, rlSt, h, h2, c34, c92, d34])) | (refine wb_call0 (c := 34) rfl rfl ?_; (try simp -implicitDefEqProofs [-loopQ_n, rlSt, h, h2, c34, c92, d34])))))
            refine loop_next (i + 1 + 1, [34]) ⟨by simp only; omega, by simp, hR⟩ (by simp only; omega) (weak_ofL 3 0 (by simp [rlSt]) (by simp [rlSt]) (by simp [rlSt]) ?_ ?_) <;> simp [rlSt, rdB, bR_refs]
          · ((try simp -implicitDefEqProofs [-loopQ_n, rlSt, hacc, h, h2, c34, c92, d34]) <;> (repeat' (first | (refine condD_dec ?_ ?_ <;> (intro hc; (try simp -implicitDefEqProofs [-loopQ_n, hc, rlSt, hacc, h, h2, c34, c92, d34]))) | (refine guardD_dec ?_ ?_ <;> (intro hc; (try simp -implicitDefEqProofs [-loopQ_n, hc, rlSt, hacc, h, h2, c34, c92, d34]))) | (refine condD_intro ?_ ?_ <;> (intro hd; have hc := hd; (try simp at hc) <;> (try simp -implicitDefEqProofs [-loopQ_n, hd, hc, rlSt, hacc, h, h2, c34, c92, d34]))) | (refine guardD_intro ?_ ?_ <;> (intro hd; have hc := hd; (try simp at hc) <;> (try simp -implicitDefEqProofs [-loopQ_n, hd, hc, rlSt, hacc, h, h2, c34, c92, d34]))) | (refine ldD_ep ?_ ?_; (focus kernel_rfl); (try simp -implicitDefEqProofs [-loopQ_n, rlSt, hacc, h, h2, c34, c92, d34])) | (refine more_call (a := i) rfl hs1 ?_; (try simp -implicitDefEqProofs [-loopQ_n, rlSt, hacc, h, h2, c34, c92, d34])) | (refine more_call (a := i + 1) rfl hs1 ?_; (try simp -implicitDefEqProofs [-loopQ_n, rlSt, hacc, h, h2, c34, c92, d34])) | (refine next_call rfl h hs1 ?_; (try simp -implicitDefEqProofs [-loopQ_n, rlSt, hacc, h, h2, c34, c92, d34])) | (refine next_call rfl h2 hs1 ?_; (try simp -implicitDefEqProofs [-loopQ_n, rlSt, hacc, h, h2, c34, c92, d34])) | (refine wb_call (c := 34) rfl rfl rfl rfl hl1 ?_; (try simp -implicitDefEqProofs [-loopQ_n, rlSt, hacc, h, h2, c34, c92, d34])))))
            refine loop_next (i + 1 + 1, acc ++ [34]) ⟨by simp only; omega, by simp; omega, hR⟩ (by simp only; omega) (weak_ofL 3 0 (by simp [rlSt]) (by simp [rlSt]) (by simp [rlSt]) ?_ ?_) <;> simp [rlSt, rdB, bR_refs]
        by_cases d92 : (s.data[i + 1].toNat : Int) = 92
        · have d92' : s.data[i + 1] = 92 := by simpa only [u8_92] using d92
          simp only [d92', or_true, if_true] at hR
          by_cases hacc : acc = []
          · subst hacc
            ((try simp -implicitDefEqProofs [-loopQ_n, rlSt, h, h2, c34, c92, d34, d92]) <;> (repeat' (first | (refine condD_dec ?_ ?_ <;> (intro hc; (try simp -implicitDefEqProofs [-loopQ_n, hc, rlSt, h, h2, c34, c92, d34, d92]))) | (refine guardD_dec ?_ ?_ <;> (intro hc; (try simp -implicitDefEqProofs [-loopQ_n, hc, rlSt, h, h2, c34, c92, d34, d92]))) | (refine condD_intro ?_ ?_ <;> (intro hd; have hc := hd; (try simp at hc) <;> (try simp -implicitDefEqProofs [-loopQ_n, hd, hc, rlSt, h, h2, c34, c92, d34, d92]))) | (refine guardD_intro ?_ ?_ <;> (intro hd; have hc := hd; (try simp at hc) <;> (try simp -implicitDefEqProofs [-loopQ_n, hd, hc, rlSt, h, h2, c34, c92, d34, d92]))) | (refine ldD_ep ?_ ?_; (focus kernel_rfl); (try simp -implicitDefEqProofs [-loopQ_n, rlSt, h, h2, c34, c92, d34, d92])) | (refine more_call (a := i) rfl hs1 ?_; (try simp -implicitDefEqProofs [-loopQ_n, rlSt, h, h2, c34, c92, d34, d92])) | (refine more_call (a := i + 1) rfl hs1 ?_; (try simp -implicitDefEqProofs [-loopQ_n, rlSt, h, h2, c34, c92, d34, d92])) | (refine next_call rfl h hs1 ?_; (try simp -implicitDefEqProofs [-loopQ_n, rlSt, h, h2, c34, c92, d34, d92])) | (refine next_call rfl h2 hs1 ?_; (try simp -implicitDefEqProofs [-loopQ_n, rlSt, h, h2, c34, c92, d34, d92])) | (refine wb_call0 (c := 92) rfl rfl ?_; (try simp -implicitDefEqProofs [-loopQ_n, rlSt, h, h2, c34, c92, d34, d92])))))
            refine loop_next (i + 1 + 1, [92]) ⟨by simp only; omega, by simp, hR⟩ (by simp only; omega) (weak_ofL 3 0 (by simp [rlSt]) (by simp [rlSt]) (by simp [rlSt]) ?_ ?_) <;> simp [rlSt, rdB, bR_refs]
          · ((try simp -implicitDefEqProofs [-loopQ_n, rlSt, hacc, h, h2, c34, c92, d34, d92]) <;> (repeat' (first | (refine condD_dec ?_ ?_ <;> (intro hc; (try simp -implicitDefEqProofs [-loopQ_n, hc, rlSt, hacc, h, h2, c34, c92, d34, d92]))) | (refine guardD_dec ?_ ?_ <;> (intro hc; (try simp -implicitDefEqProofs [-loopQ_n, hc, rlSt, hacc, h, h2, c34, c92, d34, d92]))) | (refine condD_intro ?_ ?_ <;> (intro hd; have hc := hd; (try simp at hc) <;> (try simp -implicitDefEqProofs [-loopQ_n, hd, hc, rlSt, hacc, h, h2, c34, c92, d34, d92]))) | (refine guardD_intro ?_ ?_ <;> (intro hd; have hc := hd; (try simp at hc) <;> (try simp -implicitDefEqProofs [-loopQ_n, hd, hc, rlSt, hacc, h, h2, c34, c92, d34, d92]))) | (refine ldD_ep ?_ ?_; (focus kernel_rfl); (try simp -implicitDefEqProofs [-loopQ_n, rlSt, hacc, h, h2, c34, c92, d34, d92])) | (refine more_call (a := i) rfl hs1 ?_; (try simp -implicitDefEqProofs [-loopQ_n, rlSt, hacc, h, h2, c34, c92, d34, d92])) | (refine more_call (a := i + 1) rfl hs1 ?_; (try simp -implicitDefEqProofs [-loopQ_n, rlSt, hacc, h, h2, c34, c92, d34, d92])) | (refine next_call rfl h hs1 ?_; (try simp -implicitDefEqProofs [-loopQ_n, rlSt, hacc, h, h2, c34, c92, d34, d92])) | (refine next_call rfl h2 hs1 ?_; (try simp -implicitDefEqProofs [-loopQ_n, rlSt, hacc, h, h2, c34, c92, d34, d92])) | (refine wb_call (c := 92) rfl rfl rfl rfl hl1 ?_; (try simp -implicitDefEqProofs [-loopQ_n, rlSt, hacc, h, h2, c34, c92, d34, d92])))))
            refine loop_next (i + 1 + 1, acc ++ [92]) ⟨by simp only; omega, by simp; omega, hR⟩ (by simp only; omega) (weak_ofL 3 0 (by simp [rlSt]) (by simp [rlSt]) (by simp [rlSt]) ?_ ?_) <;> simp [rlSt, rdB, bR_refs]
        · have e34 : ¬ s.data[i + 1] = 34 := by simpa only [u8_34] using d34
          have e92 : ¬ s.data[i + 1] = 92 := by simpa only [u8_92] using d92
          simp only [e34, e92, or_self, if_false] at hR
          by_cases hacc : acc = []
          · subst hacc
            ((try simp -implicitDefEqProofs [-loopQ_n, rlSt, h, h2, c34, c92, d34, d92]) <;> (repeat' (first | (refine condD_dec ?_ ?_ <;> (intro hc; (try simp -implicitDefEqProofs [-loopQ_n, hc, rlSt, h, h2, c34, c92, d34, d92]))) | (refine guardD_dec ?_ ?_ <;> (intro hc; (try simp -implicitDefEqProofs [-loopQ_n, hc, rlSt, h, h2, c34, c92, d34, d92]))) | (refine condD_intro ?_ ?_ <;> (intro hd; have hc := hd; (try simp at hc) <;> (try simp -implicitDefEqProofs [-loopQ_n, hd, hc, rlSt, h, h2, c34, c92, d34, d92]))) | (refine guardD_intro ?_ ?_ <;> (intro hd; have hc := hd; (try simp at hc) <;> (try simp -implicitDefEqProofs [-loopQ_n, hd, hc, rlSt, h, h2, c34, c92, d34, d92]))) | (refine ldD_ep ?_ ?_; (focus kernel_rfl); (try simp -implicitDefEqProofs [-loopQ_n, rlSt, h, h2, c34, c92, d34, d92])) | (refine more_call (a := i) rfl hs1 ?_; (try simp -implicitDefEqProofs [-loopQ_n, rlSt, h, h2, c34, c92, d34, d92])) | (refine more_call (a := i + 1) rfl hs1 ?_; (try simp -implicitDefEqProofs [-loopQ_n, rlSt, h, h2, c34, c92, d34, d92])) | (refine next_call rfl h hs1 ?_; (try simp -implicitDefEqProofs [-loopQ_n, rlSt, h, h2, c34, c92, d34, d92])) | (refine next_call rfl h2 hs1 ?_; (try simp -implicitDefEqProofs [-loopQ_n, rlSt, h, h2, c34, c92, d34, d92])))))
            exact endG_w _ 1 [rdB s (i + 1 + 1)] rfl rfl (by simp) rfl rfl (by simp [rdB]) (by rw [← hR]; exact ⟨rfl, _, rfl⟩)
          · ((try simp -implicitDefEqProofs [-loopQ_n, rlSt, hacc, h, h2, c34, c92, d34, d92]) <;> (repeat' (first | (refine condD_dec ?_ ?_ <;> (intro hc; (try simp -implicitDefEqProofs [-loopQ_n, hc, rlSt, hacc, h, h2, c34, c92, d34, d92]))) | (refine guardD_dec ?_ ?_ <;> (intro hc; (try simp -implicitDefEqProofs [-loopQ_n, hc, rlSt, hacc, h, h2, c34, c92, d34, d92]))) | (refine condD_intro ?_ ?_ <;> (intro hd; have hc := hd; (try simp at hc) <;> (try simp -implicitDefEqProofs [-loopQ_n, hd, hc, rlSt, hacc, h, h2, c34, c92, d34, d92]))) | (refine guardD_intro ?_ ?_ <;> (intro hd; have hc := hd; (try simp at hc) <;> (try simp -implicitDefEqProofs [-loopQ_n, hd, hc, rlSt, hacc, h, h2, c34, c92, d34, d92]))) | (refine ldD_ep ?_ ?_; (focus kernel_rfl); (try simp -implicitDefEqProofs [-loopQ_n, rlSt, hacc, h, h2, c34, c92, d34, d92])) | (refine more_call (a := i) rfl hs1 ?_; (try simp -implicitDefEqProofs [-loopQ_n, rlSt, hacc, h, h2, c34, c92, d34, d92])) | (refine more_call (a := i + 1) rfl hs1 ?_; (try simp -implicitDefEqProofs [-loopQ_n, rlSt, hacc, h, h2, c34, c92, d34, d92])) | (refine next_call rfl h hs1 ?_; (try simp -implicitDefEqProofs [-loopQ_n, rlSt, hacc, h, h2, c34, c92, d34, d92])) | (refine next_call rfl h2 hs1 ?_; (try simp -implicitDefEqProofs [-loopQ_n, rlSt, hacc, h, h2, c34, c92, d34, d92])))))
            exact endG_w _ 1 [rdB s (i + 1 + 1)] rfl rfl (by simp) rfl rfl (by simp [rdB]) (by rw [← hR]; exact ⟨rfl, _, rfl⟩)
      · rw [List.drop_eq_nil_of_le (by simp; omega), rdL_cons, if_neg n34, if_pos c92'] at hR
        by_cases hacc : acc = []
        · subst hacc
          ((try simp -implicitDefEqProofs [-loopQ_n, rlSt, h, h2, c34, c92]) <;> (repeat' (first | (refine condD_dec ?_ ?_ <;> (intro hc; (try simp -implicitDefEqProofs [-loopQ_n, hc, rlSt, h, h2, c34, c92]))) | (refine guardD_dec ?_ ?_ <;> (intro hc; (try simp -implicitDefEqProofs [-loopQ_n, hc, rlSt, h, h2, c34, c92]))) | (refine condD_intro ?_ ?_ <;> (intro hd; have hc := hd; (try simp at hc) <;> (try simp -implicitDefEqProofs [-loopQ_n, hd, hc, rlSt, h, h2, c34, c92]))) | (refine guardD_intro ?_ ?_ <;> (intro hd; have hc := hd; (try simp at hc) <;> (try simp -implicitDefEqProofs [-loopQ_n, hd, hc, rlSt, h, h2, c34, c92]))) | (refine ldD_ep ?_ ?_; (focus kernel_rfl); (try simp -implicitDefEqProofs [-loopQ_n, rlSt, h, h2, c34, c92])) | (refine more_call (a := i) rfl hs1 ?_; (try simp -implicitDefEqProofs [-loopQ_n, rlSt, h, h2, c34, c92])) | (refine more_call (a := i + 1) rfl hs1 ?_; (try simp -implicitDefEqProofs [-loopQ_n, rlSt, h, h2, c34, c92])) | (refine next_call rfl h hs1 ?_; (try simp -implicitDefEqProofs [-loopQ_n, rlSt, h, h2, c34, c92])))))
          exact endG_w _ 1 [rdB s (i + 1)] rfl rfl (by simp) rfl rfl (by simp [rdB]) (by rw [← hR]; exact ⟨rfl, _, rfl⟩)
        · ((try simp -implicitDefEqProofs [-loopQ_n, rlSt, hacc, h, h2, c34, c92]) <;> (repeat' (first | (refine condD_dec ?_ ?_ <;> (intro hc; (try simp -implicitDefEqProofs [-loopQ_n, hc, rlSt, hacc, h, h2, c34, c92]))) | (refine guardD_dec ?_ ?_ <;> (intro hc; (try simp -implicitDefEqProofs [-loopQ_n, hc, rlSt, hacc, h, h2, c34, c92]))) | (refine condD_intro ?_ ?_ <;> (intro hd; have hc := hd; (try simp at hc) <;> (try simp -implicitDefEqProofs [-loopQ_n, hd, hc, rlSt, hacc, h, h2, c34, c92]))) | (refine guardD_intro ?_ ?_ <;> (intro hd; have hc := hd; (try simp at hc) <;> (try simp -implicitDefEqProofs [-loopQ_n, hd, hc, rlSt, hacc, h, h2, c34, c92]))) | (refine ldD_ep ?_ ?_; (focus kernel_rfl); (try simp -implicitDefEqProofs [-loopQ_n, rlSt, hacc, h, h2, c34, c92])) | (refine more_call (a := i) rfl hs1 ?_; (try simp -implicitDefEqProofs [-loopQ_n, rlSt, hacc, h, h2, c34, c92])) | (refine more_call (a := i + 1) rfl hs1 ?_; (try simp -implicitDefEqProofs [-loopQ_n, rlSt, hacc, h, h2, c34, c92])) | (refine next_call rfl h hs1 ?_; (try simp -implicitDefEqProofs [-loopQ_n, rlSt, hacc, h, h2, c34, c92])))))
          exact endG_w _ 1 [rdB s (i + 1)] rfl rfl (by simp) rfl rfl (by simp [rdB]) (by rw [← hR]; exact ⟨rfl, _, rfl⟩)
    have n92 : ¬ s.data[i] = 92 := by simpa only [u8_92] using c92
    rw [rdL_cons, if_neg n34, if_neg n92] at hR
    by_cases hacc : acc = []
    · subst hacc
      ((try simp -implicitDefEqProofs [-loopQ_n, rlSt, h, c34, c92]) <;> (repeat' (first | (refine condD_dec ?_ ?_ <;> (intro hc; (try simp -implicitDefEqProofs [-loopQ_n, hc, rlSt, h, c34, c92]))) | (refine guardD_dec ?_ ?_ <;> (intro hc; (try simp -implicitDefEqProofs [-loopQ_n, hc, rlSt, h, c34, c92]))) | (refine condD_intro ?_ ?_ <;> (intro hd; have hc := hd; (try simp at hc) <;> (try simp -implicitDefEqProofs [-loopQ_n, hd, hc, rlSt, h, c34, c92]))) | (refine guardD_intro ?_ ?_ <;> (intro hd; have hc := hd; (try simp at hc) <;> (try simp -implicitDefEqProofs [-loopQ_n, hd, hc, rlSt, h, c34, c92]))) | (refine ldD_ep ?_ ?_; (focus kernel_rfl); (try simp -implicitDefEqProofs [-loopQ_n, rlSt, h, c34, c92])) | (refine more_call (a := i) rfl hs1 ?_; (try simp -implicitDefEqProofs [-loopQ_n, rlSt, h, c34, c92])) | (refine next_call rfl h hs1 ?_; (try simp -implicitDefEqProofs [-loopQ_n, rlSt, h, c34, c92])) | (refine wb_call0 rfl rfl ?_; (try simp -implicitDefEqProofs [-loopQ_n, rlSt, h, c34, c92])))))
      refine loop_next (i + 1, [s.data[i]]) ⟨by simp only; omega, by simp, hR⟩ (by simp only; omega) (weak_ofL 3 0 (by simp [rlSt]) (by simp [rlSt]) (by simp [rlSt]) ?_ ?_) <;> simp [rlSt, rdB, bR_refs]
    · ((try simp -implicitDefEqProofs [-loopQ_n, rlSt, hacc, h, c34, c92]) <;> (repeat' (first | (refine condD_dec ?_ ?_ <;> (intro hc; (try simp -implicitDefEqProofs [-loopQ_n, hc, rlSt, hacc, h, c34, c92]))) | (refine guardD_dec ?_ ?_ <;> (intro hc; (try simp -implicitDefEqProofs [-loopQ_n, hc, rlSt, hacc, h, c34, c92]))) | (refine condD_intro ?_ ?_ <;> (intro hd; have hc := hd; (try simp at hc) <;> (try simp -implicitDefEqProofs [-loopQ_n, hd, hc, rlSt, hacc, h, c34, c92]))) | (refine guardD_intro ?_ ?_ <;> (intro hd; have hc := hd; (try simp at hc) <;> (try simp -implicitDefEqProofs [-loopQ_n, hd, hc, rlSt, hacc, h, c34, c92]))) | (refine ldD_ep ?_ ?_; (focus kernel_rfl); (try simp -implicitDefEqProofs [-loopQ_n, rlSt, hacc, h, c34, c92])) | (refine more_call (a := i) rfl hs1 ?_; (try simp -implicitDefEqProofs [-loopQ_n, rlSt, hacc, h, c34, c92])) | (refine next_call rfl h hs1 ?_; (try simp -implicitDefEqProofs [-loopQ_n, rlSt, hacc, h, c34, c92])) | (refine wb_call rfl rfl rfl rfl hl1 ?_; (try simp -implicitDefEqProofs [-loopQ_n, rlSt, hacc, h, c34, c92])))))
      refine loop_next (i + 1, acc ++ [s.data[i]]) ⟨by simp only; omega, by simp; omega, hR⟩ (by simp only; omega) (weak_ofL 3 0 (by simp [rlSt]) (by simp [rlSt]) (by simp [rlSt]) ?_ ?_) <;> simp [rlSt, rdB, bR_refs]
  · rw [List.drop_eq_nil_of_le (by simp; omega), rdL_nil] at hR
    by_cases hacc : acc = []
    · subst hacc
      ((try simp -implicitDefEqProofs [-loopQ_n, rlSt, h]) <;> (repeat' (first | (refine condD_dec ?_ ?_ <;> (intro hc; (try simp -implicitDefEqProofs [-loopQ_n, hc, rlSt, h]))) | (refine guardD_dec ?_ ?_ <;> (intro hc; (try simp -implicitDefEqProofs [-loopQ_n, hc, rlSt, h]))) | (refine condD_intro ?_ ?_ <;> (intro hd; have hc := hd; (try simp at hc) <;> (try simp -implicitDefEqProofs [-loopQ_n, hd, hc, rlSt, h]))) | (refine guardD_intro ?_ ?_ <;> (intro hd; have hc := hd; (try simp at hc) <;> (try simp -implicitDefEqProofs [-loopQ_n, hd, hc, rlSt, h]))) | (refine ldD_ep ?_ ?_; (focus kernel_rfl); (try simp -implicitDefEqProofs [-loopQ_n, rlSt, h])) | (refine more_call (a := i) rfl hs1 ?_; (try simp -implicitDefEqProofs [-loopQ_n, rlSt, h])))))
      exact endG_w _ 1 [rdB s i] rfl rfl (by simp) rfl rfl (by simp [rdB]) (by rw [← hR]; exact ⟨rfl, _, rfl⟩)
    · ((try simp -implicitDefEqProofs [-loopQ_n, rlSt, hacc, h]) <;> (repeat' (first | (refine condD_dec ?_ ?_ <;> (intro hc; (try simp -implicitDefEqProofs [-loopQ_n, hc, rlSt, hacc, h]))) | (refine guardD_dec ?_ ?_ <;> (intro hc; (try simp -implicitDefEqProofs [-loopQ_n, hc, rlSt, hacc, h]))) | (refine condD_intro ?_ ?_ <;> (intro hd; have hc := hd; (try simp at hc) <;> (try simp -implicitDefEqProofs [-loopQ_n, hd, hc, rlSt, hacc, h]))) | (refine guardD_intro ?_ ?_ <;> (intro hd; have hc := hd; (try simp at hc) <;> (try simp -implicitDefEqProofs [-loopQ_n, hd, hc, rlSt, hacc, h]))) | (refine ldD_ep ?_ ?_; (focus kernel_rfl); (try simp -implicitDefEqProofs [-loopQ_n, rlSt, hacc, h])) | (refine more_call (a := i) rfl hs1 ?_; (try simp -implicitDefEqProofs [-loopQ_n, rlSt, hacc, h])))))
      exact endG_w _ 1 [rdB s i] rfl rfl (by simp) rfl rfl (by simp [rdB]) (by rw [← hR]; exact ⟨rfl, _, rfl⟩)
end Go.Proofs.Ytlcblpofikijmaa
