/- The logs of the law EventlogMany: n cases of k events each, whose traces differ in their first activity (plain words). -/
import Derived.Test.YtnldjmokemgaoaaMrg
import Derived.Test.YtnldjmokemgaoaaEl6
namespace Go.Proofs.Ytnldjmokemgaoaa
set_option linter.unusedSimpArgs false
set_option linter.unusedVariables false
set_option linter.unnecessarySimpa false
set_option linter.unusedSectionVars false
open Go.RowKit
variable [Glob]
open Stab
set_option maxRecDepth 100000
def nmI (i : Nat) : ByteArray := ⟨#[99, (97 + i / 26).toUInt8, (97 + i % 26).toUInt8]⟩
def xB : ByteArray := ⟨#[120]⟩
def evI (i j : Nat) : Evt := ⟨nmI i, if j = 0 then nmI i else xB, ByteArray.empty, 5, 0, []⟩
def blkI (k i : Nat) : List Evt := (List.range k).map (evI i)
def genL (n k : Nat) : List Evt := (List.range n).flatMap (blkI k)
theorem blkI_len {k i : Nat} : (blkI k i).length = k := by simp [blkI]
theorem genL_len {n k : Nat} : (genL n k).length = n * k := by
  induction n with
  | zero => simp [genL]
  | succ n ih =>
    unfold genL at ih ⊢
    rw [List.range_succ, List.flatMap_append, List.length_append, ih, Nat.add_mul]
    simp [blkI_len]
theorem nmI_names : ((List.range 400).all fun i => isNameS (nmI i)) = true := by kernel_rfl
theorem nmI_name {i : Nat} (h : i < 400) : isNameS (nmI i) = true := List.all_eq_true.1 nmI_names i (List.mem_range.2 h)
theorem xB_name : isNameS xB = true := by kernel_rfl
theorem u8_inj {a b : Nat} (ha : a < 256) (hb : b < 256) (h : a.toUInt8 = b.toUInt8) : a = b := by
  have := congrArg UInt8.toNat h
  simp at this
  omega
theorem nmI_inj {i j : Nat} (hi : i < 400) (hj : j < 400) (h : nmI i = nmI j) : i = j := by
  simp only [nmI, ByteArray.mk.injEq, Array.mk.injEq, List.cons.injEq, and_true, true_and] at h
  have h1 := u8_inj (by omega) (by omega) h.1
  have h2 := u8_inj (by omega) (by omega) h.2
  omega
theorem evI_ok {i : Nat} (h : i < 400) (j : Nat) : eventV (evI i j) = true := by
  have h1 := nmI_name h
  have h2 := xB_name
  have h3 : emptyS ByteArray.empty = true := by kernel_rfl
  have h4 : fldsOk [] 0 := fun j hj => absurd hj (by simp)
  unfold eventV evI
  split <;> simp [h1, h2, h3, h4]
theorem gen_mem {n k : Nat} {e : Evt} (h : e ∈ genL n k) : ∃ i j, i < n ∧ j < k ∧ e = evI i j := by
  unfold genL at h
  obtain ⟨i, hi, h⟩ := List.mem_flatMap.1 h
  obtain ⟨j, hj, rfl⟩ := List.mem_map.1 h
  exact ⟨i, j, List.mem_range.1 hi, List.mem_range.1 hj, rfl⟩
theorem gen_time {n k : Nat} {e : Evt} (h : e ∈ genL n k) : e.time = 0 := by
  obtain ⟨i, j, _, _, rfl⟩ := gen_mem h
  rfl
theorem gen_logV {n k : Nat} (hn : n ≤ 400) (h : n * k ≤ 2000) : logV (genL n k) = true := by
  have hlen : (genL n k).length = n * k := genL_len
  have hev : evsOk (genL n k) (genL n k).length := fun i hi _ => by
    unfold evOk
    have hm := List.getElem_mem hi
    obtain ⟨a, b, ha, _, he⟩ := gen_mem hm
    have h1 : eventV (genL n k)[i] = true := by rw [he]; exact evI_ok (by omega) b
    rw [h1, Bool.true_and]
    split
    · rename_i g hg
      rw [gen_time hm, gen_time (List.mem_of_getElem? hg)]
      simp
    · rfl
  unfold logV
  simp only [Bool.and_eq_true, decide_eq_true_eq]
  exact ⟨by rw [hlen]; omega, hev⟩
theorem gen_bad {n k : Nat} (h : 2000 < n * k) : logV (genL n k) = false := by
  cases e : logV (genL n k)
  · rfl
  · have := log_lenE e
    rw [genL_len] at this
    omega
/-! The traces. -/
def wdI (k i : Nat) : List ByteArray := (blkI k i).map (·.act)
theorem wdI_len {k i : Nat} : (wdI k i).length = k := by simp [wdI, blkI_len]
theorem wdI_inj {k i j : Nat} (hk : 0 < k) (hi : i < 400) (hj : j < 400) (h : wdI k i = wdI k j) : i = j := by
  obtain ⟨k, rfl⟩ : ∃ m, k = m + 1 := ⟨k - 1, by omega⟩
  have := congrArg List.head? h
  simp [wdI, blkI, List.range_succ_eq_map, evI] at this
  exact nmI_inj hi hj this
theorem word_app (a b : List Evt) (c : ByteArray) : wordL (a ++ b) c = wordL a c ++ wordL b c := by simp [wordL]
theorem word_blk {k m i : Nat} (hi : i < 400) (hm : m < 400) : wordL (blkI k m) (nmI i) = if i = m then wdI k i else [] := by
  unfold wordL
  have he : ∀ j, wordE (nmI i) (evI m j) = decide (i = m) := fun j => by
    unfold wordE evI
    by_cases h : i = m
    · subst h; simp
    · have : ¬ nmI m = nmI i := fun q => h (nmI_inj hi hm q.symm)
      simp [h, this]
  by_cases h : i = m
  · subst h
    rw [if_pos rfl, List.filter_eq_self.2 (fun e hh => by
      obtain ⟨j, _, rfl⟩ := List.mem_map.1 hh
      rw [he]; simp)]
    rfl
  · rw [if_neg h, List.filter_eq_nil_iff.2 (fun e hh => by
      obtain ⟨j, _, rfl⟩ := List.mem_map.1 hh
      rw [he]; simp [h])]
    rfl
theorem word_gen {k i : Nat} (hi : i < 400) : ∀ n, n ≤ 400 → wordL (genL n k) (nmI i) = if i < n then wdI k i else [] := by
  intro n
  induction n with
  | zero => intro _; simp [genL, wordL]
  | succ n ih =>
    intro hn
    have e : genL (n + 1) k = genL n k ++ blkI k n := by simp [genL, List.range_succ]
    rw [e, word_app, ih (by omega), word_blk hi (by omega)]
    by_cases h1 : i < n
    · rw [if_pos h1, if_neg (by omega), if_pos (by omega), List.append_nil]
    · rw [if_neg h1]
      by_cases h2 : i = n
      · rw [if_pos h2, if_pos (by omega)]; rfl
      · rw [if_neg h2, if_neg (by omega)]; rfl
theorem gen_cases {n k : Nat} (hn : n ≤ 400) (hk : 0 < k) : (casesL (genL n k)).Perm ((List.range n).map nmI) := by
  have d1 : (casesL (genL n k)).Nodup := (setB_asc _).imp fun {a b} q e => by subst e; exact ltB_irrefl _ q
  have d2 : ((List.range n).map nmI).Nodup := by
    unfold List.Nodup
    rw [List.pairwise_map]
    refine (List.nodup_range (n := n)).imp_of_mem fun {a b} ha hb hne e => hne ?_
    rw [List.mem_range] at ha hb
    exact nmI_inj (by omega) (by omega) e
  refine (List.perm_ext_iff_of_nodup d1 d2).2 fun c => ?_
  unfold casesL
  rw [setB_mem, List.mem_map, List.mem_map]
  constructor
  · rintro ⟨e, he, rfl⟩
    obtain ⟨i, j, hi, _, rfl⟩ := gen_mem he
    exact ⟨i, List.mem_range.2 hi, rfl⟩
  · rintro ⟨i, hi, rfl⟩
    refine ⟨evI i 0, ?_, rfl⟩
    unfold genL
    exact List.mem_flatMap.2 ⟨i, hi, List.mem_map.2 ⟨0, List.mem_range.2 hk, rfl⟩⟩
theorem gen_words {n k : Nat} (hn : n ≤ 400) (hk : 0 < k) : ((casesL (genL n k)).map (wordL (genL n k))).Perm ((List.range n).map (wdI k)) := by
  refine ((gen_cases hn hk).map _).trans ?_
  rw [List.map_map]
  refine List.Perm.of_eq (List.map_congr_left fun i hi => ?_)
  rw [List.mem_range] at hi
  show wordL (genL n k) (nmI i) = _
  rw [word_gen (by omega) n hn, if_pos hi]
theorem gen_varL {n k : Nat} (hn : n ≤ 400) (hk : 0 < k) : (varL (genL n k)).length = n := by
  have hg := good_fold ((casesL (genL n k)).map (wordL (genL n k))) [] [] good_nil
  rw [List.nil_append] at hg
  obtain ⟨h1, h2⟩ := hg
  have hp := gen_words hn hk
  have d2 : ((List.range n).map (wdI k)).Nodup := by
    unfold List.Nodup
    rw [List.pairwise_map]
    refine (List.nodup_range (n := n)).imp_of_mem fun {a b} ha hb hne e => hne ?_
    rw [List.mem_range] at ha hb
    exact wdI_inj hk (by omega) (by omega) e
  have d1 : ((varL (genL n k)).map (·.acts)).Nodup := by
    unfold List.Nodup
    rw [List.pairwise_map]
    refine h1.imp fun {a b} q e => ?_
    unfold ltV at q
    rw [e, cmpL_self] at q
    omega
  have := (List.perm_ext_iff_of_nodup d1 d2).2 fun w => by
    rw [← hp.mem_iff, List.mem_map]
    constructor
    · rintro ⟨v, hv, rfl⟩
      exact ((h2 v).1 hv).1
    · intro hw
      exact ⟨⟨w, (occ w ((casesL (genL n k)).map (wordL (genL n k))) : Nat)⟩, (h2 _).2 ⟨hw, rfl⟩, rfl⟩
  have hl := this.length_eq
  simpa using hl
theorem gen_varR {n k : Nat} (hn : n ≤ 400) (hk : 0 < k) : varR (genL n k) = if 0 < n ∧ 200 < k then ([], 5) else if 300 < n then ([], 5) else (varL (genL n k), 0) := by
  unfold varR
  have ha : ((casesL (genL n k)).any fun c => decide (200 < (wordL (genL n k) c).length)) = decide (0 < n ∧ 200 < k) := by
    have h1 : ((casesL (genL n k)).any fun c => decide (200 < (wordL (genL n k) c).length)) = ((casesL (genL n k)).map (wordL (genL n k))).any fun w => decide (200 < w.length) := by rw [List.any_map]; rfl
    rw [h1, any_perm (gen_words hn hk), List.any_map]
    cases n with
    | zero => simp
    | succ n =>
      by_cases h : 200 < k
      · rw [decide_eq_true (⟨by omega, h⟩ : 0 < n + 1 ∧ 200 < k), List.any_eq_true]
        exact ⟨0, List.mem_range.2 (by omega), by simp [wdI_len, h]⟩
      · rw [decide_eq_false (fun q => h q.2), List.any_eq_false]
        intro i _
        simp [wdI_len, h]
  rw [ha, gen_varL hn hk]
  simp only [decide_eq_true_eq]
end Go.Proofs.Ytnldjmokemgaoaa
