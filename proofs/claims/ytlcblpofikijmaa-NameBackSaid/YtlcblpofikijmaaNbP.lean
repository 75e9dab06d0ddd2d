/- Literals and lines are read back (plain words). -/
import Derived.Test.YtlcblpofikijmaaLin7
namespace Go.Proofs.Ytlcblpofikijmaa
set_option linter.unusedSimpArgs false
set_option linter.unusedVariables false
set_option linter.unnecessarySimpa false
set_option linter.unusedSectionVars false
open Go.RowKit
variable [Glob]
theorem esc34 {c : UInt8} (h : c = 34 ∨ c = 92) : esc c = [92, c] := by
  unfold esc
  rw [if_pos]
  rcases h with h | h <;> subst h <;> decide
theorem esc_no {c : UInt8} (h1 : c ≠ 34) (h2 : c ≠ 92) : esc c = [c] := by
  unfold esc
  rw [if_neg]
  rw [u8_34, u8_92]
  simp [h1, h2]
/-- A literal is read back. -/
theorem rd_lit : ∀ (s acc q : List UInt8), rdL acc (s.flatMap esc ++ 34 :: q) = .ok (acc ++ s, q) := by
  intro s
  induction s with
  | nil => intro acc q; simp [rdL_cons]
  | cons c r ih =>
    intro acc q
    rw [List.flatMap_cons, List.append_assoc]
    by_cases h1 : c = 34
    · rw [esc34 (.inl h1)]
      simp only [List.cons_append, List.nil_append]
      rw [rdL_cons, if_neg (by decide), if_pos rfl]
      simp only [h1, true_or, if_true]
      rw [ih]; simp
    · by_cases h2 : c = 92
      · rw [esc34 (.inr h2)]
        simp only [List.cons_append, List.nil_append]
        rw [rdL_cons, if_neg (by decide), if_pos rfl]
        simp only [h2, or_true, if_true]
        rw [ih]; simp
      · rw [esc_no h1 h2]
        simp only [List.cons_append, List.nil_append]
        rw [rdL_cons, if_neg h1, if_neg h2, ih]; simp
theorem wd_sp {n : Nat} {acc : List ByteArray} {r : List UInt8} : wdF (n + 1) acc (32 :: r) = wdF n acc r := by simp [wdF]
theorem all_okB {s : List UInt8} (h : s.all okB = true) : (∀ c ∈ s, nsp c = true) ∧ 34 ∉ s := by
  rw [List.all_eq_true] at h
  refine ⟨fun c hc => ?_, fun hm => ?_⟩
  · have := h c hc
    simp only [okB, Bool.and_eq_true] at this
    exact this.1
  · have := h 34 hm
    simp [okB] at this
/-- One part of a line is read. -/
theorem wd_tok {n : Nat} {acc : List ByteArray} {s : ByteArray} {r : List UInt8} (hr : r = [] ∨ r.head? = some 32) : wdF (n + 1) acc (bl (tokS s) ++ r) = wdF n (acc ++ [s]) r := by
  unfold tokS
  split
  · rename_i hb
    simp only [bareS, Bool.and_eq_true, Bool.not_eq_true'] at hb
    obtain ⟨h1, h2⟩ := hb
    obtain ⟨g1, g2⟩ := all_okB h2
    rw [ba_toList] at h1
    cases hs : bl s with
    | nil => rw [show s.data.toList = bl s from rfl, hs] at h1; simp at h1
    | cons c t =>
      have c1 : c ≠ 32 := by have := g1 c (by rw [hs]; simp); simpa [nsp] using this
      have c2 : c ≠ 34 := fun e => g2 (by rw [hs, e]; simp)
      have htk : (c :: t ++ r).takeWhile nsp = c :: t ∧ (c :: t ++ r).dropWhile nsp = r := by
        have hp : ∀ x ∈ c :: t, nsp x = true := fun x hx => g1 x (by rw [hs]; exact hx)
        rw [List.takeWhile_append_of_pos hp, List.dropWhile_append_of_pos hp]
        rcases hr with rfl | hr
        · simp
        · cases r with
          | nil => simp at hr
          | cons d q =>
            simp at hr
            subst hr
            constructor <;> simp [nsp]
      rw [show c :: t ++ r = c :: (t ++ r) from rfl] at htk ⊢
      rw [wdF, if_neg c1, if_neg c2, htk.1, htk.2, if_neg (by rw [← hs]; exact g2), ← hs, ba_eta]
  · have e : bl (litS s) = 34 :: ((bl s).flatMap esc ++ [34]) := by simp [litS, litL]
    rw [e, show (34 :: ((bl s).flatMap esc ++ [34]) ++ r : List UInt8) = 34 :: ((bl s).flatMap esc ++ 34 :: r) by simp]
    rw [wdF, if_neg (by decide), if_pos rfl, rd_lit]
    simp only [List.nil_append]
    rw [if_pos hr, ba_eta]
theorem tok_pos (s : ByteArray) : (bl (tokS s)).length ≠ 0 := by
  unfold tokS
  split
  · rename_i hb
    simp only [bareS, Bool.and_eq_true, Bool.not_eq_true'] at hb
    intro q
    have : bl s = [] := List.eq_nil_of_length_eq_zero q
    rw [ba_toList, show s.data.toList = bl s from rfl, this] at hb
    simp at hb
  · simp [litS, litL]
def spTok (s : ByteArray) : List UInt8 := 32 :: bl (tokS s)
theorem wd_rest {e : List UInt8} (he : ∀ (n : Nat) (acc : List ByteArray), e.length < n → wdF n acc e = .ok acc) (h0 : e = [] ∨ e.head? = some 32) : ∀ (l : List ByteArray) (n : Nat) (acc : List ByteArray), (l.flatMap spTok ++ e).length < n → wdF n acc (l.flatMap spTok ++ e) = .ok (acc ++ l) := by
  intro l
  induction l with
  | nil => intro n acc h; simpa using he n acc (by simpa using h)
  | cons s r ih =>
    intro n acc h
    rw [List.flatMap_cons, List.append_assoc] at h ⊢
    have hl : (spTok s ++ (r.flatMap spTok ++ e)).length = (bl (tokS s)).length + 1 + (r.flatMap spTok ++ e).length := by rw [List.length_append]; simp [spTok]
    rw [hl] at h
    have hh : (r.flatMap spTok ++ e) = [] ∨ (r.flatMap spTok ++ e).head? = some 32 := by
      cases r with
      | nil => simpa using h0
      | cons t r => right; simp [spTok]
    have hn := tok_pos s
    obtain ⟨m, rfl⟩ : ∃ m, n = m + 1 + 1 := ⟨n - 2, by omega⟩
    rw [spTok, List.cons_append, wd_sp, wd_tok hh, ih m (acc ++ [s]) (by omega)]
    simp
theorem wd_first {e : List UInt8} (he : ∀ (n : Nat) (acc : List ByteArray), e.length < n → wdF n acc e = .ok acc) (h0 : e = [] ∨ e.head? = some 32) (l : List ByteArray) (n : Nat) (h : (jn (l.map fun s => bl (tokS s)) ++ e).length < n) : wdF n [] (jn (l.map fun s => bl (tokS s)) ++ e) = .ok l := by
  cases l with
  | nil => simpa [jn] using he n [] (by simpa [jn] using h)
  | cons s r =>
    have e1 : jn ((s :: r).map fun s => bl (tokS s)) = bl (tokS s) ++ r.flatMap spTok := by
      rw [List.map_cons, jn, jf_eq, List.flatMap_map]; rfl
    rw [e1, List.append_assoc] at h ⊢
    obtain ⟨m, rfl⟩ : ∃ m, n = m + 1 := ⟨n - 1, by omega⟩
    have hh : (r.flatMap spTok ++ e) = [] ∨ (r.flatMap spTok ++ e).head? = some 32 := by
      cases r with
      | nil => simpa using h0
      | cons t r => right; simp [spTok]
    have hn := tok_pos s
    rw [List.length_append] at h
    rw [wd_tok hh, wd_rest he h0 r m _ (by omega)]
    simp
theorem he_nil : ∀ (n : Nat) (acc : List ByteArray), ([] : List UInt8).length < n → wdF n acc [] = .ok acc := by
  intro n acc h
  cases n with
  | zero => simp at h
  | succ n => rfl
theorem he_sp : ∀ (n : Nat) (acc : List ByteArray), ([32] : List UInt8).length < n → wdF n acc [32] = .ok acc := by
  intro n acc h
  obtain ⟨m, rfl⟩ : ∃ m, n = m + 1 + 1 := ⟨n - 2, by simp at h; omega⟩
  rw [wd_sp]; rfl
/-- Bytes of parts are printable where their strings' are. -/
theorem pr_esc {s : List UInt8} (h : s.all prC = true) : (s.flatMap esc).all prC = true := by
  rw [List.all_eq_true] at h ⊢
  intro x hx
  rw [List.mem_flatMap] at hx
  obtain ⟨c, hc, hx⟩ := hx
  unfold esc at hx
  split at hx
  · simp only [List.mem_cons, List.not_mem_nil, or_false] at hx
    rcases hx with rfl | rfl
    · decide
    · exact h _ hc
  · simp only [List.mem_cons, List.not_mem_nil, or_false] at hx
    subst hx; exact h _ hc
theorem pr_tok {s : ByteArray} (h : prS s = true) : (bl (tokS s)).all prC = true := by
  unfold tokS
  split
  · exact h
  · have e : bl (litS s) = 34 :: ((bl s).flatMap esc ++ [34]) := by simp [litS, litL]
    rw [e, List.all_cons, List.all_append, pr_esc h]
    decide
theorem pr_jn {l : List ByteArray} (h : l.all prS = true) : (jn (l.map fun s => bl (tokS s))).all prC = true := by
  rw [List.all_eq_true] at h
  cases l with
  | nil => rfl
  | cons s r =>
    have e1 : jn ((s :: r).map fun s => bl (tokS s)) = bl (tokS s) ++ r.flatMap spTok := by
      rw [List.map_cons, jn, jf_eq, List.flatMap_map]; rfl
    rw [e1, List.all_append, pr_tok (h s (by simp)), Bool.true_and, List.all_eq_true]
    intro x hx
    rw [List.mem_flatMap] at hx
    obtain ⟨t, ht, hx⟩ := hx
    rcases List.mem_cons.1 hx with rfl | hx
    · decide
    · exact (List.all_eq_true.1 (pr_tok (h t (by simp [ht])))) x hx
theorem size_mk (l : List UInt8) : (⟨l.toArray⟩ : ByteArray).size = l.length := rfl
theorem bl_mk (l : List UInt8) : bl (⟨l.toArray⟩ : ByteArray) = l := by simp [bl]
theorem join_ok {l : List ByteArray} {t : List UInt8} (h : joinR l = .ok t) : l.length ≤ 1000 ∧ l.all prS = true ∧ t = jn (l.map fun s => bl (tokS s)) ∧ t.length ≤ 16384 := by
  unfold joinR at h
  split at h
  · cases h
  · split at h
    · split at h
      · cases h
      · cases h
        exact ⟨by omega, by assumption, rfl, by omega⟩
    · cases h
/-- A line is read back. -/
theorem back1 {l : List ByteArray} {t : List UInt8} (h : joinR l = .ok t) : wrdR ⟨t.toArray⟩ = .ok l := by
  obtain ⟨h1, h2, h3, h4⟩ := join_ok h
  have hp : prS ⟨t.toArray⟩ = true := by rw [prS, bl_mk, h3]; exact pr_jn h2
  have hw : wdF (t.length + 1) [] t = .ok l := by
    have := wd_first he_nil (.inl rfl) l (t.length + 1) (by rw [← h3]; simp)
    rw [List.append_nil, ← h3] at this
    exact this
  rw [wrdR, size_mk, if_neg (by omega), if_pos hp, bl_mk, hw]
  simp only
  rw [if_neg (by omega)]
theorem back2 {l : List ByteArray} {t : List UInt8} (h : joinR l = .ok t) (hl : t.length + 3 ≤ 16384) : wrdR ⟨(32 :: 32 :: (t ++ [32])).toArray⟩ = .ok l := by
  obtain ⟨h1, h2, h3, h4⟩ := join_ok h
  have hp : prS ⟨(32 :: 32 :: (t ++ [32])).toArray⟩ = true := by
    rw [prS, bl_mk, List.all_cons, List.all_cons, List.all_append, h3, pr_jn h2]; decide
  have hw : wdF ((32 :: 32 :: (t ++ [32])).length + 1) [] (32 :: 32 :: (t ++ [32])) = .ok l := by
    rw [show (32 :: 32 :: (t ++ [32]) : List UInt8).length + 1 = (t ++ [32]).length + 1 + 1 + 1 by simp, wd_sp, wd_sp, h3]
    exact wd_first he_sp (.inr rfl) l _ (by simp)
  rw [wrdR, size_mk, if_neg (by simp; omega), if_pos hp, bl_mk, hw]
  simp only
  rw [if_neg (by omega)]
/-- A text is read back. -/
theorem quote_back {s : ByteArray} {q : List UInt8} (h : quoR s = .ok q) : unqR ⟨q.toArray⟩ = .ok (bl s) := by
  unfold quoR at h
  split at h
  · cases h
  · split at h
    · rename_i h1 h2
      cases h
      have hsz := esc_len (bl s)
      rw [bl_len] at hsz
      have hq : (litL (bl s)).length ≤ 32770 := by simp only [litL, List.length_cons, List.length_append, List.length_nil]; omega
      have hp : prS ⟨(litL (bl s)).toArray⟩ = true := by
        rw [prS, bl_mk, litL, List.all_cons, List.all_append, pr_esc h2]; decide
      have hr : rdL [] (litL (bl s)).tail = .ok (bl s, []) := by
        have := rd_lit (bl s) [] []
        simpa [litL] using this
      rw [unqR, size_mk, if_neg (by omega), if_pos ⟨by rw [bl_mk]; rfl, hp⟩, bl_mk, unqL, hr]
      simp only [if_true]
      rw [if_neg (by rw [bl_len]; omega)]
    · cases h
theorem quote_ok {l : List ByteArray} {t : List UInt8} (h : joinR l = .ok t) {s : ByteArray} (hs : s ∈ l) (hx : s.size ≤ 16384) : quoR s = .ok (litL (bl s)) := by
  obtain ⟨h1, h2, h3, h4⟩ := join_ok h
  rw [quoR, if_neg (by omega), if_pos ((List.all_eq_true.1 h2) s hs)]
end Go.Proofs.Ytlcblpofikijmaa
