/- Several texts of the abstract machine, one behind the other. -/
import Derived.Test.YthiclaihlpkinaaGreatM10
import Derived.Test.YthiclaihlpkinaaGreatM12
import Derived.Test.YthiclaihlpkinaaGreatM6
set_option linter.unusedSimpArgs false
set_option linter.unusedVariables false
set_option linter.unnecessarySimpa false
set_option linter.unusedSectionVars false
set_option maxRecDepth 100000
namespace Go.Proofs.YthiclaihlpkinaaGreat
open Go.RowKit
variable [Glob]
theorem act_spsI (l : List Ins) (t : Int) : actN (spsI l) t = actN (activeL l) t := by
  unfold actN spsI activeL
  induction l with
  | nil => rfl
  | cons x r ih =>
    rw [List.map_cons, List.countP_cons, ih, List.filterMap_cons]
    unfold actS
    by_cases h : x.from_ < x.to_
    · simp only [if_pos h, List.countP_cons]
    · have : inS t ⟨x.from_, x.to_⟩ = false := by simp only [inS, Bool.and_eq_false_iff, decide_eq_false_iff_not]; omega
      simp only [if_neg h, this]; simp
theorem most_spsI {l : List Ins} {n a : Int} (h : MostS (activeL l) n a) : MostS (spsI l) n a := by
  have e : ∀ t, actN (spsI l) t = actN (activeL l) t := act_spsI l
  rcases h with ⟨h1, h2, h3⟩ | ⟨h1, h2, h3, h4⟩
  · exact .inl ⟨h1, h2, fun t => by rw [e]; exact h3 t⟩
  · exact .inr ⟨h1, by rw [e]; exact h2, fun t => by rw [e]; exact h3 t, fun t ht => by rw [e]; exact h4 t ht⟩
def stU (u x : Int) : Int := max u (x + 1)
theorem stU_fold : ∀ (L : List Int) (u : Int), u ≤ L.foldl stU u ∧ (∀ x ∈ L, x + 1 ≤ L.foldl stU u) ∧ (L.foldl stU u = u ∨ ∃ x ∈ L, L.foldl stU u = x + 1) := by
  intro L
  induction L with
  | nil => intro u; simp
  | cons y r ih =>
    intro u
    obtain ⟨h1, h2, h3⟩ := ih (stU u y)
    have hs : stU u y = max u (y + 1) := rfl
    rw [List.foldl_cons]
    refine ⟨by omega, fun x hx => ?_, ?_⟩
    · rcases List.mem_cons.1 hx with rfl | hx
      · omega
      · exact h2 x hx
    · rcases h3 with h | ⟨x, hx, h⟩
      · rw [h, hs]
        rcases Int.le_total u (y + 1) with q | q
        · exact .inr ⟨y, by simp, by omega⟩
        · exact .inl (by omega)
      · exact .inr ⟨x, by simp [hx], h⟩
structure Chart (l : List Ins) (out : List Int) (n a : Int) : Prop where
  len : out.length = l.length
  pos : ∀ x ∈ out, 0 ≤ x ∧ x ≤ 1000000000
  dis : ∀ (i j : Nat) (hi : i < l.length) (hj : j < l.length), i ≠ j → out[i]? = out[j]? → l[i].to_ ≤ l[j].from_ ∨ l[j].to_ ≤ l[i].from_ ∨ l[i].from_ = l[i].to_ ∨ l[j].from_ = l[j].to_
  used : out.foldl stU 0 = max n (min (l.length : Int) 1)
  most : MostS (spsI l) n a
  nn : 0 ≤ n ∧ n ≤ 1000000000
theorem chart_ok {l : List Ins} (hI : insL l = true) : Chart l (rowsL (spsI l)).1 (mostL (activeL l)).1 (mostL (activeL l)).2 := by
  obtain ⟨hl2, hm⟩ := insL_mem hI
  have hM := most_spsI (mostL_ok (activeL l))
  generalize (mostL (activeL l)).1 = n at *
  generalize (mostL (activeL l)).2 = a at *
  obtain ⟨u, J, hR, hu⟩ := rows_know hM
  generalize (rowsL (spsI l)).1 = out at *
  have hlen : out.length = l.length := by rw [hR.len, spsI_len]
  have hn : 0 ≤ n ∧ n ≤ 2000 := by
    rcases hM with ⟨h1, h2, h3⟩ | ⟨h1, h2, h3, h4⟩
    · omega
    · have : actN (spsI l) a ≤ (spsI l).length := List.countP_le_length
      rw [spsI_len] at this
      omega
  have hall : ∀ (i : Nat), i < l.length → ∃ k : Nat, out[i]? = some (k : Int) ∧ ((k : Int) < n ∨ k = 0) := fun i hi => by
    by_cases hp : i ∈ propL (spsI l)
    · obtain ⟨k, t, e1, e2, _⟩ := hR.inr i hp
      have := (List.getElem?_eq_some_iff.1 e2).1
      exact ⟨k, e1, .inl (by omega)⟩
    · exact ⟨0, by rw [hR.other i hp (by rw [spsI_len]; exact hi)]; rfl, .inr rfl⟩
  have hmem : ∀ x ∈ out, 0 ≤ x ∧ (x < n ∨ x = 0) := fun x hx => by
    obtain ⟨i, hi, e⟩ := List.getElem_of_mem hx
    obtain ⟨k, e1, e2⟩ := hall i (by omega)
    rw [List.getElem?_eq_getElem hi, e] at e1
    simp at e1
    omega
  refine ⟨hlen, fun x hx => by have := hmem x hx; omega, fun i j hi hj hij he => ?_, ?_, hM, by omega⟩
  · have vi := insV_bd (hm _ (List.getElem_mem hi))
    have vj := insV_bd (hm _ (List.getElem_mem hj))
    by_cases pi : i ∈ propL (spsI l)
    · by_cases pj : j ∈ propL (spsI l)
      · have := hR.dis i pi j pj hij he
        rw [frI_at hi, frI_at hj, toI_at hi, toI_at hj] at this
        omega
      · have : ¬ l[j].from_ < l[j].to_ := fun q => pj (propL_mem.2 ⟨_, spsI_at hj, q⟩)
        omega
    · have : ¬ l[i].from_ < l[i].to_ := fun q => pi (propL_mem.2 ⟨_, spsI_at hi, q⟩)
      omega
  · obtain ⟨f1, f2, f3⟩ := stU_fold out 0
    have hub : out.foldl stU 0 ≤ max n (min (l.length : Int) 1) := by
      rcases f3 with h | ⟨x, hx, h⟩
      · omega
      · have := hmem x hx
        have := List.length_pos_of_mem hx
        omega
    have hlb1 : 0 < l.length → 1 ≤ out.foldl stU 0 := fun h => by
      have h0 : 0 < out.length := by omega
      have := hmem _ (List.getElem_mem h0)
      have := f2 _ (List.getElem_mem h0)
      omega
    have hlb2 : 0 < n → n ≤ out.foldl stU 0 := fun h => by
      obtain ⟨g1, g2⟩ := hR.last
      have hk : n.toNat - 1 < J.length := by omega
      obtain ⟨_, g3, _⟩ := g2 (n.toNat - 1) _ (List.getElem?_eq_getElem hk)
      have hmem2 := List.mem_of_getElem? g3
      have := f2 _ hmem2
      omega
    by_cases h0 : 0 < l.length
    · have := hlb1 h0
      by_cases q : 0 < n
      · have := hlb2 q; omega
      · omega
    · by_cases q : 0 < n
      · have := hlb2 q; omega
      · omega
end Go.Proofs.YthiclaihlpkinaaGreat
namespace Go.Proofs.YthiclaihlpkinaaGreat
open Go.RowKit
variable [Glob]
/-- The instance of a customer. -/
def insCu (x : Cu) : Ins := ⟨⟨#[99]⟩, ⟨#[115, 101, 114, 118, 101]⟩, ByteArray.empty, x.a, x.st, x.en⟩
theorem act_cu (l : List Cu) (t : Int) : actN (spsI (l.map insCu)) t = l.countP (actC t) := by
  unfold actN spsI
  rw [List.map_map, List.countP_map]
  rfl
theorem most_cu {l : List Cu} {n a : Int} {c : Nat} (h : MostS (spsI (l.map insCu)) n a) (hc : ∀ t, l.countP (actC t) ≤ c) : n ≤ c := by
  rcases h with ⟨h1, _⟩ | ⟨_, h2, _⟩
  · omega
  · rw [act_cu] at h2
    have := hc a
    omega
theorem rows_cu {l : List Cu} {out : List Int} {n a : Int} {c : Nat} (h : Chart (l.map insCu) out n a) (h1 : 1 ≤ c) (hc : ∀ t, l.countP (actC t) ≤ c) : ∀ x ∈ out, x < c := by
  intro x hx
  have hn := most_cu h.most hc
  have hu := (stU_fold out 0).2.1 x hx
  rw [h.used] at hu
  omega
theorem insV_cu {x : Cu} (h0 : 0 ≤ x.a) (h1 : x.a ≤ x.st) (h2 : x.st ≤ x.en) (h3 : x.en ≤ 1099511627776) : insV (insCu x) = true := by
  have e1 : isNameS ⟨#[99]⟩ = true := by decide +kernel
  have e2 : isNameS ⟨#[115, 101, 114, 118, 101]⟩ = true := by decide +kernel
  have e3 : emptyS ByteArray.empty = true := by decide +kernel
  simp [insV, insCu, e1, e2, e3, h0, h1, h2, h3]
theorem insL_cu {l : List Cu} (hl : l.length ≤ 2000) (h : ∀ x ∈ l, 0 ≤ x.a ∧ x.a ≤ x.st ∧ x.st ≤ x.en ∧ x.en ≤ 1099511627776) : insL (l.map insCu) = true := by
  unfold insL
  simp only [List.length_map, Bool.and_eq_true, decide_eq_true_eq, Bool.not_eq_true', List.any_eq_false, List.mem_map]
  refine ⟨by omega, ?_⟩
  rintro _ ⟨x, hx, rfl⟩
  obtain ⟨a1, a2, a3, a4⟩ := h x hx
  simp [insV_cu a1 a2 a3 a4]
end Go.Proofs.YthiclaihlpkinaaGreat
