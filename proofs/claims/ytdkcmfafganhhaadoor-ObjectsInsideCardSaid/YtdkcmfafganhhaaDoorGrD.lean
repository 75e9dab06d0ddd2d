/- Groups of connected places: what becomes of them when one place is taken out (plain words; no program). -/
import Derived.Test.YtdkcmfafganhhaaDoorGrG
namespace Go.Proofs.YtdkcmfafganhhaaDoor
set_option linter.unusedSimpArgs false
set_option linter.unusedVariables false
set_option linter.unnecessarySimpa false
set_option linter.unusedSectionVars false
open Go.RowKit
variable [Glob]
set_option maxRecDepth 100000
theorem asc_ext : ∀ {a b : List Int}, a.Pairwise (· < ·) → b.Pairwise (· < ·) → (∀ x, x ∈ a ↔ x ∈ b) → a = b := by
  intro a
  induction a with
  | nil =>
    intro b _ _ h
    cases b with
    | nil => rfl
    | cons y b => have := (h y).2 (by simp); cases this
  | cons x a ih =>
    intro b ha hb h
    cases b with
    | nil => have := (h x).1 (by simp); cases this
    | cons y b =>
      rw [List.pairwise_cons] at ha hb
      have hxy : x = y := by
        have h1 := (h x).1 (by simp)
        have h2 := (h y).2 (by simp)
        rcases List.mem_cons.1 h1 with e | e
        · exact e
        · rcases List.mem_cons.1 h2 with e2 | e2
          · exact e2.symm
          · have := hb.1 x e; have := ha.1 y e2; omega
      subst hxy
      rw [ih ha.2 hb.2 fun z => ⟨fun hz => ?_, fun hz => ?_⟩]
      · have := (h z).1 (by simp [hz])
        rcases List.mem_cons.1 this with e | e
        · subst e; have := ha.1 z hz; omega
        · exact e
      · have := (h z).2 (by simp [hz])
        rcases List.mem_cons.1 this with e | e
        · subst e; have := hb.1 z hz; omega
        · exact e
def unN (k i : Nat) : Nat := if i < k then i else i + 1
def shN (k i : Nat) : Nat := if k < i then i - 1 else i
def shI (k : Nat) (x : Int) : Int := if (k : Int) < x then x - 1 else x
theorem un_sh {k i : Nat} (h : i ≠ k) : unN k (shN k i) = i := by
  unfold unN shN
  split <;> split <;> omega
theorem sh_un {k i : Nat} : shN k (unN k i) = i := by
  unfold unN shN
  split <;> split <;> omega
theorem un_ne {k i : Nat} : unN k i ≠ k := by
  unfold unN
  split <;> omega
theorem un_lt {k i n : Nat} (hk : k < n) (h : i < n - 1) : unN k i < n := by
  unfold unN
  split <;> omega
theorem sh_lt {k i n : Nat} (hk : k < n) (h : i < n) (hne : i ≠ k) : shN k i < n - 1 := by
  unfold shN
  split <;> omega
theorem shI_N {k i : Nat} : shI k (i : Int) = (shN k i : Nat) := by
  unfold shI shN
  by_cases h : k < i
  · rw [if_pos h, if_pos (by omega)]; omega
  · rw [if_neg h, if_neg (by omega)]
section
variable {R R' : Nat → Nat → Prop} {k n : Nat}
theorem conn_up (h : ∀ i j, R' i j → R (unN k i) (unN k j)) {i j : Nat} (hc : Conn R' i j) : Conn R (unN k i) (unN k j) := by
  induction hc with
  | refl => exact .refl _
  | step h1 _ ih => exact .step (h _ _ h1) ih
theorem conn_down (h : ∀ i j, i ≠ k → j ≠ k → R i j → R' (shN k i) (shN k j)) {i j : Nat} (hc : Conn R i j) : (∀ z, Conn R i z → z ≠ k) → Conn R' (shN k i) (shN k j) := by
  induction hc with
  | refl => intro _; exact .refl _
  | step h1 _ ih =>
    intro hz
    exact .step (h _ _ (hz _ (.refl _)) (hz _ (.one h1)) h1) (ih fun z hc => hz z (.step h1 hc))
theorem parts_conn {p : List Nat} (hs : ∀ i j, R i j → R j i) (hp : isParts R n p) {i j : Nat} (hi : i < n) (hj : j < n) : par p i = par p j ↔ Conn R i j := by
  constructor
  · intro e
    have h1 := (hp.2 i hi).2.1
    have h2 := (hp.2 j hj).2.1
    rw [← e] at h2
    exact h1.trans (h2.symm hs)
  · intro hc
    exact (hp.2 i hi).2.2 j hj hc
def nI (p : List Nat) : List Int := p.map fun x : Nat => (x : Int)
theorem nI_get {p : List Nat} {i : Nat} {v : Int} : (nI p)[i]? = some v ↔ i < p.length ∧ v = (par p i : Int) := by
  unfold nI par
  rw [List.getElem?_map]
  by_cases h : i < p.length
  · rw [List.getElem?_eq_getElem h]
    simp only [Option.map_some, Option.some.injEq, Option.getD_some]
    constructor
    · intro e; exact ⟨h, e.symm⟩
    · rintro ⟨_, e⟩; exact e.symm
  · rw [List.getElem?_eq_none (by omega)]
    simp [h]
/-- The groups that do not hold the place are the same, moved. -/
theorem del_groups {p p' : List Nat} (hk : k < n) (hs : ∀ i j, R i j → R j i) (hs' : ∀ i j, R' i j → R' j i) (h1 : ∀ i j, R' i j → R (unN k i) (unN k j)) (h2 : ∀ i j, i ≠ k → j ≠ k → R i j → R' (shN k i) (shN k j))
    (hp : isParts R n p) (hp' : isParts R' (n - 1) p') {a : List Int} (ha : a ∈ compR 0 (nI p) ([], [])) (hka : (k : Int) ∉ a) : a.map (shI k) ∈ compR 0 (nI p') ([], []) := by
  have hl : (nI p).length = n := by simp [nI, hp.1]
  have hl' : (nI p').length = n - 1 := by simp [nI, hp'.1]
  obtain ⟨t, v, ht, hv, rfl⟩ := (grp (nI p)).form a ha
  rw [hl] at ht hka ⊢
  obtain ⟨_, hvp⟩ := nI_get.1 hv
  have htk : t ≠ k := fun e => hka (idxP_mem.2 ⟨t, ht, hv, by rw [e]⟩)
  have hav : ∀ z, Conn R t z → z < n → z ≠ k := fun z hc hz e => by
    subst e
    have := (parts_conn hs hp ht hz).2 hc
    exact hka (idxP_mem.2 ⟨z, hz, nI_get.2 ⟨by rw [hp.1]; exact hz, by rw [hvp, this]⟩, rfl⟩)
  have hav2 : ∀ z, Conn R t z → z ≠ k := fun z hc e => hav z hc (by omega) e
  have hst := sh_lt hk ht htk
  have hv' : (nI p')[shN k t]? = some (par p' (shN k t) : Int) := nI_get.2 ⟨by rw [hp'.1]; exact hst, rfl⟩
  have hmem := (grp (nI p')).idx _ _ hv'
  rw [hl'] at hmem
  have e : (idxP (nI p) n v).map (shI k) = idxP (nI p') (n - 1) (par p' (shN k t) : Int) := by
    refine asc_ext ?_ idxP_asc fun x => ?_
    · rw [List.pairwise_map]
      refine List.Pairwise.imp_of_mem ?_ idxP_asc
      intro x y hx hy hxy
      have hx1 : x ≠ k := fun q => hka (q ▸ hx)
      have hy1 : y ≠ k := fun q => hka (q ▸ hy)
      unfold shI
      split <;> split <;> omega
    · constructor
      · intro hx
        obtain ⟨y, hy, rfl⟩ := List.mem_map.1 hx
        obtain ⟨u, hu, hq, rfl⟩ := idxP_mem.1 hy
        obtain ⟨_, hup⟩ := nI_get.1 hq
        have huk : u ≠ k := fun q => hka (by rw [← q]; exact idxP_mem.2 ⟨u, hu, hq, rfl⟩)
        have hpe : par p u = par p t := by omega
        have hc := (parts_conn hs hp hu ht).1 hpe
        have hcd := conn_down h2 (hc.symm hs) hav2
        have hsu := sh_lt hk hu huk
        have := (parts_conn hs' hp' hst hsu).2 hcd
        exact idxP_mem.2 ⟨shN k u, hsu, nI_get.2 ⟨by rw [hp'.1]; exact hsu, by rw [this]⟩, shI_N⟩
      · intro hx
        obtain ⟨s, hs1, hq, rfl⟩ := idxP_mem.1 hx
        obtain ⟨_, hsp⟩ := nI_get.1 hq
        have hpe : par p' s = par p' (shN k t) := by omega
        have hc := conn_up h1 ((parts_conn hs' hp' hs1 hst).1 hpe)
        rw [un_sh htk] at hc
        have hul := un_lt hk hs1
        have := (parts_conn hs hp hul ht).2 hc
        exact List.mem_map.2 ⟨(unN k s : Int), idxP_mem.2 ⟨unN k s, hul, nI_get.2 ⟨by rw [hp.1]; exact hul, by rw [hvp, this]⟩, rfl⟩, by rw [shI_N, sh_un]⟩
  rw [e]
  exact hmem
end
end Go.Proofs.YtdkcmfafganhhaaDoor
