/- At the head of a loop the call's own blocks may be laid in another order, and some of them forgotten. -/
import Derived.Test.YtkionfcafifhdaaM3
namespace Go.Proofs.Ytkionfcafifhdaa
set_option linter.unusedSimpArgs false
set_option linter.unusedVariables false
set_option linter.unnecessarySimpa false
set_option linter.unusedSectionVars false
open Go.RowKit
variable [Glob]
section
variable {P : Program}
theorem Weak.trans {L : Nat} {s1 s2 s3 : St} (h1 : Weak P L s1 s2) (h2 : Weak P L s2 s3) : Weak P L s1 s3 := fun B w0 X N φ a w hB hr => by
  obtain ⟨φ', h⟩ := h1 B w0 X N φ a w hB hr
  exact h2 B w0 X N φ' a w hB h
/-- Block j of the new state is block l[j] of the old one. -/
theorem weak_ren {L : Nat} {s s' : St} (l : List Nat) (hl : l.length = s'.H.length) (hn : l.Nodup) (hlt : ∀ i ∈ l, i < s.H.length) (hL : ∀ i, i < L → i < s.H.length → l[i]? = some i)
    (hH : ∀ (i j : Nat) b, l[i]? = some j → s'.H[i]? = some b → s.H[j]? = some (mB (rn l s.H.length) b))
    (hT : ∀ k, tget s'.T k = .any ∨ tget s.T k = mA (rn l s.H.length) (tget s'.T k)) : Weak P L s s' := by
  intro B w0 X N φ a w hB hrel
  obtain ⟨T, H⟩ := s
  obtain ⟨T', H'⟩ := s'
  simp only at hl hlt hL hH hT
  have hρ : ∀ id, id < H'.length → ∃ i, l[id]? = some i ∧ rn l H.length id = i ∧ i < H.length := fun id hid => by
    have : id < l.length := by omega
    exact ⟨l[id], List.getElem?_eq_getElem this, by simp [rn, List.getElem?_eq_getElem this], hlt _ (List.getElem_mem this)⟩
  have hρ2 : ∀ id, H'.length ≤ id → rn l H.length id = H.length + (id - H'.length) := fun id hid => by
    unfold rn
    rw [List.getElem?_eq_none (by omega), hl]
  have hinj : ∀ i j, i < H'.length → j < H'.length → rn l H.length i = rn l H.length j → i = j := fun i j hi hj e => by
    obtain ⟨a, h1, h2, h3⟩ := hρ i hi
    obtain ⟨b, h4, h5, h6⟩ := hρ j hj
    rw [h2, h5] at e
    subst e
    exact (List.getElem?_inj (by omega) hn).1 (h1.trans h4.symm)
  have hHH : ∀ id b, H'[id]? = some b → H[rn l H.length id]? = some (mB (rn l H.length) b) := fun id b hb => by
    have hid := (List.getElem?_eq_some_iff.1 hb).1
    obtain ⟨i, h1, h2, _⟩ := hρ id hid
    rw [h2]; exact hH id i b h1 hb
  let φ0 : Nat → Option Nat := fun i => if i < H'.length then φ (rn l H.length i) else none
  have hφ0 : ∀ id, id < H'.length → φ (rn l H.length id) = φ0 id := fun id hid => by simp [φ0, hid]
  have hφ0' : ∀ id c, φ0 id = some c → id < H'.length ∧ φ (rn l H.length id) = some c := fun id c hc => by
    simp only [φ0] at hc
    split at hc
    · exact ⟨by assumption, hc⟩
    · simp at hc
  have hZ1 : ∀ b, (X b ∨ ∃ id, φ0 id = some b) → X b ∨ ∃ id, φ id = some b := fun b hb => by
    rcases hb with hb | ⟨id, hb⟩
    · exact .inl hb
    · exact .inr ⟨_, (hφ0' id b hb).2⟩
  have hun : ∀ x v, RV P w X φ H (mA (rn l H.length) x) v → RV P w X φ0 H' x v := fun x v h => RV.unren hHH hφ0 (fun id hid => by rw [hρ2 id hid]; omega) hZ1 h rfl
  have hr := hrel.hr
  have hBL : B.H.length ≤ H.length := hrel.tn.len
  have hfix : ∀ i, i < B.H.length → rn l H.length i = i ∧ i < H'.length := fun i hi => by
    have h1 := hL i (by omega) (by omega)
    have h2 := (List.getElem?_eq_some_iff.1 h1).1
    exact ⟨by unfold rn; rw [h1], by omega⟩
  have hfφ : ∀ i, i < B.H.length → φ0 i = φ i := fun i hi => by rw [← hφ0 i (hfix i hi).2, (hfix i hi).1]
  refine ⟨φ0, ⟨hr.vo, hr.fr, fun b hb => ⟨(hr.ext b hb).1, fun i hi => (hr.ext b hb).2 _ (hφ0' i b hi).2⟩, fun i c hc => ?_, fun i j c hi hj => ?_, fun i b' c hi hc => ?_⟩,
    ⟨hrel.tn.size, ?_, fun b hb hl => ?_, fun i t cs' hi hb' => ?_, fun i e nb rows' hi hb' => ?_, fun i es' hi hb' => ?_, fun i d n s' hi hb' => ?_⟩, fun k => ?_, hrel.size, hrel.df⟩
  · obtain ⟨k1, k2⟩ := hφ0' i c hc
    exact ⟨(hr.own _ c k2).1, (hr.own _ c k2).2.1, k1⟩
  · exact hinj i j (hφ0' i c hi).1 (hφ0' j c hj).1 (hr.inj _ _ c (hφ0' i c hi).2 (hφ0' j c hj).2)
  · refine BlkOk.unren (fun mid hm => ?_) hun (hr.blk _ _ c (hHH i b' hi) (hφ0' i c hc).2)
    have hm0 : mid < H'.length := by
      by_cases hh : mid < H'.length
      · exact hh
      · rw [hρ2 mid (by omega)] at hm; omega
    exact ⟨hm0, hφ0 mid hm0, fun es0 h0 => ⟨_, hHH mid _ h0⟩⟩
  · simp only
    by_cases h : B.H.length = 0
    · omega
    · have := (hfix (B.H.length - 1) (by omega)).2; omega
  · obtain ⟨h1, h2⟩ := hrel.tn.old b hb hl
    exact ⟨h1, fun i hi => h2 _ (hφ0' i b hi).2⟩
  · have h3 := hHH i _ hb'
    rw [(hfix i hi).1] at h3
    obtain ⟨cs0, k1, k2⟩ := hrel.tn.box i _ _ hi h3
    exact ⟨cs0, k1, fun c hc => by rw [hfφ i hi]; exact k2 c hc⟩
  · have h3 := hHH i _ hb'
    rw [(hfix i hi).1] at h3
    obtain ⟨r0, k1, k2, k3⟩ := hrel.tn.row i _ _ _ hi h3
    exact ⟨r0, k1, by simpa using k2, fun hl => by rw [hfφ i hi]; exact k3 (by simpa using hl)⟩
  · have h3 := hHH i _ hb'
    rw [(hfix i hi).1] at h3
    obtain ⟨e0, k1, k2⟩ := hrel.tn.map i _ hi h3
    exact ⟨e0, k1, fun c hc => by rw [hfφ i hi]; exact k2 c hc⟩
  · have h3 := hHH i _ hb'
    rw [(hfix i hi).1] at h3
    obtain ⟨m0, n0, e0, k1, k2⟩ := hrel.tn.iter i _ _ _ hi h3
    exact ⟨m0, n0, e0, k1, fun c hc => by rw [hfφ i hi]; exact k2 c hc⟩
  · rcases hT k with h | h
    · rw [h]; exact .ro .any
    · have := hrel.t k
      simp only [h] at this
      exact hun _ _ this
/-- A state's slots, each the old one's with numbers turned. -/
def tEq (ρ : Nat → Nat) (T : List (Nat × AV)) : List (Nat × AV) → Prop
  | [] => True
  | (k, x) :: r => tget T k = mA ρ x ∧ tEq ρ T r
theorem tEq_get {ρ : Nat → Nat} {T : List (Nat × AV)} : ∀ {T' : List (Nat × AV)}, tEq ρ T T' → ∀ k, tget T' k = .any ∨ tget T k = mA ρ (tget T' k) := by
  intro T'
  induction T' with
  | nil => intro _ k; exact .inl rfl
  | cons p T' ih =>
    intro h k
    obtain ⟨j, x'⟩ := p
    obtain ⟨h1, h2⟩ := h
    simp only [tget]
    split
    · rename_i e; subst e; exact .inr h1
    · exact ih h2 k
/-- The block behind the first N of the new state stood t places further on: those between them are forgotten. -/
theorem weak_new {s s' : St} (N t : Nat) (G : List Blk) (b' : Blk) (h2 : s'.H = G ++ [b']) (hN : G.length = N) (hlt : N + t < s.H.length)
    (hc : ∀ ρ : Nat → Nat, (∀ i, i < N → ρ i = i) → ρ N = N + t → s.H.take N = G.map (mB ρ) ∧ s.H[N + t]? = some (mB ρ b') ∧ tEq ρ s.T s'.T) : Weak P 0 s s' := by
  have hr1 : ∀ i, i < N → rn (List.range N ++ [N + t]) s.H.length i = i := fun i hi => by
    unfold rn
    rw [List.getElem?_append_left (by simpa using hi), List.getElem?_range hi]
  have hr2 : rn (List.range N ++ [N + t]) s.H.length N = N + t := by
    unfold rn
    rw [List.getElem?_append_right (by simp)]
    simp
  obtain ⟨c1, c2, c3⟩ := hc _ hr1 hr2
  refine weak_ren (List.range N ++ [N + t]) (by simp [h2, hN]) ?_ (fun i hi => ?_) (fun i hi => absurd hi (Nat.not_lt_zero i)) (fun i j b hi hb => ?_) (tEq_get c3)
  · rw [List.nodup_append]
    exact ⟨List.nodup_range, by simp, fun a ha b hb => by simp at ha hb; omega⟩
  · simp only [List.mem_append, List.mem_range, List.mem_singleton] at hi
    omega
  · rw [h2] at hb
    by_cases h : i < N
    · rw [List.getElem?_append_left (by simpa using h), List.getElem?_range h] at hi
      rw [List.getElem?_append_left (by omega)] at hb
      simp only [Option.some.injEq] at hi
      subst hi
      have h3 := congrArg (fun z : List Blk => z[i]?) c1
      simp only [List.getElem?_map, hb, Option.map_some] at h3
      rw [List.getElem?_take_of_lt h] at h3
      exact h3
    · by_cases h' : i = N
      · subst h'
        rw [List.getElem?_append_right (by simp)] at hi
        rw [List.getElem?_append_right (by omega), hN] at hb
        simp at hi hb
        subst hi; subst hb
        exact c2
      · rw [List.getElem?_eq_none (by simp; omega)] at hb
        cases hb
theorem CallG.weaken {g : FuncId} {args : List AV} {H : List Blk} {K K' : AV → List Blk → Prop} (h : CallG P g args H K) (hk : ∀ r H', K r H' → K' r H') : CallG P g args H K' :=
  ⟨h.1, fun w0 w X φ vs hr hl hv => (h.2 w0 w X φ vs hr hl hv).mono fun e w' ⟨v, r, φ', H', h1, h2, h3, h4, h5⟩ => ⟨v, r, φ', H', h1, h2, h3, h4, hk r H' h5⟩⟩
/-- A call that turns one block of plain data. -/
theorem foot1 {g : FuncId} {args0 args : List AV} {b0 : Blk} {K0 : AV → List Blk → Prop} (h : CallG P g args0 [b0] K0) {H : List Blk} (id : Nat) (hb : H[id]? = some b0) (hm : ∀ ρ, mB ρ b0 = b0) (ha : ∀ ρ : Nat → Nat, ρ 0 = id → args = mL ρ args0) {K : AV → List Blk → Prop}
    (hK : ∀ r H', K0 r H' → ∃ b1, H' = [b1] ∧ (∀ ρ, mB ρ b1 = b1) ∧ (∀ ρ, mA ρ r = r) ∧ K r (H.set id b1)) : CallG P g args H K := by
  have hid : id < H.length := (List.getElem?_eq_some_iff.1 hb).1
  have h0 : rn [id] H.length 0 = id := rfl
  refine foot_G h [id] rfl (by simp) (by simpa using hid) (fun j i b hj hbb => ?_) (ha _ h0) fun r H' _ hk => ?_
  · cases j with
    | zero => simp at hj hbb; subst hj; subst hbb; rw [hb, hm]
    | succ j => simp at hj
  · obtain ⟨b1, rfl, h1, h2, h3⟩ := hK r H' hk
    rw [h2]
    simpa [-mB, putB, h1] using h3
end
theorem endG_n {P : Program} {L : Nat} {fn : Func} {K : AV → List Blk → Prop} {s : St} (x : AV) (h1 : resA P fn s = some x) (h2 : K x s.H) : endG P L fn K .normal s := ⟨x, x, s.H, h1, Weak.refl _, h2⟩
theorem endG_r {P : Program} {L : Nat} {fn : Func} {K : AV → List Blk → Prop} {s : St} (x : AV) (h1 : resA P fn s = some x) (h2 : K x s.H) : endG P L fn K .ret s := ⟨x, x, s.H, h1, Weak.refl _, h2⟩
end Go.Proofs.Ytkionfcafifhdaa
