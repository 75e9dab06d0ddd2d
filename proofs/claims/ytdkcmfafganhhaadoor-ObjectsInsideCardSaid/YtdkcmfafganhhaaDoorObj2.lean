/- Logs of objects: which are valid (the program's answer and the reference's). -/
import Derived.Test.YtdkcmfafganhhaaDoorObj1
namespace Go.Proofs.YtdkcmfafganhhaaDoor
set_option linter.unusedSimpArgs false
set_option linter.unusedVariables false
set_option linter.unnecessarySimpa false
set_option linter.unusedSectionVars false
open Go.RowKit
variable [Glob]
set_option maxRecDepth 100000
structure Obj where
  act : ByteArray
  time : Int
  refs : List Rf
def objC (o : Obj) : List AV := [.str o.act, .int .i64 o.time, .rs (rowsOf refC o.refs)]
def refOk (l : List Rf) (i : Nat) (r : Rf) : Bool := isNameS r.a && isNameS r.b && !(match l[i - 1]? with | some q => decide (0 < i) && !lessR q r | none => false)
def refsB (l : List Rf) : Bool := (List.range l.length).all fun i => match l[i]? with | some r => refOk l i r | none => true
def refsOk (l : List Rf) (k : Nat) : Prop := ∀ i (h : i < l.length), i < k → refOk l i l[i] = true
theorem refsOk_succ {l : List Rf} {i : Nat} (h : refsOk l i) (hi : i < l.length) (hf : refOk l i l[i] = true) : refsOk l (i + 1) := fun j hj hlt => by
  by_cases e : j = i
  · subst e; exact hf
  · exact h j hj (by omega)
theorem refsB_all {l : List Rf} {i : Nat} (h : refsOk l i) (hi : ¬ i < l.length) : refsB l = true := by
  simp only [refsB, List.all_eq_true, List.mem_range]
  intro j hj
  rw [List.getElem?_eq_getElem hj]
  exact h j hj (by omega)
theorem refsB_not {l : List Rf} {i : Nat} (hi : i < l.length) (hf : refOk l i l[i] = false) : refsB l = false := by
  cases h : refsB l
  · rfl
  · simp only [refsB, List.all_eq_true, List.mem_range] at h
    have := h i hi
    rw [List.getElem?_eq_getElem hi] at this
    simp only [hf] at this
    cases this
def lastT (l : List Obj) : Nat → Int
  | 0 => 0
  | i + 1 => match l[i]? with | some o => o.time | none => 0
def objOk (l : List Obj) (i : Nat) (o : Obj) : Bool := isNameS o.act && decide (lastT l i ≤ o.time) && decide (o.time ≤ 1099511627776) && decide ((o.refs.length : Int) ≤ 20) && refsB o.refs
def objsB (l : List Obj) : Bool := (List.range l.length).all fun i => match l[i]? with | some o => objOk l i o | none => true
def objV (l : List Obj) : Bool := decide ((l.length : Int) ≤ 2000) && objsB l
def objsOk (l : List Obj) (k : Nat) : Prop := ∀ i (h : i < l.length), i < k → objOk l i l[i] = true
theorem objsOk_succ {l : List Obj} {i : Nat} (h : objsOk l i) (hi : i < l.length) (hf : objOk l i l[i] = true) : objsOk l (i + 1) := fun j hj hlt => by
  by_cases e : j = i
  · subst e; exact hf
  · exact h j hj (by omega)
theorem objsB_all {l : List Obj} {i : Nat} (h : objsOk l i) (hi : ¬ i < l.length) : objsB l = true := by
  simp only [objsB, List.all_eq_true, List.mem_range]
  intro j hj
  rw [List.getElem?_eq_getElem hj]
  exact h j hj (by omega)
theorem objV_not {l : List Obj} {i : Nat} (hi : i < l.length) (hf : objOk l i l[i] = false) : objV l = false := by
  cases h : objV l
  · rfl
  · simp only [objV, objsB, Bool.and_eq_true, List.all_eq_true, List.mem_range] at h
    have := h.2 i hi
    rw [List.getElem?_eq_getElem hi] at this
    simp only [hf] at this
    cases this
set_option maxHeartbeats 8000000 in
theorem ovalid_pure (l : List Obj) : Pure Tryd.prog 26 [.agg [.rs (rowsOf objC l)]] (.bool (objV l)) := by
  refine pure_of mixed Tryd.func26 rfl (by kernel_rfl) (of_decide_eq_true rfl) (by kernel_rfl) (vc_run ?_)
  by_cases hb : (2000 : Int) < l.length
  · have hb' : ¬ (l.length : Int) ≤ 2000 := by omega
    simp -implicitDefEqProofs [hb, hb', objV]
  have hb' : (l.length : Int) ≤ 2000 := by omega
  simp -implicitDefEqProofs [hb]
  refine loop_intro (σ := Nat) (fun i => ⟨[(3, .int .i64 (lastT l i)), (13, .rs (rowsOf objC l)), (14, .int .i64 l.length), (15, .int .i64 i)], []⟩) (fun i => i ≤ l.length ∧ objsOk l i) (fun i => l.length - i) 0 ⟨by omega, fun j _ h => by omega⟩ ?_ ?_
  · refine weak_of 0 0 rfl rfl ?_ ?_ <;> simp [lastT]
  · rintro i ⟨hi, hok⟩
    by_cases h : i < l.length
    · have hgo : l[i]? = some l[i] := List.getElem?_eq_getElem h
      obtain ⟨⟨act, time, refs⟩, hf⟩ : ∃ e, l[i] = e := ⟨_, rfl⟩
      simp -implicitDefEqProofs [h, objC, hf]
      refine call_intro (isName_pure act) (by simp -implicitDefEqProofs) (.inl rfl) ?_
      by_cases n1 : isNameS act = true
      rotate_left
      · have n1 : isNameS act = false := by simpa using n1
        have hbad : objOk l i l[i] = false := by rw [hf]; simp [objOk, n1]
        simp -implicitDefEqProofs [n1, objV_not h hbad]
      by_cases n2 : time < lastT l i
      · have n2' : ¬ lastT l i ≤ time := by omega
        have hbad : objOk l i l[i] = false := by rw [hf]; simp [objOk, n2']
        simp -implicitDefEqProofs [n1, n2, objV_not h hbad]
      by_cases n3 : 1099511627776 < time
      · have n3' : ¬ time ≤ 1099511627776 := by omega
        have hbad : objOk l i l[i] = false := by rw [hf]; simp [objOk, n3']
        simp -implicitDefEqProofs [n1, n2, n3, objV_not h hbad]
      by_cases n4 : (20 : Int) < refs.length
      · have n4' : ¬ (refs.length : Int) ≤ 20 := by omega
        have hbad : objOk l i l[i] = false := by rw [hf]; simp [objOk, n4']
        simp -implicitDefEqProofs [n1, n2, n3, n4, objV_not h hbad]
      simp -implicitDefEqProofs [n1, n2, n3, n4]
      refine loop_intro (σ := Nat) (fun j => ⟨[(3, .int .i64 time), (5, .op 0 0), (13, .rs (rowsOf objC l)), (14, .int .i64 l.length), (15, .int .i64 i), (43, .rs (rowsOf refC refs)), (44, .int .i64 refs.length), (45, .int .i64 j)], [.box 48 [.str act, .int .i64 time, .rs (rowsOf refC refs)]]⟩) (fun j => j ≤ refs.length ∧ refsOk refs j) (fun j => refs.length - j) 0 ⟨by omega, fun j _ h => by omega⟩ ?_ ?_
      · refine weak_of 1 0 rfl rfl ?_ ?_ <;> simp
      · rintro j ⟨hj, hrk⟩
        by_cases g : j < refs.length
        · have hgj : refs[j]? = some refs[j] := List.getElem?_eq_getElem g
          obtain ⟨⟨ra, rb⟩, hr⟩ : ∃ e, refs[j] = e := ⟨_, rfl⟩
          simp -implicitDefEqProofs [g, refC, hr]
          have bad : refOk refs j refs[j] = false → objV l = false := fun q => by
            have q2 := refsB_not g q
            exact objV_not h (by rw [hf]; simp [objOk, q2])
          refine call_intro (isName_pure ra) (by simp -implicitDefEqProofs) (.inl rfl) ?_
          by_cases m1 : isNameS ra = true
          rotate_left
          · have m1 : isNameS ra = false := by simpa using m1
            have hbad := bad (by rw [hr]; simp [refOk, m1])
            simp -implicitDefEqProofs [m1, hbad]
          simp -implicitDefEqProofs [m1]
          refine call_intro (isName_pure rb) (by simp -implicitDefEqProofs) (.inl rfl) ?_
          by_cases m2 : isNameS rb = true
          rotate_left
          · have m2 : isNameS rb = false := by simpa using m2
            have hbad := bad (by rw [hr]; simp [refOk, m2])
            simp -implicitDefEqProofs [m2, hbad]
          have w1 : wrapI .i64 ((j : Int) + 1) = ((j + 1 : Nat) : Int) := by rw [wrap_in (by omega) (by omega)]; omega
          by_cases hj0 : 0 < j
          · have hp : j - 1 < refs.length := by omega
            have w2 : wrapI .i64 ((j : Int) - 1) = ((j - 1 : Nat) : Int) := by rw [wrap_in (by omega) (by omega)]; omega
            obtain ⟨⟨qa, qb⟩, hq⟩ : ∃ e, refs[j - 1] = e := ⟨_, rfl⟩
            have hgq : refs[j - 1]? = some ⟨qa, qb⟩ := by rw [List.getElem?_eq_getElem hp, hq]
            simp -implicitDefEqProofs [m2, hj0, w2, hp, hgq, hq, refC]
            refine call_intro (ocompare_pure ⟨qa, qb⟩ ⟨ra, rb⟩) (by simp -implicitDefEqProofs [refC]) (.inl rfl) ?_
            have hcl := cmpR_less ⟨qa, qb⟩ ⟨ra, rb⟩
            by_cases m3 : 0 ≤ cmpR ⟨qa, qb⟩ ⟨ra, rb⟩
            · have hl : lessR ⟨qa, qb⟩ ⟨ra, rb⟩ = false := by
                cases q : lessR ⟨qa, qb⟩ ⟨ra, rb⟩
                · rfl
                · have := hcl.2 q; omega
              have hbad := bad (by rw [hr]; simp [refOk, m1, m2, hgq, hj0, hl])
              simp -implicitDefEqProofs [m3, hbad]
            · have hl : lessR ⟨qa, qb⟩ ⟨ra, rb⟩ = true := hcl.1 (by omega)
              have hgood : refOk refs j refs[j] = true := by rw [hr]; simp [refOk, m1, m2, hgq, hl]
              simp -implicitDefEqProofs [m3, w1]
              refine ⟨j + 1, ⟨by omega, refsOk_succ hrk g hgood⟩, by omega, ?_⟩
              refine weak_of 1 0 rfl rfl ?_ ?_ <;> simp
          · have hj00 : j = 0 := by omega
            have hgood : refOk refs j refs[j] = true := by rw [hr]; simp [refOk, m1, m2, hj00]; split <;> rfl
            simp -implicitDefEqProofs [m2, hj0, w1]
            refine ⟨j + 1, ⟨by omega, refsOk_succ hrk g hgood⟩, by omega, ?_⟩
            refine weak_of 1 0 rfl rfl ?_ ?_ <;> simp
        · have hall := refsB_all hrk g
          have hgood : objOk l i l[i] = true := by
            rw [hf]
            simp [objOk, n1, hall]
            omega
          have w1 : wrapI .i64 ((i : Int) + 1) = ((i + 1 : Nat) : Int) := by rw [wrap_in (by omega) (by omega)]; omega
          have hl1 : lastT l (i + 1) = time := by simp [lastT, hgo, hf]
          simp -implicitDefEqProofs [g, w1]
          refine ⟨i + 1, ⟨by omega, objsOk_succ hok h hgood⟩, by omega, ?_⟩
          refine weak_of 0 0 rfl rfl ?_ ?_ <;> simp [hl1]
    · have hall := objsB_all hok h
      simp -implicitDefEqProofs [h]
      simp [objV, hb', hall]
theorem lastT_pos {l : List Obj} {i : Nat} {o : Obj} (h : 0 < i) (q : l[i - 1]? = some o) : lastT l i = o.time := by
  obtain ⟨k, rfl⟩ : ∃ k, i = k + 1 := ⟨i - 1, by omega⟩
  simp at q
  simp [lastT, q]
theorem lastT_nn {l : List Obj} : ∀ i, i ≤ l.length → objsOk l i → 0 ≤ lastT l i := by
  intro i
  induction i with
  | zero => intro _ _; simp [lastT]
  | succ i ih =>
    intro hi hok
    have h1 := hok i (by omega) (by omega)
    have h2 := ih (by omega) fun j hj hlt => hok j hj (by omega)
    simp only [objOk, Bool.and_eq_true, decide_eq_true_eq] at h1
    simp only [lastT, List.getElem?_eq_getElem (show i < l.length by omega)]
    omega
set_option maxHeartbeats 8000000 in
theorem rovalid_pure (l : List Obj) : Pure Tryd.prog 9 [.agg [.rs (rowsOf objC l)]] (.bool (objV l)) := by
  refine pure_of mixed Tryd.func9 rfl (by kernel_rfl) (of_decide_eq_true rfl) (by kernel_rfl) (vc_run ?_)
  by_cases hb : (2000 : Int) < l.length
  · have hb' : ¬ (l.length : Int) ≤ 2000 := by omega
    simp -implicitDefEqProofs [hb, hb', objV]
  have hb' : (l.length : Int) ≤ 2000 := by omega
  simp -implicitDefEqProofs [hb]
  refine loop_intro (σ := Nat) (fun i => ⟨[(1, .op 0 0), (3, .int .i64 i)], [.box 24 [.rs (rowsOf objC l)]]⟩) (fun i => i ≤ l.length ∧ objsOk l i) (fun i => l.length - i) 0 ⟨by omega, fun j _ h => by omega⟩ ?_ ?_
  · refine weak_of 1 0 rfl rfl ?_ ?_ <;> simp
  · rintro i ⟨hi, hok⟩
    by_cases h : i < l.length
    · have hgo : l[i]? = some l[i] := List.getElem?_eq_getElem h
      have hnn := lastT_nn i hi hok
      obtain ⟨⟨act, time, refs⟩, hf⟩ : ∃ e, l[i] = e := ⟨_, rfl⟩
      simp -implicitDefEqProofs [h, objC, hf]
      refine call_intro (risName_pure act) (by simp -implicitDefEqProofs) (.inl rfl) ?_
      by_cases n1 : isNameS act = true
      rotate_left
      · have n1 : isNameS act = false := by simpa using n1
        have hbad : objOk l i l[i] = false := by rw [hf]; simp [objOk, n1]
        simp -implicitDefEqProofs [n1, objV_not h hbad]
      by_cases n2 : time < 0
      · have n2' : ¬ lastT l i ≤ time := by omega
        have hbad : objOk l i l[i] = false := by rw [hf]; simp [objOk, n2']
        simp -implicitDefEqProofs [n1, n2, objV_not h hbad]
      by_cases n3 : 1099511627776 < time
      · have n3' : ¬ time ≤ 1099511627776 := by omega
        have hbad : objOk l i l[i] = false := by rw [hf]; simp [objOk, n3']
        simp -implicitDefEqProofs [n1, n2, n3, objV_not h hbad]
      by_cases n4 : (20 : Int) < refs.length
      · have n4' : ¬ (refs.length : Int) ≤ 20 := by omega
        have hbad : objOk l i l[i] = false := by rw [hf]; simp [objOk, n4']
        by_cases hi0 : 0 < i
        · have hp : i - 1 < l.length := by omega
          have w2 : wrapI .i64 ((i : Int) - 1) = ((i - 1 : Nat) : Int) := by rw [wrap_in (by omega) (by omega)]; omega
          obtain ⟨⟨act2, time2, refs2⟩, hg⟩ : ∃ e, l[i - 1] = e := ⟨_, rfl⟩
          have hgq : l[i - 1]? = some ⟨act2, time2, refs2⟩ := by rw [List.getElem?_eq_getElem hp, hg]
          by_cases n5 : time < time2
          · simp -implicitDefEqProofs [n1, n2, n3, n4, hi0, w2, hp, hgq, hg, objC, n5, objV_not h hbad]
          · simp -implicitDefEqProofs [n1, n2, n3, n4, hi0, w2, hp, hgq, hg, objC, n5, objV_not h hbad]
        · simp -implicitDefEqProofs [n1, n2, n3, n4, hi0, objV_not h hbad]
      by_cases hi0 : 0 < i
      · have hp : i - 1 < l.length := by omega
        have w2 : wrapI .i64 ((i : Int) - 1) = ((i - 1 : Nat) : Int) := by rw [wrap_in (by omega) (by omega)]; omega
        obtain ⟨⟨act2, time2, refs2⟩, hg⟩ : ∃ e, l[i - 1] = e := ⟨_, rfl⟩
        have hgq : l[i - 1]? = some ⟨act2, time2, refs2⟩ := by rw [List.getElem?_eq_getElem hp, hg]
        have hlt : lastT l i = time2 := lastT_pos hi0 hgq
        by_cases n5 : time < time2
        · have n4' : ¬ lastT l i ≤ time := by omega
          have hbad : objOk l i l[i] = false := by rw [hf]; simp [objOk, n4']
          simp -implicitDefEqProofs [n1, n2, n3, hi0, w2, hp, hgq, hg, objC, n5, objV_not h hbad]
        simp -implicitDefEqProofs [n1, n2, n3, n4, hi0, w2, hp, hgq, hg, objC, n5]
        refine loop_intro (σ := Nat) (fun j => ⟨[(1, .op 0 0), (3, .int .i64 i), (4, .op 1 0), (5, .int .i64 j)], [.box 24 [.rs (rowsOf objC l)], .box 48 [.str act, .int .i64 time, .rs (rowsOf refC refs)]]⟩) (fun j => j ≤ refs.length ∧ refsOk refs j) (fun j => refs.length - j) 0 ⟨by omega, fun j _ h => by omega⟩ ?_ ?_
        · refine weak_of 2 0 rfl rfl ?_ ?_ <;> simp
        · rintro j ⟨hj, hrk⟩
          by_cases g : j < refs.length
          · have hgj : refs[j]? = some refs[j] := List.getElem?_eq_getElem g
            obtain ⟨⟨ra, rb⟩, hr⟩ : ∃ e, refs[j] = e := ⟨_, rfl⟩
            simp -implicitDefEqProofs [g, refC, hr]
            have bad : refOk refs j refs[j] = false → objV l = false := fun q => by
              have q2 := refsB_not g q
              exact objV_not h (by rw [hf]; simp [objOk, q2])
            refine call_intro (risName_pure ra) (by simp -implicitDefEqProofs) (.inl rfl) ?_
            by_cases m1 : isNameS ra = true
            rotate_left
            · have m1 : isNameS ra = false := by simpa using m1
              have hbad := bad (by rw [hr]; simp [refOk, m1])
              simp -implicitDefEqProofs [m1, hbad]
            simp -implicitDefEqProofs [m1]
            refine call_intro (risName_pure rb) (by simp -implicitDefEqProofs) (.inl rfl) ?_
            by_cases m2 : isNameS rb = true
            rotate_left
            · have m2 : isNameS rb = false := by simpa using m2
              have hbad := bad (by rw [hr]; simp [refOk, m2])
              simp -implicitDefEqProofs [m2, hbad]
            have w1 : wrapI .i64 ((j : Int) + 1) = ((j + 1 : Nat) : Int) := by rw [wrap_in (by omega) (by omega)]; omega
            by_cases hj0 : 0 < j
            · have hp : j - 1 < refs.length := by omega
              have w2 : wrapI .i64 ((j : Int) - 1) = ((j - 1 : Nat) : Int) := by rw [wrap_in (by omega) (by omega)]; omega
              obtain ⟨⟨qa, qb⟩, hq⟩ : ∃ e, refs[j - 1] = e := ⟨_, rfl⟩
              have hgq : refs[j - 1]? = some ⟨qa, qb⟩ := by rw [List.getElem?_eq_getElem hp, hq]
              simp -implicitDefEqProofs [m2, hj0, w2, hp, hgq, hq, refC]
              refine call_intro (rless_pure ⟨qa, qb⟩ ⟨ra, rb⟩) (by simp -implicitDefEqProofs [refC]) (.inl rfl) ?_
              by_cases m3 : lessR ⟨qa, qb⟩ ⟨ra, rb⟩ = true
              rotate_left
              · have m3 : lessR ⟨qa, qb⟩ ⟨ra, rb⟩ = false := by simpa using m3
                have hbad := bad (by rw [hr]; simp [refOk, m1, m2, hgq, hj0, m3])
                simp -implicitDefEqProofs [m3, hbad]
              · have hgood : refOk refs j refs[j] = true := by rw [hr]; simp [refOk, m1, m2, hgq, m3]
                simp -implicitDefEqProofs [m3, w1]
                refine ⟨j + 1, ⟨by omega, refsOk_succ hrk g hgood⟩, by omega, ?_⟩
                refine weak_of 2 0 rfl rfl ?_ ?_ <;> simp
            · have hj00 : j = 0 := by omega
              have hgood : refOk refs j refs[j] = true := by rw [hr]; simp [refOk, m1, m2, hj00]; split <;> rfl
              simp -implicitDefEqProofs [m2, hj0, w1]
              refine ⟨j + 1, ⟨by omega, refsOk_succ hrk g hgood⟩, by omega, ?_⟩
              refine weak_of 2 0 rfl rfl ?_ ?_ <;> simp
          · have hall := refsB_all hrk g
            have hgood : objOk l i l[i] = true := by
              rw [hf]
              simp [objOk, n1, hall]
              omega
            have w1 : wrapI .i64 ((i : Int) + 1) = ((i + 1 : Nat) : Int) := by rw [wrap_in (by omega) (by omega)]; omega
            simp -implicitDefEqProofs [g, w1]
            refine ⟨i + 1, ⟨by omega, objsOk_succ hok h hgood⟩, by omega, ?_⟩
            refine weak_of 1 0 rfl rfl ?_ ?_ <;> simp
      · have hlt : lastT l i = 0 := by
          have hi00 : i = 0 := by omega
          subst hi00; rfl
        simp -implicitDefEqProofs [n1, n2, n3, n4, hi0]
        refine loop_intro (σ := Nat) (fun j => ⟨[(1, .op 0 0), (3, .int .i64 i), (4, .op 1 0), (5, .int .i64 j)], [.box 24 [.rs (rowsOf objC l)], .box 48 [.str act, .int .i64 time, .rs (rowsOf refC refs)]]⟩) (fun j => j ≤ refs.length ∧ refsOk refs j) (fun j => refs.length - j) 0 ⟨by omega, fun j _ h => by omega⟩ ?_ ?_
        · refine weak_of 2 0 rfl rfl ?_ ?_ <;> simp
        · rintro j ⟨hj, hrk⟩
          by_cases g : j < refs.length
          · have hgj : refs[j]? = some refs[j] := List.getElem?_eq_getElem g
            obtain ⟨⟨ra, rb⟩, hr⟩ : ∃ e, refs[j] = e := ⟨_, rfl⟩
            simp -implicitDefEqProofs [g, refC, hr]
            have bad : refOk refs j refs[j] = false → objV l = false := fun q => by
              have q2 := refsB_not g q
              exact objV_not h (by rw [hf]; simp [objOk, q2])
            refine call_intro (risName_pure ra) (by simp -implicitDefEqProofs) (.inl rfl) ?_
            by_cases m1 : isNameS ra = true
            rotate_left
            · have m1 : isNameS ra = false := by simpa using m1
              have hbad := bad (by rw [hr]; simp [refOk, m1])
              simp -implicitDefEqProofs [m1, hbad]
            simp -implicitDefEqProofs [m1]
            refine call_intro (risName_pure rb) (by simp -implicitDefEqProofs) (.inl rfl) ?_
            by_cases m2 : isNameS rb = true
            rotate_left
            · have m2 : isNameS rb = false := by simpa using m2
              have hbad := bad (by rw [hr]; simp [refOk, m2])
              simp -implicitDefEqProofs [m2, hbad]
            have w1 : wrapI .i64 ((j : Int) + 1) = ((j + 1 : Nat) : Int) := by rw [wrap_in (by omega) (by omega)]; omega
            by_cases hj0 : 0 < j
            · have hp : j - 1 < refs.length := by omega
              have w2 : wrapI .i64 ((j : Int) - 1) = ((j - 1 : Nat) : Int) := by rw [wrap_in (by omega) (by omega)]; omega
              obtain ⟨⟨qa, qb⟩, hq⟩ : ∃ e, refs[j - 1] = e := ⟨_, rfl⟩
              have hgq : refs[j - 1]? = some ⟨qa, qb⟩ := by rw [List.getElem?_eq_getElem hp, hq]
              simp -implicitDefEqProofs [m2, hj0, w2, hp, hgq, hq, refC]
              refine call_intro (rless_pure ⟨qa, qb⟩ ⟨ra, rb⟩) (by simp -implicitDefEqProofs [refC]) (.inl rfl) ?_
              by_cases m3 : lessR ⟨qa, qb⟩ ⟨ra, rb⟩ = true
              rotate_left
              · have m3 : lessR ⟨qa, qb⟩ ⟨ra, rb⟩ = false := by simpa using m3
                have hbad := bad (by rw [hr]; simp [refOk, m1, m2, hgq, hj0, m3])
                simp -implicitDefEqProofs [m3, hbad]
              · have hgood : refOk refs j refs[j] = true := by rw [hr]; simp [refOk, m1, m2, hgq, m3]
                simp -implicitDefEqProofs [m3, w1]
                refine ⟨j + 1, ⟨by omega, refsOk_succ hrk g hgood⟩, by omega, ?_⟩
                refine weak_of 2 0 rfl rfl ?_ ?_ <;> simp
            · have hj00 : j = 0 := by omega
              have hgood : refOk refs j refs[j] = true := by rw [hr]; simp [refOk, m1, m2, hj00]; split <;> rfl
              simp -implicitDefEqProofs [m2, hj0, w1]
              refine ⟨j + 1, ⟨by omega, refsOk_succ hrk g hgood⟩, by omega, ?_⟩
              refine weak_of 2 0 rfl rfl ?_ ?_ <;> simp
          · have hall := refsB_all hrk g
            have hgood : objOk l i l[i] = true := by
              rw [hf]
              simp [objOk, n1, hall]
              omega
            have w1 : wrapI .i64 ((i : Int) + 1) = ((i + 1 : Nat) : Int) := by rw [wrap_in (by omega) (by omega)]; omega
            simp -implicitDefEqProofs [g, w1]
            refine ⟨i + 1, ⟨by omega, objsOk_succ hok h hgood⟩, by omega, ?_⟩
            refine weak_of 1 0 rfl rfl ?_ ?_ <;> simp
    · have hall := objsB_all hok h
      simp -implicitDefEqProofs [h]
      simp [objV, hb', hall]
end Go.Proofs.YtdkcmfafganhhaaDoor
