/- Events and logs: which are valid (the program's answer and the reference's). -/
import Derived.Test.YtibnaangfdohiaaVal
namespace Go.Proofs.Ytibnaangfdohiaa
open Go.RowKit
set_option maxRecDepth 100000
structure Fld where
  name : ByteArray
  v : Val
def fldC (f : Fld) : List AV := [.str f.name, .int .i64 f.v.kind, .int .i64 f.v.n, .str f.v.s]
structure Evt where
  case_ : ByteArray
  act : ByteArray
  res : ByteArray
  life : Int
  time : Int
  data : List Fld
def evtC (e : Evt) : List AV := [.str e.case_, .str e.act, .str e.res, .int .i64 e.life, .int .i64 e.time, .rs (rowsOf fldC e.data)]
def geS (a b : ByteArray) : Bool := !Op.bytesLess a.toList b.toList
/-- A field is in order behind the one before it. -/
def fldOk (l : List Fld) (i : Nat) (f : Fld) : Bool := isNameS f.name && valueV f.v && !(match l[i - 1]? with | some g => decide (0 < i) && geS g.name f.name | none => false)
def fldsOk (l : List Fld) (k : Nat) : Prop := ∀ i (h : i < l.length), i < k → fldOk l i l[i] = true
open Classical in
noncomputable def eventV (e : Evt) : Bool :=
  isNameS e.case_ && isNameS e.act && (emptyS e.res || isNameS e.res) && decide (1 ≤ e.life) && decide (e.life ≤ 6) && decide (0 ≤ e.time) && decide (e.time ≤ 1099511627776) && decide ((e.data.length : Int) ≤ 8) && decide (fldsOk e.data e.data.length)
theorem fldsOk_succ {l : List Fld} {i : Nat} (h : fldsOk l i) (hi : i < l.length) (hf : fldOk l i l[i] = true) : fldsOk l (i + 1) := fun j hj hlt => by
  by_cases e : j = i
  · subst e; exact hf
  · exact h j hj (by omega)
theorem fldsOk_all {l : List Fld} {i : Nat} (h : fldsOk l i) (hi : ¬ i < l.length) : fldsOk l l.length := fun j hj hlt => h j hj (by omega)
theorem fldsOk_not {l : List Fld} {i : Nat} (hi : i < l.length) (hf : fldOk l i l[i] = false) : ¬ fldsOk l l.length := fun h => by rw [h i hi hi] at hf; simp at hf
set_option maxHeartbeats 16000000 in
theorem event_pure (e : Evt) : Pure Try.prog 83 [.agg (evtC e)] (.bool (eventV e)) := by
  obtain ⟨c, a, r, life, time, data⟩ := e
  refine pure_of mixed Try.func83 rfl (by kernel_rfl) (of_decide_eq_true rfl) (by kernel_rfl) (vc_run ?_)
  simp -implicitDefEqProofs [evtC]
  refine call_intro (isName_pure c) (by simp -implicitDefEqProofs) (.inl rfl) ?_
  by_cases h1 : isNameS c = true
  rotate_left
  · have h1 : isNameS c = false := by simpa using h1
    simp -implicitDefEqProofs [h1, eventV]
  simp -implicitDefEqProofs [h1]
  refine call_intro (isName_pure a) (by simp -implicitDefEqProofs) (.inl rfl) ?_
  by_cases h2 : isNameS a = true
  rotate_left
  · have h2 : isNameS a = false := by simpa using h2
    simp -implicitDefEqProofs [h2, eventV]
  by_cases h3 : r.toList = []
  · by_cases l1 : life < 1
    · have l1' : ¬ 1 ≤ life := by omega
      simp -implicitDefEqProofs [h1, h2, h3, l1, l1', eventV, emptyS]
    have l1' : 1 ≤ life := by omega
    by_cases l2 : 6 < life
    · have l2' : ¬ life ≤ 6 := by omega
      simp -implicitDefEqProofs [h1, h2, h3, l1, l2, l2', eventV, emptyS]
    have l2' : life ≤ 6 := by omega
    by_cases t1 : time < 0
    · have t1' : ¬ 0 ≤ time := by omega
      simp -implicitDefEqProofs [h1, h2, h3, l1, l2, t1, t1', eventV, emptyS]
    have t1' : 0 ≤ time := by omega
    by_cases t2 : 1099511627776 < time
    · have t2' : ¬ time ≤ 1099511627776 := by omega
      simp -implicitDefEqProofs [h1, h2, h3, l1, l2, t1, t2, t2', eventV, emptyS]
    have t2' : time ≤ 1099511627776 := by omega
    by_cases d1 : (8 : Int) < data.length
    · have d1' : ¬ (data.length : Int) ≤ 8 := by omega
      simp -implicitDefEqProofs [h1, h2, h3, l1, l2, t1, t2, d1, d1', eventV, emptyS]
    have d1' : (data.length : Int) ≤ 8 := by omega
    simp -implicitDefEqProofs [h1, h2, h3, l1, l2, t1, t2, d1]
    refine loop_intro (σ := Nat) (fun i => ⟨[(1, .op 0 0), (51, .rs (rowsOf fldC data)), (52, .int .i64 data.length), (53, .int .i64 i)], [.box 100 [.str c, .str a, .str r, .int .i64 life, .int .i64 time, .rs (rowsOf fldC data)]]⟩) (fun i => i ≤ data.length ∧ fldsOk data i) (fun i => data.length - i) 0 ⟨by omega, fun j _ h => by omega⟩ ?_ ?_
    · refine weak_of 1 0 rfl rfl ?_ ?_ <;> simp
    · rintro i ⟨hi, hok⟩
      by_cases h : i < data.length
      · have hgo : data[i]? = some data[i] := List.getElem?_eq_getElem h
        obtain ⟨⟨fn, ⟨fk, fnn, fs⟩⟩, hf⟩ : ∃ f, data[i] = f := ⟨_, rfl⟩
        simp -implicitDefEqProofs [h, fldC, hf]
        refine call_intro (isName_pure fn) (by simp -implicitDefEqProofs) (.inl rfl) ?_
        by_cases n1 : isNameS fn = true
        rotate_left
        · have n1 : isNameS fn = false := by simpa using n1
          have hbad : fldOk data i data[i] = false := by rw [hf]; simp [fldOk, n1]
          simp -implicitDefEqProofs [n1, eventV, fldsOk_not h hbad]
        simp -implicitDefEqProofs [n1]
        refine call_intro (value_pure ⟨fk, fnn, fs⟩) (by simp -implicitDefEqProofs [valC]) (.inl rfl) ?_
        by_cases n2 : valueV ⟨fk, fnn, fs⟩ = true
        rotate_left
        · have n2 : valueV ⟨fk, fnn, fs⟩ = false := by simpa using n2
          have hbad : fldOk data i data[i] = false := by rw [hf]; simp [fldOk, n2]
          simp -implicitDefEqProofs [n2, eventV, fldsOk_not h hbad]
        have w1 : wrapI .i64 ((i : Int) + 1) = ((i + 1 : Nat) : Int) := by rw [wrap_in (by omega) (by omega)]; omega
        by_cases hi0 : 0 < i
        · have hp : i - 1 < data.length := by omega
          have w2 : wrapI .i64 ((i : Int) - 1) = ((i - 1 : Nat) : Int) := by rw [wrap_in (by omega) (by omega)]; omega
          obtain ⟨⟨gn, ⟨gk, gnn, gs⟩⟩, hg⟩ : ∃ g, data[i - 1] = g := ⟨_, rfl⟩
          have hgq : data[i - 1]? = some ⟨gn, ⟨gk, gnn, gs⟩⟩ := by rw [List.getElem?_eq_getElem hp, hg]
          by_cases n3 : Op.bytesLess gn.toList fn.toList = true
          · have hgood : fldOk data i data[i] = true := by rw [hf]; simp [fldOk, n1, n2, hgq, geS, n3]
            simp -implicitDefEqProofs [n2, hi0, w1, w2, hp, hgq, hg, n3, fldC]
            refine ⟨i + 1, ⟨by omega, fldsOk_succ hok h hgood⟩, by omega, ?_⟩
            refine weak_of 1 0 rfl rfl ?_ ?_ <;> simp
          · have n3 : Op.bytesLess gn.toList fn.toList = false := by simpa using n3
            have hbad : fldOk data i data[i] = false := by rw [hf]; simp [fldOk, n1, n2, hgq, geS, n3, hi0]
            simp -implicitDefEqProofs [n2, hi0, w1, w2, hp, hgq, hg, n3, fldC, eventV, fldsOk_not h hbad]
        · have hi00 : i = 0 := by omega
          subst hi00
          have hgood : fldOk data 0 data[0] = true := by rw [hf]; simp [fldOk, n1, n2, hgo]
          have w10 : wrapI .i64 1 = 1 := wrap_in (by omega) (by omega)
          simp -implicitDefEqProofs [n2, w1]
          refine ⟨1, ⟨by omega, fldsOk_succ hok h hgood⟩, by omega, ?_⟩
          refine weak_of 1 0 rfl rfl ?_ ?_ <;> simp [w10]
      · have hall := fldsOk_all hok h
        have d1'' : data.length ≤ 8 := by omega
        simp -implicitDefEqProofs [h]
        simp [eventV, h1, h2, l1', l2', t1', t2', d1', hall, emptyS]
        first | (simp [h3]; done) | (simp [h4]; done) | skip
  · simp -implicitDefEqProofs [h2, h3]
    refine call_intro (isName_pure r) (by simp -implicitDefEqProofs) (.inl rfl) ?_
    by_cases h4 : isNameS r = true
    rotate_left
    · have h4 : isNameS r = false := by simpa using h4
      simp -implicitDefEqProofs [h4, h3, eventV, emptyS]
    by_cases l1 : life < 1
    · have l1' : ¬ 1 ≤ life := by omega
      simp -implicitDefEqProofs [h1, h2, h3, h4, l1, l1', eventV, emptyS]
    have l1' : 1 ≤ life := by omega
    by_cases l2 : 6 < life
    · have l2' : ¬ life ≤ 6 := by omega
      simp -implicitDefEqProofs [h1, h2, h3, h4, l1, l2, l2', eventV, emptyS]
    have l2' : life ≤ 6 := by omega
    by_cases t1 : time < 0
    · have t1' : ¬ 0 ≤ time := by omega
      simp -implicitDefEqProofs [h1, h2, h3, h4, l1, l2, t1, t1', eventV, emptyS]
    have t1' : 0 ≤ time := by omega
    by_cases t2 : 1099511627776 < time
    · have t2' : ¬ time ≤ 1099511627776 := by omega
      simp -implicitDefEqProofs [h1, h2, h3, h4, l1, l2, t1, t2, t2', eventV, emptyS]
    have t2' : time ≤ 1099511627776 := by omega
    by_cases d1 : (8 : Int) < data.length
    · have d1' : ¬ (data.length : Int) ≤ 8 := by omega
      simp -implicitDefEqProofs [h1, h2, h3, h4, l1, l2, t1, t2, d1, d1', eventV, emptyS]
    have d1' : (data.length : Int) ≤ 8 := by omega
    simp -implicitDefEqProofs [h3, h4, l1, l2, t1, t2, d1]
    refine loop_intro (σ := Nat) (fun i => ⟨[(1, .op 0 0), (51, .rs (rowsOf fldC data)), (52, .int .i64 data.length), (53, .int .i64 i)], [.box 100 [.str c, .str a, .str r, .int .i64 life, .int .i64 time, .rs (rowsOf fldC data)]]⟩) (fun i => i ≤ data.length ∧ fldsOk data i) (fun i => data.length - i) 0 ⟨by omega, fun j _ h => by omega⟩ ?_ ?_
    · refine weak_of 1 0 rfl rfl ?_ ?_ <;> simp
    · rintro i ⟨hi, hok⟩
      by_cases h : i < data.length
      · have hgo : data[i]? = some data[i] := List.getElem?_eq_getElem h
        obtain ⟨⟨fn, ⟨fk, fnn, fs⟩⟩, hf⟩ : ∃ f, data[i] = f := ⟨_, rfl⟩
        simp -implicitDefEqProofs [h, fldC, hf]
        refine call_intro (isName_pure fn) (by simp -implicitDefEqProofs) (.inl rfl) ?_
        by_cases n1 : isNameS fn = true
        rotate_left
        · have n1 : isNameS fn = false := by simpa using n1
          have hbad : fldOk data i data[i] = false := by rw [hf]; simp [fldOk, n1]
          simp -implicitDefEqProofs [n1, eventV, fldsOk_not h hbad]
        simp -implicitDefEqProofs [n1]
        refine call_intro (value_pure ⟨fk, fnn, fs⟩) (by simp -implicitDefEqProofs [valC]) (.inl rfl) ?_
        by_cases n2 : valueV ⟨fk, fnn, fs⟩ = true
        rotate_left
        · have n2 : valueV ⟨fk, fnn, fs⟩ = false := by simpa using n2
          have hbad : fldOk data i data[i] = false := by rw [hf]; simp [fldOk, n2]
          simp -implicitDefEqProofs [n2, eventV, fldsOk_not h hbad]
        have w1 : wrapI .i64 ((i : Int) + 1) = ((i + 1 : Nat) : Int) := by rw [wrap_in (by omega) (by omega)]; omega
        by_cases hi0 : 0 < i
        · have hp : i - 1 < data.length := by omega
          have w2 : wrapI .i64 ((i : Int) - 1) = ((i - 1 : Nat) : Int) := by rw [wrap_in (by omega) (by omega)]; omega
          obtain ⟨⟨gn, ⟨gk, gnn, gs⟩⟩, hg⟩ : ∃ g, data[i - 1] = g := ⟨_, rfl⟩
          have hgq : data[i - 1]? = some ⟨gn, ⟨gk, gnn, gs⟩⟩ := by rw [List.getElem?_eq_getElem hp, hg]
          by_cases n3 : Op.bytesLess gn.toList fn.toList = true
          · have hgood : fldOk data i data[i] = true := by rw [hf]; simp [fldOk, n1, n2, hgq, geS, n3]
            simp -implicitDefEqProofs [n2, hi0, w1, w2, hp, hgq, hg, n3, fldC]
            refine ⟨i + 1, ⟨by omega, fldsOk_succ hok h hgood⟩, by omega, ?_⟩
            refine weak_of 1 0 rfl rfl ?_ ?_ <;> simp
          · have n3 : Op.bytesLess gn.toList fn.toList = false := by simpa using n3
            have hbad : fldOk data i data[i] = false := by rw [hf]; simp [fldOk, n1, n2, hgq, geS, n3, hi0]
            simp -implicitDefEqProofs [n2, hi0, w1, w2, hp, hgq, hg, n3, fldC, eventV, fldsOk_not h hbad]
        · have hi00 : i = 0 := by omega
          subst hi00
          have hgood : fldOk data 0 data[0] = true := by rw [hf]; simp [fldOk, n1, n2, hgo]
          have w10 : wrapI .i64 1 = 1 := wrap_in (by omega) (by omega)
          simp -implicitDefEqProofs [n2, w1]
          refine ⟨1, ⟨by omega, fldsOk_succ hok h hgood⟩, by omega, ?_⟩
          refine weak_of 1 0 rfl rfl ?_ ?_ <;> simp [w10]
      · have hall := fldsOk_all hok h
        have d1'' : data.length ≤ 8 := by omega
        simp -implicitDefEqProofs [h]
        simp [eventV, h1, h2, l1', l2', t1', t2', d1', hall, emptyS]
        first | (simp [h3]; done) | (simp [h4]; done) | skip
set_option maxHeartbeats 16000000 in
theorem revent_pure (e : Evt) : Pure Try.prog 70 [.agg (evtC e)] (.bool (eventV e)) := by
  obtain ⟨c, a, r, life, time, data⟩ := e
  refine pure_of mixed Try.func70 rfl (by kernel_rfl) (of_decide_eq_true rfl) (by kernel_rfl) (vc_run ?_)
  simp -implicitDefEqProofs [evtC]
  refine call_intro (risName_pure c) (by simp -implicitDefEqProofs) (.inl rfl) ?_
  by_cases h1 : isNameS c = true
  rotate_left
  · have h1 : isNameS c = false := by simpa using h1
    simp -implicitDefEqProofs [h1, eventV]
  simp -implicitDefEqProofs [h1]
  refine call_intro (risName_pure a) (by simp -implicitDefEqProofs) (.inl rfl) ?_
  by_cases h2 : isNameS a = true
  rotate_left
  · have h2 : isNameS a = false := by simpa using h2
    simp -implicitDefEqProofs [h2, eventV]
  by_cases h3 : r.toList = []
  · by_cases l1 : life < 1
    · have l1' : ¬ 1 ≤ life := by omega
      simp -implicitDefEqProofs [h1, h2, h3, l1, l1', eventV, emptyS]
    have l1' : 1 ≤ life := by omega
    by_cases l2 : 6 < life
    · have l2' : ¬ life ≤ 6 := by omega
      simp -implicitDefEqProofs [h1, h2, h3, l1, l2, l2', eventV, emptyS]
    have l2' : life ≤ 6 := by omega
    by_cases t1 : time < 0
    · have t1' : ¬ 0 ≤ time := by omega
      simp -implicitDefEqProofs [h1, h2, h3, l1, l2, t1, t1', eventV, emptyS]
    have t1' : 0 ≤ time := by omega
    by_cases t2 : 1099511627776 < time
    · have t2' : ¬ time ≤ 1099511627776 := by omega
      simp -implicitDefEqProofs [h1, h2, h3, l1, l2, t1, t2, t2', eventV, emptyS]
    have t2' : time ≤ 1099511627776 := by omega
    by_cases d1 : (8 : Int) < data.length
    · have d1' : ¬ (data.length : Int) ≤ 8 := by omega
      simp -implicitDefEqProofs [h1, h2, h3, l1, l2, t1, t2, d1, d1', eventV, emptyS]
    have d1' : (data.length : Int) ≤ 8 := by omega
    simp -implicitDefEqProofs [h1, h2, h3, l1, l2, t1, t2, d1]
    refine loop_intro (σ := Nat) (fun i => ⟨[(1, .op 0 0), (3, .int .i64 i)], [.box 100 [.str c, .str a, .str r, .int .i64 life, .int .i64 time, .rs (rowsOf fldC data)]]⟩) (fun i => i ≤ data.length ∧ fldsOk data i) (fun i => data.length - i) 0 ⟨by omega, fun j _ h => by omega⟩ ?_ ?_
    · refine weak_of 1 0 rfl rfl ?_ ?_ <;> simp
    · rintro i ⟨hi, hok⟩
      by_cases h : i < data.length
      · have hgo : data[i]? = some data[i] := List.getElem?_eq_getElem h
        obtain ⟨⟨fn, ⟨fk, fnn, fs⟩⟩, hf⟩ : ∃ f, data[i] = f := ⟨_, rfl⟩
        simp -implicitDefEqProofs [h, fldC, hf]
        refine call_intro (risName_pure fn) (by simp -implicitDefEqProofs) (.inl rfl) ?_
        by_cases n1 : isNameS fn = true
        rotate_left
        · have n1 : isNameS fn = false := by simpa using n1
          have hbad : fldOk data i data[i] = false := by rw [hf]; simp [fldOk, n1]
          simp -implicitDefEqProofs [n1, eventV, fldsOk_not h hbad]
        simp -implicitDefEqProofs [n1]
        refine call_intro (rvalue_pure ⟨fk, fnn, fs⟩) (by simp -implicitDefEqProofs [valC]) (.inl rfl) ?_
        by_cases n2 : valueV ⟨fk, fnn, fs⟩ = true
        rotate_left
        · have n2 : valueV ⟨fk, fnn, fs⟩ = false := by simpa using n2
          have hbad : fldOk data i data[i] = false := by rw [hf]; simp [fldOk, n2]
          simp -implicitDefEqProofs [n2, eventV, fldsOk_not h hbad]
        have w1 : wrapI .i64 ((i : Int) + 1) = ((i + 1 : Nat) : Int) := by rw [wrap_in (by omega) (by omega)]; omega
        by_cases hi0 : 0 < i
        · have hp : i - 1 < data.length := by omega
          have w2 : wrapI .i64 ((i : Int) - 1) = ((i - 1 : Nat) : Int) := by rw [wrap_in (by omega) (by omega)]; omega
          obtain ⟨⟨gn, ⟨gk, gnn, gs⟩⟩, hg⟩ : ∃ g, data[i - 1] = g := ⟨_, rfl⟩
          have hgq : data[i - 1]? = some ⟨gn, ⟨gk, gnn, gs⟩⟩ := by rw [List.getElem?_eq_getElem hp, hg]
          by_cases n3 : Op.bytesLess gn.toList fn.toList = true
          · have hgood : fldOk data i data[i] = true := by rw [hf]; simp [fldOk, n1, n2, hgq, geS, n3]
            simp -implicitDefEqProofs [n2, hi0, w1, w2, hp, hgq, hg, n3, fldC]
            refine ⟨i + 1, ⟨by omega, fldsOk_succ hok h hgood⟩, by omega, ?_⟩
            refine weak_of 1 0 rfl rfl ?_ ?_ <;> simp
          · have n3 : Op.bytesLess gn.toList fn.toList = false := by simpa using n3
            have hbad : fldOk data i data[i] = false := by rw [hf]; simp [fldOk, n1, n2, hgq, geS, n3, hi0]
            simp -implicitDefEqProofs [n2, hi0, w1, w2, hp, hgq, hg, n3, fldC, eventV, fldsOk_not h hbad]
        · have hi00 : i = 0 := by omega
          subst hi00
          have hgood : fldOk data 0 data[0] = true := by rw [hf]; simp [fldOk, n1, n2, hgo]
          have w10 : wrapI .i64 1 = 1 := wrap_in (by omega) (by omega)
          simp -implicitDefEqProofs [n2, w1]
          refine ⟨1, ⟨by omega, fldsOk_succ hok h hgood⟩, by omega, ?_⟩
          refine weak_of 1 0 rfl rfl ?_ ?_ <;> simp [w10]
      · have hall := fldsOk_all hok h
        have d1'' : data.length ≤ 8 := by omega
        simp -implicitDefEqProofs [h]
        simp [eventV, h1, h2, l1', l2', t1', t2', d1', hall, emptyS]
        first | (simp [h3]; done) | (simp [h4]; done) | skip
  · simp -implicitDefEqProofs [h2, h3]
    refine call_intro (risName_pure r) (by simp -implicitDefEqProofs) (.inl rfl) ?_
    by_cases h4 : isNameS r = true
    rotate_left
    · have h4 : isNameS r = false := by simpa using h4
      simp -implicitDefEqProofs [h4, h3, eventV, emptyS]
    by_cases l1 : life < 1
    · have l1' : ¬ 1 ≤ life := by omega
      simp -implicitDefEqProofs [h1, h2, h3, h4, l1, l1', eventV, emptyS]
    have l1' : 1 ≤ life := by omega
    by_cases l2 : 6 < life
    · have l2' : ¬ life ≤ 6 := by omega
      simp -implicitDefEqProofs [h1, h2, h3, h4, l1, l2, l2', eventV, emptyS]
    have l2' : life ≤ 6 := by omega
    by_cases t1 : time < 0
    · have t1' : ¬ 0 ≤ time := by omega
      simp -implicitDefEqProofs [h1, h2, h3, h4, l1, l2, t1, t1', eventV, emptyS]
    have t1' : 0 ≤ time := by omega
    by_cases t2 : 1099511627776 < time
    · have t2' : ¬ time ≤ 1099511627776 := by omega
      simp -implicitDefEqProofs [h1, h2, h3, h4, l1, l2, t1, t2, t2', eventV, emptyS]
    have t2' : time ≤ 1099511627776 := by omega
    by_cases d1 : (8 : Int) < data.length
    · have d1' : ¬ (data.length : Int) ≤ 8 := by omega
      simp -implicitDefEqProofs [h1, h2, h3, h4, l1, l2, t1, t2, d1, d1', eventV, emptyS]
    have d1' : (data.length : Int) ≤ 8 := by omega
    simp -implicitDefEqProofs [h3, h4, l1, l2, t1, t2, d1]
    refine loop_intro (σ := Nat) (fun i => ⟨[(1, .op 0 0), (3, .int .i64 i)], [.box 100 [.str c, .str a, .str r, .int .i64 life, .int .i64 time, .rs (rowsOf fldC data)]]⟩) (fun i => i ≤ data.length ∧ fldsOk data i) (fun i => data.length - i) 0 ⟨by omega, fun j _ h => by omega⟩ ?_ ?_
    · refine weak_of 1 0 rfl rfl ?_ ?_ <;> simp
    · rintro i ⟨hi, hok⟩
      by_cases h : i < data.length
      · have hgo : data[i]? = some data[i] := List.getElem?_eq_getElem h
        obtain ⟨⟨fn, ⟨fk, fnn, fs⟩⟩, hf⟩ : ∃ f, data[i] = f := ⟨_, rfl⟩
        simp -implicitDefEqProofs [h, fldC, hf]
        refine call_intro (risName_pure fn) (by simp -implicitDefEqProofs) (.inl rfl) ?_
        by_cases n1 : isNameS fn = true
        rotate_left
        · have n1 : isNameS fn = false := by simpa using n1
          have hbad : fldOk data i data[i] = false := by rw [hf]; simp [fldOk, n1]
          simp -implicitDefEqProofs [n1, eventV, fldsOk_not h hbad]
        simp -implicitDefEqProofs [n1]
        refine call_intro (rvalue_pure ⟨fk, fnn, fs⟩) (by simp -implicitDefEqProofs [valC]) (.inl rfl) ?_
        by_cases n2 : valueV ⟨fk, fnn, fs⟩ = true
        rotate_left
        · have n2 : valueV ⟨fk, fnn, fs⟩ = false := by simpa using n2
          have hbad : fldOk data i data[i] = false := by rw [hf]; simp [fldOk, n2]
          simp -implicitDefEqProofs [n2, eventV, fldsOk_not h hbad]
        have w1 : wrapI .i64 ((i : Int) + 1) = ((i + 1 : Nat) : Int) := by rw [wrap_in (by omega) (by omega)]; omega
        by_cases hi0 : 0 < i
        · have hp : i - 1 < data.length := by omega
          have w2 : wrapI .i64 ((i : Int) - 1) = ((i - 1 : Nat) : Int) := by rw [wrap_in (by omega) (by omega)]; omega
          obtain ⟨⟨gn, ⟨gk, gnn, gs⟩⟩, hg⟩ : ∃ g, data[i - 1] = g := ⟨_, rfl⟩
          have hgq : data[i - 1]? = some ⟨gn, ⟨gk, gnn, gs⟩⟩ := by rw [List.getElem?_eq_getElem hp, hg]
          by_cases n3 : Op.bytesLess gn.toList fn.toList = true
          · have hgood : fldOk data i data[i] = true := by rw [hf]; simp [fldOk, n1, n2, hgq, geS, n3]
            simp -implicitDefEqProofs [n2, hi0, w1, w2, hp, hgq, hg, n3, fldC]
            refine ⟨i + 1, ⟨by omega, fldsOk_succ hok h hgood⟩, by omega, ?_⟩
            refine weak_of 1 0 rfl rfl ?_ ?_ <;> simp
          · have n3 : Op.bytesLess gn.toList fn.toList = false := by simpa using n3
            have hbad : fldOk data i data[i] = false := by rw [hf]; simp [fldOk, n1, n2, hgq, geS, n3, hi0]
            simp -implicitDefEqProofs [n2, hi0, w1, w2, hp, hgq, hg, n3, fldC, eventV, fldsOk_not h hbad]
        · have hi00 : i = 0 := by omega
          subst hi00
          have hgood : fldOk data 0 data[0] = true := by rw [hf]; simp [fldOk, n1, n2, hgo]
          have w10 : wrapI .i64 1 = 1 := wrap_in (by omega) (by omega)
          simp -implicitDefEqProofs [n2, w1]
          refine ⟨1, ⟨by omega, fldsOk_succ hok h hgood⟩, by omega, ?_⟩
          refine weak_of 1 0 rfl rfl ?_ ?_ <;> simp [w10]
      · have hall := fldsOk_all hok h
        have d1'' : data.length ≤ 8 := by omega
        simp -implicitDefEqProofs [h]
        simp [eventV, h1, h2, l1', l2', t1', t2', d1', hall, emptyS]
        first | (simp [h3]; done) | (simp [h4]; done) | skip
end Go.Proofs.Ytibnaangfdohiaa
