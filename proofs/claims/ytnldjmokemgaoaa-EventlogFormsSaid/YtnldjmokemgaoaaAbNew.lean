/- Functions that hand back memory of their own making, in general; calls whose text is walked in place. -/
import Derived.Test.YtnldjmokemgaoaaAbWeak
namespace Go.Proofs.Ytnldjmokemgaoaa
set_option linter.unusedSimpArgs false
set_option linter.unusedVariables false
set_option linter.unnecessarySimpa false
set_option linter.unusedSectionVars false
open Go.RowKit
variable [Glob]

mutual
/-- The numbers of blocks, moved up. -/
def shA (k : Nat) : AV → AV
  | .op id o => .op (id + k) o
  | .ep id n i o => .ep (id + k) n i o
  | .os id n => .os (id + k) n
  | .mp id => .mp (id + k)
  | .agg l => .agg (shL k l)
  | .tup l => .tup (shL k l)
  | .fn f l => .fn f (shL k l)
  | v => v
def shL (k : Nat) : List AV → List AV
  | [] => []
  | x :: r => shA k x :: shL k r
end
def shB (k : Nat) : Blk → Blk
  | .box t cs => .box t (shL k cs)
  | .row e nb rows => .row e nb (rows.map (shL k))
  | .map es => .map (es.map fun e => (shA k e.1, shA k e.2))
  | .gone => .gone
mutual
/-- No memory is read but the function's own. -/
def flatO : AV → Bool
  | .rp _ => false
  | .rs rows => rows.isEmpty
  | .agg l => flatOL l
  | .tup l => flatOL l
  | .fn _ l => flatOL l
  | _ => true
def flatOL : List AV → Bool
  | [] => true
  | x :: r => flatO x && flatOL r
end
def flatB : Blk → Bool
  | .box _ cs => cs.all flatO
  | .row _ _ rows => rows.all fun r => r.all flatO
  | .map es => es.all fun e => flatO e.1 && flatO e.2
  | .gone => true

section
variable {P : Program} {w w' : World} {X : Nat → Prop} {φ : Nat → Option Nat} {H : List Blk}
theorem shL_get {k : Nat} : ∀ (l : List AV) (j : Nat), (shL k l)[j]? = (l[j]?).map (shA k) := by
  intro l
  induction l with
  | nil => intro j; simp [shL]
  | cons x l ih =>
    intro j
    cases j with
    | zero => simp [shL]
    | succ j => simpa [shL] using ih j
theorem shL_len {k : Nat} : ∀ (l : List AV), (shL k l).length = l.length := by
  intro l
  induction l with
  | nil => rfl
  | cons x l ih => simp [shL, ih]
theorem RO.sh {k : Nat} {x : AV} {v : Value} (h : RO w X x v) : RO w X (shA k x) v := by
  induction h with
  | any => exact .any
  | und => exact .und
  | int => exact .int
  | bool => exact .bool
  | str => exact .str
  | nilp => exact .nilp
  | nils => exact .nils
  | nilc => exact .nilc
  | nilf => exact .nilf
  | nilm => exact .nilm
  | rp f hb hx hc h _ => exact .rp f hb hx hc h
  | rs sz f hn hcap hA h _ => exact .rs sz f hn hcap hA h
  | agg hl h1 _ ih =>
    refine .agg (by rw [shL_len]; exact hl) h1 fun j x v h2 h3 => ?_
    rw [shL_get, Option.map_eq_some_iff] at h2
    obtain ⟨y, h4, rfl⟩ := h2
    exact ih j y v h4 h3
  | tup hl _ ih =>
    refine .tup (by rw [shL_len]; exact hl) fun j x v h2 h3 => ?_
    rw [shL_get, Option.map_eq_some_iff] at h2
    obtain ⟨y, h4, rfl⟩ := h2
    exact ih j y v h4 h3
  | fn hl _ ih =>
    refine .fn (by rw [shL_len]; exact hl) fun j x v h2 h3 => ?_
    rw [shL_get, Option.map_eq_some_iff] at h2
    obtain ⟨y, h4, rfl⟩ := h2
    exact ih j y v h4 h3
theorem flatOL_get : ∀ {l : List AV}, flatOL l = true → ∀ (j : Nat) x, l[j]? = some x → flatO x = true := by
  intro l
  induction l with
  | nil => intro _ j x h; simp at h
  | cons y l ih =>
    intro h j x hj
    simp only [flatOL, Bool.and_eq_true] at h
    cases j with
    | zero => simp at hj; rw [← hj]; exact h.1
    | succ j => simp at hj; exact ih h.2 j x hj
theorem RO.of_flatO {X' : Nat → Prop} {x : AV} {v : Value} (h : RO w X x v) (hf : flatO x = true) : RO w' X' x v := by
  induction h with
  | any => exact .any
  | und => exact .und
  | int => exact .int
  | bool => exact .bool
  | str => exact .str
  | nilp => exact .nilp
  | nils => exact .nils
  | nilc => exact .nilc
  | nilf => exact .nilf
  | nilm => exact .nilm
  | rp => simp [flatO] at hf
  | rs sz f hn hcap hA h _ =>
    simp [flatO] at hf
    subst hf
    exact .rs sz f hn hcap (fun i row hi => by simp at hi) (fun i j row x hi _ => by simp at hi)
  | agg hl h1 _ ih => simp only [flatO] at hf; exact .agg hl h1 fun j x v h1 h2 => ih j x v h1 h2 (flatOL_get hf j x h1)
  | tup hl _ ih => simp only [flatO] at hf; exact .tup hl fun j x v h1 h2 => ih j x v h1 h2 (flatOL_get hf j x h1)
  | fn hl _ ih => simp only [flatO] at hf; exact .fn hl fun j x v h1 h2 => ih j x v h1 h2 (flatOL_get hf j x h1)
/-- The blocks of two calls, side by side. -/
def joinφ (φ φ1 : Nat → Option Nat) (L : Nat) : Nat → Option Nat := fun i => if i < L then φ i else φ1 (i - L)
theorem RV.join {X1 : Nat → Prop} {φ1 : Nat → Option Nat} {H1 : List Blk} {x : AV} {v : Value} (h : RV P w X1 φ1 H1 x v)
    (hc : flatO x = true ∨ ∀ b, (X b ∨ ∃ id, joinφ φ φ1 H.length id = some b) → X1 b ∨ ∃ id, φ1 id = some b) : RV P w X (joinφ φ φ1 H.length) (H ++ H1.map (shB H.length)) (shA H.length x) v := by
  have hget : ∀ id b', (H ++ H1.map (shB H.length))[id + H.length]? = some b' → ∃ b, H1[id]? = some b ∧ b' = shB H.length b := fun id b' h => by
    rw [List.getElem?_append_right (by omega), show id + H.length - H.length = id by omega, List.getElem?_map, Option.map_eq_some_iff] at h
    obtain ⟨b, h1, h2⟩ := h
    exact ⟨b, h1, h2.symm⟩
  have hlen : ∀ id, id < H1.length → id + H.length < (H ++ H1.map (shB H.length)).length := fun id h => by simp; omega
  have hφ : ∀ id, joinφ φ φ1 H.length (id + H.length) = φ1 id := fun id => by simp only [joinφ]; rw [if_neg (by omega), Nat.add_sub_cancel]
  induction h with
  | ro h =>
    rcases hc with hf | hc
    · exact .ro (h.of_flatO hf).sh
    · exact .ro ((h.weaken fun b hb => hc b hb).sh)
  | @op id o v h0 hid h =>
    refine .op h0 (hlen id hid) fun t cs hb => ?_
    obtain ⟨b, h1, h2⟩ := hget id _ hb
    cases b <;> simp [shB] at h2
    obtain ⟨c, h3, h4⟩ := h _ _ h1
    exact ⟨c, by rw [hφ]; exact h3, h4⟩
  | @ep id n i o v h0 hid h =>
    refine .ep h0 (hlen id hid) fun e nb rows hb => ?_
    obtain ⟨b, h1, h2⟩ := hget id _ hb
    cases b <;> simp [shB] at h2
    obtain ⟨rfl, rfl, rfl⟩ := h2
    obtain ⟨h3, h4⟩ := h _ _ _ h1
    refine ⟨by simpa using h3, fun hn => ?_⟩
    obtain ⟨c, h5, h6⟩ := h4 (by simpa using hn)
    exact ⟨c, by rw [hφ]; exact h5, h6⟩
  | @os id n v h0 hid h =>
    refine .os h0 (hlen id hid) fun e nb rows hb => ?_
    obtain ⟨b, h1, h2⟩ := hget id _ hb
    cases b <;> simp [shB] at h2
    obtain ⟨rfl, rfl, rfl⟩ := h2
    obtain ⟨h3, h4⟩ := h _ _ _ h1
    refine ⟨by simpa using h3, fun hn => ?_⟩
    rw [hφ]
    exact h4 (by simpa using hn)
  | @mp id v h0 hid h =>
    refine .mp h0 (hlen id hid) fun es hb => ?_
    obtain ⟨b, h1, h2⟩ := hget id _ hb
    cases b <;> simp [shB] at h2
    obtain ⟨c, h3, h4⟩ := h _ h1
    exact ⟨c, by rw [hφ]; exact h3, h4⟩
  | agg hl h1 _ ih =>
    refine .agg (by rw [shL_len]; exact hl) h1 fun j x v h2 h3 => ?_
    rw [shL_get, Option.map_eq_some_iff] at h2
    obtain ⟨y, h4, rfl⟩ := h2
    exact ih j y v h4 h3 (hc.imp (fun hf => flatOL_get (by simpa only [flatO] using hf) j y h4) id)
  | tup hl _ ih =>
    refine .tup (by rw [shL_len]; exact hl) fun j x v h2 h3 => ?_
    rw [shL_get, Option.map_eq_some_iff] at h2
    obtain ⟨y, h4, rfl⟩ := h2
    exact ih j y v h4 h3 (hc.imp (fun hf => flatOL_get (by simpa only [flatO] using hf) j y h4) id)
  | fn hl _ ih =>
    refine .fn (by rw [shL_len]; exact hl) fun j x v h2 h3 => ?_
    rw [shL_get, Option.map_eq_some_iff] at h2
    obtain ⟨y, h4, rfl⟩ := h2
    exact ih j y v h4 h3 (hc.imp (fun hf => flatOL_get (by simpa only [flatO] using hf) j y h4) id)
end
section
variable (P : Program)
/-- Wherever the arguments read as these, the function hands back r, which lies in blocks H1 of its own making; nothing old is turned. -/
def New (f : FuncId) (args : List AV) (r : AV) (H1 : List Blk) : Prop :=
  entersB P f = true ∧ ∀ (w : World) (X : Nat → Prop) (vs : Array Value), (∀ b, X b → b < w.heap.size) → VarsOk w X → args.length = vs.size → (∀ (j : Nat) x v, args[j]? = some x → vs[j]? = some v → RO w X x v) →
    Calls P f vs w fun e w' => ∃ v φ1, e = .returned v ∧ HR P w X w' φ1 H1 ∧ RV P w' X φ1 H1 r v
end
section
variable {P : Program}
theorem new_core {w0 w w' : World} {X X1 : Nat → Prop} {φ φ1 : Nat → Option Nat} {H H1 : List Blk} {r : AV} {v : Value} (hr : HR P w0 X w φ H) (hr1 : HR P w X1 w' φ1 H1) (hv : RV P w' X1 φ1 H1 r v)
    (hc : (flatO r = true ∧ H1.all flatB = true) ∨ ∀ b, (X b ∨ ∃ id, φ id = some b) → X1 b) :
    HR P w0 X w' (joinφ φ φ1 H.length) (H ++ H1.map (shB H.length)) ∧ Turn w φ H w' (joinφ φ φ1 H.length) (H ++ H1.map (shB H.length)) ∧ RV P w' X (joinφ φ φ1 H.length) (H ++ H1.map (shB H.length)) (shA H.length r) v := by
  have hlow : ∀ id, id < H.length → joinφ φ φ1 H.length id = φ id := fun id h => by simp [joinφ, h]
  have hold : ∀ id, id < H.length → (H ++ H1.map (shB H.length))[id]? = H[id]? := fun id h => List.getElem?_append_left h
  have hcase : ∀ id c, joinφ φ φ1 H.length id = some c → (id < H.length ∧ φ id = some c) ∨ (H.length ≤ id ∧ φ1 (id - H.length) = some c) := fun id c h => by
    unfold joinφ at h
    split at h
    · exact .inl ⟨by assumption, h⟩
    · exact .inr ⟨by omega, h⟩
  have hT : Turn w φ H w' (joinφ φ φ1 H.length) (H ++ H1.map (shB H.length)) := by
    refine ⟨hr1.fr.size, by simp, fun b hb hl => ⟨hr1.fr.block b hl, fun id h => ?_⟩, fun id t cs hi h => ?_, fun id e nb rows hi h => ?_, fun id es hi h => ?_⟩
    · rcases hcase id b h with ⟨_, h⟩ | ⟨_, h⟩
      · exact hb id h
      · have := (hr1.own _ b h).1; omega
    · rw [hold id hi] at h; exact ⟨cs, h, fun c hc => by rw [hlow id hi]; exact hc⟩
    · rw [hold id hi] at h
      exact ⟨rows, h, Nat.le_refl _, fun _ => ⟨fun _ h => by rw [hlow id hi]; exact h, fun c hc => ⟨by rw [hlow id hi]; exact hc, fun cur hcur => ⟨cur, by rw [hr1.fr.block c (hr.own _ c hc).2.1]; exact hcur, rfl⟩⟩⟩⟩
    · rw [hold id hi] at h; exact ⟨es, h, fun c hc => by rw [hlow id hi]; exact hc⟩
  have hX : (∀ b, (X b ∨ ∃ id, φ id = some b) → X1 b) → ∀ b, (X b ∨ ∃ id, joinφ φ φ1 H.length id = some b) → X1 b ∨ ∃ id, φ1 id = some b := fun h b hb => by
    rcases hb with hb | ⟨id, hb⟩
    · exact .inl (h b (.inl hb))
    · rcases hcase id b hb with ⟨_, hb⟩ | ⟨_, hb⟩
      · exact .inl (h b (.inr ⟨id, hb⟩))
      · exact .inr ⟨_, hb⟩
  have hj : ∀ {x : AV} {u : Value}, RV P w' X1 φ1 H1 x u → ((flatO r = true ∧ H1.all flatB = true) → flatO x = true) → RV P w' X (joinφ φ φ1 H.length) (H ++ H1.map (shB H.length)) (shA H.length x) u := fun h hf => by
    rcases hc with hc | hc
    · -- flat: the memory outside does not matter
      exact RV.join h (.inl (hf hc))
    · exact RV.join h (.inr (hX hc))
  refine ⟨⟨hr.vo, hr.fr.trans (hr1.fr.mono hr.fr.size), ext_turn hr hT, fun id c hc => ?_, fun i j c hi hj => ?_, fun i b c hi hc' => ?_⟩, hT, hj hv fun h => h.1⟩
  · rcases hcase id c hc with ⟨h1, h2⟩ | ⟨h1, h2⟩
    · have := hr.own id c h2
      have := hr1.fr.size
      exact ⟨by omega, by omega, by simp; omega⟩
    · have := hr1.own _ c h2
      have := hr.fr.size
      exact ⟨by omega, by omega, by simp; omega⟩
  · rcases hcase i c hi with ⟨h1, h2⟩ | ⟨h1, h2⟩ <;> rcases hcase j c hj with ⟨h3, h4⟩ | ⟨h3, h4⟩
    · exact hr.inj i j c h2 h4
    · have := (hr.own i c h2).2.1; have := (hr1.own _ c h4).1; omega
    · have := (hr.own j c h4).2.1; have := (hr1.own _ c h2).1; omega
    · have := hr1.inj _ _ c h2 h4; omega
  · rcases hcase i c hc' with ⟨h1, h2⟩ | ⟨h1, h2⟩
    · rw [hold i h1] at hi
      exact (hr.blk i b c hi h2).turn hT (hr1.fr.block c (hr.own i c h2).2.1)
    · rw [List.getElem?_append_right h1, List.getElem?_map, Option.map_eq_some_iff] at hi
      obtain ⟨b1, h3, rfl⟩ := hi
      have hok := hr1.blk _ b1 c h3 h2
      have hfl : (flatO r = true ∧ H1.all flatB = true) → flatB b1 = true := fun h => by
        have := h.2
        simp only [List.all_eq_true] at this
        exact this b1 (List.mem_of_getElem? h3)
      cases b1 with
      | gone => trivial
      | box t cs =>
        obtain ⟨cur, q1, q2, q3⟩ := hok
        refine ⟨cur, q1, by rw [shL_len]; exact q2, fun j x u hx hu => ?_⟩
        rw [shL_get, Option.map_eq_some_iff] at hx
        obtain ⟨y, h4, rfl⟩ := hx
        refine ⟨hj (q3 j y u h4 hu).1 fun h => ?_, (q3 j y u h4 hu).2⟩
        have := hfl h
        simp only [flatB, List.all_eq_true] at this
        exact this y (List.mem_of_getElem? h4)
      | row e nb rows =>
        obtain ⟨cur, q1, q2, q3, q4⟩ := hok
        refine ⟨cur, q1, fun row hrow => ?_, by simpa using q3, fun i' j row x u h5 hx hu => ?_⟩
        · obtain ⟨row', h5, rfl⟩ := List.mem_map.1 hrow
          rw [shL_len]; exact q2 row' h5
        · rw [List.getElem?_map, Option.map_eq_some_iff] at h5
          obtain ⟨row', h6, rfl⟩ := h5
          rw [shL_get, Option.map_eq_some_iff] at hx
          obtain ⟨y, h4, rfl⟩ := hx
          refine ⟨hj (q4 i' j row' y u h6 h4 hu).1 fun h => ?_, (q4 i' j row' y u h6 h4 hu).2⟩
          have := hfl h
          simp only [flatB, List.all_eq_true] at this
          exact this row' (List.mem_of_getElem? h6) y (List.mem_of_getElem? h4)
      | map es =>
        obtain ⟨ents, clock, q1, q2, q3, q4, q5⟩ := hok
        refine ⟨ents, clock, q1, by simpa using q2, q3, q4, fun i' k x ent h5 h6 => ?_⟩
        rw [List.getElem?_map, Option.map_eq_some_iff] at h5
        obtain ⟨e, h7, h8⟩ := h5
        simp at h8
        obtain ⟨rfl, rfl⟩ := h8
        have := q5 i' e.1 e.2 ent h7 h6
        have hfe : (flatO r = true ∧ H1.all flatB = true) → flatO e.1 = true ∧ flatO e.2 = true := fun h => by
          have := hfl h
          simp only [flatB, List.all_eq_true, Bool.and_eq_true] at this
          exact this e (List.mem_of_getElem? h7)
        exact ⟨hj this.1 fun h => (hfe h).1, hj this.2 fun h => (hfe h).2⟩
/-- A call of such a function. -/
theorem new_G {g : FuncId} {as ys : List AV} {r : AV} {H H1 : List Blk} {K : AV → List Blk → Prop} (hp : New P g ys r H1) (hm : as.mapM (reify H 8) = some ys) (ho : (flatO r = true ∧ H1.all flatB = true) ∨ (ys = as ∧ ownsL as = false))
    (hK : K (shA H.length r) (H ++ H1.map (shB H.length))) : CallG P g as H K := by
  refine ⟨hp.1, fun w0 w X φ vs hr hl hv => ?_⟩
  obtain ⟨m1, m2⟩ := mapM_spec hm
  rcases ho with hf | ⟨rfl, ho⟩
  · refine (hp.2 w X vs (fun b hb => (hr.ext b hb).1) hr.now (by omega) fun j y v hj hu => ?_).mono ?_
    · have hlt : j < as.length := by rw [← m1]; exact (List.getElem?_eq_some_iff.1 hj).1
      obtain ⟨y', q1, q2⟩ := m2 j as[j] (by simp [hlt])
      rw [hj] at q1; simp at q1; subst q1
      exact reify_sound hr 8 _ _ _ q2 (hv j as[j] v (by simp [hlt]) hu)
    · rintro e w' ⟨v, φ1, h1, h2, h3⟩
      obtain ⟨k1, k2, k3⟩ := new_core hr h2 h3 (.inl hf)
      exact ⟨v, _, _, _, h1, k1, k2, k3, hK⟩
  · refine (hp.2 w (fun b => X b ∨ ∃ id, φ id = some b) vs (fun b hb => hb.elim (fun hb => (hr.ext b hb).1) fun ⟨id, h⟩ => (hr.own id b h).2.1) hr.all hl fun j y v hj hu => (hv j y v hj hu).ro_of (ownsL_get ho j y hj)).mono ?_
    rintro e w' ⟨v, φ1, h1, h2, h3⟩
    obtain ⟨k1, k2, k3⟩ := new_core hr h2 h3 (.inr fun b hb => hb)
    exact ⟨v, _, _, _, h1, k1, k2, k3, hK⟩

/-! ### A call whose text is walked in place -/
def endG (P : Program) (L : Nat) (fn : Func) (K : AV → List Blk → Prop) : Ex → St → Prop
  | .exit _, _ => False
  | _, s => ∃ x x' H', resA P fn s = some x ∧ Weak P L ⟨[(0, x)], s.H⟩ ⟨[(0, x')], H'⟩ ∧ K x' H'
theorem Weak.refl {L : Nat} (s : St) : Weak P L s s := fun _ _ _ _ φ _ _ _ h => ⟨φ, h⟩
theorem res_val {fn : Func} {s : St} {x : AV} {B : From} {w0 : World} {X : Nat → Prop} {N : Nat} {φ : Nat → Option Nat} {a : Act} {w' : World} (hx : resA P fn s = some x) (hrel : Rel P B w0 X N s φ a w') :
    ∃ v, (results fn a.tmps).run P w' = .ok v w' ∧ RV P w' X φ s.H x v := by
  unfold resA at hx
  cases hl : fn.results.toList.mapM (res1 P s) with
  | none => rw [hl] at hx; simp at hx
  | some xs =>
    rw [hl] at hx
    obtain ⟨us, k1, k2, k3⟩ := res_run hrel _ xs hl
    have hrun : (results fn a.tmps).run P w' = .ok (if h : us.toArray.size = 1 then us.toArray[0] else .tuple us.toArray) w' := by
      rw [results_eq]; simp only [Sem.run_bind, Array.mapM_eq_mapM_toList, Sem.run_map, k1, Result.andThen_ok, Sem.run_pure]
    refine ⟨_, hrun, ?_⟩
    cases xs with
    | nil =>
      simp at hx
      subst hx
      have : us = [] := List.eq_nil_of_length_eq_zero (by simpa using k2)
      subst this
      exact .tup rfl (by simp)
    | cons x0 xs =>
      cases us with
      | nil => simp at k2
      | cons u0 us =>
        cases xs with
        | nil =>
          simp at hx
          subst hx
          have : us = [] := List.eq_nil_of_length_eq_zero (by simpa using k2)
          subst this
          exact k3 0 x0 u0 (by simp) (by simp)
        | cons x1 xs =>
          simp at hx
          subst hx
          cases us with
          | nil => simp at k2
          | cons u1 us =>
            rw [dif_neg (by simp)]
            exact .tup (by simpa using k2.symm) fun j y v hj hv => k3 j y v hj (by simpa using hv)
theorem start_t {args : List AV} {vs : Array Value} {n : Nat} {w : World} {X : Nat → Prop} {φ : Nat → Option Nat} {H : List Blk} (hn : args.length ≤ n) (hl : args.length = vs.size) (hv : ∀ (j : Nat) x v, args[j]? = some x → vs[j]? = some v → RV P w X φ H x v) (k : Nat) :
    RV P w X φ H (tget (argT 0 args) k) ((vs ++ Array.replicate (n - vs.size) undef).getD k undef) := by
  rw [tget_argT]
  simp only [Nat.zero_le, if_true, Nat.sub_zero]
  by_cases hk : k < args.length
  · have h1 : args.getD k .any = args[k] := by simp [List.getD, hk]
    have h2 : (vs ++ Array.replicate (n - vs.size) undef).getD k undef = vs[k]'(by omega) := by
      rw [Array.getD_eq_getD_getElem?, Array.getElem?_append_left (by omega)]
      simp [show k < vs.size by omega]
    rw [h1, h2]
    exact hv k args[k] _ (by simp [hk]) (by simp [show k < vs.size by omega])
  · have : args.getD k .any = .any := by simp [List.getD, List.getElem?_eq_none (Nat.le_of_not_lt hk)]
    rw [this]; exact .ro .any
theorem one_slot {B : From} {w0 : World} {X : Nat → Prop} {N : Nat} {s : St} {φ : Nat → Option Nat} {a : Act} {w : World} {x : AV} {v : Value} (hrel : Rel P B w0 X N s φ a w) (hv : RV P w X φ s.H x v) : Rel P B w0 X 1 ⟨[(0, x)], s.H⟩ φ { tmps := #[v], defers := [] } w := by
  refine ⟨hrel.hr, hrel.tn, fun k => ?_, rfl, rfl⟩
  simp only [tget]
  split
  · rename_i e; subst e; exact hv
  · exact .ro .any
/-- **A call whose text is walked in place.** -/
theorem inl_G (hm : P.follows .mixedOrders = true) {f : FuncId} {fn : Func} {c : Code} {args : List AV} {H : List Blk} {K : AV → List Blk → Prop} (hf : P.funcs[f]? = some fn) (hb : fn.body = some c) (he : entersB P f = true) (hn : args.length ≤ fn.ntmps) (hok : okCode fn.ntmps c = true)
    (h : vc P H.length c ⟨argT 0 args, H⟩ (endG P H.length fn K)) : CallG P f args H K := by
  refine ⟨he, fun w0 w X φ vs hr hl hv => calls_of_wp hf hb ?_⟩
  have hrel : Rel P ⟨w, φ, H⟩ w0 X fn.ntmps ⟨argT 0 args, H⟩ φ { tmps := vs ++ Array.replicate (fn.ntmps - vs.size) undef, defers := [] } w :=
    ⟨hr, Turn.refl _ _ _, start_t hn hl hv, by simp; omega, rfl⟩
  refine wp_mono (vc_sound (B := ⟨w, φ, H⟩) hm (Nat.le_refl _) c _ _ _ _ w hok h hrel) fun e a w' hq => ?_
  have key : ∀ s φ', endG P H.length fn K .ret s → Rel P ⟨w, φ, H⟩ w0 X fn.ntmps s φ' a w' → a.defers = [] ∧ ∃ v, (results fn a.tmps).run P w' = .ok v w' ∧ ∃ v' r φ' H', Ending.returned v = .returned v' ∧ HR P w0 X w' φ' H' ∧ Turn w φ H w' φ' H' ∧ RV P w' X φ' H' r v' ∧ K r H' := by
    intro s φ' hq hrel
    obtain ⟨x, x', H', hx, hW, hK⟩ := hq
    obtain ⟨v, h1, h2⟩ := res_val hx hrel
    obtain ⟨φ2, hrel2⟩ := hW ⟨w, φ, H⟩ w0 X 1 φ' _ w' (Nat.le_refl _) (one_slot hrel h2)
    refine ⟨hrel.df, v, h1, v, x', φ2, H', rfl, hrel2.hr, hrel2.tn, ?_, hK⟩
    have := hrel2.t 0
    simpa [tget] using this
  cases e with
  | normal => obtain ⟨s, φ', h1, h2⟩ := hq; exact key s φ' h1 h2
  | ret => obtain ⟨s, φ', h1, h2⟩ := hq; exact key s φ' h1 h2
  | exit id => obtain ⟨s, φ', h1, h2⟩ := hq; exact h1.elim
  | _ => exact hq.elim
/-- **A function that hands back memory of its own making.** -/
theorem new_of (hm : P.follows .mixedOrders = true) {f : FuncId} {fn : Func} {c : Code} {args : List AV} {r : AV} {H1 : List Blk} (hf : P.funcs[f]? = some fn) (hb : fn.body = some c) (he : entersB P f = true) (hn : args.length ≤ fn.ntmps) (hok : okCode fn.ntmps c = true)
    (h : vc P 0 c ⟨argT 0 args, []⟩ (endG P 0 fn fun x H' => x = r ∧ H' = H1)) : New P f args r H1 := by
  refine ⟨he, fun w X vs hX hvo hl hv => ?_⟩
  have hr0 : HR P w X w (fun _ => none) [] := ⟨hvo, Below.refl _ _, fun b hb => ⟨hX b hb, by simp⟩, fun _ _ h => by simp at h, fun _ _ _ h => by simp at h, fun _ _ _ h => by simp at h⟩
  refine ((inl_G (H := []) hm hf hb he hn hok h).2 w w X (fun _ => none) vs hr0 hl fun j x v hx hu => .ro ((hv j x v hx hu).mono (Nat.le_refl _) fun b hb _ => ⟨rfl, fun h => h.elim hb fun ⟨_, h⟩ => by simp at h⟩)).mono ?_
  rintro e w' ⟨v, r', φ', H', h1, h2, _, h4, rfl, rfl⟩
  exact ⟨v, φ', h1, h2, h4⟩
section
variable {L : Nat} {k : List Item} {s : St} {Q : Ex → St → Prop}
theorem new_intro {g : Nat} {caps args ys : List AV} {r : AV} {H1 : List Blk} {dst : Option Nat} {all rest : List Oper} (h : New P g ys r H1) (h1 : (args ++ caps).mapM (reify s.H 8) = some ys) (h2 : (flatO r = true ∧ H1.all flatB = true) ∨ (ys = args ++ caps ∧ ownsL (args ++ caps) = false))
    (h3 : run P L (.ops false all rest :: k) ⟨tputD s.T dst (shA s.H.length r), s.H ++ H1.map (shB s.H.length)⟩ Q) : callD P L (.fn g caps) args dst false all rest k s Q := callG_intro (new_G h h1 h2 h3)
theorem inl_intro (hm : P.follows .mixedOrders = true) {g : Nat} {fn : Func} {c : Code} {caps args : List AV} {dst : Option Nat} {all rest : List Oper} (hf : P.funcs[g]? = some fn) (hb : fn.body = some c) (he : entersB P g = true) (hn : (args ++ caps).length ≤ fn.ntmps) (hok : okCode fn.ntmps c = true)
    (h : run P s.H.length [.code c] ⟨argT 0 (args ++ caps), s.H⟩ (endG P s.H.length fn (contK P L false all rest k s.T dst Q))) : callD P L (.fn g caps) args dst false all rest k s Q :=
  callG_intro (inl_G hm hf hb he hn hok (vc_run h))
end
end
end Go.Proofs.Ytnldjmokemgaoaa
