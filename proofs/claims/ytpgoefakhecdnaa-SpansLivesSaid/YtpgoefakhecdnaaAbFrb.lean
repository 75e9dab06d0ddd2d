/- A variable of the call's own that nobody writes from there on: pointers to it read as memory. -/
import Derived.Test.YtpgoefakhecdnaaAbMv
namespace Go.Proofs.Ytpgoefakhecdnaa
set_option linter.unusedSimpArgs false
set_option linter.unusedVariables false
set_option linter.unnecessarySimpa false
set_option linter.unusedSectionVars false
open Go.RowKit
variable [Glob]
mutual
def fbA (id : Nat) (cs : List AV) : AV → AV
  | .op i o => if i = id then .rp (cs.drop o) else .op i o
  | .agg l => .agg (fbL id cs l)
  | .tup l => .tup (fbL id cs l)
  | .fn f l => .fn f (fbL id cs l)
  | v => v
def fbL (id : Nat) (cs : List AV) : List AV → List AV
  | [] => []
  | x :: r => fbA id cs x :: fbL id cs r
end
def fbB (id : Nat) (cs : List AV) : Blk → Blk
  | .box t l => .box t (fbL id cs l)
  | .row e nb rs => .row e nb (rs.map (fbL id cs))
  | .map es => .map (es.map fun e => (fbA id cs e.1, fbA id cs e.2))
  | .gone => .gone
  | .iter d n s => .iter d n s
def fbH (id : Nat) (cs : List AV) (H : List Blk) : List Blk := (H.map (fbB id cs)).set id .gone
theorem fbL_get {id : Nat} {cs : List AV} : ∀ (l : List AV) (j : Nat), (fbL id cs l)[j]? = (l[j]?).map (fbA id cs) := by
  intro l
  induction l with
  | nil => intro j; simp [fbL]
  | cons x l ih =>
    intro j
    cases j with
    | zero => simp [fbL]
    | succ j => simp only [fbL, List.getElem?_cons_succ]; exact ih j
theorem fbL_len {id : Nat} {cs : List AV} (l : List AV) : (fbL id cs l).length = l.length := by
  induction l with
  | nil => rfl
  | cons x l ih => simp [fbL, ih]
theorem fbL_same {id : Nat} {cs : List AV} : ∀ {l : List AV}, (∀ (j : Nat) x, l[j]? = some x → fbA id cs x = x) → fbL id cs l = l := by
  intro l
  induction l with
  | nil => intro _; rfl
  | cons x l ih =>
    intro h
    simp only [fbL]
    rw [h 0 x rfl, ih fun j y hj => h (j + 1) y (by simpa using hj)]
theorem tget_fbT {id : Nat} {cs : List AV} {T : List (Nat × AV)} {k : Nat} : tget (T.map fun p => (p.1, fbA id cs p.2)) k = fbA id cs (tget T k) := by
  induction T with
  | nil => rfl
  | cons p T ih =>
    obtain ⟨j, v⟩ := p
    simp only [List.map_cons, tget]
    split
    · rfl
    · exact ih
section
variable {P : Program} {w0 w : World} {X : Nat → Prop} {φ : Nat → Option Nat} {H : List Blk} {id : Nat} {cs : List AV} {t : TypeId}
theorem ro_fb {Y : Nat → Prop} {x : AV} {v : Value} (h : RO w Y x v) : fbA id cs x = x := by
  have key : ∀ {l : List AV} {vs : Array Value}, l.length = vs.size → (∀ (j : Nat) x v, l[j]? = some x → vs[j]? = some v → fbA id cs x = x) → fbL id cs l = l := fun hl ih =>
    fbL_same fun j x hj => by
      have hlt := (List.getElem?_eq_some_iff.1 hj).1
      exact ih j x _ hj (Array.getElem?_eq_getElem (by omega))
  induction h with
  | agg hl _ _ ih => simp only [fbA]; rw [key hl ih]
  | tup hl _ ih => simp only [fbA]; rw [key hl ih]
  | fn hl _ ih => simp only [fbA]; rw [key hl ih]
  | _ => rfl
theorem fbH_get {i : Nat} {b : Blk} (h : (fbH id cs H)[i]? = some b) : (i = id ∧ b = .gone) ∨ (i ≠ id ∧ ∃ b0, H[i]? = some b0 ∧ b = fbB id cs b0) := by
  unfold fbH at h
  by_cases e : id = i
  · subst e
    rw [List.getElem?_set] at h
    simp at h
    exact .inl ⟨rfl, h.2.symm⟩
  · rw [List.getElem?_set_ne e, List.getElem?_map, Option.map_eq_some_iff] at h
    obtain ⟨b0, h1, h2⟩ := h
    exact .inr ⟨fun q => e q.symm, b0, h1, h2.symm⟩
theorem fbH_len : (fbH id cs H).length = H.length := by simp [fbH]
/-- The pointer itself, for good. -/
theorem fb_op (hr : HR P w0 X w φ H) (hb : H[id]? = some (.box t cs)) (ho : ∀ c ∈ cs, owns c = false) {o : Nat} {v : Value} (hv : RV P w X φ H (.op id o) v) : RO w (fun b => X b ∨ ∃ i, clrF φ id i = some b) (.rp (cs.drop o)) v := by
  cases hv with
  | ro h => cases h
  | op h0 hid h =>
    obtain ⟨c, hφ, rfl⟩ := h _ _ hb
    obtain ⟨cur, h1, h2, h3⟩ := hr.blk id _ c hb hφ
    have hcX : ¬ (X c ∨ ∃ i, clrF φ id i = some c) := fun q => by
      rcases q with q | ⟨i, q⟩
      · exact (hr.ext c q).2 id hφ
      · obtain ⟨q1, q2⟩ := clrF_some q
        exact q1 (hr.inj i id c q2 hφ)
    have hclt := (hr.own id c hφ).2.1
    refine .rp (fun j => (cur[o + j]?).getD undef) hclt hcX (fun j x hj => ?_) fun j x hj => ?_
    · rw [List.getElem?_drop] at hj
      have hlt : o + j < cur.size := by rw [h2]; exact (List.getElem?_eq_some_iff.1 hj).1
      refine ⟨by rw [add_noneA, cell_row h1]; simp [hlt], ?_⟩
      have := (h3 (o + j) x cur[o + j] hj (by simp [hlt])).2
      simpa [hlt] using this
    · rw [List.getElem?_drop] at hj
      have hlt : o + j < cur.size := by rw [h2]; exact (List.getElem?_eq_some_iff.1 hj).1
      have h5 := (h3 (o + j) x cur[o + j] hj (by simp [hlt])).1
      have h6 := h5.ro_of (ho x (List.mem_of_getElem? hj))
      rw [Array.getElem?_eq_getElem hlt]
      refine h6.weaken fun b hb => ?_
      rcases hb with hb | ⟨i, hb⟩
      · exact .inl hb
      · exact .inr ⟨i, (clrF_some hb).2⟩
theorem fb_rv (hr : HR P w0 X w φ H) (hb : H[id]? = some (.box t cs)) (ho : ∀ c ∈ cs, owns c = false) {x : AV} {v : Value} (hv : RV P w X φ H x v) : RV P w X (clrF φ id) (fbH id cs H) (fbA id cs x) v := by
  induction hv with
  | ro h =>
    rw [ro_fb h]
    exact .ro (h.weaken fun b hb => hb.elim .inl fun ⟨i, hi⟩ => .inr ⟨i, (clrF_some hi).2⟩)
  | @op i o v h0 hid h =>
    simp only [fbA]
    split
    · rename_i e
      subst e
      exact .ro (fb_op hr hb ho (.op h0 hid h))
    · refine .op h0 (by rw [fbH_len]; exact hid) fun t cs hq => ?_
      rcases fbH_get hq with ⟨_, q⟩ | ⟨hne, b0, q1, q2⟩
      · cases q
      · cases b0 <;> simp [fbB] at q2
        obtain ⟨rfl, rfl⟩ := q2
        obtain ⟨c, h1, h2⟩ := h _ _ q1
        exact ⟨c, by unfold clrF; rw [if_neg hne]; exact h1, h2⟩
  | ep h0 hid h =>
    refine .ep h0 (by rw [fbH_len]; exact hid) fun e' nb' rs hq => ?_
    rcases fbH_get hq with ⟨_, q⟩ | ⟨hne, b0, q1, q2⟩
    · cases q
    · cases b0 <;> simp [fbB] at q2
      obtain ⟨rfl, rfl, rfl⟩ := q2
      obtain ⟨h1, h2⟩ := h _ _ _ q1
      refine ⟨by simpa using h1, fun q => ?_⟩
      obtain ⟨c, h3, h4⟩ := h2 (by simpa using q)
      exact ⟨c, by unfold clrF; rw [if_neg hne]; exact h3, h4⟩
  | @os id0 _ _ h0 hid h =>
    refine .os h0 (by rw [fbH_len]; exact hid) fun e' nb' rs hq => ?_
    rcases fbH_get hq with ⟨_, q⟩ | ⟨hne, b0, q1, q2⟩
    · cases q
    · cases b0 <;> simp [fbB] at q2
      obtain ⟨rfl, rfl, rfl⟩ := q2
      obtain ⟨h1, h2⟩ := h _ _ _ q1
      refine ⟨by simpa using h1, fun q => ?_⟩
      have e : clrF φ id id0 = φ id0 := by unfold clrF; rw [if_neg hne]
      rw [e]
      exact h2 (by simpa using q)
  | @ow id0 _ _ _ _ h0 hid h =>
    refine .ow h0 (by rw [fbH_len]; exact hid) fun e' nb' rs hq => ?_
    rcases fbH_get hq with ⟨_, q⟩ | ⟨hne, b0, q1, q2⟩
    · cases q
    · cases b0 <;> simp [fbB] at q2
      obtain ⟨rfl, rfl, rfl⟩ := q2
      obtain ⟨h1, h2⟩ := h _ _ _ q1
      refine ⟨by simpa using h1, fun q => ?_⟩
      have e : clrF φ id id0 = φ id0 := by unfold clrF; rw [if_neg hne]
      rw [e]
      exact h2 (by simpa using q)
  | mp h0 hid h =>
    refine .mp h0 (by rw [fbH_len]; exact hid) fun es hq => ?_
    rcases fbH_get hq with ⟨_, q⟩ | ⟨hne, b0, q1, q2⟩
    · cases q
    · cases b0 <;> simp [fbB] at q2
      obtain ⟨c, h1, h2⟩ := h _ q1
      exact ⟨c, by unfold clrF; rw [if_neg hne]; exact h1, h2⟩
  | ent h0 hid h =>
    refine .ent h0 (by rw [fbH_len]; exact hid) fun es hq => ?_
    rcases fbH_get hq with ⟨_, q⟩ | ⟨hne, b0, q1, q2⟩
    · cases q
    · cases b0 <;> simp [fbB] at q2
      obtain ⟨c, ents, clock, ent, h1, h2⟩ := h _ q1
      exact ⟨c, ents, clock, ent, by unfold clrF; rw [if_neg hne]; exact h1, h2⟩
  | it h0 hid h =>
    refine .it h0 (by rw [fbH_len]; exact hid) fun d n s hq => ?_
    rcases fbH_get hq with ⟨_, q⟩ | ⟨hne, b0, q1, q2⟩
    · cases q
    · cases b0 <;> simp [fbB] at q2
      obtain ⟨c, h1, h2⟩ := h _ _ _ q1
      exact ⟨c, by unfold clrF; rw [if_neg hne]; exact h1, h2⟩
  | agg hl h1 _ ih =>
    refine .agg (by rw [fbL_len]; exact hl) h1 fun j x v hj hu => ?_
    rw [fbL_get, Option.map_eq_some_iff] at hj
    obtain ⟨x0, hj, rfl⟩ := hj
    exact ih j x0 v hj hu
  | tup hl _ ih =>
    refine .tup (by rw [fbL_len]; exact hl) fun j x v hj hu => ?_
    rw [fbL_get, Option.map_eq_some_iff] at hj
    obtain ⟨x0, hj, rfl⟩ := hj
    exact ih j x0 v hj hu
  | fn hl _ ih =>
    refine .fn (by rw [fbL_len]; exact hl) fun j x v hj hu => ?_
    rw [fbL_get, Option.map_eq_some_iff] at hj
    obtain ⟨x0, hj, rfl⟩ := hj
    exact ih j x0 v hj hu
theorem fb_turn : Turn w φ H w (clrF φ id) (fbH id cs H) where
  size := Nat.le_refl _
  len := by rw [fbH_len]; exact Nat.le_refl _
  old := fun b h _ => ⟨rfl, fun i q => h i (clrF_some q).2⟩
  box := fun i t cs' _ h => by
    rcases fbH_get h with ⟨_, q⟩ | ⟨hne, b0, q1, q2⟩
    · cases q
    · cases b0 <;> simp [fbB] at q2
      obtain ⟨rfl, rfl⟩ := q2
      exact ⟨_, q1, fun c hc => by unfold clrF; rw [if_neg hne]; exact hc⟩
  row := fun i e' nb' rows' _ h => by
    rcases fbH_get h with ⟨_, q⟩ | ⟨hne, b0, q1, q2⟩
    · cases q
    · cases b0 <;> simp [fbB] at q2
      obtain ⟨rfl, rfl, rfl⟩ := q2
      have hi : clrF φ id i = φ i := by unfold clrF; rw [if_neg hne]
      exact ⟨_, q1, by simp, fun _ => ⟨fun _ h => by rw [hi]; exact h, fun c hc => ⟨by rw [hi]; exact hc, fun cur hcur => ⟨cur, hcur, rfl⟩⟩⟩⟩
  map := fun i es' _ h => by
    rcases fbH_get h with ⟨_, q⟩ | ⟨hne, b0, q1, q2⟩
    · cases q
    · cases b0 <;> simp [fbB] at q2
      exact ⟨_, q1, fun c hc => ⟨by unfold clrF; rw [if_neg hne]; exact hc, bornK_same rfl⟩⟩
  iter := fun i d n s _ h => by
    rcases fbH_get h with ⟨_, q⟩ | ⟨hne, b0, q1, q2⟩
    · cases q
    · cases b0 <;> simp [fbB] at q2
      exact ⟨_, _, _, q1, fun c hc => by unfold clrF; rw [if_neg hne]; exact hc⟩
theorem fb_hr (hr : HR P w0 X w φ H) (hb : H[id]? = some (.box t cs)) (ho : ∀ c ∈ cs, owns c = false) : HR P w0 X w (clrF φ id) (fbH id cs H) := by
  refine ⟨hr.vo, hr.fr, ext_turn hr (fb_turn (id := id) (cs := cs)), fun i c hc => ?_, fun i j c hi hj => hr.inj i j c (clrF_some hi).2 (clrF_some hj).2, fun i b c hi hc => ?_⟩
  · have := hr.own i c (clrF_some hc).2
    rw [fbH_len]; exact this
  · obtain ⟨hne, hc⟩ := clrF_some hc
    rcases fbH_get hi with ⟨q, _⟩ | ⟨_, b0, q1, rfl⟩
    · exact absurd q hne
    · have hbk := hr.blk i b0 c q1 hc
      cases b0 with
      | box t cs =>
        obtain ⟨cur, h1, h2, h3⟩ := hbk
        refine ⟨cur, h1, by rw [fbL_len]; exact h2, fun j x v hj hu => ?_⟩
        rw [fbL_get, Option.map_eq_some_iff] at hj
        obtain ⟨x0, hj, rfl⟩ := hj
        exact ⟨fb_rv hr hb ho (h3 j x0 v hj hu).1, (h3 j x0 v hj hu).2⟩
      | row e' nb' rs =>
        obtain ⟨cur, h1, h2, h3, h4⟩ := hbk
        refine ⟨cur, h1, fun row hrow => ?_, by simpa using h3, fun k j row x v hk hj hu => ?_⟩
        · obtain ⟨r0, hr0, rfl⟩ := List.mem_map.1 hrow
          rw [fbL_len]; exact h2 r0 hr0
        · rw [List.getElem?_map, Option.map_eq_some_iff] at hk
          obtain ⟨r0, hk, rfl⟩ := hk
          rw [fbL_get, Option.map_eq_some_iff] at hj
          obtain ⟨x0, hj, rfl⟩ := hj
          exact ⟨fb_rv hr hb ho (h4 k j r0 x0 v hk hj hu).1, (h4 k j r0 x0 v hk hj hu).2⟩
      | map es =>
        obtain ⟨ents, clock, h1, h2, h3, h4, h5⟩ := hbk
        refine ⟨ents, clock, h1, by simpa using h2, h3, h4, fun k kk x ent hk hu => ?_⟩
        rw [List.getElem?_map, Option.map_eq_some_iff] at hk
        obtain ⟨⟨k0, x0⟩, hk, q⟩ := hk
        simp at q
        obtain ⟨rfl, rfl⟩ := q
        obtain ⟨h6, h7⟩ := h5 k k0 x0 ent hk hu
        exact ⟨fb_rv hr hb ho h6, fb_rv hr hb ho h7⟩
      | gone => trivial
      | iter d n s =>
        cases d with
        | none => exact hbk
        | some mid =>
          obtain ⟨d, since, seenA, stepped, B, k1, k2, k3, k4, k5, k6, k7, k8⟩ := hbk
          refine ⟨d, since, seenA, stepped, B, k1, k2, k3, k4, k5, k6, by rw [fbH_len]; exact k7, fun es hes => ?_⟩
          rcases fbH_get hes with ⟨_, q⟩ | ⟨hne2, b1, q1, q2⟩
          · cases q
          · cases b1 <;> simp [fbB] at q2
            obtain ⟨r1, r2⟩ := k8 _ q1
            exact ⟨by unfold clrF; rw [if_neg hne2]; exact r1, r2⟩
/-- A variable becomes memory that nobody writes. -/
theorem weak_frb {L : Nat} {s : St} (id : Nat) (t : TypeId) (cs : List AV) (hb : s.H[id]? = some (.box t cs)) (ho : ∀ c ∈ cs, owns c = false) :
    Weak P L s ⟨s.T.map fun p => (p.1, fbA id cs p.2), fbH id cs s.H⟩ := by
  intro B w0 X N φ a w hB hrel
  exact ⟨_, fb_hr hrel.hr hb ho, hrel.tn.trans fb_turn, fun k => by rw [tget_fbT]; exact fb_rv hrel.hr hb ho (hrel.t k), hrel.size, hrel.df⟩
/-- A call, one of the variables being memory that nobody writes from there on. -/
theorem frb_G {g : FuncId} {args : List AV} {K : AV → List Blk → Prop} (hb : H[id]? = some (.box t cs)) (ho : ∀ c ∈ cs, owns c = false) (h : CallG P g (fbL id cs args) (fbH id cs H) K) : CallG P g args H K :=
  ⟨h.1, fun w0 w X φ vs hr hl hv => (h.2 w0 w X (clrF φ id) vs (fb_hr hr hb ho) (by rw [fbL_len]; exact hl) (fun j x v hj hu => by
      rw [fbL_get, Option.map_eq_some_iff] at hj
      obtain ⟨x0, hj, rfl⟩ := hj
      exact fb_rv hr hb ho (hv j x0 v hj hu))).mono fun e w' ⟨v, r, φ', H', k1, k2, k3, k4, k5⟩ => ⟨v, r, φ', H', k1, k2, fb_turn.trans k3, k4, k5⟩⟩
end
end Go.Proofs.Ytpgoefakhecdnaa
