/- Calls that take an own slice for good: from there on nobody writes it. -/
import Derived.Test.YtdkcmfafganhhaaDoorM3
namespace Go.Proofs.YtdkcmfafganhhaaDoor
set_option linter.unusedSimpArgs false
set_option linter.unusedVariables false
set_option linter.unnecessarySimpa false
set_option linter.unusedSectionVars false
open Go.RowKit
variable [Glob]
mutual
def frA (id : Nat) (rows : List (List AV)) : AV → AV
  | .os i k => if i = id ∧ k = rows.length then .rs rows else .os i k
  | .agg l => .agg (frL id rows l)
  | .tup l => .tup (frL id rows l)
  | .fn f l => .fn f (frL id rows l)
  | v => v
def frL (id : Nat) (rows : List (List AV)) : List AV → List AV
  | [] => []
  | x :: r => frA id rows x :: frL id rows r
end
def frB (id : Nat) (rows : List (List AV)) : Blk → Blk
  | .box t cs => .box t (frL id rows cs)
  | .row e nb rs => .row e nb (rs.map (frL id rows))
  | .map es => .map (es.map fun e => (frA id rows e.1, frA id rows e.2))
  | .gone => .gone
  | .iter d n s => .iter d n s
/-- The blocks from there on: slice number id is memory that nobody writes. -/
def frH (id : Nat) (rows : List (List AV)) (H : List Blk) : List Blk := (H.map (frB id rows)).set id .gone
def clrF (φ : Nat → Option Nat) (id : Nat) : Nat → Option Nat := fun i => if i = id then none else φ i
theorem frL_get {id : Nat} {rows : List (List AV)} : ∀ (l : List AV) (j : Nat), (frL id rows l)[j]? = (l[j]?).map (frA id rows) := by
  intro l
  induction l with
  | nil => intro j; simp [frL]
  | cons x l ih =>
    intro j
    cases j with
    | zero => simp [frL]
    | succ j => simp only [frL, List.getElem?_cons_succ]; exact ih j
theorem frL_len {id : Nat} {rows : List (List AV)} (l : List AV) : (frL id rows l).length = l.length := by
  induction l with
  | nil => rfl
  | cons x l ih => simp [frL, ih]
theorem frL_same {id : Nat} {rows : List (List AV)} : ∀ {l : List AV}, (∀ (j : Nat) x, l[j]? = some x → frA id rows x = x) → frL id rows l = l := by
  intro l
  induction l with
  | nil => intro _; rfl
  | cons x l ih =>
    intro h
    simp only [frL]
    rw [h 0 x rfl, ih fun j y hj => h (j + 1) y (by simpa using hj)]
section
variable {P : Program} {w0 w : World} {X : Nat → Prop} {φ : Nat → Option Nat} {H : List Blk} {id : Nat} {rows : List (List AV)} {e : TypeId} {nb : Bool}
theorem ro_fr {Y : Nat → Prop} {x : AV} {v : Value} (h : RO w Y x v) : frA id rows x = x := by
  have key : ∀ {cs : List AV} {vs : Array Value}, cs.length = vs.size → (∀ (j : Nat) x v, cs[j]? = some x → vs[j]? = some v → frA id rows x = x) → frL id rows cs = cs := fun hl ih =>
    frL_same fun j x hj => by
      have hlt := (List.getElem?_eq_some_iff.1 hj).1
      exact ih j x _ hj (Array.getElem?_eq_getElem (by omega))
  induction h with
  | agg hl _ _ ih => simp only [frA]; rw [key hl ih]
  | tup hl _ ih => simp only [frA]; rw [key hl ih]
  | fn hl _ ih => simp only [frA]; rw [key hl ih]
  | _ => rfl
theorem frH_get {i : Nat} {b : Blk} (h : (frH id rows H)[i]? = some b) : (i = id ∧ b = .gone) ∨ (i ≠ id ∧ ∃ b0, H[i]? = some b0 ∧ b = frB id rows b0) := by
  unfold frH at h
  by_cases e : id = i
  · subst e
    rw [List.getElem?_set] at h
    simp at h
    exact .inl ⟨rfl, h.2.symm⟩
  · rw [List.getElem?_set_ne e, List.getElem?_map, Option.map_eq_some_iff] at h
    obtain ⟨b0, h1, h2⟩ := h
    exact .inr ⟨fun q => e q.symm, b0, h1, h2.symm⟩
theorem frH_len : (frH id rows H).length = H.length := by simp [frH]
theorem clrF_some {i c : Nat} (h : clrF φ id i = some c) : i ≠ id ∧ φ i = some c := by
  unfold clrF at h
  split at h
  · simp at h
  · exact ⟨by assumption, h⟩
/-- The slice itself, for good. -/
theorem fr_os (hr : HR P w0 X w φ H) (hb : H[id]? = some (.row e nb rows)) (ho : ∀ r ∈ rows, ∀ c ∈ r, owns c = false) {v : Value} (hv : RV P w X φ H (.os id rows.length) v) : RO w (fun b => X b ∨ ∃ i, clrF φ id i = some b) (.rs rows) v := by
  have hφ1 : ∀ i c, (fun i => if i = id then φ id else none) i = some c → i = id ∧ φ id = some c := fun i c h => by
    simp only at h
    split at h
    · exact ⟨by assumption, h⟩
    · simp at h
  have hr1 : HR P w0 (fun b => X b ∨ ∃ i, clrF φ id i = some b) w (fun i => if i = id then φ id else none) H := by
    refine ⟨hr.vo.more fun b hb hz => ?_, hr.fr, fun b hb => ⟨?_, fun i hi => ?_⟩, fun i c hc => ?_, fun i j c hi hj => ?_, fun i b c hi hc => ?_⟩
    · rcases hz with hz | ⟨i, hz⟩
      · exact hz
      · have := (hr.own i b (clrF_some hz).2).1; omega
    · rcases hb with hb | ⟨i, hb⟩
      · exact (hr.ext b hb).1
      · exact (hr.own i b (clrF_some hb).2).2.1
    · obtain ⟨rfl, hi⟩ := hφ1 i b hi
      rcases hb with hb | ⟨k, hb⟩
      · exact (hr.ext b hb).2 i hi
      · obtain ⟨h1, h2⟩ := clrF_some hb
        exact h1 (hr.inj k i b h2 hi)
    · obtain ⟨rfl, hc⟩ := hφ1 i c hc
      exact hr.own i c hc
    · rw [(hφ1 i c hi).1, (hφ1 j c hj).1]
    · obtain ⟨rfl, hc⟩ := hφ1 i c hc
      rw [hb] at hi
      simp at hi
      subst hi
      obtain ⟨cur, h1, h2, h3, h4⟩ := hr.blk i _ c hb hc
      refine ⟨cur, h1, h2, h3, fun k j row x u q1 q2 q3 => ?_⟩
      obtain ⟨q4, q5⟩ := h4 k j row x u q1 q2 q3
      refine ⟨.ro ((q4.ro_of (ho row (List.mem_of_getElem? q1) x (List.mem_of_getElem? q2))).weaken fun b hb => ?_), q5⟩
      rcases hb with (hb | ⟨k2, hb⟩) | ⟨k2, hb⟩
      · exact .inl hb
      · exact .inr ⟨k2, (clrF_some hb).2⟩
      · obtain ⟨rfl, hb⟩ := hφ1 k2 b hb
        exact .inr ⟨k2, hb⟩
  have hv1 : RV P w (fun b => X b ∨ ∃ i, clrF φ id i = some b) (fun i => if i = id then φ id else none) H (.os id rows.length) v := by
    cases hv with
    | ro h => cases h
    | os h0 hid h => exact .os h0 hid fun e' nb' rs' hq => by simpa using h e' nb' rs' hq
  cases hv with
  | ro h => cases h
  | os h0 hid h =>
    rcases (h _ _ _ hb).2 rfl with ⟨_, _, ⟨A, rfl⟩, hz⟩ | ⟨c, cap, cur, hφ, rfl, hheap, hsz, hcap, hncap⟩
    · have : rows = [] := List.eq_nil_of_length_eq_zero hz
      subst this
      exact .rs 0 (fun _ _ => undef) rfl (Nat.le_refl _) (by simp) (by simp)
    · obtain ⟨cur', h1, h2, h3, h4⟩ := hr1.blk id _ c hb (by simpa using hφ)
      rw [hheap] at h1
      simp at h1
      subst h1
      have hcX : ¬ (X c ∨ ∃ i, clrF φ id i = some c) := fun q => (hr1.ext c q).2 id (by simpa using hφ)
      have hclt := (hr.own id c hφ).2.1
      have hcell : ∀ k, k < cur.size → w.cell? ((⟨c, 0, none⟩ : Addr).add k) = some (cur[k]?.getD undef) := fun k hk => by
        by_cases hz : k = 0
        · subst hz; simp [World.cell?, Addr.add, hheap, hk]
        · simp [World.cell?, Addr.add, hz, hheap, hk]
      have hidx : ∀ (i j : Nat) row, rows[i]? = some row → j < P.cellsOf e → i * P.cellsOf e + j < cur.size := fun i j row hi hj => by
        have hil := (List.getElem?_eq_some_iff.1 hi).1
        have : (i + 1) * P.cellsOf e ≤ rows.length * P.cellsOf e := Nat.mul_le_mul_right _ hil
        rw [Nat.add_mul, Nat.one_mul] at this
        omega
      refine .rs (P.cellsOf e) (fun i j => cur[i * P.cellsOf e + j]?.getD undef) rfl hncap (fun i row hi => ⟨h2 row (List.mem_of_getElem? hi), _, rfl, hclt, hcX, fun j hj => ?_⟩) fun i j row x hi hj => ?_
      · have hlt := hidx i j row hi hj
        refine ⟨hcell _ hlt, ?_⟩
        have hrl := h2 row (List.mem_of_getElem? hi)
        have := (h4 i j row (row[j]'(by omega)) cur[i * P.cellsOf e + j] hi (List.getElem?_eq_getElem (by omega)) (Array.getElem?_eq_getElem hlt)).2
        rw [Array.getElem?_eq_getElem hlt]
        exact this
      · have hrl := h2 row (List.mem_of_getElem? hi)
        have hjl := (List.getElem?_eq_some_iff.1 hj).1
        have hlt := hidx i j row hi (by omega)
        have h5 := (h4 i j row x cur[i * P.cellsOf e + j] hi hj (Array.getElem?_eq_getElem hlt)).1
        have h6 := h5.ro_of (ho row (List.mem_of_getElem? hi) x (List.mem_of_getElem? hj))
        rw [Array.getElem?_eq_getElem hlt]
        exact h6.weaken fun b hb => .inl hb
theorem fr_rv (hr : HR P w0 X w φ H) (hb : H[id]? = some (.row e nb rows)) (ho : ∀ r ∈ rows, ∀ c ∈ r, owns c = false) {x : AV} {v : Value} (hv : RV P w X φ H x v) : RV P w X (clrF φ id) (frH id rows H) (frA id rows x) v := by
  induction hv with
  | ro h =>
    rw [ro_fr h]
    exact .ro (h.weaken fun b hb => hb.elim .inl fun ⟨i, hi⟩ => .inr ⟨i, (clrF_some hi).2⟩)
  | op h0 hid h =>
    refine .op h0 (by rw [frH_len]; exact hid) fun t cs hq => ?_
    rcases frH_get hq with ⟨_, q⟩ | ⟨hne, b0, q1, q2⟩
    · cases q
    · cases b0 <;> simp [frB] at q2
      obtain ⟨rfl, rfl⟩ := q2
      obtain ⟨c, h1, h2⟩ := h _ _ q1
      exact ⟨c, by unfold clrF; rw [if_neg hne]; exact h1, h2⟩
  | ep h0 hid h =>
    refine .ep h0 (by rw [frH_len]; exact hid) fun e' nb' rs hq => ?_
    rcases frH_get hq with ⟨_, q⟩ | ⟨hne, b0, q1, q2⟩
    · cases q
    · cases b0 <;> simp [frB] at q2
      obtain ⟨rfl, rfl, rfl⟩ := q2
      obtain ⟨h1, h2⟩ := h _ _ _ q1
      refine ⟨by simpa using h1, fun q => ?_⟩
      obtain ⟨c, h3, h4⟩ := h2 (by simpa using q)
      exact ⟨c, by unfold clrF; rw [if_neg hne]; exact h3, h4⟩
  | @os id0 n v h0 hid h =>
    simp only [frA]
    split
    · rename_i hc
      obtain ⟨rfl, rfl⟩ := hc
      exact .ro (fr_os hr hb ho (.os h0 hid h))
    · rename_i hc
      refine .os h0 (by rw [frH_len]; exact hid) fun e' nb' rs hq => ?_
      rcases frH_get hq with ⟨_, q⟩ | ⟨hne, b0, q1, q2⟩
      · cases q
      · cases b0 <;> simp [frB] at q2
        obtain ⟨rfl, rfl, rfl⟩ := q2
        obtain ⟨h1, h2⟩ := h _ _ _ q1
        refine ⟨by simpa using h1, fun q => ?_⟩
        rcases h2 (by simpa using q) with ⟨g1, g2, g3, g4⟩ | ⟨c, cap, cur, g1, g2⟩
        · exact .inl ⟨g1, by unfold clrF; rw [if_neg hne]; exact g2, g3, g4⟩
        · exact .inr ⟨c, cap, cur, by unfold clrF; rw [if_neg hne]; exact g1, g2⟩
  | @ow id0 n lo hi v h0 hid h =>
    simp only [frA]
    refine .ow h0 (by rw [frH_len]; exact hid) fun e' nb' rs hq => ?_
    rcases frH_get hq with ⟨_, q⟩ | ⟨hne, b0, q1, q2⟩
    · cases q
    · cases b0 <;> simp [frB] at q2
      obtain ⟨rfl, rfl, rfl⟩ := q2
      obtain ⟨h1, h2⟩ := h _ _ _ q1
      refine ⟨by simpa using h1, fun q => ?_⟩
      obtain ⟨A, c, cap, cur, g1, g2⟩ := h2 (by simpa using q)
      exact ⟨A, c, cap, cur, by unfold clrF; rw [if_neg hne]; exact g1, g2⟩
  | mp h0 hid h =>
    refine .mp h0 (by rw [frH_len]; exact hid) fun es hq => ?_
    rcases frH_get hq with ⟨_, q⟩ | ⟨hne, b0, q1, q2⟩
    · cases q
    · cases b0 <;> simp [frB] at q2
      obtain ⟨c, h1, h2⟩ := h _ q1
      exact ⟨c, by unfold clrF; rw [if_neg hne]; exact h1, h2⟩
  | ent h0 hid h =>
    refine .ent h0 (by rw [frH_len]; exact hid) fun es hq => ?_
    rcases frH_get hq with ⟨_, q⟩ | ⟨hne, b0, q1, q2⟩
    · cases q
    · cases b0 <;> simp [frB] at q2
      obtain ⟨c, ents, clock, ent, h1, h2⟩ := h _ q1
      exact ⟨c, ents, clock, ent, by unfold clrF; rw [if_neg hne]; exact h1, h2⟩
  | it h0 hid h =>
    refine .it h0 (by rw [frH_len]; exact hid) fun d n s hq => ?_
    rcases frH_get hq with ⟨_, q⟩ | ⟨hne, b0, q1, q2⟩
    · cases q
    · cases b0 <;> simp [frB] at q2
      obtain ⟨c, h1, h2⟩ := h _ _ _ q1
      exact ⟨c, by unfold clrF; rw [if_neg hne]; exact h1, h2⟩
  | agg hl h1 _ ih =>
    refine .agg (by rw [frL_len]; exact hl) h1 fun j x v hj hu => ?_
    rw [frL_get, Option.map_eq_some_iff] at hj
    obtain ⟨x0, hj, rfl⟩ := hj
    exact ih j x0 v hj hu
  | tup hl _ ih =>
    refine .tup (by rw [frL_len]; exact hl) fun j x v hj hu => ?_
    rw [frL_get, Option.map_eq_some_iff] at hj
    obtain ⟨x0, hj, rfl⟩ := hj
    exact ih j x0 v hj hu
  | fn hl _ ih =>
    refine .fn (by rw [frL_len]; exact hl) fun j x v hj hu => ?_
    rw [frL_get, Option.map_eq_some_iff] at hj
    obtain ⟨x0, hj, rfl⟩ := hj
    exact ih j x0 v hj hu
theorem fr_turn : Turn w φ H w (clrF φ id) (frH id rows H) where
  size := Nat.le_refl _
  len := by rw [frH_len]; exact Nat.le_refl _
  old := fun b h _ => ⟨rfl, fun i q => h i (clrF_some q).2⟩
  box := fun i t cs' _ h => by
    rcases frH_get h with ⟨_, q⟩ | ⟨hne, b0, q1, q2⟩
    · cases q
    · cases b0 <;> simp [frB] at q2
      obtain ⟨rfl, rfl⟩ := q2
      exact ⟨_, q1, fun c hc => by unfold clrF; rw [if_neg hne]; exact hc⟩
  row := fun i e' nb' rows' _ h => by
    rcases frH_get h with ⟨_, q⟩ | ⟨hne, b0, q1, q2⟩
    · cases q
    · cases b0 <;> simp [frB] at q2
      obtain ⟨rfl, rfl, rfl⟩ := q2
      have hi : clrF φ id i = φ i := by unfold clrF; rw [if_neg hne]
      exact ⟨_, q1, by simp, fun _ => ⟨fun _ h => by rw [hi]; exact h, fun c hc => ⟨by rw [hi]; exact hc, fun cur hcur => ⟨cur, hcur, rfl⟩⟩⟩⟩
  map := fun i es' _ h => by
    rcases frH_get h with ⟨_, q⟩ | ⟨hne, b0, q1, q2⟩
    · cases q
    · cases b0 <;> simp [frB] at q2
      exact ⟨_, q1, fun c hc => ⟨by unfold clrF; rw [if_neg hne]; exact hc, bornK_same rfl⟩⟩
  iter := fun i d n s _ h => by
    rcases frH_get h with ⟨_, q⟩ | ⟨hne, b0, q1, q2⟩
    · cases q
    · cases b0 <;> simp [frB] at q2
      exact ⟨_, _, _, q1, fun c hc => by unfold clrF; rw [if_neg hne]; exact hc⟩
theorem fr_hr (hr : HR P w0 X w φ H) (hb : H[id]? = some (.row e nb rows)) (ho : ∀ r ∈ rows, ∀ c ∈ r, owns c = false) : HR P w0 X w (clrF φ id) (frH id rows H) := by
  refine ⟨hr.vo, hr.fr, ext_turn hr (fr_turn (id := id) (rows := rows)), fun i c hc => ?_, fun i j c hi hj => hr.inj i j c (clrF_some hi).2 (clrF_some hj).2, fun i b c hi hc => ?_⟩
  · have := hr.own i c (clrF_some hc).2
    rw [frH_len]; exact this
  · obtain ⟨hne, hc⟩ := clrF_some hc
    rcases frH_get hi with ⟨q, _⟩ | ⟨_, b0, q1, rfl⟩
    · exact absurd q hne
    · have hbk := hr.blk i b0 c q1 hc
      cases b0 with
      | box t cs =>
        obtain ⟨cur, h1, h2, h3⟩ := hbk
        refine ⟨cur, h1, by rw [frL_len]; exact h2, fun j x v hj hu => ?_⟩
        rw [frL_get, Option.map_eq_some_iff] at hj
        obtain ⟨x0, hj, rfl⟩ := hj
        exact ⟨fr_rv hr hb ho (h3 j x0 v hj hu).1, (h3 j x0 v hj hu).2⟩
      | row e' nb' rs =>
        obtain ⟨cur, h1, h2, h3, h4⟩ := hbk
        refine ⟨cur, h1, fun row hrow => ?_, by simpa using h3, fun k j row x v hk hj hu => ?_⟩
        · obtain ⟨r0, hr0, rfl⟩ := List.mem_map.1 hrow
          rw [frL_len]; exact h2 r0 hr0
        · rw [List.getElem?_map, Option.map_eq_some_iff] at hk
          obtain ⟨r0, hk, rfl⟩ := hk
          rw [frL_get, Option.map_eq_some_iff] at hj
          obtain ⟨x0, hj, rfl⟩ := hj
          exact ⟨fr_rv hr hb ho (h4 k j r0 x0 v hk hj hu).1, (h4 k j r0 x0 v hk hj hu).2⟩
      | map es =>
        obtain ⟨ents, clock, h1, h2, h3, h4, h5⟩ := hbk
        refine ⟨ents, clock, h1, by simpa using h2, h3, h4, fun k kk x ent hk hu => ?_⟩
        rw [List.getElem?_map, Option.map_eq_some_iff] at hk
        obtain ⟨⟨k0, x0⟩, hk, q⟩ := hk
        simp at q
        obtain ⟨rfl, rfl⟩ := q
        obtain ⟨h6, h7⟩ := h5 k k0 x0 ent hk hu
        exact ⟨fr_rv hr hb ho h6, fr_rv hr hb ho h7⟩
      | gone => trivial
      | iter d n s =>
        cases d with
        | none => exact hbk
        | some mid =>
          obtain ⟨d, since, seenA, stepped, B, k1, k2, k3, k4, k5, k6, k7, k8⟩ := hbk
          refine ⟨d, since, seenA, stepped, B, k1, k2, k3, k4, k5, k6, by rw [frH_len]; exact k7, fun es hes => ?_⟩
          rcases frH_get hes with ⟨_, q⟩ | ⟨hne2, b1, q1, q2⟩
          · cases q
          · cases b1 <;> simp [frB] at q2
            obtain ⟨r1, r2⟩ := k8 _ q1
            exact ⟨by unfold clrF; rw [if_neg hne2]; exact r1, r2⟩
/-- A call that hands back memory, one of whose arguments is (or holds) an own slice. -/
theorem frz_G {g : FuncId} {args ys : List AV} {r : AV} {K : AV → List Blk → Prop} (hp : Pure P g ys r) (hb : H[id]? = some (.row e nb rows)) (ho : ∀ r ∈ rows, ∀ c ∈ r, owns c = false) (hy : frL id rows args = ys) (hos : ownsL ys = false) (hK : K r (frH id rows H)) : CallG P g args H K := by
  refine ⟨hp.1, fun w0 w X φ vs hr hl hv => ?_⟩
  have hr1 := fr_hr hr hb ho
  refine (hp.2 w (fun b => X b ∨ ∃ i, clrF φ id i = some b) vs (fun b hb => hb.elim (fun hb => (hr.ext b hb).1) fun ⟨i, h⟩ => (hr.own i b (clrF_some h).2).2.1) hr1.all (by rw [← hy, frL_len]; exact hl) fun j y v hj hu => ?_).mono ?_
  · have hos' := ownsL_get hos j y hj
    rw [← hy, frL_get, Option.map_eq_some_iff] at hj
    obtain ⟨x0, hj, rfl⟩ := hj
    exact (fr_rv hr hb ho (hv j x0 v hj hu)).ro_of hos'
  · rintro e' w' ⟨v, rfl, h2, h3⟩
    exact ⟨v, r, _, _, rfl, hr_below hr1 h3, fr_turn.trans (turn_below hr1 h3), .ro h2, hK⟩
end
attribute [simp] frL
end Go.Proofs.YtdkcmfafganhhaaDoor
