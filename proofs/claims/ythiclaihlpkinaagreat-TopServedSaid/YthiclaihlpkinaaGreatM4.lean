/- Several texts of the abstract machine, one behind the other. -/
import Derived.Test.YthiclaihlpkinaaGreatM3
set_option linter.unusedSimpArgs false
set_option linter.unusedVariables false
set_option linter.unnecessarySimpa false
set_option linter.unusedSectionVars false
namespace Go.Proofs.YthiclaihlpkinaaGreat
open Go.RowKit
variable [Glob]
mutual
def frA (id : Nat) (rows : List (List AV)) : AV → AV
  | .os i k => if i = id ∧ k = rows.length then .rs rows else .os i k
  | .agg l => .agg (frL id rows l)
  | .tup l => .tup (frL id rows l)
  | .fn f l => .fn f (frL id rows l)
  | v => v
def frL (id : Nat) (rows : List (List AV)) : List AV → List AV
  | [] => []
  | x :: r => frA id rows x :: frL id rows r
end
def frB (id : Nat) (rows : List (List AV)) : Blk → Blk
  | .box t cs => .box t (frL id rows cs)
  | .row e nb rs => .row e nb (rs.map (frL id rows))
  | .map es => .map (es.map fun e => (frA id rows e.1, frA id rows e.2))
  | .gone => .gone
  | .iter d n s => .iter d n s
/-- The blocks from there on: slice number id is memory that nobody writes. -/
def frH (id : Nat) (rows : List (List AV)) (H : List Blk) : List Blk := (H.map (frB id rows)).set id .gone
def clrF (φ : Nat → Option Nat) (id : Nat) : Nat → Option Nat := fun i => if i = id then none else φ i
theorem frL_get {id : Nat} {rows : List (List AV)} : ∀ (l : List AV) (j : Nat), (frL id rows l)[j]? = (l[j]?).map (frA id rows) := by
  intro l
  induction l with
  | nil => intro j; simp [frL]
  | cons x l ih =>
    intro j
    cases j with
    | zero => simp [frL]
    | succ j => simp only [frL, List.getElem?_cons_succ]; exact ih j
theorem frL_len {id : Nat} {rows : List (List AV)} (l : List AV) : (frL id rows l).length = l.length := by
  induction l with
  | nil => rfl
  | cons x l ih => simp [frL, ih]
theorem frL_same {id : Nat} {rows : List (List AV)} : ∀ {l : List AV}, (∀ (j : Nat) x, l[j]? = some x → frA id rows x = x) → frL id rows l = l := by
  intro l
  induction l with
  | nil => intro _; rfl
  | cons x l ih =>
    intro h
    simp only [frL]
    rw [h 0 x rfl, ih fun j y hj => h (j + 1) y (by simpa using hj)]
section
variable {P : Program} {w0 w : World} {X : Nat → Prop} {φ : Nat → Option Nat} {H : List Blk} {id : Nat} {rows : List (List AV)} {e : TypeId} {nb : Bool}
theorem ro_fr {Y : Nat → Prop} {x : AV} {v : Value} (h : RO w Y x v) : frA id rows x = x := by
  have key : ∀ {cs : List AV} {vs : Array Value}, cs.length = vs.size → (∀ (j : Nat) x v, cs[j]? = some x → vs[j]? = some v → frA id rows x = x) → frL id rows cs = cs := fun hl ih =>
    frL_same fun j x hj => by
      have hlt := (List.getElem?_eq_some_iff.1 hj).1
      exact ih j x _ hj (Array.getElem?_eq_getElem (by omega))
  induction h with
  | agg hl _ _ ih => simp only [frA]; rw [key hl ih]
  | tup hl _ ih => simp only [frA]; rw [key hl ih]
  | fn hl _ ih => simp only [frA]; rw [key hl ih]
  | _ => rfl
theorem frH_get {i : Nat} {b : Blk} (h : (frH id rows H)[i]? = some b) : (i = id ∧ b = .gone) ∨ (i ≠ id ∧ ∃ b0, H[i]? = some b0 ∧ b = frB id rows b0) := by
  unfold frH at h
  by_cases e : id = i
  · subst e
    rw [List.getElem?_set] at h
    simp at h
    exact .inl ⟨rfl, h.2.symm⟩
  · rw [List.getElem?_set_ne e, List.getElem?_map, Option.map_eq_some_iff] at h
    obtain ⟨b0, h1, h2⟩ := h
    exact .inr ⟨fun q => e q.symm, b0, h1, h2.symm⟩
theorem frH_len : (frH id rows H).length = H.length := by simp [frH]
theorem clrF_some {i c : Nat} (h : clrF φ id i = some c) : i ≠ id ∧ φ i = some c := by
  unfold clrF at h
  split at h
  · simp at h
  · exact ⟨by assumption, h⟩
/-- The slice itself, for good. -/
theorem fr_os (hr : HR P w0 X w φ H) (hb : H[id]? = some (.row e nb rows)) (ho : ∀ r ∈ rows, ∀ c ∈ r, owns c = false) {v : Value} (hv : RV P w X φ H (.os id rows.length) v) : RO w (fun b => X b ∨ ∃ i, clrF φ id i = some b) (.rs rows) v := by
  have hφ1 : ∀ i c, (fun i => if i = id then φ id else none) i = some c → i = id ∧ φ id = some c := fun i c h => by
    simp only at h
    split at h
    · exact ⟨by assumption, h⟩
    · simp at h
  have hr1 : HR P w0 (fun b => X b ∨ ∃ i, clrF φ id i = some b) w (fun i => if i = id then φ id else none) H := by
    refine ⟨hr.vo.more fun b hb hz => ?_, hr.fr, fun b hb => ⟨?_, fun i hi => ?_⟩, fun i c hc => ?_, fun i j c hi hj => ?_, fun i b c hi hc => ?_⟩
    · rcases hz with hz | ⟨i, hz⟩
      · exact hz
      · have := (hr.own i b (clrF_some hz).2).1; omega
    · rcases hb with hb | ⟨i, hb⟩
      · exact (hr.ext b hb).1
      · exact (hr.own i b (clrF_some hb).2).2.1
    · obtain ⟨rfl, hi⟩ := hφ1 i b hi
      rcases hb with hb | ⟨k, hb⟩
      · exact (hr.ext b hb).2 i hi
      · obtain ⟨h1, h2⟩ := clrF_some hb
        exact h1 (hr.inj k i b h2 hi)
    · obtain ⟨rfl, hc⟩ := hφ1 i c hc
      exact hr.own i c hc
    · rw [(hφ1 i c hi).1, (hφ1 j c hj).1]
    · obtain ⟨rfl, hc⟩ := hφ1 i c hc
      rw [hb] at hi
      simp at hi
      subst hi
      obtain ⟨cur, h1, h2, h3, h4⟩ := hr.blk i _ c hb hc
      refine ⟨cur, h1, h2, h3, fun k j row x u q1 q2 q3 => ?_⟩
      obtain ⟨q4, q5⟩ := h4 k j row x u q1 q2 q3
      refine ⟨.ro ((q4.ro_of (ho row (List.mem_of_getElem? q1) x (List.mem_of_getElem? q2))).weaken fun b hb => ?_), q5⟩
      rcases hb with (hb | ⟨k2, hb⟩) | ⟨k2, hb⟩
      · exact .inl hb
      · exact .inr ⟨k2, (clrF_some hb).2⟩
      · obtain ⟨rfl, hb⟩ := hφ1 k2 b hb
        exact .inr ⟨k2, hb⟩
  have hv1 : RV P w (fun b => X b ∨ ∃ i, clrF φ id i = some b) (fun i => if i = id then φ id else none) H (.os id rows.length) v := by
    cases hv with
    | ro h => cases h
    | os h0 hid h => exact .os h0 hid fun e' nb' rs' hq => by simpa using h e' nb' rs' hq
  cases hv with
  | ro h => cases h
  | os h0 hid h =>
    rcases (h _ _ _ hb).2 rfl with ⟨_, _, ⟨A, rfl⟩, hz⟩ | ⟨c, cap, cur, hφ, rfl, hheap, hsz, hcap, hncap⟩
    · have : rows = [] := List.eq_nil_of_length_eq_zero hz
      subst this
      exact .rs 0 (fun _ _ => undef) rfl (Nat.le_refl _) (by simp) (by simp)
    · obtain ⟨cur', h1, h2, h3, h4⟩ := hr1.blk id _ c hb (by simpa using hφ)
      rw [hheap] at h1
      simp at h1
      subst h1
      have hcX : ¬ (X c ∨ ∃ i, clrF φ id i = some c) := fun q => (hr1.ext c q).2 id (by simpa using hφ)
      have hclt := (hr.own id c hφ).2.1
      have hcell : ∀ k, k < cur.size → w.cell? ((⟨c, 0, none⟩ : Addr).add k) = some (cur[k]?.getD undef) := fun k hk => by
        by_cases hz : k = 0
        · subst hz; simp [World.cell?, Addr.add, hheap, hk]
        · simp [World.cell?, Addr.add, hz, hheap, hk]
      have hidx : ∀ (i j : Nat) row, rows[i]? = some row → j < P.cellsOf e → i * P.cellsOf e + j < cur.size := fun i j row hi hj => by
        have hil := (List.getElem?_eq_some_iff.1 hi).1
        have : (i + 1) * P.cellsOf e ≤ rows.length * P.cellsOf e := Nat.mul_le_mul_right _ hil
        rw [Nat.add_mul, Nat.one_mul] at this
        omega
      refine .rs (P.cellsOf e) (fun i j => cur[i * P.cellsOf e + j]?.getD undef) rfl hncap (fun i row hi => ⟨h2 row (List.mem_of_getElem? hi), _, rfl, hclt, hcX, fun j hj => ?_⟩) fun i j row x hi hj => ?_
      · have hlt := hidx i j row hi hj
        refine ⟨hcell _ hlt, ?_⟩
        have hrl := h2 row (List.mem_of_getElem? hi)
        have := (h4 i j row (row[j]'(by omega)) cur[i * P.cellsOf e + j] hi (List.getElem?_eq_getElem (by omega)) (Array.getElem?_eq_getElem hlt)).2
        rw [Array.getElem?_eq_getElem hlt]
        exact this
      · have hrl := h2 row (List.mem_of_getElem? hi)
        have hjl := (List.getElem?_eq_some_iff.1 hj).1
        have hlt := hidx i j row hi (by omega)
        have h5 := (h4 i j row x cur[i * P.cellsOf e + j] hi hj (Array.getElem?_eq_getElem hlt)).1
        have h6 := h5.ro_of (ho row (List.mem_of_getElem? hi) x (List.mem_of_getElem? hj))
        rw [Array.getElem?_eq_getElem hlt]
        exact h6.weaken fun b hb => .inl hb
theorem fr_rv (hr : HR P w0 X w φ H) (hb : H[id]? = some (.row e nb rows)) (ho : ∀ r ∈ rows, ∀ c ∈ r, owns c = false) {x : AV} {v : Value} (hv : RV P w X φ H x v) : RV P w X (clrF φ id) (frH id rows H) (frA id rows x) v := by
  induction hv with
  | ro h =>
    rw [ro_fr h]
    exact .ro (h.weaken fun b hb => hb.elim .inl fun ⟨i, hi⟩ => .inr ⟨i, (clrF_some hi).2⟩)
  | op h0 hid h =>
    refine .op h0 (by rw [frH_len]; exact hid) fun t cs hq => ?_
    rcases frH_get hq with ⟨_, q⟩ | ⟨hne, b0, q1, q2⟩
    · cases q
    · cases b0 <;> simp [frB] at q2
      obtain ⟨rfl, rfl⟩ := q2
      obtain ⟨c, h1, h2⟩ := h _ _ q1
      exact ⟨c, by unfold clrF; rw [if_neg hne]; exact h1, h2⟩
  | ep h0 hid h =>
    refine .ep h0 (by rw [frH_len]; exact hid) fun e' nb' rs hq => ?_
    rcases frH_get hq with ⟨_, q⟩ | ⟨hne, b0, q1, q2⟩
    · cases q
    · cases b0 <;> simp [frB] at q2
      obtain ⟨rfl, rfl, rfl⟩ := q2
      obtain ⟨h1, h2⟩ := h _ _ _ q1
      refine ⟨by simpa using h1, fun q => ?_⟩
      obtain ⟨c, h3, h4⟩ := h2 (by simpa using q)
      exact ⟨c, by unfold clrF; rw [if_neg hne]; exact h3, h4⟩
  | @os id0 n v h0 hid h =>
    simp only [frA]
    split
    · rename_i hc
      obtain ⟨rfl, rfl⟩ := hc
      exact .ro (fr_os hr hb ho (.os h0 hid h))
    · rename_i hc
      refine .os h0 (by rw [frH_len]; exact hid) fun e' nb' rs hq => ?_
      rcases frH_get hq with ⟨_, q⟩ | ⟨hne, b0, q1, q2⟩
      · cases q
      · cases b0 <;> simp [frB] at q2
        obtain ⟨rfl, rfl, rfl⟩ := q2
        obtain ⟨h1, h2⟩ := h _ _ _ q1
        refine ⟨by simpa using h1, fun q => ?_⟩
        rcases h2 (by simpa using q) with ⟨g1, g2, g3, g4⟩ | ⟨c, cap, cur, g1, g2⟩
        · exact .inl ⟨g1, by unfold clrF; rw [if_neg hne]; exact g2, g3, g4⟩
        · exact .inr ⟨c, cap, cur, by unfold clrF; rw [if_neg hne]; exact g1, g2⟩
  | @ow id0 n lo hi v h0 hid h =>
    simp only [frA]
    refine .ow h0 (by rw [frH_len]; exact hid) fun e' nb' rs hq => ?_
    rcases frH_get hq with ⟨_, q⟩ | ⟨hne, b0, q1, q2⟩
    · cases q
    · cases b0 <;> simp [frB] at q2
      obtain ⟨rfl, rfl, rfl⟩ := q2
      obtain ⟨h1, h2⟩ := h _ _ _ q1
      refine ⟨by simpa using h1, fun q => ?_⟩
      obtain ⟨A, c, cap, cur, g1, g2⟩ := h2 (by simpa using q)
      exact ⟨A, c, cap, cur, by unfold clrF; rw [if_neg hne]; exact g1, g2⟩
  | mp h0 hid h =>
    refine .mp h0 (by rw [frH_len]; exact hid) fun es hq => ?_
    rcases frH_get hq with ⟨_, q⟩ | ⟨hne, b0, q1, q2⟩
    · cases q
    · cases b0 <;> simp [frB] at q2
      obtain ⟨c, h1, h2⟩ := h _ q1
      exact ⟨c, by unfold clrF; rw [if_neg hne]; exact h1, h2⟩
  | ent h0 hid h =>
    refine .ent h0 (by rw [frH_len]; exact hid) fun es hq => ?_
    rcases frH_get hq with ⟨_, q⟩ | ⟨hne, b0, q1, q2⟩
    · cases q
    · cases b0 <;> simp [frB] at q2
      obtain ⟨c, ents, clock, ent, h1, h2⟩ := h _ q1
      exact ⟨c, ents, clock, ent, by unfold clrF; rw [if_neg hne]; exact h1, h2⟩
  | it h0 hid h =>
    refine .it h0 (by rw [frH_len]; exact hid) fun d n s hq => ?_
    rcases frH_get hq with ⟨_, q⟩ | ⟨hne, b0, q1, q2⟩
    · cases q
    · cases b0 <;> simp [frB] at q2
      obtain ⟨c, h1, h2⟩ := h _ _ _ q1
      exact ⟨c, by unfold clrF; rw [if_neg hne]; exact h1, h2⟩
  | agg hl h1 _ ih =>
    refine .agg (by rw [frL_len]; exact hl) h1 fun j x v hj hu => ?_
    rw [frL_get, Option.map_eq_some_iff] at hj
    obtain ⟨x0, hj, rfl⟩ := hj
    exact ih j x0 v hj hu
  | tup hl _ ih =>
    refine .tup (by rw [frL_len]; exact hl) fun j x v hj hu => ?_
    rw [frL_get, Option.map_eq_some_iff] at hj
    obtain ⟨x0, hj, rfl⟩ := hj
    exact ih j x0 v hj hu
  | fn hl _ ih =>
    refine .fn (by rw [frL_len]; exact hl) fun j x v hj hu => ?_
    rw [frL_get, Option.map_eq_some_iff] at hj
    obtain ⟨x0, hj, rfl⟩ := hj
    exact ih j x0 v hj hu
theorem fr_turn : Turn w φ H w (clrF φ id) (frH id rows H) where
  size := Nat.le_refl _
  len := by rw [frH_len]; exact Nat.le_refl _
  old := fun b h _ => ⟨rfl, fun i q => h i (clrF_some q).2⟩
  box := fun i t cs' _ h => by
    rcases frH_get h with ⟨_, q⟩ | ⟨hne, b0, q1, q2⟩
    · cases q
    · cases b0 <;> simp [frB] at q2
      obtain ⟨rfl, rfl⟩ := q2
      exact ⟨_, q1, fun c hc => by unfold clrF; rw [if_neg hne]; exact hc⟩
  row := fun i e' nb' rows' _ h => by
    rcases frH_get h with ⟨_, q⟩ | ⟨hne, b0, q1, q2⟩
    · cases q
    · cases b0 <;> simp [frB] at q2
      obtain ⟨rfl, rfl, rfl⟩ := q2
      have hi : clrF φ id i = φ i := by unfold clrF; rw [if_neg hne]
      exact ⟨_, q1, by simp, fun _ => ⟨fun _ h => by rw [hi]; exact h, fun c hc => ⟨by rw [hi]; exact hc, fun cur hcur => ⟨cur, hcur, rfl⟩⟩⟩⟩
  map := fun i es' _ h => by
    rcases frH_get h with ⟨_, q⟩ | ⟨hne, b0, q1, q2⟩
    · cases q
    · cases b0 <;> simp [frB] at q2
      exact ⟨_, q1, fun c hc => ⟨by unfold clrF; rw [if_neg hne]; exact hc, bornK_same rfl⟩⟩
  iter := fun i d n s _ h => by
    rcases frH_get h with ⟨_, q⟩ | ⟨hne, b0, q1, q2⟩
    · cases q
    · cases b0 <;> simp [frB] at q2
      exact ⟨_, _, _, q1, fun c hc => by unfold clrF; rw [if_neg hne]; exact hc⟩
theorem fr_hr (hr : HR P w0 X w φ H) (hb : H[id]? = some (.row e nb rows)) (ho : ∀ r ∈ rows, ∀ c ∈ r, owns c = false) : HR P w0 X w (clrF φ id) (frH id rows H) := by
  refine ⟨hr.vo, hr.fr, ext_turn hr (fr_turn (id := id) (rows := rows)), fun i c hc => ?_, fun i j c hi hj => hr.inj i j c (clrF_some hi).2 (clrF_some hj).2, fun i b c hi hc => ?_⟩
  · have := hr.own i c (clrF_some hc).2
    rw [frH_len]; exact this
  · obtain ⟨hne, hc⟩ := clrF_some hc
    rcases frH_get hi with ⟨q, _⟩ | ⟨_, b0, q1, rfl⟩
    · exact absurd q hne
    · have hbk := hr.blk i b0 c q1 hc
      cases b0 with
      | box t cs =>
        obtain ⟨cur, h1, h2, h3⟩ := hbk
        refine ⟨cur, h1, by rw [frL_len]; exact h2, fun j x v hj hu => ?_⟩
        rw [frL_get, Option.map_eq_some_iff] at hj
        obtain ⟨x0, hj, rfl⟩ := hj
        exact ⟨fr_rv hr hb ho (h3 j x0 v hj hu).1, (h3 j x0 v hj hu).2⟩
      | row e' nb' rs =>
        obtain ⟨cur, h1, h2, h3, h4⟩ := hbk
        refine ⟨cur, h1, fun row hrow => ?_, by simpa using h3, fun k j row x v hk hj hu => ?_⟩
        · obtain ⟨r0, hr0, rfl⟩ := List.mem_map.1 hrow
          rw [frL_len]; exact h2 r0 hr0
        · rw [List.getElem?_map, Option.map_eq_some_iff] at hk
          obtain ⟨r0, hk, rfl⟩ := hk
          rw [frL_get, Option.map_eq_some_iff] at hj
          obtain ⟨x0, hj, rfl⟩ := hj
          exact ⟨fr_rv hr hb ho (h4 k j r0 x0 v hk hj hu).1, (h4 k j r0 x0 v hk hj hu).2⟩
      | map es =>
        obtain ⟨ents, clock, h1, h2, h3, h4, h5⟩ := hbk
        refine ⟨ents, clock, h1, by simpa using h2, h3, h4, fun k kk x ent hk hu => ?_⟩
        rw [List.getElem?_map, Option.map_eq_some_iff] at hk
        obtain ⟨⟨k0, x0⟩, hk, q⟩ := hk
        simp at q
        obtain ⟨rfl, rfl⟩ := q
        obtain ⟨h6, h7⟩ := h5 k k0 x0 ent hk hu
        exact ⟨fr_rv hr hb ho h6, fr_rv hr hb ho h7⟩
      | gone => trivial
      | iter d n s =>
        cases d with
        | none => exact hbk
        | some mid =>
          obtain ⟨d, since, seenA, stepped, B, k1, k2, k3, k4, k5, k6, k7, k8⟩ := hbk
          refine ⟨d, since, seenA, stepped, B, k1, k2, k3, k4, k5, k6, by rw [frH_len]; exact k7, fun es hes => ?_⟩
          rcases frH_get hes with ⟨_, q⟩ | ⟨hne2, b1, q1, q2⟩
          · cases q
          · cases b1 <;> simp [frB] at q2
            obtain ⟨r1, r2⟩ := k8 _ q1
            exact ⟨by unfold clrF; rw [if_neg hne2]; exact r1, r2⟩
/-- A call that hands back memory, one of whose arguments is (or holds) an own slice. -/
theorem frz_G {g : FuncId} {args ys : List AV} {r : AV} {K : AV → List Blk → Prop} (hp : Pure P g ys r) (hb : H[id]? = some (.row e nb rows)) (ho : ∀ r ∈ rows, ∀ c ∈ r, owns c = false) (hy : frL id rows args = ys) (hos : ownsL ys = false) (hK : K r (frH id rows H)) : CallG P g args H K := by
  refine ⟨hp.1, fun w0 w X φ vs hr hl hv => ?_⟩
  have hr1 := fr_hr hr hb ho
  refine (hp.2 w (fun b => X b ∨ ∃ i, clrF φ id i = some b) vs (fun b hb => hb.elim (fun hb => (hr.ext b hb).1) fun ⟨i, h⟩ => (hr.own i b (clrF_some h).2).2.1) hr1.all (by rw [← hy, frL_len]; exact hl) fun j y v hj hu => ?_).mono ?_
  · have hos' := ownsL_get hos j y hj
    rw [← hy, frL_get, Option.map_eq_some_iff] at hj
    obtain ⟨x0, hj, rfl⟩ := hj
    exact (fr_rv hr hb ho (hv j x0 v hj hu)).ro_of hos'
  · rintro e' w' ⟨v, rfl, h2, h3⟩
    exact ⟨v, r, _, _, rfl, hr_below hr1 h3, fr_turn.trans (turn_below hr1 h3), .ro h2, hK⟩
/-- A slice that nobody writes from there on, before a call. -/
theorem frz_step {g : FuncId} {args : List AV} {K : AV → List Blk → Prop} (hb : H[id]? = some (.row e nb rows)) (ho : ∀ r ∈ rows, ∀ c ∈ r, owns c = false) (h : CallG P g (frL id rows args) (frH id rows H) K) : CallG P g args H K := by
  refine ⟨h.1, fun w0 w X φ vs hr hl hv => ?_⟩
  refine (h.2 w0 w X (clrF φ id) vs (fr_hr hr hb ho) (by rw [frL_len]; exact hl) fun j y v hj hu => ?_).mono ?_
  · rw [frL_get, Option.map_eq_some_iff] at hj
    obtain ⟨x0, hj, rfl⟩ := hj
    exact fr_rv hr hb ho (hv j x0 v hj hu)
  · rintro e' w' ⟨v, r, φ', H', h1, h2, h3, h4, h5⟩
    exact ⟨v, r, φ', H', h1, h2, fr_turn.trans h3, h4, h5⟩
end
attribute [simp] frL
end Go.Proofs.YthiclaihlpkinaaGreat
namespace Go.Proofs.YthiclaihlpkinaaGreat
open Go.RowKit
variable [Glob]
mutual
def mvA (id n m N : Nat) : AV → AV
  | .ow i k lo hi => if i = id ∧ k = n ∧ lo = 0 ∧ hi = m then .os N m else .ow i k lo hi
  | .agg l => .agg (mvL id n m N l)
  | .tup l => .tup (mvL id n m N l)
  | .fn f l => .fn f (mvL id n m N l)
  | v => v
def mvL (id n m N : Nat) : List AV → List AV
  | [] => []
  | x :: r => mvA id n m N x :: mvL id n m N r
end
def mvB (id n m N : Nat) : Blk → Blk
  | .box t cs => .box t (mvL id n m N cs)
  | .row e nb rs => .row e nb (rs.map (mvL id n m N))
  | .map es => .map (es.map fun e => (mvA id n m N e.1, mvA id n m N e.2))
  | .gone => .gone
  | .iter d k s => .iter d k s
def mvT (id n m N : Nat) (T : List (Nat × AV)) : List (Nat × AV) := T.map fun p => (p.1, mvA id n m N p.2)
/-- The blocks from there on. -/
def mvH (id n m N : Nat) (b : Blk) (H : List Blk) : List Blk := (H.map (mvB id n m N)).set id .gone ++ [mvB id n m N b]
def mvφ (φ : Nat → Option Nat) (id N : Nat) : Nat → Option Nat := fun i => if i = id then none else if i = N then φ id else φ i
section
variable {id n m N : Nat}
theorem mvL_get : ∀ (l : List AV) (j : Nat), (mvL id n m N l)[j]? = (l[j]?).map (mvA id n m N) := by
  intro l
  induction l with
  | nil => intro j; simp [mvL]
  | cons x l ih =>
    intro j
    cases j with
    | zero => simp [mvL]
    | succ j => simp only [mvL, List.getElem?_cons_succ]; exact ih j
theorem mvL_len (l : List AV) : (mvL id n m N l).length = l.length := by
  induction l with
  | nil => rfl
  | cons x l ih => simp [mvL, ih]
theorem mvL_same : ∀ {l : List AV}, (∀ (j : Nat) x, l[j]? = some x → mvA id n m N x = x) → mvL id n m N l = l := by
  intro l
  induction l with
  | nil => intro _; rfl
  | cons x l ih =>
    intro h
    simp only [mvL]
    rw [h 0 x rfl, ih fun j y hj => h (j + 1) y (by simpa using hj)]
theorem tget_mvT {T : List (Nat × AV)} {k : Nat} : tget (mvT id n m N T) k = mvA id n m N (tget T k) := by
  induction T with
  | nil => rfl
  | cons p T ih =>
    obtain ⟨j, v⟩ := p
    simp only [mvT, List.map_cons, tget]
    split
    · rfl
    · exact ih
theorem tget_frT {rows : List (List AV)} {T : List (Nat × AV)} {k : Nat} : tget (T.map fun p => (p.1, frA id rows p.2)) k = frA id rows (tget T k) := by
  induction T with
  | nil => rfl
  | cons p T ih =>
    obtain ⟨j, v⟩ := p
    simp only [List.map_cons, tget]
    split
    · rfl
    · exact ih
end
section
variable {P : Program} {w0 w : World} {X : Nat → Prop} {φ : Nat → Option Nat} {H : List Blk} {id n m : Nat} {rows : List (List AV)} {e : TypeId} {nb : Bool}
theorem ro_mv {N : Nat} {Y : Nat → Prop} {x : AV} {v : Value} (h : RO w Y x v) : mvA id n m N x = x := by
  have key : ∀ {cs : List AV} {vs : Array Value}, cs.length = vs.size → (∀ (j : Nat) x v, cs[j]? = some x → vs[j]? = some v → mvA id n m N x = x) → mvL id n m N cs = cs := fun hl ih =>
    mvL_same fun j x hj => by
      have hlt := (List.getElem?_eq_some_iff.1 hj).1
      exact ih j x _ hj (Array.getElem?_eq_getElem (by omega))
  induction h with
  | agg hl _ _ ih => simp only [mvA]; rw [key hl ih]
  | tup hl _ ih => simp only [mvA]; rw [key hl ih]
  | fn hl _ ih => simp only [mvA]; rw [key hl ih]
  | _ => rfl
theorem mvH_len {N : Nat} {b : Blk} : (mvH id n m N b H).length = H.length + 1 := by simp [mvH]
theorem mvH_old {b : Blk} {i : Nat} {b' : Blk} (hi : i < H.length) (h : (mvH id n m H.length b H)[i]? = some b') : (i = id ∧ b' = .gone) ∨ (i ≠ id ∧ ∃ b0, H[i]? = some b0 ∧ b' = mvB id n m H.length b0) := by
  unfold mvH at h
  rw [List.getElem?_append_left (by simpa using hi)] at h
  by_cases e : id = i
  · subst e
    rw [List.getElem?_set] at h
    simp at h
    exact .inl ⟨rfl, h.2.symm⟩
  · rw [List.getElem?_set_ne e, List.getElem?_map, Option.map_eq_some_iff] at h
    obtain ⟨b0, h1, h2⟩ := h
    exact .inr ⟨fun q => e q.symm, b0, h1, h2.symm⟩
theorem mvH_new {b : Blk} : (mvH id n m H.length b H)[H.length]? = some (mvB id n m H.length b) := by
  unfold mvH
  rw [List.getElem?_append_right (by simp)]
  simp
theorem mvφ_some {N i c : Nat} (h : mvφ φ id N i = some c) : i ≠ id ∧ ((i = N ∧ φ id = some c) ∨ (i ≠ N ∧ φ i = some c)) := by
  unfold mvφ at h
  split at h
  · simp at h
  · split at h
    · exact ⟨by assumption, .inl ⟨by assumption, h⟩⟩
    · exact ⟨by assumption, .inr ⟨by assumption, h⟩⟩
theorem mvφ_old {i : Nat} (h : i ≠ id) (hi : i < H.length) : mvφ φ id H.length i = φ i := by
  unfold mvφ
  rw [if_neg h, if_neg (by omega)]
theorem mv_own (hid : id < H.length) (hφ : ∀ i c, φ i = some c → i < H.length) {b : Nat} : (∃ i, mvφ φ id H.length i = some b) → ∃ i, φ i = some b := fun ⟨i, hi⟩ => by
  rcases (mvφ_some hi).2 with ⟨_, h⟩ | ⟨_, h⟩
  · exact ⟨_, h⟩
  · exact ⟨_, h⟩
theorem mv_rv (hr : HR P w0 X w φ H) (hb : H[id]? = some (.row e nb rows)) (hn : rows.length = n) (hm : m ≤ n) (h0 : 0 < n) {x : AV} {v : Value} (hv : RV P w X φ H x v) :
    RV P w X (mvφ φ id H.length) (mvH id n m H.length (.row e nb (rows.take m)) H) (mvA id n m H.length x) v := by
  have hidl : id < H.length := (List.getElem?_eq_some_iff.1 hb).1
  have hlen : ∀ i, i < H.length → i < (mvH id n m H.length (.row e nb (rows.take m)) H).length := fun i hi => by rw [mvH_len]; omega
  induction hv with
  | ro h =>
    rw [ro_mv h]
    exact .ro (h.weaken fun b hb => hb.elim .inl fun hb => .inr (mv_own hidl (fun i c hc => (hr.own i c hc).2.2) hb))
  | op h0 hid h =>
    refine .op h0 (hlen _ hid) fun t cs hq => ?_
    rcases mvH_old hid hq with ⟨_, q⟩ | ⟨hne, b0, q1, q2⟩
    · cases q
    · cases b0 <;> simp [mvB] at q2
      obtain ⟨rfl, rfl⟩ := q2
      obtain ⟨c, h1, h2⟩ := h _ _ q1
      exact ⟨c, by rw [mvφ_old hne hid]; exact h1, h2⟩
  | ep h0 hid h =>
    refine .ep h0 (hlen _ hid) fun e' nb' rs hq => ?_
    rcases mvH_old hid hq with ⟨_, q⟩ | ⟨hne, b0, q1, q2⟩
    · cases q
    · cases b0 <;> simp [mvB] at q2
      obtain ⟨rfl, rfl, rfl⟩ := q2
      obtain ⟨h1, h2⟩ := h _ _ _ q1
      refine ⟨by simpa using h1, fun q => ?_⟩
      obtain ⟨c, h3, h4⟩ := h2 (by simpa using q)
      exact ⟨c, by rw [mvφ_old hne hid]; exact h3, h4⟩
  | os h0 hid h =>
    refine .os h0 (hlen _ hid) fun e' nb' rs hq => ?_
    rcases mvH_old hid hq with ⟨_, q⟩ | ⟨hne, b0, q1, q2⟩
    · cases q
    · cases b0 <;> simp [mvB] at q2
      obtain ⟨rfl, rfl, rfl⟩ := q2
      obtain ⟨h1, h2⟩ := h _ _ _ q1
      refine ⟨by simpa using h1, fun q => ?_⟩
      rw [mvφ_old hne hid]
      exact h2 (by simpa using q)
  | @ow id0 k lo hi v h0' hid h =>
    simp only [mvA]
    split
    · rename_i hc
      obtain ⟨rfl, rfl, rfl, rfl⟩ := hc
      refine .os h0' (by rw [mvH_len]; omega) fun e' nb' rs hq => ?_
      rw [mvH_new] at hq
      simp only [mvB, Option.some.injEq, Blk.row.injEq] at hq
      obtain ⟨rfl, rfl, rfl⟩ := hq
      have hl : (List.map (mvL id0 k hi H.length) (rows.take hi)).length = hi := by simp; omega
      refine ⟨by omega, fun _ => .inr ?_⟩
      obtain ⟨A, c, cap, cur, g1, rfl, gA, g2, g3, g4, g5, g6, g7⟩ := (h _ _ _ hb).2 hn.symm
      rw [gA (by omega)]
      refine ⟨c, cap, cur, ?_, by simp, g2, g3, g4, by omega⟩
      unfold mvφ
      rw [if_neg (by omega), if_pos rfl]
      exact g1
    · refine .ow h0' (hlen _ hid) fun e' nb' rs hq => ?_
      rcases mvH_old hid hq with ⟨_, q⟩ | ⟨hne, b0, q1, q2⟩
      · cases q
      · cases b0 <;> simp [mvB] at q2
        obtain ⟨rfl, rfl, rfl⟩ := q2
        obtain ⟨h1, h2⟩ := h _ _ _ q1
        refine ⟨by simpa using h1, fun q => ?_⟩
        rw [mvφ_old hne hid]
        exact h2 (by simpa using q)
  | mp h0 hid h =>
    refine .mp h0 (hlen _ hid) fun es hq => ?_
    rcases mvH_old hid hq with ⟨_, q⟩ | ⟨hne, b0, q1, q2⟩
    · cases q
    · cases b0 <;> simp [mvB] at q2
      obtain ⟨c, h1, h2⟩ := h _ q1
      exact ⟨c, by rw [mvφ_old hne hid]; exact h1, h2⟩
  | ent h0 hid h =>
    refine .ent h0 (hlen _ hid) fun es hq => ?_
    rcases mvH_old hid hq with ⟨_, q⟩ | ⟨hne, b0, q1, q2⟩
    · cases q
    · cases b0 <;> simp [mvB] at q2
      obtain ⟨c, ents, clock, ent, h1, h2⟩ := h _ q1
      exact ⟨c, ents, clock, ent, by rw [mvφ_old hne hid]; exact h1, h2⟩
  | it h0 hid h =>
    refine .it h0 (hlen _ hid) fun d k s hq => ?_
    rcases mvH_old hid hq with ⟨_, q⟩ | ⟨hne, b0, q1, q2⟩
    · cases q
    · cases b0 <;> simp [mvB] at q2
      obtain ⟨c, h1, h2⟩ := h _ _ _ q1
      exact ⟨c, by rw [mvφ_old hne hid]; exact h1, h2⟩
  | agg hl h1 _ ih =>
    refine .agg (by rw [mvL_len]; exact hl) h1 fun j x v hj hu => ?_
    rw [mvL_get, Option.map_eq_some_iff] at hj
    obtain ⟨x0, hj, rfl⟩ := hj
    exact ih j x0 v hj hu
  | tup hl _ ih =>
    refine .tup (by rw [mvL_len]; exact hl) fun j x v hj hu => ?_
    rw [mvL_get, Option.map_eq_some_iff] at hj
    obtain ⟨x0, hj, rfl⟩ := hj
    exact ih j x0 v hj hu
  | fn hl _ ih =>
    refine .fn (by rw [mvL_len]; exact hl) fun j x v hj hu => ?_
    rw [mvL_get, Option.map_eq_some_iff] at hj
    obtain ⟨x0, hj, rfl⟩ := hj
    exact ih j x0 v hj hu
theorem BlkOk.mv (hr : HR P w0 X w φ H) (hb : H[id]? = some (.row e nb rows)) (hn : rows.length = n) (hm : m ≤ n) (h0 : 0 < n) {c : Nat} {b0 : Blk} (hbk : BlkOk P w X φ H c b0) :
    BlkOk P w X (mvφ φ id H.length) (mvH id n m H.length (.row e nb (rows.take m)) H) c (mvB id n m H.length b0) := by
  have hv := fun x v => mv_rv (x := x) (v := v) hr hb hn hm h0
  cases b0 with
  | box t cs =>
    obtain ⟨cur, h1, h2, h3⟩ := hbk
    refine ⟨cur, h1, by rw [mvL_len]; exact h2, fun j x v hj hu => ?_⟩
    rw [mvL_get, Option.map_eq_some_iff] at hj
    obtain ⟨x0, hj, rfl⟩ := hj
    exact ⟨hv _ _ (h3 j x0 v hj hu).1, (h3 j x0 v hj hu).2⟩
  | row e' nb' rs =>
    obtain ⟨cur, h1, h2, h3, h4⟩ := hbk
    refine ⟨cur, h1, fun row hrow => ?_, by simpa using h3, fun k j row x v hk hj hu => ?_⟩
    · obtain ⟨r0, hr0, rfl⟩ := List.mem_map.1 hrow
      rw [mvL_len]; exact h2 r0 hr0
    · rw [List.getElem?_map, Option.map_eq_some_iff] at hk
      obtain ⟨r0, hk, rfl⟩ := hk
      rw [mvL_get, Option.map_eq_some_iff] at hj
      obtain ⟨x0, hj, rfl⟩ := hj
      exact ⟨hv _ _ (h4 k j r0 x0 v hk hj hu).1, (h4 k j r0 x0 v hk hj hu).2⟩
  | map es =>
    obtain ⟨ents, clock, h1, h2, h3, h4, h5⟩ := hbk
    refine ⟨ents, clock, h1, by simpa using h2, h3, h4, fun k kk x ent hk hu => ?_⟩
    rw [List.getElem?_map, Option.map_eq_some_iff] at hk
    obtain ⟨⟨k0, x0⟩, hk, q⟩ := hk
    simp at q
    obtain ⟨rfl, rfl⟩ := q
    obtain ⟨h6, h7⟩ := h5 k k0 x0 ent hk hu
    exact ⟨hv _ _ h6, hv _ _ h7⟩
  | gone => trivial
  | iter d k s =>
    cases d with
    | none => exact hbk
    | some mid =>
      obtain ⟨d, since, seenA, stepped, B, k1, k2, k3, k4, k5, k6, k7, k8⟩ := hbk
      refine ⟨d, since, seenA, stepped, B, k1, k2, k3, k4, k5, k6, by rw [mvH_len]; omega, fun es hes => ?_⟩
      rcases mvH_old k7 hes with ⟨_, q⟩ | ⟨hne, b1, q1, q2⟩
      · cases q
      · cases b1 <;> simp [mvB] at q2
        obtain ⟨r1, r2⟩ := k8 _ q1
        exact ⟨by rw [mvφ_old hne k7]; exact r1, r2⟩
theorem mv_turn (hr : HR P w0 X w φ H) (hb : H[id]? = some (.row e nb rows)) {b : Blk} : Turn w φ H w (mvφ φ id H.length) (mvH id n m H.length b H) where
  size := Nat.le_refl _
  len := by rw [mvH_len]; omega
  old := fun b h _ => ⟨rfl, fun i q => by
    rcases (mvφ_some q).2 with ⟨_, q⟩ | ⟨_, q⟩
    · exact h _ q
    · exact h _ q⟩
  box := fun i t cs' hi h => by
    rcases mvH_old hi h with ⟨_, q⟩ | ⟨hne, b0, q1, q2⟩
    · cases q
    · cases b0 <;> simp [mvB] at q2
      obtain ⟨rfl, rfl⟩ := q2
      exact ⟨_, q1, fun c hc => by rw [mvφ_old hne hi]; exact hc⟩
  row := fun i e' nb' rows' hi h => by
    rcases mvH_old hi h with ⟨_, q⟩ | ⟨hne, b0, q1, q2⟩
    · cases q
    · cases b0 <;> simp [mvB] at q2
      obtain ⟨rfl, rfl, rfl⟩ := q2
      rw [mvφ_old hne hi]
      exact ⟨_, q1, by simp, fun _ => ⟨fun _ h => h, fun c hc => ⟨hc, fun cur hcur => ⟨cur, hcur, rfl⟩⟩⟩⟩
  map := fun i es' hi h => by
    rcases mvH_old hi h with ⟨_, q⟩ | ⟨hne, b0, q1, q2⟩
    · cases q
    · cases b0 <;> simp [mvB] at q2
      exact ⟨_, q1, fun c hc => ⟨by rw [mvφ_old hne hi]; exact hc, bornK_same rfl⟩⟩
  iter := fun i d k s hi h => by
    rcases mvH_old hi h with ⟨_, q⟩ | ⟨hne, b0, q1, q2⟩
    · cases q
    · cases b0 <;> simp [mvB] at q2
      exact ⟨_, _, _, q1, fun c hc => by rw [mvφ_old hne hi]; exact hc⟩
theorem mv_hr (hr : HR P w0 X w φ H) (hb : H[id]? = some (.row e nb rows)) (hn : rows.length = n) (hm : m ≤ n) (h0 : 0 < n) : HR P w0 X w (mvφ φ id H.length) (mvH id n m H.length (.row e nb (rows.take m)) H) := by
  have hidl : id < H.length := (List.getElem?_eq_some_iff.1 hb).1
  refine ⟨hr.vo, hr.fr, ext_turn hr (mv_turn (n := n) (m := m) (b := .row e nb (rows.take m)) hr hb), fun i c hc => ?_, fun i j c hi hj => ?_, fun i b c hi hc => ?_⟩
  · rw [mvH_len]
    rcases mvφ_some hc with ⟨_, ⟨rfl, q⟩ | ⟨_, q⟩⟩
    · have := hr.own _ c q; omega
    · have := hr.own _ c q; omega
  · rcases mvφ_some hi with ⟨n1, ⟨rfl, q⟩ | ⟨n2, q⟩⟩ <;> rcases mvφ_some hj with ⟨n3, ⟨rfl, q'⟩ | ⟨n4, q'⟩⟩
    · rfl
    · exact absurd (hr.inj _ _ _ q' q) n3
    · exact absurd (hr.inj _ _ _ q q') n1
    · exact hr.inj _ _ _ q q'
  · rcases mvφ_some hc with ⟨hne, ⟨rfl, q⟩ | ⟨n2, q⟩⟩
    · rw [mvH_new] at hi
      simp only [Option.some.injEq] at hi
      subst hi
      refine BlkOk.mv hr hb hn hm h0 ?_
      obtain ⟨cur, h1, h2, h3, h4⟩ := hr.blk id _ c hb q
      refine ⟨cur, h1, fun row hrow => h2 row (List.mem_of_mem_take hrow), Nat.le_trans (Nat.mul_le_mul_right _ (by simp; omega)) h3, fun k j row x v hk hj hu => ?_⟩
      rw [List.getElem?_take] at hk
      split at hk
      · exact h4 k j row x v hk hj hu
      · simp at hk
    · have hil := (hr.own _ c q).2.2
      rcases mvH_old hil hi with ⟨q2, _⟩ | ⟨_, b0, q1, rfl⟩
      · exact absurd q2 hne
      · exact BlkOk.mv hr hb hn hm h0 (hr.blk i b0 c q1 q)
/-- A window from the beginning of an own slice becomes a slice of its own; the old slice is forgotten. -/
theorem weak_mv {L : Nat} {s : St} (id n m : Nat) (e : TypeId) (nb : Bool) (rows : List (List AV)) (hb : s.H[id]? = some (.row e nb rows)) (hn : rows.length = n) (hm : m ≤ n) (h0 : 0 < n) :
    Weak P L s ⟨mvT id n m s.H.length s.T, mvH id n m s.H.length (.row e nb (rows.take m)) s.H⟩ := by
  intro B w0 X N φ a w hB hrel
  exact ⟨_, mv_hr hrel.hr hb hn hm h0, hrel.tn.trans (mv_turn hrel.hr hb), fun k => by rw [tget_mvT]; exact mv_rv hrel.hr hb hn hm h0 (hrel.t k), hrel.size, hrel.df.turn (mv_turn (n := n) (m := m) (b := .row e nb (rows.take m)) hrel.hr hb)⟩
/-- An own slice becomes memory that nobody writes. -/
theorem weak_frz {L : Nat} {s : St} (id : Nat) (e : TypeId) (nb : Bool) (rows : List (List AV)) (hb : s.H[id]? = some (.row e nb rows)) (ho : ∀ r ∈ rows, ∀ c ∈ r, owns c = false) :
    Weak P L s ⟨s.T.map fun p => (p.1, frA id rows p.2), frH id rows s.H⟩ := by
  intro B w0 X N φ a w hB hrel
  exact ⟨_, fr_hr hrel.hr hb ho, hrel.tn.trans fr_turn, fun k => by rw [tget_frT]; exact fr_rv hrel.hr hb ho (hrel.t k), hrel.size, hrel.df.turn (fr_turn (rows := rows) (H := s.H) (id := id) (φ := φ) (w := w))⟩
end
/-- A call whose arguments hold nothing of the call's own, taken as they stand (a nil slice is a nil slice). -/
theorem own_G {P : Program} {g : FuncId} {as : List AV} {r : AV} {H : List Blk} {K : AV → List Blk → Prop} (hp : Pure P g as r) (ho : ownsL as = false) (hK : K r H) : CallG P g as H K :=
  ⟨hp.1, fun w0 w X φ vs hr hl hv => (hp.2 w (fun b => X b ∨ ∃ id, φ id = some b) vs (fun b hb => hb.elim (fun hb => (hr.ext b hb).1) fun ⟨id, h⟩ => (hr.own id b h).2.1) hr.all hl fun j y v hj hu => (hv j y v hj hu).ro_of (ownsL_get ho j y hj)).mono
      fun e w' ⟨v, h1, h2, h3⟩ => ⟨v, r, φ, H, h1, hr_below hr h3, turn_below hr h3, .ro h2, hK⟩⟩
end Go.Proofs.YthiclaihlpkinaaGreat
namespace Go.Proofs.YthiclaihlpkinaaGreat
open Go.RowKit
variable [Glob]
def nnA : AV → AV
  | .nils => .rs []
  | x => x
def nnR (rows : List (List AV)) : List (List AV) := rows.map fun r => r.map nnA
section
variable {P : Program}
theorem nn_rv {w : World} {X : Nat → Prop} {φ : Nat → Option Nat} {H : List Blk} {x : AV} {v : Value} (h : RV P w X φ H x v) : RV P w X φ H (nnA x) v := by
  cases x with
  | nils =>
    have := h.nils_inv
    subst this
    exact .ro (.rs 0 (fun _ _ => undef) rfl (Nat.le_refl _) (by simp) (by simp))
  | _ => exact h
theorem nn_turn {w : World} {φ : Nat → Option Nat} {H : List Blk} {id : Nat} {e : TypeId} {nb : Bool} {rows : List (List AV)} (hb : H[id]? = some (.row e nb rows)) : Turn w φ H w φ (H.set id (.row e nb (nnR rows))) := by
  have hid : id < H.length := (List.getElem?_eq_some_iff.1 hb).1
  have get : ∀ (i : Nat) b, (H.set id (.row e nb (nnR rows)))[i]? = some b → (i = id ∧ b = .row e nb (nnR rows)) ∨ H[i]? = some b := fun i b h => by
    rw [List.getElem?_set] at h
    split at h
    · rename_i q
      exact .inl ⟨q.symm, (Option.some.inj h).symm⟩
    · exact .inr h
  refine ⟨Nat.le_refl _, by simp, fun b hb hl => ⟨rfl, hb⟩, fun i t cs' hi h => ?_, fun i e' nb' rows' hi h => ?_, fun i es' hi h => ?_, fun i m n s' hi h => ?_⟩
  · rcases get i _ h with ⟨_, q⟩ | h
    · cases q
    · exact ⟨cs', h, fun c hc => hc⟩
  · rcases get i _ h with ⟨rfl, q⟩ | h
    · cases q
      exact ⟨rows, hb, by simp [nnR], fun _ => ⟨fun _ h => h, fun c hc => ⟨hc, fun cur hcur => ⟨cur, hcur, rfl⟩⟩⟩⟩
    · exact ⟨rows', h, Nat.le_refl _, fun _ => ⟨fun _ h => h, fun c hc => ⟨hc, fun cur hcur => ⟨cur, hcur, rfl⟩⟩⟩⟩
  · rcases get i _ h with ⟨_, q⟩ | h
    · cases q
    · exact ⟨es', h, fun c hc => ⟨hc, bornK_same rfl⟩⟩
  · rcases get i _ h with ⟨_, q⟩ | h
    · cases q
    · exact ⟨m, n, s', h, fun c hc => hc⟩
theorem nn_hr {w0 w : World} {X : Nat → Prop} {φ : Nat → Option Nat} {H : List Blk} {id : Nat} {e : TypeId} {nb : Bool} {rows : List (List AV)} (hr : HR P w0 X w φ H) (hb : H[id]? = some (.row e nb rows)) : HR P w0 X w φ (H.set id (.row e nb (nnR rows))) := by
  have hT := nn_turn (w := w) (φ := φ) hb
  have hid : id < H.length := (List.getElem?_eq_some_iff.1 hb).1
  refine ⟨hr.vo, hr.fr, hr.ext, fun i c hc => ⟨(hr.own i c hc).1, (hr.own i c hc).2.1, by simpa using (hr.own i c hc).2.2⟩, hr.inj, fun i b c hi hc => ?_⟩
  rw [List.getElem?_set] at hi
  split at hi
  · rename_i q
    subst q
    obtain rfl := (Option.some.inj hi).symm
    obtain ⟨cur, q1, q2, q3, q4⟩ := (hr.blk id _ c hb hc).turn hT rfl
    refine ⟨cur, q1, fun row hrow => ?_, by simpa [nnR] using q3, fun i' j row x v h5 h6 h7 => ?_⟩
    · simp only [nnR, List.mem_map] at hrow
      obtain ⟨r, h, rfl⟩ := hrow
      simpa using q2 r h
    · simp only [nnR, List.getElem?_map, Option.map_eq_some_iff] at h5
      obtain ⟨r, h5, rfl⟩ := h5
      simp only [List.getElem?_map, Option.map_eq_some_iff] at h6
      obtain ⟨y, h6, rfl⟩ := h6
      obtain ⟨k1, k2⟩ := q4 i' j r y v h5 h6 h7
      exact ⟨nn_rv k1, k2⟩
  · exact (hr.blk i b c hi hc).turn hT rfl
theorem weak_nn {L : Nat} {s : St} (id : Nat) (e : TypeId) (nb : Bool) (rows : List (List AV)) (hb : s.H[id]? = some (.row e nb rows)) : Weak P L s ⟨s.T, s.H.set id (.row e nb (nnR rows))⟩ := by
  intro B w0 X N φ a w hB hrel
  have hT := nn_turn (w := w) (φ := φ) hb
  exact ⟨φ, nn_hr hrel.hr hb, hrel.tn.trans hT, fun k => (hrel.t k).turn hT, hrel.size, hrel.df.turn hT⟩
end
end Go.Proofs.YthiclaihlpkinaaGreat
namespace Go.Proofs.YthiclaihlpkinaaGreat
open Go.RowKit
variable [Glob]
mutual
theorem flat_owns' : (x : AV) → flat x = true → owns x = false
  | .any, _ | .und, _ | .int .., _ | .bool _, _ | .str _, _ | .nilp, _ | .nils, _ | .nilf, _ | .nilm, _ | .yl _, _ | .nilc, _ | .rp _, _ | .rs _, _ | .fb .., _ | .nec, _ => rfl
  | .op .., h | .ep .., h | .os .., h | .ow .., h | .mp _, h | .ent .., h | .it _, h | .fn .., h => by simp [flat] at h
  | .agg l, h => by simp only [flat] at h; simp only [owns]; exact flatL_owns' l h
  | .tup l, h => by simp only [flat] at h; simp only [owns]; exact flatL_owns' l h
theorem flatL_owns' : (l : List AV) → flatL l = true → ownsL l = false
  | [], _ => rfl
  | x :: r, h => by
    simp only [flatL, Bool.and_eq_true] at h
    simp only [ownsL, flat_owns' x h.1, flatL_owns' r h.2, Bool.or_self]
end
section
variable {P : Program} {w0 w w' : World} {X : Nat → Prop} {φ φ' : Nat → Option Nat} {G : List Blk}
/-- The new names of those that had one. -/
def keepφ (φ φ' : Nat → Option Nat) : Nat → Option Nat := fun i => match φ i with | none => none | some _ => φ' i
theorem keep_some {i c : Nat} (h : keepφ φ φ' i = some c) : φ' i = some c := by
  unfold keepφ at h
  split at h
  · cases h
  · exact h
theorem keep_of {i c c0 : Nat} (h0 : φ i = some c0) (h : φ' i = some c) : keepφ φ φ' i = some c := by
  unfold keepφ; rw [h0]; exact h
theorem keep_none {i : Nat} (h : φ i = none) : keepφ φ φ' i = none := by
  unfold keepφ; rw [h]
theorem keep_none' {i : Nat} (h : φ' i = none) : keepφ φ φ' i = none := by
  unfold keepφ; split
  · rfl
  · exact h
theorem app_get {R : List Blk} {id : Nat} {b : Blk} (h : G[id]? = some b) : (G ++ R)[id]? = some b := by rw [List.getElem?_append_left (List.getElem?_eq_some_iff.1 h).1]; exact h
theorem RV.keepX {R : List Blk} {φ2 : Nat → Option Nat} (hT : Turn w φ G w' φ' (G ++ R)) (hA : ∀ i c, φ2 i = some c → ∃ i', φ' i' = some c) (hB : ∀ i c0 c, φ i = some c0 → φ' i = some c → φ2 i = some c) (hC : ∀ i e rows, G[i]? = some (Blk.row e true rows) → φ' i = none → φ2 i = none) {x : AV} {v : Value} (h : RV P w' X φ' (G ++ R) x v) : ∀ {v0 : Value}, RV P w X φ G x v0 → RV P w' X φ2 G x v := by
  induction h with
  | ro h => intro v0 _; exact .ro (h.weaken fun b hb => hb.imp id fun ⟨i, hi⟩ => hA i _ hi)
  | op h0 _ h =>
    intro v0 k
    cases k with
    | ro k => cases k
    | op _ hid k =>
      refine .op h0 hid fun t cs hb => ?_
      obtain ⟨c, h1, h2⟩ := h t cs (app_get hb)
      obtain ⟨c0, k1, _⟩ := k t cs hb
      exact ⟨c, hB _ _ _ k1 h1, h2⟩
  | ep h0 _ h =>
    intro v0 k
    cases k with
    | ro k => cases k
    | ep _ hid k =>
      refine .ep h0 hid fun e nb rows hb => ?_
      obtain ⟨h1, h2⟩ := h e nb rows (app_get hb)
      refine ⟨h1, fun hn => ?_⟩
      obtain ⟨c, h3, h4⟩ := h2 hn
      obtain ⟨c0, k1, _⟩ := (k e nb rows hb).2 hn
      exact ⟨c, hB _ _ _ k1 h3, h4⟩
  | @os id n v h0 _ h =>
    intro v0 k
    cases k with
    | ro k => cases k
    | os _ hid k =>
      refine .os h0 hid fun e nb rows hb => ?_
      obtain ⟨h1, h2⟩ := h e nb rows (app_get hb)
      refine ⟨h1, fun hn => ?_⟩
      rcases h2 hn with ⟨a1, a2, a3, a4⟩ | ⟨c, cap, cur, b1, b2⟩
      · exact .inl ⟨a1, hC _ _ _ (a1 ▸ hb) a2, a3, a4⟩
      · right
        rcases (k e nb rows hb).2 hn with ⟨q1, q2, _⟩ | ⟨c0, _, _, q1, _⟩
        · obtain ⟨rows0, r1, r2, r3⟩ := hT.row id e nb rows hid (app_get hb)
          rw [hb] at r1
          cases r1
          have := (r3 rfl).1 q1 q2
          rw [this] at b1; cases b1
        · exact ⟨c, cap, cur, hB _ _ _ q1 b1, b2⟩
  | ow h0 _ h =>
    intro v0 k
    cases k with
    | ro k => cases k
    | ow _ hid k =>
      refine .ow h0 hid fun e nb rows hb => ?_
      obtain ⟨h1, h2⟩ := h e nb rows (app_get hb)
      refine ⟨h1, fun hn => ?_⟩
      obtain ⟨A, c, cap, cur, b1, b2⟩ := h2 hn
      obtain ⟨_, c0, _, _, q1, _⟩ := (k e nb rows hb).2 hn
      exact ⟨A, c, cap, cur, hB _ _ _ q1 b1, b2⟩
  | mp h0 _ h =>
    intro v0 k
    cases k with
    | ro k => cases k
    | mp _ hid k =>
      refine .mp h0 hid fun es hb => ?_
      obtain ⟨c, h1, h2⟩ := h es (app_get hb)
      obtain ⟨c0, k1, _⟩ := k es hb
      exact ⟨c, hB _ _ _ k1 h1, h2⟩
  | ent h0 _ h =>
    intro v0 k
    cases k with
    | ro k => cases k
    | ent _ hid k =>
      refine .ent h0 hid fun es hb => ?_
      obtain ⟨c, ents, clock, ent, h1, h2⟩ := h es (app_get hb)
      obtain ⟨c0, _, _, _, k1, _⟩ := k es hb
      exact ⟨c, ents, clock, ent, hB _ _ _ k1 h1, h2⟩
  | it h0 _ h =>
    intro v0 k
    cases k with
    | ro k => cases k
    | it _ hid k =>
      refine .it h0 hid fun m n s hb => ?_
      obtain ⟨c, h1, h2⟩ := h m n s (app_get hb)
      obtain ⟨c0, k1, _⟩ := k m n s hb
      exact ⟨c, hB _ _ _ k1 h1, h2⟩
  | agg hl h1 _ ih =>
    intro v0 k
    obtain ⟨us, _, k2, _, k3⟩ := k.agg_inv
    refine .agg hl h1 fun j x v hx hv => ?_
    have hj : j < us.size := by rw [← k2]; exact (List.getElem?_eq_some_iff.1 hx).1
    exact ih j x v hx hv (k3 j x us[j] hx (by simp [hj]))
  | tup hl _ ih =>
    intro v0 k
    obtain ⟨us, _, k2, k3⟩ := k.tup_inv
    refine .tup hl fun j x v hx hv => ?_
    have hj : j < us.size := by rw [← k2]; exact (List.getElem?_eq_some_iff.1 hx).1
    exact ih j x v hx hv (k3 j x us[j] hx (by simp [hj]))
  | fn hl _ ih =>
    intro v0 k
    obtain ⟨us, _, k2, k3⟩ := k.fn_inv
    refine .fn hl fun j x v hx hv => ?_
    have hj : j < us.size := by rw [← k2]; exact (List.getElem?_eq_some_iff.1 hx).1
    exact ih j x v hx hv (k3 j x us[j] hx (by simp [hj]))
theorem RV.keep {R : List Blk} (hT : Turn w φ G w' φ' (G ++ R)) {x : AV} {v : Value} (h : RV P w' X φ' (G ++ R) x v) {v0 : Value} (k : RV P w X φ G x v0) : RV P w' X (keepφ φ φ') G x v :=
  RV.keepX hT (fun i c h => ⟨i, keep_some h⟩) (fun i c0 c h0 h => keep_of h0 h) (fun i e rows _ h => keep_none' h) h k
theorem BlkOk.keepX {R : List Blk} {φ2 : Nat → Option Nat} (hT : Turn w φ G w' φ' (G ++ R)) (hA : ∀ i c, φ2 i = some c → ∃ i', φ' i' = some c) (hB : ∀ i c0 c, φ i = some c0 → φ' i = some c → φ2 i = some c) (hC : ∀ i e rows, G[i]? = some (Blk.row e true rows) → φ' i = none → φ2 i = none) {c c0 : Nat} {b : Blk} (h' : BlkOk P w' X φ' (G ++ R) c b) (h0 : BlkOk P w X φ G c0 b) : BlkOk P w' X φ2 G c b := by
  cases b with
  | box t cs =>
    obtain ⟨cur, a1, a2, a3⟩ := h'
    obtain ⟨cur0, _, d2, d3⟩ := h0
    refine ⟨cur, a1, a2, fun j x v hx hv => ?_⟩
    have hj : j < cur0.size := by rw [d2]; exact (List.getElem?_eq_some_iff.1 hx).1
    exact ⟨RV.keepX hT hA hB hC (a3 j x v hx hv).1 (d3 j x cur0[j] hx (by simp [hj])).1, (a3 j x v hx hv).2⟩
  | row e nb rows =>
    obtain ⟨cur, a1, a2, a3, a4⟩ := h'
    obtain ⟨cur0, _, d2, d3, d4⟩ := h0
    refine ⟨cur, a1, a2, a3, fun i j row x v hi hx hv => ?_⟩
    have hjr : j < P.cellsOf e := by rw [← a2 row (List.mem_of_getElem? hi)]; exact (List.getElem?_eq_some_iff.1 hx).1
    have hil : i < rows.length := (List.getElem?_eq_some_iff.1 hi).1
    have hlt : i * P.cellsOf e + j < cur0.size := by
      have : (i + 1) * P.cellsOf e ≤ rows.length * P.cellsOf e := Nat.mul_le_mul_right _ hil
      rw [Nat.add_mul] at this
      omega
    exact ⟨RV.keepX hT hA hB hC (a4 i j row x v hi hx hv).1 (d4 i j row x cur0[i * P.cellsOf e + j] hi hx (by simp [hlt])).1, (a4 i j row x v hi hx hv).2⟩
  | map es =>
    obtain ⟨ents, clock, a1, a2, a3, a4, a5⟩ := h'
    obtain ⟨ents0, clock0, _, d2, _, _, d5⟩ := h0
    refine ⟨ents, clock, a1, a2, a3, a4, fun i k x ent hi he => ?_⟩
    have hil : i < ents0.size := by rw [d2]; exact (List.getElem?_eq_some_iff.1 hi).1
    obtain ⟨e1, e2⟩ := d5 i k x ents0[i] hi (by simp [hil])
    obtain ⟨f1, f2⟩ := a5 i k x ent hi he
    exact ⟨RV.keepX hT hA hB hC f1 e1, RV.keepX hT hA hB hC f2 e2⟩
  | gone => trivial
  | iter m n seen =>
    cases m with
    | none => exact h'
    | some mid =>
      obtain ⟨d, since, seenA, stepped, B, k1, k2, k3, k4, k5, k6, k7, k8⟩ := h'
      obtain ⟨_, _, _, _, _, _, _, _, _, _, _, j7, j8⟩ := h0
      refine ⟨d, since, seenA, stepped, B, k1, k2, k3, k4, k5, k6, j7, fun es hes => ?_⟩
      obtain ⟨q1, q2⟩ := k8 es (app_get hes)
      obtain ⟨p1, _⟩ := j8 es hes
      exact ⟨hB _ _ _ p1 q1, q2⟩
theorem HR.keep {R : List Blk} (hr : HR P w0 X w φ G) (hr' : HR P w0 X w' φ' (G ++ R)) (hT : Turn w φ G w' φ' (G ++ R)) : HR P w0 X w' (keepφ φ φ') G where
  vo := hr.vo
  fr := hr'.fr
  ext := fun b hb => ⟨(hr'.ext b hb).1, fun id h => (hr'.ext b hb).2 id (keep_some h)⟩
  own := fun id c h => by
    refine ⟨(hr'.own id c (keep_some h)).1, (hr'.own id c (keep_some h)).2.1, ?_⟩
    cases h0 : φ id with
    | none => rw [keep_none h0] at h; cases h
    | some c0 => exact (hr.own id c0 h0).2.2
  inj := fun i j c h1 h2 => hr'.inj i j c (keep_some h1) (keep_some h2)
  blk := fun id b c hb hc => by
    have h' := hr'.blk id b c (app_get hb) (keep_some hc)
    obtain ⟨c0, hc0⟩ : ∃ c0, φ id = some c0 := by
      cases h : φ id with
      | none => rw [keep_none h] at hc; cases hc
      | some c0 => exact ⟨c0, rfl⟩
    have h0 := hr.blk id b c0 hb hc0
    exact BlkOk.keepX hT (fun i c h => ⟨i, keep_some h⟩) (fun i c0 c h0 h => keep_of h0 h) (fun i e rows _ h => keep_none' h) h' h0
theorem Turn.keep {R : List Blk} (hT : Turn w φ G w' φ' (G ++ R)) : Turn w φ G w' (keepφ φ φ') G where
  size := hT.size
  len := Nat.le_refl _
  old := fun b h1 h2 => ⟨(hT.old b h1 h2).1, fun id h => (hT.old b h1 h2).2 id (keep_some h)⟩
  box := fun id t cs hid hb => by
    obtain ⟨cs0, h1, h2⟩ := hT.box id t cs hid (app_get hb)
    exact ⟨cs0, h1, fun c hc => keep_of hc (h2 c hc)⟩
  row := fun id e nb rows hid hb => by
    obtain ⟨rows0, h1, h2, h3⟩ := hT.row id e nb rows hid (app_get hb)
    exact ⟨rows0, h1, h2, fun hl => ⟨fun _ hn => keep_none hn, fun c hc => ⟨keep_of hc ((h3 hl).2 c hc).1, ((h3 hl).2 c hc).2⟩⟩⟩
  map := fun id es hid hb => by
    obtain ⟨es0, h1, h2⟩ := hT.map id es hid (app_get hb)
    exact ⟨es0, h1, fun c hc => ⟨keep_of hc (h2 c hc).1, (h2 c hc).2⟩⟩
  iter := fun id m n s hid hb => by
    obtain ⟨m0, n0, s0, h1, h2⟩ := hT.iter id m n s hid (app_get hb)
    exact ⟨m0, n0, s0, h1, fun c hc => keep_of hc (h2 c hc)⟩
theorem callG_E {g : FuncId} {args : List AV} {H : List Blk} {r : AV} (hf : flat r = true) (he : entersB P g = true) (h : ∀ G : List Blk, (∀ (id : Nat) b, H[id]? = some b → G[id]? = some b) → CallG P g args G fun r' G' => r' = r ∧ ∃ R, G' = G ++ R) : CallE P g args H r .no := by
  refine ⟨he, fun _ _ h => by simp at h, fun _ h => by simp at h, fun w0 w X φ G vs hr hG _ hl hv => ?_⟩
  refine ((h G hG).2 w0 w X φ vs hr hl hv).mono ?_
  rintro e w' ⟨v, r', φ', H', h1, h2, h3, h4, rfl, R, rfl⟩
  exact ⟨v, keepφ φ φ', h1, HR.keep hr h2 h3, h3.keep, .ro ((h4.ro_of (flat_owns' _ hf)).of_flat hf), fun id hid _ _ => ⟨keep_none hid, rfl⟩⟩
/-- The same, where a row of its own is handed back. -/
theorem callG_E2 {g : FuncId} {args : List AV} {H : List Blk} {e : TypeId} {rows : List (List AV)} (hf : (rows.all fun r => r.all flat) = true) (he : entersB P g = true) (h : ∀ G : List Blk, (∀ (id : Nat) b, H[id]? = some b → G[id]? = some b) → CallG P g args G fun r' G' => ∃ R k, r' = .os k rows.length ∧ G' = G ++ R ∧ (G ++ R)[k]? = some (.row e false rows) ∧ G.length ≤ k) : CallE P g args H (.os H.length rows.length) (.new (.row e false rows)) := by
  refine ⟨he, fun _ _ h => by simp at h, fun b h e' rows' hb => by simp at h; subst h; simp at hb, fun w0 w X φ G vs hr hG hnew hl hv => ?_⟩
  obtain ⟨hN, hφN⟩ := hnew _ rfl
  have hNl := (List.getElem?_eq_some_iff.1 hN).1
  refine ((h G hG).2 w0 w X φ vs hr hl hv).mono ?_
  rintro en w' ⟨v, r', φ', H', h1, h2, h3, h4, R, k, rfl, rfl, hk, hkl⟩
  cases h4 with
  | ro h => cases h
  | os g0 hid hv4 =>
    rcases (hv4 e false rows hk).2 rfl with ⟨q, _⟩ | ⟨c, cap, cur, q1, q2, q3, q4, q5, q6⟩
    · cases q
    · let φ2 : Nat → Option Nat := fun i => if i = H.length then some c else keepφ φ φ' i
      have e1 : φ2 H.length = some c := by simp [φ2]
      have e2 : ∀ i, i ≠ H.length → φ2 i = keepφ φ φ' i := fun i hi => by simp [φ2, hi]
      have hA : ∀ i c', φ2 i = some c' → ∃ i', φ' i' = some c' := fun i c' hi => by
        by_cases q : i = H.length
        · subst q; rw [e1] at hi; cases hi; exact ⟨k, q1⟩
        · rw [e2 i q] at hi; exact ⟨i, keep_some hi⟩
      have hB : ∀ i c0 c', φ i = some c0 → φ' i = some c' → φ2 i = some c' := fun i c0 c' h0 hi => by
        have q : i ≠ H.length := fun q => by subst q; rw [hφN] at h0; cases h0
        rw [e2 i q]; exact keep_of h0 hi
      have hC : ∀ i e' rows', G[i]? = some (Blk.row e' true rows') → φ' i = none → φ2 i = none := fun i e' rows' hb hi => by
        have q : i ≠ H.length := fun q => by subst q; rw [hN] at hb; cases hb
        rw [e2 i q]; exact keep_none' hi
      have hold : ∀ i c', i ≠ H.length → φ2 i = some c' → φ' i = some c' ∧ ∃ c0, φ i = some c0 := fun i c' q hi => by
        rw [e2 i q] at hi
        refine ⟨keep_some hi, ?_⟩
        cases h0 : φ i with
        | none => rw [keep_none h0] at hi; cases hi
        | some c0 => exact ⟨c0, rfl⟩
      have hfl : ∀ (i j : Nat) (row : List AV) (x : AV), rows[i]? = some row → row[j]? = some x → flat x = true := fun i j row x hi hj => by
        simp only [List.all_eq_true] at hf
        exact hf row (List.mem_of_getElem? hi) x (List.mem_of_getElem? hj)
      refine ⟨v, φ2, h1, ⟨hr.vo, h2.fr, fun b hb => ⟨(h2.ext b hb).1, fun id hi => ?_⟩, fun id c' hi => ?_, fun i j c' hi hj => ?_, fun id b c' hb hc => ?_⟩, ?_, ?_, fun id hid hne _ => ⟨?_, rfl⟩⟩
      · obtain ⟨i', hi'⟩ := hA id b hi
        exact (h2.ext b hb).2 i' hi'
      · by_cases q : id = H.length
        · subst q; rw [e1] at hi; cases hi
          exact ⟨(h2.own k c q1).1, (h2.own k c q1).2.1, hNl⟩
        · obtain ⟨a1, c0, a2⟩ := hold id c' q hi
          exact ⟨(h2.own id c' a1).1, (h2.own id c' a1).2.1, (hr.own id c0 a2).2.2⟩
      · by_cases qi : i = H.length <;> by_cases qj : j = H.length
        · omega
        · obtain ⟨a1, c0, a2⟩ := hold j c' qj hj
          subst qi; rw [e1] at hi; cases hi
          have := h2.inj j k c a1 q1
          have := (hr.own j c0 a2).2.2
          omega
        · obtain ⟨a1, c0, a2⟩ := hold i c' qi hi
          subst qj; rw [e1] at hj; cases hj
          have := h2.inj i k c a1 q1
          have := (hr.own i c0 a2).2.2
          omega
        · exact h2.inj i j c' (hold i c' qi hi).1 (hold j c' qj hj).1
      · by_cases q : id = H.length
        · subst q
          rw [e1] at hc; cases hc
          simp only [updG] at hb
          rw [hN] at hb; cases hb
          obtain ⟨cur', a1, a2, a3, a4⟩ := h2.blk k _ c hk q1
          exact ⟨cur', a1, a2, a3, fun i j row x u hi hj hu => ⟨.ro (((a4 i j row x u hi hj hu).1.ro_of (flat_owns' _ (hfl i j row x hi hj))).of_flat (hfl i j row x hi hj)), (a4 i j row x u hi hj hu).2⟩⟩
        · obtain ⟨a1, c0, a2⟩ := hold id c' q hc
          simp only [updG] at hb
          exact BlkOk.keepX h3 hA hB hC (h2.blk id b c' (app_get hb) a1) (hr.blk id b c0 hb a2)
      · refine ⟨h3.size, Nat.le_refl _, fun b hb hl => ⟨(h3.old b hb hl).1, fun id hi => ?_⟩, fun id t cs hid hb => ?_, fun id e' nb rows' hid hb => ?_, fun id es hid hb => ?_, fun id m n s hid hb => ?_⟩
        · obtain ⟨i', hi'⟩ := hA id b hi
          exact (h3.old b hb hl).2 i' hi'
        · obtain ⟨cs0, a1, a2⟩ := h3.box id t cs hid (app_get hb)
          exact ⟨cs0, a1, fun c' hc => hB _ _ _ hc (a2 c' hc)⟩
        · obtain ⟨rows0, a1, a2, a3⟩ := h3.row id e' nb rows' hid (app_get hb)
          exact ⟨rows0, a1, a2, fun hl => ⟨fun hnb hn => by subst hnb; exact hC id e' rows' hb ((a3 hl).1 rfl hn), fun c' hc => ⟨hB _ _ _ hc ((a3 hl).2 c' hc).1, ((a3 hl).2 c' hc).2⟩⟩⟩
        · obtain ⟨es0, a1, a2⟩ := h3.map id es hid (app_get hb)
          exact ⟨es0, a1, fun c' hc => ⟨hB _ _ _ hc (a2 c' hc).1, (a2 c' hc).2⟩⟩
        · obtain ⟨m0, n0, s0, a1, a2⟩ := h3.iter id m n s hid (app_get hb)
          exact ⟨m0, n0, s0, a1, fun c' hc => hB _ _ _ hc (a2 c' hc)⟩
      · refine .os g0 hNl fun e' nb' rows' hb => ?_
        simp only [updG] at hb
        rw [hN] at hb
        cases hb
        exact ⟨Nat.le_refl _, fun _ => .inr ⟨c, cap, cur, e1, q2, q3, q4, q5, q6⟩⟩
      · have q : id ≠ H.length := hne _ rfl
        rw [e2 id q]; exact keep_none hid
end
/-- What is known of calls that leave the blocks as they are, though they may write. -/
class EHook (P : Program) where
  f : Nat → List AV → List Blk → Option AV
  ok : ∀ g as H r, f g as H = some r → flat r = true → CallE P g as H r .no
/-- None are known. -/
instance (priority := low) noEHook (P : Program) : EHook P := ⟨fun _ _ _ => none, fun _ _ _ _ h => by cases h⟩
end Go.Proofs.YthiclaihlpkinaaGreat
namespace Go.Proofs.YthiclaihlpkinaaGreat
open Go.RowKit
variable [Glob]
mutual
theorem mA_low {ρ : Nat → Nat} {m : Nat} (hρ : ∀ i, i < m → ρ i = i) : (x : AV) → refs m x = true → mA ρ x = x
  | .any, _ | .und, _ | .int .., _ | .bool _, _ | .str _, _ | .nilp, _ | .nils, _ | .nilf, _ | .nilm, _ | .yl _, _ | .nilc, _ | .rp _, _ | .rs _, _ | .fb .., _ | .nec, _ => rfl
  | .op i o, h => by simp only [refs, decide_eq_true_eq] at h; simp only [mA]; rw [hρ i h]
  | .ep i _ _ _, h => by simp only [refs, decide_eq_true_eq] at h; simp only [mA]; rw [hρ i h]
  | .os i _, h => by simp only [refs, decide_eq_true_eq] at h; simp only [mA]; rw [hρ i h]
  | .ow i _ _ _, h => by simp only [refs, decide_eq_true_eq] at h; simp only [mA]; rw [hρ i h]
  | .mp i, h => by simp only [refs, decide_eq_true_eq] at h; simp only [mA]; rw [hρ i h]
  | .ent i _, h => by simp only [refs, decide_eq_true_eq] at h; simp only [mA]; rw [hρ i h]
  | .it i, h => by simp only [refs, decide_eq_true_eq] at h; simp only [mA]; rw [hρ i h]
  | .agg l, h => by simp only [refs] at h; simp only [mA]; rw [mL_low hρ l h]
  | .tup l, h => by simp only [refs] at h; simp only [mA]; rw [mL_low hρ l h]
  | .fn f l, h => by simp only [refs] at h; simp only [mA]; rw [mL_low hρ l h]
theorem mL_low {ρ : Nat → Nat} {m : Nat} (hρ : ∀ i, i < m → ρ i = i) : (l : List AV) → refsL m l = true → mL ρ l = l
  | [], _ => rfl
  | x :: r, h => by
    simp only [refsL, Bool.and_eq_true] at h
    simp only [mL]
    rw [mA_low hρ x h.1, mL_low hρ r h.2]
end
/-- All that a block refers to lies below m. -/
def refsBk (m : Nat) : Blk → Bool
  | .box _ cs => refsL m cs
  | .row _ _ rows => rows.all (refsL m)
  | .gone => true
  | _ => false
theorem mB_low {ρ : Nat → Nat} {m : Nat} (hρ : ∀ i, i < m → ρ i = i) (b : Blk) (h : refsBk m b = true) : mB ρ b = b := by
  cases b with
  | box t cs => simp only [refsBk] at h; simp only [mB]; rw [mL_low hρ cs h]
  | row e nb rows =>
    simp only [refsBk, List.all_eq_true] at h
    simp only [mB]
    congr 1
    conv => rhs; rw [← List.map_id rows]
    exact List.map_congr_left fun r hr => mL_low hρ r (h r hr)
  | gone => rfl
  | map => simp [refsBk] at h
  | iter => simp [refsBk] at h
mutual
theorem mA_flat {ρ : Nat → Nat} : (x : AV) → flat x = true → mA ρ x = x
  | .any, _ | .und, _ | .int .., _ | .bool _, _ | .str _, _ | .nilp, _ | .nils, _ | .nilf, _ | .nilm, _ | .yl _, _ | .nilc, _ | .rp _, _ | .rs _, _ | .fb .., _ | .nec, _ => rfl
  | .op .., h | .ep .., h | .os .., h | .ow .., h | .mp _, h | .ent .., h | .it _, h | .fn .., h => by simp [flat] at h
  | .agg l, h => by simp only [flat] at h; simp only [mA]; rw [mL_flat l h]
  | .tup l, h => by simp only [flat] at h; simp only [mA]; rw [mL_flat l h]
theorem mL_flat {ρ : Nat → Nat} : (l : List AV) → flatL l = true → mL ρ l = l
  | [], _ => rfl
  | x :: r, h => by
    simp only [flatL, Bool.and_eq_true] at h
    simp only [mL]
    rw [mA_flat x h.1, mL_flat r h.2]
end
theorem mL_flatL {ρ : Nat → Nat} : ∀ (l : List AV), (∀ y ∈ l, flat y = true) → mL ρ l = l
  | [], _ => rfl
  | x :: r, h => by
    simp only [mL]
    rw [mA_flat x (h x (by simp)), mL_flatL r fun y hy => h y (by simp [hy])]
section
variable {P : Program}
theorem rn_low {m L i : Nat} (h : i < m) : rn (List.range m) L i = i := by
  unfold rn
  rw [List.getElem?_eq_getElem (by simpa using h)]
  simp
/-- The memory behind it, where the first blocks are as they were. -/
theorem putB_pre {G H R : List Blk} {ρ : Nat → Nat} (hG : ∀ (id : Nat) b, H[id]? = some b → G[id]? = some b) (hB : ∀ b ∈ H, mB ρ b = b) (hle : H.length ≤ G.length) : ∃ R', putB G (List.range H.length) ((H ++ R).map (mB ρ)) = G ++ R' := by
  have hl : (List.range H.length).length ≤ ((H ++ R).map (mB ρ)).length := by simp
  refine ⟨(putB G (List.range H.length) ((H ++ R).map (mB ρ))).drop G.length, ?_⟩
  conv => lhs; rw [← List.take_append_drop G.length (putB G (List.range H.length) ((H ++ R).map (mB ρ)))]
  congr 1
  refine List.ext_getElem? fun id => ?_
  rw [List.getElem?_take]
  split
  · rename_i hid
    by_cases h : id < H.length
    · rw [putB_at (List.range H.length) G _ hl List.nodup_range (fun i hi => by have := List.mem_range.1 hi; omega) id id (by rw [List.getElem?_eq_getElem (by simpa using h)]; simp), List.getElem?_map, List.getElem?_append_left h, List.getElem?_eq_getElem h]
      simp only [Option.map_some]
      rw [hB _ (List.getElem_mem h), hG id H[id] (List.getElem?_eq_getElem h)]
    · exact putB_old (List.range H.length) G _ hl id hid (by simp; omega)
  · rw [List.getElem?_eq_none (by omega)]
theorem own_E2 {g : FuncId} {args : List AV} {H R : List Blk} {r : AV} (h : CallG P g args H fun x G => x = r ∧ G = H ++ R) (hB : (H.all (refsBk H.length)) = true) (ha : refsL H.length args = true) (hf : flat r = true) : CallE P g args H r .no := by
  refine callG_E hf h.1 fun G hG => ?_
  have hle : H.length ≤ G.length := by
    cases hn : H.length with
    | zero => omega
    | succ n =>
      have := hG n H[n] (List.getElem?_eq_getElem (by omega))
      have := (List.getElem?_eq_some_iff.1 this).1
      omega
  have hρ : ∀ i, i < H.length → rn (List.range H.length) G.length i = i := fun i hi => rn_low hi
  have hBl : ∀ b ∈ H, mB (rn (List.range H.length) G.length) b = b := fun b hb => mB_low hρ b (by simp only [List.all_eq_true] at hB; exact hB b hb)
  refine foot_G h (List.range H.length) (by simp) List.nodup_range (fun i hi => by have := List.mem_range.1 hi; omega) (fun j i b hj hb => ?_) (mL_low hρ args ha).symm fun x H' _ hk => ?_
  · have hji : i = j := by
      have hlt := (List.getElem?_eq_some_iff.1 hj).1
      rw [List.getElem?_eq_getElem hlt] at hj
      simp at hj; exact hj.symm
    subst hji
    rw [hBl b (List.mem_of_getElem? hb)]
    exact hG i b hb
  · obtain ⟨rfl, rfl⟩ := hk
    exact ⟨mA_flat _ hf, putB_pre hG hBl hle⟩
theorem rn_high {m L k : Nat} (h : m ≤ k) : rn (List.range m) L k = L + (k - m) := by
  unfold rn
  rw [List.getElem?_eq_none (by simpa using h)]
  simp
theorem own_E3 {g : FuncId} {args : List AV} {H R : List Blk} {k : Nat} {e : TypeId} {rows : List (List AV)} (h : CallG P g args H fun x G => x = .os k rows.length ∧ G = H ++ R) (hk : (H ++ R)[k]? = some (.row e false rows)) (hkl : H.length ≤ k) (hB : (H.all (refsBk H.length)) = true) (ha : refsL H.length args = true) (hf : (rows.all fun r => r.all flat) = true) : CallE P g args H (.os H.length rows.length) (.new (.row e false rows)) := by
  refine callG_E2 hf h.1 fun G hG => ?_
  have hle : H.length ≤ G.length := by
    cases hn : H.length with
    | zero => omega
    | succ n =>
      have := hG n H[n] (List.getElem?_eq_getElem (by omega))
      have := (List.getElem?_eq_some_iff.1 this).1
      omega
  have hρ : ∀ i, i < H.length → rn (List.range H.length) G.length i = i := fun i hi => rn_low hi
  have hBl : ∀ b ∈ H, mB (rn (List.range H.length) G.length) b = b := fun b hb => mB_low hρ b (by simp only [List.all_eq_true] at hB; exact hB b hb)
  refine foot_G h (List.range H.length) (by simp) List.nodup_range (fun i hi => by have := List.mem_range.1 hi; omega) (fun j i b hj hb => ?_) (mL_low hρ args ha).symm fun x H' _ hkk => ?_
  · have hji : i = j := by
      have hlt := (List.getElem?_eq_some_iff.1 hj).1
      rw [List.getElem?_eq_getElem hlt] at hj
      simp at hj; exact hj.symm
    subst hji
    rw [hBl b (List.mem_of_getElem? hb)]
    exact hG i b hb
  · obtain ⟨rfl, rfl⟩ := hkk
    obtain ⟨R', hR'⟩ := putB_pre (R := R) (ρ := rn (List.range H.length) G.length) hG hBl hle
    refine ⟨R', G.length + (k - H.length), by simp only [mA]; rw [rn_high hkl], hR', ?_, by omega⟩
    rw [← hR', putB_new (List.range H.length) G _ (by simp)]
    rw [List.length_range, show H.length + (k - H.length) = k by omega, List.getElem?_map, hk]
    simp only [Option.map_some, mB]
    congr 2
    conv => rhs; rw [← List.map_id rows]
    refine List.map_congr_left fun r hr => ?_
    simp only [List.all_eq_true] at hf
    have hfr := hf r hr
    clear hR' hk h
    exact mL_flatL r hfr
end
mutual
/-- The same value? -/
def eqA : AV → AV → Bool
  | .any, .any => true
  | .und, .und => true
  | .int k a, .int k' b => decide (k = k') && decide (a = b)
  | .bool a, .bool b => decide (a = b)
  | .str a, .str b => decide (a = b)
  | .nilp, .nilp => true
  | .nils, .nils => true
  | .nilf, .nilf => true
  | .nilm, .nilm => true
  | .nilc, .nilc => true
  | .nec, .nec => true
  | .rp a, .rp b => eqL a b
  | .rs a, .rs b => eqR a b
  | .op a b, .op a' b' => decide (a = a') && decide (b = b')
  | .ep a b c d, .ep a' b' c' d' => decide (a = a') && decide (b = b') && decide (c = c') && decide (d = d')
  | .os a b, .os a' b' => decide (a = a') && decide (b = b')
  | .ow a b c d, .ow a' b' c' d' => decide (a = a') && decide (b = b') && decide (c = c') && decide (d = d')
  | .agg a, .agg b => eqL a b
  | .tup a, .tup b => eqL a b
  | .fn f a, .fn f' b => decide (f = f') && eqL a b
  | _, _ => false
def eqL : List AV → List AV → Bool
  | [], [] => true
  | x :: r, y :: r' => eqA x y && eqL r r'
  | _, _ => false
def eqR : List (List AV) → List (List AV) → Bool
  | [], [] => true
  | x :: r, y :: r' => eqL x y && eqR r r'
  | _, _ => false
end
def eqB : Blk → Blk → Bool
  | .box t a, .box t' b => decide (t = t') && eqL a b
  | .row e nb a, .row e' nb' b => decide (e = e') && decide (nb = nb') && eqR a b
  | .gone, .gone => true
  | _, _ => false
/-- The first blocks are the same. -/
def preB : List Blk → List Blk → Bool
  | [], _ => true
  | b :: r, b' :: r' => eqB b b' && preB r r'
  | _, _ => false
theorem eq_sound : (∀ x y, eqA x y = true → x = y) ∧ (∀ l r, eqR l r = true → l = r) ∧ (∀ l r, eqL l r = true → l = r) := by
  apply eqA.mutual_induct (motive_1 := fun x y => eqA x y = true → x = y) (motive_2 := fun l r => eqR l r = true → l = r) (motive_3 := fun l r => eqL l r = true → l = r)
  all_goals intros
  all_goals simp_all [eqA, eqL, eqR]
theorem eqB_sound {b b' : Blk} (h : eqB b b' = true) : b = b' := by
  unfold eqB at h
  split at h
  · simp only [Bool.and_eq_true, decide_eq_true_eq] at h
    rw [h.1, eq_sound.2.2 _ _ h.2]
  · simp only [Bool.and_eq_true, decide_eq_true_eq] at h
    rw [h.1.1, h.1.2, eq_sound.2.1 _ _ h.2]
  · rfl
  · cases h
theorem preB_sound : ∀ {H H' : List Blk}, preB H H' = true → H' = H ++ H'.drop H.length := by
  intro H
  induction H with
  | nil => intro H' _; simp
  | cons b H ih =>
    intro H' h
    cases H' with
    | nil => simp [preB] at h
    | cons b' H' =>
      simp only [preB, Bool.and_eq_true] at h
      simp only [List.length_cons, List.drop_succ_cons, List.cons_append]
      rw [← ih h.2, eqB_sound h.1]
/-- The same blocks? -/
def eqH : List Blk → List Blk → Bool
  | [], [] => true
  | b :: r, b' :: r' => eqB b b' && eqH r r'
  | _, _ => false
theorem eqH_sound : ∀ {H H' : List Blk}, eqH H H' = true → H = H' := by
  intro H
  induction H with
  | nil => intro H' h; cases H' with
    | nil => rfl
    | cons => simp [eqH] at h
  | cons b H ih =>
    intro H' h
    cases H' with
    | nil => simp [eqH] at h
    | cons b' H' =>
      simp only [eqH, Bool.and_eq_true] at h
      rw [ih h.2, eqB_sound h.1]
end Go.Proofs.YthiclaihlpkinaaGreat
namespace Go.Proofs.YthiclaihlpkinaaGreat
open Go.RowKit
variable [Glob]
theorem ba_loop (b : ByteArray) : ∀ (n i : Nat) (r : List UInt8), b.size - i = n → i ≤ b.size → ByteArray.toList.loop b i r = r.reverse ++ b.data.toList.drop i := by
  intro n
  induction n with
  | zero =>
    intro i r h hi
    unfold ByteArray.toList.loop
    have h1 : i = b.size := by omega
    have h2 : b.data.toList.drop i = [] := by
      rw [List.drop_eq_nil_iff, h1]; exact Nat.le_of_eq rfl
    rw [if_neg (by omega), h2]; simp
  | succ n ih =>
    intro i r h hi
    unfold ByteArray.toList.loop
    have hlt : i < b.size := by omega
    have hlt' : i < b.data.toList.length := hlt
    rw [if_pos hlt, ih (i + 1) _ (by omega) (by omega), List.drop_eq_getElem_cons hlt']
    have hg : b.get! i = b.data.toList[i] := by
      show b.data[i]! = b.data.toList[i]
      rw [Array.getElem_toList]
      exact getElem!_pos b.data i hlt
    rw [hg]; simp
theorem ba_toList (b : ByteArray) : b.toList = b.data.toList := by
  have := ba_loop b _ 0 [] rfl (by omega)
  simpa [ByteArray.toList] using this
noncomputable section
/-- Arithmetic that is cut to so many bits, reckoned out. -/
def wrapOp (op : BinOp) (x y : AV) : Option AV :=
  match op, x, y with
  | .add, .int k a, .int k' b => if k = k' then some (.int k (k.wrap (a + b))) else none
  | .sub, .int k a, .int k' b => if k = k' then some (.int k (k.wrap (a - b))) else none
  | .mul, .int k a, .int k' b => if k = k' then some (.int k (k.wrap (a * b))) else none
  | .quo, .int k a, .int k' b => if k = k' then (if b = 0 then none else some (.int k (k.wrap (a.tdiv b)))) else none
  | .eql, .str a, .str b => some (.bool (a.data.toList == b.data.toList))
  | .neq, .str a, .str b => some (.bool (!(a.data.toList == b.data.toList)))
  | .lss, .str a, .str b => some (.bool (Op.bytesLess a.data.toList b.data.toList))
  | .leq, .str a, .str b => some (.bool (Op.bytesLess a.data.toList b.data.toList || a.data.toList == b.data.toList))
  | .gtr, .str a, .str b => some (.bool (!(Op.bytesLess a.data.toList b.data.toList || a.data.toList == b.data.toList)))
  | .geq, .str a, .str b => some (.bool (!Op.bytesLess a.data.toList b.data.toList))
  | .shl, .int k a, .int _ b => if 0 ≤ b ∧ b ≤ shW k then some (.int k (k.wrap (a * 2 ^ b.toNat))) else none
  | .and, .int k a, .int k' b => if k = k' then some (.int k (bits .and k a b)) else none
  | .or, .int k a, .int k' b => if k = k' then some (.int k (bits .or k a b)) else none
  | .xor, .int k a, .int k' b => if k = k' then some (.int k (bits .xor k a b)) else none
  | _, _, _ => none
def eqCsC : List Nat → List AV → List AV → Option Bool
  | [], [], [] => some true
  | 0 :: ks, .int k a :: r, .int k' b :: r' => if k = k' then (match eqCsC ks r r' with | some e => some ((a == b) && e) | none => none) else none
  | 1 :: ks, .bool a :: r, .bool b :: r' => (match eqCsC ks r r' with | some e => some ((a == b) && e) | none => none)
  | 2 :: ks, .str a :: r, .str b :: r' => (match eqCsC ks r r' with | some e => some ((a.data.toList == b.data.toList) && e) | none => none)
  | _, _, _ => none
theorem eqCsC_eq : ∀ (ks : List Nat) (x y : List AV), eqCs ks x y = eqCsC ks x y := by
  intro ks x y
  fun_induction eqCs ks x y <;> simp_all [eqCsC, ba_toList]
def keqC (ks : Bool × List Nat) (x y : AV) : Option Bool :=
  match ks with
  | (false, ks) => eqCsC ks [x] [y]
  | (true, ks) => match x, y with | .agg xs, .agg ys => eqCsC ks xs ys | _, _ => none
theorem keqC_eq (ks : Bool × List Nat) (x y : AV) : keq ks x y = keqC ks x y := by
  obtain ⟨b, ks⟩ := ks
  cases b
  · exact eqCsC_eq _ _ _
  · cases x <;> cases y <;> first | exact eqCsC_eq _ _ _ | rfl
def mfindC (ks : Bool × List Nat) (k : AV) : List (AV × AV) → Nat → Option (Option (Nat × AV))
  | [], _ => some none
  | e :: r, i => match keqC ks k e.1 with | some true => some (some (i, e.2)) | some false => mfindC ks k r (i + 1) | none => none
theorem mfindC_eq (ks : Bool × List Nat) (k : AV) : ∀ (l : List (AV × AV)) (i : Nat), mfind ks k l i = mfindC ks k l i := by
  intro l
  induction l with
  | nil => intro i; rfl
  | cons e l ih =>
    intro i
    simp only [mfind, mfindC, keqC_eq, ih]
    rfl
variable (P : Program) [EHook P]
theorem wrapOp_eq {op : BinOp} {t : TypeId} {x y v : AV} (h : wrapOp op x y = some v) : ebinT P op t x y = some v := by
  unfold wrapOp at h
  split at h
  all_goals first
    | (simp only [ebinT, ebin, wrapI_eq, bitI_eq, ba_toList]; exact h)
    | (simp only [ebinT, ebin, ebinS, wrapI_eq, ite_self]; exact h)
    | simp at h
/-- An operation that calls no function, reckoned out. -/
def exOp (o : Oper) (s : St) : Option (AV × Upd) :=
  match o.op with
  | .binOp op t x y _ => match isNilS y, wrapOp op (ev s.T x) (ev s.T y), ev s.T x, ev s.T y with
    | false, some v, _, _ => some (v, .no)
    | false, none, .agg xs, .agg ys => (match eqKindsN P t with
      | some ks => match eqCsC ks xs ys with
        | some b => (match op with | .eql => some (.bool b, .no) | .neq => some (.bool !b, .no) | _ => none)
        | none => none
      | none => none)
    | _, _, _, _ => eop P o s
  | .lookup t mm k ok => match mapTy P t, ev s.T mm with
    | some (z, ks), .mp id => match s.H[id]? with
      | some (.map es) => match keqC ks (ev s.T k) (ev s.T k), mfindC ks (ev s.T k) es 0 with
        | some _, some r => some (if ok then .tup [mval z r, .bool r.isSome] else mval z r, .no)
        | _, _ => none
      | _ => none
    | _, _ => none
  | .mapUpdate t mm k x => match mapTy P t, ev s.T mm with
    | some (_, ks), .mp id => match s.H[id]? with
      | some (.map es) => match keqC ks (ev s.T k) (ev s.T k), mfindC ks (ev s.T k) es 0 with
        | some _, some r => some (.any, .set id (.map (mput es r (ev s.T k) (ev s.T x))))
        | _, _ => none
      | _ => none
    | _, _ => none
  | .mapEntry t mm k => match mapTy P t, ev s.T mm with
    | some (z, ks), .mp id => match s.H[id]? with
      | some (.map es) => match keqC ks (ev s.T k) (ev s.T k), mfindC ks (ev s.T k) es 0 with
        | some _, some r => some (.tup [mval z r, .ent id (mplace es r)], .set id (.map (mput es r (ev s.T k) (mval z r))))
        | _, _ => none
      | _ => none
    | _, _ => none
  | .unOp op _ x => match op, ev s.T x with | .neg, .int k n => some (.int k (k.wrap (0 - n)), .no) | _, _ => eop P o s
  | .convert src dst x => match ev s.T x with
    | .int _ n => match ty P src, ty P dst with
      | some _, some d => match d.int with | some k => some (.int k (k.wrap n), .no) | none => none
      | _, _ => none
    | _ => eop P o s
  | _ => eop P o s
theorem exOp_eq {o : Oper} {s : St} {r : AV × Upd} (h : exOp P o s = some r) : eop P o s = some r := by
  unfold exOp at h
  split at h
  · rename_i op t x y z ho
    split at h
    · rename_i v _ _ hn hv
      simp at h
      subst h
      have hm : isNilM y = false := by
        unfold isNilM
        split
        · simp only [ev, ofV, ofCell] at hv
          unfold wrapOp at hv
          split at hv <;> simp_all
        · rfl
      simp [eop, ho, hn, hm, wrapOp_eq P hv, same]
    · rename_i xs ys hn _ hx hy
      have hm : isNilM y = false := by
        unfold isNilM
        split
        · simp [ev, ofV, ofCell] at hy
        · rfl
      split at h
      · rename_i ks hks
        split at h
        · rename_i b hb
          split at h
          · simp at h; subst h; simp [eop, ho, hn, hm, hx, hy, ebinT, eqAgg, hks, eqCsC_eq, hb, same]
          · simp at h; subst h; simp [eop, ho, hn, hm, hx, hy, ebinT, eqAgg, hks, eqCsC_eq, hb, same]
          · simp at h
        · simp at h
      · simp at h
    · exact h
  · rename_i t mm k ok ho
    simp only [eop, ho, keqC_eq, mfindC_eq]
    exact h
  · rename_i t mm k x ho
    simp only [eop, ho, keqC_eq, mfindC_eq]
    exact h
  · rename_i t mm k ho
    simp only [eop, ho, keqC_eq, mfindC_eq]
    exact h
  · rename_i op t x ho
    split at h
    · rename_i k n hx
      simp at h
      subst h
      simp [eop, ho, hx, eun, wrapI_eq, same]
    · exact h
  · rename_i src dst x ho
    split at h
    · rename_i k n hx
      split at h
      · rename_i i d hi hd
        split at h
        · rename_i k' hk
          simp at h
          subst h
          simp [eop, ho, hx, hi, hd, hk, wrapI_eq]
        · simp at h
      · simp at h
    · exact h
  · exact h
/-- What is known of a function ahead: of some arguments, what it hands back. -/
abbrev Hook := Nat → Option (List AV → Option AV)
abbrev CallF := Nat → List AV → List Blk → Option (AV × List Blk)
variable (hk : Hook) (cf : CallF) (m : Nat)
/-- A new slice of numbers, strings and the like. -/
def freshS (r : AV) (H1 : List Blk) : Option (TypeId × List (List AV)) :=
  match r with
  | .os k n => match H1[k]? with
    | some (.row e false rows) => if rows.length = n ∧ (rows.all fun r => r.all flat) = true then some (e, rows) else none
    | _ => none
  | _ => none
/-- A call on arguments that are read only. -/
def exPur (g : Nat) (as : List AV) (H : List Blk) : Option (AV × List Blk) :=
  match as.mapM (reify H 8) with
  | some ys => match cf g ys [] with
    | some (r, H1) => match freshS r H1 with
      | some (e, rows) => some (.os H.length rows.length, H ++ [.row e false rows])
      | none => match reify H1 8 r with
        | some r' => if flat r' = true then some (r', H) else if ownsL as = false then (match cf g as [] with
          | some (r, H1) => match reify H1 8 r with
            | some r' => some (r', H)
            | none => none
          | none => none) else none
        | none => none
    | none => none
  | none => none
/-- A call on the memory as it is, which it leaves as it is. -/
def exOwn (g : Nat) (as : List AV) (H : List Blk) : Option (AV × List Blk) :=
  if (ownsL as && H.all (refsBk H.length) && refsL H.length as) = true then (match cf g as H with
    | some (r, H') => if preB H H' = true then (if flat r = true then some (r, H) else (match r with
      | .os k _ => if H.length ≤ k then (match freshS r H' with
        | some (e, rows) => some (.os H.length rows.length, H ++ [.row e false rows])
        | none => none) else none
      | _ => none)) else none
    | none => none) else none
def exCall (d : Bool) (g : Nat) (as : List AV) (H : List Blk) : Option (AV × List Blk) :=
  match (if d = true then EHook.f P g as H else none) with
  | some r => if flat r = true then some (r, H) else none
  | none => match hk g with
  | some f => match (as.mapM (reify H 8)).bind f with
    | some r => if flat r = true then some (r, H) else none
    | none => none
  | none => if d = true then (match exPur cf g as H with
      | some q => some q
      | none => exOwn cf g as H)
    else cf g as H
def exBody (d : Bool) (all : List Oper) (o : Oper) (s : St) : Option St :=
  match o.op with
  | .call ⟨.value f, args, _⟩ => match ev s.T f with
    | .fn g caps => match exCall P hk cf d g (args.toList.map (ev s.T) ++ caps) s.H with
      | some (r, H') => some ⟨tputD s.T o.dst r, H'⟩
      | none => none
    | _ => none
  | .load _ a => if (!d || notEp (ev s.T a) || strictB all) = true then (match exOp P o s with | some (v, u) => some ⟨tputD s.T o.dst v, upd s.H u⟩ | none => none) else none
  | .fieldAddr _ a _ => if (!d || notEp (ev s.T a) || strictB all) = true then (match exOp P o s with | some (v, u) => some ⟨tputD s.T o.dst v, upd s.H u⟩ | none => none) else none
  | .nilCheck a => if (!d || notEp (ev s.T a) || strictB all) = true then (match exOp P o s with | some (v, u) => some ⟨tputD s.T o.dst v, upd s.H u⟩ | none => none) else none
  | .indexAddr _ a _ => if (!d || notEp (ixv (ev s.T a)) || strictB all) = true then (match exOp P o s with | some (v, u) => some ⟨tputD s.T o.dst v, upd s.H u⟩ | none => none) else none
  | _ => match exOp P o s with | some (v, u) => some ⟨tputD s.T o.dst v, upd s.H u⟩ | none => none
def exStep (d : Bool) (all : List Oper) (o : Oper) (s : St) : Option St :=
  match o.guard with
  | none => exBody P hk cf d all o s
  | some (g, b) => match (all[g]?).bind (·.dst) with
    | some t => match tget s.T t with | .bool c => if c = b then exBody P hk cf d all o s else some ⟨tputD s.T o.dst .und, s.H⟩ | .und => some ⟨tputD s.T o.dst .und, s.H⟩ | _ => none
    | none => none
def exOps (d : Bool) (all : List Oper) : List Oper → St → Option St
  | [], s => some s
  | o :: r, s => match exStep P hk cf d all o s with | some s' => exOps d all r s' | none => none
def iterL (f : St → Option (Ex × St)) : Nat → St → Option (Ex × St)
  | 0, _ => none
  | k + 1, s => match f s with
    | some (.normal, s') => iterL f k s'
    | r => r
def exC : Code → St → Option (Ex × St)
  | .skip, s => some (.normal, s)
  | .region _ ops d, s => match exOps P hk cf d ops.toList ops.toList s with | some s' => some (.normal, s') | none => none
  | .seq a b, s => match exC a s with | some (.normal, s') => exC b s' | r => r
  | .cond c a b, s => match ev s.T c with | .bool t => if t = true then exC a s else exC b s | _ => none
  | .block id c, s => match exC c s with | some (.exit j, s') => if j = id then some (.normal, s') else some (.exit j, s') | r => r
  | .loop c, s => iterL (exC c) m s
  | .exit id, s => some (.exit id, s)
  | .ret, s => some (.ret, s)
  | _, _ => none
/-- A whole call; the first number bounds how deep calls lie, m how often a loop goes round. -/
def exF : Nat → CallF
  | 0, _, _, _ => none
  | n + 1, g, args, H => match P.funcs[g]? with
    | some fn => match fn.body with
      | some c => if (entersB P g && decide (args.length ≤ fn.ntmps) && okCode fn.ntmps c) = true then
          match exC P hk (exF n) m c ⟨argT 0 args, H⟩ with
          | some (.exit _, _) => none
          | some (_, s) => match resA P fn s with | some x => some (x, s.H) | none => none
          | none => none
        else none
      | none => none
    | none => none
end
section
variable {P : Program} [EHook P] {hk : Hook} {cf : CallF} {m : Nat}
theorem callG_new {f : FuncId} {args : List AV} {r : AV} {H1 : List Blk} (h : CallG P f args [] fun x H' => x = r ∧ H' = H1) : New P f args r H1 := by
  refine ⟨h.1, fun w X vs hX hvo hl hv => ?_⟩
  have hr0 : HR P w X w (fun _ => none) [] := ⟨hvo, Below.refl _ _, fun b hb => ⟨hX b hb, by simp⟩, fun _ _ h => by simp at h, fun _ _ _ h => by simp at h, fun _ _ _ h => by simp at h⟩
  refine (h.2 w w X (fun _ => none) vs hr0 hl fun j x v hx hu => .ro ((hv j x v hx hu).mono (Nat.le_refl _) fun b hb _ => ⟨rfl, fun h => h.elim hb fun ⟨_, h⟩ => by simp at h⟩)).mono ?_
  rintro e w' ⟨v, r', φ', H', h1, h2, _, h4, rfl, rfl⟩
  exact ⟨v, φ', h1, h2, h4⟩
theorem new_pure {f : FuncId} {args : List AV} {r r' : AV} {H1 : List Blk} (h : New P f args r H1) (hr : reify H1 8 r = some r') : Pure P f args r' :=
  ⟨h.1, fun w X vs hX hvo hl hv => (h.2 w X vs hX hvo hl hv).mono fun e w' ⟨v, φ1, h1, h2, h3⟩ => ⟨v, h1, reify_sound h2 8 _ _ _ hr h3, h2.fr⟩⟩
def HookOk (P : Program) (hk : Hook) : Prop := ∀ g f, hk g = some f → ∀ ys r, f ys = some r → Pure P g ys r
def CallOk (P : Program) (cf : CallF) : Prop := ∀ g as H r H', cf g as H = some (r, H') → CallG P g as H fun x G => x = r ∧ G = H'
mutual
theorem flat_owns : (x : AV) → flat x = true → owns x = false
  | .any, _ | .und, _ | .int .., _ | .bool _, _ | .str _, _ | .nilp, _ | .nils, _ | .nilf, _ | .nilm, _ | .yl _, _ | .nilc, _ | .rp _, _ | .rs _, _ | .fb .., _ | .nec, _ => rfl
  | .op .., h | .ep .., h | .os .., h | .ow .., h | .mp _, h | .ent .., h | .it _, h | .fn .., h => by simp [flat] at h
  | .agg l, h => by simp only [flat] at h; simp only [owns]; exact flatL_owns l h
  | .tup l, h => by simp only [flat] at h; simp only [owns]; exact flatL_owns l h
theorem flatL_owns : (l : List AV) → flatL l = true → ownsL l = false
  | [], _ => rfl
  | x :: r, h => by
    simp only [flatL, Bool.and_eq_true] at h
    simp only [ownsL, flat_owns x h.1, flatL_owns r h.2, Bool.or_self]
end
theorem own_E {g : FuncId} {as : List AV} {r : AV} {H : List Blk} (hp : Pure P g as r) (ho : ownsL as = false) : CallE P g as H r .no :=
  ⟨hp.1, fun _ _ h => by simp at h, fun _ h => by simp at h, fun w0 w X φ G vs hr hG _ hl hv =>
    (hp.2 w (fun b => X b ∨ ∃ id, φ id = some b) vs (fun b hb => hb.elim (fun hb => (hr.ext b hb).1) fun ⟨id, h⟩ => (hr.own id b h).2.1) hr.all hl fun j y v hj hu => (hv j y v hj hu).ro_of (ownsL_get ho j y hj)).mono
      fun e w' ⟨v, h1, h2, h3⟩ => ⟨v, φ, h1, hr_below hr h3, turn_below hr h3, .ro h2, fun id hid _ _ => ⟨hid, rfl⟩⟩⟩
theorem new_fresh {f : FuncId} {args : List AV} {e : TypeId} {rows : List (List AV)} {k : Nat} {H1 : List Blk} (h : New P f args (.os k rows.length) H1) (hk : H1[k]? = some (.row e false rows)) (ho : (rows.all fun r => r.all flat) = true) : Fresh P f args e rows := by
  refine ⟨h.1, fun w X vs hX hvo hl hv => (h.2 w X vs hX hvo hl hv).mono ?_⟩
  rintro en w' ⟨v, φ, rfl, hr, hrv⟩
  cases hrv with
  | ro h => cases h
  | os g0 hid hv =>
    rcases (hv e false rows hk).2 rfl with ⟨h, _⟩ | ⟨c, cap, cur, q1, q2, q3, q4, q5, q6⟩
    · cases h
    · obtain ⟨cur', p1, p2, p3, p4⟩ := hr.blk k _ c hk q1
      rw [q3] at p1
      simp at p1
      subst p1
      refine ⟨c, cap, cur, by rw [q2], (hr.own k c q1).1, q3, p2, q4, q6, q5, fun i j row x v h1 h2 h3 => ⟨?_, (p4 i j row x v h1 h2 h3).2⟩, hr.fr⟩
      have hf : flat x = true := by
        simp only [List.all_eq_true] at ho
        exact ho row (List.mem_of_getElem? h1) x (List.mem_of_getElem? h2)
      have hno : owns x = false := flat_owns x hf
      exact ((p4 i j row x v h1 h2 h3).1.ro_of hno).of_flat hf
theorem freshS_spec {r : AV} {H1 : List Blk} {e : TypeId} {rows : List (List AV)} (h : freshS r H1 = some (e, rows)) : ∃ k, r = .os k rows.length ∧ H1[k]? = some (.row e false rows) ∧ (rows.all fun r => r.all flat) = true := by
  unfold freshS at h
  split at h
  · rename_i k n
    split at h
    · rename_i e' rows' hk
      split at h
      · rename_i hcond
        simp at h
        obtain ⟨rfl, rfl⟩ := h
        obtain ⟨hn, hfl⟩ := hcond
        subst hn
        exact ⟨k, rfl, hk, hfl⟩
      · simp at h
    · simp at h
  · simp at h
theorem exPur_sound (h2 : CallOk P cf) {g : Nat} {as : List AV} {H H' : List Blk} {r : AV} (h : exPur cf g as H = some (r, H')) :
    ∃ u, CallE P g as H r u ∧ (∀ id b, u ≠ .set id b) ∧ H' = upd H u := by
  unfold exPur at h
  split at h
  · rename_i ys hys
    split at h
    · rename_i r1 H1 hc
      split at h
      · rename_i e rows hfs
        simp at h
        obtain ⟨rfl, rfl⟩ := h
        obtain ⟨k, rfl, hk, hfl⟩ := freshS_spec hfs
        exact ⟨_, fresh_callE (new_fresh (callG_new (h2 _ _ _ _ _ hc)) hk hfl) hys (.inl hfl), (fun _ _ q => Upd.noConfusion q), rfl⟩
      · split at h
        · rename_i r2 hr2
          split at h
          · rename_i hfl
            simp at h
            obtain ⟨rfl, rfl⟩ := h
            exact ⟨.no, pure_callE (new_pure (callG_new (h2 _ _ _ _ _ hc)) hr2) hys (.inl hfl), (fun _ _ q => Upd.noConfusion q), rfl⟩
          · split at h
            · rename_i hos
              split at h
              · rename_i r3 H3 hc3
                split at h
                · rename_i r4 hr4
                  simp at h
                  obtain ⟨rfl, rfl⟩ := h
                  exact ⟨.no, own_E (new_pure (callG_new (h2 _ _ _ _ _ hc3)) hr4) hos, (fun _ _ q => Upd.noConfusion q), rfl⟩
                · simp at h
              · simp at h
            · simp at h
        · simp at h
    · simp at h
  · simp at h
theorem exOwn_sound (h2 : CallOk P cf) {g : Nat} {as : List AV} {H H' : List Blk} {r : AV} (h : exOwn cf g as H = some (r, H')) :
    ∃ u, CallE P g as H r u ∧ (∀ id b, u ≠ .set id b) ∧ H' = upd H u := by
  unfold exOwn at h
  split at h
  · rename_i hcond
    rw [Bool.and_eq_true, Bool.and_eq_true] at hcond
    obtain ⟨⟨_, hB⟩, ha⟩ := hcond
    split at h
    · rename_i r1 H1 hc
      split at h
      · rename_i hpre
        have hc2 : CallG P g as H fun x G => x = r1 ∧ G = H ++ H1.drop H.length := by
          rw [← preB_sound hpre]; exact h2 _ _ _ _ _ hc
        split at h
        · rename_i hf
          simp at h
          obtain ⟨rfl, rfl⟩ := h
          exact ⟨.no, own_E2 hc2 hB ha hf, (fun _ _ q => Upd.noConfusion q), rfl⟩
        · split at h
          · rename_i k n
            split at h
            · rename_i hk
              split at h
              · rename_i e rows hfs
                simp at h
                obtain ⟨rfl, rfl⟩ := h
                obtain ⟨k', he, hk', hfl⟩ := freshS_spec hfs
                cases he
                refine ⟨_, own_E3 hc2 ?_ hk hB ha hfl, (fun _ _ q => Upd.noConfusion q), rfl⟩
                rw [← preB_sound hpre]; exact hk'
              · simp at h
            · simp at h
          · simp at h
      · simp at h
    · simp at h
  · simp at h
theorem exCall_sound (h1 : HookOk P hk) (h2 : CallOk P cf) {d : Bool} {g : Nat} {as : List AV} {H H' : List Blk} {r : AV} (h : exCall P hk cf d g as H = some (r, H')) :
    (∃ u, CallE P g as H r u ∧ (∀ id b, u ≠ .set id b) ∧ H' = upd H u) ∨ (d = false ∧ CallG P g as H fun x G => x = r ∧ G = H') := by
  unfold exCall at h
  split at h
  · rename_i r1 hr1
    split at h
    · rename_i hfl
      simp at h
      obtain ⟨rfl, rfl⟩ := h
      have hd : d = true := by
        cases d with
        | true => rfl
        | false => simp at hr1
      rw [if_pos hd] at hr1
      exact .inl ⟨.no, EHook.ok _ _ _ _ hr1 hfl, (fun _ _ q => Upd.noConfusion q), rfl⟩
    · simp at h
  split at h
  · rename_i f hf
    split at h
    · rename_i r1 hr1
      split at h
      · rename_i hfl
        simp at h
        obtain ⟨rfl, rfl⟩ := h
        obtain ⟨ys, k1, k2⟩ := Option.bind_eq_some_iff.1 hr1
        exact .inl ⟨.no, pure_callE (h1 g f hf ys _ k2) k1 (.inl hfl), (fun _ _ q => Upd.noConfusion q), rfl⟩
      · simp at h
    · simp at h
  · split at h
    · split at h
      · rename_i q hq
        simp only [Option.some.injEq] at h
        subst h
        exact .inl (exPur_sound h2 hq)
      · exact .inl (exOwn_sound h2 h)
    · rename_i hd
      exact .inr ⟨by simpa using hd, h2 _ _ _ _ _ h⟩
theorem exBody_sound (h1 : HookOk P hk) (h2 : CallOk P cf) {d : Bool} {all : List Oper} {o : Oper} {s s' : St} {K : St → Prop} (h : exBody P hk cf d all o s = some s') (hK : K s') : bodyC P d all o s K := by
  unfold exBody at h
  unfold bodyC
  split at h
  · rename_i f args ats hop
    simp only [hop]
    split at h
    · rename_i g caps hf
      split at h
      · rename_i r H' hc
        simp at h
        subst h
        refine Or.inl ⟨g, caps, hf, ?_⟩
        rcases exCall_sound h1 h2 hc with ⟨u, k1, _, rfl⟩ | ⟨k1, k2⟩
        · exact .inl ⟨r, u, k1, hK⟩
        · exact .inr ⟨k1, callG_mono k2 fun x G ⟨e1, e2⟩ => by rw [e1, e2]; exact hK⟩
      · simp at h
    · simp at h
  · rename_i t a hop
    simp only [hop]
    split at h
    · rename_i hz
      refine ⟨fun hd => by subst hd; simpa using hz, ?_⟩
      split at h
      · rename_i v u he
        simp at h
        subst h
        rw [exOp_eq P he]
        exact hK
      · simp at h
    · simp at h
  · rename_i t a f hop
    simp only [hop]
    split at h
    · rename_i hz
      refine ⟨fun hd => by subst hd; simpa using hz, ?_⟩
      split at h
      · rename_i v u he
        simp at h
        subst h
        rw [exOp_eq P he]
        exact hK
      · simp at h
    · simp at h
  · rename_i a hop
    simp only [hop]
    split at h
    · rename_i hz
      refine ⟨fun hd => by subst hd; simpa using hz, ?_⟩
      split at h
      · rename_i v u he
        simp at h
        subst h
        rw [exOp_eq P he]
        exact hK
      · simp at h
    · simp at h
  · rename_i t a n hop
    simp only [hop]
    split at h
    · rename_i hz
      refine ⟨fun hd => by subst hd; simpa using hz, ?_⟩
      split at h
      · rename_i v u he
        simp at h
        subst h
        rw [exOp_eq P he]
        exact hK
      · simp at h
    · simp at h
  · rename_i hop hop2 hop3 hop4 hop5
    split at h
    · rename_i v u he
      simp at h
      subst h
      split
      · rename_i f args ats hop'
        exact (hop f args ats hop').elim
      · rename_i t' a' hop'
        exact (hop2 t' a' hop').elim
      · rename_i t' a' f' hop'
        exact (hop3 t' a' f' hop').elim
      · rename_i a' hop'
        exact (hop4 a' hop').elim
      · rename_i t' a' n' hop'
        exact (hop5 t' a' n' hop').elim
      · rename_i x' b' hop'
        simp [exOp, hop', eop] at he
      · rw [exOp_eq P he]; exact hK
    · simp at h
theorem exStep_sound (h1 : HookOk P hk) (h2 : CallOk P cf) {d : Bool} {all : List Oper} {o : Oper} {s s' : St} {K : St → Prop} (h : exStep P hk cf d all o s = some s') (hK : K s') : stepC P d all o s K := by
  unfold exStep at h
  unfold stepC
  split at h
  · rename_i hg
    simp only [hg]
    exact exBody_sound h1 h2 h hK
  · rename_i g b hg
    simp only [hg]
    split at h
    · rename_i t ht
      simp only [ht]
      split at h
      · rename_i c hc
        simp only [hc]
        split at h
        · rename_i hcb
          rw [if_pos hcb]
          exact exBody_sound h1 h2 h hK
        · rename_i hcb
          rw [if_neg hcb]
          simp at h
          subst h
          exact hK
      · rename_i hc
        simp only [hc]
        simp at h
        subst h
        exact hK
      · simp at h
    · simp at h
theorem exOps_sound (h1 : HookOk P hk) (h2 : CallOk P cf) {d : Bool} {all : List Oper} {K : St → Prop} : ∀ (l : List Oper) (s s' : St), exOps P hk cf d all l s = some s' → K s' → wopsC P d all l s K := by
  intro l
  induction l with
  | nil => intro s s' h hK; simp [exOps] at h; subst h; exact hK
  | cons o l ih =>
    intro s s' h hK
    simp only [exOps] at h
    split at h
    · rename_i s1 hs
      exact exStep_sound h1 h2 hs (ih s1 s' h hK)
    · simp at h
theorem exC_sound (h1 : HookOk P hk) (h2 : CallOk P cf) {L : Nat} : ∀ (c : Code) (s : St) (e : Ex) (s' : St) (Q : Ex → St → Prop), exC P hk cf m c s = some (e, s') → Q e s' → vc P L c s Q := by
  intro c
  induction c with
  | skip => intro s e s' Q h hQ; simp [exC] at h; obtain ⟨rfl, rfl⟩ := h; exact hQ
  | region id ops d =>
    intro s e s' Q h hQ
    simp only [exC] at h
    split at h
    · rename_i s1 hs
      simp at h
      obtain ⟨rfl, rfl⟩ := h
      exact exOps_sound h1 h2 _ _ _ hs hQ
    · simp at h
  | seq a b iha ihb =>
    intro s e s' Q h hQ
    simp only [exC] at h
    split at h
    · rename_i s1 hs
      exact iha _ _ _ _ hs (ihb _ _ _ _ h hQ)
    · rename_i hn
      refine iha _ _ _ _ h ?_
      cases e with
      | normal => exact (hn s' h).elim
      | exit j => exact hQ
      | ret => exact hQ
  | cond c a b iha ihb =>
    intro s e s' Q h hQ
    simp only [exC] at h
    simp only [vc]
    split at h
    · rename_i t ht
      simp only [ht]
      split at h
      · rename_i htt
        rw [if_pos htt]
        exact iha _ _ _ _ h hQ
      · rename_i htt
        rw [if_neg htt]
        exact ihb _ _ _ _ h hQ
    · simp at h
  | block id c ih =>
    intro s e s' Q h hQ
    simp only [exC] at h
    split at h
    · rename_i j s1 hs
      refine ih _ _ _ _ hs ?_
      split at h
      · rename_i hj
        simp at h
        obtain ⟨rfl, rfl⟩ := h
        simp only [hj, if_true]; exact hQ
      · rename_i hj
        simp at h
        obtain ⟨rfl, rfl⟩ := h
        simp only [hj, if_false]; exact hQ
    · rename_i hn
      refine ih _ _ _ _ h ?_
      cases e with
      | normal => exact hQ
      | exit j => exact (hn j s' h).elim
      | ret => exact hQ
  | loop c ih =>
    intro s e s' Q h hQ
    simp only [exC] at h
    refine ⟨fun n s1 => iterL (exC P hk cf m c) n s1 = some (e, s'), ⟨m, s, Weak.refl _, h⟩, fun n s1 hI => ?_⟩
    cases n with
    | zero => simp [iterL] at hI
    | succ n =>
      simp only [iterL] at hI
      split at hI
      · rename_i s2 hs
        exact ih _ _ _ _ hs ⟨n, by omega, s2, Weak.refl _, hI⟩
      · rename_i hn
        refine ih _ _ _ _ hI ?_
        cases e with
        | normal => exact (hn s' hI).elim
        | exit j => exact hQ
        | ret => exact hQ
  | exit id => intro s e s' Q h hQ; simp [exC] at h; obtain ⟨rfl, rfl⟩ := h; exact hQ
  | ret => intro s e s' Q h hQ; simp [exC] at h; obtain ⟨rfl, rfl⟩ := h; exact hQ
  | _ => intro s e s' Q h hQ; simp [exC] at h
theorem exF_sound (hm : P.follows .mixedOrders = true) (h1 : HookOk P hk) : ∀ n, CallOk P (exF P hk m n) := by
  intro n
  induction n with
  | zero => intro g as H r H' h; simp [exF] at h
  | succ n ih =>
    intro g as H r H' h
    simp only [exF] at h
    split at h
    · rename_i fn hf
      split at h
      · rename_i c hc
        split at h
        · rename_i hb
          simp only [Bool.and_eq_true, decide_eq_true_eq] at hb
          split at h
          · simp at h
          · rename_i e s hne hs
            split at h
            · rename_i x hx
              simp at h
              obtain ⟨rfl, rfl⟩ := h
              refine inl_G hm hf hc hb.1.1 hb.1.2 hb.2 (exC_sound h1 ih _ _ _ _ _ hs ?_)
              cases e with
              | normal => exact ⟨x, x, s.H, hx, Weak.refl _, rfl, rfl⟩
              | exit j => exact (hne j rfl).elim
              | ret => exact ⟨x, x, s.H, hx, Weak.refl _, rfl, rfl⟩
            · simp at h
          · simp at h
        · simp at h
      · simp at h
    · simp at h
/-- **A call on known values, computed.** -/
theorem exF_pure (hm : P.follows .mixedOrders = true) (h1 : HookOk P hk) {n : Nat} {f : FuncId} {args : List AV} {r : AV} (h : ((exF P hk m n f args []).bind fun x => reify x.2 8 x.1) = some r) : Pure P f args r := by
  obtain ⟨⟨x, H⟩, k1, k2⟩ := Option.bind_eq_some_iff.1 h
  exact new_pure (callG_new (exF_sound hm h1 n _ _ _ _ _ k1)) k2
def hkAdd (g : Nat) (f : List AV → Option AV) (hk : Hook) : Hook := fun n => if n = g then some f else hk n
theorem hkAdd_ok {g : Nat} {f : List AV → Option AV} (h : ∀ ys r, f ys = some r → Pure P g ys r) (hh : HookOk P hk) : HookOk P (hkAdd g f hk) := by
  intro n f' hn ys r hr
  unfold hkAdd at hn
  by_cases e : n = g
  · rw [if_pos e] at hn
    cases hn
    rw [e]
    exact h ys r hr
  · rw [if_neg e] at hn
    exact hh n f' hn ys r hr
theorem noHook : HookOk P fun _ => none := fun _ _ h => by simp at h
end
end Go.Proofs.YthiclaihlpkinaaGreat
namespace Go.Proofs.YthiclaihlpkinaaGreat
open Go.RowKit
variable [Glob]
noncomputable section
variable (P : Program) [EHook P]
/-- Calls that turn one row. -/
abbrev RowF := Nat → List AV → List Blk → Option (AV × Nat × Blk)
def RowOk (b2 : RowF) : Prop := ∀ g as H r id b, b2 g as H = some (r, id, b) → id < H.length ∧ isBox b = false ∧ isBoxO H[id]? = false ∧ CallG P g as H fun r' H' => r' = r ∧ H' = H.set id b
variable (hk : Hook) (b2 : RowF) (cf : CallF) (m : Nat)
def exRes2 (all : List Oper) (o : Oper) (s : St) : Option St := match exOp P o s with | some (v, u) => if noboxA all s.H u = true then some ⟨tputD s.T o.dst v, upd s.H u⟩ else none | none => none
def exBody2 (all : List Oper) (j : Nat) (o : Oper) (s : St) : Option St :=
  match o.op with
  | .call ⟨.value f, args, _⟩ => match ev s.T f with
    | .fn g caps => match b2 g (args.toList.map (ev s.T) ++ caps) s.H with
      | some (r, id, b) => if lastNew all j = true then some ⟨tputD s.T o.dst r, s.H.set id b⟩ else none
      | none => match exCall P hk cf true g (args.toList.map (ev s.T) ++ caps) s.H with
        | some (r, H') => some ⟨tputD s.T o.dst r, H'⟩
        | none => none
    | _ => none
  | .load _ a => if (softOk all false (ev s.T a) || hardX all false s.T (ev s.T a) j) = true then exRes2 P all o s else none
  | .fieldAddr _ a _ => if (softOk all false (ev s.T a) || hardX all false s.T (ev s.T a) j) = true then exRes2 P all o s else none
  | .nilCheck a => if (softOk all false (ev s.T a) || hardX all false s.T (ev s.T a) j) = true then exRes2 P all o s else none
  | .indexAddr _ a _ => if (softOk all true (ev s.T a) || hardX all true s.T (ev s.T a) j) = true then exRes2 P all o s else none
  | .call ⟨.builtin .len, args, _⟩ => if (softOk all true (match args[0]? with | some a => ev s.T a | none => .any) || hardX all true s.T (match args[0]? with | some a => ev s.T a | none => .any) j) = true then exRes2 P all o s else none
  | _ => exRes2 P all o s
def exStep2 (all : List Oper) (j : Nat) (o : Oper) (s : St) : Option St :=
  match o.guard with
  | none => exBody2 P hk b2 cf all j o s
  | some (g, b) => match (all[g]?).bind (·.dst) with
    | some t => match tget s.T t with | .bool c => if c = b then exBody2 P hk b2 cf all j o s else some ⟨tputD s.T o.dst .und, s.H⟩ | .und => some ⟨tputD s.T o.dst .und, s.H⟩ | _ => none
    | none => none
def exOps2 (all : List Oper) : Nat → List Oper → St → Option St
  | _, [], s => some s
  | j, o :: r, s => match exStep2 P hk b2 cf all j o s with | some s' => exOps2 all (j + 1) r s' | none => none
def exC2 : Code → St → Option (Ex × St)
  | .skip, s => some (.normal, s)
  | .region _ ops d, s => match exOps P hk cf d ops.toList ops.toList s with | some s' => some (.normal, s') | none => none
  | .seq a b, s => match exC2 a s with | some (.normal, s') => exC2 b s' | r => r
  | .cond c a b, s => match ev s.T c with | .bool t => if t = true then exC2 a s else exC2 b s | _ => none
  | .block id c, s => match exC2 c s with | some (.exit j, s') => if j = id then some (.normal, s') else some (.exit j, s') | r => r
  | .loop c, s => iterL (exC2 c) m s
  | .exit id, s => some (.exit id, s)
  | .ret, s => some (.ret, s)
  | .scope (.region _ ops _), s => match exOps2 P hk b2 cf ops.toList 0 ops.toList s with | some s' => some (.normal, s') | none => none
  | .scope (.seq (.region _ pre _) (.region _ lst _)), s => match exOps P hk cf true pre.toList pre.toList s with | some s1 => (match exOps P hk cf false lst.toList lst.toList s1 with | some s' => some (.normal, s') | none => none) | none => none
  | _, _ => none
def exFC (base : CallF) : Nat → CallF
  | 0, g, args, H => base g args H
  | n + 1, g, args, H => match base g args H with
    | some r => some r
    | none => match b2 g args H with
      | some (r, id, b) => some (r, H.set id b)
      | none => match P.funcs[g]? with
        | some fn => match fn.body with
          | some c => if (entersB P g && decide (args.length ≤ fn.ntmps) && (okM fn.ntmps (mark c) && noScope [] c)) = true then
              match exC2 P hk b2 (exFC base n) m (mark c) ⟨argT 0 args, H⟩ with
              | some (.exit _, _) => none
              | some (_, s) => match resA P fn s with | some x => some (x, s.H) | none => none
              | none => none
            else none
          | none => none
        | none => none
end
section
variable {P : Program} [EHook P] {hk : Hook} {b2 : RowF} {cf : CallF} {m : Nat}
theorem exRes2_sound {all : List Oper} {o : Oper} {s s' : St} {K : St → Prop} (h : exRes2 P all o s = some s') (hK : K s') : res2 P all o s K := by
  unfold exRes2 at h
  unfold res2
  split at h
  · rename_i v u he
    split at h
    · rename_i hb
      simp at h
      subst h
      rw [exOp_eq P he]
      exact ⟨hb, hK⟩
    · simp at h
  · simp at h
theorem exBody2_sound (h1 : HookOk P hk) (h2 : CallOk P cf) (h3 : RowOk P b2) {all : List Oper} {j : Nat} {o : Oper} {s s' : St} {K : St → Prop} (h : exBody2 P hk b2 cf all j o s = some s') (hK : K s') : body2 P all j o s K := by
  unfold exBody2 at h
  unfold body2
  split at h
  · rename_i f args ats hop
    simp only [hop]
    split at h
    · rename_i g caps hf
      split at h
      · rename_i r id b hb
        split at h
        · rename_i hl
          simp at h
          subst h
          obtain ⟨k1, k2, k3, k4⟩ := h3 _ _ _ _ _ _ hb
          exact ⟨g, caps, hf, .inr ⟨hl, r, id, b, k1, k2, k3, k4, hK⟩⟩
        · simp at h
      · split at h
        · rename_i r H' hc
          simp at h
          subst h
          rcases exCall_sound h1 h2 hc with ⟨u, k1, _, rfl⟩ | ⟨k1, _⟩
          · exact ⟨g, caps, hf, .inl ⟨r, u, k1, hK⟩⟩
          · cases k1
        · simp at h
    · simp at h
  · rename_i t a hop
    simp only [hop]
    split at h
    · rename_i hz
      exact ⟨by simpa using hz, exRes2_sound h hK⟩
    · simp at h
  · rename_i t a f hop
    simp only [hop]
    split at h
    · rename_i hz
      exact ⟨by simpa using hz, exRes2_sound h hK⟩
    · simp at h
  · rename_i a hop
    simp only [hop]
    split at h
    · rename_i hz
      exact ⟨by simpa using hz, exRes2_sound h hK⟩
    · simp at h
  · rename_i t a n hop
    simp only [hop]
    split at h
    · rename_i hz
      exact ⟨by simpa using hz, exRes2_sound h hK⟩
    · simp at h
  · rename_i args ats hop
    simp only [hop]
    cases ha : args[0]? with
    | none =>
      simp only [ha] at h
      split at h
      · rename_i hz
        exact ⟨by simpa [ha] using hz, exRes2_sound h hK⟩
      · simp at h
    | some a =>
      simp only [ha] at h
      split at h
      · rename_i hz
        exact ⟨by simpa [ha] using hz, exRes2_sound h hK⟩
      · simp at h
  · rename_i hop hop2 hop3 hop4 hop5 hop6
    split
    · rename_i f args ats hop'
      exact (hop f args ats hop').elim
    · rename_i t' a' hop'
      exact (hop2 t' a' hop').elim
    · rename_i t' a' f' hop'
      exact (hop3 t' a' f' hop').elim
    · rename_i a' hop'
      exact (hop4 a' hop').elim
    · rename_i t' a' n' hop'
      exact (hop5 t' a' n' hop').elim
    · rename_i args' ats' hop'
      exact (hop6 args' ats' hop').elim
    · exact exRes2_sound h hK
theorem exStep2_sound (h1 : HookOk P hk) (h2 : CallOk P cf) (h3 : RowOk P b2) {all : List Oper} {j : Nat} {o : Oper} {s s' : St} {K : St → Prop} (h : exStep2 P hk b2 cf all j o s = some s') (hK : K s') : step2 P all j o s K := by
  unfold exStep2 at h
  unfold step2
  split at h
  · rename_i hg
    simp only [hg]
    exact exBody2_sound h1 h2 h3 h hK
  · rename_i g b hg
    simp only [hg]
    split at h
    · rename_i t ht
      simp only [ht]
      split at h
      · rename_i c hc
        simp only [hc]
        split at h
        · rename_i hcb
          rw [if_pos hcb]
          exact exBody2_sound h1 h2 h3 h hK
        · rename_i hcb
          rw [if_neg hcb]
          simp at h
          subst h
          exact hK
      · rename_i hc
        simp only [hc]
        simp at h
        subst h
        exact hK
      · simp at h
    · simp at h
theorem exOps2_sound (h1 : HookOk P hk) (h2 : CallOk P cf) (h3 : RowOk P b2) {all : List Oper} {K : St → Prop} : ∀ (l : List Oper) (j : Nat) (s s' : St), exOps2 P hk b2 cf all j l s = some s' → K s' → wopsE P all j l s K := by
  intro l
  induction l with
  | nil => intro j s s' h hK; simp [exOps2] at h; subst h; exact hK
  | cons o l ih =>
    intro j s s' h hK
    simp only [exOps2] at h
    split at h
    · rename_i s1 hs
      exact exStep2_sound h1 h2 h3 hs (ih (j + 1) s1 s' h hK)
    · simp at h
theorem exC2_sound (h1 : HookOk P hk) (h2 : CallOk P cf) (h3 : RowOk P b2) {L : Nat} : ∀ (c : Code) (s : St) (e : Ex) (s' : St) (Q : Ex → St → Prop), exC2 P hk b2 cf m c s = some (e, s') → Q e s' → vc P L c s Q := by
  intro c
  induction c with
  | skip => intro s e s' Q h hQ; simp [exC2] at h; obtain ⟨rfl, rfl⟩ := h; exact hQ
  | region id ops d =>
    intro s e s' Q h hQ
    simp only [exC2] at h
    split at h
    · rename_i s1 hs
      simp at h
      obtain ⟨rfl, rfl⟩ := h
      exact exOps_sound h1 h2 _ _ _ hs hQ
    · simp at h
  | seq a b iha ihb =>
    intro s e s' Q h hQ
    simp only [exC2] at h
    split at h
    · rename_i s1 hs
      exact iha _ _ _ _ hs (ihb _ _ _ _ h hQ)
    · rename_i hn
      refine iha _ _ _ _ h ?_
      cases e with
      | normal => exact (hn s' h).elim
      | exit j => exact hQ
      | ret => exact hQ
  | cond c a b iha ihb =>
    intro s e s' Q h hQ
    simp only [exC2] at h
    simp only [vc]
    split at h
    · rename_i t ht
      simp only [ht]
      split at h
      · rename_i htt
        rw [if_pos htt]
        exact iha _ _ _ _ h hQ
      · rename_i htt
        rw [if_neg htt]
        exact ihb _ _ _ _ h hQ
    · simp at h
  | block id c ih =>
    intro s e s' Q h hQ
    simp only [exC2] at h
    split at h
    · rename_i j s1 hs
      refine ih _ _ _ _ hs ?_
      split at h
      · rename_i hj
        simp at h
        obtain ⟨rfl, rfl⟩ := h
        simp only [hj, if_true]; exact hQ
      · rename_i hj
        simp at h
        obtain ⟨rfl, rfl⟩ := h
        simp only [hj, if_false]; exact hQ
    · rename_i hn
      refine ih _ _ _ _ h ?_
      cases e with
      | normal => exact hQ
      | exit j => exact (hn j s' h).elim
      | ret => exact hQ
  | loop c ih =>
    intro s e s' Q h hQ
    simp only [exC2] at h
    refine ⟨fun n s1 => iterL (exC2 P hk b2 cf m c) n s1 = some (e, s'), ⟨m, s, Weak.refl _, h⟩, fun n s1 hI => ?_⟩
    cases n with
    | zero => simp [iterL] at hI
    | succ n =>
      simp only [iterL] at hI
      split at hI
      · rename_i s2 hs
        exact ih _ _ _ _ hs ⟨n, by omega, s2, Weak.refl _, hI⟩
      · rename_i hn
        refine ih _ _ _ _ hI ?_
        cases e with
        | normal => exact (hn s' hI).elim
        | exit j => exact hQ
        | ret => exact hQ
  | exit id => intro s e s' Q h hQ; simp [exC2] at h; obtain ⟨rfl, rfl⟩ := h; exact hQ
  | ret => intro s e s' Q h hQ; simp [exC2] at h; obtain ⟨rfl, rfl⟩ := h; exact hQ
  | scope c ih =>
    intro s e s' Q h hQ
    cases c with
    | region id ops d =>
      simp only [exC2] at h
      split at h
      · rename_i s1 hs
        simp at h
        obtain ⟨rfl, rfl⟩ := h
        exact exOps2_sound h1 h2 h3 _ _ _ _ hs hQ
      · simp at h
    | seq x y =>
      cases x with
      | region id1 pre d1 =>
        cases y with
        | region id2 lst d2 =>
          simp only [exC2] at h
          split at h
          · rename_i s1 hs1
            split at h
            · rename_i s2 hs2
              simp at h
              obtain ⟨rfl, rfl⟩ := h
              exact exOps_sound h1 h2 _ _ _ hs1 (exOps_sound h1 h2 _ _ _ hs2 hQ)
            · simp at h
          · simp at h
        | _ => simp [exC2] at h
      | _ => simp [exC2] at h
    | _ => simp [exC2] at h
  | _ => intro s e s' Q h hQ; simp [exC2] at h
theorem exFC_sound (hm : P.follows .mixedOrders = true) (h1 : HookOk P hk) (h3 : RowOk P b2) {base : CallF} (hb0 : CallOk P base) : ∀ n, CallOk P (exFC P hk b2 m base n) := by
  intro n
  induction n with
  | zero => exact hb0
  | succ n ih =>
    intro g as H r H' h
    simp only [exFC] at h
    split at h
    · rename_i q hq
      simp only [Option.some.injEq] at h
      subst h
      exact hb0 _ _ _ _ _ hq
    · split at h
      · rename_i r1 id b hb
        simp at h
        obtain ⟨rfl, rfl⟩ := h
        exact (h3 _ _ _ _ _ _ hb).2.2.2
      · split at h
        · rename_i fn hf
          split at h
          · rename_i c hc
            split at h
            · rename_i hb
              rw [Bool.and_eq_true, Bool.and_eq_true] at hb
              obtain ⟨⟨hb1, hb2⟩, hb3⟩ := hb
              split at h
              · simp at h
              · rename_i e s hne hs
                split at h
                · rename_i x hx
                  simp at h
                  obtain ⟨rfl, rfl⟩ := h
                  refine inl_K hm hf hc hb1 (by simpa using hb2) hb3 (exC2_sound h1 ih h3 _ _ _ _ _ hs ?_)
                  cases e with
                  | normal => exact ⟨x, x, s.H, hx, Weak.refl _, rfl, rfl⟩
                  | exit j => exact (hne j rfl).elim
                  | ret => exact ⟨x, x, s.H, hx, Weak.refl _, rfl, rfl⟩
                · simp at h
              · simp at h
            · simp at h
          · simp at h
        · simp at h
theorem exFC_pure (hm : P.follows .mixedOrders = true) (h1 : HookOk P hk) (h3 : RowOk P b2) {base : CallF} (hb0 : CallOk P base) {n : Nat} {f : FuncId} {args : List AV} {r : AV} (h : ((exFC P hk b2 m base n f args []).bind fun x => reify x.2 8 x.1) = some r) : Pure P f args r := by
  obtain ⟨⟨x, H⟩, k1, k2⟩ := Option.bind_eq_some_iff.1 h
  exact new_pure (callG_new (exFC_sound hm h1 h3 hb0 n _ _ _ _ _ k1)) k2
theorem noRow : RowOk P fun _ _ _ => none := fun _ _ _ _ _ _ h => by cases h
theorem noBase : CallOk P fun _ _ _ => none := fun _ _ _ _ _ h => by cases h
end
end Go.Proofs.YthiclaihlpkinaaGreat
namespace Go.Proofs.YthiclaihlpkinaaGreat
open Go.RowKit
variable [Glob]
noncomputable section
def bindA {α β : Type} (f : α → Option (List β)) : List α → Option (List β)
  | [] => some []
  | x :: r => match f x, bindA f r with | some a, some b => some (a ++ b) | _, _ => none
/-- What an iterator may hand out. -/
def nextL (H : List Blk) (x : AV) : Option (List (AV × List Blk)) :=
  match x with
  | .it id => match H[id]? with
    | some (.iter none _ _) => some [(.tup [.bool false], H)]
    | some (.iter (some mid) n seen) => match H[mid]? with
      | some (.map es) => if es.length = n then
          (if (List.range n).all (fun i => seen.contains i) = true then some [(.tup [.bool false], H)]
          else bindA (fun i => if seen.contains i = true then some [] else match es[i]? with | some e => some [(.tup [.bool true, e.1, e.2], H.set id (.iter (some mid) n (seen ++ [i])))] | none => none) (List.range n)) else none
      | _ => none
    | _ => none
  | _ => none
variable (P : Program) [EHook P] (hk : Hook) (b2 : RowF) (cf : CallF) (m : Nat)
def exReg (d : Bool) (ops : List Oper) (s : St) : Option (List St) :=
  match ops with
  | [] => some [s]
  | o :: r => match o.op, o.guard, d with
    | .next x false, none, false => match nextL s.H (ev s.T x) with
      | some l => bindA (fun (p : AV × List Blk) => match exOps P hk cf false ops r ⟨tputD s.T o.dst p.1, p.2⟩ with | some s' => some [s'] | none => none) l
      | none => none
    | _, _, _ => match exOps P hk cf d ops ops s with | some s' => some [s'] | none => none
def iterN (f : St → Option (List (Ex × St))) : Nat → St → Option (List (Ex × St))
  | 0, _ => none
  | k + 1, s => match f s with
    | some l => bindA (fun (p : Ex × St) => match p.1 with | .normal => iterN f k p.2 | e => some [(e, p.2)]) l
    | none => none
def exN : Code → St → Option (List (Ex × St))
  | .skip, s => some [(.normal, s)]
  | .region _ ops d, s => (exReg P hk cf d ops.toList s).map (·.map fun s' => (.normal, s'))
  | .seq a b, s => match exN a s with | some l => bindA (fun (p : Ex × St) => match p.1 with | .normal => exN b p.2 | e => some [(e, p.2)]) l | none => none
  | .cond c a b, s => match ev s.T c with | .bool t => if t = true then exN a s else exN b s | _ => none
  | .block id c, s => (exN c s).map (·.map fun (p : Ex × St) => match p.1 with | .exit j => if j = id then (.normal, p.2) else (.exit j, p.2) | e => (e, p.2))
  | .loop c, s => iterN (exN c) m s
  | .exit id, s => some [(.exit id, s)]
  | .ret, s => some [(.ret, s)]
  | .scope (.region _ ops _), s => match exOps2 P hk b2 cf ops.toList 0 ops.toList s with | some s' => some [(.normal, s')] | none => none
  | .scope (.seq (.region _ pre _) (.region _ lst _)), s => match exOps P hk cf true pre.toList pre.toList s with | some s1 => (match exOps P hk cf false lst.toList lst.toList s1 with | some s' => some [(.normal, s')] | none => none) | none => none
  | _, _ => none
end
section
variable {P : Program} [EHook P] {hk : Hook} {b2 : RowF} {cf : CallF} {m : Nat}
theorem bindA_spec {α β : Type} {f : α → Option (List β)} : ∀ {l : List α} {r : List β}, bindA f l = some r → ∀ x ∈ l, ∃ a, f x = some a ∧ ∀ y ∈ a, y ∈ r := by
  intro l
  induction l with
  | nil => intro r _ x hx; simp at hx
  | cons z l ih =>
    intro r h x hx
    simp only [bindA] at h
    split at h
    · rename_i a b ha hb
      simp at h
      subst h
      rcases List.mem_cons.1 hx with rfl | hx
      · exact ⟨a, ha, fun y hy => List.mem_append_left _ hy⟩
      · obtain ⟨c, h1, h2⟩ := ih hb x hx
        exact ⟨c, h1, fun y hy => List.mem_append_right _ (h2 y hy)⟩
    · simp at h
theorem nextL_sound {H : List Blk} {x : AV} {l : List (AV × List Blk)} {K : AV → List Blk → Prop} (h : nextL H x = some l) (hK : ∀ p ∈ l, K p.1 p.2) : nextD H x K := by
  cases x with
  | it id =>
    simp only [nextL] at h
    simp only [nextD]
    cases hb : H[id]? with
    | none => simp [hb] at h
    | some b =>
      cases b with
      | iter q n seen =>
        cases q with
        | none => simp only [hb] at h ⊢; simp at h; subst h; exact hK _ (List.mem_singleton_self _)
        | some mid =>
          simp only [hb] at h ⊢
          cases hm : H[mid]? with
          | none => simp [hm] at h
          | some b2 =>
            cases b2 with
            | map es =>
              simp only [hm] at h ⊢
              split at h
              · rename_i hn
                refine ⟨hn, fun i k y hi he => ?_, fun hall => ?_⟩
                · have hin : i < n := by rw [← hn]; exact (List.getElem?_eq_some_iff.1 he).1
                  split at h
                  · rename_i hq
                    rw [List.all_eq_true] at hq
                    exact absurd (by simpa using hq i (by simpa using hin)) hi
                  · obtain ⟨a, h1, h2⟩ := bindA_spec h i (by simpa using hin)
                    have hc : seen.contains i = false := by simpa using hi
                    rw [hc, he] at h1
                    simp at h1
                    subst h1
                    exact hK _ (h2 _ (List.mem_singleton_self _))
                · split at h
                  · simp at h; subst h; exact hK _ (List.mem_singleton_self _)
                  · rename_i hq
                    exact absurd (by rw [List.all_eq_true]; intro i hi; simpa using hall i (by simpa using hi)) hq
              · simp at h
            | _ => simp [hm] at h
      | _ => simp [hb] at h
  | _ => simp [nextL] at h
theorem exReg_sound (h1 : HookOk P hk) (h2 : CallOk P cf) {d : Bool} {ops : List Oper} {s : St} {l : List St} {K : St → Prop} (h : exReg P hk cf d ops s = some l) (hK : ∀ s' ∈ l, K s') : wopsC P d ops ops s K := by
  unfold exReg at h
  split at h
  · simp at h; subst h; exact hK _ (List.mem_singleton_self _)
  · rename_i o r
    split at h
    · rename_i x hop hg
      split at h
      · rename_i q hq
        simp only [wopsC, stepC, hg, bodyC, hop]
        refine ⟨rfl, rfl, nextL_sound hq fun p hp => ?_⟩
        obtain ⟨a, k1, k2⟩ := bindA_spec h p hp
        split at k1
        · rename_i s' hs
          simp at k1
          subst k1
          exact exOps_sound h1 h2 _ _ _ hs (hK _ (k2 _ (List.mem_singleton_self _)))
        · simp at k1
      · simp at h
    · split at h
      · rename_i s' hs
        simp at h
        subst h
        exact exOps_sound h1 h2 _ _ _ hs (hK _ (List.mem_singleton_self _))
      · simp at h
theorem exN_sound (h1 : HookOk P hk) (h2 : CallOk P cf) (h3 : RowOk P b2) {L : Nat} : ∀ (c : Code) (s : St) (l : List (Ex × St)) (Q : Ex → St → Prop), exN P hk b2 cf m c s = some l → (∀ p ∈ l, Q p.1 p.2) → vc P L c s Q := by
  intro c
  induction c with
  | skip => intro s l Q h hQ; simp [exN] at h; subst h; exact hQ _ (List.mem_singleton_self _)
  | region id ops d =>
    intro s l Q h hQ
    simp only [exN, Option.map_eq_some_iff] at h
    obtain ⟨q, hq, rfl⟩ := h
    exact exReg_sound h1 h2 hq fun s' hs => hQ (.normal, s') (List.mem_map.2 ⟨s', hs, rfl⟩)
  | seq a b iha ihb =>
    intro s l Q h hQ
    simp only [exN] at h
    split at h
    · rename_i q hq
      refine iha _ _ _ hq fun p hp => ?_
      obtain ⟨e, s'⟩ := p
      obtain ⟨r, k1, k2⟩ := bindA_spec h _ hp
      cases e with
      | normal => exact ihb _ _ _ k1 fun p hp => hQ p (k2 p hp)
      | exit j => simp at k1; subst k1; exact hQ _ (k2 _ (List.mem_singleton_self _))
      | ret => simp at k1; subst k1; exact hQ _ (k2 _ (List.mem_singleton_self _))
    · simp at h
  | cond c a b iha ihb =>
    intro s l Q h hQ
    simp only [exN] at h
    simp only [vc]
    split at h
    · rename_i t ht
      simp only [ht]
      split at h
      · rename_i htt; rw [if_pos htt]; exact iha _ _ _ h hQ
      · rename_i htt; rw [if_neg htt]; exact ihb _ _ _ h hQ
    · simp at h
  | block id c ih =>
    intro s l Q h hQ
    simp only [exN, Option.map_eq_some_iff] at h
    obtain ⟨q, hq, rfl⟩ := h
    refine ih _ _ _ hq fun p hp => ?_
    obtain ⟨e, s'⟩ := p
    have := hQ _ (List.mem_map.2 ⟨_, hp, rfl⟩)
    cases e with
    | normal => exact this
    | ret => exact this
    | exit j =>
      simp only at this ⊢
      split at this
      · rename_i hj; rw [if_pos hj]; exact this
      · rename_i hj; rw [if_neg hj]; exact this
  | loop c ih =>
    intro s l Q h hQ
    simp only [exN] at h
    refine ⟨fun n s1 => ∃ q, iterN (exN P hk b2 cf m c) n s1 = some q ∧ ∀ p ∈ q, Q p.1 p.2, ⟨m, s, Weak.refl _, l, h, hQ⟩, fun n s1 ⟨q, hI, hq⟩ => ?_⟩
    cases n with
    | zero => simp [iterN] at hI
    | succ n =>
      simp only [iterN] at hI
      split at hI
      · rename_i r hr
        refine ih _ _ _ hr fun p hp => ?_
        obtain ⟨e, s'⟩ := p
        obtain ⟨a, k1, k2⟩ := bindA_spec hI _ hp
        cases e with
        | normal => exact ⟨n, by omega, s', Weak.refl _, a, k1, fun p hp => hq p (k2 p hp)⟩
        | exit j => simp at k1; subst k1; exact hq _ (k2 _ (List.mem_singleton_self _))
        | ret => simp at k1; subst k1; exact hq _ (k2 _ (List.mem_singleton_self _))
      · simp at hI
  | exit id => intro s l Q h hQ; simp [exN] at h; subst h; exact hQ _ (List.mem_singleton_self _)
  | ret => intro s l Q h hQ; simp [exN] at h; subst h; exact hQ _ (List.mem_singleton_self _)
  | scope c ih =>
    intro s l Q h hQ
    cases c with
    | region id ops d =>
      simp only [exN] at h
      split at h
      · rename_i s1 hs
        simp at h
        subst h
        exact exOps2_sound h1 h2 h3 _ _ _ _ hs (hQ _ (List.mem_singleton_self _))
      · simp at h
    | seq x y =>
      cases x with
      | region id1 pre d1 =>
        cases y with
        | region id2 lst d2 =>
          simp only [exN] at h
          split at h
          · rename_i s1 hs1
            split at h
            · rename_i s2 hs2
              simp at h
              subst h
              exact exOps_sound h1 h2 _ _ _ hs1 (exOps_sound h1 h2 _ _ _ hs2 (hQ _ (List.mem_singleton_self _)))
            · simp at h
          · simp at h
        | _ => simp [exN] at h
      | _ => simp [exN] at h
    | _ => simp [exN] at h
  | _ => intro s l Q h hQ; simp [exN] at h
/-- Do all outcomes read as this? -/
def allR (P : Program) (fn : Func) (r : AV) : List (Ex × St) → Prop
  | [] => True
  | (e, s) :: l => (match e with | .exit _ => False | _ => ((resA P fn s).bind fun x => reify s.H 8 x) = some r) ∧ allR P fn r l
theorem allR_spec {fn : Func} {r : AV} : ∀ {l : List (Ex × St)}, allR P fn r l → ∀ p ∈ l, endQ P fn r p.1 p.2 := by
  intro l
  induction l with
  | nil => intro _ p hp; simp at hp
  | cons q l ih =>
    intro h p hp
    obtain ⟨e, s⟩ := q
    rcases List.mem_cons.1 hp with rfl | hp
    · have h := h.1
      cases e with
      | exit j => exact h.elim
      | normal =>
        obtain ⟨x, k1, k2⟩ := Option.bind_eq_some_iff.1 h
        simp only [endQ, k1]; exact k2
      | ret =>
        obtain ⟨x, k1, k2⟩ := Option.bind_eq_some_iff.1 h
        simp only [endQ, k1]; exact k2
    · exact ih h.2 p hp
/-- The outcomes, each as it reads. -/
def outsR (P : Program) (fn : Func) : List (Ex × St) → Option (List AV)
  | [] => some []
  | (e, s) :: l => match e with | .exit _ => none | _ => match ((resA P fn s).bind fun x => reify s.H 8 x), outsR P fn l with | some r, some q => some (r :: q) | _, _ => none
theorem outsR_spec {fn : Func} {r : AV} : ∀ {l : List (Ex × St)} {n : Nat}, outsR P fn l = some (List.replicate n r) → ∀ p ∈ l, endQ P fn r p.1 p.2 := by
  intro l
  induction l with
  | nil => intro n _ p hp; simp at hp
  | cons q l ih =>
    intro n h p hp
    obtain ⟨e, s⟩ := q
    have key : ∀ x, ((resA P fn s).bind fun x => reify s.H 8 x) = some x → ∀ q, outsR P fn l = some q → x :: q = List.replicate n r → (∀ e', (∀ j, e' ≠ .exit j) → endQ P fn r e' s) ∧ ∀ p ∈ l, endQ P fn r p.1 p.2 := by
      intro x hx q hq hxq
      cases n with
      | zero => simp at hxq
      | succ n =>
        simp only [List.replicate_succ, List.cons.injEq] at hxq
        obtain ⟨rfl, rfl⟩ := hxq
        obtain ⟨z, k1, k2⟩ := Option.bind_eq_some_iff.1 hx
        refine ⟨fun e' he => ?_, ih hq⟩
        cases e' with
        | exit j => exact absurd rfl (he j)
        | normal => simp only [endQ, k1]; exact k2
        | ret => simp only [endQ, k1]; exact k2
    simp only [outsR] at h
    split at h
    · simp at h
    · rename_i he
      split at h
      · rename_i x q hx hq
        simp at h
        obtain ⟨k1, k2⟩ := key x hx q hq h
        rcases List.mem_cons.1 hp with rfl | hp
        · exact k1 e fun j hj => he j hj
        · exact k2 p hp
      · simp at h
theorem exN_pure (hm : P.follows .mixedOrders = true) (h1 : HookOk P hk) (h2 : CallOk P cf) (h3 : RowOk P b2) {f : FuncId} {fn : Func} {c : Code} {args : List AV} {r : AV} {n : Nat} (hf : P.funcs[f]? = some fn) (hb : fn.body = some c)
    (he : (entersB P f && decide (args.length ≤ fn.ntmps) && (okM fn.ntmps (mark c) && noScope [] c)) = true)
    (h : ((exN P hk b2 cf m (mark c) ⟨argT 0 args, []⟩).bind fun l => outsR P fn l) = some (List.replicate n r)) : Pure P f args r := by
  rw [Bool.and_eq_true, Bool.and_eq_true, decide_eq_true_eq] at he
  obtain ⟨l, k1, k2⟩ := Option.bind_eq_some_iff.1 h
  exact callG_pure (inl_K hm hf hb he.1.1 he.1.2 he.2 (exN_sound h1 h2 h3 _ _ _ _ k1 fun p hp => endQ_G (outsR_spec k2 p hp)))
end
end Go.Proofs.YthiclaihlpkinaaGreat
namespace Go.Proofs.YthiclaihlpkinaaGreat
open Go.RowKit
variable [Glob]
mutual
/-- The blocks that a value points to. -/
def idsA : AV → List Nat
  | .op id _ | .ep id _ _ _ | .os id _ | .ow id _ _ _ | .mp id | .ent id _ | .it id => [id]
  | .agg l => idsL l
  | .tup l => idsL l
  | .fn _ l => idsL l
  | _ => []
def idsL : List AV → List Nat
  | [] => []
  | x :: r => idsA x ++ idsL r
end
def idsR : List (List AV) → List Nat
  | [] => []
  | x :: r => idsL x ++ idsR r
def idsB : Blk → Option (List Nat)
  | .box _ cs => some (idsL cs)
  | .row _ _ rows => some (idsR rows)
  | .gone => some []
  | _ => none
def invN (l : List Nat) (id : Nat) : Nat := l.findIdx (· == id)
theorem inv_rn {l : List Nat} {N id : Nat} (h : id ∈ l) : rn l N (invN l id) = id := by
  have h1 : invN l id < l.length := List.findIdx_lt_length_of_exists ⟨id, h, by simp⟩
  unfold rn
  rw [List.getElem?_eq_getElem h1]
  have : (l[invN l id] == id) = true := List.findIdx_getElem (p := (· == id)) (w := h1)
  simp only [beq_iff_eq] at this
  simpa using this
mutual
theorem mA_back {l : List Nat} {N : Nat} : (x : AV) → (∀ id ∈ idsA x, id ∈ l) → mA (rn l N) (mA (invN l) x) = x
  | .any, _ | .und, _ | .int .., _ | .bool _, _ | .str _, _ | .nilp, _ | .nils, _ | .nilf, _ | .nilm, _ | .yl _, _ | .nilc, _ | .rp _, _ | .rs _, _ | .fb .., _ | .nec, _ => rfl
  | .op id o, h => by simp only [mA]; rw [inv_rn (h id (by simp [idsA]))]
  | .ep id _ _ _, h => by simp only [mA]; rw [inv_rn (h id (by simp [idsA]))]
  | .os id _, h => by simp only [mA]; rw [inv_rn (h id (by simp [idsA]))]
  | .ow id _ _ _, h => by simp only [mA]; rw [inv_rn (h id (by simp [idsA]))]
  | .mp id, h => by simp only [mA]; rw [inv_rn (h id (by simp [idsA]))]
  | .ent id _, h => by simp only [mA]; rw [inv_rn (h id (by simp [idsA]))]
  | .it id, h => by simp only [mA]; rw [inv_rn (h id (by simp [idsA]))]
  | .agg cs, h => by simp only [mA]; rw [mL_back cs (by simpa [idsA] using h)]
  | .tup cs, h => by simp only [mA]; rw [mL_back cs (by simpa [idsA] using h)]
  | .fn f cs, h => by simp only [mA]; rw [mL_back cs (by simpa [idsA] using h)]
theorem mL_back {l : List Nat} {N : Nat} : (x : List AV) → (∀ id ∈ idsL x, id ∈ l) → mL (rn l N) (mL (invN l) x) = x
  | [], _ => rfl
  | x :: r, h => by
    simp only [mL]
    rw [mA_back x fun id hi => h id (by simp [idsL, hi]), mL_back r fun id hi => h id (by simp [idsL, hi])]
end
theorem mR_back {l : List Nat} {N : Nat} : (x : List (List AV)) → (∀ id ∈ idsR x, id ∈ l) → (x.map (mL (invN l))).map (mL (rn l N)) = x
  | [], _ => rfl
  | x :: r, h => by
    simp only [List.map_cons]
    rw [mL_back x fun id hi => h id (by simp [idsR, hi]), mR_back r fun id hi => h id (by simp [idsR, hi])]
theorem mB_back {l : List Nat} {N : Nat} {b : Blk} {q : List Nat} (hq : idsB b = some q) (h : ∀ id ∈ q, id ∈ l) : mB (rn l N) (mB (invN l) b) = b := by
  cases b <;> simp [idsB] at hq
  · subst hq; simp only [mB]; rw [mL_back _ h]
  · subst hq; simp only [mB]; rw [mR_back _ h]
  · rfl
noncomputable section
/-- The blocks that are reached, in the order in which they are met. -/
def reachN (H : List Blk) : Nat → List Nat → List Nat → Option (List Nat)
  | 0, todo, acc => if todo.all (fun i => acc.contains i) = true then some acc else none
  | n + 1, todo, acc => match todo with
    | [] => some acc
    | i :: r => if acc.contains i = true then reachN H n r acc else match H[i]? with
      | some b => match idsB b with
        | some q => reachN H n (r ++ q) (acc ++ [i])
        | none => none
      | none => none
def pickB (H : List Blk) (l : List Nat) : List Nat → Option (List Blk)
  | [] => some []
  | i :: r => match H[i]?, pickB H l r with
    | some b, some bs => (match idsB b with | some q => if q.all (fun j => l.contains j) = true then some (mB (invN l) b :: bs) else none | none => none)
    | _, _ => none
def nodupB : List Nat → Bool
  | [] => true
  | i :: r => !r.contains i && nodupB r
def canon (x : AV) (H : List Blk) : Option (AV × List Blk) :=
  match reachN H 64 (idsA x) [] with
  | some l => if nodupB l = true ∧ (idsA x).all (fun j => l.contains j) = true then (match pickB H l l with | some bs => some (mA (invN l) x, bs) | none => none) else none
  | none => none
end
theorem nodupB_spec : ∀ {l : List Nat}, nodupB l = true → l.Nodup := by
  intro l
  induction l with
  | nil => intro _; simp
  | cons i r ih =>
    intro h
    simp only [nodupB, Bool.and_eq_true, Bool.not_eq_true'] at h
    exact List.nodup_cons.2 ⟨by simpa using h.1, ih h.2⟩
theorem pickB_spec {H : List Blk} {l : List Nat} : ∀ {r : List Nat} {bs : List Blk}, pickB H l r = some bs → bs.length = r.length ∧ ∀ (i j : Nat) b, r[i]? = some j → bs[i]? = some b → ∃ b0 q, H[j]? = some b0 ∧ idsB b0 = some q ∧ (∀ id ∈ q, id ∈ l) ∧ b = mB (invN l) b0 := by
  intro r
  induction r with
  | nil => intro bs h; simp [pickB] at h; subst h; exact ⟨rfl, by simp⟩
  | cons k r ih =>
    intro bs h
    simp only [pickB] at h
    split at h
    · rename_i b0 bs0 hb hbs
      split at h
      · rename_i q hq
        split at h
        · rename_i hall
          simp at h
          subst h
          obtain ⟨h1, h2⟩ := ih hbs
          refine ⟨by simp [h1], fun i j b hi hj => ?_⟩
          cases i with
          | zero =>
            simp at hi hj
            subst hi; subst hj
            exact ⟨b0, q, hb, hq, fun id hid => by rw [List.all_eq_true] at hall; simpa using hall id hid, rfl⟩
          | succ i => exact h2 i j b (by simpa using hi) (by simpa using hj)
        · simp at h
      · simp at h
    · simp at h
section
variable {P : Program}
theorem canon_weak {L : Nat} (hL : L = 0) {x x' : AV} {H H' : List Blk} (h : canon x H = some (x', H')) : Weak P L ⟨[(0, x)], H⟩ ⟨[(0, x')], H'⟩ := by
  subst hL
  unfold canon at h
  split at h
  · rename_i l hl
    split at h
    · rename_i hc
      split at h
      · rename_i bs hbs
        simp at h
        obtain ⟨rfl, rfl⟩ := h
        obtain ⟨k1, k2⟩ := pickB_spec hbs
        refine weak_ren l (by simpa using k1.symm) (nodupB_spec hc.1) (fun i hi => ?_) (fun i hi => absurd hi (Nat.not_lt_zero i)) (fun i j b hi hb => ?_) (fun k => ?_)
        · obtain ⟨m, hm, rfl⟩ := List.getElem_of_mem hi
          obtain ⟨b0, q, q1, _⟩ := k2 m l[m] bs[m] (by simp [hm]) (List.getElem?_eq_getElem (by omega))
          exact (List.getElem?_eq_some_iff.1 q1).1
        · obtain ⟨b0, q, q1, q2, q3, rfl⟩ := k2 i j b hi hb
          simp only
          rw [q1, mB_back q2 q3]
        · cases k with
          | zero =>
            right
            simp only [tget, if_true]
            refine (mA_back x fun id hid => ?_).symm
            have := hc.2
            rw [List.all_eq_true] at this
            simpa using this id hid
          | succ k => left; simp [tget]
      · simp at h
    · simp at h
  · simp at h
variable {hk : Hook} {b2 : RowF} {cf : CallF} {m : Nat}
/-- The outcomes, each in its form. -/
noncomputable def outsC (P : Program) (fn : Func) : List (Ex × St) → Option (List (AV × List Blk))
  | [] => some []
  | (e, s) :: l => match e with | .exit _ => none | _ => match ((resA P fn s).bind fun x => canon x s.H), outsC P fn l with | some r, some q => some (r :: q) | _, _ => none
theorem outsC_spec {fn : Func} {r : AV} {H1 : List Blk} : ∀ {l : List (Ex × St)} {n : Nat}, outsC P fn l = some (List.replicate n (r, H1)) → ∀ p ∈ l, endG P 0 fn (fun x H' => x = r ∧ H' = H1) p.1 p.2 := by
  intro l
  induction l with
  | nil => intro n _ p hp; simp at hp
  | cons q l ih =>
    intro n h p hp
    obtain ⟨e, s⟩ := q
    have key : ∀ x, ((resA P fn s).bind fun x => canon x s.H) = some x → ∀ q, outsC P fn l = some q → x :: q = List.replicate n (r, H1) → (∀ e', (∀ j, e' ≠ .exit j) → endG P 0 fn (fun x H' => x = r ∧ H' = H1) e' s) ∧ ∀ p ∈ l, endG P 0 fn (fun x H' => x = r ∧ H' = H1) p.1 p.2 := by
      intro x hx q hq hxq
      cases n with
      | zero => simp at hxq
      | succ n =>
        simp only [List.replicate_succ, List.cons.injEq] at hxq
        obtain ⟨rfl, rfl⟩ := hxq
        obtain ⟨z, k1, k2⟩ := Option.bind_eq_some_iff.1 hx
        refine ⟨fun e' he => ?_, ih hq⟩
        cases e' with
        | exit j => exact absurd rfl (he j)
        | normal => exact ⟨z, r, H1, k1, canon_weak rfl k2, rfl, rfl⟩
        | ret => exact ⟨z, r, H1, k1, canon_weak rfl k2, rfl, rfl⟩
    simp only [outsC] at h
    split at h
    · simp at h
    · rename_i he
      split at h
      · rename_i x q hx hq
        simp at h
        obtain ⟨k1, k2⟩ := key x hx q hq h
        rcases List.mem_cons.1 hp with rfl | hp
        · exact k1 e fun j hj => he j hj
        · exact k2 p hp
      · simp at h
theorem exN_new (hm : P.follows .mixedOrders = true) (h1 : HookOk P hk) (h2 : CallOk P cf) (h3 : RowOk P b2) {f : FuncId} {fn : Func} {c : Code} {args : List AV} {r : AV} {H1 : List Blk} {n : Nat} (hf : P.funcs[f]? = some fn) (hb : fn.body = some c)
    (he : (entersB P f && decide (args.length ≤ fn.ntmps) && (okM fn.ntmps (mark c) && noScope [] c)) = true)
    (h : ((exN P hk b2 cf m (mark c) ⟨argT 0 args, []⟩).bind fun l => outsC P fn l) = some (List.replicate n (r, H1))) : New P f args r H1 := by
  rw [Bool.and_eq_true, Bool.and_eq_true, decide_eq_true_eq] at he
  obtain ⟨l, k1, k2⟩ := Option.bind_eq_some_iff.1 h
  exact callG_new (inl_K hm hf hb he.1.1 he.1.2 he.2 (exN_sound h1 h2 h3 _ _ _ _ k1 fun p hp => outsC_spec k2 p hp))
end
end Go.Proofs.YthiclaihlpkinaaGreat
namespace Go.Proofs.YthiclaihlpkinaaGreat
open Go.RowKit
variable [Glob]
section
variable {P : Program}
/-- Of what a call leaves less may be said. -/
theorem CallG.weak {g : FuncId} {args : List AV} {H H' H2 : List Blk} {r r2 : AV} (h : CallG P g args H fun x G => x = r ∧ G = H') (hw : Weak P H.length ⟨[(0, r)], H'⟩ ⟨[(0, r2)], H2⟩) : CallG P g args H fun x G => x = r2 ∧ G = H2 := by
  refine ⟨h.1, fun w0 w X φ vs hr hl hv => (h.2 w0 w X φ vs hr hl hv).mono ?_⟩
  rintro e w' ⟨v, x, φ', G, h1, h2, h3, h4, rfl, rfl⟩
  have ht : ∀ k, RV P w' X φ' G (tget [(0, x)] k) ((#[v] : Array Value).getD k undef) := fun k => by
    cases k with
    | zero => simpa [tget] using h4
    | succ k => simp only [tget]; exact .ro .any
  obtain ⟨φ2, k⟩ := hw ⟨w, φ, H, w.heap.size, Nat.le_refl _, false⟩ w0 X 1 φ' ⟨#[v], []⟩ w' (Nat.le_refl _) ⟨h2, h3, ht, rfl, ⟨[], rfl, by simp, by simp⟩⟩
  exact ⟨v, r2, φ2, H2, h1, k.hr, k.tn, by simpa [tget] using k.t 0, rfl, rfl⟩
end
noncomputable section
def idsBs : List Blk → Option (List Nat)
  | [] => some []
  | b :: r => match idsB b, idsBs r with | some q, some q' => some (q ++ q') | _, _ => none
/-- Is it i, i + 1, ..? -/
def rng : Nat → Nat → List Nat → Bool
  | 0, _, _ => true
  | n + 1, i, j :: l => decide (j = i) && rng n (i + 1) l
  | _, _, _ => false
/-- What is reached, the first L blocks ahead of the rest. -/
def canonL (L : Nat) (x : AV) (H : List Blk) : Option (AV × List Blk) :=
  match idsBs (H.take L) with
  | some q0 => match reachN H 400 (q0 ++ idsA x) (List.range L) with
    | some l => if nodupB l = true ∧ (idsA x).all (fun j => l.contains j) = true ∧ rng L 0 l = true then (match pickB H l l with | some bs => some (mA (invN l) x, bs) | none => none) else none
    | none => none
  | none => none
theorem rng_spec : ∀ (n i : Nat) (l : List Nat), rng n i l = true → ∀ j, j < n → l[j]? = some (i + j) := by
  intro n
  induction n with
  | zero => intro i l _ j hj; omega
  | succ n ih =>
    intro i l h j hj
    cases l with
    | nil => simp [rng] at h
    | cons k l =>
      simp only [rng, Bool.and_eq_true, decide_eq_true_eq] at h
      cases j with
      | zero => simp [h.1]
      | succ j =>
        have := ih (i + 1) l h.2 j (by omega)
        simp only [List.getElem?_cons_succ, this]
        congr 1
        omega
/-- A call that is known. -/
structure Kn where
  g : Nat
  as : List AV
  H : List Blk
  r : AV
  H' : List Blk
def tabF : List Kn → CallF
  | [], _, _, _ => none
  | k :: l, g, as, H => if k.g = g then (if (eqL k.as as && eqH k.H H) = true then some (k.r, k.H') else tabF l g as H) else tabF l g as H
/-- A call that makes what it hands back, wherever it stands. -/
def newF : List Kn → CallF
  | [], _, _, _ => none
  | k :: l, g, as, H => if k.g = g then (match as.mapM (reify H 8) with
    | some ys => if (eqL k.as ys && (eqH k.H [] && (flatO k.r && k.H'.all flatB))) = true then some (shA H.length k.r, H ++ k.H'.map (shB H.length)) else newF l g as H
    | none => newF l g as H) else newF l g as H
/-- Functions that are run on what their arguments read as. -/
def calmF (S : List Nat) (cf : CallF) : CallF := fun g as H => if S.contains g = true then (match as.mapM (reify H 8) with
    | some ys => match cf g ys [] with
      | some (r, H1) => match canonL 0 r H1 with
        | some (r, H1) => if (flatO r && H1.all flatB) = true then some (shA H.length r, H ++ H1.map (shB H.length)) else none
        | none => none
      | none => none
    | none => none) else none
/-- Functions that are run on the memory that their arguments reach. -/
def footF (S : List Nat) (cf : CallF) : CallF := fun g as H => if S.contains g = true then (match reachN H 400 (idsL as) [] with
    | some l => if nodupB l = true ∧ (idsL as).all (fun j => l.contains j) = true then (match pickB H l l with
      | some H0 => match cf g (mL (invN l) as) H0 with
        | some (r, H1) => if H0.length ≤ H1.length then some (mA (rn l H.length) r, putB H l (H1.map (mB (rn l H.length)))) else none
        | none => none
      | none => none) else none
    | none => none) else none
def orF (a b : CallF) : CallF := fun g as H => match a g as H with | some r => some r | none => b g as H
def gcF (cf : CallF) : CallF := fun g as H => match cf g as H with | some (r, H') => canonL H.length r H' | none => none
end
section
variable {P : Program}
theorem canonL_weak {L : Nat} {x x' : AV} {H H' : List Blk} (h : canonL L x H = some (x', H')) : Weak P L ⟨[(0, x)], H⟩ ⟨[(0, x')], H'⟩ := by
  unfold canonL at h
  split at h
  · split at h
    · rename_i l hl
      split at h
      · rename_i hc
        split at h
        · rename_i bs hbs
          simp at h
          obtain ⟨rfl, rfl⟩ := h
          obtain ⟨k1, k2⟩ := pickB_spec hbs
          refine weak_ren l (by simpa using k1.symm) (nodupB_spec hc.1) (fun i hi => ?_) (fun i hi _ => by simpa using rng_spec L 0 l hc.2.2 i hi) (fun i j b hi hb => ?_) (fun k => ?_)
          · obtain ⟨m, hm, rfl⟩ := List.getElem_of_mem hi
            obtain ⟨b0, q, q1, _⟩ := k2 m l[m] bs[m] (by simp [hm]) (List.getElem?_eq_getElem (by omega))
            exact (List.getElem?_eq_some_iff.1 q1).1
          · obtain ⟨b0, q, q1, q2, q3, rfl⟩ := k2 i j b hi hb
            simp only
            rw [q1, mB_back q2 q3]
          · cases k with
            | zero =>
              right
              simp only [tget, if_true]
              refine (mA_back x fun id hid => ?_).symm
              have := hc.2.1
              rw [List.all_eq_true] at this
              simpa using this id hid
            | succ k => left; simp [tget]
        · simp at h
      · simp at h
    · simp at h
  · simp at h
def KnOk (P : Program) (k : Kn) : Prop := CallG P k.g k.as k.H fun x G => x = k.r ∧ G = k.H'
theorem gcF_ok {cf : CallF} (h : CallOk P cf) : CallOk P (gcF cf) := by
  intro g as H r H' hc
  unfold gcF at hc
  split at hc
  · rename_i r1 H1 h1
    exact (h _ _ _ _ _ h1).weak (canonL_weak hc)
  · cases hc
theorem orF_ok {a b : CallF} (ha : CallOk P a) (hb : CallOk P b) : CallOk P (orF a b) := by
  intro g as H r H' h
  unfold orF at h
  split at h
  · rename_i q hq
    simp only [Option.some.injEq] at h
    subst h
    exact ha _ _ _ _ _ hq
  · exact hb _ _ _ _ _ h
theorem tabF_ok : ∀ {l : List Kn}, (∀ k ∈ l, KnOk P k) → CallOk P (tabF l) := by
  intro l
  induction l with
  | nil => intro _ g as H r H' h; simp [tabF] at h
  | cons k l ih =>
    intro hk g as H r H' h
    simp only [tabF] at h
    split at h
    · rename_i hg
      split at h
      · rename_i he
        simp only [Bool.and_eq_true] at he
        simp only [Option.some.injEq, Prod.mk.injEq] at h
        obtain ⟨rfl, rfl⟩ := h
        have := hk k (by simp)
        unfold KnOk at this
        rw [← hg, ← eq_sound.2.2 _ _ he.1, ← eqH_sound he.2]
        exact this
      · exact ih (fun k hk' => hk k (by simp [hk'])) _ _ _ _ _ h
    · exact ih (fun k hk' => hk k (by simp [hk'])) _ _ _ _ _ h
theorem newF_ok : ∀ {l : List Kn}, (∀ k ∈ l, KnOk P k) → CallOk P (newF l) := by
  intro l
  induction l with
  | nil => intro _ g as H r H' h; simp [newF] at h
  | cons k l ih =>
    intro hk g as H r H' h
    have ih' := ih (fun k hk' => hk k (by simp [hk']))
    simp only [newF] at h
    split at h
    · rename_i hg
      split at h
      · rename_i ys hys
        split at h
        · rename_i he
          simp only [Bool.and_eq_true] at he
          simp only [Option.some.injEq, Prod.mk.injEq] at h
          obtain ⟨rfl, rfl⟩ := h
          have := hk k (by simp)
          unfold KnOk at this
          rw [hg, eq_sound.2.2 _ _ he.1, eqH_sound he.2.1] at this
          exact new_G (callG_new this) hys (.inl he.2.2) ⟨rfl, rfl⟩
        · exact ih' _ _ _ _ _ h
      · exact ih' _ _ _ _ _ h
    · exact ih' _ _ _ _ _ h
theorem calmF_ok {S : List Nat} {cf : CallF} (hc : CallOk P cf) : CallOk P (calmF S cf) := by
  intro g as H r H' h
  unfold calmF at h
  split at h
  · split at h
    · rename_i ys hys
      split at h
      · rename_i r1 H1 h1
        split at h
        · rename_i r2 H2 h2
          split at h
          · rename_i hf
            simp only [Bool.and_eq_true] at hf
            simp only [Option.some.injEq, Prod.mk.injEq] at h
            obtain ⟨rfl, rfl⟩ := h
            exact new_G (callG_new ((hc _ _ _ _ _ h1).weak (canonL_weak h2))) hys (.inl hf) ⟨rfl, rfl⟩
          · cases h
        · cases h
      · cases h
    · cases h
  · cases h
theorem footF_ok {S : List Nat} {cf : CallF} (hc : CallOk P cf) : CallOk P (footF S cf) := by
  intro g as H r H' h
  unfold footF at h
  split at h
  · split at h
    · rename_i l hl
      split at h
      · rename_i hcd
        split at h
        · rename_i H0 hp
          split at h
          · rename_i r1 H1 h1
            split at h
            · simp only [Option.some.injEq, Prod.mk.injEq] at h
              obtain ⟨rfl, rfl⟩ := h
              obtain ⟨k1, k2⟩ := pickB_spec hp
              refine foot_G (hc _ _ _ _ _ h1) l (by simpa using k1.symm) (nodupB_spec hcd.1) (fun i hi => ?_) (fun j i b hj hb => ?_) ?_ fun r' H' _ ⟨e1, e2⟩ => ?_
              · obtain ⟨m, hm, rfl⟩ := List.getElem_of_mem hi
                obtain ⟨b0, q, q1, _⟩ := k2 m l[m] H0[m] (by simp [hm]) (List.getElem?_eq_getElem (by omega))
                exact (List.getElem?_eq_some_iff.1 q1).1
              · obtain ⟨b0, q, q1, q2, q3, rfl⟩ := k2 j i b hj hb
                rw [q1, mB_back q2 q3]
              · refine (mL_back as fun id hid => ?_).symm
                have := hcd.2
                rw [List.all_eq_true] at this
                simpa using this id hid
              · subst e1; subst e2; exact ⟨rfl, rfl⟩
            · cases h
          · cases h
        · cases h
      · cases h
    · cases h
  · cases h
theorem kn_of {cf : CallF} (hc : CallOk P cf) {g : Nat} {as : List AV} {H H' : List Blk} {r : AV} (h : gcF cf g as H = some (r, H')) : KnOk P ⟨g, as, H, r, H'⟩ := gcF_ok hc _ _ _ _ _ h
theorem kn_pure {g : Nat} {as : List AV} {r : AV} {H' : List Blk} (h : KnOk P ⟨g, as, [], r, H'⟩) {r' : AV} (hr : reify H' 8 r = some r') : Pure P g as r' := new_pure (callG_new h) hr
end
end Go.Proofs.YthiclaihlpkinaaGreat
