/- A window from an own slice's beginning becomes a slice of its own; own slices become memory that nobody writes. -/
import Derived.Test.YtdkcmfafganhhaaDoorM3
import Derived.Test.YtdkcmfafganhhaaDoorAbFrz
namespace Go.Proofs.YtdkcmfafganhhaaDoor
set_option linter.unusedSimpArgs false
set_option linter.unusedVariables false
set_option linter.unnecessarySimpa false
set_option linter.unusedSectionVars false
open Go.RowKit
variable [Glob]
mutual
def mvA (id n m N : Nat) : AV → AV
  | .ow i k lo hi => if i = id ∧ k = n ∧ lo = 0 ∧ hi = m then .os N m else .ow i k lo hi
  | .agg l => .agg (mvL id n m N l)
  | .tup l => .tup (mvL id n m N l)
  | .fn f l => .fn f (mvL id n m N l)
  | v => v
def mvL (id n m N : Nat) : List AV → List AV
  | [] => []
  | x :: r => mvA id n m N x :: mvL id n m N r
end
def mvB (id n m N : Nat) : Blk → Blk
  | .box t cs => .box t (mvL id n m N cs)
  | .row e nb rs => .row e nb (rs.map (mvL id n m N))
  | .map es => .map (es.map fun e => (mvA id n m N e.1, mvA id n m N e.2))
  | .gone => .gone
  | .iter d k s => .iter d k s
def mvT (id n m N : Nat) (T : List (Nat × AV)) : List (Nat × AV) := T.map fun p => (p.1, mvA id n m N p.2)
/-- The blocks from there on. -/
def mvH (id n m N : Nat) (b : Blk) (H : List Blk) : List Blk := (H.map (mvB id n m N)).set id .gone ++ [mvB id n m N b]
def mvφ (φ : Nat → Option Nat) (id N : Nat) : Nat → Option Nat := fun i => if i = id then none else if i = N then φ id else φ i
section
variable {id n m N : Nat}
theorem mvL_get : ∀ (l : List AV) (j : Nat), (mvL id n m N l)[j]? = (l[j]?).map (mvA id n m N) := by
  intro l
  induction l with
  | nil => intro j; simp [mvL]
  | cons x l ih =>
    intro j
    cases j with
    | zero => simp [mvL]
    | succ j => simp only [mvL, List.getElem?_cons_succ]; exact ih j
theorem mvL_len (l : List AV) : (mvL id n m N l).length = l.length := by
  induction l with
  | nil => rfl
  | cons x l ih => simp [mvL, ih]
theorem mvL_same : ∀ {l : List AV}, (∀ (j : Nat) x, l[j]? = some x → mvA id n m N x = x) → mvL id n m N l = l := by
  intro l
  induction l with
  | nil => intro _; rfl
  | cons x l ih =>
    intro h
    simp only [mvL]
    rw [h 0 x rfl, ih fun j y hj => h (j + 1) y (by simpa using hj)]
theorem tget_mvT {T : List (Nat × AV)} {k : Nat} : tget (mvT id n m N T) k = mvA id n m N (tget T k) := by
  induction T with
  | nil => rfl
  | cons p T ih =>
    obtain ⟨j, v⟩ := p
    simp only [mvT, List.map_cons, tget]
    split
    · rfl
    · exact ih
theorem tget_frT {rows : List (List AV)} {T : List (Nat × AV)} {k : Nat} : tget (T.map fun p => (p.1, frA id rows p.2)) k = frA id rows (tget T k) := by
  induction T with
  | nil => rfl
  | cons p T ih =>
    obtain ⟨j, v⟩ := p
    simp only [List.map_cons, tget]
    split
    · rfl
    · exact ih
end
section
variable {P : Program} {w0 w : World} {X : Nat → Prop} {φ : Nat → Option Nat} {H : List Blk} {id n m : Nat} {rows : List (List AV)} {e : TypeId} {nb : Bool}
theorem ro_mv {N : Nat} {Y : Nat → Prop} {x : AV} {v : Value} (h : RO w Y x v) : mvA id n m N x = x := by
  have key : ∀ {cs : List AV} {vs : Array Value}, cs.length = vs.size → (∀ (j : Nat) x v, cs[j]? = some x → vs[j]? = some v → mvA id n m N x = x) → mvL id n m N cs = cs := fun hl ih =>
    mvL_same fun j x hj => by
      have hlt := (List.getElem?_eq_some_iff.1 hj).1
      exact ih j x _ hj (Array.getElem?_eq_getElem (by omega))
  induction h with
  | agg hl _ _ ih => simp only [mvA]; rw [key hl ih]
  | tup hl _ ih => simp only [mvA]; rw [key hl ih]
  | fn hl _ ih => simp only [mvA]; rw [key hl ih]
  | _ => rfl
theorem mvH_len {N : Nat} {b : Blk} : (mvH id n m N b H).length = H.length + 1 := by simp [mvH]
theorem mvH_old {b : Blk} {i : Nat} {b' : Blk} (hi : i < H.length) (h : (mvH id n m H.length b H)[i]? = some b') : (i = id ∧ b' = .gone) ∨ (i ≠ id ∧ ∃ b0, H[i]? = some b0 ∧ b' = mvB id n m H.length b0) := by
  unfold mvH at h
  rw [List.getElem?_append_left (by simpa using hi)] at h
  by_cases e : id = i
  · subst e
    rw [List.getElem?_set] at h
    simp at h
    exact .inl ⟨rfl, h.2.symm⟩
  · rw [List.getElem?_set_ne e, List.getElem?_map, Option.map_eq_some_iff] at h
    obtain ⟨b0, h1, h2⟩ := h
    exact .inr ⟨fun q => e q.symm, b0, h1, h2.symm⟩
theorem mvH_new {b : Blk} : (mvH id n m H.length b H)[H.length]? = some (mvB id n m H.length b) := by
  unfold mvH
  rw [List.getElem?_append_right (by simp)]
  simp
theorem mvφ_some {N i c : Nat} (h : mvφ φ id N i = some c) : i ≠ id ∧ ((i = N ∧ φ id = some c) ∨ (i ≠ N ∧ φ i = some c)) := by
  unfold mvφ at h
  split at h
  · simp at h
  · split at h
    · exact ⟨by assumption, .inl ⟨by assumption, h⟩⟩
    · exact ⟨by assumption, .inr ⟨by assumption, h⟩⟩
theorem mvφ_old {i : Nat} (h : i ≠ id) (hi : i < H.length) : mvφ φ id H.length i = φ i := by
  unfold mvφ
  rw [if_neg h, if_neg (by omega)]
theorem mv_own (hid : id < H.length) (hφ : ∀ i c, φ i = some c → i < H.length) {b : Nat} : (∃ i, mvφ φ id H.length i = some b) → ∃ i, φ i = some b := fun ⟨i, hi⟩ => by
  rcases (mvφ_some hi).2 with ⟨_, h⟩ | ⟨_, h⟩
  · exact ⟨_, h⟩
  · exact ⟨_, h⟩
theorem mv_rv (hr : HR P w0 X w φ H) (hb : H[id]? = some (.row e nb rows)) (hn : rows.length = n) (hm : m ≤ n) (h0 : 0 < n) {x : AV} {v : Value} (hv : RV P w X φ H x v) :
    RV P w X (mvφ φ id H.length) (mvH id n m H.length (.row e nb (rows.take m)) H) (mvA id n m H.length x) v := by
  have hidl : id < H.length := (List.getElem?_eq_some_iff.1 hb).1
  have hlen : ∀ i, i < H.length → i < (mvH id n m H.length (.row e nb (rows.take m)) H).length := fun i hi => by rw [mvH_len]; omega
  induction hv with
  | ro h =>
    rw [ro_mv h]
    exact .ro (h.weaken fun b hb => hb.elim .inl fun hb => .inr (mv_own hidl (fun i c hc => (hr.own i c hc).2.2) hb))
  | op h0 hid h =>
    refine .op h0 (hlen _ hid) fun t cs hq => ?_
    rcases mvH_old hid hq with ⟨_, q⟩ | ⟨hne, b0, q1, q2⟩
    · cases q
    · cases b0 <;> simp [mvB] at q2
      obtain ⟨rfl, rfl⟩ := q2
      obtain ⟨c, h1, h2⟩ := h _ _ q1
      exact ⟨c, by rw [mvφ_old hne hid]; exact h1, h2⟩
  | ep h0 hid h =>
    refine .ep h0 (hlen _ hid) fun e' nb' rs hq => ?_
    rcases mvH_old hid hq with ⟨_, q⟩ | ⟨hne, b0, q1, q2⟩
    · cases q
    · cases b0 <;> simp [mvB] at q2
      obtain ⟨rfl, rfl, rfl⟩ := q2
      obtain ⟨h1, h2⟩ := h _ _ _ q1
      refine ⟨by simpa using h1, fun q => ?_⟩
      obtain ⟨c, h3, h4⟩ := h2 (by simpa using q)
      exact ⟨c, by rw [mvφ_old hne hid]; exact h3, h4⟩
  | os h0 hid h =>
    refine .os h0 (hlen _ hid) fun e' nb' rs hq => ?_
    rcases mvH_old hid hq with ⟨_, q⟩ | ⟨hne, b0, q1, q2⟩
    · cases q
    · cases b0 <;> simp [mvB] at q2
      obtain ⟨rfl, rfl, rfl⟩ := q2
      obtain ⟨h1, h2⟩ := h _ _ _ q1
      refine ⟨by simpa using h1, fun q => ?_⟩
      rw [mvφ_old hne hid]
      exact h2 (by simpa using q)
  | @ow id0 k lo hi v h0' hid h =>
    simp only [mvA]
    split
    · rename_i hc
      obtain ⟨rfl, rfl, rfl, rfl⟩ := hc
      refine .os h0' (by rw [mvH_len]; omega) fun e' nb' rs hq => ?_
      rw [mvH_new] at hq
      simp only [mvB, Option.some.injEq, Blk.row.injEq] at hq
      obtain ⟨rfl, rfl, rfl⟩ := hq
      have hl : (List.map (mvL id0 k hi H.length) (rows.take hi)).length = hi := by simp; omega
      refine ⟨by omega, fun _ => .inr ?_⟩
      obtain ⟨A, c, cap, cur, g1, rfl, gA, g2, g3, g4, g5, g6, g7⟩ := (h _ _ _ hb).2 hn.symm
      rw [gA (by omega)]
      refine ⟨c, cap, cur, ?_, by simp, g2, g3, g4, by omega⟩
      unfold mvφ
      rw [if_neg (by omega), if_pos rfl]
      exact g1
    · refine .ow h0' (hlen _ hid) fun e' nb' rs hq => ?_
      rcases mvH_old hid hq with ⟨_, q⟩ | ⟨hne, b0, q1, q2⟩
      · cases q
      · cases b0 <;> simp [mvB] at q2
        obtain ⟨rfl, rfl, rfl⟩ := q2
        obtain ⟨h1, h2⟩ := h _ _ _ q1
        refine ⟨by simpa using h1, fun q => ?_⟩
        rw [mvφ_old hne hid]
        exact h2 (by simpa using q)
  | mp h0 hid h =>
    refine .mp h0 (hlen _ hid) fun es hq => ?_
    rcases mvH_old hid hq with ⟨_, q⟩ | ⟨hne, b0, q1, q2⟩
    · cases q
    · cases b0 <;> simp [mvB] at q2
      obtain ⟨c, h1, h2⟩ := h _ q1
      exact ⟨c, by rw [mvφ_old hne hid]; exact h1, h2⟩
  | ent h0 hid h =>
    refine .ent h0 (hlen _ hid) fun es hq => ?_
    rcases mvH_old hid hq with ⟨_, q⟩ | ⟨hne, b0, q1, q2⟩
    · cases q
    · cases b0 <;> simp [mvB] at q2
      obtain ⟨c, ents, clock, ent, h1, h2⟩ := h _ q1
      exact ⟨c, ents, clock, ent, by rw [mvφ_old hne hid]; exact h1, h2⟩
  | it h0 hid h =>
    refine .it h0 (hlen _ hid) fun d k s hq => ?_
    rcases mvH_old hid hq with ⟨_, q⟩ | ⟨hne, b0, q1, q2⟩
    · cases q
    · cases b0 <;> simp [mvB] at q2
      obtain ⟨c, h1, h2⟩ := h _ _ _ q1
      exact ⟨c, by rw [mvφ_old hne hid]; exact h1, h2⟩
  | agg hl h1 _ ih =>
    refine .agg (by rw [mvL_len]; exact hl) h1 fun j x v hj hu => ?_
    rw [mvL_get, Option.map_eq_some_iff] at hj
    obtain ⟨x0, hj, rfl⟩ := hj
    exact ih j x0 v hj hu
  | tup hl _ ih =>
    refine .tup (by rw [mvL_len]; exact hl) fun j x v hj hu => ?_
    rw [mvL_get, Option.map_eq_some_iff] at hj
    obtain ⟨x0, hj, rfl⟩ := hj
    exact ih j x0 v hj hu
  | fn hl _ ih =>
    refine .fn (by rw [mvL_len]; exact hl) fun j x v hj hu => ?_
    rw [mvL_get, Option.map_eq_some_iff] at hj
    obtain ⟨x0, hj, rfl⟩ := hj
    exact ih j x0 v hj hu
theorem BlkOk.mv (hr : HR P w0 X w φ H) (hb : H[id]? = some (.row e nb rows)) (hn : rows.length = n) (hm : m ≤ n) (h0 : 0 < n) {c : Nat} {b0 : Blk} (hbk : BlkOk P w X φ H c b0) :
    BlkOk P w X (mvφ φ id H.length) (mvH id n m H.length (.row e nb (rows.take m)) H) c (mvB id n m H.length b0) := by
  have hv := fun x v => mv_rv (x := x) (v := v) hr hb hn hm h0
  cases b0 with
  | box t cs =>
    obtain ⟨cur, h1, h2, h3⟩ := hbk
    refine ⟨cur, h1, by rw [mvL_len]; exact h2, fun j x v hj hu => ?_⟩
    rw [mvL_get, Option.map_eq_some_iff] at hj
    obtain ⟨x0, hj, rfl⟩ := hj
    exact ⟨hv _ _ (h3 j x0 v hj hu).1, (h3 j x0 v hj hu).2⟩
  | row e' nb' rs =>
    obtain ⟨cur, h1, h2, h3, h4⟩ := hbk
    refine ⟨cur, h1, fun row hrow => ?_, by simpa using h3, fun k j row x v hk hj hu => ?_⟩
    · obtain ⟨r0, hr0, rfl⟩ := List.mem_map.1 hrow
      rw [mvL_len]; exact h2 r0 hr0
    · rw [List.getElem?_map, Option.map_eq_some_iff] at hk
      obtain ⟨r0, hk, rfl⟩ := hk
      rw [mvL_get, Option.map_eq_some_iff] at hj
      obtain ⟨x0, hj, rfl⟩ := hj
      exact ⟨hv _ _ (h4 k j r0 x0 v hk hj hu).1, (h4 k j r0 x0 v hk hj hu).2⟩
  | map es =>
    obtain ⟨ents, clock, h1, h2, h3, h4, h5⟩ := hbk
    refine ⟨ents, clock, h1, by simpa using h2, h3, h4, fun k kk x ent hk hu => ?_⟩
    rw [List.getElem?_map, Option.map_eq_some_iff] at hk
    obtain ⟨⟨k0, x0⟩, hk, q⟩ := hk
    simp at q
    obtain ⟨rfl, rfl⟩ := q
    obtain ⟨h6, h7⟩ := h5 k k0 x0 ent hk hu
    exact ⟨hv _ _ h6, hv _ _ h7⟩
  | gone => trivial
  | iter d k s =>
    cases d with
    | none => exact hbk
    | some mid =>
      obtain ⟨d, since, seenA, stepped, B, k1, k2, k3, k4, k5, k6, k7, k8⟩ := hbk
      refine ⟨d, since, seenA, stepped, B, k1, k2, k3, k4, k5, k6, by rw [mvH_len]; omega, fun es hes => ?_⟩
      rcases mvH_old k7 hes with ⟨_, q⟩ | ⟨hne, b1, q1, q2⟩
      · cases q
      · cases b1 <;> simp [mvB] at q2
        obtain ⟨r1, r2⟩ := k8 _ q1
        exact ⟨by rw [mvφ_old hne k7]; exact r1, r2⟩
theorem mv_turn (hr : HR P w0 X w φ H) (hb : H[id]? = some (.row e nb rows)) {b : Blk} : Turn w φ H w (mvφ φ id H.length) (mvH id n m H.length b H) where
  size := Nat.le_refl _
  len := by rw [mvH_len]; omega
  old := fun b h _ => ⟨rfl, fun i q => by
    rcases (mvφ_some q).2 with ⟨_, q⟩ | ⟨_, q⟩
    · exact h _ q
    · exact h _ q⟩
  box := fun i t cs' hi h => by
    rcases mvH_old hi h with ⟨_, q⟩ | ⟨hne, b0, q1, q2⟩
    · cases q
    · cases b0 <;> simp [mvB] at q2
      obtain ⟨rfl, rfl⟩ := q2
      exact ⟨_, q1, fun c hc => by rw [mvφ_old hne hi]; exact hc⟩
  row := fun i e' nb' rows' hi h => by
    rcases mvH_old hi h with ⟨_, q⟩ | ⟨hne, b0, q1, q2⟩
    · cases q
    · cases b0 <;> simp [mvB] at q2
      obtain ⟨rfl, rfl, rfl⟩ := q2
      rw [mvφ_old hne hi]
      exact ⟨_, q1, by simp, fun _ => ⟨fun _ h => h, fun c hc => ⟨hc, fun cur hcur => ⟨cur, hcur, rfl⟩⟩⟩⟩
  map := fun i es' hi h => by
    rcases mvH_old hi h with ⟨_, q⟩ | ⟨hne, b0, q1, q2⟩
    · cases q
    · cases b0 <;> simp [mvB] at q2
      exact ⟨_, q1, fun c hc => ⟨by rw [mvφ_old hne hi]; exact hc, bornK_same rfl⟩⟩
  iter := fun i d k s hi h => by
    rcases mvH_old hi h with ⟨_, q⟩ | ⟨hne, b0, q1, q2⟩
    · cases q
    · cases b0 <;> simp [mvB] at q2
      exact ⟨_, _, _, q1, fun c hc => by rw [mvφ_old hne hi]; exact hc⟩
theorem mv_hr (hr : HR P w0 X w φ H) (hb : H[id]? = some (.row e nb rows)) (hn : rows.length = n) (hm : m ≤ n) (h0 : 0 < n) : HR P w0 X w (mvφ φ id H.length) (mvH id n m H.length (.row e nb (rows.take m)) H) := by
  have hidl : id < H.length := (List.getElem?_eq_some_iff.1 hb).1
  refine ⟨hr.vo, hr.fr, ext_turn hr (mv_turn (n := n) (m := m) (b := .row e nb (rows.take m)) hr hb), fun i c hc => ?_, fun i j c hi hj => ?_, fun i b c hi hc => ?_⟩
  · rw [mvH_len]
    rcases mvφ_some hc with ⟨_, ⟨rfl, q⟩ | ⟨_, q⟩⟩
    · have := hr.own _ c q; omega
    · have := hr.own _ c q; omega
  · rcases mvφ_some hi with ⟨n1, ⟨rfl, q⟩ | ⟨n2, q⟩⟩ <;> rcases mvφ_some hj with ⟨n3, ⟨rfl, q'⟩ | ⟨n4, q'⟩⟩
    · rfl
    · exact absurd (hr.inj _ _ _ q' q) n3
    · exact absurd (hr.inj _ _ _ q q') n1
    · exact hr.inj _ _ _ q q'
  · rcases mvφ_some hc with ⟨hne, ⟨rfl, q⟩ | ⟨n2, q⟩⟩
    · rw [mvH_new] at hi
      simp only [Option.some.injEq] at hi
      subst hi
      refine BlkOk.mv hr hb hn hm h0 ?_
      obtain ⟨cur, h1, h2, h3, h4⟩ := hr.blk id _ c hb q
      refine ⟨cur, h1, fun row hrow => h2 row (List.mem_of_mem_take hrow), Nat.le_trans (Nat.mul_le_mul_right _ (by simp; omega)) h3, fun k j row x v hk hj hu => ?_⟩
      rw [List.getElem?_take] at hk
      split at hk
      · exact h4 k j row x v hk hj hu
      · simp at hk
    · have hil := (hr.own _ c q).2.2
      rcases mvH_old hil hi with ⟨q2, _⟩ | ⟨_, b0, q1, rfl⟩
      · exact absurd q2 hne
      · exact BlkOk.mv hr hb hn hm h0 (hr.blk i b0 c q1 q)
/-- A window from the beginning of an own slice becomes a slice of its own; the old slice is forgotten. -/
theorem weak_mv {L : Nat} {s : St} (id n m : Nat) (e : TypeId) (nb : Bool) (rows : List (List AV)) (hb : s.H[id]? = some (.row e nb rows)) (hn : rows.length = n) (hm : m ≤ n) (h0 : 0 < n) :
    Weak P L s ⟨mvT id n m s.H.length s.T, mvH id n m s.H.length (.row e nb (rows.take m)) s.H⟩ := by
  intro B w0 X N φ a w hB hrel
  exact ⟨_, mv_hr hrel.hr hb hn hm h0, hrel.tn.trans (mv_turn hrel.hr hb), fun k => by rw [tget_mvT]; exact mv_rv hrel.hr hb hn hm h0 (hrel.t k), hrel.size, hrel.df⟩
/-- An own slice becomes memory that nobody writes. -/
theorem weak_frz {L : Nat} {s : St} (id : Nat) (e : TypeId) (nb : Bool) (rows : List (List AV)) (hb : s.H[id]? = some (.row e nb rows)) (ho : ∀ r ∈ rows, ∀ c ∈ r, owns c = false) :
    Weak P L s ⟨s.T.map fun p => (p.1, frA id rows p.2), frH id rows s.H⟩ := by
  intro B w0 X N φ a w hB hrel
  exact ⟨_, fr_hr hrel.hr hb ho, hrel.tn.trans fr_turn, fun k => by rw [tget_frT]; exact fr_rv hrel.hr hb ho (hrel.t k), hrel.size, hrel.df⟩
end
/-- A call whose arguments hold nothing of the call's own, taken as they stand (a nil slice is a nil slice). -/
theorem own_G {P : Program} {g : FuncId} {as : List AV} {r : AV} {H : List Blk} {K : AV → List Blk → Prop} (hp : Pure P g as r) (ho : ownsL as = false) (hK : K r H) : CallG P g as H K :=
  ⟨hp.1, fun w0 w X φ vs hr hl hv => (hp.2 w (fun b => X b ∨ ∃ id, φ id = some b) vs (fun b hb => hb.elim (fun hb => (hr.ext b hb).1) fun ⟨id, h⟩ => (hr.own id b h).2.1) hr.all hl fun j y v hj hu => (hv j y v hj hu).ro_of (ownsL_get ho j y hj)).mono
      fun e w' ⟨v, h1, h2, h3⟩ => ⟨v, r, φ, H, h1, hr_below hr h3, turn_below hr h3, .ro h2, hK⟩⟩
end Go.Proofs.YtdkcmfafganhhaaDoor
