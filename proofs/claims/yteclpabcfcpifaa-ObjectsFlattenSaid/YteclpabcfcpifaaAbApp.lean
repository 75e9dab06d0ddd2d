/- Elements of slices; append. -/
import Derived.Test.YteclpabcfcpifaaAbEop
namespace Go.Proofs.Yteclpabcfcpifaa
set_option linter.unusedSimpArgs false
set_option linter.unusedVariables false
set_option linter.unnecessarySimpa false
set_option linter.unusedSectionVars false
open Go.RowKit
variable [Glob]

section
variable {P : Program} {w0 w : World} {X : Nat → Prop} {φ : Nat → Option Nat} {G : List Blk}
theorem add_add (a : Addr) (m k : Nat) : (a.add m).add k = a.add (m + k) := by
  unfold Addr.add
  by_cases hm : m = 0
  · subst hm; simp
  · by_cases hk : k = 0
    · subst hk; simp [hm]
    · have : ¬ (m + k = 0) := by omega
      simp [hm, hk, Nat.add_assoc]
theorem elemAt_sound (hr : HR P w0 X w φ G) {sz e t : Nat} {i : Ty} {x p : AV} {k : IntKind} {n : Int} {v : Value} (hu : P.underlying t = some (.slice e)) (he : ty P e = some i) (hs : sz = i.sz) (h : elemAt G sz e x n = some p) (hv : RV P w X φ G x v) :
    ∃ u, (Instr.indexAt t v (.int k n)).run P w = .ok u w ∧ RV P w X φ G p u := by
  subst hs
  cases x with
  | rs rows =>
    simp only [elemAt] at h
    split at h
    · rename_i h0
      split at h
      · rename_i row hrow
        split at h
        · rename_i hl
          simp at h
          subst h
          cases hv with
          | ro h =>
            cases h with
            | @rs _ A m cap szr f hn hcap hA hx =>
              obtain ⟨h1, a, rfl, hb, hxx, hc⟩ := hA _ _ hrow
              have hlt : n.toNat < rows.length := (List.getElem?_eq_some_iff.1 hrow).1
              have hnm : n < (m : Int) := by omega
              refine ⟨.pointer (some (a.add (n.toNat * i.sz))), ?_, .ro (.rp (fun j => f n.toNat j) (by rw [add_block]; exact hb) (by rw [add_block]; exact hxx) (fun j x hj => ?_) (fun j x hj => hx _ j row x hrow hj))⟩
              · simp [Instr.indexAt, asIntOf, run_underlying hu, run_sizeOf_ty he, h0, hnm]
              · have hj' : j < szr := by rw [← h1]; exact (List.getElem?_eq_some_iff.1 hj).1
                rw [add_add, show i.sz = szr by omega]
                exact hc j hj'
        · simp at h
      · simp at h
    · simp at h
  | os id m =>
    simp only [elemAt] at h
    split at h
    · rename_i e' nb rows hb
      split at h
      · rename_i hc
        obtain ⟨h0, h1, h2, rfl⟩ := hc
        simp at h
        subst h
        cases hv with
        | ro h => cases h
        | os g0 hid hv =>
          have := (hv e' nb rows hb).2 h2.symm
          rcases this with ⟨_, _, _, h3⟩ | ⟨c, cap, cur, h4, rfl, h5, h6, h7, h8⟩
          · omega
          · have hnm : n < (m : Int) := by omega
            refine ⟨.pointer (some ((Addr.mk c 0 none).add (n.toNat * i.sz))), ?_, .ep rfl hid fun e2 nb2 rows2 hb2 => ?_⟩
            · simp [Instr.indexAt, asIntOf, run_underlying hu, run_sizeOf_ty he, h0, hnm]
            · rw [hb] at hb2
              simp at hb2
              obtain ⟨rfl, rfl, rfl⟩ := hb2
              exact ⟨by omega, fun _ => ⟨c, h4, by rw [add_noneA, ty_cells he]; simp⟩⟩
      · simp at h
    · simp at h
  | _ => simp [elemAt] at h

theorem allLen_mem {sz : Nat} {rows : List (List AV)} (h : allLen sz rows = true) : ∀ row ∈ rows, row.length = sz := by
  intro row hm
  simp only [allLen, List.all_eq_true] at h
  simpa using h row hm
/-- The elements of a slice. -/
theorem elems_sound (hr : HR P w0 X w φ G) {sz e : Nat} {i : Ty} {y : AV} {ys : List (List AV)} {v : Value} (hsz : 0 < sz) (h : elems G sz y = some ys) (hv : RV P w X φ G y v) :
    (∀ row ∈ ys, row.length = sz) ∧ ∃ A c, v = .slice A ys.length c ∧ (ys = [] → True) ∧ (0 < ys.length → ∃ a, A = some a ∧ ∀ (i j : Nat) row x, ys[i]? = some row → row[j]? = some x →
      ∃ u, w.cell? (a.add (i * sz + j)) = some u ∧ u.oneCell' = true ∧ RV P w X φ G x u) := by
  cases y with
  | rs rows =>
    simp only [elems] at h
    split at h
    · rename_i hal
      simp at h
      subst h
      have hal := allLen_mem (hal.resolve_left (by omega))
      cases hv with
      | ro h =>
        cases h with
        | @rs _ A m cap szr f hn hcap hA hx =>
          subst hn
          refine ⟨hal, A, cap, rfl, fun _ => trivial, fun h0 => ?_⟩
          obtain ⟨h1, a, rfl, hb, hxx, hc⟩ := hA 0 rows[0] (by simp [h0])
          refine ⟨a, rfl, fun i j row x hi hj => ?_⟩
          obtain ⟨h1', a', ha', hb', hxx', hc'⟩ := hA i row hi
          simp at ha'
          subst ha'
          have hl := hal row (List.mem_of_getElem? hi)
          have hj' : j < szr := by rw [← h1']; exact (List.getElem?_eq_some_iff.1 hj).1
          refine ⟨f i j, ?_, (hc' j hj').2, .ro (hx i j row x hi hj)⟩
          rw [show sz = szr by omega]
          exact (hc' j hj').1
    · simp at h
  | nils =>
    simp [elems] at h
    subst h
    obtain ⟨A, rfl⟩ := hv.nils_inv
    exact ⟨by simp, A, 0, rfl, fun _ => trivial, by simp⟩
  | os id n =>
    simp only [elems] at h
    split at h
    · rename_i e' nb rows hb
      split at h
      · rename_i hc
        simp at h
        subst h
        have hal := allLen_mem (hc.2.resolve_left (by omega))
        cases hv with
        | ro h => cases h
        | os g0 hid hv =>
          rcases (hv e' nb rows hb).2 hc.1.symm with ⟨_, _, ⟨A, rfl⟩, h3⟩ | ⟨c, cap, cur, h4, rfl, h5, h6, h7, h8⟩
          · exact ⟨hal, A, 0, by rw [hc.1, h3], fun _ => trivial, by omega⟩
          · refine ⟨hal, some ⟨c, 0, none⟩, cap, by rw [hc.1], fun _ => trivial, fun _ => ⟨_, rfl, fun i j row x hi hj => ?_⟩⟩
            obtain ⟨cur', k1, k2, k3, k4⟩ := hr.blk id _ c hb h4
            have hl := hal row (List.mem_of_getElem? hi)
            have hi' : i < rows.length := (List.getElem?_eq_some_iff.1 hi).1
            have hce : P.cellsOf e' = sz := by rw [← k2 row (List.mem_of_getElem? hi)]; exact hl
            have hj' : j < sz := by rw [← hl]; exact (List.getElem?_eq_some_iff.1 hj).1
            rw [hce] at k3 k4
            have hlt : i * sz + j < cur'.size := Nat.lt_of_lt_of_le (mul_lt hi' hj') k3
            obtain ⟨q1, q2⟩ := k4 i j row x cur'[i * sz + j] hi hj (by simp [hlt])
            exact ⟨cur'[i * sz + j], by rw [add_noneA, cell_row k1]; simp [hlt], q2, q1⟩
      · simp at h
    · simp at h
  | _ => simp [elems] at h

theorem set_self {l : List Blk} {i : Nat} {b : Blk} (h : l[i]? = some b) : l.set i b = l := by
  apply List.ext_getElem?
  intro j
  rw [List.getElem?_set]
  split
  · rename_i e; subst e
    rw [h]; simp; exact (List.getElem?_eq_some_iff.1 h).1
  · rfl
/-- What an append does, whatever it appends to: a nil slice, or one of the call's own. -/
theorem append_core (hr : HR P w0 X w φ G) {t id n e m c : Nat} {te : Ty} {nb : Bool} {rows ys : List (List AV)} {v : Value} {a : Addr} {tyc : Nat} (hu : P.underlying t = some (.slice e)) (he : ty P e = some te)
    (hb : G[id]? = some (.row e nb rows)) (hn : rows.length = n) (hv : (v = .slice none 0 0 ∧ n = 0 ∧ φ id = none) ∨ RV P w X φ G (.os id n) v ∧ ∃ g cap, φ id = some g ∧ v = .slice (some ⟨g, 0, none⟩) n cap) (hm : ys.length = m) (hm0 : 0 < m) (hsm : n + m ≤ 1073741824)
    (hal : ∀ row ∈ ys, row.length = te.sz) (hys : ∀ (i j : Nat) row x, ys[i]? = some row → row[j]? = some x → ∃ u, w.cell? (a.add (i * te.sz + j)) = some u ∧ u.oneCell' = true ∧ RV P w X φ G x u) :
    ∃ v' w' c', (Builtin.append_ #[t, t] tyc #[v, .slice (some a) m c]).run P w = .ok v' w' ∧ HR P w0 X w' (setφ φ id c') (G.set id (.row e nb (rows ++ ys))) ∧ Turn w φ G w' (setφ φ id c') (G.set id (.row e nb (rows ++ ys))) ∧
      RV P w' X (setφ φ id c') (G.set id (.row e nb (rows ++ ys))) (.os id (n + m)) v' := by
  obtain ⟨inf, z, d, pl, es, hi, hud, hz, hzs, hpos, hone, hby, _, hte⟩ := (ty_is he).ex
  have hsz : te.sz = inf.size := by rw [hte, descTy_sz]
  have hce : P.cellsOf e = te.sz := ty_cells he
  have hid : id < G.length := (List.getElem?_eq_some_iff.1 hb).1
  -- the values that are appended
  obtain ⟨vs, hvs⟩ : ∃ vs : List Value, vs = (List.range (m * te.sz)).map fun k => (w.cell? (a.add k)).getD undef := ⟨_, rfl⟩
  have hp := ty_pos he
  have hcell : ∀ k, k < m * te.sz → ∃ row x u, ys[k / te.sz]? = some row ∧ row[k % te.sz]? = some x ∧ w.cell? (a.add k) = some u ∧ u.oneCell' = true ∧ RV P w X φ G x u := fun k hk => by
    have h1 : k / te.sz < ys.length := by rw [hm]; exact Nat.div_lt_of_lt_mul (by rw [Nat.mul_comm]; exact hk)
    have h2 : k % te.sz < (ys[k / te.sz]).length := by rw [hal _ (List.getElem_mem h1)]; exact Nat.mod_lt _ hp
    obtain ⟨u, h3, h4, h5⟩ := hys (k / te.sz) (k % te.sz) _ _ (List.getElem?_eq_getElem h1) (List.getElem?_eq_getElem h2)
    rw [Nat.mul_comm, Nat.div_add_mod] at h3
    exact ⟨_, _, u, List.getElem?_eq_getElem h1, List.getElem?_eq_getElem h2, h3, h4, h5⟩
  have hvl : vs.length = m * inf.size := by rw [hvs, hsz]; simp
  have hvc : ∀ (j : Nat) u, vs[j]? = some u → w.cell? (a.add j) = some u := fun j u hj => by
    have h1 : j < m * te.sz := by have := (List.getElem?_eq_some_iff.1 hj).1; rw [hvl, ← hsz] at this; exact this
    rw [hvs, List.getElem?_map, List.getElem?_range h1] at hj
    obtain ⟨row, x, u', _, _, h3, _⟩ := hcell j h1
    simp [h3] at hj
    rw [h3, hj]
  have hv1 : ∀ u ∈ vs, u.oneCell' = true := fun u hu => by
    obtain ⟨j, hj, rfl⟩ := List.getElem_of_mem hu
    have h1 := hvc j vs[j] (by simp [hj])
    rw [hvl, ← hsz] at hj
    obtain ⟨row, x, u', _, _, h3, h4, _⟩ := hcell j hj
    rw [h1] at h3
    simp at h3
    rw [h3]; exact h4
  have hbyt : (n + m) * inf.bytes ≤ 140737488355328 := by
    have : (n + m) * inf.bytes ≤ 1073741824 * 4096 := Nat.mul_le_mul hsm hby
    omega
  obtain ⟨xs, hown, hxs⟩ : ∃ xs, w.ownsRow w0.heap.size e inf.size v n xs ∧ ∀ (i j : Nat) row x, rows[i]? = some row → row[j]? = some x → ∃ u, xs[i * te.sz + j]? = some u ∧ u.oneCell' = true ∧ RV P w X φ G x u := by
    rcases hv with ⟨rfl, rfl, _⟩ | ⟨hv, g, cap, hg, rfl⟩
    · refine ⟨[], World.ownsRow_nil w _ e _, fun i j row x hi _ => ?_⟩
      have hnil : rows = [] := List.eq_nil_of_length_eq_zero hn
      subst hnil
      simp at hi
    · cases hv with
      | ro h => cases h
      | os g0 hid hv =>
        rcases (hv e nb rows hb).2 hn.symm with ⟨_, h2, _⟩ | ⟨c2, cap2, cur, h4, h45, h5, h6, h7, h8⟩
        · rw [hg] at h2; simp at h2
        · simp at h45
          obtain ⟨rfl, rfl⟩ := h45
          obtain ⟨cur', k1, k2, k3, k4⟩ := hr.blk id _ g hb hg
          rw [h5] at k1
          simp at k1
          subst k1
          have hle : n * te.sz ≤ cur.size := by rw [hce, hn] at k3; exact k3
          refine ⟨cur.toList.take (n * inf.size), ⟨by simp; rw [← hsz]; omega, .inr ⟨g, cap, cur, rfl, (hr.own id g hg).1, h5, h8, h7, by rw [h6, hce, hsz], rfl⟩⟩, fun i j row x hi hj => ?_⟩
          have hi' : i < rows.length := (List.getElem?_eq_some_iff.1 hi).1
          have hj' : j < te.sz := by rw [← hce, ← k2 row (List.mem_of_getElem? hi)]; exact (List.getElem?_eq_some_iff.1 hj).1
          have hlt := mul_lt hi' hj'
          rw [hn] at hlt
          obtain ⟨q1, q2⟩ := k4 i j row x (cur[i * te.sz + j]'(by omega)) hi hj (by rw [hce]; simp)
          refine ⟨cur[i * te.sz + j]'(by omega), ?_, q2, q1⟩
          rw [List.getElem?_take, ← hsz, if_pos hlt]
          simp
  obtain ⟨v', w', hrun, hown', hgrow, _, hblk⟩ := run_append_own_at (P := P) w w0.heap.size t tyc e inf z inf.size inf.bytes hu hi hz rfl rfl hzs hpos v n xs hown a m c vs hvl hvc hv1 (by unfold maxLen; omega) hbyt hr.fr.size
  -- the block behind it
  obtain ⟨g', cap', cur', rfl, hbase', hg', hnc', hcm', hcs', htake'⟩ : ∃ g' cap' cur', v' = .slice (some ⟨g', 0, none⟩) (n + m) cap' ∧ w0.heap.size ≤ g' ∧ w'.heap[g']? = some (.cells cur' e (0, 0)) ∧ n + m ≤ cap' ∧ cap' ≤ maxLen ∧ cur'.size = cap' * inf.size ∧ cur'.toList.take ((n + m) * inf.size) = xs ++ vs := by
    rcases hown'.2 with ⟨_, h⟩ | h
    · omega
    · exact h
  have hold : ∀ k, k < w.heap.size → (∀ g, φ id = some g → k ≠ g) → w'.heap[k]? = w.heap[k]? := fun k hk hne => by
    refine hgrow.block k hk fun e => ?_
    rcases hv with ⟨rfl, _, _⟩ | ⟨_, g, cap, hg, rfl⟩
    · simp [Value.ownBlock] at e
    · simp [Value.ownBlock] at e
      exact hne g hg e
  have hg'n : φ id = some g' ∨ g' = w.heap.size := by
    rcases hblk with h | h
    · rcases hv with ⟨rfl, _, _⟩ | ⟨_, g, cap, hg, rfl⟩
      · simp [Value.ownBlock] at h
      · simp [Value.ownBlock] at h
        rw [h]; exact .inl hg
    · simp [Value.ownBlock] at h
      exact .inr h
  have hg'other : ∀ i c, i ≠ id → φ i = some c → c ≠ g' := fun i c hne hc e => by
    rcases hg'n with h | h
    · exact hne (hr.inj i id c hc (by rw [e]; exact h))
    · have := (hr.own i c hc).2.1; omega
  have hset : ∀ i, i ≠ id → (G.set id (.row e nb (rows ++ ys)))[i]? = G[i]? := fun i hne => List.getElem?_set_ne (fun h => hne h.symm)
  have hself : (G.set id (.row e nb (rows ++ ys)))[id]? = some (.row e nb (rows ++ ys)) := by rw [List.getElem?_set]; simp [hid]
  have hT : Turn w φ G w' (setφ φ id g') (G.set id (.row e nb (rows ++ ys))) := {
    size := hgrow.size
    len := by simp
    old := fun b hb' hl => ⟨hold b hl (fun g hg e => hb' id (by rw [e]; exact hg)), fun i hi => by
      unfold setφ at hi
      split at hi
      · simp at hi
        rcases hg'n with h | h
        · exact hb' id (by rw [h, hi])
        · omega
      · exact hb' i hi⟩
    box := fun i t' cs' _ h => by
      by_cases hi : i = id
      · subst hi; rw [hself] at h; simp at h
      · rw [hset i hi] at h; exact ⟨cs', h, fun c hc => by simp [setφ, hi, hc]⟩
    row := fun i e' nb' rows' _ h => by
      by_cases hi : i = id
      · subst hi
        rw [hself] at h
        simp at h
        obtain ⟨rfl, rfl, rfl⟩ := h
        exact ⟨rows, hb, by simp, fun hl => by simp at hl; subst hl; simp at hm; omega⟩
      · rw [hset i hi] at h
        refine ⟨rows', h, Nat.le_refl _, fun _ => ⟨fun _ hp => by simp [setφ, hi, hp], fun c hc => ⟨by simp [setφ, hi, hc], fun cur hcur => ⟨cur, ?_, rfl⟩⟩⟩⟩
        rw [hold c (hr.own i c hc).2.1 (fun g hg e => hi (hr.inj i id c hc (by rw [e]; exact hg)))]
        exact hcur
    map := fun i es' _ h => by
      by_cases hi : i = id
      · subst hi; rw [hself] at h; simp at h
      · rw [hset i hi] at h; exact ⟨es', h, fun c hc => by simp [setφ, hi, hc]⟩ }
  have hg'lt : g' < w'.heap.size := (Array.getElem?_eq_some_iff.1 hg').1
  refine ⟨_, w', g', hrun, ⟨hr.vo, ?_, ext_turn hr hT, fun i c hc => ?_, fun i j c hi hj => ?_, fun i b c hi hc => ?_⟩, hT, .os rfl (by simp; exact hid) fun e2 nb2 rows2 h2 => ?_⟩
  · refine hr.fr.grown hgrow hr.fr.size fun k hk => ?_
    rcases hv with ⟨rfl, _, _⟩ | ⟨_, g, cap, hg, rfl⟩
    · simp [Value.ownBlock] at hk
    · simp [Value.ownBlock] at hk
      have := (hr.own id g hg).1; omega
  · unfold setφ at hc
    split at hc
    · rename_i hi
      simp at hc
      subst hc hi
      exact ⟨hbase', hg'lt, by simp; exact hid⟩
    · have := hr.own i c hc
      have := hgrow.size
      simp; omega
  · unfold setφ at hi hj
    split at hi <;> split at hj
    · subst_vars; rfl
    · rename_i h1 h2; simp at hi; subst hi; exact absurd rfl (hg'other j _ h2 hj)
    · rename_i h1 h2; simp at hj; subst hj; exact absurd rfl (hg'other i _ h1 hi)
    · exact hr.inj i j c hi hj
  · by_cases h : i = id
    · subst h
      rw [hself] at hi
      simp at hi
      subst hi
      simp [setφ] at hc
      subst hc
      refine ⟨cur', hg', ?_, ?_, fun i' j row x u h1 h2 h3 => ?_⟩
      · intro row hrow
        rw [List.mem_append] at hrow
        rcases hrow with h | h
        · rcases hv with ⟨_, h0, _⟩ | ⟨_, g, cap, hg, _⟩
          · rw [h0] at hn; rw [List.eq_nil_of_length_eq_zero hn] at h; simp at h
          · obtain ⟨_, _, k2, _⟩ := hr.blk _ _ g hb hg
            exact k2 row h
        · rw [hce]; exact hal row h
      · rw [hce, hsz, hcs', List.length_append, hn, hm]; exact Nat.mul_le_mul_right _ hnc'
      · rw [hce] at h3
        have hxl : xs.length = n * te.sz := by rw [hown.1, hsz]
        have hi' : i' < n + m := by have := (List.getElem?_eq_some_iff.1 h1).1; simp at this; omega
        have hjl : j < te.sz := by
          have hj := (List.getElem?_eq_some_iff.1 h2).1
          have hmem := List.mem_of_getElem? h1
          rw [List.mem_append] at hmem
          rcases hmem with hmem | hmem
          · rcases hv with ⟨_, h0, _⟩ | ⟨_, g, cap, hg, _⟩
            · rw [h0] at hn; rw [List.eq_nil_of_length_eq_zero hn] at hmem; simp at hmem
            · obtain ⟨_, _, k2, _⟩ := hr.blk _ _ g hb hg
              rw [← hce, ← k2 row hmem]; exact hj
          · rw [← hal row hmem]; exact hj
        have hlt := mul_lt hi' hjl
        have h4 : (xs ++ vs)[i' * te.sz + j]? = some u := by
          rw [← htake', List.getElem?_take, ← hsz, if_pos hlt]
          simpa using h3
        by_cases hin : i' < n
        · rw [List.getElem?_append_left (by omega)] at h1
          have h5 := mul_lt hin hjl
          rw [List.getElem?_append_left (by omega)] at h4
          obtain ⟨u', q1, q2, q3⟩ := hxs i' j row x h1 h2
          rw [q1] at h4
          simp at h4
          subst h4
          exact ⟨q3.turn hT, q2⟩
        · rw [List.getElem?_append_right (by omega), hn] at h1
          have h5 : n * te.sz ≤ i' * te.sz := Nat.mul_le_mul_right _ (by omega)
          rw [List.getElem?_append_right (by omega), hxl] at h4
          have h6 := hvc _ u h4
          obtain ⟨u', q1, q2, q3⟩ := hys (i' - n) j row x h1 h2
          rw [show i' * te.sz + j - n * te.sz = (i' - n) * te.sz + j by rw [Nat.sub_mul]; omega] at h6
          rw [q1] at h6
          simp at h6
          subst h6
          exact ⟨q3.turn hT, q2⟩
    · rw [hset i h] at hi
      have hc' : φ i = some c := by simpa [setφ, h] using hc
      exact (hr.blk i b c hi hc').turn hT (hold c (hr.own i c hc').2.1 (fun g hg e => h (hr.inj i id c hc' (by rw [e]; exact hg))))
  · rw [hself] at h2
    simp at h2
    obtain ⟨rfl, rfl, rfl⟩ := h2
    exact ⟨by simp; omega, fun _ => .inr ⟨g', cap', cur', by simp [setφ], rfl, hg', by rw [hcs', hce, hsz], hcm', hnc'⟩⟩
end
end Go.Proofs.Yteclpabcfcpifaa
