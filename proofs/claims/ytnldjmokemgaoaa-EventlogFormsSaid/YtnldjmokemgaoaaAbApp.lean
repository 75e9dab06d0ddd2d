/- Elements of slices; append. -/
import Derived.Test.YtnldjmokemgaoaaAbEop
import Derived.Lib.AppendStr
namespace Go.Proofs.Ytnldjmokemgaoaa
set_option linter.unusedSimpArgs false
set_option linter.unusedVariables false
set_option linter.unnecessarySimpa false
set_option linter.unusedSectionVars false
open Go.RowKit
variable [Glob]

section
variable {P : Program} {w0 w : World} {X : Nat → Prop} {φ : Nat → Option Nat} {G : List Blk}
theorem add_add (a : Addr) (m k : Nat) : (a.add m).add k = a.add (m + k) := by
  unfold Addr.add
  by_cases hm : m = 0
  · subst hm; simp
  · by_cases hk : k = 0
    · subst hk; simp [hm]
    · have : ¬ (m + k = 0) := by omega
      simp [hm, hk, Nat.add_assoc]
theorem elemAt_sound (hr : HR P w0 X w φ G) {sz e t : Nat} {i : Ty} {x p : AV} {k : IntKind} {n : Int} {v : Value} (hu : P.underlying t = some (.slice e)) (he : ty P e = some i) (hs : sz = i.sz) (h : elemAt G sz e x n = some p) (hv : RV P w X φ G x v) :
    ∃ u, (Instr.indexAt t v (.int k n)).run P w = .ok u w ∧ RV P w X φ G p u := by
  subst hs
  cases x with
  | rs rows =>
    simp only [elemAt] at h
    split at h
    · rename_i h0
      split at h
      · rename_i row hrow
        split at h
        · rename_i hl
          simp at h
          subst h
          cases hv with
          | ro h =>
            cases h with
            | @rs _ A m cap szr f hn hcap hA hx =>
              obtain ⟨h1, a, rfl, hb, hxx, hc⟩ := hA _ _ hrow
              have hlt : n.toNat < rows.length := (List.getElem?_eq_some_iff.1 hrow).1
              have hnm : n < (m : Int) := by omega
              refine ⟨.pointer (some (a.add (n.toNat * i.sz))), ?_, .ro (.rp (fun j => f n.toNat j) (by rw [add_block]; exact hb) (by rw [add_block]; exact hxx) (fun j x hj => ?_) (fun j x hj => hx _ j row x hrow hj))⟩
              · simp [Instr.indexAt, asIntOf, run_underlying hu, run_sizeOf_ty he, h0, hnm]
              · have hj' : j < szr := by rw [← h1]; exact (List.getElem?_eq_some_iff.1 hj).1
                rw [add_add, show i.sz = szr by omega]
                exact hc j hj'
        · simp at h
      · simp at h
    · simp at h
  | os id m =>
    simp only [elemAt] at h
    split at h
    · rename_i e' nb rows hb
      split at h
      · rename_i hc
        obtain ⟨h0, h1, h2, rfl⟩ := hc
        simp at h
        subst h
        cases hv with
        | ro h => cases h
        | os g0 hid hv =>
          have := (hv e' nb rows hb).2 h2.symm
          rcases this with ⟨_, _, _, h3⟩ | ⟨c, cap, cur, h4, rfl, h5, h6, h7, h8⟩
          · omega
          · have hnm : n < (m : Int) := by omega
            refine ⟨.pointer (some ((Addr.mk c 0 none).add (n.toNat * i.sz))), ?_, .ep rfl hid fun e2 nb2 rows2 hb2 => ?_⟩
            · simp [Instr.indexAt, asIntOf, run_underlying hu, run_sizeOf_ty he, h0, hnm]
            · rw [hb] at hb2
              simp at hb2
              obtain ⟨rfl, rfl, rfl⟩ := hb2
              exact ⟨by omega, fun _ => ⟨c, h4, by rw [add_noneA, ty_cells he]; simp⟩⟩
      · simp at h
    · simp at h
  | _ => simp [elemAt] at h

theorem allLen_mem {sz : Nat} {rows : List (List AV)} (h : allLen sz rows = true) : ∀ row ∈ rows, row.length = sz := by
  intro row hm
  simp only [allLen, List.all_eq_true] at h
  simpa using h row hm
/-- The elements of a slice. -/
theorem elems_sound (hr : HR P w0 X w φ G) {sz e : Nat} {i : Ty} {y : AV} {ys : List (List AV)} {v : Value} (hsz : 0 < sz) (h : elems G sz y = some ys) (hv : RV P w X φ G y v) :
    (∀ row ∈ ys, row.length = sz) ∧ ∃ A c, v = .slice A ys.length c ∧ (ys = [] → True) ∧ (0 < ys.length → ∃ a, A = some a ∧ ∀ (i j : Nat) row x, ys[i]? = some row → row[j]? = some x →
      ∃ u, w.cell? (a.add (i * sz + j)) = some u ∧ u.oneCell' = true ∧ RV P w X φ G x u) := by
  cases y with
  | rs rows =>
    simp only [elems] at h
    split at h
    · rename_i hal
      simp at h
      subst h
      have hal := allLen_mem (hal.resolve_left (by omega))
      cases hv with
      | ro h =>
        cases h with
        | @rs _ A m cap szr f hn hcap hA hx =>
          subst hn
          refine ⟨hal, A, cap, rfl, fun _ => trivial, fun h0 => ?_⟩
          obtain ⟨h1, a, rfl, hb, hxx, hc⟩ := hA 0 rows[0] (by simp [h0])
          refine ⟨a, rfl, fun i j row x hi hj => ?_⟩
          obtain ⟨h1', a', ha', hb', hxx', hc'⟩ := hA i row hi
          simp at ha'
          subst ha'
          have hl := hal row (List.mem_of_getElem? hi)
          have hj' : j < szr := by rw [← h1']; exact (List.getElem?_eq_some_iff.1 hj).1
          refine ⟨f i j, ?_, (hc' j hj').2, .ro (hx i j row x hi hj)⟩
          rw [show sz = szr by omega]
          exact (hc' j hj').1
    · simp at h
  | nils =>
    simp [elems] at h
    subst h
    obtain rfl := hv.nils_inv
    exact ⟨by simp, none, 0, rfl, fun _ => trivial, by simp⟩
  | nilc =>
    simp [elems] at h
    subst h
    obtain ⟨A, rfl⟩ := hv.nilc_inv
    exact ⟨by simp, A, 0, rfl, fun _ => trivial, by simp⟩
  | os id n =>
    simp only [elems] at h
    split at h
    · rename_i e' nb rows hb
      split at h
      · rename_i hc
        simp at h
        subst h
        have hal := allLen_mem (hc.2.resolve_left (by omega))
        cases hv with
        | ro h => cases h
        | os g0 hid hv =>
          rcases (hv e' nb rows hb).2 hc.1.symm with ⟨_, _, ⟨A, rfl⟩, h3⟩ | ⟨c, cap, cur, h4, rfl, h5, h6, h7, h8⟩
          · exact ⟨hal, A, 0, by rw [hc.1, h3], fun _ => trivial, by omega⟩
          · refine ⟨hal, some ⟨c, 0, none⟩, cap, by rw [hc.1], fun _ => trivial, fun _ => ⟨_, rfl, fun i j row x hi hj => ?_⟩⟩
            obtain ⟨cur', k1, k2, k3, k4⟩ := hr.blk id _ c hb h4
            have hl := hal row (List.mem_of_getElem? hi)
            have hi' : i < rows.length := (List.getElem?_eq_some_iff.1 hi).1
            have hce : P.cellsOf e' = sz := by rw [← k2 row (List.mem_of_getElem? hi)]; exact hl
            have hj' : j < sz := by rw [← hl]; exact (List.getElem?_eq_some_iff.1 hj).1
            rw [hce] at k3 k4
            have hlt : i * sz + j < cur'.size := Nat.lt_of_lt_of_le (mul_lt hi' hj') k3
            obtain ⟨q1, q2⟩ := k4 i j row x cur'[i * sz + j] hi hj (by simp [hlt])
            exact ⟨cur'[i * sz + j], by rw [add_noneA, cell_row k1]; simp [hlt], q2, q1⟩
      · simp at h
    · simp at h
  | _ => simp [elems] at h

theorem set_self {l : List Blk} {i : Nat} {b : Blk} (h : l[i]? = some b) : l.set i b = l := by
  apply List.ext_getElem?
  intro j
  rw [List.getElem?_set]
  split
  · rename_i e; subst e
    rw [h]; simp; exact (List.getElem?_eq_some_iff.1 h).1
  · rfl
theorem news_list {sz : Nat} {ys : List (List AV)} {b : Addr} (hp : 0 < sz) (hal : ∀ row ∈ ys, row.length = sz) (hys : ∀ (i j : Nat) row x, ys[i]? = some row → row[j]? = some x → ∃ u, w.cell? (b.add (i * sz + j)) = some u ∧ u.oneCell' = true ∧ RV P w X φ G x u) :
    ∃ vs : List Value, vs.length = ys.length * sz ∧ (∀ (j : Nat) u, vs[j]? = some u → w.cell? (b.add j) = some u) ∧ (∀ u ∈ vs, u.oneCell' = true) ∧ ∀ (i j : Nat) row x, ys[i]? = some row → row[j]? = some x → ∃ u, vs[i * sz + j]? = some u ∧ RV P w X φ G x u ∧ u.oneCell' = true := by
  obtain ⟨vs, hvs⟩ : ∃ vs : List Value, vs = (List.range (ys.length * sz)).map fun k => (w.cell? (b.add k)).getD undef := ⟨_, rfl⟩
  have hcell : ∀ k, k < ys.length * sz → ∃ u, w.cell? (b.add k) = some u ∧ u.oneCell' = true := fun k hk => by
    have h1 : k / sz < ys.length := Nat.div_lt_of_lt_mul (by rw [Nat.mul_comm]; exact hk)
    have h2 : k % sz < (ys[k / sz]).length := by rw [hal _ (List.getElem_mem h1)]; exact Nat.mod_lt _ hp
    obtain ⟨u, h3, h4, h5⟩ := hys (k / sz) (k % sz) _ _ (List.getElem?_eq_getElem h1) (List.getElem?_eq_getElem h2)
    rw [Nat.mul_comm, Nat.div_add_mod] at h3
    exact ⟨u, h3, h4⟩
  have hvl : vs.length = ys.length * sz := by rw [hvs]; simp
  have hget : ∀ j, j < ys.length * sz → ∃ u, vs[j]? = some u ∧ w.cell? (b.add j) = some u ∧ u.oneCell' = true := fun j hj => by
    obtain ⟨u, h1, h2⟩ := hcell j hj
    exact ⟨u, by rw [hvs, List.getElem?_map, List.getElem?_range hj]; simp [h1], h1, h2⟩
  refine ⟨vs, hvl, fun j u hj => ?_, fun u hu => ?_, fun i j row x hi hj => ?_⟩
  · obtain ⟨u', h1, h2, _⟩ := hget j (by rw [← hvl]; exact (List.getElem?_eq_some_iff.1 hj).1)
    rw [h1] at hj; simp at hj; subst hj; exact h2
  · obtain ⟨j, hj, rfl⟩ := List.getElem_of_mem hu
    obtain ⟨u', h1, h2, h3⟩ := hget j (by rw [← hvl]; exact hj)
    simp [hj] at h1; rw [h1]; exact h3
  · obtain ⟨u, h1, h2, h3⟩ := hys i j row x hi hj
    have hi' : i < ys.length := (List.getElem?_eq_some_iff.1 hi).1
    have hj' : j < sz := by rw [← hal row (List.mem_of_getElem? hi)]; exact (List.getElem?_eq_some_iff.1 hj).1
    obtain ⟨u', q1, q2, q3⟩ := hget (i * sz + j) (mul_lt hi' hj')
    rw [h1] at q2; simp at q2; subst q2
    exact ⟨u, q1, h3, h2⟩
/-- Append to an empty slice without capacity. -/
theorem run_append_nil' (t ty e : TypeId) (i : TypeInfo) (z : Value) (ht : P.underlying t = some (.slice e)) (hi : P.info? e = some i) (hz : i.zero = some z) (A : Option Addr)
    (a : Addr) (n c : Nat) (news : List Value) (hl : news.length = n * i.size) (hnews : ∀ (j : Nat) v, news[j]? = some v → w.cell? (a.add j) = some v)
    (h0 : 0 < n) (h63 : (n : Int) ≤ 9223372036854775807) (h48 : n * i.bytes ≤ 140737488355328) :
    (Builtin.append_ #[t, t] ty #[.slice A 0 0, .slice (some a) n c]).run P w =
      .ok (.slice (some ⟨w.heap.size, 0, none⟩) n (grownCap w n 0 e)) (w.drew.alloc (.cells (news.toArray ++ Builtin.zeroCells z.cells (grownCap w n 0 e - n)) e)) := by
  cases A with
  | none => exact run_append_nil w t ty e i z ht hi hz a n c news hl hnews h0 h63 (by omega)
  | some b =>
    have := run_append_grow (P := P) w t ty e i z ht hi hz b 0 0 [] (by simp) (by simp) a n c news hl hnews (by omega) (by simpa using h63) (by
      rw [Nat.zero_add, nextslicecap_zero h0]; omega)
    simpa using this
/-- What is appended, as a value of the model, and what an append of it does. -/
structure Src (P : Program) (w : World) (X : Nat → Prop) (φ : Nat → Option Nat) (G : List Blk) (t t' e : TypeId) (te : Ty) (yv : Value) (ys : List (List AV)) : Prop where
  al : ∀ row ∈ ys, row.length = te.sz
  non : ys = [] → ∀ tyc A n c, n ≤ c → (Builtin.append_ #[t, t'] tyc #[.slice A n c, yv]).run P w = .ok (.slice A n c) w
  som : ys ≠ [] → ∃ news : List Value, news.length = ys.length * te.sz ∧ (∀ u ∈ news, u.oneCell' = true) ∧ (∀ (i j : Nat) row x, ys[i]? = some row → row[j]? = some x → ∃ u, news[i * te.sz + j]? = some u ∧ RV P w X φ G x u ∧ u.oneCell' = true) ∧
    (∀ tyc base v n xs, w.ownsRow base e te.sz v n xs → base ≤ w.heap.size → n + ys.length ≤ 1073741824 → ∃ v' w', (Builtin.append_ #[t, t'] tyc #[v, yv]).run P w = .ok v' w' ∧ w'.ownsRow base e te.sz v' (n + ys.length) (xs ++ news) ∧ w.grownBy w' v.ownBlock ∧ (v'.ownBlock = v.ownBlock ∨ v'.ownBlock = some w.heap.size)) ∧
    (∀ tyc A z, (P.info? e).bind (·.zero) = some z → ys.length ≤ 1073741824 → (Builtin.append_ #[t, t'] tyc #[.slice A 0 0, yv]).run P w = .ok (.slice (some ⟨w.heap.size, 0, none⟩) ys.length (grownCap w ys.length 0 e)) (w.drew.alloc (.cells (news.toArray ++ Builtin.zeroCells z.cells (grownCap w ys.length 0 e - ys.length)) e)))
theorem src_slice (hr : HR P w0 X w φ G) {t e : TypeId} {te : Ty} {y : AV} {ys : List (List AV)} {yv : Value} (hu : P.underlying t = some (.slice e)) (he : ty P e = some te) (h : elems G te.sz y = some ys) (hy : RV P w X φ G y yv) : Src P w X φ G t t e te yv ys := by
  obtain ⟨hal, A, c, hyv, _, hcell⟩ := elems_sound (P := P) (e := 0) (i := te) hr (ty_pos he) h hy
  obtain ⟨inf, z, d, pl, es, hinf, _, hz, hzs, hpos, _, hby, _, hte⟩ := (ty_is he).ex
  have hsz : te.sz = inf.size := by rw [hte, descTy_sz]
  refine ⟨hal, fun h0 tyc A' n' cap' hle => ?_, fun h0 => ?_⟩
  · subst h0
    rw [hyv]
    cases A' with
    | none => cases A <;> simp [Builtin.append_, run_underlying hu, sizeOf, typeInfo, hinf, Builtin.lenOf, Builtin.firstCells, hle, loadCells, loadCellsFrom]
    | some b => cases A <;> simp [Builtin.append_, run_underlying hu, sizeOf, typeInfo, hinf, Builtin.lenOf, Builtin.firstCells, hle, loadCells, loadCellsFrom, storeCells]
  · have hpos' : 0 < ys.length := by cases ys with | nil => simp at h0 | cons => simp
    obtain ⟨b, rfl, hcell2⟩ := hcell hpos'
    obtain ⟨vs, v1, v2, v3, v4⟩ := news_list (ty_pos he) hal hcell2
    have hb2 : ∀ n, n ≤ 1073741824 → n * inf.bytes ≤ 140737488355328 := fun n hn => by
      have : n * inf.bytes ≤ 1073741824 * 4096 := Nat.mul_le_mul hn hby
      omega
    refine ⟨vs, v1, v3, v4, fun tyc base v n xs hown hbase hle => ?_, fun tyc A0 z' hz' hle => ?_⟩
    · obtain ⟨v', w', k1, k2, k3, _, k5⟩ := run_append_own_at (P := P) w base t tyc e inf z te.sz inf.bytes hu hinf hz hsz.symm rfl (by rw [hzs, hsz]) (ty_pos he) v n xs hown b ys.length c vs v1 v2 v3 (by unfold maxLen; omega) (hb2 _ hle) hbase
      exact ⟨v', w', by rw [hyv]; exact k1, k2, k3, k5⟩
    · rw [hinf] at hz'
      simp only [Option.bind_some, hz, Option.some.injEq] at hz'
      subst hz'
      rw [hyv]
      exact run_append_nil' (P := P) (w := w) t tyc e inf z hu hinf hz A0 b ys.length c vs (by rw [v1, hsz]) v2 hpos' (by omega) (hb2 _ hle)
theorem bytes_get {b : ByteArray} {i : Nat} {row : List AV} (h : (bytesRows b)[i]? = some row) : ∃ c, b.data.toList[i]? = some c ∧ row = [.int .u8 c.toNat] := by
  simp only [bytesRows, List.getElem?_map, Option.map_eq_some_iff] at h
  obtain ⟨c, h1, h2⟩ := h
  exact ⟨c, h1, h2.symm⟩
theorem src_str {t u e : TypeId} {te : Ty} {s : ByteArray} (hu : P.underlying t = some (.slice e)) (hus : P.underlying u = some .string) (he : ty P e = some te) (h1 : te.sz = 1) : Src P w X φ G t u e te (.string s) (bytesRows s) := by
  obtain ⟨inf, z, d, pl, es, hinf, _, hz, hzs, hpos, _, hby, _, hte⟩ := (ty_is he).ex
  have hsz : inf.size = 1 := by have : te.sz = inf.size := by rw [hte, descTy_sz]
                                omega
  have hlen : (bytesRows s).length = s.size := by simp [bytesRows]
  have hsl := Lib.strCells_length s
  have hf := fun W => Lib.run_firstCells_string (P := P) W 1 s
  have hb2 : ∀ n, n ≤ 1073741824 → n * inf.bytes ≤ 140737488355328 := fun n hn => by
    have : n * inf.bytes ≤ 1073741824 * 4096 := Nat.mul_le_mul hn hby
    omega
  refine ⟨fun row hrow => ?_, fun h0 tyc A' n' cap' hle => ?_, fun h0 => ⟨Lib.strCells s, by rw [hlen, h1, hsl]; omega, Lib.strCells_oneCell s, fun i j row x hi hj => ?_, fun tyc base v n xs hown hbase hle => ?_, fun tyc A0 z' hz' hle => ?_⟩⟩
  · obtain ⟨i, hi⟩ := List.mem_iff_getElem?.1 hrow
    obtain ⟨c, _, rfl⟩ := bytes_get hi
    simp [h1]
  · have hs0 : s.size = 0 := by rw [← hlen, h0]; rfl
    have hs1 : Lib.strCells s = [] := List.eq_nil_of_length_eq_zero (by rw [hsl]; exact hs0)
    have hf0 := hf w
    rw [hs0, hs1] at hf0
    cases A' with
    | none => simp [Builtin.append_, run_underlying hu, run_underlying hus, sizeOf, typeInfo, hinf, hsz, Builtin.lenOf, hs0, hf0, hle]
    | some b => simp [Builtin.append_, run_underlying hu, run_underlying hus, sizeOf, typeInfo, hinf, hsz, Builtin.lenOf, hs0, hf0, hle, storeCells]
  · obtain ⟨c, hc, rfl⟩ := bytes_get hi
    have hj0 : j = 0 := by cases j with | zero => rfl | succ j => simp at hj
    subst hj0
    simp at hj
    subst hj
    refine ⟨.int .u8 c.toNat, ?_, .ro .int, rfl⟩
    rw [h1]
    simp only [Nat.mul_one, Nat.add_zero, Lib.strCells, List.getElem?_map]
    rw [hc]; rfl
  · rw [h1] at hown ⊢
    rw [hlen] at hle ⊢
    have hxl : xs.length = n := by simpa using hown.1
    have hs0 : s.size ≠ 0 := fun e => h0 (List.eq_nil_of_length_eq_zero (by rw [hlen]; exact e))
    have hl2 : (xs ++ Lib.strCells s).length = (n + s.size) * 1 := by rw [List.length_append, hxl, hsl, Nat.mul_one]
    have grown : ∀ (old : Nat), old < n + s.size → ∀ (row : Option Nat),
        (w.drew.alloc (.cells (xs.toArray ++ (Lib.strCells s).toArray ++ Builtin.zeroCells z.cells (grownCap w (n + s.size) old e - (n + s.size))) e)).ownsRow base e 1
          (.slice (some ⟨w.heap.size, 0, none⟩) (n + s.size) (grownCap w (n + s.size) old e)) (n + s.size) (xs ++ Lib.strCells s) ∧
        w.grownBy (w.drew.alloc (.cells (xs.toArray ++ (Lib.strCells s).toArray ++ Builtin.zeroCells z.cells (grownCap w (n + s.size) old e - (n + s.size))) e)) row := by
      intro old ho row
      have hge := grownCap_ge w (n + s.size) old e
      have hcm : grownCap w (n + s.size) old e ≤ maxLen := grownCap_le_maxLen w (n + s.size) old e (by unfold maxLen; omega)
      refine ⟨⟨hl2, .inr ⟨w.heap.size, _, _, rfl, hbase, heap_alloc_new w.drew _, hge, hcm, ?_, ?_⟩⟩, ⟨rfl, rfl, rfl, by simp, fun k hk _ => heap_alloc_old w.drew _ hk⟩⟩
      · simp only [Array.size_append, List.size_toArray, size_zeroCells, hzs, hsz, hxl, hsl]
        omega
      · simp only [Array.toList_append, List.append_assoc]
        rw [← List.append_assoc, ← hl2]
        exact List.take_left
    rcases hown.2 with ⟨rfl, rfl⟩ | ⟨g, cap, cur, rfl, hbg, hg, hnc, hcm, hcs, htake⟩
    · have hx : xs = [] := List.eq_nil_of_length_eq_zero hxl
      subst hx
      have hr := run_append_nil_string (P := P) w t u tyc e inf z hu hus hinf hz s (by omega) (by omega) (by have := hb2 s.size (by omega); omega)
      have hgr := grown 0 (by omega) (Value.ownBlock (.slice none 0 0))
      simp only [Nat.zero_add, List.nil_append, Array.empty_append] at hgr ⊢
      have e1 : (s.data.map fun b => Value.int .u8 b.toNat) = (Lib.strCells s).toArray := by
        apply Array.ext'
        simp [Lib.strCells]
      rw [e1] at hr
      exact ⟨_, _, hr, hgr.1, hgr.2, .inr rfl⟩
    · by_cases hroom : n + s.size ≤ cap
      · have hcs' : cur.size = cap := by simpa using hcs
        have hr := Lib.run_append_room_string (P := P) w t u tyc e inf hu hus hinf hsz g n cap cur hg s hroom (by omega)
        refine ⟨_, _, hr, ⟨hl2, .inr ⟨g, cap, _, rfl, hbg, setRow_heap w g cur _ e _ hg, hroom, hcm, ?_, ?_⟩⟩, ⟨rfl, rfl, rfl, by simp, fun k _ hk => setRow_other w g k _ (fun e => hk (by simp [Value.ownBlock, e]))⟩, .inl rfl⟩
        · simp only [List.size_toArray, List.length_append, List.length_take, List.length_drop, Array.length_toList, hsl]
          omega
        · have ht' : cur.toList.take n = xs := by simpa using htake
          rw [ht', ← hl2]
          exact List.take_left
      · have holds : ∀ (j : Nat) u, xs[j]? = some u → w.cell? ((⟨g, 0, none⟩ : Addr).add j) = some u := hown.cells (g := g) rfl
        have hr := Lib.run_append_grow_string (P := P) w t u tyc e inf z hu hus hinf hz ⟨g, 0, none⟩ n cap xs (by rw [hsz]; simpa using hxl) holds s (by omega) (by omega) (growslice_fits (by omega) (hb2 _ hle))
        have hgr := grown cap (by omega) (Value.ownBlock (.slice (some ⟨g, 0, none⟩) n cap))
        exact ⟨_, _, hr, hgr.1, hgr.2, .inr rfl⟩
  · rw [hinf] at hz'
    simp only [Option.bind_some, hz, Option.some.injEq] at hz'
    subst hz'
    rw [hlen] at hle ⊢
    have hs0 : s.size ≠ 0 := fun e => h0 (List.eq_nil_of_length_eq_zero (by rw [hlen]; exact e))
    cases A0 with
    | none =>
      have hr := run_append_nil_string (P := P) w t u tyc e inf z hu hus hinf hz s (by omega) (by omega) (by have := hb2 s.size (by omega); omega)
      have e1 : (s.data.map fun b => Value.int .u8 b.toNat) = (Lib.strCells s).toArray := by
        apply Array.ext'
        simp [Lib.strCells]
      rw [e1] at hr
      exact hr
    | some b =>
      have hr := Lib.run_append_grow_string (P := P) w t u tyc e inf z hu hus hinf hz b 0 0 [] (by simp) (by simp) s (by omega) (by omega) (by rw [Nat.zero_add]; have := nextslicecap_zero (show 0 < s.size by omega); rw [this]; have := hb2 s.size (by omega); omega)
      simpa using hr
/-- What an append does, whatever it appends to: a nil slice, or one of the call's own. -/
theorem append_core (hr : HR P w0 X w φ G) {t t' id n e m : Nat} {te : Ty} {nb : Bool} {rows ys : List (List AV)} {v yv : Value} {tyc : Nat} (hu : P.underlying t = some (.slice e)) (he : ty P e = some te)
    (hb : G[id]? = some (.row e nb rows)) (hn : rows.length = n) (hv : (v = .slice none 0 0 ∧ n = 0 ∧ φ id = none) ∨ RV P w X φ G (.os id n) v ∧ ∃ g cap, φ id = some g ∧ v = .slice (some ⟨g, 0, none⟩) n cap) (hm : ys.length = m) (hm0 : 0 < m) (hsm : n + m ≤ 1073741824)
    (hS : Src P w X φ G t t' e te yv ys) :
    ∃ v' w' c', (Builtin.append_ #[t, t'] tyc #[v, yv]).run P w = .ok v' w' ∧ HR P w0 X w' (setφ φ id c') (G.set id (.row e nb (rows ++ ys))) ∧ Turn w φ G w' (setφ φ id c') (G.set id (.row e nb (rows ++ ys))) ∧
      RV P w' X (setφ φ id c') (G.set id (.row e nb (rows ++ ys))) (.os id (n + m)) v' := by
  obtain ⟨inf, z, d, pl, es, hi, hud, hz, hzs, hpos, hone, hby, _, hte⟩ := (ty_is he).ex
  have hsz : te.sz = inf.size := by rw [hte, descTy_sz]
  have hce : P.cellsOf e = te.sz := ty_cells he
  have hid : id < G.length := (List.getElem?_eq_some_iff.1 hb).1
  -- the values that are appended
  have hal := hS.al
  obtain ⟨vs, hvl0, hv1, hys, hruns, _⟩ := hS.som fun e => by subst e; simp at hm; omega
  have hvl : vs.length = m * inf.size := by rw [hvl0, hm, hsz]
  have hbyt : (n + m) * inf.bytes ≤ 140737488355328 := by
    have : (n + m) * inf.bytes ≤ 1073741824 * 4096 := Nat.mul_le_mul hsm hby
    omega
  obtain ⟨xs, hown, hxs⟩ : ∃ xs, w.ownsRow w0.heap.size e inf.size v n xs ∧ ∀ (i j : Nat) row x, rows[i]? = some row → row[j]? = some x → ∃ u, xs[i * te.sz + j]? = some u ∧ u.oneCell' = true ∧ RV P w X φ G x u := by
    rcases hv with ⟨rfl, rfl, _⟩ | ⟨hv, g, cap, hg, rfl⟩
    · refine ⟨[], World.ownsRow_nil w _ e _, fun i j row x hi _ => ?_⟩
      have hnil : rows = [] := List.eq_nil_of_length_eq_zero hn
      subst hnil
      simp at hi
    · cases hv with
      | ro h => cases h
      | os g0 hid hv =>
        rcases (hv e nb rows hb).2 hn.symm with ⟨_, h2, _⟩ | ⟨c2, cap2, cur, h4, h45, h5, h6, h7, h8⟩
        · rw [hg] at h2; simp at h2
        · simp at h45
          obtain ⟨rfl, rfl⟩ := h45
          obtain ⟨cur', k1, k2, k3, k4⟩ := hr.blk id _ g hb hg
          rw [h5] at k1
          simp at k1
          subst k1
          have hle : n * te.sz ≤ cur.size := by rw [hce, hn] at k3; exact k3
          refine ⟨cur.toList.take (n * inf.size), ⟨by simp; rw [← hsz]; omega, .inr ⟨g, cap, cur, rfl, (hr.own id g hg).1, h5, h8, h7, by rw [h6, hce, hsz], rfl⟩⟩, fun i j row x hi hj => ?_⟩
          have hi' : i < rows.length := (List.getElem?_eq_some_iff.1 hi).1
          have hj' : j < te.sz := by rw [← hce, ← k2 row (List.mem_of_getElem? hi)]; exact (List.getElem?_eq_some_iff.1 hj).1
          have hlt := mul_lt hi' hj'
          rw [hn] at hlt
          obtain ⟨q1, q2⟩ := k4 i j row x (cur[i * te.sz + j]'(by omega)) hi hj (by rw [hce]; simp)
          refine ⟨cur[i * te.sz + j]'(by omega), ?_, q2, q1⟩
          rw [List.getElem?_take, ← hsz, if_pos hlt]
          simp
  obtain ⟨v', w', hrun, hown', hgrow, hblk⟩ := hruns tyc w0.heap.size v n xs (by rw [hsz]; exact hown) hr.fr.size (by rw [hm]; exact hsm)
  rw [hm, hsz] at hown'
  -- the block behind it
  obtain ⟨g', cap', cur', rfl, hbase', hg', hnc', hcm', hcs', htake'⟩ : ∃ g' cap' cur', v' = .slice (some ⟨g', 0, none⟩) (n + m) cap' ∧ w0.heap.size ≤ g' ∧ w'.heap[g']? = some (.cells cur' e (0, 0)) ∧ n + m ≤ cap' ∧ cap' ≤ maxLen ∧ cur'.size = cap' * inf.size ∧ cur'.toList.take ((n + m) * inf.size) = xs ++ vs := by
    rcases hown'.2 with ⟨_, h⟩ | h
    · omega
    · exact h
  have hold : ∀ k, k < w.heap.size → (∀ g, φ id = some g → k ≠ g) → w'.heap[k]? = w.heap[k]? := fun k hk hne => by
    refine hgrow.block k hk fun e => ?_
    rcases hv with ⟨rfl, _, _⟩ | ⟨_, g, cap, hg, rfl⟩
    · simp [Value.ownBlock] at e
    · simp [Value.ownBlock] at e
      exact hne g hg e
  have hg'n : φ id = some g' ∨ g' = w.heap.size := by
    rcases hblk with h | h
    · rcases hv with ⟨rfl, _, _⟩ | ⟨_, g, cap, hg, rfl⟩
      · simp [Value.ownBlock] at h
      · simp [Value.ownBlock] at h
        rw [h]; exact .inl hg
    · simp [Value.ownBlock] at h
      exact .inr h
  have hg'other : ∀ i c, i ≠ id → φ i = some c → c ≠ g' := fun i c hne hc e => by
    rcases hg'n with h | h
    · exact hne (hr.inj i id c hc (by rw [e]; exact h))
    · have := (hr.own i c hc).2.1; omega
  have hset : ∀ i, i ≠ id → (G.set id (.row e nb (rows ++ ys)))[i]? = G[i]? := fun i hne => List.getElem?_set_ne (fun h => hne h.symm)
  have hself : (G.set id (.row e nb (rows ++ ys)))[id]? = some (.row e nb (rows ++ ys)) := by rw [List.getElem?_set]; simp [hid]
  have hT : Turn w φ G w' (setφ φ id g') (G.set id (.row e nb (rows ++ ys))) := {
    size := hgrow.size
    len := by simp
    old := fun b hb' hl => ⟨hold b hl (fun g hg e => hb' id (by rw [e]; exact hg)), fun i hi => by
      unfold setφ at hi
      split at hi
      · simp at hi
        rcases hg'n with h | h
        · exact hb' id (by rw [h, hi])
        · omega
      · exact hb' i hi⟩
    box := fun i t' cs' _ h => by
      by_cases hi : i = id
      · subst hi; rw [hself] at h; simp at h
      · rw [hset i hi] at h; exact ⟨cs', h, fun c hc => by simp [setφ, hi, hc]⟩
    row := fun i e' nb' rows' _ h => by
      by_cases hi : i = id
      · subst hi
        rw [hself] at h
        simp at h
        obtain ⟨rfl, rfl, rfl⟩ := h
        exact ⟨rows, hb, by simp, fun hl => by simp at hl; subst hl; simp at hm; omega⟩
      · rw [hset i hi] at h
        refine ⟨rows', h, Nat.le_refl _, fun _ => ⟨fun _ hp => by simp [setφ, hi, hp], fun c hc => ⟨by simp [setφ, hi, hc], fun cur hcur => ⟨cur, ?_, rfl⟩⟩⟩⟩
        rw [hold c (hr.own i c hc).2.1 (fun g hg e => hi (hr.inj i id c hc (by rw [e]; exact hg)))]
        exact hcur
    map := fun i es' _ h => by
      by_cases hi : i = id
      · subst hi; rw [hself] at h; simp at h
      · rw [hset i hi] at h; exact ⟨es', h, fun c hc => by simp [setφ, hi, hc]⟩ }
  have hg'lt : g' < w'.heap.size := (Array.getElem?_eq_some_iff.1 hg').1
  refine ⟨_, w', g', hrun, ⟨hr.vo, ?_, ext_turn hr hT, fun i c hc => ?_, fun i j c hi hj => ?_, fun i b c hi hc => ?_⟩, hT, .os rfl (by simp; exact hid) fun e2 nb2 rows2 h2 => ?_⟩
  · refine hr.fr.grown hgrow hr.fr.size fun k hk => ?_
    rcases hv with ⟨rfl, _, _⟩ | ⟨_, g, cap, hg, rfl⟩
    · simp [Value.ownBlock] at hk
    · simp [Value.ownBlock] at hk
      have := (hr.own id g hg).1; omega
  · unfold setφ at hc
    split at hc
    · rename_i hi
      simp at hc
      subst hc hi
      exact ⟨hbase', hg'lt, by simp; exact hid⟩
    · have := hr.own i c hc
      have := hgrow.size
      simp; omega
  · unfold setφ at hi hj
    split at hi <;> split at hj
    · subst_vars; rfl
    · rename_i h1 h2; simp at hi; subst hi; exact absurd rfl (hg'other j _ h2 hj)
    · rename_i h1 h2; simp at hj; subst hj; exact absurd rfl (hg'other i _ h1 hi)
    · exact hr.inj i j c hi hj
  · by_cases h : i = id
    · subst h
      rw [hself] at hi
      simp at hi
      subst hi
      simp [setφ] at hc
      subst hc
      refine ⟨cur', hg', ?_, ?_, fun i' j row x u h1 h2 h3 => ?_⟩
      · intro row hrow
        rw [List.mem_append] at hrow
        rcases hrow with h | h
        · rcases hv with ⟨_, h0, _⟩ | ⟨_, g, cap, hg, _⟩
          · rw [h0] at hn; rw [List.eq_nil_of_length_eq_zero hn] at h; simp at h
          · obtain ⟨_, _, k2, _⟩ := hr.blk _ _ g hb hg
            exact k2 row h
        · rw [hce]; exact hal row h
      · rw [hce, hsz, hcs', List.length_append, hn, hm]; exact Nat.mul_le_mul_right _ hnc'
      · rw [hce] at h3
        have hxl : xs.length = n * te.sz := by rw [hown.1, hsz]
        have hi' : i' < n + m := by have := (List.getElem?_eq_some_iff.1 h1).1; simp at this; omega
        have hjl : j < te.sz := by
          have hj := (List.getElem?_eq_some_iff.1 h2).1
          have hmem := List.mem_of_getElem? h1
          rw [List.mem_append] at hmem
          rcases hmem with hmem | hmem
          · rcases hv with ⟨_, h0, _⟩ | ⟨_, g, cap, hg, _⟩
            · rw [h0] at hn; rw [List.eq_nil_of_length_eq_zero hn] at hmem; simp at hmem
            · obtain ⟨_, _, k2, _⟩ := hr.blk _ _ g hb hg
              rw [← hce, ← k2 row hmem]; exact hj
          · rw [← hal row hmem]; exact hj
        have hlt := mul_lt hi' hjl
        have h4 : (xs ++ vs)[i' * te.sz + j]? = some u := by
          rw [← htake', List.getElem?_take, ← hsz, if_pos hlt]
          simpa using h3
        by_cases hin : i' < n
        · rw [List.getElem?_append_left (by omega)] at h1
          have h5 := mul_lt hin hjl
          rw [List.getElem?_append_left (by omega)] at h4
          obtain ⟨u', q1, q2, q3⟩ := hxs i' j row x h1 h2
          rw [q1] at h4
          simp at h4
          subst h4
          exact ⟨q3.turn hT, q2⟩
        · rw [List.getElem?_append_right (by omega), hn] at h1
          have h5 : n * te.sz ≤ i' * te.sz := Nat.mul_le_mul_right _ (by omega)
          rw [List.getElem?_append_right (by omega), hxl] at h4
          obtain ⟨u', q1, q2, q3⟩ := hys (i' - n) j row x h1 h2
          rw [show i' * te.sz + j - n * te.sz = (i' - n) * te.sz + j by rw [Nat.sub_mul]; omega] at h4
          rw [q1] at h4
          simp at h4
          subst h4
          exact ⟨q2.turn hT, q3⟩
    · rw [hset i h] at hi
      have hc' : φ i = some c := by simpa [setφ, h] using hc
      exact (hr.blk i b c hi hc').turn hT (hold c (hr.own i c hc').2.1 (fun g hg e => h (hr.inj i id c hc' (by rw [e]; exact hg))))
  · rw [hself] at h2
    simp at h2
    obtain ⟨rfl, rfl, rfl⟩ := h2
    exact ⟨by simp; omega, fun _ => .inr ⟨g', cap', cur', by simp [setφ], rfl, hg', by rw [hcs', hce, hsz], hcm', hnc'⟩⟩
theorem append_core2 (hr : HR P w0 X w φ G) {t t' id n e m : Nat} {te : Ty} {nb : Bool} {rows ys : List (List AV)} {v yv : Value} {tyc : Nat} (hu : P.underlying t = some (.slice e)) (he : ty P e = some te)
    (hb : G[id]? = some (.row e nb rows)) (hn : rows.length = n) (hv : ((∃ A, v = .slice A 0 0) ∧ n = 0 ∧ φ id = none) ∨ RV P w X φ G (.os id n) v ∧ ∃ g cap, φ id = some g ∧ v = .slice (some ⟨g, 0, none⟩) n cap) (hm : ys.length = m) (hm0 : 0 < m) (hsm : n + m ≤ 1073741824)
    (hS : Src P w X φ G t t' e te yv ys) :
    ∃ v' w' c', (Builtin.append_ #[t, t'] tyc #[v, yv]).run P w = .ok v' w' ∧ HR P w0 X w' (setφ φ id c') (G.set id (.row e nb (rows ++ ys))) ∧ Turn w φ G w' (setφ φ id c') (G.set id (.row e nb (rows ++ ys))) ∧
      RV P w' X (setφ φ id c') (G.set id (.row e nb (rows ++ ys))) (.os id (n + m)) v' := by
  rcases hv with ⟨⟨A, rfl⟩, h0, hφ⟩ | hv
  · obtain ⟨inf, z, d, pl, es, hinf, _, hz, hzs, hpos, _, hby, _, hte⟩ := (ty_is he).ex
    obtain ⟨news, _, _, _, _, e1⟩ := hS.som fun e => by subst e; simp at hm; omega
    have e2 := fun A => e1 tyc A z (by rw [hinf]; exact hz) (by omega)
    obtain ⟨v', w', c', k1, k2⟩ := append_core (tyc := tyc) (v := .slice none 0 0) hr hu he hb hn (.inl ⟨rfl, h0, hφ⟩) hm hm0 hsm hS
    exact ⟨v', w', c', (e2 A).trans ((e2 none).symm.trans k1), k2⟩
  · exact append_core hr hu he hb hn (.inr hv) hm hm0 hsm hS
end
end Go.Proofs.Ytnldjmokemgaoaa
