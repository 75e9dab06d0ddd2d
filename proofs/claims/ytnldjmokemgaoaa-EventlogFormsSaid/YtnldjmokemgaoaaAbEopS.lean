/- Every operation that calls no function: what the abstract machine says of it holds in the model (the theorem eop_sound). -/
import Derived.Test.YtnldjmokemgaoaaAbMapS
import Derived.Carry
import Derived.Lib.ConvBytes
import Derived.Laws.BytesArg
import Derived.Laws.IdiomStrings
namespace Go.Proofs.Ytnldjmokemgaoaa
set_option linter.unusedSimpArgs false
set_option linter.unusedVariables false
set_option linter.unnecessarySimpa false
set_option linter.unusedSectionVars false
open Go.RowKit
variable [Glob]

section
variable {P : Program} {w0 w : World} {X : Nat → Prop} {φ : Nat → Option Nat} {G H : List Blk} {T : List (Nat × AV)} {a : Act}
theorem flat_field {t : TypeId} {i : Ty} {f off ft : Nat} (hi : ty P t = some i) (hf : i.flds[f]? = some (off, ft)) : ∃ fs fl, P.underlying t = some (.struct fs) ∧ fs[f]? = some fl ∧ fl.offset = off ∧ fl.type = ft := ty_fld hi hf
/-- A step inside a pointer. -/
theorem shift_sound {x y : AV} {k : Nat} {v : Value} (h : shift G x k = some y) (hx : RV P w X φ G x v) : ∃ b, v = .pointer (some b) ∧ RV P w X φ G y (.pointer (some (b.add k))) := by
  cases x with
  | rp row =>
    simp [shift] at h
    subst h
    cases hx with
    | ro h => cases h with
      | @rp _ b f hb hxx hc h =>
        refine ⟨b, rfl, .ro (.rp (fun j => f (k + j)) (by rw [add_block]; exact hb) (by rw [add_block]; exact hxx) (fun j x hj => ?_) (fun j x hj => ?_))⟩
        · rw [List.getElem?_drop] at hj
          rw [add_add]
          exact hc _ x hj
        · rw [List.getElem?_drop] at hj
          exact h _ x hj
  | op id o =>
    simp only [shift] at h
    split at h
    · rename_i t cs hb
      simp at h
      subst h
      cases hx with
      | ro h => cases h
      | op h0 hid hv =>
        obtain ⟨c, hc, rfl⟩ := hv t cs hb
        refine ⟨_, rfl, .op rfl hid fun t' cs' hb' => ⟨c, hc, by rw [add_noneA]⟩⟩
    · simp at h
  | ep id n i o =>
    simp only [shift] at h
    split at h
    · rename_i e nb rows hb
      split at h
      · rename_i hn
        simp at h
        subst h
        cases hx with
        | ro h => cases h
        | ep h0 hid hv =>
          obtain ⟨c, hc, rfl⟩ := (hv e nb rows hb).2 hn.symm
          refine ⟨_, rfl, .ep rfl hid fun e' nb' rows' hb' => ?_⟩
          rw [hb] at hb'
          simp at hb'
          obtain ⟨rfl, rfl, rfl⟩ := hb'
          exact ⟨by omega, fun _ => ⟨c, hc, by rw [add_noneA, Nat.add_assoc]⟩⟩
      · simp at h
    · simp at h
  | _ => simp [shift] at h
theorem subSl_sound {sz : Nat} {rows : List (List AV)} {lo hi : Int} {y : AV} {A : Option Addr} {cap : Nat} (h : subSl sz rows lo hi = some y) (hx : RV P w X φ G (.rs rows) (.slice A rows.length cap)) {cap' : Nat} {A' : Option Addr}
    (hA : A' = A.map (·.add (lo.toNat * sz)) ∨ (hi = lo ∧ A' = A)) (hcc : hi.toNat - lo.toNat ≤ cap') : RV P w X φ G y (.slice A' (hi.toNat - lo.toNat) cap') := by
  unfold subSl at h
  split at h
  · rename_i hc
    obtain ⟨h1, h2, h3, h4⟩ := hc
    simp at h
    subst h
    have hal := allLen_mem h4
    cases hx with
    | ro hx => cases hx with
      | rs szr f hn hcap hAA hx =>
        refine .ro (.rs sz (fun i j => f (lo.toNat + i) j) (by simp; omega) hcc (fun i row hi' => ?_) (fun i j row x hi' hj => ?_))
        · rw [List.getElem?_take] at hi'
          split at hi'
          · rw [List.getElem?_drop] at hi'
            obtain ⟨k1, b, k2, k3, k4, k5⟩ := hAA _ row hi'
            have hl := hal row (List.mem_of_getElem? hi')
            have hs : szr = sz := by omega
            subst hs
            rcases hA with rfl | ⟨e, _⟩
            · refine ⟨k1, _, by rw [k2]; rfl, by rw [add_block]; exact k3, by rw [add_block]; exact k4, fun j hj => ?_⟩
              rw [add_add, show lo.toNat * szr + (i * szr + j) = (lo.toNat + i) * szr + j by rw [Nat.add_mul]; omega]
              exact k5 j hj
            · omega
          · simp at hi'
        · rw [List.getElem?_take] at hi'
          split at hi'
          · rw [List.getElem?_drop] at hi'
            exact hx _ j row x hi' hj
          · simp at hi'
  · simp at h
theorem eqAgg_sound {op : BinOp} {t : TypeId} {x y : Operand} {l l' : List AV} {v : AV} {xs ys : Array Value} (h : eqAgg (eqKindsN P t) op l l' = some v) (hx : ∀ (j : Nat) x, l[j]? = some x → ∃ u, xs[j]? = some u ∧ RV P w X φ G x u) (hy : ∀ (j : Nat) x, l'[j]? = some x → ∃ u, ys[j]? = some u ∧ RV P w X φ G x u) :
    ∃ u, (do eqGuard op t x y (.agg xs) (.agg ys); binOp op t (.agg xs) (.agg ys) : Sem Value).run P w = .ok u w ∧ RV P w X φ G v u := by
  unfold eqAgg at h
  split at h
  · rename_i ks hks
    split at h
    · rename_i b hb
      have hrun : (Op.equalIn 10000 t (.agg xs) (.agg ys)).run P w = .ok b w ∧ P.eqGuardType P.depth t = false := by
        unfold eqKindsN at hks
        split at hks
        · rename_i ks' hk1
          cases hks
          unfold eqKinds at hk1
          split at hk1
          · rename_i fs hD
            split at hk1
            · rename_i hc
              obtain ⟨c1, c2, c3⟩ := hc
              have hfs : P.fieldsOf t = fs := by simp [Program.fieldsOf, hD]
              refine ⟨?_, c2⟩
              rw [run_equalIn_agg w 9999 t xs ys (by rw [hfs]; exact hD) c1, hfs]
              exact eqf_sound (d := 9998) fs.toList ks 0 l l' b hk1 c3 hb (by simpa using hx) (by simpa using hy)
            · cases hk1
          · cases hk1
        · split at hks
          · rename_i fs hD
            split at hks
            · rename_i hc
              have hfs : P.fieldsOf t = fs := by simp [Program.fieldsOf, hD]
              refine ⟨?_, hc.2⟩
              rw [run_equalIn_agg w 9999 t xs ys (by rw [hfs]; exact hD) hc.1, hfs]
              exact deepF_sound (d := 9997) fs.toList ks 0 l l' b hks hb (by simpa using hx) (by simpa using hy)
            · cases hks
          · cases hks
      obtain ⟨hrun, c2⟩ := hrun
      simp only [Sem.run_bind, run_eqGuard_agg w op t x y xs ys c2, Result.andThen_ok]
      cases op <;> simp at h
      · subst h
        exact ⟨.bool b, by rw [run_eql_struct, hrun]; rfl, .ro .bool⟩
      · subst h
        exact ⟨.bool !b, by rw [run_neq_struct, hrun]; rfl, .ro .bool⟩
    · simp at h
  · simp at h
theorem slice_form {sz : Nat} {x : AV} {rows : List (List AV)} {v : Value} (h : elems G sz x = some rows) (hx : RV P w X φ G x v) : ∃ A n c, v = .slice A n c := by
  cases x with
  | rs r => obtain ⟨A, cap, h1, _⟩ := hx.rs_inv; exact ⟨A, _, cap, h1⟩
  | nils => exact ⟨none, 0, 0, hx.nils_inv⟩
  | nilc => obtain ⟨A, h1⟩ := hx.nilc_inv; exact ⟨A, 0, 0, h1⟩
  | os id n =>
    simp only [elems] at h
    split at h
    · rename_i e nb rws hb
      split at h
      · rename_i hc
        cases hx with
        | ro h => cases h
        | os g0 hid hv =>
          rcases (hv e nb rws hb).2 hc.1.symm with ⟨_, _, ⟨A, rfl⟩, _⟩ | ⟨c, cap, cur, _, rfl, _⟩
          · exact ⟨A, 0, 0, rfl⟩
          · exact ⟨_, n, cap, rfl⟩
      · simp at h
    · simp at h
  | _ => simp [elems] at h
theorem fill_rows (sz : Nat) : ∀ (ps : List (Nat × Operand)) (k : Nat) (rows : List (List AV)) (cs : List AV), ps.map (fun (p : Nat × Operand) => p.1) = List.range' k ps.length → ps.mapM (fun (p : Nat × Operand) => cellsN sz (ev T p.2)) = some rows →
    cs.length = (k + ps.length) * sz → fillA (fun i => some (i * sz, sz)) cs (ps.map fun p => (p.1, ev T p.2)) = some (cs.take (k * sz) ++ rows.flatten) := by
  intro ps
  induction ps with
  | nil =>
    intro k rows cs _ h hl
    simp at h
    subst h
    simp at hl
    simp only [List.map_nil, fillA, List.flatten_nil, List.append_nil]
    rw [List.take_of_length_le (by omega)]
  | cons p ps ih =>
    intro k rows cs hk h hl
    simp only [List.map_cons, List.length_cons, List.range'_succ, List.cons.injEq] at hk
    obtain ⟨hk1, hk2⟩ := hk
    rw [List.mapM_cons] at h
    cases hx : cellsN sz (ev T p.2) with
    | none => simp [hx] at h
    | some row =>
      cases hr : ps.mapM (fun (p : Nat × Operand) => cellsN sz (ev T p.2)) with
      | none => simp [hx, hr] at h
      | some rest =>
        simp [hx, hr] at h
        subst h
        have hrl := (cellsN_spec hx).2
        have e1 : (k + (ps.length + 1)) * sz = k * sz + sz + ps.length * sz := by rw [Nat.add_mul, Nat.add_mul]; omega
        simp only [List.length_cons] at hl
        simp only [List.map_cons, fillA, hk1, hx]
        have ho : over cs (k * sz) row = some (cs.take (k * sz) ++ row ++ cs.drop (k * sz + row.length)) := by
          unfold over; rw [if_pos (by omega)]
        rw [ho]
        have := ih (k + 1) rest (cs.take (k * sz) ++ row ++ cs.drop (k * sz + row.length)) (by simpa using hk2) hr (by simp [hrl]; rw [hl, e1, Nat.add_mul, Nat.add_mul]; omega)
        simp only [] at this ⊢
        rw [this]
        congr 1
        have e2 : (k + 1) * sz = k * sz + sz := by rw [Nat.add_mul]; omega
        rw [List.take_append_of_le_length (by simp [hrl]; omega), e2]
        rw [List.take_of_length_le (by simp [hrl]; omega)]
        simp
theorem flatten_get {sz : Nat} : ∀ {rows : List (List AV)}, (∀ row ∈ rows, row.length = sz) → ∀ (k j : Nat) row x, rows[k]? = some row → row[j]? = some x → rows.flatten[k * sz + j]? = some x := by
  intro rows
  induction rows with
  | nil => intro _ k j row x h; simp at h
  | cons r rows ih =>
    intro hal k j row x hk hj
    have hr := hal r (by simp)
    rw [List.flatten_cons]
    cases k with
    | zero =>
      simp at hk
      subst hk
      have := (List.getElem?_eq_some_iff.1 hj).1
      rw [List.getElem?_append_left (by omega)]
      simpa using hj
    | succ k =>
      rw [List.getElem?_append_right (by rw [Nat.add_mul]; omega)]
      rw [show (k + 1) * sz + j - r.length = k * sz + j by rw [Nat.add_mul]; omega]
      exact ih (fun row hm => hal row (by simp [hm])) k j row x (by simpa using hk) hj
theorem row_build {t len : Nat} {i te : Ty} (hi : ty P t = some i) (hu : P.underlying t = some (.slice i.elem)) (he : ty P i.elem = some te) (parts : Array (Nat × Operand)) (hl : parts.toList.map (fun (p : Nat × Operand) => p.1) = List.range len) (rows : List (List AV))
    (hrows : parts.toList.mapM (fun (p : Nat × Operand) => cellsN te.sz (ev T p.2)) = some rows) (hev : ∀ p ∈ parts.toList, RV P w X φ G (ev T p.2) (a.eval p.2)) (hlen : len ≤ 1000) (hsz : te.sz ≤ 1000) :
    ∃ us : Array Value, (Instr.buildSlice t len (parts.map fun (p : Nat × Operand) => (p.1, a.eval p.2))).run P w = .ok (.slice (some ⟨w.heap.size, 0, none⟩) len len) (w.alloc (.cells us i.elem)) ∧ us.size = len * te.sz ∧
      ∀ (k j : Nat) row x u, rows[k]? = some row → row[j]? = some x → us[k * te.sz + j]? = some u → RV P w X φ G x u ∧ u.oneCell' = true := by
  obtain ⟨z, z1, z2, z3, z4⟩ := zero_sound he w
  have hpl : parts.toList.length = len := by have := congrArg List.length hl; simpa using this
  obtain ⟨m1, m2⟩ := mapM_spec hrows
  have hrl : ∀ row ∈ rows, row.length = te.sz := fun row hm => by
    obtain ⟨j, hj, rfl⟩ := List.getElem_of_mem hm
    obtain ⟨y, q1, q2⟩ := m2 j (parts.toList[j]'(by omega)) (by simp)
    simp [hj] at q1
    rw [q1]
    exact (cellsN_spec q2).2
  -- the cells before they are filled
  obtain ⟨vs, hvs⟩ : ∃ vs : Array Value, vs = (Array.range (len * te.sz)).map (z.cells[· % z.cells.size]!) := ⟨_, rfl⟩
  have hvsz : vs.size = len * te.sz := by rw [hvs]; simp
  have hfa := fill_rows (T := T) te.sz parts.toList 0 rows (List.replicate (len * te.sz) .any) (by rw [hl, hpl, List.range_eq_range']) hrows (by simp [hpl])
  simp only [Nat.zero_mul, List.take_zero, List.nil_append] at hfa
  have hv1 : ∀ u ∈ vs.toList, u.oneCell' = true := fun u hu => by
    rw [hvs] at hu
    simp at hu
    obtain ⟨j, hj, rfl⟩ := hu
    have hp := ty_pos he
    have hlt : j % z.cells.size < z.cells.size := Nat.mod_lt _ (by omega)
    rw [getElem!_pos z.cells _ hlt]
    exact z3 _ (by simp)
  obtain ⟨us, k1, k2, k3, k4⟩ := fill_sound (P := P) (w := w) (X := X) (φ := φ) (G := G) (T := T) (a := a) he _ parts.toList _ vs rows.flatten hfa hev (by simp [hvsz]) hv1 (fun j x u hx _ => by
    rw [List.getElem?_replicate] at hx
    split at hx
    · simp at hx; subst hx; exact .ro .any
    · simp at hx)
  have hflen : rows.flatten.length = len * te.sz := by
    have : ∀ (l : List (List AV)), (∀ r ∈ l, r.length = te.sz) → l.flatten.length = l.length * te.sz := by
      intro l; induction l with
      | nil => simp
      | cons r l ih => intro h; rw [List.flatten_cons, List.length_append, ih (fun r hr => h r (by simp [hr])), h r (by simp), List.length_cons, Nat.add_mul]; omega
    rw [this rows hrl, m1, hpl]
  refine ⟨us, ?_, by rw [← k2]; exact hflen, fun k j row x u h1 h2 h3 => ⟨k4 _ x u (flatten_get hrl k j row x h1 h2) h3, k3 u (List.mem_of_getElem? (by simpa using h3))⟩⟩
  have hbig : ¬ (len * te.sz > 2 ^ 24) := by
    have : len * te.sz ≤ 1000 * 1000 := Nat.mul_le_mul hlen hsz
    omega
  have hparts : (parts.map fun (p : Nat × Operand) => (p.1, a.eval p.2)).toList = parts.toList.map fun p => (p.1, a.eval p.2) := by simp
  by_cases h0 : len * te.sz = 0
  · have hp := ty_pos he
    have hl0 : len = 0 := by rcases Nat.mul_eq_zero.1 h0 with h | h <;> omega
    have hp0 : parts.toList = [] := List.eq_nil_of_length_eq_zero (by omega)
    have hvs0 : vs = (Array.range 0).map (z.cells[· % z.cells.size]!) := by rw [hvs, h0]
    have hus : us = vs := by rw [hp0] at k1; simpa [Instr.fill] using k1.symm
    have hv0 : vs = #[] := Array.eq_empty_of_size_eq_zero (by rw [hvsz, h0])
    simp only [Instr.buildSlice, Sem.run_bind, run_underlying hu, run_sizeOf_ty he, Result.andThen_ok, if_neg hbig, h0, if_true, hparts, hp0, List.map_nil, Instr.fill, Sem.run_pure]
    rw [hus, hv0]
    simp [newRow, Array.range_zero']
  · simp only [Instr.buildSlice, Sem.run_bind, run_underlying hu, run_sizeOf_ty he, Result.andThen_ok, if_neg hbig, if_neg h0, z1, Sem.run_pure, hparts]
    rw [← hvs, k1]
    simp [newRow]
theorem bytesWorld_below (w : World) (e : TypeId) (b : ByteArray) : Below w.heap.size w (Lib.bytesWorld w e b) := by
  have h1 : Below w.heap.size w (w.drew.alloc (.cells (Lib.bytesCells w e b) e)) := ((Below.refl _ _).drew).alloc (by simp) _
  exact ⟨h1.os, h1.tape, h1.output, by rw [Lib.bytesWorld_size]; omega, fun k hk => Lib.bytesWorld_at_old w e b k hk⟩
theorem unbytes_spec : ∀ {rows : List (List AV)} {q : List UInt8}, unbytes rows = some q → ∃ xs : List Int, q = xs.map (fun n => UInt8.ofNat n.toNat) ∧ rows = xs.map fun n => [.int .u8 n] := by
  intro rows
  induction rows with
  | nil => intro q h; simp [unbytes] at h; subst h; exact ⟨[], rfl, rfl⟩
  | cons r rows ih =>
    intro q h
    simp only [unbytes] at h
    split at h
    · rename_i n q' hq'
      simp at h
      subst h
      obtain ⟨xs, k1, k2⟩ := ih hq'
      exact ⟨n :: xs, by simp [k1], by simp [k2]⟩
    · simp at h
set_option maxHeartbeats 2000000 in
/-- Every operation that calls no function. -/
theorem eop_sound {o : Oper} {v : AV} {u : Upd} (hr : HR P w0 X w φ G) (h : eop P o ⟨T, H⟩ = some (v, u)) (hev : ∀ x ∈ o.op.operands.toList, RV P w X φ G (ev T x) (a.eval x))
    (hG : sens o.op = true → ∀ (id : Nat) b, H[id]? = some b → G[id]? = some b) (hnew : ∀ b, u = .new b → G[H.length]? = some b ∧ φ H.length = none) : Eff P w0 X φ G w u H.length v ((execOp a.eval o).run P w) := by
  obtain ⟨dst, op, tyo, pos, after, guard⟩ := o
  cases op
  case move x =>
    simp [eop] at h
    obtain ⟨rfl, rfl⟩ := h
    exact eff_pure hr (x := a.eval x) (by simp [execOp]) (hev x (by simp [Op.operands]))
  case assign x =>
    simp [eop] at h
    obtain ⟨rfl, rfl⟩ := h
    exact eff_pure hr (x := a.eval x) (by simp [execOp]) (hev x (by simp [Op.operands]))
  case pick c x y =>
    simp only [eop] at h
    split at h
    · rename_i b hb
      simp at h
      obtain ⟨rfl, rfl⟩ := h
      have hc := hev c (by simp [Op.operands])
      rw [hb] at hc
      have hx := hev x (by simp [Op.operands])
      have hy := hev y (by simp [Op.operands])
      cases b
      · exact eff_pure hr (x := a.eval y) (by simp [execOp, hc.bool_inv, asBool]) (by simpa using hy)
      · exact eff_pure hr (x := a.eval x) (by simp [execOp, hc.bool_inv, asBool]) (by simpa using hx)
    · simp at h
  case alloc t =>
    simp only [eop] at h
    split at h
    · rename_i i hi
      simp at h
      obtain ⟨rfl, rfl⟩ := h
      obtain ⟨hb, hφ⟩ := hnew _ rfl
      obtain ⟨z, z1, z2, z3, z4⟩ := zero_sound hi w
      exact newVar_sound hr (v := z) (by rw [z2, ty_zlen hi]) z3 (fun j x u hx hu => z4 w X φ G j x u hx hu) hb hφ (by simp [execOp, Instr.alloc, z1, newVar, newRow])
    · simp at h
  case box t x =>
    simp only [eop] at h
    split at h
    · rename_i i hi
      split at h
      · rename_i cs hcs
        simp at h
        obtain ⟨rfl, rfl⟩ := h
        obtain ⟨hb, hφ⟩ := hnew _ rfl
        obtain ⟨k1, k2⟩ := cellsN_spec hcs
        obtain ⟨l1, l2, l3⟩ := (hev x (by simp [Op.operands])).cells k1
        exact newVar_sound hr (v := a.eval x) l1 l2 l3 hb hφ (by simp [execOp, Instr.box, newVar, newRow])
      · simp at h
    · simp at h
  case build t parts =>
    simp only [eop] at h
    split at h
    · rename_i i hi
      split at h
      · rename_i hag
        split at h
        · rename_i c hc
          simp at h
          obtain ⟨rfl, rfl⟩ := h
          obtain ⟨us, k1, k2⟩ := build_sound (P := P) (w := w) (X := X) (φ := φ) (G := G) (T := T) (a := a) hi hag hc (fun p hp => hev p.2 (by simp only [Op.operands]; simp; exact ⟨p.1, by simpa using hp⟩))
          refine eff_pure hr (x := .agg us) ?_ k2
          have e : (parts.map fun (x : Nat × Operand) => (x.1, a.eval x.2)) = (parts.toList.map fun p => (p.1, a.eval p.2)).toArray := by rw [← List.map_toArray, Array.toArray_toList]
          simp only [execOp, Sem.run_bind]
          rw [e, k1]
          rfl
        · simp at h
      · simp at h
    · simp at h
  case load t x =>
    simp only [eop] at h
    split at h
    · rename_i i cs hi hcs
      obtain ⟨h1, rfl⟩ := same_spec h
      have hcs := rd_mono (hG rfl) hcs
      obtain ⟨b, k1, k2⟩ := rd_sound hr hcs (hev x (by simp [Op.operands]))
      obtain ⟨u, k3, k4⟩ := load_sound hi k2 h1
      exact eff_pure hr (x := u) (by simp [execOp, Instr.loadAt, k1, Instr.sureAddr, k3]) k4
    · simp at h
  case store t x y =>
    simp only [eop] at h
    split at h
    · rename_i i hi
      split at h
      · rename_i cs hcs
        split at h
        · rename_i u' hu'
          simp at h
          obtain ⟨rfl, rfl⟩ := h
          have hu' := wr_mono (hG rfl) hu'
          obtain ⟨k1, k2⟩ := cellsN_spec hcs
          obtain ⟨l1, l2, l3⟩ := (hev y (by simp [Op.operands])).cells k1
          exact store_sound hr hi hu' (hev x (by simp [Op.operands])) k2 (v := a.eval y) l1 l2 l3 fun b w' h1 h2 => by simp [execOp, Instr.storeAt, h1, Instr.sureAddr, h2]
        · simp at h
      · simp at h
    · simp at h
  case nilCheck x =>
    simp only [eop] at h
    split at h
    · rename_i cs hcs
      simp at h
      obtain ⟨rfl, rfl⟩ := h
      have hx := hev x (by simp [Op.operands])
      obtain ⟨b, k1, _⟩ := rd_sound hr (rd_mono (hG rfl) hcs) hx
      exact eff_pure hr (x := a.eval x) (by simp [execOp, k1]) hx
    · simp at h
  case binOp op t x y ty' =>
    simp only [eop] at h
    have hx := hev x (by simp [Op.operands])
    have hy := hev y (by simp [Op.operands])
    split at h
    · rename_i hnil
      split at h
      · rename_i i hi
        split at h
        · rename_i hsl
          obtain ⟨h1, rfl⟩ := same_spec h
          have hu := ty_sl hi hsl
          have hye : a.eval y = .slice none 0 0 := by
            unfold isNilS at hnil
            split at hnil
            · rfl
            · simp at hnil
          unfold nilCmp at h1
          split at h1
          · rename_i rows hrows
            split at h1
            · simp at h1
            · rename_i hne
              rw [hrows] at hx
              obtain ⟨b, n, cap, hxe⟩ : ∃ b n cap, a.eval x = .slice (some b) n cap := by
                cases hx with
                | ro h => generalize a.eval x = q at h; cases h with
                  | @rs _ A n cap sz f hn hcap hA hxx =>
                    cases rows with
                    | nil => simp at hne
                    | cons r rs =>
                      obtain ⟨_, b, rfl, _⟩ := hA 0 r (by simp)
                      exact ⟨b, n, cap, rfl⟩
              have heq : (Op.equalIn (9999 + 1) t (.slice (some b) n cap) (.slice none 0 0)).run P w = .ok false w := by unfold Op.equalIn; simp [run_underlying hu]
              cases op <;> simp at h1
              · subst h1
                refine eff_pure hr (x := .bool false) ?_ (.ro .bool)
                have e1 : binOp .eql t (.slice (some b) n cap) (.slice none 0 0) = (do pure (.bool (← Op.equalIn (9999 + 1) t (.slice (some b) n cap) (.slice none 0 0)))) := rfl
                simp only [execOp]
                rw [hxe, hye, e1]
                simp only [Sem.run_bind, show (eqGuard .eql t x y (.slice (some b) n cap) (.slice none 0 0)).run P w = .ok () w from rfl, Result.andThen_ok, heq, Sem.run_pure]
              · subst h1
                refine eff_pure hr (x := .bool true) ?_ (.ro .bool)
                have e1 : binOp .neq t (.slice (some b) n cap) (.slice none 0 0) = (do pure (.bool (!(← Op.equalIn (9999 + 1) t (.slice (some b) n cap) (.slice none 0 0))))) := rfl
                simp only [execOp]
                rw [hxe, hye, e1]
                simp only [Sem.run_bind, show (eqGuard .neq t x y (.slice (some b) n cap) (.slice none 0 0)).run P w = .ok () w from rfl, Result.andThen_ok, heq, Sem.run_pure]
                rfl
          · simp at h1
        · simp at h
      · simp at h
    obtain ⟨h1, rfl⟩ := same_spec h
    unfold ebinT at h1
    split at h1
    · rename_i l l' e1 e2
      rw [e1] at hx
      rw [e2] at hy
      obtain ⟨vs, a1, a2, _, a3⟩ := hx.agg_inv
      obtain ⟨us, b1, b2, _, b3⟩ := hy.agg_inv
      have ex : ∀ {l : List AV} {vs : Array Value}, l.length = vs.size → (∀ (j : Nat) x u, l[j]? = some x → vs[j]? = some u → RV P w X φ G x u) → ∀ (j : Nat) x, l[j]? = some x → ∃ u, vs[j]? = some u ∧ RV P w X φ G x u := fun {l vs} hl h j x hj => by
        have hlt : j < vs.size := by rw [← hl]; exact (List.getElem?_eq_some_iff.1 hj).1
        exact ⟨vs[j], by simp [hlt], h j x _ hj (by simp [hlt])⟩
      obtain ⟨u, k1, k2⟩ := eqAgg_sound (x := x) (y := y) h1 (ex a2 a3) (ex b2 b3)
      refine eff_pure hr (x := u) ?_ k2
      simp only [execOp]
      rw [a1, b1, Sem.run_bind, k1]
      rfl
    · rename_i p q e1 e2
      rw [e1] at hx
      rw [e2] at hy
      have hxe := hx.bool_inv
      have hye := hy.bool_inv
      split at h1
      · rename_i hk
        have hu : P.underlying t = some .bool := by
          unfold skind at hk
          split at hk <;> simp at hk
          assumption
        split at h1
        · simp at h1; subst h1
          refine eff_pure hr (x := .bool (p == q)) ?_ (.ro .bool)
          simp only [execOp]
          rw [hxe, hye]
          simp only [Sem.run_bind, show (eqGuard .eql t x y (.bool p) (.bool q)).run P w = .ok () w from rfl, Result.andThen_ok, run_eql_bool w t p q hu, Sem.run_pure]
        · simp at h1; subst h1
          refine eff_pure hr (x := .bool (!(p == q))) ?_ (.ro .bool)
          simp only [execOp]
          rw [hxe, hye]
          simp only [Sem.run_bind, show (eqGuard .neq t x y (.bool p) (.bool q)).run P w = .ok () w from rfl, Result.andThen_ok, run_neq_bool w t p q hu, Sem.run_pure]
        · simp at h1
      · simp at h1
    unfold ebin at h1
    split at h1
    · rename_i k m k' n e1 e2
      rw [e1] at hx
      rw [e2] at hy
      obtain ⟨u, k1, k2⟩ := int_wrap_run (P := P) (w := w) (X := fun b => X b ∨ ∃ id, φ id = some b) (t := t) (x := x) (y := y) (op := op) (k := k) (k' := k') (m := m) (n := n) (v := v) (by unfold ebin; exact h1)
      refine eff_pure hr (x := u) ?_ (.ro k2)
      simp only [execOp]
      rw [hx.int_inv, hy.int_inv, Sem.run_bind, k1]
      rfl
    · rename_i m n e1 e2
      rw [e1] at hx
      rw [e2] at hy
      obtain ⟨u, k1, k2⟩ := str_run (P := P) (w := w) (X := fun b => X b ∨ ∃ id, φ id = some b) (t := t) (x := x) (y := y) (op := op) (m := m) (n := n) (v := v) (by unfold ebin; exact h1)
      refine eff_pure hr (x := u) ?_ (.ro k2)
      simp only [execOp]
      rw [hx.str_inv, hy.str_inv, Sem.run_bind, k1]
      rfl
    · simp at h1
  case unOp op t x =>
    simp only [eop] at h
    obtain ⟨h1, rfl⟩ := same_spec h
    have hx := hev x (by simp [Op.operands])
    unfold eun at h1
    split at h1
    · rename_i k n e1
      simp at h1
      subst h1
      rw [e1] at hx
      rw [wrapI_eq]
      exact eff_pure hr (by simp [execOp, hx.int_inv, Op.unary, Op.intArith]) (.ro .int)
    · rename_i b e1
      simp at h1
      subst h1
      rw [e1] at hx
      exact eff_pure hr (by simp [execOp, hx.bool_inv, Op.unary]) (.ro .bool)
    · simp at h1
  case convert src dst' x =>
    simp only [eop] at h
    have hx := hev x (by simp [Op.operands])
    split at h
    · rename_i i d k n hi hd e1
      split at h
      · rename_i k' hk'
        simp at h
        obtain ⟨rfl, rfl⟩ := h
        rw [e1] at hx
        have hu := ty_int hd hk'
        obtain ⟨inf, z, dd, pl, es, q1, q2, _⟩ := (ty_is hi).ex
        rw [wrapI_eq]
        refine eff_pure hr (x := .int k' (k'.wrap n)) ?_ (.ro .int)
        simp only [execOp, hx.int_inv, Sem.run_bind, convert, run_underlying q2, run_underlying hu, Result.andThen_ok]
        cases dd <;> simp [Conv.intToInt]
      · simp at h
    · rename_i i d b hi hd e1
      split at h
      · rename_i hstr
        simp at h
        obtain ⟨rfl, rfl⟩ := h
        rw [e1] at hx
        have hu := ty_str hd hstr
        obtain ⟨inf, z, dd, pl, es, q1, q2, _⟩ := (ty_is hi).ex
        refine eff_pure hr (x := .string b) ?_ (.ro .str)
        simp only [execOp, hx.str_inv, Sem.run_bind, convert, run_underlying q2, run_underlying hu, Result.andThen_ok]
        cases dd <;> simp
      · split at h
        · rename_i hsl
          split at h
          · rename_i te hte
            split at h
            · rename_i hc
              simp at h
              obtain ⟨rfl, rfl⟩ := h
              rw [e1] at hx
              have hu := ty_sl hd hsl
              obtain ⟨inf, z, dd, pl, es, q1, q2, _⟩ := (ty_is hi).ex
              have hrun := Lib.run_convert_string_bytes (P := P) w src dst' d.elem b q2 hu (ty_int hte hc.1)
              have hb := bytesWorld_below w d.elem b
              refine ⟨.slice (some ⟨w.heap.size, 0, none⟩) b.size (grownCap w b.size 0 d.elem), _, φ, .inl (by simp only [execOp, hx.str_inv, hrun, Sem.run_bind, Result.andThen_ok, Sem.run_pure]), hr_below hr hb, turn_below hr hb, .ro ?_, fun _ h _ _ => ⟨h, rfl⟩⟩
              have hsz : (bytesRows b).length = b.size := by simp [bytesRows]
              refine .rs 1 (fun i _ => .int .u8 (b.data.toList.getD i 0).toNat) hsz (grownCap_ge w b.size 0 d.elem) (fun i row hir => ?_) (fun i j row y hir hj => ?_)
              · have hlt : i < b.size := by rw [← hsz]; exact (List.getElem?_eq_some_iff.1 hir).1
                simp only [bytesRows, List.getElem?_map, Option.map_eq_some_iff] at hir
                obtain ⟨c, hc1, rfl⟩ := hir
                refine ⟨rfl, _, rfl, by simp [Lib.bytesWorld_size], ?_, fun j hj => ?_⟩
                · rintro (hX | ⟨id, hid⟩)
                  · have := (hr.ext _ hX).1; simp at this
                  · have := (hr.own _ _ hid).2.1; simp at this
                · have : j = 0 := by omega
                  subst this
                  rw [add_noneA, Nat.zero_add, Nat.mul_one, Nat.add_zero]
                  exact ⟨Lib.bytesWorld_cell w d.elem b i hlt, rfl⟩
              · simp only [bytesRows, List.getElem?_map, Option.map_eq_some_iff] at hir
                obtain ⟨c, hc1, rfl⟩ := hir
                cases j with
                | zero =>
                  simp at hj
                  subst hj
                  rw [List.getD_eq_getElem?_getD, hc1]
                  exact .int
                | succ j => simp at hj
            · simp at h
          · simp at h
        · simp at h
    · rename_i x' i d hi hd hn1 hn2
      split at h
      · rename_i hc0
        split at h
        · rename_i te rows hte hel
          split at h
          · rename_i hc
            split at h
            · rename_i q hq
              simp at h
              obtain ⟨rfl, rfl⟩ := h
              have hu := ty_sl hi hc0.1
              have hus := ty_str hd hc0.2
              have hel := elems_mono (hG rfl) hel
              obtain ⟨hal, A, c, hyv, _, hcell⟩ := elems_sound (P := P) (e := 0) (i := te) hr (by omega : 0 < 1) hel hx
              refine eff_pure hr (x := .string ⟨q.toArray⟩) ?_ (.ro .str)
              obtain ⟨xs, rfl, hxs⟩ := unbytes_spec hq
              have hlen : rows.length = xs.length := by rw [hxs]; simp
              cases A with
              | none =>
                have h0 : xs = [] := by
                  cases xs with
                  | nil => rfl
                  | cons r l => obtain ⟨b, hb, _⟩ := hcell (by rw [hlen]; simp); cases hb
                subst h0
                have := run_convert_bytes_nil (P := P) w src i.elem hu (ty_int hte hc.1) rows.length c dst' hus
                simp only [execOp, hyv, Sem.run_bind, this, Result.andThen_ok, Sem.run_pure]
                rfl
              | some b =>
                have hl : (loadCells b rows.length).run P w = .ok (xs.map (Value.int .u8)).toArray w := by
                  have := run_loadCells_list (P := P) w b (xs.map (Value.int .u8)) (fun j v hj => by
                    rw [List.getElem?_map, Option.map_eq_some_iff] at hj
                    obtain ⟨n, hn, rfl⟩ := hj
                    have hjr : rows[j]? = some [.int .u8 n] := by rw [hxs, List.getElem?_map, hn]; rfl
                    obtain ⟨b', hb', hcc⟩ := hcell (by have := (List.getElem?_eq_some_iff.1 hjr).1; omega)
                    cases hb'
                    obtain ⟨u, k1, k2, k3⟩ := hcc j 0 _ _ hjr (by simp; rfl)
                    rw [Nat.mul_one, Nat.add_zero] at k1
                    rw [k1, k3.int_inv])
                  simpa [hlen] using this
                have hb2 := run_bytesToString (P := P) w b rows.length c xs hl
                have h3 := run_convert_bytes_string (P := P) w src dst' i.elem (some b) rows.length c hu (ty_int hte hc.1) hus
                simp only [execOp, hyv, Sem.run_bind, h3, hb2, Result.andThen_ok, Sem.run_pure, foldl_push_bytes]
                simp [ByteArray.empty, ByteArray.emptyWithCapacity]
                rfl
            · simp at h
          · simp at h
        · simp at h
      · simp at h
    · simp at h
  case makeFunc fn first caps =>
    cases fn <;> simp only [eop] at h <;> try (simp at h; done)
    rename_i f
    split at h
    · rename_i h0
      simp at h
      obtain ⟨rfl, rfl⟩ := h
      have hf : first = #[] := Array.eq_empty_of_size_eq_zero h0
      subst hf
      refine eff_pure hr (x := .func (.func f) #[] (caps.map a.eval)) (by simp [execOp, Instr.makeFunc]) (.fn (by simp) fun j x u hx hu => ?_)
      refine args_len (P := P) (w := w) (X := X) (φ := φ) (G := G) (T := T) (a := a) (args := caps.toList) (fun x hx => hev x (by simp only [Op.operands]; simpa using hx)) j x u hx ?_
      simpa using hu
    · simp at h
  case extract x k =>
    simp only [eop] at h
    split at h
    · rename_i l hl
      obtain ⟨h1, rfl⟩ := same_spec h
      have hx := hev x (by simp [Op.operands])
      rw [hl] at hx
      obtain ⟨vs, k1, k2, k3⟩ := hx.tup_inv
      have hlt : k < vs.size := by rw [← k2]; exact (List.getElem?_eq_some_iff.1 h1).1
      exact eff_pure hr (x := vs[k]) (by simp [execOp, k1, Instr.extract, hlt]) (k3 k v _ h1 (by simp [hlt]))
    · simp at h
  case buildSlice t len parts =>
    simp only [eop] at h
    split at h
    · rename_i i hi
      split at h
      · rename_i hsl
        split at h
        · rename_i te he
          split at h
          · rename_i rows hrows
            split at h
            · rename_i hc
              obtain ⟨hc1, hc2, hc3⟩ := hc
              simp at h
              obtain ⟨rfl, rfl⟩ := h
              obtain ⟨hb, hφ⟩ := hnew _ rfl
              obtain ⟨m1, m2⟩ := mapM_spec hrows
              have hpl : parts.toList.length = len := by have := congrArg List.length hc1; simpa using this
              have hu := ty_sl hi hsl
              have hce : P.cellsOf i.elem = te.sz := ty_cells he
              have hlen : rows.length = len := by omega
              have hrl : ∀ row ∈ rows, row.length = te.sz := fun row hm => by
                obtain ⟨j, hj, rfl⟩ := List.getElem_of_mem hm
                obtain ⟨y, q1, q2⟩ := m2 j parts.toList[j] (by simp)
                simp [hj] at q1
                rw [q1]
                exact (cellsN_spec q2).2
              obtain ⟨us, k1, k2, k3⟩ := row_build (P := P) (w := w) (X := X) (φ := φ) (G := G) (T := T) (a := a) hi hu he parts hc1 rows hrows (fun p hp => hev p.2 (by simp only [Op.operands]; simp; exact ⟨p.1, by simpa using hp⟩)) hc2 hc3
              have hE := newRow_sound (P := P) (nid := H.length) hr (e := i.elem) (rows := rows) (cap := len) (cur := us) (by rw [hce]; exact hrl) (by rw [hce]; exact k2) (by omega) (by unfold maxLen; omega) (fun i' j row x u h1 h2 h3 => by rw [hce] at h3; exact k3 i' j row x u h1 h2 h3) hb hφ
                (r := (execOp a.eval ⟨dst, .buildSlice t len parts, tyo, pos, after, guard⟩).run P w) (by rw [hlen]; simp only [execOp, Sem.run_bind]; rw [k1]; rfl)
              rw [hlen] at hE
              exact hE
            · simp at h
          · simp at h
        · simp at h
      · simp at h
    · simp at h
  case makeSlice t l c =>
    simp only [eop] at h
    split at h
    · rename_i i n m hi hn hm
      split at h
      · rename_i hsl
        split at h
        · rename_i te he
          split at h
          · rename_i hc
            obtain ⟨h0, rfl, hle⟩ := hc
            simp at h
            obtain ⟨rfl, rfl⟩ := h
            obtain ⟨hb, hφ⟩ := hnew _ rfl
            have hu := ty_sl hi hsl
            have hl := hev l (by simp [Op.operands])
            have hc := hev c (by simp [Op.operands])
            rw [hn] at hl
            rw [hm] at hc
            obtain ⟨inf, z, d, pl, es, hinf, _, hz, hzs, hpos, hone, hby, _, hte⟩ := (ty_is he).ex
            have hsz : te.sz = inf.size := by rw [hte, descTy_sz]
            have hce : P.cellsOf i.elem = te.sz := ty_cells he
            have hrun := run_make (P := P) w t i.elem inf z hu hinf hz .i64 .i64 n n h0 (Int.le_refl _) (by
              have h1 : (inf.bytes : Int) ≤ 4096 := by omega
              have h2 : (inf.bytes : Int) * n ≤ 4096 * 1073741824 := Int.mul_le_mul h1 hle h0 (by omega)
              omega) (by omega)
            have hcap : n.toNat ≤ maxLen := by unfold maxLen; omega
            have hzz := (zero_sound he w)
            obtain ⟨z', z1, z2, z3, z4⟩ := hzz
            have hz' : z = z' := by simpa [zeroValue, typeInfo, hinf, hz] using z1
            subst hz'
            have hE := newRow_sound (P := P) (nid := H.length) hr (e := i.elem) (rows := List.replicate n.toNat te.zero) (cap := n.toNat) (cur := madeCells z.cells (n.toNat * inf.size)) (by intro row hm; rw [List.mem_replicate] at hm; rw [hm.2, ty_zlen he, hce])
              (by rw [size_madeCells, hce, hsz]) (by simp) hcap (fun i' j row x u h1 h2 h3 => by
                rw [hce, hsz] at h3
                have hi' : i' < n.toNat := by have := (List.getElem?_eq_some_iff.1 h1).1; simpa using this
                have hrow : row = te.zero := by rw [List.getElem?_replicate] at h1; simp [hi'] at h1; exact h1.symm
                subst hrow
                have hj : j < inf.size := by rw [← hsz, ← ty_zlen he]; exact (List.getElem?_eq_some_iff.1 h2).1
                have hlt := mul_lt hi' hj
                have e1 : (i' * inf.size + j) % z.cells.size = j := by rw [hzs, Nat.add_comm, Nat.add_mul_mod_self_right]; exact Nat.mod_eq_of_lt hj
                have e2 : u = z.cells[j]'(by omega) := by
                  simp [madeCells, hlt, e1] at h3
                  rw [← h3]
                  simp [hzs, hj]
                refine ⟨z4 w X φ G j x u h2 (by rw [e2]; simp [hzs, hj]), ?_⟩
                rw [e2]
                exact z3 _ (by simp)) hb hφ
              (r := (execOp a.eval ⟨dst, .makeSlice t l c, tyo, pos, after, guard⟩).run P w) (by simp only [execOp, Sem.run_bind, hl.int_inv, hc.int_inv, hrun, List.length_replicate]; rfl)
            rw [List.length_replicate] at hE
            exact hE
          · simp at h
        · simp at h
      · simp at h
    · simp at h
  case slice t x lo hi mx =>
    cases mx with
    | some mxo =>
      simp only [eop] at h
      split at h
      · rename_i i hi'
        split at h
        · rename_i hsl
          split at h
          · rename_i e1 e2 e3
            split at h
            · rename_i rows te hrows he
              simp at h
              obtain ⟨rfl, rfl⟩ := h
              have hx := hev x (by simp [Op.operands])
              obtain ⟨A, n, c, hv⟩ := slice_form (elems_mono (hG rfl) hrows) hx
              have hu := ty_sl hi' hsl
              have b1 := bound_sound e1 (fun y hy => hev y (by simp [Op.operands, hy]))
              have b2 := bound_sound e2 (fun y hy => hev y (by simp [Op.operands, hy]))
              have b3 := bound_sound e3 (fun y hy => hev y (by simp at hy; subst hy; simp [Op.operands]))
              obtain ⟨y2, k2, rfl, q2⟩ : ∃ y k, hi = some y ∧ a.eval y = .int k 0 := by rcases b2 with ⟨_, h⟩ | h; simp at h; exact h
              obtain ⟨y3, k3, h3, q3⟩ : ∃ y k, some mxo = some y ∧ a.eval y = .int k 0 := by rcases b3 with ⟨_, h⟩ | h; simp at h; exact h
              simp at h3
              subst h3
              have r3 : (Instr.sliceBound (.int k3 0) c .slice3Acap).run P w = .ok 0 w := run_sliceBound w k3 0 c .slice3Acap (Int.le_refl _) (by omega)
              have r2 : (Instr.sliceBound (.int k2 0) 0 .slice3B).run P w = .ok 0 w := run_sliceBound w k2 0 0 .slice3B (Int.le_refl _) (by omega)
              refine eff_pure hr (x := .slice A 0 0) ?_ (.ro .nilc)
              rcases b1 with ⟨rfl, _⟩ | ⟨y1, k1, rfl, q1⟩
              · simp [execOp, Instr.sliceAt, Instr.slice, run_underlying hu, hv, Instr.sliceBounds, q2, q3, r2, r3, run_sizeOf_ty he]
              · have r1 : (Instr.sliceBound (.int k1 0) 0 .slice3C).run P w = .ok 0 w := run_sliceBound w k1 0 0 .slice3C (Int.le_refl _) (by omega)
                simp [execOp, Instr.sliceAt, Instr.slice, run_underlying hu, hv, Instr.sliceBounds, q1, q2, q3, r1, r2, r3, run_sizeOf_ty he]
            · simp at h
          · simp at h
        · simp at h
      · simp at h
    | none =>
      simp only [eop] at h
      split at h
      · rename_i i hi'
        have hx := hev x (by simp [Op.operands])
        have hlo : ∀ y, lo = some y → RV P w X φ G (ev T y) (a.eval y) := fun y hy => hev y (by simp [Op.operands, hy])
        have hhi : ∀ y, hi = some y → RV P w X φ G (ev T y) (a.eval y) := fun y hy => hev y (by simp [Op.operands, hy])
        split at h
        · rename_i b hb
          split at h
          · rename_i hstr
            split at h
            · rename_i l hh e1 e2
              obtain ⟨h1, rfl⟩ := same_spec h
              unfold subStr at h1
              split at h1
              · rename_i hc
                simp at h1
                subst h1
                rw [hb] at hx
                have hu := ty_str hi' hstr
                refine eff_pure hr (x := .string (b.extract l.toNat hh.toNat)) ?_ (.ro .str)
                have b1 := bound_sound e1 hlo
                have b2 := bound_sound e2 hhi
                have run1 : ∀ k v, a.eval v = .int k l → (Instr.sliceBound (.int k l) hh.toNat .sliceB).run P w = .ok l.toNat w := fun k v _ => run_sliceBound w k l hh.toNat .sliceB hc.1 (by omega)
                have run2 : ∀ k, (Instr.sliceBound (.int k hh) b.size .sliceAlen).run P w = .ok hh.toNat w := fun k => run_sliceBound w k hh b.size .sliceAlen (by omega) hc.2.2
                rcases b1 with ⟨rfl, rfl⟩ | ⟨y1, k1, rfl, q1⟩ <;> rcases b2 with ⟨rfl, rfl⟩ | ⟨y2, k2, rfl, q2⟩
                · simp [execOp, Instr.sliceAt, Instr.slice, run_underlying hu, hx.str_inv, Instr.sliceBounds]
                · simp [execOp, Instr.sliceAt, Instr.slice, run_underlying hu, hx.str_inv, Instr.sliceBounds, q2, run2]
                · have := run1 k1 y1 q1
                  simp at this
                  simp [execOp, Instr.sliceAt, Instr.slice, run_underlying hu, hx.str_inv, Instr.sliceBounds, q1, this]
                · simp [execOp, Instr.sliceAt, Instr.slice, run_underlying hu, hx.str_inv, Instr.sliceBounds, q1, q2, run1 k1 y1 q1, run2]
              · simp at h1
            · simp at h
          · simp at h
        · rename_i rows hb
          split at h
          · rename_i hsl
            split at h
            · rename_i te he
              split at h
              · rename_i l hh e1 e2
                obtain ⟨h1, rfl⟩ := same_spec h
                rw [hb] at hx
                have hu := ty_sl hi' hsl
                obtain ⟨A, cap, hv, hcap⟩ := hx.rs_inv
                rw [hv] at hx
                have hc : 0 ≤ l ∧ l ≤ hh ∧ hh ≤ rows.length := by
                  unfold subSl at h1
                  split at h1
                  · rename_i hc; exact ⟨hc.1, hc.2.1, hc.2.2.1⟩
                  · simp at h1
                have b1 := bound_sound e1 hlo
                have b2 := bound_sound e2 hhi
                have run1 : ∀ k v, a.eval v = .int k l → (Instr.sliceBound (.int k l) hh.toNat .sliceB).run P w = .ok l.toNat w := fun k v _ => run_sliceBound w k l hh.toNat .sliceB hc.1 (by omega)
                have run2 : ∀ k, (Instr.sliceBound (.int k hh) cap .sliceAcap).run P w = .ok hh.toNat w := fun k => run_sliceBound w k hh cap .sliceAcap (by omega) (by omega)
                have hk := subSl_sound h1 hx (cap' := cap - l.toNat) (A' := if cap = l.toNat then A else A.map (·.add (l.toNat * te.sz))) (by
                  split
                  · exact .inr ⟨by omega, rfl⟩
                  · exact .inl rfl) (by omega)
                refine eff_pure hr (x := .slice (if cap = l.toNat then A else A.map (·.add (l.toNat * te.sz))) (hh.toNat - l.toNat) (cap - l.toNat)) ?_ hk
                have hhe : hi = none → hh.toNat = rows.length := fun h0 => by
                  rcases b2 with ⟨_, h⟩ | ⟨y, k, h, _⟩
                  · omega
                  · rw [h0] at h; simp at h
                have hll : lo = none → l.toNat = 0 := fun h0 => by
                  rcases b1 with ⟨_, h⟩ | ⟨y, k, h, _⟩
                  · omega
                  · rw [h0] at h; simp at h
                have hrunb : (Instr.sliceBounds true rows.length cap (lo.map a.eval) (hi.map a.eval) none).run P w = .ok (l.toNat, hh.toNat, cap) w := by
                  cases lo with
                  | none => cases hi with
                    | none => simp [Instr.sliceBounds, hhe rfl, hll rfl]
                    | some y2 =>
                      rcases b2 with ⟨h, _⟩ | ⟨y, k, h, q2⟩
                      · simp at h
                      · simp at h; subst h
                        simp [Instr.sliceBounds, hll rfl, q2, run2]
                  | some y1 =>
                    rcases b1 with ⟨h, _⟩ | ⟨y, k1, h, q1⟩
                    · simp at h
                    · simp at h; subst h
                      cases hi with
                      | none =>
                        have := run1 k1 y1 q1
                        rw [hhe rfl] at this
                        simp [Instr.sliceBounds, q1, this, hhe rfl]
                      | some y2 =>
                        rcases b2 with ⟨h, _⟩ | ⟨y, k, h, q2⟩
                        · simp at h
                        · simp at h; subst h
                          simp [Instr.sliceBounds, q1, q2, run2, run1 k1 y1 q1]
                simp only [execOp, Sem.run_bind, Option.map_none]
                simp only [Instr.sliceAt, Sem.run_bind, run_underlying hu, Result.andThen_ok, Instr.slice, hv, hrunb, run_sizeOf_ty he]
                rfl
              · simp at h
            · simp at h
          · simp at h
        · simp at h
      · simp at h
  case fieldAddr t x f =>
    simp only [eop] at h
    split at h
    · rename_i i hi
      split at h
      · rename_i off ft hf
        split at h
        · rename_i fi hfi
          obtain ⟨h1, rfl⟩ := same_spec h
          obtain ⟨b, k1, k2⟩ := shift_sound (shift_mono (hG rfl) h1) (hev x (by simp [Op.operands]))
          obtain ⟨fs, fl, q1, q2, q3, q4⟩ := ty_fld hi hf
          have hne : fi.sz ≠ 0 := by have := ty_pos hfi; omega
          exact eff_pure hr (x := .pointer (some (b.add off))) (by simp [execOp, Instr.fieldAt, run_underlying q1, q2, k1, Instr.sureAddr, fieldPlace, q4, run_sizeOf_ty hfi, hne, q3]) k2
        · simp at h
      · simp at h
    · simp at h
  case field t x f =>
    simp only [eop] at h
    split at h
    · rename_i i hi
      split at h
      · rename_i off ft cs hf hcs
        split at h
        · rename_i fi hfi
          obtain ⟨h1, rfl⟩ := same_spec h
          have hx := hev x (by simp [Op.operands])
          rw [hcs] at hx
          obtain ⟨vs, l1, l2, l3, l4⟩ := hx.agg_inv
          obtain ⟨u, k1, k2⟩ := part_sound hfi h1 l2 l3 l4
          obtain ⟨fs, fl, q1, q2, q3, q4⟩ := ty_fld hi hf
          exact eff_pure hr (x := u) (by simp [execOp, Instr.field, run_underlying q1, q2, l1, asAgg, q4, q3, k1]) k2
        · simp at h
      · simp at h
    · simp at h
  case indexAddr t x y =>
    simp only [eop] at h
    split at h
    · rename_i ti k n hi hn
      have hx := hev x (by simp [Op.operands])
      have hy := hev y (by simp [Op.operands])
      rw [hn] at hy
      split at h
      · rename_i te he
        split at h
        · rename_i hsl
          obtain ⟨h1, rfl⟩ := same_spec h
          obtain ⟨u, k1, k2⟩ := elemAt_sound (k := k) hr (ty_sl hi hsl) he rfl (elemAt_mono (hG rfl) h1) hx
          exact eff_pure hr (x := u) (by simp [execOp, hy.int_inv, k1]) k2
        · split at h
          · rename_i l hl
            split at h
            · rename_i hc
              obtain ⟨h1, rfl⟩ := same_spec h
              obtain ⟨b, k1, k2⟩ := shift_sound (shift_mono (hG rfl) h1) hx
              refine eff_pure hr (x := .pointer (some (b.add (n.toNat * te.sz)))) ?_ k2
              simp [execOp, Instr.indexAt, hy.int_inv, asIntOf, run_underlying (ty_arr hi hl), k1, Instr.sureAddr, hc, run_sizeOf_ty he]
            · simp at h
          · simp at h
      · simp at h
    · simp at h
  case index t x y =>
    simp only [eop] at h
    split at h
    · rename_i ti k n s hi hn hs
      have hx := hev x (by simp [Op.operands])
      have hy := hev y (by simp [Op.operands])
      rw [hn] at hy
      rw [hs] at hx
      split at h
      · rename_i hc
        split at h
        · rename_i c hcc
          simp at h
          obtain ⟨rfl, rfl⟩ := h
          refine eff_pure hr (x := .int .u8 c.toNat) ?_ (.ro .int)
          have hlt : n.toNat < s.size := by have := (Array.getElem?_eq_some_iff.1 hcc).1; simpa using this
          have hcc2 : s[n.toNat] = c := (Array.getElem?_eq_some_iff.1 hcc).2
          have hget : s[n.toNat]? = some c := by rw [ByteArray.getElem?_lt' s _ hlt, hcc2]
          simp [execOp, Instr.index, hy.int_inv, hx.str_inv, asIntOf, run_underlying (ty_str hi hc.1), hc.2, hget]
        · simp at h
      · simp at h
    · rename_i ti k n cs hi hn hs
      have hx := hev x (by simp [Op.operands])
      have hy := hev y (by simp [Op.operands])
      rw [hn] at hy
      rw [hs] at hx
      split at h
      · rename_i l te hl he
        split at h
        · rename_i hc
          obtain ⟨h1, rfl⟩ := same_spec h
          obtain ⟨vs, l1, l2, l3, l4⟩ := hx.agg_inv
          obtain ⟨u, k1, k2⟩ := part_sound he h1 l2 l3 l4
          exact eff_pure hr (x := u) (by simp [execOp, Instr.index, hy.int_inv, l1, asIntOf, run_underlying (ty_arr hi hl), hc, run_sizeOf_ty he, k1]) k2
        · simp at h
      · simp at h
    · simp at h
  case makeMap t rv =>
    cases rv with
    | some rv => simp [eop] at h
    | none =>
      simp only [eop] at h
      split at h
      · simp at h
        obtain ⟨rfl, rfl⟩ := h
        obtain ⟨hb, hφ⟩ := hnew _ rfl
        have hT := turn_alloc hr hb hφ (fun _ _ e => by cases e) (.map #[] 0)
        refine ⟨.map (some w.heap.size), _, _, .inl (by simp [execOp, run_makeMap]), hr_alloc hr hb hφ (fun _ _ e => by cases e) (.map #[] 0) ⟨#[], 0, heap_alloc_new w _, rfl, by simp, by simp, by simp⟩, hT, .mp rfl (List.getElem?_eq_some_iff.1 hb).1 fun es' h' => ⟨_, by simp [setφ], rfl⟩, fun i hi hne _ => ?_⟩
        have := hne _ rfl
        exact ⟨by simp [setφ, this, hi], rfl⟩
      · simp at h
  case lookup t m k ok =>
    simp only [eop] at h
    split at h
    · rename_i z ks id ht hm
      split at h
      · rename_i es hb
        split at h
        · rename_i b r hs hf
          simp at h
          obtain ⟨rfl, rfl⟩ := h
          have hmr := hev m (by simp [Op.operands])
          rw [hm] at hmr
          obtain ⟨x, h1, h2⟩ := lookup_sound hr ok ht (hG rfl _ _ hb) hmr (hev k (by simp [Op.operands])) hs hf
          exact eff_pure hr (x := x) (by simp [execOp, h1]) (by cases ok <;> simpa using h2)
        · simp at h
      · simp at h
    · simp at h
  case mapUpdate t m k y =>
    simp only [eop] at h
    split at h
    · rename_i z ks id ht hm
      split at h
      · rename_i es hb
        split at h
        · rename_i b r hs hf
          simp at h
          obtain ⟨rfl, rfl⟩ := h
          have hmr := hev m (by simp [Op.operands])
          rw [hm] at hmr
          obtain ⟨w', h1, h2, h3, h4⟩ := update_sound hr ht (hG rfl _ _ hb) hmr (hev k (by simp [Op.operands])) (hev y (by simp [Op.operands])) hs hf
          exact ⟨undef, w', φ, .inr ⟨by simp [execOp, h1], rfl⟩, h2, h3, .ro .any, fun i hi _ _ => h4 i hi⟩
        · simp at h
      · simp at h
    · simp at h
  case call c =>
    obtain ⟨callee, args, ats⟩ := c
    cases callee with
    | builtin b =>
      simp only [eop] at h
      exact ebi_sound (P := P) (H := H) (tyc := tyo) (cs := _) hr h (fun x hx => hev x (by simp [Op.operands, Call.operands]; simpa using hx)) (fun hb => hG (by cases b <;> simp [sens] at hb ⊢)) hnew
    | value f => simp [eop] at h
    | invoke r m => simp [eop] at h
  all_goals simp [eop] at h
end
end Go.Proofs.Ytnldjmokemgaoaa
