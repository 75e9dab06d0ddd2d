/- Several texts of the abstract machine, one behind the other. -/
import Derived.ChangeKeysEq
import Derived.Test.YthiclaihlpkinaaGreatM1
import Derived.Carry
import Derived.Lib.ConvBytes
import Derived.Laws.BytesArg
import Derived.Laws.IdiomStrings
import Derived.OrdersIn
import Derived.RangeFuncLeaves
import Derived.RangeFuncCalls
import Derived.ControlIn
import Derived.LoopNIn
import Derived.RangeFuncRecord
import Derived.Orders
set_option linter.unusedSimpArgs false
set_option linter.unusedVariables false
set_option linter.unnecessarySimpa false
set_option linter.unusedSectionVars false
namespace Go.Proofs.YthiclaihlpkinaaGreat
open Go.RowKit
variable [Glob]
section
variable {P : Program} {w0 w : World} {X : Nat → Prop} {φ : Nat → Option Nat} {G H : List Blk} {T : List (Nat × AV)} {a : Act}
theorem flat_field {t : TypeId} {i : Ty} {f off ft : Nat} (hi : ty P t = some i) (hf : i.flds[f]? = some (off, ft)) : ∃ fs fl, P.underlying t = some (.struct fs) ∧ fs[f]? = some fl ∧ fl.offset = off ∧ fl.type = ft := ty_fld hi hf
/-- A step inside a pointer. -/
theorem shift_sound {x y : AV} {k : Nat} {v : Value} (h : shift G x k = some y) (hx : RV P w X φ G x v) : ∃ b, v = .pointer (some b) ∧ RV P w X φ G y (.pointer (some (b.add k))) := by
  cases x with
  | rp row =>
    simp [shift] at h
    subst h
    cases hx with
    | ro h => cases h with
      | @rp _ b f hb hxx hc h =>
        refine ⟨b, rfl, .ro (.rp (fun j => f (k + j)) (by rw [add_block]; exact hb) (by rw [add_block]; exact hxx) (fun j x hj => ?_) (fun j x hj => ?_))⟩
        · rw [List.getElem?_drop] at hj
          rw [add_add]
          exact hc _ x hj
        · rw [List.getElem?_drop] at hj
          exact h _ x hj
  | op id o =>
    simp only [shift] at h
    split at h
    · rename_i t cs hb
      simp at h
      subst h
      cases hx with
      | ro h => cases h
      | op h0 hid hv =>
        obtain ⟨c, hc, rfl⟩ := hv t cs hb
        refine ⟨_, rfl, .op rfl hid fun t' cs' hb' => ⟨c, hc, by rw [add_noneA]⟩⟩
    · simp at h
  | ep id n i o =>
    simp only [shift] at h
    split at h
    · rename_i e nb rows hb
      split at h
      · rename_i hn
        simp at h
        subst h
        cases hx with
        | ro h => cases h
        | ep h0 hid hv =>
          obtain ⟨c, hc, rfl⟩ := (hv e nb rows hb).2 hn.symm
          refine ⟨_, rfl, .ep rfl hid fun e' nb' rows' hb' => ?_⟩
          rw [hb] at hb'
          simp at hb'
          obtain ⟨rfl, rfl, rfl⟩ := hb'
          exact ⟨by omega, fun _ => ⟨c, hc, by rw [add_noneA, Nat.add_assoc]⟩⟩
      · simp at h
    · simp at h
  | _ => simp [shift] at h
theorem subSl_sound {sz : Nat} {rows : List (List AV)} {lo hi : Int} {y : AV} {A : Option Addr} {cap : Nat} (h : subSl sz rows lo hi = some y) (hx : RV P w X φ G (.rs rows) (.slice A rows.length cap)) {cap' : Nat} {A' : Option Addr}
    (hA : A' = A.map (·.add (lo.toNat * sz)) ∨ (hi = lo ∧ A' = A)) (hcc : hi.toNat - lo.toNat ≤ cap') : RV P w X φ G y (.slice A' (hi.toNat - lo.toNat) cap') := by
  unfold subSl at h
  split at h
  · rename_i hc
    obtain ⟨h1, h2, h3, h4⟩ := hc
    simp at h
    subst h
    have hal := allLen_mem h4
    cases hx with
    | ro hx => cases hx with
      | rs szr f hn hcap hAA hx =>
        refine .ro (.rs sz (fun i j => f (lo.toNat + i) j) (by simp; omega) hcc (fun i row hi' => ?_) (fun i j row x hi' hj => ?_))
        · rw [List.getElem?_take] at hi'
          split at hi'
          · rw [List.getElem?_drop] at hi'
            obtain ⟨k1, b, k2, k3, k4, k5⟩ := hAA _ row hi'
            have hl := hal row (List.mem_of_getElem? hi')
            have hs : szr = sz := by omega
            subst hs
            rcases hA with rfl | ⟨e, _⟩
            · refine ⟨k1, _, by rw [k2]; rfl, by rw [add_block]; exact k3, by rw [add_block]; exact k4, fun j hj => ?_⟩
              rw [add_add, show lo.toNat * szr + (i * szr + j) = (lo.toNat + i) * szr + j by rw [Nat.add_mul]; omega]
              exact k5 j hj
            · omega
          · simp at hi'
        · rw [List.getElem?_take] at hi'
          split at hi'
          · rw [List.getElem?_drop] at hi'
            exact hx _ j row x hi' hj
          · simp at hi'
  · simp at h
theorem eqItems_sound {e : TypeId} (he : skind P e = some 0) {xs ys : Array Value} : ∀ (m i : Nat) (l l' : List AV) (b : Bool), eqCs (List.replicate m 0) l l' = some b → (∀ (j : Nat) x, l[j]? = some x → ∃ u, xs[i + j]? = some u ∧ RV P w X φ G x u) → (∀ (j : Nat) x, l'[j]? = some x → ∃ u, ys[i + j]? = some u ∧ RV P w X φ G x u) →
    (Op.eqItems 9999 e 1 xs ys (List.range' i m)).run P w = .ok b w := by
  intro m
  induction m with
  | zero =>
    intro i l l' b h _ _
    cases l <;> cases l' <;> simp [eqCs] at h
    subst h
    simp [Op.eqItems]
  | succ m ih =>
    intro i l l' b h hx hy
    rw [List.replicate_succ] at h
    obtain ⟨kk, a, b0, r, r', e', rfl, rfl, h3, h4⟩ := eqCs_int h
    obtain ⟨u, hu, hru⟩ := hx 0 _ rfl
    obtain ⟨v, hv, hrv⟩ := hy 0 _ rfl
    rw [Nat.add_zero] at hu hv
    have ih := ih (i + 1) r r' e' h3 (fun j x hj => by have := hx (j + 1) x (by simpa using hj); rwa [show i + 1 + j = i + (j + 1) by omega]) (fun j x hj => by have := hy (j + 1) x (by simpa using hj); rwa [show i + 1 + j = i + (j + 1) by omega])
    obtain ⟨k0, hk⟩ : ∃ k0, P.underlying e = some (.int k0) := by
      rcases skind_cases he with ⟨k0, hk, _⟩ | ⟨_, q⟩ | ⟨_, q⟩
      · exact ⟨k0, hk⟩
      · cases q
      · cases q
    rw [hru.int_inv] at hu
    rw [hrv.int_inv] at hv
    rw [List.range'_succ]
    simp only [Op.eqItems, Nat.mul_one, Sem.run_bind, skind_part he xs i _ hu w, skind_part he ys i _ hv w, Result.andThen_ok, run_equalIn_int w 9998 e kk k0 a b0 hk]
    cases hab : (a == b0) with
    | true => rw [h4, hab]; simpa using ih
    | false => rw [h4, hab]; simp
theorem eqAgg_sound {op : BinOp} {t : TypeId} {x y : Operand} {l l' : List AV} {v : AV} {xs ys : Array Value} (h : eqAgg (eqKindsN P t) op l l' = some v) (hx : ∀ (j : Nat) x, l[j]? = some x → ∃ u, xs[j]? = some u ∧ RV P w X φ G x u) (hy : ∀ (j : Nat) x, l'[j]? = some x → ∃ u, ys[j]? = some u ∧ RV P w X φ G x u) :
    ∃ u, (do eqGuard op t x y (.agg xs) (.agg ys); binOp op t (.agg xs) (.agg ys) : Sem Value).run P w = .ok u w ∧ RV P w X φ G v u := by
  unfold eqAgg at h
  split at h
  · rename_i ks hks
    split at h
    · rename_i b hb
      have hrun : (Op.equalIn 10000 t (.agg xs) (.agg ys)).run P w = .ok b w ∧ P.eqGuardType P.depth t = false := by
        unfold eqKindsN at hks
        split at hks
        · rename_i ks' hk1
          cases hks
          unfold eqKinds at hk1
          split at hk1
          · rename_i fs hD
            split at hk1
            · rename_i hc
              obtain ⟨c1, c2, c3⟩ := hc
              have hfs : P.fieldsOf t = fs := by simp [Program.fieldsOf, hD]
              refine ⟨?_, c2⟩
              rw [run_equalIn_agg w 9999 t xs ys (by rw [hfs]; exact hD) c1, hfs]
              exact eqf_sound (d := 9998) fs.toList ks 0 l l' b hk1 c3 hb (by simpa using hx) (by simpa using hy)
            · cases hk1
          · cases hk1
        · split at hks
          · rename_i fs hD
            split at hks
            · rename_i hc
              have hfs : P.fieldsOf t = fs := by simp [Program.fieldsOf, hD]
              refine ⟨?_, hc.2⟩
              rw [run_equalIn_agg w 9999 t xs ys (by rw [hfs]; exact hD) hc.1, hfs]
              exact deepF_sound (d := 9997) fs.toList ks 0 l l' b hks hb (by simpa using hx) (by simpa using hy)
            · cases hks
          · rename_i n e hD
            split at hks
            · rename_i hc
              obtain ⟨c1, c2, c3, c4⟩ := hc
              cases hks
              obtain ⟨i, hi⟩ := Option.isSome_iff_exists.1 c4
              refine ⟨?_, c1⟩
              rw [run_equalIn_array w 9999 xs ys hD hi, c3, List.range_eq_range']
              exact eqItems_sound c2 n 0 l l' b hb (by simpa using hx) (by simpa using hy)
            · cases hks
          · cases hks
      obtain ⟨hrun, c2⟩ := hrun
      simp only [Sem.run_bind, run_eqGuard_agg w op t x y xs ys c2, Result.andThen_ok]
      cases op <;> simp at h
      · subst h
        exact ⟨.bool b, by rw [run_eql_struct, hrun]; rfl, .ro .bool⟩
      · subst h
        exact ⟨.bool !b, by rw [run_neq_struct, hrun]; rfl, .ro .bool⟩
    · simp at h
  · simp at h
theorem slice_form {sz : Nat} {x : AV} {rows : List (List AV)} {v : Value} (h : elems G sz x = some rows) (hx : RV P w X φ G x v) : ∃ A n c, v = .slice A n c := by
  cases x with
  | rs r => obtain ⟨A, cap, h1, _⟩ := hx.rs_inv; exact ⟨A, _, cap, h1⟩
  | nils => exact ⟨none, 0, 0, hx.nils_inv⟩
  | nilc => obtain ⟨A, h1⟩ := hx.nilc_inv; exact ⟨A, 0, 0, h1⟩
  | nec => obtain ⟨A, h1⟩ := hx.nec_inv; exact ⟨some A, 0, 0, h1⟩
  | os id n =>
    simp only [elems] at h
    split at h
    · rename_i e nb rws hb
      split at h
      · rename_i hc
        cases hx with
        | ro h => cases h
        | os g0 hid hv =>
          rcases (hv e nb rws hb).2 hc.1.symm with ⟨_, _, ⟨A, rfl⟩, _⟩ | ⟨c, cap, cur, _, rfl, _⟩
          · exact ⟨A, 0, 0, rfl⟩
          · exact ⟨_, n, cap, rfl⟩
      · simp at h
    · simp at h
  | ow id n lo hi =>
    simp only [elems] at h
    split at h
    · rename_i e nb rws hb
      split at h
      · rename_i hc
        cases hx with
        | ro h => cases h
        | ow g0 hid hv =>
          obtain ⟨A, c, cap, cur, _, rfl, _⟩ := (hv e nb rws hb).2 hc.1.symm
          exact ⟨A, _, _, rfl⟩
      · simp at h
    · simp at h
  | _ => simp [elems] at h
theorem fill_rows (sz : Nat) : ∀ (ps : List (Nat × Operand)) (k : Nat) (rows : List (List AV)) (cs : List AV), ps.map (fun (p : Nat × Operand) => p.1) = List.range' k ps.length → ps.mapM (fun (p : Nat × Operand) => cellsN sz (ev T p.2)) = some rows →
    cs.length = (k + ps.length) * sz → fillA (fun i => some (i * sz, sz)) cs (ps.map fun p => (p.1, ev T p.2)) = some (cs.take (k * sz) ++ rows.flatten) := by
  intro ps
  induction ps with
  | nil =>
    intro k rows cs _ h hl
    simp at h
    subst h
    simp at hl
    simp only [List.map_nil, fillA, List.flatten_nil, List.append_nil]
    rw [List.take_of_length_le (by omega)]
  | cons p ps ih =>
    intro k rows cs hk h hl
    simp only [List.map_cons, List.length_cons, List.range'_succ, List.cons.injEq] at hk
    obtain ⟨hk1, hk2⟩ := hk
    rw [List.mapM_cons] at h
    cases hx : cellsN sz (ev T p.2) with
    | none => simp [hx] at h
    | some row =>
      cases hr : ps.mapM (fun (p : Nat × Operand) => cellsN sz (ev T p.2)) with
      | none => simp [hx, hr] at h
      | some rest =>
        simp [hx, hr] at h
        subst h
        have hrl := (cellsN_spec hx).2
        have e1 : (k + (ps.length + 1)) * sz = k * sz + sz + ps.length * sz := by rw [Nat.add_mul, Nat.add_mul]; omega
        simp only [List.length_cons] at hl
        simp only [List.map_cons, fillA, hk1, hx]
        have ho : over cs (k * sz) row = some (cs.take (k * sz) ++ row ++ cs.drop (k * sz + row.length)) := by
          unfold over; rw [if_pos (by omega)]
        rw [ho]
        have := ih (k + 1) rest (cs.take (k * sz) ++ row ++ cs.drop (k * sz + row.length)) (by simpa using hk2) hr (by simp [hrl]; rw [hl, e1, Nat.add_mul, Nat.add_mul]; omega)
        simp only [] at this ⊢
        rw [this]
        congr 1
        have e2 : (k + 1) * sz = k * sz + sz := by rw [Nat.add_mul]; omega
        rw [List.take_append_of_le_length (by simp [hrl]; omega), e2]
        rw [List.take_of_length_le (by simp [hrl]; omega)]
        simp
theorem flatten_get {sz : Nat} : ∀ {rows : List (List AV)}, (∀ row ∈ rows, row.length = sz) → ∀ (k j : Nat) row x, rows[k]? = some row → row[j]? = some x → rows.flatten[k * sz + j]? = some x := by
  intro rows
  induction rows with
  | nil => intro _ k j row x h; simp at h
  | cons r rows ih =>
    intro hal k j row x hk hj
    have hr := hal r (by simp)
    rw [List.flatten_cons]
    cases k with
    | zero =>
      simp at hk
      subst hk
      have := (List.getElem?_eq_some_iff.1 hj).1
      rw [List.getElem?_append_left (by omega)]
      simpa using hj
    | succ k =>
      rw [List.getElem?_append_right (by rw [Nat.add_mul]; omega)]
      rw [show (k + 1) * sz + j - r.length = k * sz + j by rw [Nat.add_mul]; omega]
      exact ih (fun row hm => hal row (by simp [hm])) k j row x (by simpa using hk) hj
theorem row_build {t len : Nat} {i te : Ty} (hi : ty P t = some i) (hu : P.underlying t = some (.slice i.elem)) (he : ty P i.elem = some te) (parts : Array (Nat × Operand)) (hl : parts.toList.map (fun (p : Nat × Operand) => p.1) = List.range len) (rows : List (List AV))
    (hrows : parts.toList.mapM (fun (p : Nat × Operand) => cellsN te.sz (ev T p.2)) = some rows) (hev : ∀ p ∈ parts.toList, RV P w X φ G (ev T p.2) (a.eval p.2)) (hlen : len ≤ 1000) (hsz : te.sz ≤ 1000) :
    ∃ us : Array Value, (Instr.buildSlice t len (parts.map fun (p : Nat × Operand) => (p.1, a.eval p.2))).run P w = .ok (.slice (some ⟨w.heap.size, 0, none⟩) len len) (w.alloc (.cells us i.elem)) ∧ us.size = len * te.sz ∧
      ∀ (k j : Nat) row x u, rows[k]? = some row → row[j]? = some x → us[k * te.sz + j]? = some u → RV P w X φ G x u ∧ u.oneCell' = true := by
  obtain ⟨z, z1, z2, z3, z4⟩ := zero_sound he w
  have hpl : parts.toList.length = len := by have := congrArg List.length hl; simpa using this
  obtain ⟨m1, m2⟩ := mapM_spec hrows
  have hrl : ∀ row ∈ rows, row.length = te.sz := fun row hm => by
    obtain ⟨j, hj, rfl⟩ := List.getElem_of_mem hm
    obtain ⟨y, q1, q2⟩ := m2 j (parts.toList[j]'(by omega)) (by simp)
    simp [hj] at q1
    rw [q1]
    exact (cellsN_spec q2).2
  -- the cells before they are filled
  obtain ⟨vs, hvs⟩ : ∃ vs : Array Value, vs = (Array.range (len * te.sz)).map (z.cells[· % z.cells.size]!) := ⟨_, rfl⟩
  have hvsz : vs.size = len * te.sz := by rw [hvs]; simp
  have hfa := fill_rows (T := T) te.sz parts.toList 0 rows (List.replicate (len * te.sz) .any) (by rw [hl, hpl, List.range_eq_range']) hrows (by simp [hpl])
  simp only [Nat.zero_mul, List.take_zero, List.nil_append] at hfa
  have hv1 : ∀ u ∈ vs.toList, u.oneCell' = true := fun u hu => by
    rw [hvs] at hu
    simp at hu
    obtain ⟨j, hj, rfl⟩ := hu
    have hp := ty_pos he
    have hlt : j % z.cells.size < z.cells.size := Nat.mod_lt _ (by omega)
    rw [getElem!_pos z.cells _ hlt]
    exact z3 _ (by simp)
  obtain ⟨us, k1, k2, k3, k4⟩ := fill_sound (P := P) (w := w) (X := X) (φ := φ) (G := G) (T := T) (a := a) he _ parts.toList _ vs rows.flatten hfa hev (by simp [hvsz]) hv1 (fun j x u hx _ => by
    rw [List.getElem?_replicate] at hx
    split at hx
    · simp at hx; subst hx; exact .ro .any
    · simp at hx)
  have hflen : rows.flatten.length = len * te.sz := by
    have : ∀ (l : List (List AV)), (∀ r ∈ l, r.length = te.sz) → l.flatten.length = l.length * te.sz := by
      intro l; induction l with
      | nil => simp
      | cons r l ih => intro h; rw [List.flatten_cons, List.length_append, ih (fun r hr => h r (by simp [hr])), h r (by simp), List.length_cons, Nat.add_mul]; omega
    rw [this rows hrl, m1, hpl]
  refine ⟨us, ?_, by rw [← k2]; exact hflen, fun k j row x u h1 h2 h3 => ⟨k4 _ x u (flatten_get hrl k j row x h1 h2) h3, k3 u (List.mem_of_getElem? (by simpa using h3))⟩⟩
  have hbig : ¬ (len * te.sz > 2 ^ 24) := by
    have : len * te.sz ≤ 1000 * 1000 := Nat.mul_le_mul hlen hsz
    omega
  have hparts : (parts.map fun (p : Nat × Operand) => (p.1, a.eval p.2)).toList = parts.toList.map fun p => (p.1, a.eval p.2) := by simp
  by_cases h0 : len * te.sz = 0
  · have hp := ty_pos he
    have hl0 : len = 0 := by rcases Nat.mul_eq_zero.1 h0 with h | h <;> omega
    have hp0 : parts.toList = [] := List.eq_nil_of_length_eq_zero (by omega)
    have hvs0 : vs = (Array.range 0).map (z.cells[· % z.cells.size]!) := by rw [hvs, h0]
    have hus : us = vs := by rw [hp0] at k1; simpa [Instr.fill] using k1.symm
    have hv0 : vs = #[] := Array.eq_empty_of_size_eq_zero (by rw [hvsz, h0])
    simp only [Instr.buildSlice, Sem.run_bind, run_underlying hu, run_sizeOf_ty he, Result.andThen_ok, if_neg hbig, h0, if_true, hparts, hp0, List.map_nil, Instr.fill, Sem.run_pure]
    rw [hus, hv0]
    simp [newRow, Array.range_zero']
  · simp only [Instr.buildSlice, Sem.run_bind, run_underlying hu, run_sizeOf_ty he, Result.andThen_ok, if_neg hbig, if_neg h0, z1, Sem.run_pure, hparts]
    rw [← hvs, k1]
    simp [newRow]
theorem bytesWorld_below (w : World) (e : TypeId) (b : ByteArray) : Below w.heap.size w (Lib.bytesWorld w e b) := by
  have h1 : Below w.heap.size w (w.drew.alloc (.cells (Lib.bytesCells w e b) e)) := ((Below.refl _ _).drew).alloc (by simp) _
  exact ⟨h1.os, h1.tape, h1.output, by rw [Lib.bytesWorld_size]; omega, fun k hk => Lib.bytesWorld_at_old w e b k hk⟩
theorem unbytes_spec : ∀ {rows : List (List AV)} {q : List UInt8}, unbytes rows = some q → ∃ xs : List Int, q = xs.map (fun n => UInt8.ofNat n.toNat) ∧ rows = xs.map fun n => [.int .u8 n] := by
  intro rows
  induction rows with
  | nil => intro q h; simp [unbytes] at h; subst h; exact ⟨[], rfl, rfl⟩
  | cons r rows ih =>
    intro q h
    simp only [unbytes] at h
    split at h
    · rename_i n q' hq'
      simp at h
      subst h
      obtain ⟨xs, k1, k2⟩ := ih hq'
      exact ⟨n :: xs, by simp [k1], by simp [k2]⟩
    · simp at h
/-- The bounds of a slice expression. -/
theorem slice_bounds {lo hi : Option Operand} {l hh d : Int} {n cap : Nat} (e1 : bound T 0 lo = some l) (e2 : bound T d hi = some hh) (hlo : ∀ y, lo = some y → RV P w X φ G (ev T y) (a.eval y)) (hhi : ∀ y, hi = some y → RV P w X φ G (ev T y) (a.eval y))
    (hd : d = (n : Int)) (h1 : 0 ≤ l) (h2 : l ≤ hh) (h3 : hh ≤ cap) : (Instr.sliceBounds true n cap (lo.map a.eval) (hi.map a.eval) none).run P w = .ok (l.toNat, hh.toNat, cap) w := by
  have b1 := bound_sound e1 hlo
  have b2 := bound_sound e2 hhi
  have run1 : ∀ k, (Instr.sliceBound (.int k l) hh.toNat .sliceB).run P w = .ok l.toNat w := fun k => run_sliceBound w k l hh.toNat .sliceB h1 (by omega)
  have run2 : ∀ k, (Instr.sliceBound (.int k hh) cap .sliceAcap).run P w = .ok hh.toNat w := fun k => run_sliceBound w k hh cap .sliceAcap (by omega) (by omega)
  rcases b2 with ⟨rfl, hh0⟩ | ⟨y2, k2, rfl, q2⟩
  · have e : n = hh.toNat := by omega
    subst e
    rcases b1 with ⟨rfl, hl0⟩ | ⟨y1, k1, rfl, q1⟩
    · subst hl0
      simp [Instr.sliceBounds]
    · simp [Instr.sliceBounds, q1, run1]
  · rcases b1 with ⟨rfl, hl0⟩ | ⟨y1, k1, rfl, q1⟩
    · subst hl0
      simp [Instr.sliceBounds, q2, run2]
    · simp [Instr.sliceBounds, q1, q2, run1, run2]
set_option maxHeartbeats 2000000 in
/-- Every operation that calls no function. -/
theorem nilm_inv {v : Value} (h : RV P w X φ G .nilm v) : v = .map none := by cases h with | ro h => cases h; rfl
theorem run_newObjA (o : Obj) (w : World) : (newObj o).run P w = .ok w.heap.size (w.alloc o) := rfl
theorem eop_sound {o : Oper} {v : AV} {u : Upd} (hr : HR P w0 X w φ G) (h : eop P o ⟨T, H⟩ = some (v, u)) (hev : ∀ x ∈ o.op.operands.toList, RV P w X φ G (ev T x) (a.eval x))
    (hG : sens o.op = true → ∀ (id : Nat) b, H[id]? = some b → G[id]? = some b) (hnew : ∀ b, u = .new b → G[H.length]? = some b ∧ φ H.length = none) : Eff P w0 X φ G w u H.length v ((execOp a.eval o).run P w) := by
  obtain ⟨dst, op, tyo, pos, after, guard⟩ := o
  cases op
  case move x =>
    simp [eop] at h
    obtain ⟨rfl, rfl⟩ := h
    exact eff_pure hr (x := a.eval x) (by simp [execOp]) (hev x (by simp [Op.operands]))
  case assign x =>
    simp [eop] at h
    obtain ⟨rfl, rfl⟩ := h
    exact eff_pure hr (x := a.eval x) (by simp [execOp]) (hev x (by simp [Op.operands]))
  case pick c x y =>
    simp only [eop] at h
    split at h
    · rename_i b hb
      simp at h
      obtain ⟨rfl, rfl⟩ := h
      have hc := hev c (by simp [Op.operands])
      rw [hb] at hc
      have hx := hev x (by simp [Op.operands])
      have hy := hev y (by simp [Op.operands])
      cases b
      · exact eff_pure hr (x := a.eval y) (by simp [execOp, hc.bool_inv, asBool]) (by simpa using hy)
      · exact eff_pure hr (x := a.eval x) (by simp [execOp, hc.bool_inv, asBool]) (by simpa using hx)
    · simp at h
  case alloc t =>
    simp only [eop] at h
    split at h
    · rename_i i hi
      simp at h
      obtain ⟨rfl, rfl⟩ := h
      obtain ⟨hb, hφ⟩ := hnew _ rfl
      obtain ⟨z, z1, z2, z3, z4⟩ := zero_sound hi w
      exact newVar_sound hr (v := z) (by rw [z2, ty_zlen hi]) z3 (fun j x u hx hu => z4 w X φ G j x u hx hu) hb hφ (by simp [execOp, Instr.alloc, z1, newVar, newRow])
    · simp at h
  case box t x =>
    simp only [eop] at h
    split at h
    · rename_i i hi
      split at h
      · rename_i cs hcs
        simp at h
        obtain ⟨rfl, rfl⟩ := h
        obtain ⟨hb, hφ⟩ := hnew _ rfl
        obtain ⟨k1, k2⟩ := cellsN_spec hcs
        obtain ⟨l1, l2, l3⟩ := (hev x (by simp [Op.operands])).cells k1
        exact newVar_sound hr (v := a.eval x) l1 l2 l3 hb hφ (by simp [execOp, Instr.box, newVar, newRow])
      · simp at h
    · simp at h
  case build t parts =>
    simp only [eop] at h
    split at h
    · rename_i i hi
      split at h
      · rename_i hag
        split at h
        · rename_i c hc
          simp at h
          obtain ⟨rfl, rfl⟩ := h
          obtain ⟨us, k1, k2⟩ := build_sound (P := P) (w := w) (X := X) (φ := φ) (G := G) (T := T) (a := a) hi hag hc (fun p hp => hev p.2 (by simp only [Op.operands]; simp; exact ⟨p.1, by simpa using hp⟩))
          refine eff_pure hr (x := .agg us) ?_ k2
          have e : (parts.map fun (x : Nat × Operand) => (x.1, a.eval x.2)) = (parts.toList.map fun p => (p.1, a.eval p.2)).toArray := by rw [← List.map_toArray, Array.toArray_toList]
          simp only [execOp, Sem.run_bind]
          rw [e, k1]
          rfl
        · simp at h
      · simp at h
    · simp at h
  case load t x =>
    simp only [eop] at h
    split at h
    · rename_i i cs hi hcs
      obtain ⟨h1, rfl⟩ := same_spec h
      have hcs := rd_mono (hG rfl) hcs
      obtain ⟨b, k1, k2⟩ := rd_sound hr hcs (hev x (by simp [Op.operands]))
      obtain ⟨u, k3, k4⟩ := load_sound hi k2 h1
      exact eff_pure hr (x := u) (by simp [execOp, Instr.loadAt, k1, Instr.sureAddr, k3]) k4
    · simp at h
  case store t x y =>
    simp only [eop] at h
    split at h
    · rename_i i hi
      split at h
      · rename_i cs hcs
        split at h
        · rename_i u' hu'
          simp at h
          obtain ⟨rfl, rfl⟩ := h
          have hu' := wr_mono (hG rfl) hu'
          obtain ⟨k1, k2⟩ := cellsN_spec hcs
          obtain ⟨l1, l2, l3⟩ := (hev y (by simp [Op.operands])).cells k1
          exact store_sound hr hi hu' (hev x (by simp [Op.operands])) k2 (v := a.eval y) l1 l2 l3 fun b w' h1 h2 => by simp [execOp, Instr.storeAt, h1, Instr.sureAddr, h2]
        · simp at h
      · simp at h
    · simp at h
  case nilCheck x =>
    simp only [eop] at h
    split at h
    · rename_i cs hcs
      simp at h
      obtain ⟨rfl, rfl⟩ := h
      have hx := hev x (by simp [Op.operands])
      obtain ⟨b, k1, _⟩ := rd_sound hr (rd_mono (hG rfl) hcs) hx
      exact eff_pure hr (x := a.eval x) (by simp [execOp, k1]) hx
    · simp at h
  case binOp op t x y ty' =>
    simp only [eop] at h
    have hx := hev x (by simp [Op.operands])
    have hy := hev y (by simp [Op.operands])
    split at h
    · rename_i hnil
      split at h
      · rename_i i hi
        split at h
        · rename_i hsl
          obtain ⟨h1, rfl⟩ := same_spec h
          have hu := ty_sl hi hsl
          have hye : a.eval y = .slice none 0 0 := by
            unfold isNilS at hnil
            split at hnil
            · rfl
            · simp at hnil
          unfold nilCmp at h1
          split at h1
          · rename_i rows hrows
            split at h1
            · simp at h1
            · rename_i hne
              rw [hrows] at hx
              obtain ⟨b, n, cap, hxe⟩ : ∃ b n cap, a.eval x = .slice (some b) n cap := by
                cases hx with
                | ro h => generalize a.eval x = q at h; cases h with
                  | @rs _ A n cap sz f hn hcap hA hxx =>
                    cases rows with
                    | nil => simp at hne
                    | cons r rs =>
                      obtain ⟨_, b, rfl, _⟩ := hA 0 r (by simp)
                      exact ⟨b, n, cap, rfl⟩
              have heq : (Op.equalIn (9999 + 1) t (.slice (some b) n cap) (.slice none 0 0)).run P w = .ok false w := by unfold Op.equalIn; simp [run_underlying hu]
              cases op <;> simp at h1
              · subst h1
                refine eff_pure hr (x := .bool false) ?_ (.ro .bool)
                have e1 : binOp .eql t (.slice (some b) n cap) (.slice none 0 0) = (do pure (.bool (← Op.equalIn (9999 + 1) t (.slice (some b) n cap) (.slice none 0 0)))) := rfl
                simp only [execOp]
                rw [hxe, hye, e1]
                simp only [Sem.run_bind, show (eqGuard .eql t x y (.slice (some b) n cap) (.slice none 0 0)).run P w = .ok () w from rfl, Result.andThen_ok, heq, Sem.run_pure]
              · subst h1
                refine eff_pure hr (x := .bool true) ?_ (.ro .bool)
                have e1 : binOp .neq t (.slice (some b) n cap) (.slice none 0 0) = (do pure (.bool (!(← Op.equalIn (9999 + 1) t (.slice (some b) n cap) (.slice none 0 0))))) := rfl
                simp only [execOp]
                rw [hxe, hye, e1]
                simp only [Sem.run_bind, show (eqGuard .neq t x y (.slice (some b) n cap) (.slice none 0 0)).run P w = .ok () w from rfl, Result.andThen_ok, heq, Sem.run_pure]
                rfl
          · rename_i hrows
            rw [hrows] at hx
            have hxe := hx.nils_inv
            have heq : (Op.equalIn (9999 + 1) t (.slice none 0 0) (.slice none 0 0)).run P w = .ok true w := by unfold Op.equalIn; simp [run_underlying hu]
            cases op <;> simp at h1
            · subst h1
              refine eff_pure hr (x := .bool true) ?_ (.ro .bool)
              have e1 : binOp .eql t (.slice none 0 0) (.slice none 0 0) = (do pure (.bool (← Op.equalIn (9999 + 1) t (.slice none 0 0) (.slice none 0 0)))) := rfl
              simp only [execOp]
              rw [hxe, hye, e1]
              simp only [Sem.run_bind, show (eqGuard .eql t x y (.slice none 0 0) (.slice none 0 0)).run P w = .ok () w from rfl, Result.andThen_ok, heq, Sem.run_pure]
            · subst h1
              refine eff_pure hr (x := .bool false) ?_ (.ro .bool)
              have e1 : binOp .neq t (.slice none 0 0) (.slice none 0 0) = (do pure (.bool (!(← Op.equalIn (9999 + 1) t (.slice none 0 0) (.slice none 0 0))))) := rfl
              simp only [execOp]
              rw [hxe, hye, e1]
              simp only [Sem.run_bind, show (eqGuard .neq t x y (.slice none 0 0) (.slice none 0 0)).run P w = .ok () w from rfl, Result.andThen_ok, heq, Sem.run_pure]
              rfl
          · rename_i hrows
            rw [hrows] at hx
            obtain ⟨b, hxe⟩ := hx.nec_inv
            have heq : (Op.equalIn (9999 + 1) t (.slice (some b) 0 0) (.slice none 0 0)).run P w = .ok false w := by unfold Op.equalIn; simp [run_underlying hu]
            cases op <;> simp at h1
            · subst h1
              refine eff_pure hr (x := .bool false) ?_ (.ro .bool)
              have e1 : binOp .eql t (.slice (some b) 0 0) (.slice none 0 0) = (do pure (.bool (← Op.equalIn (9999 + 1) t (.slice (some b) 0 0) (.slice none 0 0)))) := rfl
              simp only [execOp]
              rw [hxe, hye, e1]
              simp only [Sem.run_bind, show (eqGuard .eql t x y (.slice (some b) 0 0) (.slice none 0 0)).run P w = .ok () w from rfl, Result.andThen_ok, heq, Sem.run_pure]
            · subst h1
              refine eff_pure hr (x := .bool true) ?_ (.ro .bool)
              have e1 : binOp .neq t (.slice (some b) 0 0) (.slice none 0 0) = (do pure (.bool (!(← Op.equalIn (9999 + 1) t (.slice (some b) 0 0) (.slice none 0 0))))) := rfl
              simp only [execOp]
              rw [hxe, hye, e1]
              simp only [Sem.run_bind, show (eqGuard .neq t x y (.slice (some b) 0 0) (.slice none 0 0)).run P w = .ok () w from rfl, Result.andThen_ok, heq, Sem.run_pure]
              rfl
          · rename_i id n hos
            split at h1
            · rename_i e nb rows hb
              split at h1
              · rename_i hc
                rw [hos] at hx
                have hsen : sens (.binOp op t x y ty') = true := by
                  unfold isNilS at hnil
                  split at hnil
                  · rfl
                  · simp at hnil
                have hb := hG hsen id _ hb
                obtain ⟨b, cap, hxe⟩ : ∃ b cap, a.eval x = .slice (some b) n cap := by
                  cases hx with
                  | ro h => cases h
                  | os g0 hid hv =>
                    rcases (hv e nb rows hb).2 hc.1.symm with ⟨k1, _, _, k2⟩ | ⟨c, cap, cur, _, k3, _⟩
                    · rcases hc.2 with q | q
                      · rw [q] at k1; simp at k1
                      · omega
                    · exact ⟨_, cap, k3⟩
                have heq : (Op.equalIn (9999 + 1) t (.slice (some b) n cap) (.slice none 0 0)).run P w = .ok false w := by unfold Op.equalIn; simp [run_underlying hu]
                cases op <;> simp at h1
                · subst h1
                  refine eff_pure hr (x := .bool false) ?_ (.ro .bool)
                  have e1 : binOp .eql t (.slice (some b) n cap) (.slice none 0 0) = (do pure (.bool (← Op.equalIn (9999 + 1) t (.slice (some b) n cap) (.slice none 0 0)))) := rfl
                  simp only [execOp]
                  rw [hxe, hye, e1]
                  simp only [Sem.run_bind, show (eqGuard .eql t x y (.slice (some b) n cap) (.slice none 0 0)).run P w = .ok () w from rfl, Result.andThen_ok, heq, Sem.run_pure]
                · subst h1
                  refine eff_pure hr (x := .bool true) ?_ (.ro .bool)
                  have e1 : binOp .neq t (.slice (some b) n cap) (.slice none 0 0) = (do pure (.bool (!(← Op.equalIn (9999 + 1) t (.slice (some b) n cap) (.slice none 0 0))))) := rfl
                  simp only [execOp]
                  rw [hxe, hye, e1]
                  simp only [Sem.run_bind, show (eqGuard .neq t x y (.slice (some b) n cap) (.slice none 0 0)).run P w = .ok () w from rfl, Result.andThen_ok, heq, Sem.run_pure]
                  rfl
              · simp at h1
            · simp at h1
          · simp at h1
        · simp at h
      · simp at h
    split at h
    · rename_i hnilm
      have hye : a.eval y = .map none := by
        unfold isNilM at hnilm
        split at hnilm
        · rfl
        · simp at hnilm
      have hsen : sens (.binOp op t x y ty') = true := by
        unfold isNilM at hnilm
        split at hnilm
        · rfl
        · simp at hnilm
      split at h
      · rename_i zk hzk
        obtain ⟨kt, et, zv, hu, _⟩ := mapTy_spec (z := zk.1) (ks := zk.2) hzk
        obtain ⟨h1, rfl⟩ := same_spec h
        unfold nilCmpM at h1
        split at h1
        · rename_i hxe
          rw [hxe] at hx
          have hve : a.eval x = .map none := nilm_inv hx
          have heq : (Op.equalIn (9999 + 1) t (.map none) (.map none)).run P w = .ok true w := by unfold Op.equalIn; simp [run_underlying hu]
          cases op <;> simp at h1
          · subst h1
            refine eff_pure hr (x := .bool true) ?_ (.ro .bool)
            have e1 : binOp .eql t (.map none) (.map none) = (do pure (.bool (← Op.equalIn (9999 + 1) t (.map none) (.map none)))) := rfl
            simp only [execOp]
            rw [hve, hye, e1]
            simp only [Sem.run_bind, show (eqGuard .eql t x y (.map none) (.map none)).run P w = .ok () w from rfl, Result.andThen_ok, heq, Sem.run_pure]
          · subst h1
            refine eff_pure hr (x := .bool false) ?_ (.ro .bool)
            have e1 : binOp .neq t (.map none) (.map none) = (do pure (.bool (!(← Op.equalIn (9999 + 1) t (.map none) (.map none))))) := rfl
            simp only [execOp]
            rw [hve, hye, e1]
            simp only [Sem.run_bind, show (eqGuard .neq t x y (.map none) (.map none)).run P w = .ok () w from rfl, Result.andThen_ok, heq, Sem.run_pure]
            rfl
        · rename_i id hxe
          split at h1
          · rename_i es hb
            rw [hxe] at hx
            obtain ⟨c, hve⟩ : ∃ c, a.eval x = .map (some c) := by
              cases hx with
              | ro h => cases h
              | mp g0 hid hv =>
                obtain ⟨c, _, hve⟩ := hv es (hG hsen _ _ hb)
                exact ⟨c, hve⟩
            have heq : (Op.equalIn (9999 + 1) t (.map (some c)) (.map none)).run P w = .ok false w := by unfold Op.equalIn; simp [run_underlying hu]
            cases op <;> simp at h1
            · subst h1
              refine eff_pure hr (x := .bool false) ?_ (.ro .bool)
              have e1 : binOp .eql t (.map (some c)) (.map none) = (do pure (.bool (← Op.equalIn (9999 + 1) t (.map (some c)) (.map none)))) := rfl
              simp only [execOp]
              rw [hve, hye, e1]
              simp only [Sem.run_bind, show (eqGuard .eql t x y (.map (some c)) (.map none)).run P w = .ok () w from rfl, Result.andThen_ok, heq, Sem.run_pure]
            · subst h1
              refine eff_pure hr (x := .bool true) ?_ (.ro .bool)
              have e1 : binOp .neq t (.map (some c)) (.map none) = (do pure (.bool (!(← Op.equalIn (9999 + 1) t (.map (some c)) (.map none))))) := rfl
              simp only [execOp]
              rw [hve, hye, e1]
              simp only [Sem.run_bind, show (eqGuard .neq t x y (.map (some c)) (.map none)).run P w = .ok () w from rfl, Result.andThen_ok, heq, Sem.run_pure]
              rfl
          · simp at h1
        · simp at h1
      · simp at h
    obtain ⟨h1, rfl⟩ := same_spec h
    unfold ebinT at h1
    split at h1
    · rename_i l l' e1 e2
      rw [e1] at hx
      rw [e2] at hy
      obtain ⟨vs, a1, a2, _, a3⟩ := hx.agg_inv
      obtain ⟨us, b1, b2, _, b3⟩ := hy.agg_inv
      have ex : ∀ {l : List AV} {vs : Array Value}, l.length = vs.size → (∀ (j : Nat) x u, l[j]? = some x → vs[j]? = some u → RV P w X φ G x u) → ∀ (j : Nat) x, l[j]? = some x → ∃ u, vs[j]? = some u ∧ RV P w X φ G x u := fun {l vs} hl h j x hj => by
        have hlt : j < vs.size := by rw [← hl]; exact (List.getElem?_eq_some_iff.1 hj).1
        exact ⟨vs[j], by simp [hlt], h j x _ hj (by simp [hlt])⟩
      obtain ⟨u, k1, k2⟩ := eqAgg_sound (x := x) (y := y) h1 (ex a2 a3) (ex b2 b3)
      refine eff_pure hr (x := u) ?_ k2
      simp only [execOp]
      rw [a1, b1, Sem.run_bind, k1]
      rfl
    · rename_i p q e1 e2
      rw [e1] at hx
      rw [e2] at hy
      have hxe := hx.bool_inv
      have hye := hy.bool_inv
      split at h1
      · rename_i hk
        have hu : P.underlying t = some .bool := by
          unfold skind at hk
          split at hk <;> simp at hk
          assumption
        split at h1
        · simp at h1; subst h1
          refine eff_pure hr (x := .bool (p == q)) ?_ (.ro .bool)
          simp only [execOp]
          rw [hxe, hye]
          simp only [Sem.run_bind, show (eqGuard .eql t x y (.bool p) (.bool q)).run P w = .ok () w from rfl, Result.andThen_ok, run_eql_bool w t p q hu, Sem.run_pure]
        · simp at h1; subst h1
          refine eff_pure hr (x := .bool (!(p == q))) ?_ (.ro .bool)
          simp only [execOp]
          rw [hxe, hye]
          simp only [Sem.run_bind, show (eqGuard .neq t x y (.bool p) (.bool q)).run P w = .ok () w from rfl, Result.andThen_ok, run_neq_bool w t p q hu, Sem.run_pure]
        · simp at h1
      · simp at h1
    unfold ebin at h1
    split at h1
    · rename_i k m k' n e1 e2
      rw [e1] at hx
      rw [e2] at hy
      obtain ⟨u, k1, k2⟩ := int_wrap_run (P := P) (w := w) (X := fun b => X b ∨ ∃ id, φ id = some b) (t := t) (x := x) (y := y) (op := op) (k := k) (k' := k') (m := m) (n := n) (v := v) (by unfold ebin; exact h1)
      refine eff_pure hr (x := u) ?_ (.ro k2)
      simp only [execOp]
      rw [hx.int_inv, hy.int_inv, Sem.run_bind, k1]
      rfl
    · rename_i m n e1 e2
      rw [e1] at hx
      rw [e2] at hy
      obtain ⟨u, k1, k2⟩ := str_run (P := P) (w := w) (X := fun b => X b ∨ ∃ id, φ id = some b) (t := t) (x := x) (y := y) (op := op) (m := m) (n := n) (v := v) (by unfold ebin; exact h1)
      refine eff_pure hr (x := u) ?_ (.ro k2)
      simp only [execOp]
      rw [hx.str_inv, hy.str_inv, Sem.run_bind, k1]
      rfl
    · simp at h1
  case unOp op t x =>
    simp only [eop] at h
    obtain ⟨h1, rfl⟩ := same_spec h
    have hx := hev x (by simp [Op.operands])
    unfold eun at h1
    split at h1
    · rename_i k n e1
      simp at h1
      subst h1
      rw [e1] at hx
      rw [wrapI_eq]
      exact eff_pure hr (by simp [execOp, hx.int_inv, Op.unary, Op.intArith]) (.ro .int)
    · rename_i b e1
      simp at h1
      subst h1
      rw [e1] at hx
      exact eff_pure hr (by simp [execOp, hx.bool_inv, Op.unary]) (.ro .bool)
    · simp at h1
  case convert src dst' x =>
    simp only [eop] at h
    have hx := hev x (by simp [Op.operands])
    split at h
    · rename_i i d k n hi hd e1
      split at h
      · rename_i k' hk'
        simp at h
        obtain ⟨rfl, rfl⟩ := h
        rw [e1] at hx
        have hu := ty_int hd hk'
        obtain ⟨inf, z, dd, pl, es, q1, q2, _⟩ := (ty_is hi).ex
        rw [wrapI_eq]
        refine eff_pure hr (x := .int k' (k'.wrap n)) ?_ (.ro .int)
        simp only [execOp, hx.int_inv, Sem.run_bind, convert, run_underlying q2, run_underlying hu, Result.andThen_ok]
        cases dd <;> simp [Conv.intToInt]
      · split at h
        · rename_i hstr
          simp at h
          obtain ⟨rfl, rfl⟩ := h
          rw [e1] at hx
          have hu := ty_str hd hstr
          obtain ⟨inf, z, dd, pl, es, q1, q2, _⟩ := (ty_is hi).ex
          refine eff_pure hr (x := .string (Utf8.encode n)) ?_ (.ro .str)
          simp only [execOp, hx.int_inv, Sem.run_bind, convert, run_underlying q2, run_underlying hu, Result.andThen_ok]
          cases dd <;> simp [Conv.intToString]
        · simp at h
    · rename_i i d b hi hd e1
      split at h
      · rename_i hstr
        simp at h
        obtain ⟨rfl, rfl⟩ := h
        rw [e1] at hx
        have hu := ty_str hd hstr
        obtain ⟨inf, z, dd, pl, es, q1, q2, _⟩ := (ty_is hi).ex
        refine eff_pure hr (x := .string b) ?_ (.ro .str)
        simp only [execOp, hx.str_inv, Sem.run_bind, convert, run_underlying q2, run_underlying hu, Result.andThen_ok]
        cases dd <;> simp
      · split at h
        · rename_i hsl
          split at h
          · rename_i te hte
            split at h
            · rename_i hc
              simp at h
              obtain ⟨rfl, rfl⟩ := h
              rw [e1] at hx
              have hu := ty_sl hd hsl
              obtain ⟨inf, z, dd, pl, es, q1, q2, _⟩ := (ty_is hi).ex
              have hrun := Lib.run_convert_string_bytes (P := P) w src dst' d.elem b q2 hu (ty_int hte hc.1)
              have hb := bytesWorld_below w d.elem b
              refine ⟨.slice (some ⟨w.heap.size, 0, none⟩) b.size (grownCap w b.size 0 d.elem), _, φ, .inl (by simp only [execOp, hx.str_inv, hrun, Sem.run_bind, Result.andThen_ok, Sem.run_pure]), hr_below hr hb, turn_below hr hb, .ro ?_, fun _ h _ _ => ⟨h, rfl⟩⟩
              have hsz : (bytesRows b).length = b.size := by simp [bytesRows]
              refine .rs 1 (fun i _ => .int .u8 (b.data.toList.getD i 0).toNat) hsz (grownCap_ge w b.size 0 d.elem) (fun i row hir => ?_) (fun i j row y hir hj => ?_)
              · have hlt : i < b.size := by rw [← hsz]; exact (List.getElem?_eq_some_iff.1 hir).1
                simp only [bytesRows, List.getElem?_map, Option.map_eq_some_iff] at hir
                obtain ⟨c, hc1, rfl⟩ := hir
                refine ⟨rfl, _, rfl, by simp [Lib.bytesWorld_size], ?_, fun j hj => ?_⟩
                · rintro (hX | ⟨id, hid⟩)
                  · have := (hr.ext _ hX).1; simp at this
                  · have := (hr.own _ _ hid).2.1; simp at this
                · have : j = 0 := by omega
                  subst this
                  rw [add_noneA, Nat.zero_add, Nat.mul_one, Nat.add_zero]
                  exact ⟨Lib.bytesWorld_cell w d.elem b i hlt, rfl⟩
              · simp only [bytesRows, List.getElem?_map, Option.map_eq_some_iff] at hir
                obtain ⟨c, hc1, rfl⟩ := hir
                cases j with
                | zero =>
                  simp at hj
                  subst hj
                  rw [List.getD_eq_getElem?_getD, hc1]
                  exact .int
                | succ j => simp at hj
            · simp at h
          · simp at h
        · simp at h
    · rename_i x' i d hi hd hn1 hn2
      split at h
      · rename_i hc0
        split at h
        · rename_i te rows hte hel
          split at h
          · rename_i hc
            split at h
            · rename_i q hq
              simp at h
              obtain ⟨rfl, rfl⟩ := h
              have hu := ty_sl hi hc0.1
              have hus := ty_str hd hc0.2
              have hel := elems_mono (hG rfl) hel
              obtain ⟨hal, A, c, hyv, _, hcell⟩ := elems_sound (P := P) (e := 0) (i := te) hr (by omega : 0 < 1) hel hx
              refine eff_pure hr (x := .string ⟨q.toArray⟩) ?_ (.ro .str)
              obtain ⟨xs, rfl, hxs⟩ := unbytes_spec hq
              have hlen : rows.length = xs.length := by rw [hxs]; simp
              cases A with
              | none =>
                have h0 : xs = [] := by
                  cases xs with
                  | nil => rfl
                  | cons r l => obtain ⟨b, hb, _⟩ := hcell (by rw [hlen]; simp); cases hb
                subst h0
                have := run_convert_bytes_nil (P := P) w src i.elem hu (ty_int hte hc.1) rows.length c dst' hus
                simp only [execOp, hyv, Sem.run_bind, this, Result.andThen_ok, Sem.run_pure]
                rfl
              | some b =>
                have hl : (loadCells b rows.length).run P w = .ok (xs.map (Value.int .u8)).toArray w := by
                  have := run_loadCells_list (P := P) w b (xs.map (Value.int .u8)) (fun j v hj => by
                    rw [List.getElem?_map, Option.map_eq_some_iff] at hj
                    obtain ⟨n, hn, rfl⟩ := hj
                    have hjr : rows[j]? = some [.int .u8 n] := by rw [hxs, List.getElem?_map, hn]; rfl
                    obtain ⟨b', hb', hcc⟩ := hcell (by have := (List.getElem?_eq_some_iff.1 hjr).1; omega)
                    cases hb'
                    obtain ⟨u, k1, k2, k3⟩ := hcc j 0 _ _ hjr (by simp; rfl)
                    rw [Nat.mul_one, Nat.add_zero] at k1
                    rw [k1, k3.int_inv])
                  simpa [hlen] using this
                have hb2 := run_bytesToString (P := P) w b rows.length c xs hl
                have h3 := run_convert_bytes_string (P := P) w src dst' i.elem (some b) rows.length c hu (ty_int hte hc.1) hus
                simp only [execOp, hyv, Sem.run_bind, h3, hb2, Result.andThen_ok, Sem.run_pure, foldl_push_bytes]
                simp [ByteArray.empty, ByteArray.emptyWithCapacity]
                rfl
            · simp at h
          · simp at h
        · simp at h
      · simp at h
    · simp at h
  case makeFunc fn first caps =>
    cases fn <;> simp only [eop] at h <;> try (simp at h; done)
    rename_i f
    split at h
    · rename_i h0
      simp at h
      obtain ⟨rfl, rfl⟩ := h
      have hf : first = #[] := Array.eq_empty_of_size_eq_zero h0
      subst hf
      refine eff_pure hr (x := .func (.func f) #[] (caps.map a.eval)) (by simp [execOp, Instr.makeFunc]) (.fn (by simp) fun j x u hx hu => ?_)
      refine args_len (P := P) (w := w) (X := X) (φ := φ) (G := G) (T := T) (a := a) (args := caps.toList) (fun x hx => hev x (by simp only [Op.operands]; simpa using hx)) j x u hx ?_
      simpa using hu
    · split at h
      · rename_i h0
        simp at h
        obtain ⟨rfl, rfl⟩ := h
        have hf : caps = #[] := Array.eq_empty_of_size_eq_zero h0.1
        subst hf
        refine eff_pure hr (x := .func (.func f) (first.map a.eval) #[]) (by simp [execOp, Instr.makeFunc]) (.ro (.fb (by simp) fun j x u hx hu => ?_))
        refine RV.ro_of (P := P) (H := G) ?_ (ownsL_get h0.2 j x hx)
        refine args_len (P := P) (w := w) (X := X) (φ := φ) (G := G) (T := T) (a := a) (args := first.toList) (fun x hx => hev x (by simp only [Op.operands]; simpa using hx)) j x u hx ?_
        simpa using hu
      · simp at h
  case extract x k =>
    simp only [eop] at h
    split at h
    · rename_i l hl
      obtain ⟨h1, rfl⟩ := same_spec h
      have hx := hev x (by simp [Op.operands])
      rw [hl] at hx
      obtain ⟨vs, k1, k2, k3⟩ := hx.tup_inv
      have hlt : k < vs.size := by rw [← k2]; exact (List.getElem?_eq_some_iff.1 h1).1
      exact eff_pure hr (x := vs[k]) (by simp [execOp, k1, Instr.extract, hlt]) (k3 k v _ h1 (by simp [hlt]))
    · simp at h
  case buildSlice t len parts =>
    simp only [eop] at h
    split at h
    · rename_i i hi
      split at h
      · rename_i hsl
        split at h
        · rename_i te he
          split at h
          · rename_i rows hrows
            split at h
            · rename_i hc
              obtain ⟨hc1, hc2, hc3⟩ := hc
              obtain ⟨m1, m2⟩ := mapM_spec hrows
              have hpl : parts.toList.length = len := by have := congrArg List.length hc1; simpa using this
              have hu := ty_sl hi hsl
              have hce : P.cellsOf i.elem = te.sz := ty_cells he
              have hlen : rows.length = len := by omega
              have hrl : ∀ row ∈ rows, row.length = te.sz := fun row hm => by
                obtain ⟨j, hj, rfl⟩ := List.getElem_of_mem hm
                obtain ⟨y, q1, q2⟩ := m2 j parts.toList[j] (by simp)
                simp [hj] at q1
                rw [q1]
                exact (cellsN_spec q2).2
              obtain ⟨us, k1, k2, k3⟩ := row_build (P := P) (w := w) (X := X) (φ := φ) (G := G) (T := T) (a := a) hi hu he parts hc1 rows hrows (fun p hp => hev p.2 (by simp only [Op.operands]; simp; exact ⟨p.1, by simpa using hp⟩)) hc2 hc3
              by_cases hq0 : len = 0
              · rw [if_pos hq0] at h
                simp at h
                obtain ⟨rfl, rfl⟩ := h
                have hbw : Below w.heap.size w (w.alloc (.cells us i.elem)) := (Below.refl _ w).alloc (Nat.le_refl _) _
                subst hq0
                exact ⟨.slice (some ⟨w.heap.size, 0, none⟩) 0 0, w.alloc (.cells us i.elem), φ, .inl (by simp only [execOp, Sem.run_bind]; rw [k1]; rfl), hr_below hr hbw, turn_below hr hbw, .ro .nec, fun _ h _ _ => ⟨h, rfl⟩⟩
              rw [if_neg hq0] at h
              by_cases hq : te.sl = true ∧ (rows.all fun r => r.all roS) = true
              · rw [if_pos hq] at h
                simp at h
                obtain ⟨rfl, rfl⟩ := h
                have hbw : Below w.heap.size w (w.alloc (.cells us i.elem)) := (Below.refl _ w).alloc (Nat.le_refl _) _
                have hnewb : (w.alloc (.cells us i.elem)).heap[w.heap.size]? = some (.cells us i.elem (0, 0)) := heap_alloc_new w _
                refine ⟨.slice (some ⟨w.heap.size, 0, none⟩) len len, w.alloc (.cells us i.elem), φ, .inl (by simp only [execOp, Sem.run_bind]; rw [k1]; rfl), hr_below hr hbw, turn_below hr hbw, .ro ?_, fun _ h _ _ => ⟨h, rfl⟩⟩
                have hro : ∀ row ∈ rows, ∀ x ∈ row, roS x = true := by simpa [List.all_eq_true] using hq.2
                refine .rs te.sz (fun k j => us.getD (k * te.sz + j) undef) hlen (Nat.le_refl _) (fun k row hk => ?_) (fun k j row x hk hj => ?_)
                · have hkl := (List.getElem?_eq_some_iff.1 hk).1
                  refine ⟨hrl row (List.mem_of_getElem? hk), _, rfl, by simp, ?_, fun j hj => ?_⟩
                  · rintro (hX | ⟨id, hid⟩)
                    · have := (hr.ext _ hX).1; simp at this
                    · have := (hr.own _ _ hid).2.1; simp at this
                  · have hjr : j < row.length := by rw [hrl row (List.mem_of_getElem? hk)]; exact hj
                    have hlt : k * te.sz + j < us.size := by
                      rw [k2, ← hlen]
                      have : (k + 1) * te.sz ≤ rows.length * te.sz := Nat.mul_le_mul_right _ hkl
                      rw [Nat.add_mul] at this
                      omega
                    have h1 := (k3 k j row row[j] us[k * te.sz + j] hk (List.getElem?_eq_getElem hjr) (Array.getElem?_eq_getElem hlt)).2
                    refine ⟨?_, by simpa [Array.getD, hlt] using h1⟩
                    rw [add_noneA, Nat.zero_add]
                    simp only [World.cell?]
                    rw [hnewb]
                    simp [Array.getD, hlt]
                · have hjr := (List.getElem?_eq_some_iff.1 hj).1
                  have hkl := (List.getElem?_eq_some_iff.1 hk).1
                  have hlt : k * te.sz + j < us.size := by
                    rw [k2, ← hlen]
                    have h0 := hrl row (List.mem_of_getElem? hk)
                    have : (k + 1) * te.sz ≤ rows.length * te.sz := Nat.mul_le_mul_right _ hkl
                    rw [Nat.add_mul] at this
                    omega
                  have h1 := (k3 k j row x us[k * te.sz + j] hk hj (Array.getElem?_eq_getElem hlt)).1
                  have h2 : us.getD (k * te.sz + j) undef = us[k * te.sz + j] := by simp [Array.getD, hlt]
                  rw [h2]
                  have hx := hro row (List.mem_of_getElem? hk) x (List.mem_of_getElem? hj)
                  obtain ⟨u, hu'⟩ : ∃ u, us[k * te.sz + j] = u := ⟨_, rfl⟩
                  rw [hu'] at h1 ⊢
                  have h3 : RO w (fun b => X b ∨ ∃ id, φ id = some b) x u := by
                    cases h1 with
                    | ro h => exact h
                    | _ => simp [roS] at hx
                  exact h3.mono hbw.size fun b hb hl => ⟨hbw.block b hl, hb⟩
              rw [if_neg hq] at h
              simp at h
              obtain ⟨rfl, rfl⟩ := h
              obtain ⟨hb, hφ⟩ := hnew _ rfl
              have hE := newRow_sound (P := P) (nid := H.length) hr (e := i.elem) (rows := rows) (cap := len) (cur := us) (by rw [hce]; exact hrl) (by rw [hce]; exact k2) (by omega) (by unfold maxLen; omega) (fun i' j row x u h1 h2 h3 => by rw [hce] at h3; exact k3 i' j row x u h1 h2 h3) hb hφ
                (r := (execOp a.eval ⟨dst, .buildSlice t len parts, tyo, pos, after, guard⟩).run P w) (by rw [hlen]; simp only [execOp, Sem.run_bind]; rw [k1]; rfl)
              rw [hlen] at hE
              exact hE
            · simp at h
          · simp at h
        · simp at h
      · simp at h
    · simp at h
  case makeSlice t l c =>
    simp only [eop] at h
    split at h
    · rename_i i n m hi hn hm
      split at h
      · rename_i hsl
        split at h
        · rename_i te he
          split at h
          · rename_i hc
            obtain ⟨h0, rfl, hle⟩ := hc
            simp at h
            obtain ⟨rfl, rfl⟩ := h
            obtain ⟨hb, hφ⟩ := hnew _ rfl
            have hu := ty_sl hi hsl
            have hl := hev l (by simp [Op.operands])
            have hc := hev c (by simp [Op.operands])
            rw [hn] at hl
            rw [hm] at hc
            obtain ⟨inf, z, d, pl, es, hinf, _, hz, hzs, hpos, hone, hby, _, hte⟩ := (ty_is he).ex
            have hsz : te.sz = inf.size := by rw [hte, descTy_sz]
            have hce : P.cellsOf i.elem = te.sz := ty_cells he
            have hrun := run_make (P := P) w t i.elem inf z hu hinf hz .i64 .i64 n n h0 (Int.le_refl _) (by
              have h1 : (inf.bytes : Int) ≤ 4096 := by omega
              have h2 : (inf.bytes : Int) * n ≤ 4096 * 1073741824 := Int.mul_le_mul h1 hle h0 (by omega)
              omega) (by omega)
            have hcap : n.toNat ≤ maxLen := by unfold maxLen; omega
            have hzz := (zero_sound he w)
            obtain ⟨z', z1, z2, z3, z4⟩ := hzz
            have hz' : z = z' := by simpa [zeroValue, typeInfo, hinf, hz] using z1
            subst hz'
            have hE := newRow_sound (P := P) (nid := H.length) hr (e := i.elem) (rows := List.replicate n.toNat te.zero) (cap := n.toNat) (cur := madeCells z.cells (n.toNat * inf.size)) (by intro row hm; rw [List.mem_replicate] at hm; rw [hm.2, ty_zlen he, hce])
              (by rw [size_madeCells, hce, hsz]) (by simp) hcap (fun i' j row x u h1 h2 h3 => by
                rw [hce, hsz] at h3
                have hi' : i' < n.toNat := by have := (List.getElem?_eq_some_iff.1 h1).1; simpa using this
                have hrow : row = te.zero := by rw [List.getElem?_replicate] at h1; simp [hi'] at h1; exact h1.symm
                subst hrow
                have hj : j < inf.size := by rw [← hsz, ← ty_zlen he]; exact (List.getElem?_eq_some_iff.1 h2).1
                have hlt := mul_lt hi' hj
                have e1 : (i' * inf.size + j) % z.cells.size = j := by rw [hzs, Nat.add_comm, Nat.add_mul_mod_self_right]; exact Nat.mod_eq_of_lt hj
                have e2 : u = z.cells[j]'(by omega) := by
                  simp [madeCells, hlt, e1] at h3
                  rw [← h3]
                  simp [hzs, hj]
                refine ⟨z4 w X φ G j x u h2 (by rw [e2]; simp [hzs, hj]), ?_⟩
                rw [e2]
                exact z3 _ (by simp)) hb hφ
              (r := (execOp a.eval ⟨dst, .makeSlice t l c, tyo, pos, after, guard⟩).run P w) (by simp only [execOp, Sem.run_bind, hl.int_inv, hc.int_inv, hrun, List.length_replicate]; rfl)
            rw [List.length_replicate] at hE
            exact hE
          · simp at h
        · simp at h
      · simp at h
    · simp at h
  case slice t x lo hi mx =>
    cases mx with
    | some mxo =>
      simp only [eop] at h
      split at h
      · rename_i i hi'
        split at h
        · rename_i hsl
          split at h
          · rename_i e1 e2 e3
            split at h
            · rename_i rows te hrows he
              simp at h
              obtain ⟨rfl, rfl⟩ := h
              have hx := hev x (by simp [Op.operands])
              obtain ⟨A, n, c, hv⟩ := slice_form (elems_mono (hG rfl) hrows) hx
              have hu := ty_sl hi' hsl
              have b1 := bound_sound e1 (fun y hy => hev y (by simp [Op.operands, hy]))
              have b2 := bound_sound e2 (fun y hy => hev y (by simp [Op.operands, hy]))
              have b3 := bound_sound e3 (fun y hy => hev y (by simp at hy; subst hy; simp [Op.operands]))
              obtain ⟨y2, k2, rfl, q2⟩ : ∃ y k, hi = some y ∧ a.eval y = .int k 0 := by rcases b2 with ⟨_, h⟩ | h; simp at h; exact h
              obtain ⟨y3, k3, h3, q3⟩ : ∃ y k, some mxo = some y ∧ a.eval y = .int k 0 := by rcases b3 with ⟨_, h⟩ | h; simp at h; exact h
              simp at h3
              subst h3
              have r3 : (Instr.sliceBound (.int k3 0) c .slice3Acap).run P w = .ok 0 w := run_sliceBound w k3 0 c .slice3Acap (Int.le_refl _) (by omega)
              have r2 : (Instr.sliceBound (.int k2 0) 0 .slice3B).run P w = .ok 0 w := run_sliceBound w k2 0 0 .slice3B (Int.le_refl _) (by omega)
              refine eff_pure hr (x := .slice A 0 0) ?_ (.ro .nilc)
              rcases b1 with ⟨rfl, _⟩ | ⟨y1, k1, rfl, q1⟩
              · simp [execOp, Instr.sliceAt, Instr.slice, run_underlying hu, hv, Instr.sliceBounds, q2, q3, r2, r3, run_sizeOf_ty he]
              · have r1 : (Instr.sliceBound (.int k1 0) 0 .slice3C).run P w = .ok 0 w := run_sliceBound w k1 0 0 .slice3C (Int.le_refl _) (by omega)
                simp [execOp, Instr.sliceAt, Instr.slice, run_underlying hu, hv, Instr.sliceBounds, q1, q2, q3, r1, r2, r3, run_sizeOf_ty he]
            · simp at h
          · rename_i l hh m _ e1 e2 e3
            split at h
            · rename_i id n te hb2 he
              split at h
              · rename_i e' nb rows hb
                split at h
                · rename_i hc
                  simp at h
                  obtain ⟨rfl, rfl⟩ := h
                  obtain ⟨c1, c2, c3, c4, c5, c6⟩ := hc
                  have hx := hev x (by simp [Op.operands])
                  rw [hb2] at hx
                  obtain ⟨A, cap, hv, hnc⟩ : ∃ A cap, a.eval x = .slice A n cap ∧ n ≤ cap := by
                    cases hx with
                    | ro h => cases h
                    | os g0 hid hv =>
                      rcases (hv e' nb rows (hG rfl _ _ hb)).2 c1.symm with ⟨_, _, ⟨A, h1⟩, h2⟩ | ⟨c, cap, cur, _, h1, _, _, _, h2⟩
                      · exact ⟨A, 0, by rw [h1, h2], by omega⟩
                      · exact ⟨_, cap, h1, h2⟩
                  have hu := ty_sl hi' hsl
                  have b1 := bound_sound e1 (fun y hy => hev y (by simp [Op.operands, hy]))
                  have b2 := bound_sound e2 (fun y hy => hev y (by simp [Op.operands, hy]))
                  have b3 := bound_sound e3 (fun y hy => hev y (by simp at hy; subst hy; simp [Op.operands]))
                  obtain ⟨y3, k3, h3, q3⟩ : ∃ y k, some mxo = some y ∧ a.eval y = .int k m := by rcases b3 with ⟨h, _⟩ | h; simp at h; exact h
                  simp at h3
                  subst h3
                  have r3 : (Instr.sliceBound (.int k3 m) cap .slice3Acap).run P w = .ok m.toNat w := run_sliceBound w k3 m cap .slice3Acap (by omega) (by omega)
                  have r2 : ∀ k, (Instr.sliceBound (.int k hh) m.toNat .slice3B).run P w = .ok hh.toNat w := fun k => run_sliceBound w k hh m.toNat .slice3B (by omega) (by omega)
                  have r1 : ∀ k, (Instr.sliceBound (.int k l) hh.toNat .slice3C).run P w = .ok l.toNat w := fun k => run_sliceBound w k l hh.toNat .slice3C (by omega) (by omega)
                  rcases b2 with ⟨rfl, hh0⟩ | ⟨y2, k2, rfl, q2⟩
                  · simp at c6
                  · have hbnd : (Instr.sliceBounds true n cap (lo.map a.eval) (some (.int k2 hh)) (some (.int k3 m))).run P w = .ok (l.toNat, hh.toNat, m.toNat) w := by
                      rcases b1 with ⟨rfl, hl0⟩ | ⟨y1, k1, rfl, q1⟩
                      · subst hl0
                        simp [Instr.sliceBounds, r3, r2]
                      · simp [Instr.sliceBounds, r3, r2, q1, r1]
                    refine eff_pure hr (x := .slice (if m.toNat = l.toNat then A else A.map (·.add (l.toNat * te.sz))) (hh.toNat - l.toNat) (m.toNat - l.toNat)) ?_ (.ro .any)
                    simp only [execOp, Sem.run_bind, Option.map_some, q2, q3]
                    simp only [Instr.sliceAt, Sem.run_bind, run_underlying hu, Result.andThen_ok, Instr.slice, hv, hbnd, run_sizeOf_ty he]
                    rfl
                · simp at h
              · simp at h
            · simp at h
          · simp at h
        · simp at h
      · simp at h
    | none =>
      simp only [eop] at h
      split at h
      · rename_i i hi'
        have hx := hev x (by simp [Op.operands])
        have hlo : ∀ y, lo = some y → RV P w X φ G (ev T y) (a.eval y) := fun y hy => hev y (by simp [Op.operands, hy])
        have hhi : ∀ y, hi = some y → RV P w X φ G (ev T y) (a.eval y) := fun y hy => hev y (by simp [Op.operands, hy])
        split at h
        · rename_i b hb
          split at h
          · rename_i hstr
            split at h
            · rename_i l hh e1 e2
              obtain ⟨h1, rfl⟩ := same_spec h
              unfold subStr at h1
              split at h1
              · rename_i hc
                simp at h1
                subst h1
                rw [hb] at hx
                have hu := ty_str hi' hstr
                refine eff_pure hr (x := .string (b.extract l.toNat hh.toNat)) ?_ (.ro .str)
                have b1 := bound_sound e1 hlo
                have b2 := bound_sound e2 hhi
                have run1 : ∀ k v, a.eval v = .int k l → (Instr.sliceBound (.int k l) hh.toNat .sliceB).run P w = .ok l.toNat w := fun k v _ => run_sliceBound w k l hh.toNat .sliceB hc.1 (by omega)
                have run2 : ∀ k, (Instr.sliceBound (.int k hh) b.size .sliceAlen).run P w = .ok hh.toNat w := fun k => run_sliceBound w k hh b.size .sliceAlen (by omega) hc.2.2
                rcases b1 with ⟨rfl, rfl⟩ | ⟨y1, k1, rfl, q1⟩ <;> rcases b2 with ⟨rfl, rfl⟩ | ⟨y2, k2, rfl, q2⟩
                · simp [execOp, Instr.sliceAt, Instr.slice, run_underlying hu, hx.str_inv, Instr.sliceBounds]
                · simp [execOp, Instr.sliceAt, Instr.slice, run_underlying hu, hx.str_inv, Instr.sliceBounds, q2, run2]
                · have := run1 k1 y1 q1
                  simp at this
                  simp [execOp, Instr.sliceAt, Instr.slice, run_underlying hu, hx.str_inv, Instr.sliceBounds, q1, this]
                · simp [execOp, Instr.sliceAt, Instr.slice, run_underlying hu, hx.str_inv, Instr.sliceBounds, q1, q2, run1 k1 y1 q1, run2]
              · simp at h1
            · simp at h
          · simp at h
        · rename_i rows hb
          split at h
          · rename_i hsl
            split at h
            · rename_i te he
              split at h
              · rename_i l hh e1 e2
                obtain ⟨h1, rfl⟩ := same_spec h
                rw [hb] at hx
                have hu := ty_sl hi' hsl
                obtain ⟨A, cap, hv, hcap⟩ := hx.rs_inv
                rw [hv] at hx
                have hc : 0 ≤ l ∧ l ≤ hh ∧ hh ≤ rows.length := by
                  unfold subSl at h1
                  split at h1
                  · rename_i hc; exact ⟨hc.1, hc.2.1, hc.2.2.1⟩
                  · simp at h1
                have b1 := bound_sound e1 hlo
                have b2 := bound_sound e2 hhi
                have run1 : ∀ k v, a.eval v = .int k l → (Instr.sliceBound (.int k l) hh.toNat .sliceB).run P w = .ok l.toNat w := fun k v _ => run_sliceBound w k l hh.toNat .sliceB hc.1 (by omega)
                have run2 : ∀ k, (Instr.sliceBound (.int k hh) cap .sliceAcap).run P w = .ok hh.toNat w := fun k => run_sliceBound w k hh cap .sliceAcap (by omega) (by omega)
                have hk := subSl_sound h1 hx (cap' := cap - l.toNat) (A' := if cap = l.toNat then A else A.map (·.add (l.toNat * te.sz))) (by
                  split
                  · exact .inr ⟨by omega, rfl⟩
                  · exact .inl rfl) (by omega)
                refine eff_pure hr (x := .slice (if cap = l.toNat then A else A.map (·.add (l.toNat * te.sz))) (hh.toNat - l.toNat) (cap - l.toNat)) ?_ hk
                have hhe : hi = none → hh.toNat = rows.length := fun h0 => by
                  rcases b2 with ⟨_, h⟩ | ⟨y, k, h, _⟩
                  · omega
                  · rw [h0] at h; simp at h
                have hll : lo = none → l.toNat = 0 := fun h0 => by
                  rcases b1 with ⟨_, h⟩ | ⟨y, k, h, _⟩
                  · omega
                  · rw [h0] at h; simp at h
                have hrunb : (Instr.sliceBounds true rows.length cap (lo.map a.eval) (hi.map a.eval) none).run P w = .ok (l.toNat, hh.toNat, cap) w := by
                  cases lo with
                  | none => cases hi with
                    | none => simp [Instr.sliceBounds, hhe rfl, hll rfl]
                    | some y2 =>
                      rcases b2 with ⟨h, _⟩ | ⟨y, k, h, q2⟩
                      · simp at h
                      · simp at h; subst h
                        simp [Instr.sliceBounds, hll rfl, q2, run2]
                  | some y1 =>
                    rcases b1 with ⟨h, _⟩ | ⟨y, k1, h, q1⟩
                    · simp at h
                    · simp at h; subst h
                      cases hi with
                      | none =>
                        have := run1 k1 y1 q1
                        rw [hhe rfl] at this
                        simp [Instr.sliceBounds, q1, this, hhe rfl]
                      | some y2 =>
                        rcases b2 with ⟨h, _⟩ | ⟨y, k, h, q2⟩
                        · simp at h
                        · simp at h; subst h
                          simp [Instr.sliceBounds, q1, q2, run2, run1 k1 y1 q1]
                simp only [execOp, Sem.run_bind, Option.map_none]
                simp only [Instr.sliceAt, Sem.run_bind, run_underlying hu, Result.andThen_ok, Instr.slice, hv, hrunb, run_sizeOf_ty he]
                rfl
              · simp at h
            · simp at h
          · simp at h
        · rename_i hb
          split at h
          · rename_i hsl
            split at h
            · rename_i te he e1 e2
              simp at h
              obtain ⟨rfl, rfl⟩ := h
              rw [hb] at hx
              have hu := ty_sl hi' hsl
              have hv := hx.nils_inv
              have hrunb := slice_bounds (P := P) (w := w) (a := a) (T := T) (X := X) (φ := φ) (G := G) (lo := lo) (hi := hi) (n := 0) (cap := 0) (d := 0) e1 e2 hlo hhi rfl (by omega) (by omega) (by omega)
              refine eff_pure hr (x := .slice none 0 0) ?_ (.ro .nils)
              simp only [execOp, Sem.run_bind, Option.map_none]
              simp only [Instr.sliceAt, Sem.run_bind, run_underlying hu, Result.andThen_ok, Instr.slice, hv, hrunb, run_sizeOf_ty he]
              rfl
            · simp at h
          · simp at h
        · rename_i id n hb
          split at h
          · rename_i hsl
            split at h
            · rename_i te e' nb rows l hh he hb2 e1 e2
              split at h
              · rename_i hc
                simp at h
                obtain ⟨rfl, rfl⟩ := h
                obtain ⟨c0, c1, rfl, c2, c3, c4⟩ := hc
                rw [hb] at hx
                have hu := ty_sl hi' hsl
                have hb2 := hG rfl _ _ hb2
                have hce : P.cellsOf i.elem = te.sz := ty_cells he
                cases hx with
                | ro h => cases h
                | os g0 hid hv =>
                  rcases (hv _ nb rows hb2).2 c1.symm with ⟨_, _, _, h2⟩ | ⟨c, cap, cur, h4, hv2, h5, h6, h7, h8⟩
                  · omega
                  · have hrunb := slice_bounds (P := P) (w := w) (a := a) (T := T) (X := X) (φ := φ) (G := G) (lo := lo) (hi := hi) (n := n) (cap := cap) (d := n) e1 e2 hlo hhi rfl c2 c3 (by omega)
                    refine eff_pure hr (x := .slice (if cap = l.toNat then some ⟨c, 0, none⟩ else (some (Addr.mk c 0 none)).map (·.add (l.toNat * te.sz))) (hh.toNat - l.toNat) (cap - l.toNat)) ?_ (.ow rfl hid fun e2 nb2 rows2 hb3 => ?_)
                    · simp only [execOp, Sem.run_bind, Option.map_none]
                      simp only [Instr.sliceAt, Sem.run_bind, run_underlying hu, Result.andThen_ok, Instr.slice, hv2, hrunb, run_sizeOf_ty he]
                      rfl
                    · rw [hb2] at hb3
                      simp at hb3
                      obtain ⟨rfl, rfl, rfl⟩ := hb3
                      exact ⟨by omega, fun _ => ⟨_, c, cap, cur, h4, rfl, fun hlt => by rw [if_neg (by omega), hce]; simp [add_noneA], h5, h6, h7, h8, by omega, by omega⟩⟩
              · simp at h
            · simp at h
          · simp at h
        · rename_i id n lo' hi2 hb
          split at h
          · rename_i hsl
            split at h
            · rename_i te e' nb rows l hh he hb2 e1 e2
              split at h
              · rename_i hc
                simp at h
                obtain ⟨rfl, rfl⟩ := h
                obtain ⟨c0, c1, rfl, c2, c3, c4⟩ := hc
                rw [hb] at hx
                have hu := ty_sl hi' hsl
                have hb2 := hG rfl _ _ hb2
                have hce : P.cellsOf i.elem = te.sz := ty_cells he
                cases hx with
                | ro h => cases h
                | ow g0 hid hv =>
                  obtain ⟨A, c, cap, cur, h4, hv2, hA, h5, h6, h7, h8, h9, h10⟩ := (hv _ nb rows hb2).2 c1.symm
                  have hrunb := slice_bounds (P := P) (w := w) (a := a) (T := T) (X := X) (φ := φ) (G := G) (lo := lo) (hi := hi) (n := hi2 - lo') (cap := cap - lo') (d := ((hi2 - lo' : Nat) : Int)) e1 e2 hlo hhi rfl c2 c3 (by omega)
                  refine eff_pure hr (x := .slice (if cap - lo' = l.toNat then A else A.map (·.add (l.toNat * te.sz))) (hh.toNat - l.toNat) (cap - lo' - l.toNat)) ?_ (.ow rfl hid fun e2 nb2 rows2 hb3 => ?_)
                  · simp only [execOp, Sem.run_bind, Option.map_none]
                    simp only [Instr.sliceAt, Sem.run_bind, run_underlying hu, Result.andThen_ok, Instr.slice, hv2, hrunb, run_sizeOf_ty he]
                    rfl
                  · rw [hb2] at hb3
                    simp at hb3
                    obtain ⟨rfl, rfl, rfl⟩ := hb3
                    refine ⟨by omega, fun _ => ⟨_, c, cap, cur, h4, by rw [show lo' + hh.toNat - (lo' + l.toNat) = hh.toNat - l.toNat by omega, show cap - (lo' + l.toNat) = cap - lo' - l.toNat by omega], fun hlt => ?_, h5, h6, h7, h8, by omega, by omega⟩⟩
                    rw [if_neg (by omega), hA (by omega), hce]
                    simp [add_noneA, Nat.add_mul]
              · simp at h
            · simp at h
          · simp at h
        · rename_i row hb
          split at h
          · rename_i n0 te harr he
            split at h
            · rename_i hc
              simp at h
              obtain ⟨rfl, rfl⟩ := h
              obtain ⟨hc1, hc2, hc3⟩ := hc
              rw [hb] at hx
              have hu := ty_arr hi' harr
              obtain ⟨b, f, hve, hbk, hxb, hcl, hro⟩ : ∃ b : Addr, ∃ f : Nat → Value, a.eval x = .pointer (some b) ∧ b.block < w.heap.size ∧ ¬ (X b.block ∨ ∃ id, φ id = some b.block) ∧ (∀ (j : Nat) x, row[j]? = some x → w.cell? (b.add j) = some (f j) ∧ (f j).oneCell' = true) ∧ (∀ (j : Nat) x, row[j]? = some x → RO w (fun b => X b ∨ ∃ id, φ id = some b) x (f j)) := by
                cases hx with
                | ro h => generalize a.eval x = q at h; cases h with
                  | @rp _ b f h1 h2 h3 h4 => exact ⟨b, f, rfl, h1, h2, h3, h4⟩
              have hne : n0 ≠ 0 := by omega
              refine eff_pure hr (x := .slice (some (b.add (0 * te.sz))) n0 n0) ?_ (.ro (.rs 1 (fun i _ => f i) (by simpa using hc2) (Nat.le_refl _) (fun i r hi => ?_) (fun i j r y hi hj => ?_)))
              · simp [execOp, Instr.sliceAt, run_underlying hu, hve, Instr.sureAddr, Instr.sliceBounds, run_sizeOf_ty he, hne]
              · rw [List.getElem?_map, Option.map_eq_some_iff] at hi
                obtain ⟨c0, h1, rfl⟩ := hi
                refine ⟨rfl, _, rfl, by rw [add_block]; exact hbk, by rw [add_block]; exact hxb, fun j hj => ?_⟩
                obtain rfl : j = 0 := by omega
                rw [add_add]
                simpa using hcl i c0 h1
              · rw [List.getElem?_map, Option.map_eq_some_iff] at hi
                obtain ⟨c0, h1, rfl⟩ := hi
                have hj0 : j = 0 := by have := (List.getElem?_eq_some_iff.1 hj).1; simp at this; omega
                subst hj0
                simp at hj
                subst hj
                exact hro i c0 h1
            · simp at h
          · simp at h
        · simp at h
      · simp at h
  case fieldAddr t x f =>
    simp only [eop] at h
    split at h
    · rename_i i hi
      split at h
      · rename_i off ft hf
        split at h
        · rename_i fi hfi
          obtain ⟨h1, rfl⟩ := same_spec h
          obtain ⟨b, k1, k2⟩ := shift_sound (shift_mono (hG rfl) h1) (hev x (by simp [Op.operands]))
          obtain ⟨fs, fl, q1, q2, q3, q4⟩ := ty_fld hi hf
          have hne : fi.sz ≠ 0 := by have := ty_pos hfi; omega
          exact eff_pure hr (x := .pointer (some (b.add off))) (by simp [execOp, Instr.fieldAt, run_underlying q1, q2, k1, Instr.sureAddr, fieldPlace, q4, run_sizeOf_ty hfi, hne, q3]) k2
        · simp at h
      · simp at h
    · simp at h
  case field t x f =>
    simp only [eop] at h
    split at h
    · rename_i i hi
      split at h
      · rename_i off ft cs hf hcs
        split at h
        · rename_i fi hfi
          obtain ⟨h1, rfl⟩ := same_spec h
          have hx := hev x (by simp [Op.operands])
          rw [hcs] at hx
          obtain ⟨vs, l1, l2, l3, l4⟩ := hx.agg_inv
          obtain ⟨u, k1, k2⟩ := part_sound hfi h1 l2 l3 l4
          obtain ⟨fs, fl, q1, q2, q3, q4⟩ := ty_fld hi hf
          exact eff_pure hr (x := u) (by simp [execOp, Instr.field, run_underlying q1, q2, l1, asAgg, q4, q3, k1]) k2
        · simp at h
      · simp at h
    · simp at h
  case indexAddr t x y =>
    simp only [eop] at h
    split at h
    · rename_i ti k n hi hn
      have hx := hev x (by simp [Op.operands])
      have hy := hev y (by simp [Op.operands])
      rw [hn] at hy
      split at h
      · rename_i te he
        split at h
        · rename_i hsl
          obtain ⟨h1, rfl⟩ := same_spec h
          obtain ⟨u, k1, k2⟩ := elemAt_sound (k := k) hr (ty_sl hi hsl) he rfl (elemAt_mono (hG rfl) h1) hx
          exact eff_pure hr (x := u) (by simp [execOp, hy.int_inv, k1]) k2
        · split at h
          · rename_i l hl
            split at h
            · rename_i hc
              obtain ⟨h1, rfl⟩ := same_spec h
              obtain ⟨b, k1, k2⟩ := shift_sound (shift_mono (hG rfl) h1) hx
              refine eff_pure hr (x := .pointer (some (b.add (n.toNat * te.sz)))) ?_ k2
              simp [execOp, Instr.indexAt, hy.int_inv, asIntOf, run_underlying (ty_arr hi hl), k1, Instr.sureAddr, hc, run_sizeOf_ty he]
            · simp at h
          · simp at h
      · simp at h
    · simp at h
  case index t x y =>
    simp only [eop] at h
    split at h
    · rename_i ti k n s hi hn hs
      have hx := hev x (by simp [Op.operands])
      have hy := hev y (by simp [Op.operands])
      rw [hn] at hy
      rw [hs] at hx
      split at h
      · rename_i hc
        split at h
        · rename_i c hcc
          simp at h
          obtain ⟨rfl, rfl⟩ := h
          refine eff_pure hr (x := .int .u8 c.toNat) ?_ (.ro .int)
          have hlt : n.toNat < s.size := by have := (Array.getElem?_eq_some_iff.1 hcc).1; simpa using this
          have hcc2 : s[n.toNat] = c := (Array.getElem?_eq_some_iff.1 hcc).2
          have hget : s[n.toNat]? = some c := by rw [ByteArray.getElem?_lt' s _ hlt, hcc2]
          simp [execOp, Instr.index, hy.int_inv, hx.str_inv, asIntOf, run_underlying (ty_str hi hc.1), hc.2, hget]
        · simp at h
      · simp at h
    · rename_i ti k n cs hi hn hs
      have hx := hev x (by simp [Op.operands])
      have hy := hev y (by simp [Op.operands])
      rw [hn] at hy
      rw [hs] at hx
      split at h
      · rename_i l te hl he
        split at h
        · rename_i hc
          obtain ⟨h1, rfl⟩ := same_spec h
          obtain ⟨vs, l1, l2, l3, l4⟩ := hx.agg_inv
          obtain ⟨u, k1, k2⟩ := part_sound he h1 l2 l3 l4
          exact eff_pure hr (x := u) (by simp [execOp, Instr.index, hy.int_inv, l1, asIntOf, run_underlying (ty_arr hi hl), hc, run_sizeOf_ty he, k1]) k2
        · simp at h
      · simp at h
    · simp at h
  case makeMap t rv =>
    cases rv with
    | some rv => simp [eop] at h
    | none =>
      simp only [eop] at h
      split at h
      · simp at h
        obtain ⟨rfl, rfl⟩ := h
        obtain ⟨hb, hφ⟩ := hnew _ rfl
        have hT := turn_alloc hr hb hφ (fun _ _ e => by cases e) (.map #[] 0)
        refine ⟨.map (some w.heap.size), _, _, .inl (by simp [execOp, run_makeMap]), hr_alloc hr hb hφ (fun _ _ e => by cases e) (.map #[] 0) ⟨#[], 0, heap_alloc_new w _, rfl, by simp, by simp, by simp⟩, hT, .mp rfl (List.getElem?_eq_some_iff.1 hb).1 fun es' h' => ⟨_, by simp [setφ], rfl⟩, fun i hi hne _ => ?_⟩
        have := hne _ rfl
        exact ⟨by simp [setφ, this, hi], rfl⟩
      · simp at h
  case lookup t m k ok =>
    simp only [eop] at h
    split at h
    · rename_i z ks id ht hm
      split at h
      · rename_i es hb
        split at h
        · rename_i b r hs hf
          simp at h
          obtain ⟨rfl, rfl⟩ := h
          have hmr := hev m (by simp [Op.operands])
          rw [hm] at hmr
          obtain ⟨x, h1, h2⟩ := lookup_sound hr ok ht (hG rfl _ _ hb) hmr (hev k (by simp [Op.operands])) hs hf
          exact eff_pure hr (x := x) (by simp [execOp, h1]) (by cases ok <;> simpa using h2)
        · simp at h
      · simp at h
    · simp at h
  case mapUpdate t m k y =>
    simp only [eop] at h
    split at h
    · rename_i z ks id ht hm
      split at h
      · rename_i es hb
        split at h
        · rename_i b r hs hf
          simp at h
          obtain ⟨rfl, rfl⟩ := h
          have hmr := hev m (by simp [Op.operands])
          rw [hm] at hmr
          obtain ⟨w', h1, h2, h3, h4⟩ := update_sound hr ht (hG rfl _ _ hb) hmr (hev k (by simp [Op.operands])) (hev y (by simp [Op.operands])) hs hf
          exact ⟨undef, w', φ, .inr ⟨by simp [execOp, h1], rfl⟩, h2, h3, .ro .any, fun i hi _ _ => h4 i hi⟩
        · simp at h
      · simp at h
    · simp at h
  case mapEntry t m k =>
    simp only [eop] at h
    split at h
    · rename_i z ks id ht hm
      split at h
      · rename_i es hb
        split at h
        · rename_i b r hs hf
          simp at h
          obtain ⟨rfl, rfl⟩ := h
          have hmr := hev m (by simp [Op.operands])
          rw [hm] at hmr
          obtain ⟨x, w', h1, h2, h3, h4, h5⟩ := mapEntry_sound hr ht (hG rfl _ _ hb) hmr (hev k (by simp [Op.operands])) hs hf
          exact ⟨x, w', φ, .inl (by simp [execOp, h1]), h2, h3, h4, fun i hi _ _ => h5 i hi⟩
        · simp at h
      · simp at h
    · simp at h
  case entryStore t m k y =>
    simp only [eop] at h
    split at h
    · rename_i id id' i hm hk
      split at h
      · rename_i hid
        subst hid
        split at h
        · rename_i es hb
          split at h
          · rename_i e he
            simp at h
            obtain ⟨rfl, rfl⟩ := h
            have hmr := hev m (by simp [Op.operands])
            rw [hm] at hmr
            have hkr := hev k (by simp [Op.operands])
            rw [hk] at hkr
            obtain ⟨w', h1, h2, h3, h4⟩ := entryStore_sound (t := t) hr (hG rfl _ _ hb) hmr hkr (hev y (by simp [Op.operands])) he
            exact ⟨undef, w', φ, .inr ⟨by simp [execOp, h1], rfl⟩, h2, h3, .ro .any, fun i hi _ _ => h4 i hi⟩
          · simp at h
        · simp at h
      · simp at h
    · simp at h
  case entry m =>
    simp only [eop] at h
    split at h
    · rename_i id hm
      split at h
      · rename_i mid n seen hb
        split at h
        · rename_i i es hs hmb
          split at h
          · rename_i hn
            split at h
            · rename_i key y he
              simp at h
              obtain ⟨rfl, rfl⟩ := h
              have hmr := hev m (by simp [Op.operands])
              rw [hm] at hmr
              obtain ⟨x, h1, h2⟩ := entry_sound hr (hG rfl _ _ hb) (hG rfl _ _ hmb) hn hs he hmr
              exact eff_pure hr (by simp [execOp, h1]) h2
            · simp at h
          · simp at h
        · simp at h
      · simp at h
    · simp at h
  case range t m =>
    simp only [eop] at h
    split at h
    · rename_i kt et hu
      split at h
      · rename_i id hm
        split at h
        · rename_i es hb
          simp at h
          obtain ⟨rfl, rfl⟩ := h
          have hmr := hev m (by simp [Op.operands])
          rw [hm] at hmr
          cases hmr with
          | ro h => cases h
          | mp g0 hid hv =>
            have hb' := hG rfl _ _ hb
            obtain ⟨c, hc, hve⟩ := hv es hb'
            obtain ⟨ents, clock, q1, q2, q3, q4, q5⟩ := hr.blk id _ c hb' hc
            obtain ⟨hbn, hφ⟩ := hnew _ rfl
            have hT := turn_alloc hr hbn hφ (fun _ _ e => by cases e) (.mapIter (some c) clock #[] clock)
            have hne : id ≠ H.length := fun e => by rw [e, hφ] at hc; cases hc
            have hcl := (hr.own id c hc).2.1
            obtain ⟨kt, et, zv, hu, _⟩ := mapTy_spec hu
            refine ⟨.pointer (some ⟨w.heap.size, 0, none⟩), _, _, .inl (by simp [execOp, Instr.range, run_underlying hu, hve, Go.MapKept.run_getObj_map q1, run_newObjA]), hr_alloc hr hbn hφ (fun _ _ e => by cases e) (.mapIter (some c) clock #[] clock) ⟨c, clock, #[], clock, ents.toList.map (·.born), heap_alloc_new w _, by simp [q2], rfl, by simp, ?_, by simp, hid, fun es' hes' => ⟨by simp [setφ, hne, hc], ents, clock, by rw [heap_alloc w _ c hcl]; exact q1, fun i b hb2 => ?_, fun h => absurd rfl h⟩⟩, hT, .it rfl (List.getElem?_eq_some_iff.1 hbn).1 fun m' n' s' h' => ⟨_, by simp [setφ], rfl⟩, fun i hi hne' _ => ?_⟩
            · intro b hbm
              obtain ⟨e, he, rfl⟩ := List.mem_map.1 hbm
              exact q3 e he
            · simp only [List.getElem?_map, Option.map_eq_some_iff] at hb2
              obtain ⟨ent, k1, k2⟩ := hb2
              exact ⟨ent, by simpa using k1, k2⟩
            · have := hne' _ rfl
              exact ⟨by simp [setφ, this, hi], rfl⟩
        · simp at h
      · rename_i hm
        simp at h
        obtain ⟨rfl, rfl⟩ := h
        have hmr := hev m (by simp [Op.operands])
        rw [hm] at hmr
        have hve : a.eval m = .map none := nilm_inv hmr
        obtain ⟨hbn, hφ⟩ := hnew _ rfl
        have hT := turn_alloc hr hbn hφ (fun _ _ e => by cases e) (.mapIter none 0 #[] 0)
        obtain ⟨kt, et, zv, hu, _⟩ := mapTy_spec hu
        refine ⟨.pointer (some ⟨w.heap.size, 0, none⟩), _, _, .inl (by simp [execOp, Instr.range, run_underlying hu, hve, run_newObjA]), hr_alloc hr hbn hφ (fun _ _ e => by cases e) (.mapIter none 0 #[] 0) ⟨0, #[], 0, heap_alloc_new w _⟩, hT, .it rfl (List.getElem?_eq_some_iff.1 hbn).1 fun m' n' s' h' => ⟨_, by simp [setφ], rfl⟩, fun i hi hne' _ => ?_⟩
        have := hne' _ rfl
        exact ⟨by simp [setφ, this, hi], rfl⟩
      · simp at h
    · simp at h
  case call c =>
    obtain ⟨callee, args, ats⟩ := c
    cases callee with
    | builtin b =>
      simp only [eop] at h
      exact ebi_sound (P := P) (H := H) (tyc := tyo) (cs := _) hr h (fun x hx => hev x (by simp [Op.operands, Call.operands]; simpa using hx)) (fun hb => hG (by cases b <;> simp [sens] at hb ⊢)) hnew
    | value f => simp [eop] at h
    | invoke r m => simp [eop] at h
  all_goals simp [eop] at h
end
end Go.Proofs.YthiclaihlpkinaaGreat
namespace Go.Proofs.YthiclaihlpkinaaGreat
open Go.RowKit
variable [Glob]
section
variable {P : Program}
/-- The function is one of the program's own, with a body. -/
def entersB (P : Program) (f : FuncId) : Bool := match P.funcs[f]? with | some fn => fn.name != "runtime.NumGoroutine" && fn.body.isSome | none => false
theorem run_callFunc {f : FuncId} (h : entersB P f = true) (vs : Array Value) (w : World) : (callFunc f vs).run P w = .ok (.enter f vs) w := by
  unfold entersB at h
  split at h
  · rename_i fn hf
    simp at h
    have h1 : ¬ fn.body.isNone = true := by cases hb : fn.body <;> simp [hb] at h ⊢
    simp [callFunc, hf, h.1, h1]
    intro hn; simp [hn] at h
  · simp at h
/-- Wherever the arguments read as these, the function hands back this, and nothing that was there is turned. -/
def Pure (P : Program) (f : FuncId) (args : List AV) (r : AV) : Prop :=
  entersB P f = true ∧ ∀ (w : World) (X : Nat → Prop) (vs : Array Value), (∀ b, X b → b < w.heap.size) → VarsOk w X → args.length = vs.size → (∀ (j : Nat) x v, args[j]? = some x → vs[j]? = some v → RO w X x v) →
    Calls P f vs w fun e w' => ∃ v, e = .returned v ∧ RO w' X r v ∧ Below w.heap.size w w'
theorem RO.weaken {w : World} {X Y : Nat → Prop} {x : AV} {v : Value} (h : RO w Y x v) (hx : ∀ b, X b → Y b) : RO w X x v := h.mono (Nat.le_refl _) fun b hb _ => ⟨rfl, fun h => hb (hx b h)⟩
section
variable {w0 w : World} {X : Nat → Prop} {φ : Nat → Option Nat} {G H : List Blk}
theorem pts_ro (hr : HR P w0 X w φ G) {n : Nat} {a : Addr} {cs ys : List AV} (hb : a.block < w.heap.size) (hx : ¬ X a.block) (hp : PtsTo P w X φ G a cs) (hm : cs.mapM (reify G n) = some ys)
    (ih : ∀ x y v, reify G n x = some y → RV P w X φ G x v → RO w X y v) : RO w X (.rp ys) (.pointer (some a)) := by
  obtain ⟨m1, m2⟩ := mapM_spec hm
  have hex : ∀ (j : Nat) y, ys[j]? = some y → ∃ u, w.cell? (a.add j) = some u ∧ u.oneCell' = true ∧ RO w X y u := fun j y hj => by
    have hlt : j < cs.length := by rw [← m1]; exact (List.getElem?_eq_some_iff.1 hj).1
    obtain ⟨u, h1, h2, h3⟩ := hp j cs[j] (by simp [hlt])
    obtain ⟨y', h4, h5⟩ := m2 j cs[j] (by simp [hlt])
    rw [hj] at h4
    simp at h4
    subst h4
    exact ⟨u, h1, h2, ih _ _ _ h5 h3⟩
  refine .rp (fun j => (w.cell? (a.add j)).getD undef) hb hx (fun j y hj => ?_) (fun j y hj => ?_)
  · obtain ⟨u, h1, h2, _⟩ := hex j y hj
    rw [h1]; exact ⟨rfl, h2⟩
  · obtain ⟨u, h1, _, h3⟩ := hex j y hj
    rw [h1]; exact h3
theorem reify_sound (hr : HR P w0 X w φ G) : ∀ (n : Nat) (x y : AV) (v : Value), reify G n x = some y → RV P w X φ G x v → RO w X y v := by
  intro n
  induction n with
  | zero => intro x y v h; simp [reify] at h
  | succ n ih =>
    intro x y v h hv
    have hnx : ∀ (id c : Nat), φ id = some c → ¬ X c := fun id c hc hX => (hr.ext c hX).2 id hc
    have plain : owns x = false → y = x → RO w X y v := fun ho e => by rw [e]; exact (hv.ro_of ho).weaken fun b hb => .inl hb
    cases x with
    | op id o =>
      simp only [reify] at h
      split at h
      · rename_i t cs hb
        simp at h
        obtain ⟨ys, hys, rfl⟩ := h
        cases hv with
        | ro h => cases h
        | op h0 hid hv' =>
          obtain ⟨c, hc, rfl⟩ := hv' t cs hb
          obtain ⟨o1, o2, _⟩ := hr.own id c hc
          by_cases hp0 : 0 < (cs.drop o).length
          · obtain ⟨a, ha, hp⟩ := rd_sound hr (p := .op id o) (cs := cs.drop o) (by simp [rd, hb]) (.op h0 hid hv')
            simp at ha
            subst ha
            exact pts_ro hr o2 (hnx id c hc) (hp hp0) hys ih
          · have : cs.drop o = [] := List.eq_nil_of_length_eq_zero (by omega)
            rw [this] at hys
            simp at hys
            subst hys
            exact .rp (fun _ => undef) o2 (hnx id c hc) (by simp) (by simp)
      · simp at h
    | ep id m i o =>
      simp only [reify] at h
      split at h
      · rename_i e nb rows hb
        split at h
        · rename_i hm
          cases hrow : rows[i]? with
          | none => simp [hrow] at h
          | some row =>
            simp [hrow] at h
            obtain ⟨ys, hys, rfl⟩ := h
            cases hv with
            | ro h => cases h
            | ep h0 hid hv' =>
              obtain ⟨c, hc, rfl⟩ := (hv' e nb rows hb).2 hm.symm
              obtain ⟨o1, o2, _⟩ := hr.own id c hc
              by_cases hp0 : 0 < (row.drop o).length
              · obtain ⟨a, ha, hp⟩ := rd_sound hr (p := .ep id m i o) (cs := row.drop o) (by simp [rd, hb, hm, hrow]) (.ep h0 hid hv')
                simp at ha
                subst ha
                exact pts_ro hr o2 (hnx id c hc) (hp hp0) hys ih
              · have : row.drop o = [] := List.eq_nil_of_length_eq_zero (by omega)
                rw [this] at hys
                simp at hys
                subst hys
                exact .rp (fun _ => undef) o2 (hnx id c hc) (by simp) (by simp)
        · simp at h
      · simp at h
    | os id m =>
      simp only [reify] at h
      split at h
      · rename_i e nb rows hb
        split at h
        · rename_i hm
          simp at h
          obtain ⟨ys, hys, rfl⟩ := h
          obtain ⟨m1, m2⟩ := mapM_spec hys
          cases hv with
          | ro h => cases h
          | os h0 hid hv' =>
            rcases (hv' e nb rows hb).2 hm.symm with ⟨_, _, ⟨A, rfl⟩, h3⟩ | ⟨c, cap, cur, h4, rfl, h5, h6, h7, h8⟩
            · have : ys = [] := List.eq_nil_of_length_eq_zero (by omega)
              subst this
              exact .rs 0 (fun _ _ => undef) rfl (Nat.le_refl _) (by simp) (by simp)
            · obtain ⟨o1, o2, _⟩ := hr.own id c h4
              obtain ⟨cur', k1, k2, k3, k4⟩ := hr.blk id _ c hb h4
              rw [h5] at k1
              simp at k1
              subst k1
              have hex : ∀ (i j : Nat) row y, ys[i]? = some row → row[j]? = some y → ∃ u, cur[i * P.cellsOf e + j]? = some u ∧ u.oneCell' = true ∧ RO w X y u := fun i j row y hi hj => by
                have hlt : i < rows.length := by rw [← m1]; exact (List.getElem?_eq_some_iff.1 hi).1
                obtain ⟨row', q1, q2⟩ := m2 i rows[i] (by simp [hlt])
                rw [hi] at q1
                simp at q1
                subst q1
                obtain ⟨n1, n2⟩ := mapM_spec q2
                have hlj : j < rows[i].length := by rw [← n1]; exact (List.getElem?_eq_some_iff.1 hj).1
                obtain ⟨y', p1, p2⟩ := n2 j rows[i][j] (by simp [hlj])
                rw [hj] at p1
                simp at p1
                subst p1
                have hrl := k2 rows[i] (List.getElem_mem hlt)
                have hlc : i * P.cellsOf e + j < cur.size := Nat.lt_of_lt_of_le (mul_lt hlt (by omega)) k3
                obtain ⟨r1, r2⟩ := k4 i j rows[i] rows[i][j] cur[i * P.cellsOf e + j] (by simp [hlt]) (by simp [hlj]) (by simp [hlc])
                exact ⟨_, by simp [hlc], r2, ih _ _ _ p2 r1⟩
              refine .rs (P.cellsOf e) (fun i j => (cur[i * P.cellsOf e + j]?).getD undef) (by omega) h8 (fun i row hi => ?_) (fun i j row y hi hj => ?_)
              · have hlt : i < rows.length := by rw [← m1]; exact (List.getElem?_eq_some_iff.1 hi).1
                obtain ⟨row', q1, q2⟩ := m2 i rows[i] (by simp [hlt])
                rw [hi] at q1
                simp at q1
                subst q1
                have hrl := k2 rows[i] (List.getElem_mem hlt)
                have hl := (mapM_spec q2).1
                refine ⟨by omega, _, rfl, o2, hnx id c h4, fun j hj => ?_⟩
                obtain ⟨u, p1, p2, _⟩ := hex i j row _ hi (List.getElem?_eq_getElem (by omega))
                rw [add_noneA, cell_row h5]
                simp only [Nat.zero_add]
                rw [p1]
                exact ⟨rfl, p2⟩
              · obtain ⟨u, p1, _, p3⟩ := hex i j row y hi hj
                rw [p1]; exact p3
        · simp at h
      · simp at h
    | ow id m lo hh =>
      simp only [reify] at h
      split at h
      · rename_i e nb rows hb
        split at h
        · rename_i hm
          simp at h
          obtain ⟨ys, hys, rfl⟩ := h
          obtain ⟨m1, m2⟩ := mapM_spec hys
          cases hv with
          | ro h => cases h
          | ow h0 hid hv' =>
            obtain ⟨A, c, cap, cur, h4, rfl, hA, h5, h6, h7, h8, h9, h10⟩ := (hv' e nb rows hb).2 hm.symm
            have hln : ((rows.take hh).drop lo).length = hh - lo := by simp; omega
            obtain ⟨o1, o2, _⟩ := hr.own id c h4
            obtain ⟨cur', k1, k2, k3, k4⟩ := hr.blk id _ c hb h4
            rw [h5] at k1
            simp at k1
            subst k1
            have hget : ∀ (i : Nat), i < hh - lo → ∃ hlt : lo + i < rows.length, ((rows.take hh).drop lo)[i]? = some rows[lo + i] := fun i hi => ⟨by omega, by
              rw [List.getElem?_drop, List.getElem?_take, if_pos (by omega), List.getElem?_eq_getElem (by omega)]⟩
            have hex : ∀ (i j : Nat) row y, ys[i]? = some row → row[j]? = some y → ∃ u, cur[(lo + i) * P.cellsOf e + j]? = some u ∧ u.oneCell' = true ∧ RO w X y u := fun i j row y hi hj => by
              have hlt : i < hh - lo := by rw [← hln, ← m1]; exact (List.getElem?_eq_some_iff.1 hi).1
              obtain ⟨hlt2, hg⟩ := hget i hlt
              obtain ⟨row', q1, q2⟩ := m2 i _ hg
              rw [hi] at q1
              simp at q1
              subst q1
              obtain ⟨n1, n2⟩ := mapM_spec q2
              have hlj : j < rows[lo + i].length := by rw [← n1]; exact (List.getElem?_eq_some_iff.1 hj).1
              obtain ⟨y', p1, p2⟩ := n2 j rows[lo + i][j] (by simp [hlj])
              rw [hj] at p1
              simp at p1
              subst p1
              have hrl := k2 rows[lo + i] (List.getElem_mem hlt2)
              have hlc : (lo + i) * P.cellsOf e + j < cur.size := Nat.lt_of_lt_of_le (mul_lt hlt2 (by omega)) k3
              obtain ⟨r1, r2⟩ := k4 (lo + i) j rows[lo + i] rows[lo + i][j] cur[(lo + i) * P.cellsOf e + j] (by simp [hlt2]) (by simp [hlj]) (by simp [hlc])
              exact ⟨_, by simp [hlc], r2, ih _ _ _ p2 r1⟩
            refine .rs (P.cellsOf e) (fun i j => (cur[(lo + i) * P.cellsOf e + j]?).getD undef) (by omega) (by omega) (fun i row hi => ?_) (fun i j row y hi hj => ?_)
            · have hlt : i < hh - lo := by rw [← hln, ← m1]; exact (List.getElem?_eq_some_iff.1 hi).1
              obtain ⟨hlt2, hg⟩ := hget i hlt
              obtain ⟨row', q1, q2⟩ := m2 i _ hg
              rw [hi] at q1
              simp at q1
              subst q1
              have hrl := k2 rows[lo + i] (List.getElem_mem hlt2)
              have hl := (mapM_spec q2).1
              refine ⟨by omega, _, hA (by omega), o2, hnx id c h4, fun j hj => ?_⟩
              obtain ⟨u, p1, p2, _⟩ := hex i j row _ hi (List.getElem?_eq_getElem (by omega))
              rw [add_noneA, cell_row h5, ← Nat.add_assoc, ← Nat.add_mul]
              rw [p1]
              exact ⟨rfl, p2⟩
            · obtain ⟨u, p1, _, p3⟩ := hex i j row y hi hj
              rw [p1]; exact p3
        · simp at h
      · simp at h
    | agg cs =>
      simp [reify] at h
      obtain ⟨ys, hys, rfl⟩ := h
      obtain ⟨m1, m2⟩ := mapM_spec hys
      obtain ⟨vs, rfl, k1, k2, k3⟩ := hv.agg_inv
      refine .agg (by omega) k2 fun j y u hj hu => ?_
      have hlt : j < cs.length := by rw [← m1]; exact (List.getElem?_eq_some_iff.1 hj).1
      obtain ⟨y', q1, q2⟩ := m2 j cs[j] (by simp [hlt])
      rw [hj] at q1; simp at q1; subst q1
      exact ih _ _ _ q2 (k3 j cs[j] u (by simp [hlt]) hu)
    | tup cs =>
      simp [reify] at h
      obtain ⟨ys, hys, rfl⟩ := h
      obtain ⟨m1, m2⟩ := mapM_spec hys
      obtain ⟨vs, rfl, k1, k3⟩ := hv.tup_inv
      refine .tup (by omega) fun j y u hj hu => ?_
      have hlt : j < cs.length := by rw [← m1]; exact (List.getElem?_eq_some_iff.1 hj).1
      obtain ⟨y', q1, q2⟩ := m2 j cs[j] (by simp [hlt])
      rw [hj] at q1; simp at q1; subst q1
      exact ih _ _ _ q2 (k3 j cs[j] u (by simp [hlt]) hu)
    | fn g cs =>
      simp [reify] at h
      obtain ⟨ys, hys, rfl⟩ := h
      obtain ⟨m1, m2⟩ := mapM_spec hys
      obtain ⟨vs, rfl, k1, k3⟩ := hv.fn_inv
      refine .fn (by omega) fun j y u hj hu => ?_
      have hlt : j < cs.length := by rw [← m1]; exact (List.getElem?_eq_some_iff.1 hj).1
      obtain ⟨y', q1, q2⟩ := m2 j cs[j] (by simp [hlt])
      rw [hj] at q1; simp at q1; subst q1
      exact ih _ _ _ q2 (k3 j cs[j] u (by simp [hlt]) hu)
    | mp => simp [reify] at h
    | nils =>
      simp [reify] at h
      subst h
      obtain rfl := hv.nils_inv
      exact .rs 0 (fun _ _ => undef) rfl (Nat.le_refl _) (fun i row hi => by simp at hi) (fun i j row x hi _ => by simp at hi)
    | nilc =>
      simp [reify] at h
      subst h
      obtain ⟨A, rfl⟩ := hv.nilc_inv
      exact .rs 0 (fun _ _ => undef) rfl (Nat.le_refl _) (fun i row hi => by simp at hi) (fun i j row x hi _ => by simp at hi)
    | ent _ _ => simp [reify] at h
    | it _ => simp [reify] at h
    | _ => simp [reify] at h; exact plain rfl h.symm
theorem mapM_mono {α β : Type} {f g : α → Option β} (h : ∀ x y, f x = some y → g x = some y) {l : List α} {r : List β} (hl : l.mapM f = some r) : l.mapM g = some r := by
  induction l generalizing r with
  | nil => simpa using hl
  | cons x l ih =>
    rw [List.mapM_cons] at hl ⊢
    cases hx : f x with
    | none => simp [hx] at hl
    | some y =>
      cases hr : l.mapM f with
      | none => simp [hx, hr] at hl
      | some ys =>
        simp [hx, hr] at hl
        subst hl
        simp [h x y hx, ih hr]
theorem reify_mono (hG : ∀ (id : Nat) b, H[id]? = some b → G[id]? = some b) : ∀ (n : Nat) (x y : AV), reify H n x = some y → reify G n x = some y := by
  intro n
  induction n with
  | zero => intro x y h; simp [reify] at h
  | succ n ih =>
    intro x y h
    cases x with
    | op id o =>
      simp only [reify] at h ⊢
      split at h
      · rename_i t cs hb
        rw [hG _ _ hb]
        simp at h ⊢
        obtain ⟨ys, h1, h2⟩ := h
        exact ⟨ys, mapM_mono ih h1, h2⟩
      · simp at h
    | ep id m i o =>
      simp only [reify] at h ⊢
      split at h
      · rename_i t nb rows hb
        rw [hG _ _ hb]
        split at h
        · rename_i hm
          simp only [hm, if_true]
          cases hrow : rows[i]? with
          | none => simp [hrow] at h
          | some row =>
            simp [hrow] at h ⊢
            obtain ⟨ys, h1, h2⟩ := h
            exact ⟨ys, mapM_mono ih h1, h2⟩
        · simp at h
      · simp at h
    | os id m =>
      simp only [reify] at h ⊢
      split at h
      · rename_i t nb rows hb
        rw [hG _ _ hb]
        split at h
        · rename_i hm
          simp only [hm, if_true]
          simp at h ⊢
          obtain ⟨ys, h1, h2⟩ := h
          exact ⟨ys, mapM_mono (fun row r hr => mapM_mono ih hr) h1, h2⟩
        · simp at h
      · simp at h
    | ow id m lo hh =>
      simp only [reify] at h ⊢
      split at h
      · rename_i t nb rows hb
        rw [hG _ _ hb]
        split at h
        · rename_i hm
          simp only [hm, if_true]
          simp only [Option.map_eq_some_iff] at h ⊢
          obtain ⟨ys, h1, h2⟩ := h
          exact ⟨ys, mapM_mono (fun row r hr => mapM_mono ih hr) h1, h2⟩
        · simp at h
      · simp at h
    | agg cs => simp [reify] at h ⊢; obtain ⟨ys, h1, h2⟩ := h; exact ⟨ys, mapM_mono ih h1, h2⟩
    | tup cs => simp [reify] at h ⊢; obtain ⟨ys, h1, h2⟩ := h; exact ⟨ys, mapM_mono ih h1, h2⟩
    | fn g cs => simp [reify] at h ⊢; obtain ⟨ys, h1, h2⟩ := h; exact ⟨ys, mapM_mono ih h1, h2⟩
    | _ => first | (simp [reify] at h; done) | simpa [reify] using h
/-- What a call does. -/
theorem pure_call (hr : HR P w0 X w φ G) {g : FuncId} {as ys : List AV} {r : AV} {vs : Array Value} (hp : Pure P g ys r) (hl : as.length = vs.size) (hv : ∀ (j : Nat) x v, as[j]? = some x → vs[j]? = some v → RV P w X φ G x v)
    (hm : as.mapM (reify G 8) = some ys) (ho : flat r = true ∨ (ys = as ∧ ownsL as = false)) :
    Calls P g vs w fun e w' => ∃ v, e = .returned v ∧ HR P w0 X w' φ G ∧ Turn w φ G w' φ G ∧ RV P w' X φ G r v := by
  obtain ⟨m1, m2⟩ := mapM_spec hm
  rcases ho with hf | ⟨rfl, ho⟩
  · refine (hp.2 w X vs (fun b hb => (hr.ext b hb).1) hr.now (by omega) fun j y v hj hu => ?_).mono fun e w' ⟨v, h1, h2, h3⟩ => ⟨v, h1, hr_below hr h3, turn_below hr h3, .ro (h2.of_flat hf)⟩
    have hlt : j < as.length := by rw [← m1]; exact (List.getElem?_eq_some_iff.1 hj).1
    obtain ⟨y', q1, q2⟩ := m2 j as[j] (by simp [hlt])
    rw [hj] at q1; simp at q1; subst q1
    exact reify_sound hr 8 _ _ _ q2 (hv j as[j] v (by simp [hlt]) hu)
  · refine (hp.2 w (fun b => X b ∨ ∃ id, φ id = some b) vs (fun b hb => hb.elim (fun hb => (hr.ext b hb).1) fun ⟨id, h⟩ => (hr.own id b h).2.1) hr.all hl fun j y v hj hu => (hv j y v hj hu).ro_of (ownsL_get ho j y hj)).mono
      fun e w' ⟨v, h1, h2, h3⟩ => ⟨v, h1, hr_below hr h3, turn_below hr h3, .ro h2⟩
/-! ### Calls in general; functions that hand back a row of their own making -/
/-- What a call does: it hands back r, and turns the blocks as u says. -/
def CallE (P : Program) (g : FuncId) (args : List AV) (H : List Blk) (r : AV) (u : Upd) : Prop :=
  entersB P g = true ∧ (∀ id b, u ≠ .set id b) ∧ (∀ b, u = .new b → ∀ e rows, b ≠ .row e true rows) ∧
  ∀ (w0 w : World) X φ G (vs : Array Value), HR P w0 X w φ G → (∀ (id : Nat) b, H[id]? = some b → G[id]? = some b) → (∀ b, u = .new b → G[H.length]? = some b ∧ φ H.length = none) → args.length = vs.size →
    (∀ (j : Nat) x v, args[j]? = some x → vs[j]? = some v → RV P w X φ G x v) →
    Calls P g vs w fun e w' => ∃ v φ', e = .returned v ∧ HR P w0 X w' φ' (updG G u) ∧ Turn w φ G w' φ' (updG G u) ∧ RV P w' X φ' (updG G u) r v ∧
      ∀ id, φ id = none → (∀ b, u = .new b → id ≠ H.length) → (∀ e rows, G[id]? ≠ some (.row e true rows)) → φ' id = none ∧ (updG G u)[id]? = G[id]?
theorem pure_callE {g : FuncId} {as ys : List AV} {r : AV} (hp : Pure P g ys r) (hm : as.mapM (reify H 8) = some ys) (ho : flat r = true ∨ (ys = as ∧ ownsL as = false)) : CallE P g as H r .no :=
  ⟨hp.1, fun _ _ h => by simp at h, fun _ h => by simp at h, fun w0 w X φ G vs hr hG _ hl hv =>
    (pure_call hr hp hl hv (mapM_mono (reify_mono hG 8) hm) ho).mono fun e w' ⟨v, h1, h2, h3, h4⟩ => ⟨v, φ, h1, h2, h3, h4, fun id hid _ _ => ⟨hid, rfl⟩⟩⟩
/-- Wherever the arguments read as these, the function hands back a row of its own making, which reads as this. -/
def Fresh (P : Program) (f : FuncId) (args : List AV) (e : TypeId) (rows : List (List AV)) : Prop :=
  entersB P f = true ∧ ∀ (w : World) (X : Nat → Prop) (vs : Array Value), (∀ b, X b → b < w.heap.size) → VarsOk w X → args.length = vs.size → (∀ (j : Nat) x v, args[j]? = some x → vs[j]? = some v → RO w X x v) →
    Calls P f vs w fun en w' => ∃ c cap cur, en = .returned (.slice (some ⟨c, 0, none⟩) rows.length cap) ∧ w.heap.size ≤ c ∧ w'.heap[c]? = some (.cells cur e (0, 0)) ∧ (∀ row ∈ rows, row.length = P.cellsOf e) ∧ cur.size = cap * P.cellsOf e ∧ rows.length ≤ cap ∧ cap ≤ maxLen ∧
      (∀ (i j : Nat) row x v, rows[i]? = some row → row[j]? = some x → cur[i * P.cellsOf e + j]? = some v → RO w' (fun b => X b ∨ b = c) x v ∧ v.oneCell' = true) ∧ Below w.heap.size w w'
theorem turn_new {w' : World} (hr : HR P w0 X w φ G) (hb : Below w.heap.size w w') {id c : Nat} {b : Blk} (hbk : G[id]? = some b) (hφ : φ id = none) (hnb : ∀ e rows, b ≠ .row e true rows) (hc : w.heap.size ≤ c) : Turn w φ G w' (setφ φ id c) G where
  size := hb.size
  len := Nat.le_refl _
  old := fun k h hl => ⟨hb.block k hl, fun i e => by
    unfold setφ at e
    split at e
    · simp at e; omega
    · exact h i e⟩
  box := fun i t cs _ h => ⟨cs, h, fun c hc => by
    unfold setφ; split
    · rename_i e; rw [e, hφ] at hc; simp at hc
    · exact hc⟩
  row := fun i e nb rows _ h => ⟨rows, h, Nat.le_refl _, fun _ => ⟨fun hn hi => by
    unfold setφ; split
    · rename_i e'; subst e'; rw [hbk] at h; simp at h; subst hn; exact absurd h (hnb _ _)
    · exact hi, fun c hc => ⟨by
      unfold setφ; split
      · rename_i e'; rw [e', hφ] at hc; simp at hc
      · exact hc, fun cur hcur => ⟨cur, by rw [hb.block c (hr.own i c hc).2.1]; exact hcur, rfl⟩⟩⟩⟩
  map := fun i es _ h => ⟨es, h, fun c hc => ⟨by
    unfold setφ; split
    · rename_i e; rw [e, hφ] at hc; simp at hc
    · exact hc, bornK_same (hb.block c (hr.own i c hc).2.1)⟩⟩
  iter := fun i m n s _ h => ⟨m, n, s, h, fun c hc => by
    unfold setφ; split
    · rename_i e; rw [e, hφ] at hc; simp at hc
    · exact hc⟩
theorem fresh_callE {g : FuncId} {as ys : List AV} {e : TypeId} {rows : List (List AV)} (hp : Fresh P g ys e rows) (hm : as.mapM (reify H 8) = some ys) (ho : (rows.all fun r => r.all flat) = true ∨ (ys = as ∧ ownsL as = false)) :
    CallE P g as H (.os H.length rows.length) (.new (.row e false rows)) := by
  refine ⟨hp.1, fun _ _ h => by simp at h, fun b h e' rows' hb => by simp at h; rw [hb] at h; simp at h, fun w0 w X φ G vs hr hG hnew hl hv => ?_⟩
  obtain ⟨hbk, hφ⟩ := hnew _ rfl
  have hm := mapM_mono (reify_mono hG 8) hm
  obtain ⟨m1, m2⟩ := mapM_spec hm
  have key : ∀ Y : Nat → Prop, (∀ b, Y b → b < w.heap.size) → VarsOk w Y → (∀ (j : Nat) x v, ys[j]? = some x → vs[j]? = some v → RO w Y x v) → ((rows.all fun r => r.all flat) = true ∨ ∀ b, (X b ∨ ∃ id, φ id = some b) → Y b) →
      Calls P g vs w fun en w' => ∃ v φ', en = .returned v ∧ HR P w0 X w' φ' G ∧ Turn w φ G w' φ' G ∧ RV P w' X φ' G (.os H.length rows.length) v ∧
        ∀ id, φ id = none → (∀ b, Upd.new (.row e false rows) = .new b → id ≠ H.length) → (∀ e rows, G[id]? ≠ some (.row e true rows)) → φ' id = none ∧ G[id]? = G[id]? := fun Y hY hvo hRO hcase =>
    (hp.2 w Y vs hY hvo (by omega) hRO).mono fun en w' ⟨c, cap, cur, h1, h2, h3, h4, h5, h6, h7, h8, h9⟩ => by
      have hT := turn_new hr h9 hbk hφ (fun _ _ h => by simp at h) h2
      have hclt : c < w'.heap.size := (Array.getElem?_eq_some_iff.1 h3).1
      refine ⟨_, setφ φ H.length c, h1, ⟨hr.vo, hr.fr.trans (h9.mono hr.fr.size), ext_turn hr hT, fun i k hk => ?_, fun i j k hi hj => ?_, fun i b k hi hk => ?_⟩, hT, .os rfl (List.getElem?_eq_some_iff.1 hbk).1 fun e' nb' rows' hb' => ?_, fun i hi hne _ => ⟨?_, rfl⟩⟩
      · unfold setφ at hk
        split at hk
        · rename_i e1; simp at hk; subst hk e1
          exact ⟨Nat.le_trans hr.fr.size h2, hclt, (List.getElem?_eq_some_iff.1 hbk).1⟩
        · have := hr.own i k hk; have := h9.size; omega
      · unfold setφ at hi hj
        split at hi <;> split at hj
        · subst_vars; rfl
        · simp at hi; subst hi; have := (hr.own j _ hj).2.1; omega
        · simp at hj; subst hj; have := (hr.own i _ hi).2.1; omega
        · exact hr.inj i j k hi hj
      · by_cases e1 : i = H.length
        · subst e1
          rw [hbk] at hi
          simp at hi
          subst hi
          simp [setφ] at hk
          subst hk
          refine ⟨cur, h3, h4, by rw [h5]; exact Nat.mul_le_mul_right _ h6, fun i j row x v q1 q2 q3 => ⟨.ro ?_, (h8 i j row x v q1 q2 q3).2⟩⟩
          rcases hcase with hf | hYY
          · simp only [List.all_eq_true] at hf
            exact (h8 i j row x v q1 q2 q3).1.of_flat (hf row (List.mem_of_getElem? q1) x (List.mem_of_getElem? q2))
          · refine (h8 i j row x v q1 q2 q3).1.weaken fun b hb => ?_
            rcases hb with hb | ⟨id, hid⟩
            · exact .inl (hYY b (.inl hb))
            · unfold setφ at hid
              split at hid
              · simp at hid; exact .inr hid.symm
              · exact .inl (hYY b (.inr ⟨id, hid⟩))
        · simp [setφ, e1] at hk
          exact (hr.blk i b k hi hk).turn hT (h9.block k (hr.own i k hk).2.1)
      · rw [hbk] at hb'
        simp at hb'
        obtain ⟨rfl, rfl, rfl⟩ := hb'
        exact ⟨Nat.le_refl _, fun _ => .inr ⟨c, cap, cur, by simp [setφ], rfl, h3, h5, h7, h6⟩⟩
      · have := hne _ rfl
        simp [setφ, this, hi]
  rcases ho with hf | ⟨rfl, ho⟩
  · refine key X (fun b hb => (hr.ext b hb).1) hr.now (fun j y v hj hu => ?_) (.inl hf)
    have hlt : j < as.length := by rw [← m1]; exact (List.getElem?_eq_some_iff.1 hj).1
    obtain ⟨y', q1, q2⟩ := m2 j as[j] (by simp [hlt])
    rw [hj] at q1; simp at q1; subst q1
    exact reify_sound hr 8 _ _ _ q2 (hv j as[j] v (by simp [hlt]) hu)
  · exact key (fun b => X b ∨ ∃ id, φ id = some b) (fun b hb => hb.elim (fun hb => (hr.ext b hb).1) fun ⟨id, h⟩ => (hr.own id b h).2.1) hr.all
      (fun j y v hj hu => (hv j y v hj hu).ro_of (ownsL_get ho j y hj)) (.inr fun b hb => hb)
end
end
end Go.Proofs.YthiclaihlpkinaaGreat
namespace Go.Proofs.YthiclaihlpkinaaGreat
open Go.RowKit
variable [Glob]
/-- The fence of everything, for frames in round r. -/
def fenceR (r : Option Nat) : Fence := { Fence.wide with round := r }
theorem fenceR_none : fenceR none = Fence.wide := rfl
def noDefO (o : Oper) : Bool := match o.op with | .defer _ => false | _ => true
def noDefL (l : List Oper) : Bool := l.all noDefO
def noDefC : Code → Bool
  | .region _ ops _ => noDefL ops.toList
  | .seq a b => noDefC a && noDefC b
  | .cond _ a b => noDefC a && noDefC b
  | .block _ c => noDefC c
  | .loop c => noDefC c
  | .scope c => noDefC c
  | .rangeFunc .. => false
  | _ => true
section
variable {P : Program} {ops : Array Oper} {Q : Exit → Act → World → Prop} {r : Option Nat}
theorem calls_round {n : Nat} {f : FuncId} {args : Array Value} {w : World} {R : Ending → World → Prop} (h : Calls P f args w R) : CallsIn (fenceR r) n P f args w R := (callsIn_wide (n := n)).2 h
theorem rows_round {n : Nat} {row : String} {args : Array Value} {w : World} {R : Value → World → Prop} (h : Rows P row args w R) : RowsIn (fenceR r) n P row args w R :=
  fun c cs _ => let ⟨v, w', h1, h2⟩ := h c cs; ⟨v, w', h1, (stepsIn_wide (P := P)).2 h2⟩
theorem op_round {i : Nat} {K : Act → World → Prop} (hnd : ∀ o, ops[i]? = some o → noDefO o = true) (hno : ¬ LetsOut Q) {a : Act} {w : World} (h : wpOp P ops Q i K a w) : wpOpIn (fenceR r) 0 P ops Q i K a w := by
  unfold wpOp at h
  unfold wpOpIn
  cases ho : ops[i]? with
  | none => simpa [ho] using h
  | some o =>
    simp only [ho] at h ⊢
    split
    · rename_i hw
      rw [if_pos hw] at h
      rcases h with h | ⟨_, h⟩
      · unfold Oper.wp at h
        unfold Oper.wpIn
        refine ⟨fun _ _ => trivial, ?_⟩
        have hnd := hnd o ho
        have hs : Oper.semAt (fenceR r).round a.eval o = execOp a.eval o := Oper.semAt_eq _ _ _ fun c hc => by simp [noDefO, hc] at hnd
        rw [hs]
        generalize (execOp a.eval o).run P w = res at h ⊢
        cases res with
        | ok x w' =>
          cases x with
          | value v => exact h
          | skip => exact h
          | defer d => exact h
          | enter f args => exact ⟨fun h => by simp [fenceR, Fence.wide] at h, calls_round (P := P) (r := r) h⟩
          | row row args => exact ⟨fun h => by simp [fenceR, Fence.wide] at h, rows_round (P := P) (r := r) h⟩
          | _ => exact h.elim
        | halt x w' => cases x <;> exact h
      · exact (hno h).elim
    · rename_i hw
      rw [if_neg hw] at h
      exact ⟨fun _ _ => trivial, h⟩
theorem ops_round (hnd : noDefL ops.toList = true) (hno : ¬ LetsOut Q) : ∀ (l : List Nat) (a : Act) (w : World), wpOps P ops Q l a w → wpOpsIn (fenceR r) 0 P ops Q l a w
  | [], _, _, h => h
  | i :: l, a, w, h => by
    rw [wpOps_cons] at h
    rw [wpOpsIn_cons]
    refine wpOpIn_mono (fun a w h => ops_round hnd hno l a w h) (op_round (fun o ho => ?_) hno h)
    exact List.all_eq_true.1 hnd o (List.mem_of_getElem? (l := ops.toList) (i := i) (by simpa using ho))
/-- A region in its order. -/
theorem region_In {id : Nat} {a : Act} {w : World} (hr : r = none ∨ noDefL ops.toList = true) (hno : ¬ LetsOut Q) (h : wpOps P ops Q (List.range ops.size) a w) : (Code.region id ops false).wpIn (fenceR r) 0 P Q a w := by
  rcases hr with rfl | hr
  · exact wpIn_wide.2 (wp_region h)
  · exact wpIn_region (ops_round hr hno _ a w h)
/-- A region that draws its order. -/
theorem region_anyIn {id : Nat} {a : Act} {w : World} (hm : P.follows .mixedOrders = true) (hr : r = none ∨ noDefL ops.toList = true) (hno : ¬ LetsOut Q)
    (h : wpAny P .any ops Q ops.size (Array.replicate ops.size false) a { w with drawn := w.drawn + 1 }) : (Code.region id ops true).wpIn (fenceR r) 0 P Q a w := by
  rcases hr with rfl | hr
  · exact wpIn_wide.2 (wp_region_any hm h)
  · refine wpIn_region_draw fun t => ?_
    simp only [Region.schedule, hm, Bool.true_or, if_true]
    exact ops_round hr hno _ _ _ (wpAny_sound ops.size t _ a _ h)
/-- What is asked behind a region is asked of its end alone. -/
def endN (K : Act → World → Prop) : Exit → Act → World → Prop
  | .normal, a, w => K a w
  | _, _, _ => False
theorem endN_no {K : Act → World → Prop} : ¬ LetsOut (endN K) := fun ⟨_, _, h⟩ => h
theorem of_endN {c : Code} {F : Fence} {n : Nat} {a : Act} {w : World} (h : c.wpIn F n P (endN (Q .normal)) a w) : c.wpIn F n P Q a w :=
  wpIn_mono h fun e a w hq => by cases e <;> first | exact hq | exact hq.elim
/-- A loop with a measure. -/
theorem wpIn_loop_n {c : Code} {F : Fence} {n0 : Nat} (I : Nat → Act → World → Prop) {n : Nat} {a : Act} {w : World} (h₀ : I n a w) (round : ∀ n a w, I n a w → c.wpIn F n0 P (Exit.then (fun a' w' => ∃ m, m < n ∧ I m a' w') Q) a w) : (Code.loop c).wpIn F n0 P Q a w := by
  intro b k cs hro hb hr
  have key : ∀ n a w, I n a w → ∃ e a' w', Q e a' w' ∧ ArrivesIn (Machine.fenced P F) P (lone (b.atR a (.code c :: .inLoop c :: k)) cs w) b k cs e a' w' := by
    intro n
    induction n using Nat.strongRecOn with
    | _ n ih =>
      intro a w hI
      obtain ⟨e, a₁, w₁, hq, harr⟩ := round n a w hI b (.inLoop c :: k) cs hro hb hr
      cases e with
      | normal =>
        obtain ⟨m, hlt, hI₁⟩ := hq
        obtain ⟨e₂, a₂, w₂, hq₂, harr₂⟩ := ih m hlt a₁ w₁ hI₁
        exact ⟨e₂, a₂, w₂, hq₂, .of_steps (StepsIn.trans harr (.one (fenced_calm hb hr rfl) stepR_inLoop)) harr₂⟩
      | exit id => exact ⟨_, a₁, w₁, hq, .pass (x := .inLoop c) rfl (fun _ _ => .inl (by simp)) harr⟩
      | goto l => exact ⟨_, a₁, w₁, hq, .pass (x := .inLoop c) rfl (fun _ _ => .inl (by simp)) harr⟩
      | ret => exact ⟨_, a₁, w₁, hq, .pass (x := .inLoop c) rfl (fun _ _ => .inl (by simp)) harr⟩
      | panic ch => exact ⟨_, a₁, w₁, hq, .pass (x := .inLoop c) rfl (fun _ _ => .inl (by simp)) harr⟩
      | outgrown => exact ⟨_, a₁, w₁, hq, .pass (x := .inLoop c) rfl (fun _ _ => .inl (by simp)) harr⟩
  obtain ⟨e, a', w', hq, harr⟩ := key _ a w h₀
  exact ⟨e, a', w', hq, .of_steps (.one (fenced_calm hb hr rfl) stepR_loop) harr⟩
end
end Go.Proofs.YthiclaihlpkinaaGreat
namespace Go.Proofs.YthiclaihlpkinaaGreat
open Go.RowKit
variable [Glob]
/-- Neither cells nor a map nor an iterator over one. -/
def plainO : Obj → Bool
  | .loop _ => true
  | .deferred _ => true
  | _ => false
section
variable {P : Program} {w0 w : World} {X : Nat → Prop} {φ : Nat → Option Nat} {H : List Blk}
theorem ro_kept {w w' : World} {X : Nat → Prop} (hs : w.heap.size ≤ w'.heap.size) (h : ∀ (b : Nat) cs t f, w.heap[b]? = some (.cells cs t f) → w'.heap[b]? = w.heap[b]?) {x : AV} {v : Value} (hx : RO w X x v) : RO w' X x v := by
  have hcell : ∀ (a : Addr) v, w.cell? a = some v → w'.cell? a = some v := fun a v hc => by
    unfold World.cell? at hc
    split at hc
    · rename_i cs t f hh
      unfold World.cell?
      rw [h _ _ _ _ hh, hh]; exact hc
    · simp at hc
  induction hx with
  | any => exact .any
  | und => exact .und
  | int => exact .int
  | bool => exact .bool
  | str => exact .str
  | nilp => exact .nilp
  | nils => exact .nils
  | nilc => exact .nilc
  | nec => exact .nec
  | nilf => exact .nilf
  | nilm => exact .nilm
  | yl => exact .yl
  | rp f hb hxa hc _ ih => exact .rp f (by omega) hxa (fun j x hj => ⟨hcell _ _ (hc j x hj).1, (hc j x hj).2⟩) ih
  | rs sz f hn hcap hA _ ih =>
    refine .rs sz f hn hcap (fun i row hi => ?_) ih
    obtain ⟨h0, a, rfl, hb, hxa, hc⟩ := hA i row hi
    exact ⟨h0, a, rfl, by omega, hxa, fun j hj => ⟨hcell _ _ (hc j hj).1, (hc j hj).2⟩⟩
  | agg hl h1 _ ih => exact .agg hl h1 ih
  | tup hl _ ih => exact .tup hl ih
  | fn hl _ ih => exact .fn hl ih
  | fb hl _ ih => exact .fb hl ih
/-- The world but for block r, which is no data. -/
structure But (r : Nat) (w w' : World) : Prop where
  os : w'.os = w.os
  tape : w'.tape = w.tape
  output : w'.output = w.output
  size : w'.heap.size = w.heap.size
  same : ∀ b, b ≠ r → w'.heap[b]? = w.heap[b]?
  here : ∃ o, w.heap[r]? = some o ∧ plainO o = true
theorem but_put {r : Nat} {o : Obj} (h : w.heap[r]? = some o) (ho : plainO o = true) (o' : Obj) : But r w (w.putObj r o') :=
  ⟨rfl, rfl, rfl, World.putObj_size, fun b hb => World.putObj_heap_other hb, o, h, ho⟩
theorem But.cells {r : Nat} {w w' : World} (h : But r w w') (b : Nat) (cs : Array Value) (t : TypeId) (f : Nat × Nat) (hb : w.heap[b]? = some (.cells cs t f)) : w'.heap[b]? = w.heap[b]? :=
  h.same b fun e => by
    obtain ⟨o, h1, h2⟩ := h.here
    rw [e, h1] at hb
    cases hb
    simp [plainO] at h2
theorem But.ro {r : Nat} {w w' : World} (h : But r w w') {X : Nat → Prop} {x : AV} {v : Value} (hx : RO w X x v) : RO w' X x v := ro_kept (by rw [h.size]; exact Nat.le_refl _) h.cells hx
theorem But.rv {r : Nat} {w' : World} (h : But r w w') (hn : ∀ id, φ id ≠ some r) {x : AV} {v : Value} (hx : RV P w X φ H x v) : RV P w' X φ H x v := by
  have hc : ∀ id c, φ id = some c → w'.heap[c]? = w.heap[c]? := fun id c hi => h.same c fun e => hn id (e ▸ hi)
  induction hx with
  | ro hx => exact .ro (h.ro hx)
  | op h0 hid h1 => exact .op h0 hid h1
  | ep h0 hid h1 => exact .ep h0 hid h1
  | os h0 hid h1 =>
    refine .os h0 hid fun e nb rows h2 => ?_
    obtain ⟨k1, k2⟩ := h1 e nb rows h2
    refine ⟨k1, fun hn => (k2 hn).imp (fun h => h) fun ⟨c, cap, cur, q1, q2, q3, q4⟩ => ⟨c, cap, cur, q1, q2, by rw [hc _ _ q1]; exact q3, q4⟩⟩
  | ow h0 hid h1 =>
    refine .ow h0 hid fun e nb rows h2 => ?_
    obtain ⟨k1, k2⟩ := h1 e nb rows h2
    refine ⟨k1, fun hn => ?_⟩
    obtain ⟨A, c, cap, cur, q1, q2, q3, q4, q5⟩ := k2 hn
    exact ⟨A, c, cap, cur, q1, q2, q3, by rw [hc _ _ q1]; exact q4, q5⟩
  | mp h0 hid h1 => exact .mp h0 hid h1
  | ent h0 hid h1 =>
    refine .ent h0 hid fun es h2 => ?_
    obtain ⟨c, ents, clock, ent, q1, q2, q3⟩ := h1 es h2
    exact ⟨c, ents, clock, ent, q1, by rw [hc _ _ q1]; exact q2, q3⟩
  | it h0 hid h1 => exact .it h0 hid h1
  | agg hl h1 _ ih => exact .agg hl h1 ih
  | tup hl _ ih => exact .tup hl ih
  | fn hl _ ih => exact .fn hl ih
theorem But.blk {r : Nat} {w' : World} (h : But r w w') (hn : ∀ id, φ id ≠ some r) {id c : Nat} {b : Blk} (hid : φ id = some c) (hb : BlkOk P w X φ H c b) : BlkOk P w' X φ H c b := by
  have hc : ∀ id c, φ id = some c → w'.heap[c]? = w.heap[c]? := fun id c hi => h.same c fun e => hn id (e ▸ hi)
  cases b with
  | box t cs =>
    obtain ⟨cur, h1, h2, h3⟩ := hb
    exact ⟨cur, by rw [hc id c hid]; exact h1, h2, fun j x v q1 q2 => ⟨h.rv hn (h3 j x v q1 q2).1, (h3 j x v q1 q2).2⟩⟩
  | row e nb rows =>
    obtain ⟨cur, h1, h2, h3, h4⟩ := hb
    exact ⟨cur, by rw [hc id c hid]; exact h1, h2, h3, fun i j row x v q1 q2 q3 => ⟨h.rv hn (h4 i j row x v q1 q2 q3).1, (h4 i j row x v q1 q2 q3).2⟩⟩
  | map es =>
    obtain ⟨ents, clock, h1, h2, h3, h4, h5⟩ := hb
    exact ⟨ents, clock, by rw [hc id c hid]; exact h1, h2, h3, h4, fun i k x ent q1 q2 => ⟨h.rv hn (h5 i k x ent q1 q2).1, h.rv hn (h5 i k x ent q1 q2).2⟩⟩
  | gone => trivial
  | iter m n seen =>
    cases m with
    | none =>
      obtain ⟨since, seenA, stepped, h1⟩ := hb
      exact ⟨since, seenA, stepped, by rw [hc id c hid]; exact h1⟩
    | some mid =>
      obtain ⟨d, since, seenA, stepped, B, h1, h2, h3, h4, h5, h6, h7, h8⟩ := hb
      refine ⟨d, since, seenA, stepped, B, by rw [hc id c hid]; exact h1, h2, h3, h4, h5, h6, h7, fun es he => ?_⟩
      obtain ⟨k1, ents, clock, k2, k3⟩ := h8 es he
      exact ⟨k1, ents, clock, by rw [hc mid d k1]; exact k2, k3⟩
theorem But.hr {r : Nat} {w' : World} (h : But r w w') (hn : ∀ id, φ id ≠ some r) (h0 : w0.heap.size ≤ r) (hr : HR P w0 X w φ H) : HR P w0 X w' φ H where
  vo := hr.vo
  fr := ⟨h.os.trans hr.fr.os, h.tape.trans hr.fr.tape, h.output.trans hr.fr.output, by rw [h.size]; exact hr.fr.size, fun k hk => (h.same k (by omega)).trans (hr.fr.block k hk)⟩
  ext := fun b hb => ⟨by rw [h.size]; exact (hr.ext b hb).1, (hr.ext b hb).2⟩
  own := fun id c hc => ⟨(hr.own id c hc).1, by rw [h.size]; exact (hr.own id c hc).2.1, (hr.own id c hc).2.2⟩
  inj := hr.inj
  blk := fun id b c hb hc => h.blk hn hc (hr.blk id b c hb hc)
theorem But.turn {r : Nat} {w' wb : World} {φb : Nat → Option Nat} {Hb : List Blk} (h : But r w w') (hn : ∀ id, φ id ≠ some r) (hb : wb.heap.size ≤ r) (ht : Turn wb φb Hb w φ H) : Turn wb φb Hb w' φ H := by
  have hc : ∀ id c, φ id = some c → w'.heap[c]? = w.heap[c]? := fun id c hi => h.same c fun e => hn id (e ▸ hi)
  refine ⟨by rw [h.size]; exact ht.size, ht.len, fun b h1 h2 => ⟨(h.same b (by omega)).trans (ht.old b h1 h2).1, (ht.old b h1 h2).2⟩, ht.box, fun id e nb rows' hid h1 => ?_, fun id es' hid h1 => ?_, ht.iter⟩
  · obtain ⟨rows, h2, h3, h4⟩ := ht.row id e nb rows' hid h1
    refine ⟨rows, h2, h3, fun hl => ⟨(h4 hl).1, fun c q1 => ⟨((h4 hl).2 c q1).1, fun cur q2 => ?_⟩⟩⟩
    obtain ⟨cur', q3, q4⟩ := ((h4 hl).2 c q1).2 cur q2
    exact ⟨cur', by rw [hc id c ((h4 hl).2 c q1).1]; exact q3, q4⟩
  · obtain ⟨es, h2, h3⟩ := ht.map id es' hid h1
    refine ⟨es, h2, fun c q1 => ⟨(h3 c q1).1, fun ents clock q2 => ?_⟩⟩
    obtain ⟨ents', clock', q3, q4⟩ := (h3 c q1).2 ents clock q2
    exact ⟨ents', clock', by rw [hc id c (h3 c q1).1]; exact q3, q4⟩
/-- Deferred calls are marks of loops over functions, whose blocks hold none. -/
def mark1 (r : Nat) : Deferred := { target := .collected r, args := #[] }
def Marks (w : World) (φ : Nat → Option Nat) (n m : Nat) (nm : Bool) (ds : List Deferred) : Prop :=
  ∃ ms : List Nat, ds = ms.map mark1 ∧ (ms.Nodup ∧ (nm = true → ms = [])) ∧ ∀ r ∈ ms, n ≤ r ∧ m ≤ r ∧ r < w.heap.size ∧ w.heap[r]? = some (.deferred (some [])) ∧ ∀ id, φ id ≠ some r
omit [Glob] in
theorem Marks.nil {w : World} {n m : Nat} {nm : Bool} : Marks w φ n m nm [] := ⟨[], rfl, ⟨List.nodup_nil, fun _ => rfl⟩, fun _ h => by cases h⟩
omit [Glob] in
theorem Marks.sub {w : World} {φ φ' : Nat → Option Nat} {n m : Nat} {nm : Bool} {ds : List Deferred} (h : Marks w φ n m nm ds) (hs : ∀ i b, φ' i = some b → ∃ j, φ j = some b) : Marks w φ' n m nm ds := by
  obtain ⟨ms, h1, h2, h3⟩ := h
  refine ⟨ms, h1, h2, fun r hr => ?_⟩
  obtain ⟨k1, k2, k3, k4, k5⟩ := h3 r hr
  exact ⟨k1, k2, k3, k4, fun i e => by obtain ⟨j, hj⟩ := hs i r e; exact k5 j hj⟩
theorem Marks.turn {w' : World} {φ' : Nat → Option Nat} {H' : List Blk} {n m : Nat} {nm : Bool} {ds : List Deferred} (h : Marks w φ n m nm ds) (ht : Turn w φ H w' φ' H') : Marks w' φ' n m nm ds := by
  obtain ⟨ms, h1, h2, h3⟩ := h
  refine ⟨ms, h1, h2, fun r hr => ?_⟩
  obtain ⟨k1, k2, k3, k4, k5⟩ := h3 r hr
  obtain ⟨q1, q2⟩ := ht.old r k5 k3
  exact ⟨k1, k2, Nat.lt_of_lt_of_le k3 ht.size, q1.trans k4, q2⟩
end
end Go.Proofs.YthiclaihlpkinaaGreat
namespace Go.Proofs.YthiclaihlpkinaaGreat
open Go.RowKit
variable [Glob]
section
variable (P : Program)
/-- Is an operation to be carried out? -/
def guardV (all : List Oper) (T : List (Nat × AV)) (o : Oper) : Option Bool :=
  match o.guard with
  | none => some true
  | some (g, b) => match (all[g]?).bind (·.dst) with
    | some t => match tget T t with | .bool c => some (c == b) | .und => some false | _ => none
    | none => none
/-- What a call does, in general: it hands back some r, leaves some blocks H', and K is true of these. -/
def CallG (g : FuncId) (args : List AV) (H : List Blk) (K : AV → List Blk → Prop) : Prop :=
  entersB P g = true ∧ ∀ (w0 w : World) X φ (vs : Array Value), HR P w0 X w φ H → args.length = vs.size → (∀ (j : Nat) x v, args[j]? = some x → vs[j]? = some v → RV P w X φ H x v) →
    Calls P g vs w fun e w' => ∃ v r φ' H', e = .returned v ∧ HR P w0 X w' φ' H' ∧ Turn w φ H w' φ' H' ∧ RV P w' X φ' H' r v ∧ K r H'
/-- A call of a function that is known. -/
def callR (o : Oper) (s : St) (r : AV) (u : Upd) : Prop :=
  ∃ f args ats g caps, o.op = .call ⟨.value f, args, ats⟩ ∧ ev s.T f = .fn g caps ∧ CallE P g (args.toList.map (ev s.T) ++ caps) s.H r u
def opR (all : List Oper) (o : Oper) (s : St) (v : AV) (u : Upd) : Prop :=
  (guardV all s.T o = some true ∧ (eop P o s = some (v, u) ∨ callR P o s v u)) ∨ (guardV all s.T o = some false ∧ v = .und ∧ u = .no)
def nextSt (o : Oper) (s : St) (v : AV) (u : Upd) : St := ⟨tputD s.T o.dst v, upd s.H u⟩
end
theorem tget_tput (T : List (Nat × AV)) (k j : Nat) (v : AV) : tget (tput T k v) j = if k = j then v else tget T j := by
  induction T with
  | nil => simp [tput, tget]
  | cons p T ih =>
    obtain ⟨i, u⟩ := p
    by_cases h : i = k
    · subst h
      simp only [tput, if_true, tget]
      split <;> rfl
    · simp only [tput, if_neg h, tget, ih]
      by_cases h2 : i = j
      · subst h2
        simp [Ne.symm h]
      · simp [h2]
section
variable {P : Program} {w0 w : World} {X : Nat → Prop} {φ : Nat → Option Nat} {G : List Blk} {s : St} {a : Act} {all : List Oper}
theorem wr_form {H : List Blk} {p : AV} {cs : List AV} {u : Upd} (h : wr H p cs = some u) : ∃ id b, u = .set id b ∧ id < H.length := by
  cases p with
  | op id o =>
    simp only [wr] at h
    split at h
    · rename_i t bcs hb
      split at h
      · simp at h; exact ⟨id, _, h.symm, (List.getElem?_eq_some_iff.1 hb).1⟩
      · simp at h
    · simp at h
  | ep id n i o =>
    simp only [wr] at h
    split at h
    · rename_i e nb rows hb
      split at h
      · split at h
        · split at h
          · simp at h; exact ⟨id, _, h.symm, (List.getElem?_eq_some_iff.1 hb).1⟩
          · simp at h
        · simp at h
      · simp at h
    · simp at h
  | _ => simp [wr] at h
theorem ebi_form {b : Builtin} {ts : List TypeId} {args : List AV} {v : AV} {u : Upd} (h : ebi P s b ts args = some (v, u)) :
    (∀ blk, u = .new blk → ∀ e rows, blk ≠ .row e true rows) ∧ ∀ id blk, u = .set id blk → id < s.H.length ∧ (b = .append ∨ b = .clear ∨ b = .copy) := by
  unfold ebi at h
  repeat' (split at h)
  all_goals simp at h
  all_goals obtain ⟨_, rfl⟩ := h
  all_goals refine ⟨fun blk hb e rows he => ?_, fun id blk hb => ?_⟩
  all_goals simp at hb
  all_goals try (subst hb; simp at he; done)
  all_goals
    obtain ⟨rfl, rfl⟩ := hb
    exact ⟨(List.getElem?_eq_some_iff.1 (by assumption)).1, by first | exact .inl rfl | exact .inr (.inl rfl) | exact .inr (.inr rfl)⟩
theorem eop_form {o : Oper} {v : AV} {u : Upd} (h : eop P o s = some (v, u)) : (∀ blk, u = .new blk → ∀ e rows, blk ≠ .row e true rows) ∧
    ∀ id blk, u = .set id blk → id < s.H.length ∧ ((∃ t a x, o.op = .store t a x) ∨ (∃ t m k x, o.op = .mapUpdate t m k x) ∨ (∃ t m k, o.op = .mapEntry t m k) ∨ (∃ t m k x, o.op = .entryStore t m k x) ∨ ∃ b args ats, o.op = .call ⟨.builtin b, args, ats⟩ ∧ (b = .append ∨ b = .clear ∨ b = .copy)) := by
  obtain ⟨dst, op, tyo, pos, after, guard⟩ := o
  cases op
  case call c =>
    obtain ⟨callee, args, ats⟩ := c
    cases callee <;> simp only [eop] at h <;> try (simp at h; done)
    obtain ⟨h1, h2⟩ := ebi_form h
    refine ⟨h1, fun id blk hu => ?_⟩
    obtain ⟨h3, hb⟩ := h2 id blk hu
    exact ⟨h3, .inr (.inr (.inr (.inr ⟨_, _, _, rfl, hb⟩)))⟩
  case store t x y =>
    simp only [eop] at h
    repeat' (split at h)
    all_goals simp at h
    rename_i u' hu'
    obtain ⟨_, rfl⟩ := h
    obtain ⟨id, b, rfl, hlt⟩ := wr_form hu'
    refine ⟨fun blk hb => by simp at hb, fun id' blk hb => ?_⟩
    simp at hb
    obtain ⟨rfl, rfl⟩ := hb
    exact ⟨hlt, .inl ⟨_, _, _, rfl⟩⟩
  case mapUpdate t m k x =>
    simp only [eop] at h
    repeat' (split at h)
    all_goals simp at h
    obtain ⟨_, rfl⟩ := h
    refine ⟨fun blk hb => by simp at hb, fun id' blk hb => ?_⟩
    simp at hb
    obtain ⟨rfl, rfl⟩ := hb
    exact ⟨(List.getElem?_eq_some_iff.1 (by assumption)).1, .inr (.inl ⟨_, _, _, _, rfl⟩)⟩
  case mapEntry t m k =>
    simp only [eop] at h
    repeat' (split at h)
    all_goals simp at h
    obtain ⟨_, rfl⟩ := h
    refine ⟨fun blk hb => by simp at hb, fun id' blk hb => ?_⟩
    simp at hb
    obtain ⟨rfl, rfl⟩ := hb
    exact ⟨(List.getElem?_eq_some_iff.1 (by assumption)).1, .inr (.inr (.inl ⟨_, _, _, rfl⟩))⟩
  case entryStore t m k x =>
    simp only [eop] at h
    repeat' (split at h)
    all_goals simp at h
    obtain ⟨_, rfl⟩ := h
    refine ⟨fun blk hb => by simp at hb, fun id' blk hb => ?_⟩
    simp at hb
    obtain ⟨rfl, rfl⟩ := hb
    exact ⟨(List.getElem?_eq_some_iff.1 (by assumption)).1, .inr (.inr (.inr (.inl ⟨_, _, _, _, rfl⟩)))⟩
  all_goals
    simp only [eop, same] at h
    repeat' (split at h)
    all_goals try (simp at h; done)
    all_goals try contradiction
    all_goals (try simp only [Option.some.injEq, Prod.mk.injEq] at h)
    all_goals obtain ⟨_, rfl⟩ := h
    all_goals refine ⟨fun blk hb e rows he => ?_, fun id blk hb => ?_⟩
    all_goals simp at hb
    all_goals (subst hb; simp at he)
theorem ebi_nocall {c : Call} {s : St} {v : AV} {u : Upd} {dst : Option Tmp} {tyo : TypeId} {pos : String} {after : Array Edge} {guard : Option (Nat × Bool)} : True := trivial
/-- What one operation of a region does. -/
theorem opR_wp {ops : Array Oper} {i : Nat} {o : Oper} {T : List (Nat × AV)} {H : List Blk} {v : AV} {u : Upd} {Q : Exit → Act → World → Prop} (hi : ops[i]? = some o) (h : opR P ops.toList o ⟨T, H⟩ v u) (hr : HR P w0 X w φ G)
    (hev : ∀ x ∈ o.op.operands.toList, RV P w X φ G (ev T x) (a.eval x)) (hgd : ∀ g b t, o.guard = some (g, b) → (ops.toList[g]?).bind (·.dst) = some t → RV P w X φ G (tget T t) (a.tmps.getD t undef))
    (hG : sens o.op = true → ∀ (id : Nat) b, H[id]? = some b → G[id]? = some b) (hnew : ∀ b, u = .new b → G[H.length]? = some b ∧ φ H.length = none) {K : Act → World → Prop}
    (hK : ∀ x w' φ', HR P w0 X w' φ' (updG G u) → Turn w φ G w' φ' (updG G u) → RV P w' X φ' (updG G u) v x →
      (∀ id, φ id = none → (∀ b, u = .new b → id ≠ H.length) → (∀ e rows, G[id]? ≠ some (.row e true rows)) → φ' id = none ∧ (updG G u)[id]? = G[id]?) → K (a.put o.dst x) w') : wpOp P ops Q i K a w := by
  have hw : ∀ b, guardV ops.toList T o = some b → Region.wanted o (yielded ops a.tmps) = b := by
    intro b hb
    unfold guardV at hb
    unfold Region.wanted
    split at hb
    · rename_i hg
      rw [hg]
      simpa using hb
    · rename_i g want hg
      rw [hg]
      split at hb
      · rename_i t ht
        split at hb
        · rename_i c hc
          have := hgd g want t hg ht
          rw [hc] at this
          have hv := this.bool_inv
          have hlt : a.tmps[t]? = some (.bool c) := by
            rw [Array.getD_eq_getD_getElem?] at hv
            cases ha : a.tmps[t]? with
            | none => rw [ha] at hv; simp [undef] at hv
            | some y => rw [ha] at hv; simpa using hv
          have ht' : (ops[g]?).bind (·.dst) = some t := by simpa using ht
          simp only [yielded, ht', Option.bind_some, hlt]
          simp at hb
          rw [← hb]
          cases c <;> cases want <;> rfl
        · rename_i hc
          have := hgd g want t hg ht
          rw [hc] at this
          have hv := this.und_inv
          have ht' : (ops[g]?).bind (·.dst) = some t := by simpa using ht
          have hy : yielded ops a.tmps g = none := by
            simp only [yielded, ht', Option.bind_some]
            rw [Array.getD_eq_getD_getElem?] at hv
            cases ha : a.tmps[t]? with
            | none => rfl
            | some y => rw [ha] at hv; simp at hv; rw [hv]; rfl
          simp at hb
          simp [hy, hb]
        · simp at hb
      · simp at hb
  unfold wpOp
  simp only [hi]
  rcases h with ⟨hg, h | h⟩ | ⟨hg, rfl, rfl⟩
  · rw [if_pos (hw true hg)]
    left
    obtain ⟨x, w', φ', h1, h2, h3, h4, h5⟩ := eop_sound hr h hev hG hnew
    unfold Oper.wp
    rcases h1 with h1 | ⟨h1, rfl⟩
    · rw [h1]; exact hK x w' φ' h2 h3 h4 h5
    · rw [h1]; exact hK undef w' φ' h2 h3 h4 h5
  · rw [if_pos (hw true hg)]
    left
    obtain ⟨f, args, ats, g, caps, hop, hf, hent, _, _, hE⟩ := h
    have hG := hG (by rw [hop]; rfl)
    have hfe := hev f (by rw [hop]; simp [Op.operands, Call.operands])
    rw [hf] at hfe
    obtain ⟨vs, k1, k2, k3⟩ := hfe.fn_inv
    have hargs : ∀ x ∈ args.toList, RV P w X φ G (ev T x) (a.eval x) := fun x hx => hev x (by rw [hop]; simp [Op.operands, Call.operands]; exact .inr (by simpa using hx))
    have hrun : (execOp a.eval o).run P w = .ok (.enter g (args.map a.eval ++ vs)) w := by
      have hD : (Deferred.ofValue (.func (.func g) #[] vs) (args.map a.eval)).run P w = .ok { target := .fn (.func g) vs, args := args.map a.eval } w := by simp [Deferred.ofValue]
      simp only [execOp, hop, Sem.run_bind, resolve, k1, hD, Result.andThen_ok, invoke]
      exact run_callFunc hent _ w
    unfold Oper.wp
    rw [hrun, Oper.upon_enter]
    refine (hE w0 w X φ G (args.map a.eval ++ vs) hr hG hnew (by simp [k2]) (fun j x u hx hu => ?_)).mono ?_
    · by_cases hj : j < args.size
      · rw [List.getElem?_append_left (by simpa using hj)] at hx
        rw [Array.getElem?_append_left (by simpa using hj)] at hu
        exact args_len (P := P) (w := w) (X := X) (φ := φ) (G := G) (T := T) (a := a) hargs j x u hx (by simpa using hu)
      · rw [List.getElem?_append_right (by simp; omega)] at hx
        rw [Array.getElem?_append_right (by simp; omega)] at hu
        exact k3 _ x u (by simpa using hx) (by simpa using hu)
    · rintro e w' ⟨x, φ', rfl, h2, h3, h4, h5⟩
      exact hK x w' φ' h2 h3 h4 h5
  · rw [if_neg (by rw [hw false hg]; simp)]
    exact hK undef w φ hr (Turn.refl w φ G) (.ro .und) fun id hid _ _ => ⟨hid, rfl⟩
/-- Where a walk began. -/
structure From where
  w : World
  φ : Nat → Option Nat
  H : List Blk
  lo : Nat
  hlo : lo ≤ w.heap.size
  nm : Bool := false
/-- The abstract state and the model's. -/
structure Rel (P : Program) (B : From) (w0 : World) (X : Nat → Prop) (N : Nat) (s : St) (φ : Nat → Option Nat) (a : Act) (w : World) : Prop where
  hr : HR P w0 X w φ s.H
  tn : Turn B.w B.φ B.H w φ s.H
  t : ∀ k, RV P w X φ s.H (tget s.T k) (a.tmps.getD k undef)
  size : a.tmps.size = N
  df : Marks w φ w0.heap.size B.lo B.nm a.defers
theorem rel_but {B : From} {N : Nat} {s : St} {r : Nat} {w' : World} {ds : List Deferred} (hrel : Rel P B w0 X N s φ a w) (h : But r w w') (hn : ∀ id, φ id ≠ some r) (h0 : w0.heap.size ≤ r) (hb : B.w.heap.size ≤ r) (hd : Marks w' φ w0.heap.size B.lo B.nm ds) : Rel P B w0 X N s φ { tmps := a.tmps, defers := ds } w' :=
  ⟨h.hr hn h0 hrel.hr, h.turn hn hb hrel.tn, fun k => h.rv hn (hrel.t k), hrel.size, hd⟩
/-- An activation ends: its marks are taken; then the results. -/
theorem leaves_of {F : Fence} {n : Nat} {fn : Func} {R : Ending → World → Prop} {B : From} {N : Nat} {s : St} (hlo : B.w.heap.size ≤ B.lo) (hrel : Rel P B w0 X N s φ a w)
    (hR : ∀ w', Rel P B w0 X N s φ { tmps := a.tmps, defers := [] } w' → ∃ v, (results fn a.tmps).run P w' = .ok v w' ∧ R (.returned v) w') : LeavesInM F n P fn a.tmps R a.defers .returning w := by
  obtain ⟨ms, h1, h2, h3⟩ := hrel.df
  rw [h1]
  have hrel0 : Rel P B w0 X N s φ { tmps := a.tmps, defers := ms.map mark1 } w := ⟨hrel.hr, hrel.tn, hrel.t, hrel.size, ms, rfl, h2, h3⟩
  clear hrel h1
  induction ms generalizing w with
  | nil => exact hR w hrel0
  | cons r ms ih =>
    obtain ⟨k1, k2, k3, k4, k5⟩ := h3 r (by simp)
    have hb := but_put k4 rfl (.deferred none)
    have hnd := List.nodup_cons.1 h2.1
    have hnm : B.nm = true → ms = [] := fun h => by cases h2.2 h
    have hms : ∀ r' ∈ ms, w0.heap.size ≤ r' ∧ B.lo ≤ r' ∧ r' < (w.putObj r (.deferred none)).heap.size ∧ (w.putObj r (.deferred none)).heap[r']? = some (.deferred (some [])) ∧ ∀ id, φ id ≠ some r' := fun r' hr' => by
      obtain ⟨q1, q2, q3, q4, q5⟩ := h3 r' (by simp [hr'])
      exact ⟨q1, q2, by rw [hb.size]; exact q3, (hb.same r' fun e => hnd.1 (e ▸ hr')).trans q4, q5⟩
    exact ⟨by simp, .inl ⟨r, _, rfl, run_takeDeferred k4, ih ⟨hnd.2, hnm⟩ hms (rel_but (a := { tmps := a.tmps, defers := (r :: ms).map mark1 }) hrel0 hb k5 k1 (Nat.le_trans hlo k2) ⟨ms, rfl, ⟨hnd.2, hnm⟩, hms⟩)⟩⟩
omit [Glob] in
theorem calls_of_leave {f : FuncId} {fn : Func} {c : Code} {args : Array Value} {R : Ending → World → Prop} (hf : P.funcs[f]? = some fn) (hb : fn.body = some c)
    (h : c.wp P (bodyPostM Fence.wide 0 P fn R) { tmps := args ++ Array.replicate (fn.ntmps - args.size) undef, defers := [] } w) : Calls P f args w R :=
  callsIn_wide.1 (callsIn_of_wp_marks hf hb trivial (wpIn_wide.2 h))
theorem ev_rel (hr : HR P w0 X w φ G) {T : List (Nat × AV)} (ht : ∀ k, RV P w X φ G (tget T k) (a.tmps.getD k undef)) (x : Operand) : RV P w X φ G (ev T x) (a.eval x) := by
  cases x with
  | tmp t => exact ht t
  | const v => exact ofV_rv v
  | func f => exact .ro (.fn rfl (by simp))
  | global g => exact hr.glob g
theorem turn_push (w : World) (φ : Nat → Option Nat) (G : List Blk) (b : Blk) : Turn w φ G w φ (G ++ [b]) := by
  have hg : ∀ id, id < G.length → (G ++ [b])[id]? = G[id]? := fun id h => List.getElem?_append_left h
  exact ⟨Nat.le_refl _, by simp, fun b h _ => ⟨rfl, h⟩, fun id t cs hi h => by rw [hg id hi] at h; exact ⟨cs, h, fun _ h => h⟩,
    fun id e nb rows hi h => by rw [hg id hi] at h; exact ⟨rows, h, Nat.le_refl _, fun _ => ⟨fun _ h => h, fun c hc => ⟨hc, fun cur h => ⟨cur, h, rfl⟩⟩⟩⟩,
    fun id es hi h => by rw [hg id hi] at h; exact ⟨es, h, fun _ h => ⟨h, bornK_same rfl⟩⟩, fun id m n s hi h => by rw [hg id hi] at h; exact ⟨m, n, s, h, fun _ h => h⟩⟩
theorem hr_push (hr : HR P w0 X w φ G) (b : Blk) : HR P w0 X w φ (G ++ [b]) :=
  ⟨hr.vo, hr.fr, hr.ext, fun i c hc => ⟨(hr.own i c hc).1, (hr.own i c hc).2.1, by have := (hr.own i c hc).2.2; simp; omega⟩, hr.inj, fun i b' c hi hc => by
    rw [List.getElem?_append_left (hr.own i c hc).2.2] at hi
    exact (hr.blk i b' c hi hc).turn (turn_push w φ G b) rfl⟩
theorem rel_put {B : From} {N : Nat} {T : List (Nat × AV)} {H : List Blk} {w' : World} {φ' : Nat → Option Nat} {G' : List Blk} {d : Option Nat} {v : AV} {x : Value} (hd : ∀ k, d = some k → k < N) (htn : Turn B.w B.φ B.H w φ H) (hrel : ∀ k, RV P w X φ H (tget T k) (a.tmps.getD k undef)) (hsz : a.tmps.size = N) (hdf : Marks w φ w0.heap.size B.lo B.nm a.defers)
    (hr : HR P w0 X w' φ' G') (hT : Turn w φ H w' φ' G') (hv : RV P w' X φ' G' v x) : Rel P B w0 X N ⟨tputD T d v, G'⟩ φ' (a.put d x) w' := by
  refine ⟨hr, htn.trans hT, fun k => ?_, by cases d <;> simpa [Act.put] using hsz, by cases d <;> simpa [Act.put] using hdf.turn hT⟩
  cases d with
  | none => exact (hrel k).turn hT
  | some d =>
    have hdn := hd d rfl
    simp only [tputD, tget_tput, Act.put]
    by_cases h : d = k
    · subst h
      rw [if_pos rfl]
      have : (a.tmps.setIfInBounds d x).getD d undef = x := by simp [Array.getD_eq_getD_getElem?, hsz, hdn]
      rw [this]; exact hv
    · rw [if_neg h]
      have : (a.tmps.setIfInBounds d x).getD k undef = a.tmps.getD k undef := by simp [Array.getD_eq_getD_getElem?, Array.getElem?_setIfInBounds, h]
      rw [this]; exact (hrel k).turn hT
/-- The operations of a region, one after the other. -/
def wopsP (P : Program) (Z : Oper → St → Prop) (all : List Oper) : List Oper → St → (St → Prop) → Prop
  | [], s, K => K s
  | o :: r, s, K => ∃ v u, opR P all o s v u ∧ Z o s ∧ wopsP P Z all r (nextSt o s v u) K
theorem upd_eq {H : List Blk} {u : Upd} : updG (match u with | .new b => H ++ [b] | _ => H) u = upd H u := by
  cases u <;> rfl
/-- The same, in a region that does not draw: a call may do anything that is said of it. -/
def callQ (P : Program) (all : List Oper) (o : Oper) (s : St) (K : St → Prop) : Prop :=
  guardV all s.T o = some true ∧ ((∃ f args ats g caps, o.op = .call ⟨.value f, args, ats⟩ ∧ ev s.T f = .fn g caps ∧ CallG P g (args.toList.map (ev s.T) ++ caps) s.H fun r H' => K ⟨tputD s.T o.dst r, H'⟩) ∨
    (∃ f args ats g fst, o.op = .call ⟨.value f, args, ats⟩ ∧ ev s.T f = .fb g fst ∧ CallG P g (fst ++ args.toList.map (ev s.T)) s.H fun r H' => K ⟨tputD s.T o.dst r, H'⟩) ∨
    (∃ x, o.op = .next x false ∧ nextD s.H (ev s.T x) fun r H' => K ⟨tputD s.T o.dst r, H'⟩))
def wopsQ (P : Program) (all : List Oper) : List Oper → St → (St → Prop) → Prop
  | [], s, K => K s
  | o :: r, s, K => (∃ v u, opR P all o s v u ∧ wopsQ P all r (nextSt o s v u) K) ∨ callQ P all o s fun s' => wopsQ P all r s' K
theorem want_of {ops : Array Oper} {o : Oper} {T : List (Nat × AV)} {b : Bool} (ht : ∀ k, RV P w X φ G (tget T k) (a.tmps.getD k undef)) (hb : guardV ops.toList T o = some b) : Region.wanted o (yielded ops a.tmps) = b := by
  unfold guardV at hb
  unfold Region.wanted
  split at hb
  · rename_i hg
    rw [hg]
    simpa using hb
  · rename_i g want hg
    rw [hg]
    split at hb
    · rename_i t htt
      split at hb
      · rename_i c hc
        have := ht t
        rw [hc] at this
        have hv := this.bool_inv
        have hlt : a.tmps[t]? = some (.bool c) := by
          rw [Array.getD_eq_getD_getElem?] at hv
          cases ha : a.tmps[t]? with
          | none => rw [ha] at hv; simp [undef] at hv
          | some y => rw [ha] at hv; simpa using hv
        have ht' : (ops[g]?).bind (·.dst) = some t := by simpa using htt
        simp only [yielded, ht', Option.bind_some, hlt]
        simp at hb
        rw [← hb]
        cases c <;> cases want <;> rfl
      · rename_i hc
        have := ht t
        rw [hc] at this
        have hv := this.und_inv
        have ht' : (ops[g]?).bind (·.dst) = some t := by simpa using htt
        have hy : yielded ops a.tmps g = none := by
          simp only [yielded, ht', Option.bind_some]
          rw [Array.getD_eq_getD_getElem?] at hv
          cases ha : a.tmps[t]? with
          | none => rfl
          | some y => rw [ha] at hv; simp at hv; rw [hv]; rfl
        simp at hb
        simp [hy, hb]
      · simp at hb
    · simp at hb
theorem callQ_wp {B : From} {N : Nat} {ops : Array Oper} {i : Nat} {o : Oper} {s : St} {Q : Exit → Act → World → Prop} {K : St → Prop} {K' : Act → World → Prop} (hi : ops[i]? = some o) (hd : ∀ k, o.dst = some k → k < N) (h : callQ P ops.toList o s K) (hrel : Rel P B w0 X N s φ a w)
    (hK : ∀ s' φ' a' w', Rel P B w0 X N s' φ' a' w' → K s' → K' a' w') : wpOp P ops Q i K' a w := by
  obtain ⟨hg, h⟩ := h
  unfold wpOp
  simp only [hi]
  rw [if_pos (want_of hrel.t hg)]
  left
  rcases h with ⟨f, args, ats, g, caps, hop, hf, hent, hE⟩ | ⟨f, args, ats, g, fst, hop, hf, hent, hE⟩ | ⟨x, hop, hN⟩
  · have hfe := ev_rel hrel.hr hrel.t f
    rw [hf] at hfe
    obtain ⟨vs, k1, k2, k3⟩ := hfe.fn_inv
    have hargs : ∀ x ∈ args.toList, RV P w X φ s.H (ev s.T x) (a.eval x) := fun x _ => ev_rel hrel.hr hrel.t x
    have hrun : (execOp a.eval o).run P w = .ok (.enter g (args.map a.eval ++ vs)) w := by
      have hD : (Deferred.ofValue (.func (.func g) #[] vs) (args.map a.eval)).run P w = .ok { target := .fn (.func g) vs, args := args.map a.eval } w := by simp [Deferred.ofValue]
      simp only [execOp, hop, Sem.run_bind, resolve, k1, hD, Result.andThen_ok, invoke]
      exact run_callFunc hent _ w
    unfold Oper.wp
    rw [hrun, Oper.upon_enter]
    refine (hE w0 w X φ (args.map a.eval ++ vs) hrel.hr (by simp [k2]) (fun j x u hx hu => ?_)).mono ?_
    · by_cases hj : j < args.size
      · rw [List.getElem?_append_left (by simpa using hj)] at hx
        rw [Array.getElem?_append_left (by simpa using hj)] at hu
        exact args_len (P := P) (w := w) (X := X) (φ := φ) (G := s.H) (T := s.T) (a := a) hargs j x u hx (by simpa using hu)
      · rw [List.getElem?_append_right (by simp; omega)] at hx
        rw [Array.getElem?_append_right (by simp; omega)] at hu
        exact k3 _ x u (by simpa using hx) (by simpa using hu)
    · rintro e w' ⟨x, r, φ', H', rfl, h2, h3, h4, h5⟩
      exact hK _ φ' _ w' (rel_put hd hrel.tn hrel.t hrel.size hrel.df h2 h3 h4) h5
  · have hfe := ev_rel hrel.hr hrel.t f
    rw [hf] at hfe
    obtain ⟨vs, k1, k2, k3⟩ := hfe.fb_inv
    have hargs : ∀ x ∈ args.toList, RV P w X φ s.H (ev s.T x) (a.eval x) := fun x _ => ev_rel hrel.hr hrel.t x
    have hrun : (execOp a.eval o).run P w = .ok (.enter g (vs ++ args.map a.eval)) w := by
      have hD : (Deferred.ofValue (.func (.func g) vs #[]) (args.map a.eval)).run P w = .ok { target := .fn (.func g) #[], args := vs ++ args.map a.eval } w := by simp [Deferred.ofValue]
      simp only [execOp, hop, Sem.run_bind, resolve, k1, hD, Result.andThen_ok, invoke]
      have := run_callFunc hent (vs ++ args.map a.eval ++ #[]) w
      simpa using this
    unfold Oper.wp
    rw [hrun, Oper.upon_enter]
    refine (hE w0 w X φ (vs ++ args.map a.eval) hrel.hr (by simp [k2]) (fun j x u hx hu => ?_)).mono ?_
    · by_cases hj : j < fst.length
      · rw [List.getElem?_append_left hj] at hx
        rw [Array.getElem?_append_left (by omega)] at hu
        exact k3 j x u hx hu
      · rw [List.getElem?_append_right (by omega)] at hx
        rw [Array.getElem?_append_right (by omega)] at hu
        rw [k2] at hx
        exact args_len (P := P) (w := w) (X := X) (φ := φ) (G := s.H) (T := s.T) (a := a) hargs _ x u hx (by simpa using hu)
    · rintro e w' ⟨x, r, φ', H', rfl, h2, h3, h4, h5⟩
      exact hK _ φ' _ w' (rel_put hd hrel.tn hrel.t hrel.size hrel.df h2 h3 h4) h5
  · obtain ⟨y, w', r, H', h1, h2, h3, h4, h5⟩ := nextD_sound hrel.hr hN (ev_rel hrel.hr hrel.t x) o.type
    have hrun : (execOp a.eval o).run P w = .ok (.value y) w' := by
      simp only [execOp, hop, Sem.run_bind, h1, Result.andThen_ok]
      rfl
    unfold Oper.wp
    rw [hrun]
    exact hK _ φ _ w' (rel_put hd hrel.tn hrel.t hrel.size hrel.df h2 h3 h4) h5
theorem ops_wp {B : From} {N : Nat} {ops : Array Oper} (hdst : ∀ (j : Nat) o, ops[j]? = some o → ∀ d, o.dst = some d → d < N) {Q : Exit → Act → World → Prop} {K : St → Prop} (hQ : ∀ s φ a w, Rel P B w0 X N s φ a w → K s → Q .normal a w) : ∀ (l : List Oper) (k : Nat) (s : St) (φ : Nat → Option Nat) (a : Act) (w : World), (∀ j, l[j]? = ops[k + j]?) →
    wopsQ P ops.toList l s K → Rel P B w0 X N s φ a w → wpOps P ops Q (List.range' k l.length) a w
  | [], _, s, φ, a, w, _, h, hrel => hQ s φ a w hrel h
  | o :: l, k, s, φ, a, w, hl, h, hrel => by
    have h0 : ops[k]? = some o := by simpa using (hl 0).symm
    have hd := hdst k o h0
    have ih := fun s' φ' a' w' => ops_wp hdst hQ l (k + 1) s' φ' a' w' (fun j => by have := hl (j + 1); simpa [Nat.add_assoc, Nat.add_comm 1 j] using this)
    rw [List.length_cons, List.range'_succ, wpOps_cons]
    rcases h with ⟨v, u, hop, hK⟩ | hcall
    rotate_left
    · exact callQ_wp h0 hd hcall hrel fun s' φ' a' w' h1 h2 => ih s' φ' a' w' h2 h1
    cases u with
    | new b =>
      have hφ : φ s.H.length = none := by
        cases hc : φ s.H.length with
        | none => rfl
        | some c => have := (hrel.hr.own _ c hc).2.2; omega
      have hT := turn_push w φ s.H b
      refine opR_wp h0 hop (hr_push hrel.hr b) (fun x _ => (ev_rel hrel.hr hrel.t x).turn hT) (fun g b t _ _ => (hrel.t t).turn hT) (fun _ id b' hb => ?_) (fun b' hb => ?_) (fun x w' φ' k1 k2 k3 _ => ?_)
      · rw [List.getElem?_append_left (List.getElem?_eq_some_iff.1 hb).1]; exact hb
      · simp at hb; subst hb; exact ⟨by simp, hφ⟩
      · exact ih _ φ' _ w' hK (rel_put hd hrel.tn hrel.t hrel.size hrel.df k1 (hT.trans k2) k3)
    | no =>
      refine opR_wp h0 hop hrel.hr (fun x _ => ev_rel hrel.hr hrel.t x) (fun g b t _ _ => hrel.t t) (fun _ id b' hb => hb) (fun b' hb => by simp at hb) (fun x w' φ' k1 k2 k3 _ => ?_)
      exact ih _ φ' _ w' hK (rel_put hd hrel.tn hrel.t hrel.size hrel.df k1 k2 k3)
    | set id b =>
      refine opR_wp h0 hop hrel.hr (fun x _ => ev_rel hrel.hr hrel.t x) (fun g b t _ _ => hrel.t t) (fun _ id b' hb => hb) (fun b' hb => by simp at hb) (fun x w' φ' k1 k2 k3 _ => ?_)
      exact ih _ φ' _ w' hK (rel_put hd hrel.tn hrel.t hrel.size hrel.df k1 k2 k3)
/-- A call that is known does what is said of it. -/
theorem callE_G {g : FuncId} {args : List AV} {H : List Blk} {r : AV} {u : Upd} {K : AV → List Blk → Prop} (h : CallE P g args H r u) (hK : K r (upd H u)) : CallG P g args H K := by
  obtain ⟨h1, h2, h3, h4⟩ := h
  refine ⟨h1, fun w0 w X φ vs hr hl hv => ?_⟩
  cases u with
  | set id b => exact absurd rfl (h2 id b)
  | no =>
    refine (h4 w0 w X φ H vs hr (fun _ _ h => h) (fun b hb => by simp at hb) hl hv).mono ?_
    rintro e w' ⟨v, φ', k1, k2, k3, k4, _⟩
    exact ⟨v, r, φ', H, k1, k2, k3, k4, hK⟩
  | new b =>
    have hφ : φ H.length = none := by
      cases hc : φ H.length with
      | none => rfl
      | some c => have := (hr.own _ c hc).2.2; omega
    have hT := turn_push w φ H b
    refine (h4 w0 w X φ (H ++ [b]) vs (hr_push hr b) (fun id b' hb => by rw [List.getElem?_append_left (List.getElem?_eq_some_iff.1 hb).1]; exact hb) (fun b' hb => by simp at hb; subst hb; exact ⟨by simp, hφ⟩) hl fun j x v hx hu => (hv j x v hx hu).turn hT).mono ?_
    rintro e w' ⟨v, φ', k1, k2, k3, k4, _⟩
    exact ⟨v, r, φ', H ++ [b], k1, k2, hT.trans k3, k4, hK⟩
end
end Go.Proofs.YthiclaihlpkinaaGreat
namespace Go.Proofs.YthiclaihlpkinaaGreat
open Go.RowKit
variable [Glob]
def isWr (o : Oper) : Bool := match o.op with | .store .. => true | .mapUpdate .. => true | .mapEntry .. => true | .entryStore .. => true | .call ⟨.builtin .append, _, _⟩ => true | .call ⟨.builtin .clear, _, _⟩ => true | .call ⟨.builtin .copy, _, _⟩ => true | _ => false
def tmpsOf (o : Oper) : List Nat := o.op.operands.toList.filterMap fun | .tmp t => some t | _ => none
def gslot (all : List Oper) (o : Oper) : Option Nat := match o.guard with | some (g, _) => (all[g]?).bind (·.dst) | none => none
def isApp (o : Oper) : Bool := match o.op with | .call ⟨.builtin .append, _, _⟩ => true | _ => false
def ldAddr (o : Oper) : Option Operand := match o.op with | .load _ a => some a | .fieldAddr _ a _ => some a | .nilCheck a => some a | .indexAddr _ a _ => some a | _ => none
def isLd (o : Oper) : Bool := (ldAddr o).isSome
/-- Do two operations have to be ordered? An append turns elements' blocks only: loads of variables may pass it. -/
def conf (all : List Oper) (x y : Oper) : Bool :=
  (match x.dst with | some d => y.dst == some d || (tmpsOf y).contains d || gslot all y == some d | none => false) ||
  (match y.dst with | some d => (tmpsOf x).contains d || gslot all x == some d | none => false) ||
  (isWr x && sens y.op && !(isApp x && isLd y)) || (isWr y && sens x.op && !(isApp y && isLd x))
/-- Does one of them write what the other one may read? -/
def confS (x y : Oper) : Bool := (isWr x && sens y.op) || (isWr y && sens x.op)
/-- All that comes before an operation, as bits. -/
def ancOf (acc : List Nat) (o : Oper) : Nat := o.after.toList.foldl (fun m e => if Region.binds .any e then m ||| (2 ^ e.on) ||| acc.getD e.on 0 else m) 0
def ancL : List Oper → List Nat → List Nat
  | [], acc => acc
  | o :: r, acc => ancL r (acc ++ [ancOf acc o])
def edgesOk : Nat → List Oper → Bool
  | _, [] => true
  | j, o :: r => (o.after.toList.all fun e => !Region.binds .any e || decide (e.on < j)) && edgesOk (j + 1) r
def pairsOk (cf : Oper → Oper → Bool) (all : List Oper) (an : List Nat) : Nat → List Oper → Bool
  | _, [] => true
  | j, o :: r => (all.zipIdx.all fun (p : Oper × Nat) => !(decide (p.2 < j) && cf p.1 o) || (an.getD j 0).testBit p.2) && pairsOk cf all an (j + 1) r
def okDraw (ops : Array Oper) : Bool := edgesOk 0 ops.toList && pairsOk (conf ops.toList) ops.toList (ancL ops.toList []) 0 ops.toList
/-- Nothing passes a write. -/
def strictB (all : List Oper) : Bool := pairsOk confS all (ancL all []) 0 all
def notEp : AV → Bool
  | .ep .. => false
  | _ => true
/-- Elements of memory that nobody writes. -/
def ixv : AV → AV
  | .rp r => .rp r
  | .rs r => .rs r
  | _ => .ep 0 0 0 0
def lxv (o : Oper) (x : AV) : AV := match o.op with | .indexAddr .. => ixv x | _ => x
/-- Loads in a region that draws: of variables, or nothing passes a write. -/
def ldZ (all : List Oper) (o : Oper) (s : St) : Prop := ∀ a, ldAddr o = some a → guardV all s.T o = some true → notEp (lxv o (ev s.T a)) = true ∨ strictB all = true
/-- Number i comes before number j. -/
inductive Before (ops : List Oper) : Nat → Nat → Prop
  | one {j : Nat} {o : Oper} {e : Edge} (ho : ops[j]? = some o) (he : e ∈ o.after.toList) (hb : Region.binds .any e = true) : Before ops e.on j
  | more {i j : Nat} {o : Oper} {e : Edge} (ho : ops[j]? = some o) (he : e ∈ o.after.toList) (hb : Region.binds .any e = true) (h : Before ops i e.on) : Before ops i j
theorem fold_bits {acc : List Nat} {i : Nat} : ∀ (l : List Edge) (m : Nat), (l.foldl (fun m e => if Region.binds .any e then m ||| (2 ^ e.on) ||| acc.getD e.on 0 else m) m).testBit i = true →
    m.testBit i = true ∨ ∃ e ∈ l, Region.binds .any e = true ∧ (e.on = i ∨ (acc.getD e.on 0).testBit i = true) := by
  intro l
  induction l with
  | nil => intro m h; exact .inl h
  | cons e l ih =>
    intro m h
    rw [List.foldl_cons] at h
    rcases ih _ h with h1 | ⟨e', h1, h2, h3⟩
    · split at h1
      · rename_i hb
        simp only [Nat.testBit_or, Bool.or_eq_true, Nat.testBit_two_pow, decide_eq_true_eq] at h1
        rcases h1 with (h1 | h1) | h1
        · exact .inl h1
        · exact .inr ⟨e, by simp, hb, .inl h1⟩
        · exact .inr ⟨e, by simp, hb, .inr h1⟩
      · exact .inl h1
    · exact .inr ⟨e', by simp [h1], h2, h3⟩
theorem anc_spec (all : List Oper) : ∀ (l : List Oper) (acc : List Nat), (∀ j, l[j]? = all[acc.length + j]?) → (∀ i j, (acc.getD j 0).testBit i = true → Before all i j) →
    ∀ i j, ((ancL l acc).getD j 0).testBit i = true → Before all i j := by
  intro l
  induction l with
  | nil => intro acc _ h; exact h
  | cons o l ih =>
    intro acc hl h
    refine ih _ (fun j => by have := hl (j + 1); simp at this ⊢; rw [this]; congr 1; omega) fun i j hb => ?_
    by_cases hj : j < acc.length
    · rw [List.getD_eq_getElem?_getD, List.getElem?_append_left hj, ← List.getD_eq_getElem?_getD] at hb
      exact h i j hb
    · by_cases hj2 : j = acc.length
      · subst hj2
        have h0 : all[acc.length]? = some o := by simpa using (hl 0).symm
        rw [List.getD_eq_getElem?_getD, List.getElem?_append_right (Nat.le_refl _)] at hb
        simp at hb
        rcases fold_bits _ _ hb with h1 | ⟨e, h1, h2, h3⟩
        · simp at h1
        · rcases h3 with rfl | h3
          · exact .one h0 h1 h2
          · exact .more h0 h1 h2 (h i _ h3)
      · have : (acc ++ [ancOf acc o]).getD j 0 = 0 := by simp [List.getD]; rw [List.getElem?_eq_none (by simp; omega)]; rfl
        rw [this] at hb
        simp at hb
theorem edges_spec : ∀ (l : List Oper) (k : Nat), edgesOk k l = true → ∀ (j : Nat) o, l[j]? = some o → ∀ e ∈ o.after.toList, Region.binds .any e = true → e.on < k + j := by
  intro l
  induction l with
  | nil => intro k _ j o h; simp at h
  | cons p l ih =>
    intro k h j o hj e he hb
    simp only [edgesOk, Bool.and_eq_true, List.all_eq_true] at h
    cases j with
    | zero =>
      simp at hj
      subst hj
      have := h.1 e he
      simp [hb] at this
      omega
    | succ j =>
      have := ih (k + 1) h.2 j o (by simpa using hj) e he hb
      omega
theorem pairs_spec {cf : Oper → Oper → Bool} (all : List Oper) (an : List Nat) : ∀ (l : List Oper) (k : Nat), pairsOk cf all an k l = true → ∀ (j : Nat) o, l[j]? = some o → ∀ (i : Nat) x, all[i]? = some x → i < k + j → cf x o = true → (an.getD (k + j) 0).testBit i = true := by
  intro l
  induction l with
  | nil => intro k _ j o h; simp at h
  | cons p l ih =>
    intro k h j o hj i x hi hlt hc
    simp only [pairsOk, Bool.and_eq_true, List.all_eq_true] at h
    cases j with
    | zero =>
      simp at hj
      subst hj
      have hm : (x, i) ∈ all.zipIdx := by rw [List.mem_zipIdx_iff_getElem?]; exact hi
      have := h.1 (x, i) hm
      simp only [Nat.add_zero] at hlt ⊢
      simpa [hlt, hc] using this
    | succ j =>
      have := ih (k + 1) h.2 j o (by simpa using hj) i x hi (by omega) hc
      rw [show k + (j + 1) = k + 1 + j by omega]
      exact this
theorem okDraw_spec {ops : Array Oper} (h : okDraw ops = true) : (∀ (j : Nat) o, ops[j]? = some o → ∀ e ∈ o.after.toList, Region.binds .any e = true → e.on < j) ∧
    ∀ (i j : Nat) x y, i < j → ops[i]? = some x → ops[j]? = some y → conf ops.toList x y = true → Before ops.toList i j := by
  simp only [okDraw, Bool.and_eq_true] at h
  refine ⟨fun j o hj e he hb => ?_, fun i j x y hij hi hj hc => ?_⟩
  · simpa using edges_spec _ _ h.1 j o (by simpa using hj) e he hb
  · have := pairs_spec ops.toList _ _ 0 h.2 j y (by simpa using hj) i x (by simpa using hi) (by omega) hc
    exact anc_spec ops.toList ops.toList [] (by simp) (by simp) i j (by simpa using this)
theorem strict_spec {ops : Array Oper} (h : strictB ops.toList = true) : ∀ (i j : Nat) x y, i < j → ops[i]? = some x → ops[j]? = some y → confS x y = true → Before ops.toList i j := fun i j x y hij hi hj hc => by
  have := pairs_spec ops.toList _ _ 0 h j y (by simpa using hj) i x (by simpa using hi) (by omega) hc
  exact anc_spec ops.toList ops.toList [] (by simp) (by simp) i j (by simpa using this)
section
variable {P : Program} {B : From} {w0 : World} {X : Nat → Prop} {N : Nat}
/-- The states of the walk in the order of the text. -/
structure Walk (P : Program) (N : Nat) (ops : Array Oper) (S : Nat → St) (V : Nat → AV) (U : Nat → Upd) : Prop where
  dst : ∀ (j : Nat) o, ops[j]? = some o → ∀ d, o.dst = some d → d < N
  op : ∀ (j : Nat) o, ops[j]? = some o → opR P ops.toList o (S j) (V j) (U j)
  next : ∀ (j : Nat) o, ops[j]? = some o → S (j + 1) = nextSt o (S j) (V j) (U j)
  ld : ∀ (j : Nat) o, ops[j]? = some o → ldZ ops.toList o (S j)
theorem walk_of {Z : Oper → St → Prop} {all : List Oper} {K : St → Prop} : ∀ (l : List Oper) (s : St), wopsP P Z all l s K → ∃ (S : Nat → St) (V : Nat → AV) (U : Nat → Upd), S 0 = s ∧ K (S l.length) ∧
    ∀ (j : Nat) o, l[j]? = some o → opR P all o (S j) (V j) (U j) ∧ S (j + 1) = nextSt o (S j) (V j) (U j) ∧ Z o (S j) := by
  intro l
  induction l with
  | nil => intro s h; exact ⟨fun _ => s, fun _ => .any, fun _ => .no, rfl, h, fun j o h => by simp at h⟩
  | cons o l ih =>
    intro s h
    obtain ⟨v, u, h2, hz, h3⟩ := h
    obtain ⟨S, V, U, k1, k2, k3⟩ := ih _ h3
    refine ⟨fun j => match j with | 0 => s | j + 1 => S j, fun j => match j with | 0 => v | j + 1 => V j, fun j => match j with | 0 => u | j + 1 => U j, rfl, k2, fun j o' hj => ?_⟩
    cases j with
    | zero => simp at hj; subst hj; exact ⟨h2, k1, hz⟩
    | succ j => exact k3 j o' (by simpa using hj)
section
variable {ops : Array Oper} {S : Nat → St} {V : Nat → AV} {U : Nat → Upd}
/-- The blocks that are made from number m on. -/
def newsF (U : Nat → Upd) (n m : Nat) : List Blk := (List.range' m (n - m)).filterMap fun i => match U i with | .new b => some b | _ => none
def Gm (S : Nat → St) (U : Nat → Upd) (n m : Nat) : List Blk := (S m).H ++ newsF U n m
theorem newsF_succ {n m : Nat} (h : m < n) : newsF U n m = (match U m with | .new b => [b] | _ => []) ++ newsF U n (m + 1) := by
  unfold newsF
  rw [show n - m = (n - (m + 1)) + 1 by omega, List.range'_succ, List.filterMap_cons]
  cases U m <;> rfl
theorem opR_form {all : List Oper} {o : Oper} {s : St} {v : AV} {u : Upd} (h : opR P all o s v u) : (∀ blk, u = .new blk → ∀ e rows, blk ≠ .row e true rows) ∧ ∀ id blk, u = .set id blk → id < s.H.length ∧ isWr o = true := by
  rcases h with ⟨_, h | ⟨f, args, ats, g, caps, _, _, _, h1, h2, _⟩⟩ | ⟨_, _, rfl⟩
  · obtain ⟨h1, h2⟩ := eop_form h
    refine ⟨h1, fun id blk hu => ?_⟩
    obtain ⟨h3, h4⟩ := h2 id blk hu
    refine ⟨h3, ?_⟩
    rcases h4 with ⟨t, a, x, h4⟩ | ⟨t, m, k, x, h4⟩ | ⟨t, m, k, h4⟩ | ⟨t, m, k, x, h4⟩ | ⟨b, args, ats, h4, rfl | rfl | rfl⟩ <;> simp [isWr, h4]
  · exact ⟨h2, fun id b h => absurd h (h1 id b)⟩
  · exact ⟨fun _ h => by simp at h, fun _ _ h => by simp at h⟩
theorem Gm_succ (hW : Walk P N ops S V U) {m : Nat} (h : m < ops.size) : Gm S U ops.size (m + 1) = updG (Gm S U ops.size m) (U m) := by
  have ho : ops[m]? = some ops[m] := by simp [h]
  unfold Gm
  rw [newsF_succ h, hW.next m _ ho]
  have hf := (opR_form (hW.op m _ ho)).2
  simp only [nextSt]
  cases hu : U m with
  | no => simp [upd, updG]
  | new b => simp [upd, updG]
  | set id b =>
    have := (hf id b hu).1
    simp [upd, updG, List.set_append_left _ _ this]
theorem Gm_between (hW : Walk P N ops S V U) {m k : Nat} (hmk : m ≤ k) (hk : k ≤ ops.size) (h : ∀ i o, m ≤ i → i < k → ops[i]? = some o → isWr o = false) : Gm S U ops.size k = Gm S U ops.size m := by
  induction k with
  | zero => rw [show m = 0 by omega]
  | succ k ih =>
    by_cases hm : m = k + 1
    · rw [hm]
    · rw [Gm_succ hW (by omega), ← ih (by omega) (by omega) fun i o h1 h2 h3 => h i o h1 (by omega) h3]
      have hko : ops[k]? = some ops[k] := by simp
      have hf := (opR_form (hW.op k _ hko)).2
      cases hu : U k with
      | no => rfl
      | new b => rfl
      | set id b =>
        have h1 := (hf id b hu).2
        have h2 := h k ops[k] (by omega) (by omega) hko
        rw [h1] at h2; simp at h2
theorem app_form {all : List Oper} {o : Oper} {s : St} {v : AV} {id : Nat} {b : Blk} (h : opR P all o s v (.set id b)) (ha : isApp o = true) : ∃ e nb rows rows', s.H[id]? = some (.row e nb rows) ∧ b = .row e nb rows' := by
  unfold isApp at ha
  split at ha
  · rename_i args ats hop
    rcases h with ⟨_, h | ⟨f, args', ats', g, caps, h0, _⟩⟩ | ⟨_, _, h⟩
    · simp only [eop, hop] at h
      unfold ebi at h
      repeat' (split at h <;> try (simp at h; done))
      all_goals simp at h
      all_goals first
        | (obtain ⟨_, rfl, rfl⟩ := h; exact ⟨_, _, _, _, ‹_›, rfl⟩)
        | skip
    · rw [hop] at h0; cases h0
    · cases h
  · cases ha
theorem box_between (hW : Walk P N ops S V U) {m k : Nat} (hmk : m ≤ k) (hk : k ≤ ops.size) (h : ∀ i o, m ≤ i → i < k → ops[i]? = some o → isWr o = true → isApp o = true) (id : Nat) (t : TypeId) (cs : List AV) :
    (Gm S U ops.size k)[id]? = some (.box t cs) ↔ (Gm S U ops.size m)[id]? = some (.box t cs) := by
  induction k with
  | zero => rw [show m = 0 by omega]
  | succ k ih =>
    by_cases hm : m = k + 1
    · rw [hm]
    · rw [← ih (by omega) (by omega) fun i o h1 h2 h3 => h i o h1 (by omega) h3, Gm_succ hW (by omega)]
      have hko : ops[k]? = some ops[k] := by simp
      cases hu : U k with
      | no => rfl
      | new b => rfl
      | set id' b =>
        have hop := hW.op k _ hko
        rw [hu] at hop
        have hf := (opR_form hop).2 id' b rfl
        obtain ⟨e, nb, rows, rows', h1, rfl⟩ := app_form hop (h k ops[k] (by omega) (by omega) hko hf.2)
        have h2 : (Gm S U ops.size k)[id']? = some (.row e nb rows) := by unfold Gm; rw [List.getElem?_append_left hf.1]; exact h1
        simp only [updG]
        by_cases e1 : id' = id
        · subst e1
          rw [h2, List.getElem?_set_self (List.getElem?_eq_some_iff.1 h2).1]
          simp
        · rw [List.getElem?_set_ne e1]
theorem rd_at {H G : List Blk} (hb : ∀ (id : Nat) (t : TypeId) (cs : List AV), H[id]? = some (Blk.box t cs) → G[id]? = some (Blk.box t cs)) {x : AV} (hn : notEp x = true) {cs : List AV} (hx : rd H x = some cs) : rd G x = some cs := by
  cases x <;> simp only [rd] at hx ⊢ <;> try (simp at hx; done)
  · exact hx
  · split at hx
    · rename_i t' cs' hq
      rw [hb _ _ _ hq]; exact hx
    · cases hx
  · simp [notEp] at hn
theorem shift_at {H G : List Blk} (hb : ∀ (id : Nat) (t : TypeId) (cs : List AV), H[id]? = some (Blk.box t cs) → G[id]? = some (Blk.box t cs)) {x : AV} (hn : notEp x = true) {k : Nat} {y : AV} (hx : shift H x k = some y) : shift G x k = some y := by
  cases x <;> simp only [shift] at hx ⊢ <;> try (simp at hx; done)
  · exact hx
  · split at hx
    · rename_i t' cs' hq
      rw [hb _ _ _ hq]; exact hx
    · cases hx
  · simp [notEp] at hn
theorem load_at {o : Oper} {T : List (Nat × AV)} {H G : List Blk} {v : AV} {u : Upd} {all : List Oper} (hl : isLd o = true) (hop : opR P all o ⟨T, H⟩ v u) (hne : ∀ a, ldAddr o = some a → guardV all T o = some true → notEp (lxv o (ev T a)) = true) (hb : ∀ (id : Nat) (t : TypeId) (cs : List AV), H[id]? = some (Blk.box t cs) → G[id]? = some (Blk.box t cs)) : opR P all o ⟨T, G⟩ v u ∧ u = .no := by
  unfold isLd ldAddr at hl
  unfold ldAddr at hne
  split at hl
  · rename_i t a ho
    rcases hop with ⟨hg, h | ⟨f, args', ats', g, caps, h0, _⟩⟩ | ⟨hg, h1, h2⟩
    · have hn : notEp (ev T a) = true := by have := hne a (by rw [ho]) hg; simpa only [lxv, ho] using this
      have key : eop P o ⟨T, G⟩ = some (v, u) ∧ u = .no := by
        simp only [eop, ho] at h ⊢
        cases hx : rd H (ev T a) with
        | none => rw [hx] at h; split at h <;> simp_all
        | some cs =>
          rw [rd_at hb hn hx]
          rw [hx] at h
          refine ⟨h, ?_⟩
          split at h
          · unfold same at h
            split at h
            · simp at h; exact h.2.symm
            · cases h
          · cases h
      exact ⟨.inl ⟨hg, .inl key.1⟩, key.2⟩
    · rw [ho] at h0; cases h0
    · exact ⟨.inr ⟨hg, h1, h2⟩, h2⟩
  · rename_i t a f ho
    rcases hop with ⟨hg, h | ⟨f, args', ats', g, caps, h0, _⟩⟩ | ⟨hg, h1, h2⟩
    · have hn : notEp (ev T a) = true := by have := hne a (by rw [ho]) hg; simpa only [lxv, ho] using this
      have key : eop P o ⟨T, G⟩ = some (v, u) ∧ u = .no := by
        simp only [eop, ho] at h ⊢
        split at h
        · split at h
          · split at h
            · rename_i off _ _ _ _ _
              cases hx : shift H (ev T a) off with
              | none => rw [hx] at h; simp [same] at h
              | some y =>
                rw [shift_at hb hn hx]
                rw [hx] at h
                simp only [same, Option.some.injEq, Prod.mk.injEq] at h ⊢
                exact ⟨h, h.2.symm⟩
            · cases h
          · cases h
        · cases h
      exact ⟨.inl ⟨hg, .inl key.1⟩, key.2⟩
    · rw [ho] at h0; cases h0
    · exact ⟨.inr ⟨hg, h1, h2⟩, h2⟩
  · rename_i a ho
    rcases hop with ⟨hg, h | ⟨f, args', ats', g, caps, h0, _⟩⟩ | ⟨hg, h1, h2⟩
    · have hn : notEp (ev T a) = true := by have := hne a (by rw [ho]) hg; simpa only [lxv, ho] using this
      simp only [eop, ho] at h
      cases hx : rd H (ev T a) with
      | none => rw [hx] at h; cases h
      | some cs =>
        rw [hx] at h
        simp at h
        obtain ⟨h1, h2⟩ := h
        exact ⟨.inl ⟨hg, .inl (by simp only [eop, ho]; rw [rd_at hb hn hx]; simp [h1, h2])⟩, h2.symm⟩
    · rw [ho] at h0; cases h0
    · exact ⟨.inr ⟨hg, h1, h2⟩, h2⟩
  · rename_i t a n ho
    rcases hop with ⟨hg, h | ⟨f, args', ats', g, caps, h0, _⟩⟩ | ⟨hg, h1, h2⟩
    · have hn : notEp (ixv (ev T a)) = true := by have := hne a (by rw [ho]) hg; simpa only [lxv, ho] using this
      have hrp : ∀ {x : AV}, notEp (ixv x) = true → (∀ off, shift H x off = shift G x off) ∧ ∀ k e n, elemAt H k e x n = elemAt G k e x n := fun {x} h => by
        cases x <;> first | (simp [ixv, notEp] at h; done) | exact ⟨fun _ => rfl, fun _ _ _ => rfl⟩
      obtain ⟨q2, q3⟩ := hrp hn
      refine ⟨.inl ⟨hg, .inl ?_⟩, ?_⟩
      · simp only [eop, ho] at h ⊢; simpa only [← q2, ← q3] using h
      · simp only [eop, ho, same] at h
        repeat' (split at h)
        all_goals simp at h
        all_goals exact h.2.symm
    · rw [ho] at h0; cases h0
    · exact ⟨.inr ⟨hg, h1, h2⟩, h2⟩
  · cases hl
theorem T_between (hW : Walk P N ops S V U) {t m k : Nat} (hmk : m ≤ k) (hk : k ≤ ops.size) (h : ∀ i o, m ≤ i → i < k → ops[i]? = some o → o.dst ≠ some t) : tget (S k).T t = tget (S m).T t := by
  induction k with
  | zero => rw [show m = 0 by omega]
  | succ k ih =>
    by_cases hm : m = k + 1
    · rw [hm]
    · rw [← ih (by omega) (by omega) fun i o h1 h2 h3 => h i o h1 (by omega) h3]
      have hko : ops[k]? = some ops[k] := by simp
      rw [hW.next k _ hko]
      have hne := h k ops[k] (by omega) (by omega) hko
      simp only [nextSt]
      cases hd : ops[k].dst with
      | none => rfl
      | some d =>
        simp only [tputD, tget_tput]
        rw [if_neg (fun e => hne (by rw [hd, e]))]
theorem len_mono (hW : Walk P N ops S V U) {m k : Nat} (hmk : m ≤ k) (hk : k ≤ ops.size) : (S m).H.length ≤ (S k).H.length := by
  induction k with
  | zero => rw [show m = 0 by omega]; exact Nat.le_refl _
  | succ k ih =>
    by_cases hm : m = k + 1
    · rw [hm]; exact Nat.le_refl _
    · have := ih (by omega) (by omega)
      have hko : ops[k]? = some ops[k] := by simp
      rw [hW.next k _ hko]
      simp only [nextSt]
      cases U k <;> simp [upd] <;> omega
theorem len_new (hW : Walk P N ops S V U) {k : Nat} {b : Blk} (hk : k < ops.size) (hu : U k = .new b) : (S (k + 1)).H.length = (S k).H.length + 1 := by
  have hko : ops[k]? = some ops[k] := by simp [hk]
  rw [hW.next k _ hko]
  simp [nextSt, hu, upd]
/-- In the middle of a region, in whatever order. -/
structure Mid (P : Program) (B : From) (w0 : World) (X : Nat → Prop) (N : Nat) (ops : Array Oper) (S : Nat → St) (U : Nat → Upd) (listed : Array Bool) (a : Act) (w : World) : Prop where
  sz : listed.size = ops.size
  down : ∀ (j : Nat) o, listed.getD j false = true → ops[j]? = some o → ∀ e ∈ o.after.toList, Region.binds .any e = true → listed.getD e.on false = true
  ex : ∃ φ m, m ≤ ops.size ∧ (∀ (i : Nat) o, ops[i]? = some o → isWr o = true → (listed.getD i false = true ↔ i < m)) ∧ HR P w0 X w φ (Gm S U ops.size m) ∧ Turn B.w B.φ B.H w φ (Gm S U ops.size m) ∧
    (∀ t, ∃ mt, mt ≤ ops.size ∧ (∀ (i : Nat) o, ops[i]? = some o → o.dst = some t → (listed.getD i false = true ↔ i < mt)) ∧ RV P w X φ (Gm S U ops.size m) (tget (S mt).T t) (a.tmps.getD t undef)) ∧
    (∀ (i : Nat) b, i < ops.size → listed.getD i false = false → U i = .new b → φ (S i).H.length = none ∧ (Gm S U ops.size m)[(S i).H.length]? = some b) ∧ Marks w φ w0.heap.size B.lo B.nm a.defers
  size : a.tmps.size = N
theorem before_listed {listed : Array Bool} (hd : ∀ (j : Nat) o, listed.getD j false = true → ops[j]? = some o → ∀ e ∈ o.after.toList, Region.binds .any e = true → listed.getD e.on false = true) {i j : Nat} (h : Before ops.toList i j) : listed.getD j false = true → listed.getD i false = true := by
  induction h with
  | one ho he hb => intro hj; exact hd _ _ hj (by simpa using ho) _ he hb
  | more ho he hb _ ih => intro hj; exact ih (hd _ _ hj (by simpa using ho) _ he hb)
theorem before_ready {listed : Array Bool} (hd : ∀ (j : Nat) o, listed.getD j false = true → ops[j]? = some o → ∀ e ∈ o.after.toList, Region.binds .any e = true → listed.getD e.on false = true) {i j : Nat} {o : Oper} (ho : ops[j]? = some o)
    (hr : ∀ e ∈ o.after.toList, Region.binds .any e = true → listed.getD e.on false = true) (h : Before ops.toList i j) : listed.getD i false = true := by
  cases h with
  | one ho' he hb =>
    have := (show ops.toList[j]? = some o by simpa using ho).symm.trans ho'
    simp at this; subst this
    exact hr _ he hb
  | more ho' he hb h =>
    have := (show ops.toList[j]? = some o by simpa using ho).symm.trans ho'
    simp at this; subst this
    exact before_listed hd h (hr _ he hb)
theorem getD_set {l : Array Bool} {j i : Nat} (hj : j < l.size) : (l.setIfInBounds j true).getD i false = if i = j then true else l.getD i false := by
  rw [Array.getD_eq_getD_getElem?, Array.getD_eq_getD_getElem?, Array.getElem?_setIfInBounds]
  by_cases h : i = j
  · subst h; simp [hj]
  · rw [if_neg (fun e => h e.symm), if_neg h]
theorem conf_dst {all : List Oper} {x y : Oper} {t : Nat} (hx : x.dst = some t) (hy : y.dst = some t ∨ t ∈ tmpsOf y ∨ gslot all y = some t) : conf all x y = true := by
  simp only [conf, hx, Bool.or_eq_true]
  rcases hy with h | h | h
  · simp [h]
  · simp [h]
  · simp [h]
theorem conf_dst' {all : List Oper} {x y : Oper} {t : Nat} (hy : y.dst = some t) (hx : x.dst = some t ∨ t ∈ tmpsOf x ∨ gslot all x = some t) : conf all x y = true := by
  rcases hx with h | h | h
  · exact conf_dst h (.inl hy)
  · simp only [conf, hy, Bool.or_eq_true]; simp [h]
  · simp only [conf, hy, Bool.or_eq_true]; simp [h]
theorem isWr_sens {o : Oper} (h : isWr o = true) : sens o.op = true := by
  unfold isWr at h
  split at h
  all_goals first | (rename_i h2; rw [h2]; rfl) | (simp at h; done)
theorem isWr_ld {o : Oper} (h : isWr o = true) : isLd o = false := by
  unfold isWr at h
  unfold isLd ldAddr
  split at h
  all_goals first | (rename_i h2; simp [h2]; done) | (simp at h; done)
/-- One operation in the middle of a region. -/
theorem mid_step (hW : Walk P N ops S V U) (hok : okDraw ops = true) {listed : Array Bool} {a : Act} {w : World} (hM : Mid P B w0 X N ops S U listed a w) {j : Nat} {o : Oper} {Q : Exit → Act → World → Prop} (ho : ops[j]? = some o) (hj : listed.getD j false = false)
    (hr : ∀ e ∈ o.after.toList, Region.binds .any e = true → listed.getD e.on false = true) {K : Act → World → Prop} (hK : ∀ a' w', Mid P B w0 X N ops S U (listed.setIfInBounds j true) a' w' → K a' w') : wpOp P ops Q j K a w := by
  obtain ⟨hedge, hconf⟩ := okDraw_spec hok
  obtain ⟨φ, m, hm, hwr, hhr, htn, hT, hnew, hdf⟩ := hM.ex
  have hjn : j < ops.size := (Array.getElem?_eq_some_iff.1 ho).1
  have hjl : j < listed.size := by rw [hM.sz]; exact hjn
  -- whoever must come before has come; whoever must come behind has not
  have hbef : ∀ (i : Nat) x, ops[i]? = some x → i < j → conf ops.toList x o = true → listed.getD i false = true := fun i x hx hlt hc => before_ready hM.down ho hr (hconf i j x o hlt hx ho hc)
  have haft : ∀ (i : Nat) x, ops[i]? = some x → j < i → conf ops.toList o x = true → listed.getD i false = false := fun i x hx hlt hc => by
    cases h : listed.getD i false with
    | false => rfl
    | true => have := before_listed hM.down (hconf j i o x hlt ho hx hc) h; rw [hj] at this; simp at this
  have hslot : ∀ t, (o.dst = some t ∨ t ∈ tmpsOf o ∨ gslot ops.toList o = some t) → ∀ (i : Nat) x, ops[i]? = some x → x.dst = some t → (listed.getD i false = true ↔ i < j) := fun t ht i x hx hd => by
    rcases Nat.lt_trichotomy i j with h | h | h
    · exact ⟨fun _ => h, fun _ => hbef i x hx h (conf_dst hd ht)⟩
    · subst h; simp [hj]
    · constructor
      · intro h2; rw [haft i x hx h (conf_dst' hd ht)] at h2; simp at h2
      · intro h2; omega
  have hwrj : sens o.op = true → ∀ (i : Nat) x, (isLd o = false ∨ strictB ops.toList = true ∨ isApp x = false) → ops[i]? = some x → isWr x = true → (listed.getD i false = true ↔ i < j) := fun hs i x hd hx hw => by
    rcases Nat.lt_trichotomy i j with h | h | h
    · refine ⟨fun _ => h, fun _ => ?_⟩
      rcases hd with hd | hd | hd
      · exact hbef i x hx h (by simp [conf, hw, hs, hd])
      · exact before_ready hM.down ho hr (strict_spec hd i j x o h hx ho (by simp [confS, hw, hs]))
      · exact hbef i x hx h (by simp [conf, hw, hs, hd])
    · subst h; simp [hj]
    · constructor
      · intro h2
        have : listed.getD i false = false := by
          rcases hd with hd | hd | hd
          · exact haft i x hx h (by simp [conf, hw, hs, hd])
          · cases h3 : listed.getD i false with
            | false => rfl
            | true => have := before_listed hM.down (strict_spec hd j i o x h ho hx (by simp [confS, hw, hs])) h3; rw [hj] at this; simp at this
          · exact haft i x hx h (by simp [conf, hw, hs, hd])
        rw [this] at h2; simp at h2
      · intro h2; omega
  -- two boundaries for the same things
  have hTj : ∀ t, (o.dst = some t ∨ t ∈ tmpsOf o ∨ gslot ops.toList o = some t) → RV P w X φ (Gm S U ops.size m) (tget (S j).T t) (a.tmps.getD t undef) := fun t ht => by
    obtain ⟨mt, h1, h2, h3⟩ := hT t
    have e : tget (S j).T t = tget (S mt).T t := by
      rcases Nat.le_total mt j with h | h
      · exact T_between hW h (by omega) fun i x q1 q2 q3 q4 => by
          have r1 := hslot t ht i x q3 q4
          have r2 := h2 i x q3 q4
          have r3 := r1.symm.trans r2
          omega
      · exact (T_between hW h h1 fun i x q1 q2 q3 q4 => by
          have r1 := hslot t ht i x q3 q4
          have r2 := h2 i x q3 q4
          have r3 := r1.symm.trans r2
          omega).symm
    rw [e]; exact h3
  have hGj : sens o.op = true → (isLd o = false ∨ strictB ops.toList = true) → Gm S U ops.size m = Gm S U ops.size j := fun hs hd => by
    have hb : ∀ i x, ops[i]? = some x → isWr x = true → (i < m ↔ i < j) := fun i x hx hw => (hwr i x hx hw).symm.trans (hwrj hs i x (hd.imp id .inl) hx hw)
    rcases Nat.le_total m j with h | h
    · exact (Gm_between hW h (by omega) fun i x q1 q2 q3 => by
        cases hw : isWr x with
        | false => rfl
        | true => have := hb i x q3 hw; omega).symm
    · exact Gm_between hW h hm fun i x q1 q2 q3 => by
        cases hw : isWr x with
        | false => rfl
        | true => have := hb i x q3 hw; omega
  have hop := hW.op j o ho
  -- a load of a variable runs as well where appends have passed it
  obtain ⟨Hx, hopx, hsx, hnx⟩ : ∃ Hx, opR P ops.toList o ⟨(S j).T, Hx⟩ (V j) (U j) ∧ (sens o.op = true → ∀ (id : Nat) b, Hx[id]? = some b → (Gm S U ops.size m)[id]? = some b) ∧ (∀ b, U j = .new b → Hx = (S j).H) := by
    by_cases hd : isLd o = false ∨ strictB ops.toList = true
    · refine ⟨(S j).H, hop, fun hs id b hb => ?_, fun _ _ => rfl⟩
      rw [hGj hs hd]
      unfold Gm
      rw [List.getElem?_append_left (List.getElem?_eq_some_iff.1 hb).1]
      exact hb
    · have hl : isLd o = true := by cases h : isLd o with | true => rfl | false => exact absurd (.inl h) hd
      have hs : sens o.op = true := by
        unfold isLd ldAddr at hl
        split at hl
        · rename_i h2; rw [h2]; rfl
        · rename_i h2; rw [h2]; rfl
        · rename_i h2; rw [h2]; rfl
        · rename_i h2; rw [h2]; rfl
        · cases hl
      have hb : ∀ i x, ops[i]? = some x → isWr x = true → isApp x = true ∨ (i < m ↔ i < j) := fun i x hx hw => by
        cases ha : isApp x with
        | true => exact .inl rfl
        | false => exact .inr ((hwr i x hx hw).symm.trans (hwrj hs i x (.inr (.inr ha)) hx hw))
      obtain ⟨q1, q2⟩ := load_at (G := Gm S U ops.size m) hl hop (fun a h hg => ((hW.ld j o ho a h hg).resolve_right fun h => hd (.inr h))) fun id t cs h => by
        have h0 : (Gm S U ops.size j)[id]? = some (.box t cs) := by
          unfold Gm
          rw [List.getElem?_append_left (List.getElem?_eq_some_iff.1 h).1]
          exact h
        rcases Nat.le_total m j with h1 | h1
        · exact (box_between hW h1 (by omega) (fun i x q1 q2 q3 q4 => (hb i x q3 q4).resolve_right fun h => by omega) id t cs).1 h0
        · exact (box_between hW h1 hm (fun i x q1 q2 q3 q4 => (hb i x q3 q4).resolve_right fun h => by omega) id t cs).2 h0
      exact ⟨_, q1, fun _ id b h => h, fun b h => by rw [q2] at h; cases h⟩
  refine opR_wp ho hopx hhr (fun x hx => ?_) (fun g b t hg ht => ?_) hsx (fun b hb => by rw [hnx b hb]; exact ⟨(hnew j b hjn hj hb).2, (hnew j b hjn hj hb).1⟩) (fun x w' φ' k1 k2 k3 k4 => hK _ _ ?_)
  · cases x with
    | tmp t => exact hTj t (.inr (.inl (by simp only [tmpsOf, List.mem_filterMap]; exact ⟨_, hx, rfl⟩)))
    | const v => exact ofV_rv v
    | func f => exact .ro (.fn rfl (by simp))
    | global g => exact hhr.glob g
  · exact hTj t (.inr (.inr (by simp [gslot, hg]; simpa using ht)))
  · -- what holds behind it
    have hset := fun i => getD_set (l := listed) (i := i) hjl
    obtain ⟨q1, q2⟩ := opR_form hop
    obtain ⟨m', hm', hwr', hG'⟩ : ∃ m', m' ≤ ops.size ∧ (∀ (i : Nat) x, ops[i]? = some x → isWr x = true → ((listed.setIfInBounds j true).getD i false = true ↔ i < m')) ∧ Gm S U ops.size m' = updG (Gm S U ops.size m) (U j) := by
      cases hw : isWr o with
      | true =>
        have hs := isWr_sens hw
        refine ⟨j + 1, by omega, fun i x hx hwx => ?_, ?_⟩
        · rw [hset i]
          have := hwrj hs i x (.inl (isWr_ld hw)) hx hwx
          by_cases h : i = j
          · simp [h]
          · rw [if_neg h, this]; omega
        · rw [Gm_succ hW hjn, hGj hs (.inl (isWr_ld hw))]
      | false =>
        refine ⟨m, hm, fun i x hx hwx => ?_, ?_⟩
        · rw [hset i]
          by_cases h : i = j
          · subst h; rw [ho] at hx; simp at hx; subst hx; rw [hw] at hwx; simp at hwx
          · rw [if_neg h]; exact hwr i x hx hwx
        · cases hu : U j with
          | no => rfl
          | new b => rfl
          | set id b => have := (q2 id b hu).2; rw [hw] at this; simp at this
    refine ⟨by simpa using hM.sz, fun i x hi hx e he hb => ?_, ⟨φ', m', hm', hwr', by rw [hG']; exact k1, by rw [hG']; exact htn.trans k2, fun t => ?_, fun i b hi hl hu => ?_, by cases hd : o.dst <;> simpa [Act.put, hd] using hdf.turn k2⟩, by cases hd : o.dst <;> simpa [Act.put, hd] using hM.size⟩
    · rw [hset] at hi ⊢
      split
      · rfl
      · by_cases h : i = j
        · subst h; rw [ho] at hx; simp at hx; subst hx
          exact hr e he hb
        · rw [if_neg h] at hi
          exact hM.down i x hi hx e he hb
    · by_cases hd : o.dst = some t
      · refine ⟨j + 1, by omega, fun i x hx hdx => ?_, ?_⟩
        · rw [hset i]
          have := hslot t (.inl hd) i x hx hdx
          by_cases h : i = j
          · simp [h]
          · rw [if_neg h, this]; omega
        · rw [hG', hW.next j o ho]
          have hN := hW.dst j o ho t hd
          simp only [nextSt, hd, tputD, tget_tput, if_true, Act.put]
          have : (a.tmps.setIfInBounds t x).getD t undef = x := by simp [Array.getD_eq_getD_getElem?, hM.size, hN]
          rw [this]; exact k3
      · obtain ⟨mt, h1, h2, h3⟩ := hT t
        refine ⟨mt, h1, fun i x hx hdx => ?_, ?_⟩
        · rw [hset i]
          by_cases h : i = j
          · subst h; rw [ho] at hx; simp at hx; subst hx; exact absurd hdx hd
          · rw [if_neg h]; exact h2 i x hx hdx
        · rw [hG']
          have : (a.put o.dst x).tmps.getD t undef = a.tmps.getD t undef := by
            cases hd2 : o.dst with
            | none => rfl
            | some d => simp [Act.put, Array.getD_eq_getD_getElem?, Array.getElem?_setIfInBounds, show d ≠ t from fun e => hd (by rw [hd2, e])]
          rw [this]; exact h3.turn k2
    · rw [hset] at hl
      split at hl
      · simp at hl
      · rename_i hij
        obtain ⟨r1, r2⟩ := hnew i b hi hl hu
        have hio : ops[i]? = some ops[i] := by simp [hi]
        have hnb := (opR_form (hW.op i _ hio)).1 b hu
        obtain ⟨s1, s2⟩ := k4 (S i).H.length r1 (fun b' hb' e => by
          rw [hnx b' hb'] at e
          have l1 := len_new hW hi hu
          have l2 := len_new hW hjn hb'
          rcases Nat.lt_or_gt_of_ne hij with h | h
          · have := len_mono hW (show i + 1 ≤ j by omega) (by omega); omega
          · have := len_mono hW (show j + 1 ≤ i by omega) (by omega); omega) (fun e rows h => by rw [r2] at h; simp at h; exact hnb _ _ h)
        rw [hG']
        exact ⟨s1, by rw [s2]; exact r2⟩
theorem mid_any (hW : Walk P N ops S V U) (hok : okDraw ops = true) {K : St → Prop} (hKn : K (S ops.size)) {Q : Exit → Act → World → Prop} (hQ : ∀ s φ a w, Rel P B w0 X N s φ a w → K s → Q .normal a w) :
    ∀ (fuel : Nat) (listed : Array Bool) (a : Act) (w : World), Mid P B w0 X N ops S U listed a w → listed.toList.countP (!·) ≤ fuel → wpAny P .any ops Q fuel listed a w := by
  obtain ⟨hedge, _⟩ := okDraw_spec hok
  -- all have come up
  have hend : ∀ (listed : Array Bool) (a : Act) (w : World), Mid P B w0 X N ops S U listed a w → (∀ i, i < ops.size → listed.getD i false = true) → Q .normal a w := fun listed a w hM hall => by
    obtain ⟨φ, m, hm, hwr, hhr, htn, hT, hnew, hdf⟩ := hM.ex
    have hfin : Gm S U ops.size ops.size = (S ops.size).H := by simp [Gm, newsF]
    have hG : Gm S U ops.size m = (S ops.size).H := by
      rw [← hfin]
      exact (Gm_between hW hm (Nat.le_refl _) fun i o h1 h2 h3 => by
        cases hw : isWr o with
        | false => rfl
        | true => have := (hwr i o h3 hw).1 (hall i h2); omega).symm
    refine hQ (S ops.size) φ a w ⟨by rw [← hG]; exact hhr, by rw [← hG]; exact htn, fun t => ?_, hM.size, hdf⟩ hKn
    obtain ⟨mt, h1, h2, h3⟩ := hT t
    rw [← hG, T_between hW h1 (Nat.le_refl _) fun i o q1 q2 q3 q4 => by have := (h2 i o q3 q4).1 (hall i q2); omega]
    exact h3
  -- somebody can come up, unless all have
  have hsome : ∀ (listed : Array Bool) (a : Act) (w : World), Mid P B w0 X N ops S U listed a w → Region.ready .any ops listed = [] → ∀ i, i < ops.size → listed.getD i false = true := fun listed a w hM hre => by
    intro i
    induction i using Nat.strongRecOn with
    | _ i ih =>
      intro hi
      cases h : listed.getD i false with
      | true => rfl
      | false =>
        have hio : ops[i]? = some ops[i] := by simp [hi]
        have : i ∈ Region.ready .any ops listed := by
          unfold Region.ready
          rw [List.mem_filter]
          refine ⟨by simpa using hi, ?_⟩
          have hd : listed.getD i true = false := by
            rw [Array.getD_eq_getD_getElem?] at h ⊢
            have hl : i < listed.size := by rw [hM.sz]; exact hi
            simp [hl] at h ⊢; exact h
          simp only [hd, Bool.not_false, Bool.true_and, hio, Option.map_some, Option.getD_some, Array.all_eq_true_iff_forall_mem]
          intro e he
          have he : e ∈ ops[i].after.toList := by simpa using he
          cases hb : Region.binds .any e with
          | false => simp
          | true =>
            have hlt := hedge i _ hio e he hb
            simp [ih e.on hlt (by omega)]
        rw [hre] at this
        simp at this
  intro fuel
  induction fuel with
  | zero =>
    intro listed a w hM hc
    have hall : ∀ i, i < ops.size → listed.getD i false = true := fun i hi => by
      have hl : i < listed.size := by rw [hM.sz]; exact hi
      have h0 : listed.toList.countP (!·) = 0 := by omega
      rw [List.countP_eq_zero] at h0
      have := h0 listed[i] (by simp)
      rw [Array.getD_eq_getD_getElem?]
      simp [hl]
      simpa using this
    refine ⟨?_, hend listed a w hM hall⟩
    unfold Region.ready
    rw [List.filter_eq_nil_iff]
    intro i hi
    have hi' : i < ops.size := by simpa using hi
    have := hall i hi'
    have hd : listed.getD i true = true := by
      rw [Array.getD_eq_getD_getElem?] at this ⊢
      have hl : i < listed.size := by rw [hM.sz]; exact hi'
      simp [hl] at this ⊢; exact this
    simp [hd]
  | succ fuel ih =>
    intro listed a w hM hc
    refine ⟨fun hre => hend listed a w hM (hsome listed a w hM hre), fun j hj => ?_⟩
    obtain ⟨h1, o, ho, h2⟩ := mem_ready.1 hj
    have hjn : j < ops.size := (Array.getElem?_eq_some_iff.1 ho).1
    have hjl : j < listed.size := by rw [hM.sz]; exact hjn
    have hjf : listed.getD j false = false := by
      rw [Array.getD_eq_getD_getElem?] at h1 ⊢
      simp [hjl] at h1 ⊢; exact h1
    refine mid_step hW hok hM ho hjf (fun e he hb => h2 e (by simpa using he) hb) fun a' w' hM' => ih _ a' w' hM' ?_
    have hlj : listed[j] = false := by
      rw [Array.getD_eq_getD_getElem?] at hjf
      simpa [hjl] using hjf
    have hcnt := List.countP_set (p := fun b : Bool => !b) (l := listed.toList) (i := j) (a := true) (by simpa using hjl)
    rw [Array.toList_setIfInBounds, hcnt]
    have h3 : 0 < listed.toList.countP (!·) := List.countP_pos_iff.2 ⟨listed[j], by simp, by simp [hlj]⟩
    have hlt2 : listed.toList[j]'(by simpa using hjl) = false := by simpa using hlj
    simp only [hlt2, Bool.not_false, if_true, Bool.not_true, Bool.false_eq_true, if_false]
    omega
/-- **A region that draws its order.** -/
theorem draw_any (hok : okDraw ops = true) {K : St → Prop} {Q : Exit → Act → World → Prop} {s : St} {φ : Nat → Option Nat} {a : Act} {w : World} (hdst : ∀ (j : Nat) o, ops[j]? = some o → ∀ d, o.dst = some d → d < N) (h : wopsP P (ldZ ops.toList) ops.toList ops.toList s K) (hrel : Rel P B w0 X N s φ a w)
    (hQ : ∀ s φ a w, Rel P B w0 X N s φ a w → K s → Q .normal a w) : wpAny P .any ops Q ops.size (Array.replicate ops.size false) a { w with drawn := w.drawn + 1 } := by
  obtain ⟨S, V, U, h0, hKn, hs⟩ := walk_of _ _ h
  have hW : Walk P N ops S V U := ⟨hdst, fun j o ho => (hs j o (by simpa using ho)).1, fun j o ho => (hs j o (by simpa using ho)).2.1, fun j o ho => (hs j o (by simpa using ho)).2.2⟩
  refine mid_any hW hok (K := K) (by simpa using hKn) hQ ops.size _ a _ ?_ (by have := List.countP_le_length (p := fun b : Bool => !b) (l := (Array.replicate ops.size false).toList); simpa using this)
  have hrel' : HR P w0 X w.drew φ s.H := hr_drew hrel.hr
  have hfalse : ∀ i, (Array.replicate ops.size false).getD i false = false := fun i => by
    rw [Array.getD_eq_getD_getElem?, Array.getElem?_replicate]
    split <;> rfl
  -- the blocks that are to come are there already, as names
  have hpush : ∀ (l : List Blk) (G : List Blk), HR P w0 X w.drew φ G → HR P w0 X w.drew φ (G ++ l) ∧ Turn w.drew φ G w.drew φ (G ++ l) := by
    intro l
    induction l with
    | nil => intro G h; rw [List.append_nil]; exact ⟨h, Turn.refl _ _ _⟩
    | cons b l ih =>
      intro G h
      obtain ⟨k1, k2⟩ := ih _ (hr_push h b)
      rw [show G ++ b :: l = (G ++ [b]) ++ l by simp]
      exact ⟨k1, (turn_push _ _ _ _).trans k2⟩
  obtain ⟨p1, p2⟩ := hpush (newsF U ops.size 0) s.H hrel'
  have hG0 : Gm S U ops.size 0 = s.H ++ newsF U ops.size 0 := by simp [Gm, h0]
  refine ⟨by simp, fun j o hj => by rw [hfalse] at hj; simp at hj, ⟨φ, 0, by omega, fun i o _ _ => by rw [hfalse]; simp, by rw [hG0]; exact p1, by rw [hG0]; exact (hrel.tn.trans (turn_drew w φ s.H)).trans p2, fun t => ⟨0, by omega, fun i o _ _ => by rw [hfalse]; simp, ?_⟩, fun i b hi _ hu => ⟨?_, ?_⟩, hrel.df.turn (turn_drew w φ s.H)⟩, hrel.size⟩
  · rw [hG0, h0]
    exact ((hrel.t t).turn (turn_drew w φ s.H)).turn p2
  · cases hc : φ (S i).H.length with
    | none => rfl
    | some c =>
      have := (hrel.hr.own _ c hc).2.2
      have := len_mono hW (Nat.zero_le i) (by omega)
      rw [h0] at this; omega
  · -- the block with this number
    have hio : ∀ k, k ≤ i → (Gm S U ops.size 0)[(S i).H.length]? = ((S k).H ++ newsF U ops.size k)[(S i).H.length]? := by
      intro k
      induction k with
      | zero => intro _; rfl
      | succ k ih =>
        intro hk
        rw [ih (by omega), newsF_succ (by omega : k < ops.size)]
        have hko : ops[k]? = some ops[k] := by simp
        have hlm := len_mono hW (show k + 1 ≤ i by omega) (by omega)
        rw [hW.next k _ hko] at hlm ⊢
        cases huk : U k with
        | no => simp [nextSt, upd]
        | new b' => simp [nextSt, upd]
        | set id' b' =>
          simp only [nextSt, upd, huk, List.length_set, List.nil_append] at hlm ⊢
          rw [List.getElem?_append_right (by omega), List.getElem?_append_right (by simp; omega)]
          simp
    rw [hio i (Nat.le_refl _), newsF_succ hi, hu]
    simp
theorem draw_wp {r : Option Nat} (hrd : r = none ∨ noDefL ops.toList = true) (hm : P.follows .mixedOrders = true) (hok : okDraw ops = true) {K : St → Prop} {Q : Exit → Act → World → Prop} {id : Nat} {s : St} {φ : Nat → Option Nat} {a : Act} {w : World} (hdst : ∀ (j : Nat) o, ops[j]? = some o → ∀ d, o.dst = some d → d < N) (h : wopsP P (ldZ ops.toList) ops.toList ops.toList s K) (hrel : Rel P B w0 X N s φ a w)
    (hQ : ∀ s φ a w, Rel P B w0 X N s φ a w → K s → Q .normal a w) : (Code.region id ops true).wpIn (fenceR r) 0 P Q a w := of_endN (region_anyIn hm hrd endN_no (draw_any hok hdst h hrel hQ))
end
end
end Go.Proofs.YthiclaihlpkinaaGreat
namespace Go.Proofs.YthiclaihlpkinaaGreat
open Go.RowKit
variable [Glob]
def isCallV (o : Oper) : Bool := match o.op with | .call ⟨.value _, _, _⟩ => true | _ => false
def wr2 (o : Oper) : Bool := isWr o || isCallV o
def softA (o : Oper) : Option Operand := match o.op with | .load _ a => some a | .fieldAddr _ a _ => some a | .nilCheck a => some a | .indexAddr _ a _ => some a | .call ⟨.builtin .len, args, _⟩ => args[0]? | _ => none
def isIx (o : Oper) : Bool := match o.op with | .indexAddr .. => true | .call ⟨.builtin .len, _, _⟩ => true | _ => false
def isSoft (o : Oper) : Bool := (softA o).isSome
def conf2 (all : List Oper) (x y : Oper) : Bool :=
  (match x.dst with | some d => y.dst == some d || (tmpsOf y).contains d || gslot all y == some d | none => false) ||
  (match y.dst with | some d => (tmpsOf x).contains d || gslot all x == some d | none => false) ||
  (wr2 x && sens y.op && !isSoft y) || (wr2 y && sens x.op && !isSoft x)
def okDraw2 (ops : Array Oper) : Bool := edgesOk 0 ops.toList && pairsOk (conf2 ops.toList) ops.toList (ancL ops.toList []) 0 ops.toList
/-- Number j is ordered with all that write. -/
def hardAt (all : List Oper) (j : Nat) : Bool :=
  all.zipIdx.all fun p => !wr2 p.1 || p.2 == j || (decide (p.2 < j) && ((ancL all []).getD j 0).testBit p.2) || (decide (j < p.2) && ((ancL all []).getD p.2 0).testBit j)
/-- May an operation make a block? -/
def newish (o : Oper) : Bool := match o.op with
  | .alloc _ | .box .. | .buildSlice .. | .makeSlice .. | .makeMap .. | .range .. => true
  | .call ⟨.builtin .append, _, _⟩ => true
  | .call ⟨.value _, _, _⟩ => true
  | _ => false
/-- All that may make blocks comes before number j. -/
def lastNew (all : List Oper) (j : Nat) : Bool := all.zipIdx.all fun p => !newish p.1 || p.2 == j || (decide (p.2 < j) && ((ancL all []).getD j 0).testBit p.2)
def isBox : Blk → Bool
  | .box .. => true
  | _ => false
def isBoxO : Option Blk → Bool
  | some b => isBox b
  | none => false
def nobox (H : List Blk) : Upd → Bool
  | .set id b => !isBox b && !isBoxO H[id]?
  | _ => true
theorem ok2_spec {ops : Array Oper} (h : okDraw2 ops = true) : (∀ (j : Nat) o, ops[j]? = some o → ∀ e ∈ o.after.toList, Region.binds .any e = true → e.on < j) ∧
    ∀ (i j : Nat) x y, i < j → ops[i]? = some x → ops[j]? = some y → conf2 ops.toList x y = true → Before ops.toList i j := by
  simp only [okDraw2, Bool.and_eq_true] at h
  refine ⟨fun j o hj e he hb => ?_, fun i j x y hij hi hj hc => ?_⟩
  · simpa using edges_spec _ _ h.1 j o (by simpa using hj) e he hb
  · have := pairs_spec ops.toList _ _ 0 h.2 j y (by simpa using hj) i x (by simpa using hi) (by omega) hc
    exact anc_spec ops.toList ops.toList [] (by simp) (by simp) i j (by simpa using this)
theorem hard_spec {ops : Array Oper} {j : Nat} (h : hardAt ops.toList j = true) {i : Nat} {x : Oper} (hi : ops[i]? = some x) (hw : wr2 x = true) (hne : i ≠ j) : (i < j → Before ops.toList i j) ∧ (j < i → Before ops.toList j i) := by
  simp only [hardAt, List.all_eq_true] at h
  have hm : (x, i) ∈ ops.toList.zipIdx := by rw [List.mem_zipIdx_iff_getElem?]; simpa using hi
  have h1 := h _ hm
  have hij : (i == j) = false := by simpa using hne
  simp only [hw, Bool.not_true, Bool.false_or, hij, Bool.or_eq_true, Bool.and_eq_true, decide_eq_true_eq] at h1
  rcases h1 with ⟨h2, h3⟩ | ⟨h2, h3⟩
  · exact ⟨fun _ => anc_spec ops.toList ops.toList [] (by simp) (by simp) i j h3, fun h => by omega⟩
  · exact ⟨fun h => by omega, fun _ => anc_spec ops.toList ops.toList [] (by simp) (by simp) j i h3⟩
theorem last_spec {ops : Array Oper} {j : Nat} (h : lastNew ops.toList j = true) {i : Nat} {x : Oper} (hi : ops[i]? = some x) (hw : newish x = true) (hne : i ≠ j) : i < j ∧ Before ops.toList i j := by
  simp only [lastNew, List.all_eq_true] at h
  have hm : (x, i) ∈ ops.toList.zipIdx := by rw [List.mem_zipIdx_iff_getElem?]; simpa using hi
  have h1 := h _ hm
  have hij : (i == j) = false := by simpa using hne
  simp only [hw, Bool.not_true, Bool.false_or, hij, Bool.and_eq_true, decide_eq_true_eq] at h1
  exact ⟨h1.1, anc_spec ops.toList ops.toList [] (by simp) (by simp) i j h1.2⟩
section
variable {P : Program} {B : From} {w0 : World} {X : Nat → Prop} {N : Nat}
theorem ebi_new {b : Builtin} {s : St} {ts : List TypeId} {args : List AV} {v : AV} {blk : Blk} (h : ebi P s b ts args = some (v, .new blk)) : b = .append := by
  unfold ebi at h
  repeat' (split at h)
  all_goals first | rfl | (simp at h; done)
theorem eop_new {o : Oper} {s : St} {v : AV} {b : Blk} (h : eop P o s = some (v, .new b)) : newish o = true := by
  obtain ⟨dst, op, tyo, pos, after, guard⟩ := o
  cases op
  case call c =>
    obtain ⟨callee, args, ats⟩ := c
    cases callee <;> simp only [eop] at h <;> try (simp at h; done)
    rw [ebi_new h]; rfl
  case store t x y =>
    simp only [eop] at h
    repeat' (split at h)
    all_goals simp at h
    rename_i u' hu'
    obtain ⟨_, rfl⟩ := h
    obtain ⟨id, b, h, _⟩ := wr_form hu'
    cases h
  all_goals first
    | rfl
    | (simp only [eop, same] at h
       repeat' (split at h)
       all_goals first | (simp at h; done) | contradiction)
/-- Does it write a variable from outside, by a field? -/
def modeO (all : List Oper) : Bool := all.any fun o => match o.op with | .store _ (.tmp t) _ => all.any fun a => (match a.op with | .fieldAddr _ (.tmp b) _ => all.all fun x => !(x.dst == some b) | _ => false) && a.dst == some t | _ => false
/-- Does it write a variable from outside, as it stands? -/
def modeP (all : List Oper) : Bool := all.any fun o => match o.op with | .store _ (.tmp t) _ => all.all fun x => !(x.dst == some t) | _ => false
/-- Does the region write a variable that it makes itself? Then only loads of memory that nobody writes may pass. -/
def modeB (all : List Oper) : Bool := (all.any fun o => match o.op with | .store _ (.tmp t) _ => all.any fun a => (match a.op with | .alloc _ => true | _ => false) && a.dst == some t | _ => false) || modeO all || modeP all
def isRp : AV → Bool
  | .rp _ => true
  | .rs _ => true
  | _ => false
/-- A load of this address may pass what writes. -/
def softOk (all : List Oper) (ix : Bool) (x : AV) : Bool := isRp x || (notEp x && !ix && !modeB all)
/-- The block that an address lies in. -/
def idOf : AV → Option Nat
  | .op id _ => some id
  | .ep id _ _ _ => some id
  | _ => none
/-- All that is written in the region lies in other blocks than this address. -/
def farA (all : List Oper) (T : List (Nat × AV)) (x : AV) : Bool := match idOf x with
  | some id => all.all fun o => !wr2 o || (match o.op with | .store _ (.tmp t) _ => (all.all fun y => !(y.dst == some t)) && (match idOf (tget T t) with | some id' => !(id' == id) | none => false) | _ => false)
  | none => false
def hardX (all : List Oper) (ix : Bool) (T : List (Nat × AV)) (x : AV) (j : Nat) : Bool := hardAt all j || (!ix && farA all T x)
/-- This write does not disturb what may pass. -/
def noboxA (all : List Oper) (H : List Blk) (u : Upd) : Bool := nobox H u || modeB all
/-- What an operation does in such a region. -/
def op2 (P : Program) (all : List Oper) (j : Nat) (o : Oper) (s : St) (v : AV) (u : Upd) : Prop :=
  opR P all o s v u ∨ (guardV all s.T o = some true ∧ lastNew all j = true ∧ ∃ id b f args ats g caps, u = .set id b ∧ id < s.H.length ∧ o.op = .call ⟨.value f, args, ats⟩ ∧ ev s.T f = .fn g caps ∧ CallG P g (args.toList.map (ev s.T) ++ caps) s.H fun r H' => r = v ∧ H' = s.H.set id b)
structure Walk2 (P : Program) (N : Nat) (ops : Array Oper) (S : Nat → St) (V : Nat → AV) (U : Nat → Upd) : Prop where
  dst : ∀ (j : Nat) o, ops[j]? = some o → ∀ d, o.dst = some d → d < N
  op : ∀ (j : Nat) o, ops[j]? = some o → op2 P ops.toList j o (S j) (V j) (U j)
  next : ∀ (j : Nat) o, ops[j]? = some o → S (j + 1) = nextSt o (S j) (V j) (U j)
  bx : ∀ (j : Nat) o, ops[j]? = some o → noboxA ops.toList (S j).H (U j) = true
  ld : ∀ (j : Nat) o, ops[j]? = some o → ∀ a, softA o = some a → guardV ops.toList (S j).T o = some true → softOk ops.toList (isIx o) (ev (S j).T a) = true ∨ hardX ops.toList (isIx o) (S j).T (ev (S j).T a) j = true
section
variable {ops : Array Oper} {S : Nat → St} {V : Nat → AV} {U : Nat → Upd}
theorem op2_form {all : List Oper} {j : Nat} {o : Oper} {s : St} {v : AV} {u : Upd} (h : op2 P all j o s v u) : (∀ blk, u = .new blk → (∀ e rows, blk ≠ .row e true rows) ∧ newish o = true) ∧ ∀ id blk, u = .set id blk → id < s.H.length ∧ wr2 o = true := by
  rcases h with h | ⟨_, _, id, b, f, args, ats, g, caps, rfl, hid, hop, _⟩
  · obtain ⟨h1, h2⟩ := opR_form h
    refine ⟨fun blk hb => ⟨h1 blk hb, ?_⟩, fun id blk hb => ⟨(h2 id blk hb).1, by simp [wr2, (h2 id blk hb).2]⟩⟩
    subst hb
    rcases h with ⟨_, h | ⟨f, args, ats, g, caps, hop, _⟩⟩ | ⟨_, _, h⟩
    · exact eop_new h
    · simp [newish, hop]
    · cases h
  · exact ⟨fun blk h => (by cases h), fun id' blk h => (by cases h; exact ⟨hid, by simp [wr2, isCallV, hop]⟩)⟩
theorem Gm_succ2 (hW : Walk2 P N ops S V U) {m : Nat} (h : m < ops.size) : Gm S U ops.size (m + 1) = updG (Gm S U ops.size m) (U m) := by
  have ho : ops[m]? = some ops[m] := by simp [h]
  unfold Gm
  rw [newsF_succ h, hW.next m _ ho]
  have hf := (op2_form (hW.op m _ ho)).2
  simp only [nextSt]
  cases hu : U m with
  | no => simp [upd, updG]
  | new b => simp [upd, updG]
  | set id b =>
    have := (hf id b hu).1
    simp [upd, updG, List.set_append_left _ _ this]
theorem Gm_between2 (hW : Walk2 P N ops S V U) {m k : Nat} (hmk : m ≤ k) (hk : k ≤ ops.size) (h : ∀ i o, m ≤ i → i < k → ops[i]? = some o → wr2 o = false) : Gm S U ops.size k = Gm S U ops.size m := by
  induction k with
  | zero => rw [show m = 0 by omega]
  | succ k ih =>
    by_cases hm : m = k + 1
    · rw [hm]
    · rw [Gm_succ2 hW (by omega), ← ih (by omega) (by omega) fun i o h1 h2 h3 => h i o h1 (by omega) h3]
      have hko : ops[k]? = some ops[k] := by simp
      have hf := (op2_form (hW.op k _ hko)).2
      cases hu : U k with
      | no => rfl
      | new b => rfl
      | set id b =>
        have h1 := (hf id b hu).2
        have h2 := h k ops[k] (by omega) (by omega) hko
        rw [h1] at h2; simp at h2
theorem box_between2 (hW : Walk2 P N ops S V U) (hmd : modeB ops.toList = false) {m k : Nat} (hmk : m ≤ k) (hk : k ≤ ops.size) (id : Nat) (t : TypeId) (cs : List AV) :
    (Gm S U ops.size k)[id]? = some (.box t cs) ↔ (Gm S U ops.size m)[id]? = some (.box t cs) := by
  induction k with
  | zero => rw [show m = 0 by omega]
  | succ k ih =>
    by_cases hm : m = k + 1
    · rw [hm]
    · rw [← ih (by omega) (by omega), Gm_succ2 hW (by omega)]
      have hko : ops[k]? = some ops[k] := by simp
      cases hu : U k with
      | no => rfl
      | new b => rfl
      | set id' b =>
        have hf := (op2_form (hW.op k _ hko)).2 id' b hu
        have hb := hW.bx k _ hko
        rw [hu] at hb
        simp only [noboxA, hmd, Bool.or_false, nobox, Bool.and_eq_true, Bool.not_eq_true'] at hb
        have hg : (Gm S U ops.size k)[id']? = (S k).H[id']? := by unfold Gm; rw [List.getElem?_append_left hf.1]
        simp only [updG]
        by_cases e1 : id' = id
        · subst e1
          have hlt : id' < (Gm S U ops.size k).length := by unfold Gm; rw [List.length_append]; omega
          rw [List.getElem?_set_self hlt, hg]
          constructor
          · intro h; simp at h; subst h; simp [isBox] at hb
          · intro h; rw [h] at hb; simp [isBoxO, isBox] at hb
        · rw [List.getElem?_set_ne e1]
theorem soft_at {o : Oper} {T : List (Nat × AV)} {H G : List Blk} {v : AV} {u : Upd} {all : List Oper} (hix : isIx o = false) (hl : isSoft o = true) (hop : opR P all o ⟨T, H⟩ v u) (hne : ∀ a, softA o = some a → guardV all T o = some true → notEp (ev T a) = true) (hb : ∀ (id : Nat) (t : TypeId) (cs : List AV), H[id]? = some (Blk.box t cs) → G[id]? = some (Blk.box t cs)) : opR P all o ⟨T, G⟩ v u ∧ u = .no := by
  have hld : isLd o = true := by
    unfold isSoft softA at hl
    unfold isLd ldAddr
    unfold isIx at hix
    split at hl <;> simp_all
  refine load_at hld hop (fun a ha hg => ?_) hb
  have e : lxv o (ev T a) = ev T a := by
    unfold lxv
    unfold isIx at hix
    split <;> simp_all
  rw [e]
  refine hne a ?_ hg
  unfold ldAddr at ha
  unfold softA
  split at ha <;> simp_all
theorem ebi_len_rp {T : List (Nat × AV)} {H G : List Blk} {ts : List TypeId} {x : AV} {r : List AV} (h : isRp x = true) : ebi P ⟨T, H⟩ .len ts (x :: r) = ebi P ⟨T, G⟩ .len ts (x :: r) ∧ ∀ v u, ebi P ⟨T, H⟩ .len ts (x :: r) = some (v, u) → u = .no := by
  cases r with
  | cons y r => match ts with
    | [] => exact ⟨rfl, fun v u h => by simp [ebi] at h⟩
    | [t] => exact ⟨rfl, fun v u h => by simp [ebi] at h⟩
    | t :: t' :: ts => exact ⟨rfl, fun v u h => by simp [ebi] at h⟩
  | nil => match ts with
    | [] => exact ⟨rfl, fun v u h => by simp [ebi] at h⟩
    | t :: t' :: ts => exact ⟨rfl, fun v u h => by simp [ebi] at h⟩
    | [t] =>
      cases x <;> first | (simp [isRp] at h; done) | skip
      · refine ⟨rfl, fun v u h => ?_⟩
        simp only [ebi] at h
        repeat' (split at h)
        all_goals simp at h
      · refine ⟨rfl, fun v u h => ?_⟩
        simp only [ebi] at h
        repeat' (split at h)
        all_goals simp at h
        all_goals exact h.2.symm
/-- What is read through memory that nobody writes does not look at the blocks. -/
theorem soft_rp {o : Oper} {T : List (Nat × AV)} {H G : List Blk} {v : AV} {u : Upd} {all : List Oper} (hl : isSoft o = true) (hop : opR P all o ⟨T, H⟩ v u) (hne : ∀ a, softA o = some a → guardV all T o = some true → isRp (ev T a) = true) : opR P all o ⟨T, G⟩ v u ∧ u = .no := by
  have hrp : ∀ {x : AV}, isRp x = true → ∀ H G : List Blk, rd H x = rd G x ∧ (∀ off, shift H x off = shift G x off) ∧ ∀ k e n, elemAt H k e x n = elemAt G k e x n := fun {x} h H G => by
    cases x <;> first | (simp [isRp] at h; done) | exact ⟨rfl, fun _ => rfl, fun _ _ _ => rfl⟩
  rcases hop with ⟨hg, h | ⟨f, args', ats', g, caps, h0, _⟩⟩ | ⟨hg, h1, h2⟩
  · unfold isSoft softA at hl
    split at hl
    · rename_i t a ho
      obtain ⟨q1, q2, q3⟩ := hrp (hne a (by simp [softA, ho]) hg) H G
      refine ⟨.inl ⟨hg, .inl ?_⟩, ?_⟩
      · simp only [eop, ho] at h ⊢; rw [← q1]; exact h
      · simp only [eop, ho, same] at h
        repeat' (split at h)
        all_goals simp at h
        all_goals exact h.2.symm
    · rename_i t a f ho
      obtain ⟨q1, q2, q3⟩ := hrp (hne a (by simp [softA, ho]) hg) H G
      refine ⟨.inl ⟨hg, .inl ?_⟩, ?_⟩
      · simp only [eop, ho] at h ⊢; simpa only [← q2] using h
      · simp only [eop, ho, same] at h
        repeat' (split at h)
        all_goals simp at h
        all_goals exact h.2.symm
    · rename_i a ho
      obtain ⟨q1, q2, q3⟩ := hrp (hne a (by simp [softA, ho]) hg) H G
      refine ⟨.inl ⟨hg, .inl ?_⟩, ?_⟩
      · simp only [eop, ho] at h ⊢; rw [← q1]; exact h
      · simp only [eop, ho] at h
        repeat' (split at h)
        all_goals simp at h
        all_goals exact h.2.symm
    · rename_i t a n ho
      obtain ⟨q1, q2, q3⟩ := hrp (hne a (by simp [softA, ho]) hg) H G
      refine ⟨.inl ⟨hg, .inl ?_⟩, ?_⟩
      · simp only [eop, ho] at h ⊢; simpa only [← q2, ← q3] using h
      · simp only [eop, ho, same] at h
        repeat' (split at h)
        all_goals simp at h
        all_goals exact h.2.symm
    · rename_i args ats ho
      cases ha : args[0]? with
      | none => rw [ha] at hl; simp at hl
      | some a =>
        obtain ⟨l, hl'⟩ : ∃ l, args.toList = a :: l := by
          cases hc : args.toList with
          | nil => have : args = #[] := by rw [← Array.toList_inj]; exact hc
                   rw [this] at ha; simp at ha
          | cons b l =>
            have : args[0]? = some b := by rw [← Array.getElem?_toList, hc]; rfl
            rw [ha] at this; cases this; exact ⟨l, rfl⟩
        have q := ebi_len_rp (P := P) (T := T) (H := H) (G := G) (ts := ats.toList) (r := l.map (ev T)) (hne a (by simp [softA, ho, ha]) hg)
        simp only [eop, ho, hl', List.map_cons] at h
        exact ⟨.inl ⟨hg, .inl (by simp only [eop, ho, hl', List.map_cons]; rw [← q.1]; exact h)⟩, q.2 _ _ h⟩
    · simp at hl
  · unfold isSoft softA at hl
    rw [h0] at hl
    simp at hl
  · exact ⟨.inr ⟨hg, h1, h2⟩, h2⟩
theorem wr_id {H : List Blk} {p : AV} {cs : List AV} {u : Upd} (h : wr H p cs = some u) : ∃ id b, idOf p = some id ∧ u = .set id b := by
  cases p with
  | op id o =>
    simp only [wr] at h
    split at h
    · split at h
      · simp at h; exact ⟨id, _, rfl, h.symm⟩
      · simp at h
    · simp at h
  | ep id n i o =>
    simp only [wr] at h
    split at h
    · split at h
      · split at h
        · split at h
          · simp at h; exact ⟨id, _, rfl, h.symm⟩
          · simp at h
        · simp at h
      · simp at h
    · simp at h
  | _ => simp [wr] at h
theorem rd_far {H G : List Blk} {x : AV} {id : Nat} {cs : List AV} (hi : idOf x = some id) (hb : ∀ b, H[id]? = some b → G[id]? = some b) (h : rd H x = some cs) : rd G x = some cs := by
  cases x with
  | op id' o =>
    cases hi
    simp only [rd] at h ⊢
    cases hx : H[id]? with
    | none => rw [hx] at h; cases h
    | some b => rw [hb b hx]; rw [hx] at h; exact h
  | ep id' n i o =>
    cases hi
    simp only [rd] at h ⊢
    cases hx : H[id]? with
    | none => rw [hx] at h; cases h
    | some b => rw [hb b hx]; rw [hx] at h; exact h
  | _ => cases hi
theorem shift_far {H G : List Blk} {x y : AV} {id k : Nat} (hi : idOf x = some id) (hb : ∀ b, H[id]? = some b → G[id]? = some b) (h : shift H x k = some y) : shift G x k = some y := by
  cases x with
  | op id' o =>
    cases hi
    simp only [shift] at h ⊢
    cases hx : H[id]? with
    | none => rw [hx] at h; cases h
    | some b => rw [hb b hx]; rw [hx] at h; exact h
  | ep id' n i o =>
    cases hi
    simp only [shift] at h ⊢
    cases hx : H[id]? with
    | none => rw [hx] at h; cases h
    | some b => rw [hb b hx]; rw [hx] at h; exact h
  | _ => cases hi
/-- What is read through memory that the region does not write. -/
theorem soft_far {o : Oper} {T : List (Nat × AV)} {H G : List Blk} {v : AV} {u : Upd} {all : List Oper} (hix : isIx o = false) (hl : isSoft o = true) (hop : opR P all o ⟨T, H⟩ v u) (hne : ∀ a, softA o = some a → ∃ id, idOf (ev T a) = some id ∧ ∀ b, H[id]? = some b → G[id]? = some b) : opR P all o ⟨T, G⟩ v u ∧ u = .no := by
  rcases hop with ⟨hg, h | ⟨f, args', ats', g, caps, h0, _⟩⟩ | ⟨hg, h1, h2⟩
  · unfold isSoft softA at hl
    split at hl
    · rename_i t a ho
      obtain ⟨id, hi, hb⟩ := hne a (by simp [softA, ho])
      simp only [eop, ho] at h
      split at h
      · rename_i i cs hty hr
        simp only [same] at h
        split at h
        · rename_i y hp
          simp at h
          refine ⟨.inl ⟨hg, .inl ?_⟩, h.2.symm⟩
          simp only [eop, ho, hty, rd_far hi hb hr, same, hp, h.1, ← h.2]
        · cases h
      · cases h
    · rename_i t a f ho
      obtain ⟨id, hi, hb⟩ := hne a (by simp [softA, ho])
      simp only [eop, ho] at h
      split at h
      · rename_i i hty
        split at h
        · rename_i off ft hf
          split at h
          · rename_i fi hft
            simp only [same] at h
            split at h
            · rename_i y hp
              simp at h
              refine ⟨.inl ⟨hg, .inl ?_⟩, h.2.symm⟩
              simp only [eop, ho, hty, hf, hft, shift_far hi hb hp, same, h.1, ← h.2]
            · cases h
          · cases h
        · cases h
      · cases h
    · rename_i a ho
      obtain ⟨id, hi, hb⟩ := hne a (by simp [softA, ho])
      simp only [eop, ho] at h
      split at h
      · rename_i cs hr
        simp at h
        refine ⟨.inl ⟨hg, .inl ?_⟩, h.2.symm⟩
        have e := rd_far hi hb hr
        obtain ⟨h1, rfl⟩ := h
        subst h1
        simp only [eop, ho, e]
      · cases h
    · rename_i t a n ho
      simp [isIx, ho] at hix
    · rename_i args ats ho
      simp [isIx, ho] at hix
    · simp at hl
  · unfold isSoft softA at hl
    rw [h0] at hl
    simp at hl
  · exact ⟨.inr ⟨hg, h1, h2⟩, h2⟩
theorem T_between2 (hW : Walk2 P N ops S V U) {t m k : Nat} (hmk : m ≤ k) (hk : k ≤ ops.size) (h : ∀ i o, m ≤ i → i < k → ops[i]? = some o → o.dst ≠ some t) : tget (S k).T t = tget (S m).T t := by
  induction k with
  | zero => rw [show m = 0 by omega]
  | succ k ih =>
    by_cases hm : m = k + 1
    · rw [hm]
    · rw [← ih (by omega) (by omega) fun i o h1 h2 h3 => h i o h1 (by omega) h3]
      have hko : ops[k]? = some ops[k] := by simp
      rw [hW.next k _ hko]
      have hne := h k ops[k] (by omega) (by omega) hko
      simp only [nextSt]
      cases hd : ops[k].dst with
      | none => rfl
      | some d =>
        simp only [tputD, tget_tput]
        rw [if_neg (fun e => hne (by rw [hd, e]))]
/-- What the region does not write is the same all along it. -/
theorem far_between (hW : Walk2 P N ops S V U) {T : List (Nat × AV)} {x : AV} {id : Nat} (hi : idOf x = some id) (hf : farA ops.toList T x = true) (hT : ∀ (k : Nat) t, k ≤ ops.size → (∀ o ∈ ops.toList, o.dst ≠ some t) → tget (S k).T t = tget T t) {m k : Nat} (hmk : m ≤ k) (hk : k ≤ ops.size) : (Gm S U ops.size k)[id]? = (Gm S U ops.size m)[id]? := by
  induction k with
  | zero => rw [show m = 0 by omega]
  | succ k ih =>
    by_cases hm : m = k + 1
    · rw [hm]
    · rw [← ih (by omega) (by omega), Gm_succ2 hW (by omega)]
      have hko : ops[k]? = some ops[k] := by simp
      cases hu : U k with
      | no => rfl
      | new b => rfl
      | set id' b =>
        simp only [updG]
        refine List.getElem?_set_ne ?_
        have hw := ((op2_form (hW.op k _ hko)).2 id' b hu).2
        simp only [farA, hi, List.all_eq_true] at hf
        have h1 := hf ops[k] (by simp)
        rw [hw] at h1
        simp only [Bool.not_true, Bool.false_or] at h1
        split at h1
        · rename_i t0 t v0 hop
          simp only [Bool.and_eq_true, List.all_eq_true] at h1
          obtain ⟨h2, h3⟩ := h1
          have hTk := hT k t (by omega) fun o ho e => by have := h2 o ho; simp [e] at this
          split at h3
          · rename_i i2 h4
            have h5 : i2 ≠ id := by simpa using h3
            rcases hW.op k _ hko with (⟨_, h | ⟨f, args, ats, g, caps, h0, _⟩⟩ | ⟨_, _, h⟩) | ⟨_, _, i3, b3, f, args, ats, g, caps, _, _, h0, _⟩
            · simp only [eop, hop] at h
              split at h
              · split at h
                · split at h
                  · rename_i u' hw'
                    simp only [Option.some.injEq, Prod.mk.injEq] at h
                    obtain ⟨i3, b3, h6, h7⟩ := wr_id hw'
                    simp only [ev, hTk] at h6
                    rw [h4] at h6
                    rw [hu] at h
                    have h8 := h.2.symm.trans h7
                    cases h8
                    cases h6
                    exact h5
                  · cases h
                · cases h
              · cases h
            · rw [hop] at h0; cases h0
            · rw [hu] at h; cases h
            · rw [hop] at h0; cases h0
          · cases h3
        · cases h1
theorem len_mono2 (hW : Walk2 P N ops S V U) {m k : Nat} (hmk : m ≤ k) (hk : k ≤ ops.size) : (S m).H.length ≤ (S k).H.length := by
  induction k with
  | zero => rw [show m = 0 by omega]; exact Nat.le_refl _
  | succ k ih =>
    by_cases hm : m = k + 1
    · rw [hm]; exact Nat.le_refl _
    · have := ih (by omega) (by omega)
      have hko : ops[k]? = some ops[k] := by simp
      rw [hW.next k _ hko]
      simp only [nextSt]
      cases U k <;> simp [upd] <;> omega
theorem len_new2 (hW : Walk2 P N ops S V U) {k : Nat} {b : Blk} (hk : k < ops.size) (hu : U k = .new b) : (S (k + 1)).H.length = (S k).H.length + 1 := by
  have hko : ops[k]? = some ops[k] := by simp [hk]
  rw [hW.next k _ hko]
  simp [nextSt, hu, upd]
structure Mid2 (P : Program) (B : From) (w0 : World) (X : Nat → Prop) (N : Nat) (ops : Array Oper) (S : Nat → St) (U : Nat → Upd) (listed : Array Bool) (a : Act) (w : World) : Prop where
  sz : listed.size = ops.size
  down : ∀ (j : Nat) o, listed.getD j false = true → ops[j]? = some o → ∀ e ∈ o.after.toList, Region.binds .any e = true → listed.getD e.on false = true
  ex : ∃ φ m, m ≤ ops.size ∧ (∀ (i : Nat) o, ops[i]? = some o → wr2 o = true → (listed.getD i false = true ↔ i < m)) ∧ HR P w0 X w φ (Gm S U ops.size m) ∧ Turn B.w B.φ B.H w φ (Gm S U ops.size m) ∧
    (∀ t, ∃ mt, mt ≤ ops.size ∧ (∀ (i : Nat) o, ops[i]? = some o → o.dst = some t → (listed.getD i false = true ↔ i < mt)) ∧ RV P w X φ (Gm S U ops.size m) (tget (S mt).T t) (a.tmps.getD t undef)) ∧
    (∀ (i : Nat) b, i < ops.size → listed.getD i false = false → U i = .new b → φ (S i).H.length = none ∧ (Gm S U ops.size m)[(S i).H.length]? = some b) ∧ Marks w φ w0.heap.size B.lo B.nm a.defers
  size : a.tmps.size = N
theorem conf_dst2 {all : List Oper} {x y : Oper} {t : Nat} (hx : x.dst = some t) (hy : y.dst = some t ∨ t ∈ tmpsOf y ∨ gslot all y = some t) : conf2 all x y = true := by
  simp only [conf2, hx, Bool.or_eq_true]
  rcases hy with h | h | h
  · simp [h]
  · simp [h]
  · simp [h]
theorem conf_dst2' {all : List Oper} {x y : Oper} {t : Nat} (hy : y.dst = some t) (hx : x.dst = some t ∨ t ∈ tmpsOf x ∨ gslot all x = some t) : conf2 all x y = true := by
  rcases hx with h | h | h
  · exact conf_dst2 h (.inl hy)
  · simp only [conf2, hy, Bool.or_eq_true]; simp [h]
  · simp only [conf2, hy, Bool.or_eq_true]; simp [h]
theorem wr2_sens {o : Oper} (h : wr2 o = true) : sens o.op = true := by
  simp only [wr2, Bool.or_eq_true] at h
  rcases h with h | h
  · exact isWr_sens h
  · unfold isCallV at h
    split at h
    · rename_i h2; rw [h2]; rfl
    · cases h
theorem wr2_soft {o : Oper} (h : wr2 o = true) : isSoft o = false := by
  unfold wr2 isWr isCallV at h
  unfold isSoft softA
  split <;> simp_all
/-- A call that turns a row, in the middle of a region. -/
theorem call2_wp {ops : Array Oper} {i : Nat} {o : Oper} {T : List (Nat × AV)} {H : List Blk} {v : AV} {id : Nat} {b : Blk} {w : World} {φ : Nat → Option Nat} {a : Act} {Q : Exit → Act → World → Prop} (hi : ops[i]? = some o) (hg : guardV ops.toList T o = some true) {f : Operand} {args : Array Operand} {ats : Array TypeId} {g : Nat} {caps : List AV}
    (hop : o.op = .call ⟨.value f, args, ats⟩) (hf : ev T f = .fn g caps) (hE : CallG P g (args.toList.map (ev T) ++ caps) H fun r H' => r = v ∧ H' = H.set id b) (hr : HR P w0 X w φ H)
    (hev : ∀ x ∈ o.op.operands.toList, RV P w X φ H (ev T x) (a.eval x)) (hgd : ∀ g b t, o.guard = some (g, b) → (ops.toList[g]?).bind (·.dst) = some t → RV P w X φ H (tget T t) (a.tmps.getD t undef)) {K : Act → World → Prop}
    (hK : ∀ x w' φ', HR P w0 X w' φ' (H.set id b) → Turn w φ H w' φ' (H.set id b) → RV P w' X φ' (H.set id b) v x → K (a.put o.dst x) w') : wpOp P ops Q i K a w := by
  have hw : Region.wanted o (yielded ops a.tmps) = true := by
    unfold guardV at hg
    unfold Region.wanted
    split at hg
    · rename_i hg0
      rw [hg0]
    · rename_i g0 want hg0
      rw [hg0]
      split at hg
      · rename_i t ht
        split at hg
        · rename_i c hc
          have := hgd g0 want t hg0 ht
          rw [hc] at this
          have hv := this.bool_inv
          have hlt : a.tmps[t]? = some (.bool c) := by
            rw [Array.getD_eq_getD_getElem?] at hv
            cases ha : a.tmps[t]? with
            | none => rw [ha] at hv; simp [undef] at hv
            | some y => rw [ha] at hv; simpa using hv
          have ht' : (ops[g0]?).bind (·.dst) = some t := by simpa using ht
          simp only [yielded, ht', Option.bind_some, hlt]
          simp at hg
          rw [← hg]
          cases c <;> cases want <;> simp_all
        · simp at hg
        · simp at hg
      · simp at hg
  unfold wpOp
  simp only [hi]
  rw [if_pos hw]
  left
  obtain ⟨hent, hE⟩ := hE
  have hfe := hev f (by rw [hop]; simp [Op.operands, Call.operands])
  rw [hf] at hfe
  obtain ⟨vs, k1, k2, k3⟩ := hfe.fn_inv
  have hargs : ∀ x ∈ args.toList, RV P w X φ H (ev T x) (a.eval x) := fun x hx => hev x (by rw [hop]; simp [Op.operands, Call.operands]; exact .inr (by simpa using hx))
  have hrun : (execOp a.eval o).run P w = .ok (.enter g (args.map a.eval ++ vs)) w := by
    have hD : (Deferred.ofValue (.func (.func g) #[] vs) (args.map a.eval)).run P w = .ok { target := .fn (.func g) vs, args := args.map a.eval } w := by simp [Deferred.ofValue]
    simp only [execOp, hop, Sem.run_bind, resolve, k1, hD, Result.andThen_ok, invoke]
    exact run_callFunc hent _ w
  unfold Oper.wp
  rw [hrun, Oper.upon_enter]
  refine (hE w0 w X φ (args.map a.eval ++ vs) hr (by simp [k2]) (fun j x u hx hu => ?_)).mono ?_
  · by_cases hj : j < args.size
    · rw [List.getElem?_append_left (by simpa using hj)] at hx
      rw [Array.getElem?_append_left (by simpa using hj)] at hu
      exact args_len (P := P) (w := w) (X := X) (φ := φ) (G := H) (T := T) (a := a) hargs j x u hx (by simpa using hu)
    · rw [List.getElem?_append_right (by simp; omega)] at hx
      rw [Array.getElem?_append_right (by simp; omega)] at hu
      exact k3 _ x u (by simpa using hx) (by simpa using hu)
  · rintro e w' ⟨x, r, φ', H', rfl, h2, h3, h4, rfl, rfl⟩
    exact hK x w' φ' h2 h3 h4
/-- One operation in the middle of a region. -/
theorem mid_step2 (hW : Walk2 P N ops S V U) (hok : okDraw2 ops = true) {listed : Array Bool} {a : Act} {w : World} (hM : Mid2 P B w0 X N ops S U listed a w) {j : Nat} {o : Oper} {Q : Exit → Act → World → Prop} (ho : ops[j]? = some o) (hj : listed.getD j false = false)
    (hr : ∀ e ∈ o.after.toList, Region.binds .any e = true → listed.getD e.on false = true) {K : Act → World → Prop} (hK : ∀ a' w', Mid2 P B w0 X N ops S U (listed.setIfInBounds j true) a' w' → K a' w') : wpOp P ops Q j K a w := by
  obtain ⟨hedge, hconf⟩ := ok2_spec hok
  obtain ⟨φ, m, hm, hwr, hhr, htn, hT, hnew, hdf⟩ := hM.ex
  have hjn : j < ops.size := (Array.getElem?_eq_some_iff.1 ho).1
  have hjl : j < listed.size := by rw [hM.sz]; exact hjn
  have hbl : ∀ i, Before ops.toList i j → listed.getD i false = true := fun i h => before_ready hM.down ho hr h
  have hal : ∀ i, Before ops.toList j i → listed.getD i false = false := fun i h => by
    cases h2 : listed.getD i false with
    | false => rfl
    | true => have := before_listed hM.down h h2; rw [hj] at this; simp at this
  have hbef : ∀ (i : Nat) x, ops[i]? = some x → i < j → conf2 ops.toList x o = true → listed.getD i false = true := fun i x hx hlt hc => hbl i (hconf i j x o hlt hx ho hc)
  have haft : ∀ (i : Nat) x, ops[i]? = some x → j < i → conf2 ops.toList o x = true → listed.getD i false = false := fun i x hx hlt hc => hal i (hconf j i o x hlt ho hx hc)
  have hslot : ∀ t, (o.dst = some t ∨ t ∈ tmpsOf o ∨ gslot ops.toList o = some t) → ∀ (i : Nat) x, ops[i]? = some x → x.dst = some t → (listed.getD i false = true ↔ i < j) := fun t ht i x hx hd => by
    rcases Nat.lt_trichotomy i j with h | h | h
    · exact ⟨fun _ => h, fun _ => hbef i x hx h (conf_dst2 hd ht)⟩
    · subst h; simp [hj]
    · constructor
      · intro h2; rw [haft i x hx h (conf_dst2' hd ht)] at h2; simp at h2
      · intro h2; omega
  have hwrj : sens o.op = true → (isSoft o = false ∨ hardAt ops.toList j = true) → ∀ (i : Nat) x, ops[i]? = some x → wr2 x = true → (listed.getD i false = true ↔ i < j) := fun hs hd i x hx hw => by
    rcases Nat.lt_trichotomy i j with h | h | h
    · refine ⟨fun _ => h, fun _ => ?_⟩
      rcases hd with hd | hd
      · exact hbef i x hx h (by simp [conf2, hw, hs, hd])
      · exact hbl i ((hard_spec hd hx hw (by omega)).1 h)
    · subst h; simp [hj]
    · constructor
      · intro h2
        have : listed.getD i false = false := by
          rcases hd with hd | hd
          · exact haft i x hx h (by simp [conf2, hw, hs, hd])
          · exact hal i ((hard_spec hd hx hw (by omega)).2 h)
        rw [this] at h2; simp at h2
      · intro h2; omega
  have hTj : ∀ t, (o.dst = some t ∨ t ∈ tmpsOf o ∨ gslot ops.toList o = some t) → RV P w X φ (Gm S U ops.size m) (tget (S j).T t) (a.tmps.getD t undef) := fun t ht => by
    obtain ⟨mt, h1, h2, h3⟩ := hT t
    have e : tget (S j).T t = tget (S mt).T t := by
      rcases Nat.le_total mt j with h | h
      · exact T_between2 hW h (by omega) fun i x q1 q2 q3 q4 => by
          have r1 := hslot t ht i x q3 q4
          have r2 := h2 i x q3 q4
          have r3 := r1.symm.trans r2
          omega
      · exact (T_between2 hW h h1 fun i x q1 q2 q3 q4 => by
          have r1 := hslot t ht i x q3 q4
          have r2 := h2 i x q3 q4
          have r3 := r1.symm.trans r2
          omega).symm
    rw [e]; exact h3
  have hGj : sens o.op = true → (isSoft o = false ∨ hardAt ops.toList j = true) → Gm S U ops.size m = Gm S U ops.size j := fun hs hd => by
    have hb : ∀ i x, ops[i]? = some x → wr2 x = true → (i < m ↔ i < j) := fun i x hx hw => (hwr i x hx hw).symm.trans (hwrj hs hd i x hx hw)
    rcases Nat.le_total m j with h | h
    · exact (Gm_between2 hW h (by omega) fun i x q1 q2 q3 => by
        cases hw : wr2 x with
        | false => rfl
        | true => have := hb i x q3 hw; omega).symm
    · exact Gm_between2 hW h hm fun i x q1 q2 q3 => by
        cases hw : wr2 x with
        | false => rfl
        | true => have := hb i x q3 hw; omega
  have hop := hW.op j o ho
  obtain ⟨q1, q2⟩ := op2_form hop
  -- what holds behind it
  have hend : ∀ x w' φ', HR P w0 X w' φ' (updG (Gm S U ops.size m) (U j)) → Turn w φ (Gm S U ops.size m) w' φ' (updG (Gm S U ops.size m) (U j)) → RV P w' X φ' (updG (Gm S U ops.size m) (U j)) (V j) x →
      (∀ (i : Nat) b, i < ops.size → i ≠ j → listed.getD i false = false → U i = .new b → φ' (S i).H.length = none ∧ (updG (Gm S U ops.size m) (U j))[(S i).H.length]? = some b) → Mid2 P B w0 X N ops S U (listed.setIfInBounds j true) (a.put o.dst x) w' := fun x w' φ' k1 k2 k3 k4 => by
    have hset := fun i => getD_set (l := listed) (i := i) hjl
    obtain ⟨m', hm', hwr', hG'⟩ : ∃ m', m' ≤ ops.size ∧ (∀ (i : Nat) x, ops[i]? = some x → wr2 x = true → ((listed.setIfInBounds j true).getD i false = true ↔ i < m')) ∧ Gm S U ops.size m' = updG (Gm S U ops.size m) (U j) := by
      cases hw : wr2 o with
      | true =>
        have hs := wr2_sens hw
        refine ⟨j + 1, by omega, fun i x hx hwx => ?_, ?_⟩
        · rw [hset i]
          have := hwrj hs (.inl (wr2_soft hw)) i x hx hwx
          by_cases h : i = j
          · simp [h]
          · rw [if_neg h, this]; omega
        · rw [Gm_succ2 hW hjn, hGj hs (.inl (wr2_soft hw))]
      | false =>
        refine ⟨m, hm, fun i x hx hwx => ?_, ?_⟩
        · rw [hset i]
          by_cases h : i = j
          · subst h; rw [ho] at hx; simp at hx; subst hx; rw [hw] at hwx; simp at hwx
          · rw [if_neg h]; exact hwr i x hx hwx
        · cases hu : U j with
          | no => rfl
          | new b => rfl
          | set id b => have := (q2 id b hu).2; rw [hw] at this; simp at this
    refine ⟨by simpa using hM.sz, fun i x hi hx e he hb => ?_, ⟨φ', m', hm', hwr', by rw [hG']; exact k1, by rw [hG']; exact htn.trans k2, fun t => ?_, fun i b hi hl hu => ?_, by cases hd : o.dst <;> simpa [Act.put, hd] using hdf.turn k2⟩, by cases hd : o.dst <;> simpa [Act.put, hd] using hM.size⟩
    · rw [hset] at hi ⊢
      split
      · rfl
      · by_cases h : i = j
        · subst h; rw [ho] at hx; simp at hx; subst hx
          exact hr e he hb
        · rw [if_neg h] at hi
          exact hM.down i x hi hx e he hb
    · by_cases hd : o.dst = some t
      · refine ⟨j + 1, by omega, fun i x hx hdx => ?_, ?_⟩
        · rw [hset i]
          have := hslot t (.inl hd) i x hx hdx
          by_cases h : i = j
          · simp [h]
          · rw [if_neg h, this]; omega
        · rw [hG', hW.next j o ho]
          have hN := hW.dst j o ho t hd
          simp only [nextSt, hd, tputD, tget_tput, if_true, Act.put]
          have : (a.tmps.setIfInBounds t x).getD t undef = x := by simp [Array.getD_eq_getD_getElem?, hM.size, hN]
          rw [this]; exact k3
      · obtain ⟨mt, h1, h2, h3⟩ := hT t
        refine ⟨mt, h1, fun i x hx hdx => ?_, ?_⟩
        · rw [hset i]
          by_cases h : i = j
          · subst h; rw [ho] at hx; simp at hx; subst hx; exact absurd hdx hd
          · rw [if_neg h]; exact h2 i x hx hdx
        · rw [hG']
          have : (a.put o.dst x).tmps.getD t undef = a.tmps.getD t undef := by
            cases hd2 : o.dst with
            | none => rfl
            | some d => simp [Act.put, Array.getD_eq_getD_getElem?, Array.getElem?_setIfInBounds, show d ≠ t from fun e => hd (by rw [hd2, e])]
          rw [this]; exact h3.turn k2
    · rw [hset] at hl
      split at hl
      · simp at hl
      · rename_i hij
        rw [hG']
        exact k4 i b hi hij hl hu
  have hevG : ∀ x ∈ o.op.operands.toList, RV P w X φ (Gm S U ops.size m) (ev (S j).T x) (a.eval x) := fun x hx => by
    cases x with
    | tmp t => exact hTj t (.inr (.inl (by simp only [tmpsOf, List.mem_filterMap]; exact ⟨_, hx, rfl⟩)))
    | const v => exact ofV_rv v
    | func f => exact .ro (.fn rfl (by simp))
    | global g => exact hhr.glob g
  have hgdG : ∀ g b t, o.guard = some (g, b) → (ops.toList[g]?).bind (·.dst) = some t → RV P w X φ (Gm S U ops.size m) (tget (S j).T t) (a.tmps.getD t undef) := fun g b t hg ht => hTj t (.inr (.inr (by simp [gslot, hg]; simpa using ht)))
  rcases hop with hop | ⟨hg, hln, id, b, f, args, ats, g, caps, hu, hid, hop, hf, hE⟩
  · -- an operation as in any region
    obtain ⟨Hx, hopx, hsx, hnx⟩ : ∃ Hx, opR P ops.toList o ⟨(S j).T, Hx⟩ (V j) (U j) ∧ (sens o.op = true → ∀ (id : Nat) b, Hx[id]? = some b → (Gm S U ops.size m)[id]? = some b) ∧ (∀ b, U j = .new b → Hx = (S j).H) := by
      by_cases hd : isSoft o = false ∨ hardAt ops.toList j = true
      · refine ⟨(S j).H, hop, fun hs id b hb => ?_, fun _ _ => rfl⟩
        rw [hGj hs hd]
        unfold Gm
        rw [List.getElem?_append_left (List.getElem?_eq_some_iff.1 hb).1]
        exact hb
      · have hl : isSoft o = true := by cases h : isSoft o with | true => rfl | false => exact absurd (.inl h) hd
        by_cases hfar : isIx o = false ∧ ∃ a, softA o = some a ∧ farA ops.toList (S j).T (ev (S j).T a) = true
        · obtain ⟨hix, a, ha, hfa⟩ := hfar
          obtain ⟨q1, q2⟩ := soft_far (G := Gm S U ops.size m) hix hl hop fun a' ha' => by
            rw [ha] at ha'; cases ha'
            cases hi : idOf (ev (S j).T a) with
            | none => simp [farA, hi] at hfa
            | some id =>
              refine ⟨id, rfl, fun b hb => ?_⟩
              have hTT : ∀ (k : Nat) t, k ≤ ops.size → (∀ o ∈ ops.toList, o.dst ≠ some t) → tget (S k).T t = tget (S j).T t := fun k t hk hnd => by
                rcases Nat.le_total k j with h | h
                · exact (T_between2 hW h (by omega) fun i x _ _ q3 => hnd x (by rw [List.mem_iff_getElem?]; exact ⟨i, by simpa using q3⟩)).symm
                · exact T_between2 hW h hk fun i x _ _ q3 => hnd x (by rw [List.mem_iff_getElem?]; exact ⟨i, by simpa using q3⟩)
              have h0 : (Gm S U ops.size j)[id]? = some b := by
                unfold Gm
                rw [List.getElem?_append_left (List.getElem?_eq_some_iff.1 hb).1]
                exact hb
              rcases Nat.le_total m j with h1 | h1
              · rw [← far_between hW hi hfa hTT h1 (by omega)]; exact h0
              · rw [far_between hW hi hfa hTT h1 hm]; exact h0
          exact ⟨_, q1, fun _ id b h => h, fun b h => by rw [q2] at h; cases h⟩
        have hok' : ∀ a, softA o = some a → guardV ops.toList (S j).T o = some true → softOk ops.toList (isIx o) (ev (S j).T a) = true := fun a h hg => (hW.ld j o ho a h hg).resolve_right fun h2 => by
          simp only [hardX, Bool.or_eq_true, Bool.and_eq_true, Bool.not_eq_true'] at h2
          rcases h2 with h2 | ⟨h2, h3⟩
          · exact hd (.inr h2)
          · exact hfar ⟨h2, a, h, h3⟩
        by_cases hq : modeB ops.toList = true ∨ isIx o = true
        · obtain ⟨q1, q2⟩ := soft_rp (G := Gm S U ops.size m) hl hop (fun a h hg => by
            have := hok' a h hg
            rcases hq with hq | hq <;> simpa [softOk, hq] using this)
          exact ⟨_, q1, fun _ id b h => h, fun b h => by rw [q2] at h; cases h⟩
        have hmd : modeB ops.toList = false := by cases h : modeB ops.toList with | false => rfl | true => exact absurd (.inl h) hq
        have hix : isIx o = false := by cases h : isIx o with | false => rfl | true => exact absurd (.inr h) hq
        obtain ⟨q1, q2⟩ := soft_at (G := Gm S U ops.size m) hix hl hop (fun a h hg => by
          have := hok' a h hg
          simp only [softOk, hmd, hix, Bool.not_false, Bool.and_true, Bool.or_eq_true] at this
          rcases this with q | q
          · cases hx : ev (S j).T a <;> rw [hx] at q <;> simp [isRp] at q <;> rfl
          · exact q) fun id t cs h => by
          have h0 : (Gm S U ops.size j)[id]? = some (.box t cs) := by
            unfold Gm
            rw [List.getElem?_append_left (List.getElem?_eq_some_iff.1 h).1]
            exact h
          rcases Nat.le_total m j with h1 | h1
          · exact (box_between2 hW hmd h1 (by omega) id t cs).1 h0
          · exact (box_between2 hW hmd h1 hm id t cs).2 h0
        exact ⟨_, q1, fun _ id b h => h, fun b h => by rw [q2] at h; cases h⟩
    refine opR_wp ho hopx hhr hevG hgdG hsx (fun b hb => by rw [hnx b hb]; exact ⟨(hnew j b hjn hj hb).2, (hnew j b hjn hj hb).1⟩) (fun x w' φ' k1 k2 k3 k4 => hK _ _ (hend x w' φ' k1 k2 k3 fun i b hi hij hl hu => ?_))
    obtain ⟨r1, r2⟩ := hnew i b hi hl hu
    have hio : ops[i]? = some ops[i] := by simp [hi]
    have hnb := ((op2_form (hW.op i _ hio)).1 b hu).1
    obtain ⟨s1, s2⟩ := k4 (S i).H.length r1 (fun b' hb' e => by
      rw [hnx b' hb'] at e
      have l1 := len_new2 hW hi hu
      have l2 := len_new2 hW hjn hb'
      rcases Nat.lt_or_gt_of_ne hij with h | h
      · have := len_mono2 hW (show i + 1 ≤ j by omega) (by omega); omega
      · have := len_mono2 hW (show j + 1 ≤ i by omega) (by omega); omega) (fun e rows h => by rw [r2] at h; simp at h; exact hnb _ _ h)
    exact ⟨s1, by rw [s2]; exact r2⟩
  · -- a call that turns a row
    have hcv : wr2 o = true := by simp [wr2, isCallV, hop]
    have hG := hGj (wr2_sens hcv) (.inl (wr2_soft hcv))
    have hnone : newsF U ops.size j = [] := by
      unfold newsF
      rw [List.filterMap_eq_nil_iff]
      intro i hi
      rw [List.mem_range'_1] at hi
      cases hui : U i with
      | no => rfl
      | set _ _ => rfl
      | new b' =>
        have hio : ops[i]? = some (ops[i]'(by omega)) := by simp
        have hni := ((op2_form (hW.op i _ hio)).1 b' hui).2
        by_cases hij : i = j
        · subst hij; rw [hui] at hu; cases hu
        · have := (last_spec hln hio hni hij).1; omega
    have hGS : Gm S U ops.size m = (S j).H := by rw [hG]; unfold Gm; rw [hnone, List.append_nil]
    rw [hGS] at hhr hevG hgdG
    refine call2_wp ho hg hop hf hE hhr hevG hgdG fun x w' φ' k1 k2 k3 => hK _ _ (hend x w' φ' ?_ ?_ ?_ fun i b' hi hij hl hu' => ?_)
    · rw [hGS, hu]; exact k1
    · rw [hGS, hu]; exact k2
    · rw [hGS, hu]; exact k3
    · have hio : ops[i]? = some ops[i] := by simp [hi]
      have hni := ((op2_form (hW.op i _ hio)).1 b' hu').2
      have := hbl i (last_spec hln hio hni hij).2
      rw [hl] at this; cases this
theorem mid_any2 (hW : Walk2 P N ops S V U) (hok : okDraw2 ops = true) {K : St → Prop} (hKn : K (S ops.size)) {Q : Exit → Act → World → Prop} (hQ : ∀ s φ a w, Rel P B w0 X N s φ a w → K s → Q .normal a w) :
    ∀ (fuel : Nat) (listed : Array Bool) (a : Act) (w : World), Mid2 P B w0 X N ops S U listed a w → listed.toList.countP (!·) ≤ fuel → wpAny P .any ops Q fuel listed a w := by
  obtain ⟨hedge, _⟩ := ok2_spec hok
  have hend : ∀ (listed : Array Bool) (a : Act) (w : World), Mid2 P B w0 X N ops S U listed a w → (∀ i, i < ops.size → listed.getD i false = true) → Q .normal a w := fun listed a w hM hall => by
    obtain ⟨φ, m, hm, hwr, hhr, htn, hT, hnew, hdf⟩ := hM.ex
    have hfin : Gm S U ops.size ops.size = (S ops.size).H := by simp [Gm, newsF]
    have hG : Gm S U ops.size m = (S ops.size).H := by
      rw [← hfin]
      exact (Gm_between2 hW hm (Nat.le_refl _) fun i o h1 h2 h3 => by
        cases hw : wr2 o with
        | false => rfl
        | true => have := (hwr i o h3 hw).1 (hall i h2); omega).symm
    refine hQ (S ops.size) φ a w ⟨by rw [← hG]; exact hhr, by rw [← hG]; exact htn, fun t => ?_, hM.size, hdf⟩ hKn
    obtain ⟨mt, h1, h2, h3⟩ := hT t
    rw [← hG, T_between2 hW h1 (Nat.le_refl _) fun i o q1 q2 q3 q4 => by have := (h2 i o q3 q4).1 (hall i q2); omega]
    exact h3
  have hsome : ∀ (listed : Array Bool) (a : Act) (w : World), Mid2 P B w0 X N ops S U listed a w → Region.ready .any ops listed = [] → ∀ i, i < ops.size → listed.getD i false = true := fun listed a w hM hre => by
    intro i
    induction i using Nat.strongRecOn with
    | _ i ih =>
      intro hi
      cases h : listed.getD i false with
      | true => rfl
      | false =>
        have hio : ops[i]? = some ops[i] := by simp [hi]
        have : i ∈ Region.ready .any ops listed := by
          unfold Region.ready
          rw [List.mem_filter]
          refine ⟨by simpa using hi, ?_⟩
          have hd : listed.getD i true = false := by
            rw [Array.getD_eq_getD_getElem?] at h ⊢
            have hl : i < listed.size := by rw [hM.sz]; exact hi
            simp [hl] at h ⊢; exact h
          simp only [hd, Bool.not_false, Bool.true_and, hio, Option.map_some, Option.getD_some, Array.all_eq_true_iff_forall_mem]
          intro e he
          have he : e ∈ ops[i].after.toList := by simpa using he
          cases hb : Region.binds .any e with
          | false => simp
          | true =>
            have hlt := hedge i _ hio e he hb
            simp [ih e.on hlt (by omega)]
        rw [hre] at this
        simp at this
  intro fuel
  induction fuel with
  | zero =>
    intro listed a w hM hc
    have hall : ∀ i, i < ops.size → listed.getD i false = true := fun i hi => by
      have hl : i < listed.size := by rw [hM.sz]; exact hi
      have h0 : listed.toList.countP (!·) = 0 := by omega
      rw [List.countP_eq_zero] at h0
      have := h0 listed[i] (by simp)
      rw [Array.getD_eq_getD_getElem?]
      simp [hl]
      simpa using this
    refine ⟨?_, hend listed a w hM hall⟩
    unfold Region.ready
    rw [List.filter_eq_nil_iff]
    intro i hi
    have hi' : i < ops.size := by simpa using hi
    have := hall i hi'
    have hd : listed.getD i true = true := by
      rw [Array.getD_eq_getD_getElem?] at this ⊢
      have hl : i < listed.size := by rw [hM.sz]; exact hi'
      simp [hl] at this ⊢; exact this
    simp [hd]
  | succ fuel ih =>
    intro listed a w hM hc
    refine ⟨fun hre => hend listed a w hM (hsome listed a w hM hre), fun j hj => ?_⟩
    obtain ⟨h1, o, ho, h2⟩ := mem_ready.1 hj
    have hjn : j < ops.size := (Array.getElem?_eq_some_iff.1 ho).1
    have hjl : j < listed.size := by rw [hM.sz]; exact hjn
    have hjf : listed.getD j false = false := by
      rw [Array.getD_eq_getD_getElem?] at h1 ⊢
      simp [hjl] at h1 ⊢; exact h1
    refine mid_step2 hW hok hM ho hjf (fun e he hb => h2 e (by simpa using he) hb) fun a' w' hM' => ih _ a' w' hM' ?_
    have hlj : listed[j] = false := by
      rw [Array.getD_eq_getD_getElem?] at hjf
      simpa [hjl] using hjf
    have hcnt := List.countP_set (p := fun b : Bool => !b) (l := listed.toList) (i := j) (a := true) (by simpa using hjl)
    rw [Array.toList_setIfInBounds, hcnt]
    have h3 : 0 < listed.toList.countP (!·) := List.countP_pos_iff.2 ⟨listed[j], by simp, by simp [hlj]⟩
    have hlt2 : listed.toList[j]'(by simpa using hjl) = false := by simpa using hlj
    simp only [hlt2, Bool.not_false, if_true, Bool.not_true, Bool.false_eq_true, if_false]
    omega
/-- What is to be shown of such a region, in the order of the text. -/
def wops2 (P : Program) (all : List Oper) : Nat → List Oper → St → (St → Prop) → Prop
  | _, [], s, K => K s
  | j, o :: r, s, K => ∃ v u, op2 P all j o s v u ∧ noboxA all s.H u = true ∧ (∀ a, softA o = some a → guardV all s.T o = some true → softOk all (isIx o) (ev s.T a) = true ∨ hardX all (isIx o) s.T (ev s.T a) j = true) ∧ wops2 P all (j + 1) r (nextSt o s v u) K
theorem walk_of2 {all : List Oper} {K : St → Prop} : ∀ (l : List Oper) (k : Nat) (s : St), wops2 P all k l s K → ∃ (S : Nat → St) (V : Nat → AV) (U : Nat → Upd), S 0 = s ∧ K (S l.length) ∧
    ∀ (j : Nat) o, l[j]? = some o → op2 P all (k + j) o (S j) (V j) (U j) ∧ S (j + 1) = nextSt o (S j) (V j) (U j) ∧ noboxA all (S j).H (U j) = true ∧ ∀ a, softA o = some a → guardV all (S j).T o = some true → softOk all (isIx o) (ev (S j).T a) = true ∨ hardX all (isIx o) (S j).T (ev (S j).T a) (k + j) = true := by
  intro l
  induction l with
  | nil => intro k s h; exact ⟨fun _ => s, fun _ => .any, fun _ => .no, rfl, h, fun j o h => by simp at h⟩
  | cons o l ih =>
    intro k s h
    obtain ⟨v, u, h2, hb, hz, h3⟩ := h
    obtain ⟨S, V, U, k1, k2, k3⟩ := ih _ _ h3
    refine ⟨fun j => match j with | 0 => s | j + 1 => S j, fun j => match j with | 0 => v | j + 1 => V j, fun j => match j with | 0 => u | j + 1 => U j, rfl, k2, fun j o' hj => ?_⟩
    cases j with
    | zero => simp at hj; subst hj; exact ⟨h2, k1, hb, hz⟩
    | succ j =>
      have := k3 j o' (by simpa using hj)
      rw [show k + (j + 1) = k + 1 + j by omega]
      exact this
/-- **A region that draws its order, the second kind.** -/
theorem draw_wp2 {r : Option Nat} (hrd : r = none ∨ noDefL ops.toList = true) (hm : P.follows .mixedOrders = true) (hok : okDraw2 ops = true) {K : St → Prop} {Q : Exit → Act → World → Prop} {id : Nat} {s : St} {φ : Nat → Option Nat} {a : Act} {w : World} (hdst : ∀ (j : Nat) o, ops[j]? = some o → ∀ d, o.dst = some d → d < N) (h : wops2 P ops.toList 0 ops.toList s K) (hrel : Rel P B w0 X N s φ a w)
    (hQ : ∀ s φ a w, Rel P B w0 X N s φ a w → K s → Q .normal a w) : (Code.region id ops true).wpIn (fenceR r) 0 P Q a w := by
  obtain ⟨S, V, U, h0, hKn, hs⟩ := walk_of2 _ _ _ h
  have hW : Walk2 P N ops S V U := ⟨hdst, fun j o ho => by simpa using (hs j o (by simpa using ho)).1, fun j o ho => (hs j o (by simpa using ho)).2.1, fun j o ho => (hs j o (by simpa using ho)).2.2.1, fun j o ho => by simpa using (hs j o (by simpa using ho)).2.2.2⟩
  refine of_endN (region_anyIn hm hrd endN_no <| mid_any2 (Q := endN (Q .normal)) hW hok (K := K) (by simpa using hKn) hQ ops.size _ a _ ?_ (by have := List.countP_le_length (p := fun b : Bool => !b) (l := (Array.replicate ops.size false).toList); simpa using this))
  have hrel' : HR P w0 X w.drew φ s.H := hr_drew hrel.hr
  have hfalse : ∀ i, (Array.replicate ops.size false).getD i false = false := fun i => by
    rw [Array.getD_eq_getD_getElem?, Array.getElem?_replicate]
    split <;> rfl
  have hpush : ∀ (l : List Blk) (G : List Blk), HR P w0 X w.drew φ G → HR P w0 X w.drew φ (G ++ l) ∧ Turn w.drew φ G w.drew φ (G ++ l) := by
    intro l
    induction l with
    | nil => intro G h; rw [List.append_nil]; exact ⟨h, Turn.refl _ _ _⟩
    | cons b l ih =>
      intro G h
      obtain ⟨k1, k2⟩ := ih _ (hr_push h b)
      rw [show G ++ b :: l = (G ++ [b]) ++ l by simp]
      exact ⟨k1, (turn_push _ _ _ _).trans k2⟩
  obtain ⟨p1, p2⟩ := hpush (newsF U ops.size 0) s.H hrel'
  have hG0 : Gm S U ops.size 0 = s.H ++ newsF U ops.size 0 := by simp [Gm, h0]
  refine ⟨by simp, fun j o hj => by rw [hfalse] at hj; simp at hj, ⟨φ, 0, by omega, fun i o _ _ => by rw [hfalse]; simp, by rw [hG0]; exact p1, by rw [hG0]; exact (hrel.tn.trans (turn_drew w φ s.H)).trans p2, fun t => ⟨0, by omega, fun i o _ _ => by rw [hfalse]; simp, ?_⟩, fun i b hi _ hu => ⟨?_, ?_⟩, hrel.df.turn (turn_drew w φ s.H)⟩, hrel.size⟩
  · rw [hG0, h0]
    exact ((hrel.t t).turn (turn_drew w φ s.H)).turn p2
  · cases hc : φ (S i).H.length with
    | none => rfl
    | some c =>
      have := (hrel.hr.own _ c hc).2.2
      have := len_mono2 hW (Nat.zero_le i) (by omega)
      rw [h0] at this; omega
  · have hio : ∀ k, k ≤ i → (Gm S U ops.size 0)[(S i).H.length]? = ((S k).H ++ newsF U ops.size k)[(S i).H.length]? := by
      intro k
      induction k with
      | zero => intro _; rfl
      | succ k ih =>
        intro hk
        rw [ih (by omega), newsF_succ (by omega : k < ops.size)]
        have hko : ops[k]? = some ops[k] := by simp
        have hlm := len_mono2 hW (show k + 1 ≤ i by omega) (by omega)
        rw [hW.next k _ hko] at hlm ⊢
        cases huk : U k with
        | no => simp [nextSt, upd]
        | new b' => simp [nextSt, upd]
        | set id' b' =>
          simp only [nextSt, upd, huk, List.length_set, List.nil_append] at hlm ⊢
          rw [List.getElem?_append_right (by omega), List.getElem?_append_right (by simp; omega)]
          simp
    rw [hio i (Nat.le_refl _), newsF_succ hi, hu]
    simp
end
end
end Go.Proofs.YthiclaihlpkinaaGreat
namespace Go.Proofs.YthiclaihlpkinaaGreat
open Go.RowKit
variable [Glob]
/-- The last operation waits for all others; guards lie ahead of it. -/
def lastAll (all : List Oper) : Bool := (List.range (all.length - 1)).all fun i => ((ancL all []).getD (all.length - 1) 0).testBit i
def gOk (pre : List Oper) : Bool := pre.all fun x => match x.guard with | some (g, _) => decide (g < pre.length) | none => true
def okLast (pre : Array Oper) (o : Oper) : Bool := okDraw pre && edgesOk 0 (pre.toList ++ [o]) && lastAll (pre.toList ++ [o]) && gOk pre.toList && o.guard.isNone
section
variable {P : Program} {B : From} {w0 : World} {X : Nat → Prop} {N : Nat} {pre : Array Oper} {o : Oper} {Q : Exit → Act → World → Prop}
def lastQ (P : Program) (ops : Array Oper) (n : Nat) (Q : Exit → Act → World → Prop) : Exit → Act → World → Prop
  | .normal, a, w => wpOp P ops Q n (Q .normal) a w
  | e, a, w => Q e a w
theorem wp_lastQ {ops : Array Oper} {n : Nat} {x : Oper} {a : Act} {w : World} {K : Act → World → Prop} (h : x.wp P a w K (lastQ P ops n Q)) : x.wp P a w K Q := by
  unfold Oper.wp at h ⊢
  generalize (execOp a.eval x).run P w = r at h ⊢
  cases r with
  | ok n' w' => cases n' <;> exact h
  | halt e w' => cases e <;> exact h
theorem wpOp_pre (hg : gOk pre.toList = true) {j : Nat} (hj : j < pre.size) {n : Nat} {a : Act} {w : World} {K : Act → World → Prop} (h : wpOp P pre (lastQ P (pre.push o) n Q) j K a w) : wpOp P (pre.push o) Q j K a w := by
  unfold wpOp at h ⊢
  have e1 : (pre.push o)[j]? = pre[j]? := by rw [Array.getElem?_push, if_neg (by omega)]
  rw [e1]
  have e2 : pre[j]? = some pre[j] := by simp [hj]
  simp only [e2] at h ⊢
  have e3 : Region.wanted pre[j] (yielded (pre.push o) a.tmps) = Region.wanted pre[j] (yielded pre a.tmps) := by
    unfold Region.wanted
    split
    · rfl
    · rename_i g b hgd
      simp only [gOk, List.all_eq_true] at hg
      have := hg pre[j] (by simp)
      rw [hgd] at this
      have hlt : g < pre.size := by simpa using this
      have e4 : (pre.push o)[g]? = pre[g]? := by rw [Array.getElem?_push, if_neg (by omega)]
      simp only [yielded, e4]
  rw [e3]
  split
  · rename_i hw
    rw [if_pos hw] at h
    rcases h with h | ⟨h1, a', w', h2⟩
    · exact .inl (wp_lastQ h)
    · exact .inr ⟨h1, a', w', h2⟩
  · rename_i hw
    rw [if_neg hw] at h
    exact h
theorem ready_nil {ops : Array Oper} {listed : Array Bool} (hs : listed.size = ops.size) (h : ∀ i, i < ops.size → listed.getD i false = true) : Region.ready .any ops listed = [] := by
  unfold Region.ready
  rw [List.filter_eq_nil_iff]
  intro i hi
  have hi' : i < ops.size := by simpa using hi
  have := h i hi'
  have hd : listed.getD i true = true := by
    rw [Array.getD_eq_getD_getElem?] at this ⊢
    have hl : i < listed.size := by omega
    simp [hl] at this ⊢; exact this
  simp [hd]
theorem all_of_ready {ops : Array Oper} {listed : Array Bool} (hs : listed.size = ops.size) (hedge : ∀ (j : Nat) o, ops[j]? = some o → ∀ e ∈ o.after.toList, Region.binds .any e = true → e.on < j) (hre : Region.ready .any ops listed = []) : ∀ i, i < ops.size → listed.getD i false = true := by
  intro i
  induction i using Nat.strongRecOn with
  | _ i ih =>
    intro hi
    cases h : listed.getD i false with
    | true => rfl
    | false =>
      have hio : ops[i]? = some ops[i] := by simp [hi]
      have : i ∈ Region.ready .any ops listed := by
        unfold Region.ready
        rw [List.mem_filter]
        refine ⟨by simpa using hi, ?_⟩
        have hd : listed.getD i true = false := by
          rw [Array.getD_eq_getD_getElem?] at h ⊢
          have hl : i < listed.size := by omega
          simp [hl] at h ⊢; exact h
        simp only [hd, Bool.not_false, Bool.true_and, hio, Option.map_some, Option.getD_some, Array.all_eq_true_iff_forall_mem]
        intro e he
        have he : e ∈ ops[i].after.toList := by simpa using he
        cases hb : Region.binds .any e with
        | false => simp
        | true =>
          have hlt := hedge i _ hio e he hb
          simp [ih e.on hlt (by omega)]
      rw [hre] at this
      simp at this
theorem push_get {listed : Array Bool} {i : Nat} {d : Bool} (h : i < listed.size) : (listed.push false).getD i d = listed.getD i d := by
  simp only [Array.getD_eq_getD_getElem?, Array.getElem?_push]
  rw [if_neg (by omega)]
theorem push_last {listed : Array Bool} {n : Nat} {d : Bool} (h : listed.size = n) : (listed.push false).getD n d = false := by
  subst h; simp only [Array.getD_eq_getD_getElem?]; simp
/-- From the region without its last operation to the whole. -/
theorem any_last (hedge : ∀ (j : Nat) x, (pre.push o)[j]? = some x → ∀ e ∈ x.after.toList, Region.binds .any e = true → e.on < j) (hg : gOk pre.toList = true) (hall : ∀ i, i < pre.size → Before (pre.push o).toList i pre.size) :
    ∀ (fuel : Nat) (listed : Array Bool) (a : Act) (w : World), listed.size = pre.size → (∀ (j : Nat) x, listed.getD j false = true → pre[j]? = some x → ∀ e ∈ x.after.toList, Region.binds .any e = true → listed.getD e.on false = true) →
      wpAny P .any pre (lastQ P (pre.push o) pre.size Q) fuel listed a w → wpAny P .any (pre.push o) Q (fuel + 1) (listed.push false) a w := by
  have hpe : ∀ (j : Nat) x, pre[j]? = some x → ∀ e ∈ x.after.toList, Region.binds .any e = true → e.on < j := fun j x hj => hedge j x (by rw [Array.getElem?_push, if_neg (by have := (Array.getElem?_eq_some_iff.1 hj).1; omega)]; exact hj)
  have hon : (pre.push o)[pre.size]? = some o := by simp
  -- where all others are listed, the last one is ready
  have hlast : ∀ listed : Array Bool, listed.size = pre.size → (∀ i, i < pre.size → listed.getD i false = true) → pre.size ∈ Region.ready .any (pre.push o) (listed.push false) := fun listed hs hl => by
    rw [mem_ready]
    refine ⟨push_last hs, o, hon, fun e he hb => ?_⟩
    have hlt := hedge pre.size o hon e (by simpa using he) hb
    rw [push_get (by omega)]
    exact hl _ hlt
  -- the last step
  have hfin : ∀ (f : Nat) (listed : Array Bool) (a : Act) (w : World), listed.size = pre.size → (∀ i, i < pre.size → listed.getD i false = true) → lastQ P (pre.push o) pre.size Q .normal a w → wpOp P (pre.push o) Q pre.size (wpAny P .any (pre.push o) Q f ((listed.push false).setIfInBounds pre.size true)) a w := fun f listed a w hs hl h => by
    refine wpOp_mono (fun a' w' h' => ?_) h
    have hset : ∀ i, i < (pre.push o).size → ((listed.push false).setIfInBounds pre.size true).getD i false = true := fun i hi => by
      simp at hi
      by_cases e : i = pre.size
      · subst e; simp [Array.getD_eq_getD_getElem?, hs]
      · have := hl i (by omega)
        rw [Array.getD_eq_getD_getElem?, Array.getElem?_setIfInBounds_ne (by omega), ← Array.getD_eq_getD_getElem?, push_get (by omega)]
        exact this
    have hre := ready_nil (ops := pre.push o) (listed := (listed.push false).setIfInBounds pre.size true) (by simp [hs]) hset
    cases f with
    | zero => exact ⟨hre, h'⟩
    | succ f => exact ⟨fun _ => h', fun j hj => by rw [hre] at hj; simp at hj⟩
  -- what is ready in the whole and is not the last one, is ready ahead of it
  have hback : ∀ (listed : Array Bool) (j : Nat), listed.size = pre.size → j ∈ Region.ready .any (pre.push o) (listed.push false) → j ≠ pre.size → j < pre.size ∧ j ∈ Region.ready .any pre listed := fun listed j hs hj hne => by
    rw [mem_ready] at hj
    obtain ⟨h1, x, hx, h2⟩ := hj
    have hlt : j < pre.size := by have := (Array.getElem?_eq_some_iff.1 hx).1; simp at this; omega
    have hx' : pre[j]? = some x := by rw [Array.getElem?_push, if_neg (by omega)] at hx; exact hx
    refine ⟨hlt, mem_ready.2 ⟨by rw [push_get (by omega)] at h1; exact h1, x, hx', fun e he hb => ?_⟩⟩
    have := h2 e he hb
    have hl := hpe j x hx' e (by simpa using he) hb
    rwa [push_get (by omega)] at this
  have hready : ∀ (listed : Array Bool), listed.size = pre.size → (∀ (j : Nat) x, listed.getD j false = true → pre[j]? = some x → ∀ e ∈ x.after.toList, Region.binds .any e = true → listed.getD e.on false = true) → pre.size ∈ Region.ready .any (pre.push o) (listed.push false) → ∀ i, i < pre.size → listed.getD i false = true := fun listed hs hd hr i hi => by
    rw [mem_ready] at hr
    obtain ⟨_, x, hx, h2⟩ := hr
    rw [hon] at hx
    cases hx
    have hd' : ∀ (j : Nat) x, (listed.push false).getD j false = true → (pre.push o)[j]? = some x → ∀ e ∈ x.after.toList, Region.binds .any e = true → (listed.push false).getD e.on false = true := fun j x hj hx e he hb => by
      have hlt : j < pre.size := by
        have := (Array.getElem?_eq_some_iff.1 hx).1
        simp at this
        by_cases e1 : j = pre.size
        · subst e1; rw [push_last hs] at hj; cases hj
        · omega
      have hx' : pre[j]? = some x := by rw [Array.getElem?_push, if_neg (by omega)] at hx; exact hx
      have hl := hpe j x hx' e he hb
      rw [push_get (by omega)] at hj ⊢
      exact hd j x hj hx' e he hb
    have := before_ready (ops := pre.push o) hd' hon (fun e he hb => h2 e (by simpa using he) hb) (hall i hi)
    rwa [push_get (by omega)] at this
  intro fuel
  induction fuel with
  | zero =>
    intro listed a w hs hd h
    obtain ⟨h1, h2⟩ := h
    have hl := all_of_ready hs hpe h1
    refine ⟨fun hre => ?_, fun j hj => ?_⟩
    · have := hlast listed hs hl; rw [hre] at this; simp at this
    · by_cases e : j = pre.size
      · subst e; exact hfin 0 listed a w hs hl h2
      · have := (hback listed j hs hj e).2; rw [h1] at this; simp at this
  | succ fuel ih =>
    intro listed a w hs hd h
    obtain ⟨h1, h2⟩ := h
    refine ⟨fun hre => ?_, fun j hj => ?_⟩
    · have hp : Region.ready .any pre listed = [] := by
        cases hr : Region.ready .any pre listed with
        | nil => rfl
        | cons j r =>
          exfalso
          have hj : j ∈ Region.ready .any pre listed := by rw [hr]; simp
          rw [mem_ready] at hj
          obtain ⟨k1, x, hx, k2⟩ := hj
          have hlt := (Array.getElem?_eq_some_iff.1 hx).1
          have : j ∈ Region.ready .any (pre.push o) (listed.push false) := mem_ready.2 ⟨by rw [push_get (by omega)]; exact k1, x, by rw [Array.getElem?_push, if_neg (by omega)]; exact hx, fun e he hb => by
            have hl := hpe j x hx e (by simpa using he) hb
            rw [push_get (by omega)]; exact k2 e he hb⟩
          rw [hre] at this; simp at this
      have := hlast listed hs (all_of_ready hs hpe hp); rw [hre] at this; simp at this
    · by_cases e : j = pre.size
      · subst e
        have hl := hready listed hs hd hj
        exact hfin (fuel + 1) listed a w hs hl (h1 (ready_nil hs hl))
      · obtain ⟨hlt, hj'⟩ := hback listed j hs hj e
        refine wpOp_mono (fun a' w' h' => ?_) (wpOp_pre hg hlt (h2 j hj'))
        have hps : (listed.push false).setIfInBounds j true = (listed.setIfInBounds j true).push false := by
          apply Array.ext_getElem?
          intro i
          simp only [Array.getElem?_setIfInBounds, Array.getElem?_push, Array.size_push, Array.size_setIfInBounds]
          by_cases e1 : j = i
          · subst e1; simp [hs, hlt, show ¬ j = pre.size by omega, show j < pre.size + 1 by omega]
          · simp [e1]
        rw [hps]
        refine ih _ a' w' (by simpa using hs) (fun i x hi hx ed he hb => ?_) h'
        rw [mem_ready] at hj'
        obtain ⟨k1, y, hy, k2⟩ := hj'
        have key : listed.getD ed.on false = true := by
          by_cases e1 : i = j
          · subst e1
            rw [hy] at hx; cases hx
            exact k2 ed (by simpa using he) hb
          · refine hd i x ?_ hx ed he hb
            rwa [Array.getD_eq_getD_getElem?, Array.getElem?_setIfInBounds_ne (by omega), ← Array.getD_eq_getD_getElem?] at hi
        by_cases e2 : ed.on = j
        · rw [e2, Array.getD_eq_getD_getElem?]; simp [hs, hlt]
        · rw [Array.getD_eq_getD_getElem?, Array.getElem?_setIfInBounds_ne (by omega), ← Array.getD_eq_getD_getElem?]; exact key
/-- **A region that draws its order, the third kind.** -/
theorem draw_wp3 {r : Option Nat} (hrd : r = none ∨ (noDefL pre.toList && noDefO o) = true) (hm : P.follows .mixedOrders = true) (hok : okLast pre o = true) {K K' : St → Prop} {id : Nat} {s : St} {φ : Nat → Option Nat} {a : Act} {w : World} (hdst : ∀ (j : Nat) x, pre[j]? = some x → ∀ d, x.dst = some d → d < N) (hdo : ∀ d, o.dst = some d → d < N)
    (h : wopsP P (ldZ pre.toList) pre.toList pre.toList s K) (hrel : Rel P B w0 X N s φ a w) (hK : ∀ s, K s → wopsQ P [o] [o] s K')
    (hQ : ∀ s φ a w, Rel P B w0 X N s φ a w → K' s → Q .normal a w) : (Code.region id (pre ++ #[o]) true).wpIn (fenceR r) 0 P Q a w := by
  simp only [okLast, Bool.and_eq_true] at hok
  obtain ⟨⟨⟨⟨o1, o2⟩, o3⟩, o4⟩, o5⟩ := hok
  have hpo : pre ++ #[o] = pre.push o := by simp
  rw [hpo]
  have hedge : ∀ (j : Nat) x, (pre.push o)[j]? = some x → ∀ e ∈ x.after.toList, Region.binds .any e = true → e.on < j := fun j x hj e he hb => by
    simpa using edges_spec _ _ o2 j x (by rw [← hj]; simp [Array.getElem?_push, List.getElem?_append]; split <;> split <;> (try omega) <;> (try rfl) <;> simp_all <;> omega) e he hb
  have hall : ∀ i, i < pre.size → Before (pre.push o).toList i pre.size := fun i hi => by
    simp only [lastAll, List.all_eq_true] at o3
    have := o3 i (by simpa using hi)
    have := anc_spec (pre.toList ++ [o]) (pre.toList ++ [o]) [] (by simp) (by simp) i _ this
    simpa using this
  refine of_endN (region_anyIn hm (hrd.imp (fun h => h) fun h => by simpa [noDefL, List.all_append] using h) endN_no ?_)
  have h1 := draw_any (Q := lastQ P (pre.push o) pre.size (endN (Q .normal))) o1 hdst h hrel fun s' φ' a' w' hr hk => by
    show wpOp P (pre.push o) (endN (Q .normal)) pre.size (Q .normal) a' w'
    have hops := ops_wp (P := P) (ops := #[o]) (B := B) (w0 := w0) (X := X) (N := N) (Q := endN (Q .normal)) (K := K') (fun j x hj d hd => by
      have : x = o := by
        cases j with
        | zero => simp at hj; exact hj.symm
        | succ j => simp at hj
      subst this; exact hdo d hd) hQ [o] 0 s' φ' a' w' (fun j => by cases j <;> simp) (hK s' hk) hr
    simp only [List.length_singleton, List.range'_one, wpOps_cons] at hops
    unfold wpOp at hops ⊢
    have e1 : (pre.push o)[pre.size]? = some o := by simp
    have e2 : (#[o] : Array Oper)[0]? = some o := rfl
    simp only [e1, e2] at hops ⊢
    have e3 : o.guard = none := by simpa using o5
    have e4 : ∀ y, Region.wanted o y = true := fun y => by simp [Region.wanted, e3]
    rw [e4] at hops ⊢
    exact hops
  have h2 := any_last (P := P) (Q := endN (Q .normal)) hedge o4 hall pre.size (Array.replicate pre.size false) a { w with drawn := w.drawn + 1 } (by simp) (fun j x hj => by
    rw [Array.getD_eq_getD_getElem?, Array.getElem?_replicate] at hj
    split at hj <;> simp at hj) h1
  have e5 : (Array.replicate pre.size false).push false = Array.replicate (pre.push o).size false := by
    rw [Array.size_push]; exact (Array.replicate_succ).symm
  rw [e5] at h2
  simpa using h2
end
end Go.Proofs.YthiclaihlpkinaaGreat
