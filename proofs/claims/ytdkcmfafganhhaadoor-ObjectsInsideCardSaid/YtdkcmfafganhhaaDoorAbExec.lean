/- Code run on values that are known: a whole call, with all the calls that it makes, is computed by the kernel. -/
import Derived.Test.YtdkcmfafganhhaaDoorM3
namespace Go.Proofs.YtdkcmfafganhhaaDoor
set_option linter.unusedSimpArgs false
set_option linter.unusedVariables false
set_option linter.unnecessarySimpa false
set_option linter.unusedSectionVars false
open Go.RowKit
variable [Glob]

theorem ba_loop (b : ByteArray) : ∀ (n i : Nat) (r : List UInt8), b.size - i = n → i ≤ b.size → ByteArray.toList.loop b i r = r.reverse ++ b.data.toList.drop i := by
  intro n
  induction n with
  | zero =>
    intro i r h hi
    unfold ByteArray.toList.loop
    have h1 : i = b.size := by omega
    have h2 : b.data.toList.drop i = [] := by
      rw [List.drop_eq_nil_iff, h1]; exact Nat.le_of_eq rfl
    rw [if_neg (by omega), h2]; simp
  | succ n ih =>
    intro i r h hi
    unfold ByteArray.toList.loop
    have hlt : i < b.size := by omega
    have hlt' : i < b.data.toList.length := hlt
    rw [if_pos hlt, ih (i + 1) _ (by omega) (by omega), List.drop_eq_getElem_cons hlt']
    have hg : b.get! i = b.data.toList[i] := by
      show b.data[i]! = b.data.toList[i]
      rw [Array.getElem_toList]
      exact getElem!_pos b.data i hlt
    rw [hg]; simp
theorem ba_toList (b : ByteArray) : b.toList = b.data.toList := by
  have := ba_loop b _ 0 [] rfl (by omega)
  simpa [ByteArray.toList] using this

noncomputable section
/-- Arithmetic that is cut to so many bits, reckoned out. -/
def wrapOp (op : BinOp) (x y : AV) : Option AV :=
  match op, x, y with
  | .add, .int k a, .int k' b => if k = k' then some (.int k (k.wrap (a + b))) else none
  | .sub, .int k a, .int k' b => if k = k' then some (.int k (k.wrap (a - b))) else none
  | .mul, .int k a, .int k' b => if k = k' then some (.int k (k.wrap (a * b))) else none
  | .quo, .int k a, .int k' b => if k = k' then (if b = 0 then none else some (.int k (k.wrap (a.tdiv b)))) else none
  | .eql, .str a, .str b => some (.bool (a.data.toList == b.data.toList))
  | .neq, .str a, .str b => some (.bool (!(a.data.toList == b.data.toList)))
  | .lss, .str a, .str b => some (.bool (Op.bytesLess a.data.toList b.data.toList))
  | .leq, .str a, .str b => some (.bool (Op.bytesLess a.data.toList b.data.toList || a.data.toList == b.data.toList))
  | .gtr, .str a, .str b => some (.bool (!(Op.bytesLess a.data.toList b.data.toList || a.data.toList == b.data.toList)))
  | .geq, .str a, .str b => some (.bool (!Op.bytesLess a.data.toList b.data.toList))
  | .shl, .int k a, .int _ b => if 0 ≤ b ∧ b ≤ shW k then some (.int k (k.wrap (a * 2 ^ b.toNat))) else none
  | .and, .int k a, .int k' b => if k = k' then some (.int k (bits .and k a b)) else none
  | .or, .int k a, .int k' b => if k = k' then some (.int k (bits .or k a b)) else none
  | .xor, .int k a, .int k' b => if k = k' then some (.int k (bits .xor k a b)) else none
  | _, _, _ => none
def eqCsC : List Nat → List AV → List AV → Option Bool
  | [], [], [] => some true
  | 0 :: ks, .int k a :: r, .int k' b :: r' => if k = k' then (match eqCsC ks r r' with | some e => some ((a == b) && e) | none => none) else none
  | 1 :: ks, .bool a :: r, .bool b :: r' => (match eqCsC ks r r' with | some e => some ((a == b) && e) | none => none)
  | 2 :: ks, .str a :: r, .str b :: r' => (match eqCsC ks r r' with | some e => some ((a.data.toList == b.data.toList) && e) | none => none)
  | _, _, _ => none
theorem eqCsC_eq : ∀ (ks : List Nat) (x y : List AV), eqCs ks x y = eqCsC ks x y := by
  intro ks x y
  fun_induction eqCs ks x y <;> simp_all [eqCsC, ba_toList]
def keqC (ks : Bool × List Nat) (x y : AV) : Option Bool :=
  match ks with
  | (false, ks) => eqCsC ks [x] [y]
  | (true, ks) => match x, y with | .agg xs, .agg ys => eqCsC ks xs ys | _, _ => none
theorem keqC_eq (ks : Bool × List Nat) (x y : AV) : keq ks x y = keqC ks x y := by
  obtain ⟨b, ks⟩ := ks
  cases b
  · exact eqCsC_eq _ _ _
  · cases x <;> cases y <;> first | exact eqCsC_eq _ _ _ | rfl
def mfindC (ks : Bool × List Nat) (k : AV) : List (AV × AV) → Nat → Option (Option (Nat × AV))
  | [], _ => some none
  | e :: r, i => match keqC ks k e.1 with | some true => some (some (i, e.2)) | some false => mfindC ks k r (i + 1) | none => none
theorem mfindC_eq (ks : Bool × List Nat) (k : AV) : ∀ (l : List (AV × AV)) (i : Nat), mfind ks k l i = mfindC ks k l i := by
  intro l
  induction l with
  | nil => intro i; rfl
  | cons e l ih =>
    intro i
    simp only [mfind, mfindC, keqC_eq, ih]
    rfl
variable (P : Program)
theorem wrapOp_eq {op : BinOp} {t : TypeId} {x y v : AV} (h : wrapOp op x y = some v) : ebinT P op t x y = some v := by
  unfold wrapOp at h
  split at h
  all_goals first
    | (simp only [ebinT, ebin, wrapI_eq, bitI_eq, ba_toList]; exact h)
    | (simp only [ebinT, ebin, ebinS, wrapI_eq, ite_self]; exact h)
    | simp at h
/-- An operation that calls no function, reckoned out. -/
def exOp (o : Oper) (s : St) : Option (AV × Upd) :=
  match o.op with
  | .binOp op t x y _ => match isNilS y, wrapOp op (ev s.T x) (ev s.T y), ev s.T x, ev s.T y with
    | false, some v, _, _ => some (v, .no)
    | false, none, .agg xs, .agg ys => (match eqKindsN P t with
      | some ks => match eqCsC ks xs ys with
        | some b => (match op with | .eql => some (.bool b, .no) | .neq => some (.bool !b, .no) | _ => none)
        | none => none
      | none => none)
    | _, _, _, _ => eop P o s
  | .lookup t mm k ok => match mapTy P t, ev s.T mm with
    | some (z, ks), .mp id => match s.H[id]? with
      | some (.map es) => match keqC ks (ev s.T k) (ev s.T k), mfindC ks (ev s.T k) es 0 with
        | some _, some r => some (if ok then .tup [mval z r, .bool r.isSome] else mval z r, .no)
        | _, _ => none
      | _ => none
    | _, _ => none
  | .mapUpdate t mm k x => match mapTy P t, ev s.T mm with
    | some (_, ks), .mp id => match s.H[id]? with
      | some (.map es) => match keqC ks (ev s.T k) (ev s.T k), mfindC ks (ev s.T k) es 0 with
        | some _, some r => some (.any, .set id (.map (mput es r (ev s.T k) (ev s.T x))))
        | _, _ => none
      | _ => none
    | _, _ => none
  | .mapEntry t mm k => match mapTy P t, ev s.T mm with
    | some (z, ks), .mp id => match s.H[id]? with
      | some (.map es) => match keqC ks (ev s.T k) (ev s.T k), mfindC ks (ev s.T k) es 0 with
        | some _, some r => some (.tup [mval z r, .ent id (mplace es r)], .set id (.map (mput es r (ev s.T k) (mval z r))))
        | _, _ => none
      | _ => none
    | _, _ => none
  | .unOp op _ x => match op, ev s.T x with | .neg, .int k n => some (.int k (k.wrap (0 - n)), .no) | _, _ => eop P o s
  | .convert src dst x => match ev s.T x with
    | .int _ n => match ty P src, ty P dst with
      | some _, some d => match d.int with | some k => some (.int k (k.wrap n), .no) | none => none
      | _, _ => none
    | _ => eop P o s
  | _ => eop P o s
theorem exOp_eq {o : Oper} {s : St} {r : AV × Upd} (h : exOp P o s = some r) : eop P o s = some r := by
  unfold exOp at h
  split at h
  · rename_i op t x y z ho
    split at h
    · rename_i v _ _ hn hv
      simp at h
      subst h
      have hm : isNilM y = false := by
        unfold isNilM
        split
        · simp only [ev, ofV, ofCell] at hv
          unfold wrapOp at hv
          split at hv <;> simp_all
        · rfl
      simp [eop, ho, hn, hm, wrapOp_eq P hv, same]
    · rename_i xs ys hn _ hx hy
      have hm : isNilM y = false := by
        unfold isNilM
        split
        · simp [ev, ofV, ofCell] at hy
        · rfl
      split at h
      · rename_i ks hks
        split at h
        · rename_i b hb
          split at h
          · simp at h; subst h; simp [eop, ho, hn, hm, hx, hy, ebinT, eqAgg, hks, eqCsC_eq, hb, same]
          · simp at h; subst h; simp [eop, ho, hn, hm, hx, hy, ebinT, eqAgg, hks, eqCsC_eq, hb, same]
          · simp at h
        · simp at h
      · simp at h
    · exact h
  · rename_i t mm k ok ho
    simp only [eop, ho, keqC_eq, mfindC_eq]
    exact h
  · rename_i t mm k x ho
    simp only [eop, ho, keqC_eq, mfindC_eq]
    exact h
  · rename_i t mm k ho
    simp only [eop, ho, keqC_eq, mfindC_eq]
    exact h
  · rename_i op t x ho
    split at h
    · rename_i k n hx
      simp at h
      subst h
      simp [eop, ho, hx, eun, wrapI_eq, same]
    · exact h
  · rename_i src dst x ho
    split at h
    · rename_i k n hx
      split at h
      · rename_i i d hi hd
        split at h
        · rename_i k' hk
          simp at h
          subst h
          simp [eop, ho, hx, hi, hd, hk, wrapI_eq]
        · simp at h
      · simp at h
    · exact h
  · exact h
/-- What is known of a function ahead: of some arguments, what it hands back. -/
abbrev Hook := Nat → Option (List AV → Option AV)
abbrev CallF := Nat → List AV → List Blk → Option (AV × List Blk)
variable (hk : Hook) (cf : CallF) (m : Nat)
/-- A new slice of numbers, strings and the like. -/
def freshS (r : AV) (H1 : List Blk) : Option (TypeId × List (List AV)) :=
  match r, H1 with
  | .os 0 n, [.row e false rows] => if rows.length = n ∧ (rows.all fun r => r.all flat) = true then some (e, rows) else none
  | _, _ => none
def exCall (d : Bool) (g : Nat) (as : List AV) (H : List Blk) : Option (AV × List Blk) :=
  match hk g with
  | some f => match (as.mapM (reify H 8)).bind f with
    | some r => if flat r = true then some (r, H) else none
    | none => none
  | none => if d = true then
      match as.mapM (reify H 8) with
      | some ys => match cf g ys [] with
        | some (r, H1) => match freshS r H1 with
          | some (e, rows) => some (.os H.length rows.length, H ++ [.row e false rows])
          | none => match reify H1 8 r with
            | some r' => if flat r' = true then some (r', H) else if ownsL as = false then (match cf g as [] with
              | some (r, H1) => match reify H1 8 r with
                | some r' => some (r', H)
                | none => none
              | none => none) else none
            | none => none
        | none => none
      | none => none
    else cf g as H
def exBody (d : Bool) (all : List Oper) (o : Oper) (s : St) : Option St :=
  match o.op with
  | .call ⟨.value f, args, _⟩ => match ev s.T f with
    | .fn g caps => match exCall hk cf d g (args.toList.map (ev s.T) ++ caps) s.H with
      | some (r, H') => some ⟨tputD s.T o.dst r, H'⟩
      | none => none
    | _ => none
  | .load _ a => if (!d || notEp (ev s.T a) || strictB all) = true then (match exOp P o s with | some (v, u) => some ⟨tputD s.T o.dst v, upd s.H u⟩ | none => none) else none
  | .fieldAddr _ a _ => if (!d || notEp (ev s.T a) || strictB all) = true then (match exOp P o s with | some (v, u) => some ⟨tputD s.T o.dst v, upd s.H u⟩ | none => none) else none
  | _ => match exOp P o s with | some (v, u) => some ⟨tputD s.T o.dst v, upd s.H u⟩ | none => none
def exStep (d : Bool) (all : List Oper) (o : Oper) (s : St) : Option St :=
  match o.guard with
  | none => exBody P hk cf d all o s
  | some (g, b) => match (all[g]?).bind (·.dst) with
    | some t => match tget s.T t with | .bool c => if c = b then exBody P hk cf d all o s else some ⟨tputD s.T o.dst .und, s.H⟩ | .und => some ⟨tputD s.T o.dst .und, s.H⟩ | _ => none
    | none => none
def exOps (d : Bool) (all : List Oper) : List Oper → St → Option St
  | [], s => some s
  | o :: r, s => match exStep P hk cf d all o s with | some s' => exOps d all r s' | none => none
def iterL (f : St → Option (Ex × St)) : Nat → St → Option (Ex × St)
  | 0, _ => none
  | k + 1, s => match f s with
    | some (.normal, s') => iterL f k s'
    | r => r
def exC : Code → St → Option (Ex × St)
  | .skip, s => some (.normal, s)
  | .region _ ops d, s => match exOps P hk cf d ops.toList ops.toList s with | some s' => some (.normal, s') | none => none
  | .seq a b, s => match exC a s with | some (.normal, s') => exC b s' | r => r
  | .cond c a b, s => match ev s.T c with | .bool t => if t = true then exC a s else exC b s | _ => none
  | .block id c, s => match exC c s with | some (.exit j, s') => if j = id then some (.normal, s') else some (.exit j, s') | r => r
  | .loop c, s => iterL (exC c) m s
  | .exit id, s => some (.exit id, s)
  | .ret, s => some (.ret, s)
  | _, _ => none
/-- A whole call; the first number bounds how deep calls lie, m how often a loop goes round. -/
def exF : Nat → CallF
  | 0, _, _, _ => none
  | n + 1, g, args, H => match P.funcs[g]? with
    | some fn => match fn.body with
      | some c => if (entersB P g && decide (args.length ≤ fn.ntmps) && okCode fn.ntmps c) = true then
          match exC P hk (exF n) m c ⟨argT 0 args, H⟩ with
          | some (.exit _, _) => none
          | some (_, s) => match resA P fn s with | some x => some (x, s.H) | none => none
          | none => none
        else none
      | none => none
    | none => none
end

section
variable {P : Program} {hk : Hook} {cf : CallF} {m : Nat}
theorem callG_new {f : FuncId} {args : List AV} {r : AV} {H1 : List Blk} (h : CallG P f args [] fun x H' => x = r ∧ H' = H1) : New P f args r H1 := by
  refine ⟨h.1, fun w X vs hX hvo hl hv => ?_⟩
  have hr0 : HR P w X w (fun _ => none) [] := ⟨hvo, Below.refl _ _, fun b hb => ⟨hX b hb, by simp⟩, fun _ _ h => by simp at h, fun _ _ _ h => by simp at h, fun _ _ _ h => by simp at h⟩
  refine (h.2 w w X (fun _ => none) vs hr0 hl fun j x v hx hu => .ro ((hv j x v hx hu).mono (Nat.le_refl _) fun b hb _ => ⟨rfl, fun h => h.elim hb fun ⟨_, h⟩ => by simp at h⟩)).mono ?_
  rintro e w' ⟨v, r', φ', H', h1, h2, _, h4, rfl, rfl⟩
  exact ⟨v, φ', h1, h2, h4⟩
theorem new_pure {f : FuncId} {args : List AV} {r r' : AV} {H1 : List Blk} (h : New P f args r H1) (hr : reify H1 8 r = some r') : Pure P f args r' :=
  ⟨h.1, fun w X vs hX hvo hl hv => (h.2 w X vs hX hvo hl hv).mono fun e w' ⟨v, φ1, h1, h2, h3⟩ => ⟨v, h1, reify_sound h2 8 _ _ _ hr h3, h2.fr⟩⟩
def HookOk (P : Program) (hk : Hook) : Prop := ∀ g f, hk g = some f → ∀ ys r, f ys = some r → Pure P g ys r
def CallOk (P : Program) (cf : CallF) : Prop := ∀ g as H r H', cf g as H = some (r, H') → CallG P g as H fun x G => x = r ∧ G = H'
mutual
theorem flat_owns : (x : AV) → flat x = true → owns x = false
  | .any, _ | .und, _ | .int .., _ | .bool _, _ | .str _, _ | .nilp, _ | .nils, _ | .nilf, _ | .nilm, _ | .nilc, _ | .rp _, _ | .rs _, _ => rfl
  | .op .., h | .ep .., h | .os .., h | .ow .., h | .mp _, h | .ent .., h | .it _, h | .fn .., h => by simp [flat] at h
  | .agg l, h => by simp only [flat] at h; simp only [owns]; exact flatL_owns l h
  | .tup l, h => by simp only [flat] at h; simp only [owns]; exact flatL_owns l h
theorem flatL_owns : (l : List AV) → flatL l = true → ownsL l = false
  | [], _ => rfl
  | x :: r, h => by
    simp only [flatL, Bool.and_eq_true] at h
    simp only [ownsL, flat_owns x h.1, flatL_owns r h.2, Bool.or_self]
end
theorem own_E {g : FuncId} {as : List AV} {r : AV} {H : List Blk} (hp : Pure P g as r) (ho : ownsL as = false) : CallE P g as H r .no :=
  ⟨hp.1, fun _ _ h => by simp at h, fun _ h => by simp at h, fun w0 w X φ G vs hr hG _ hl hv =>
    (hp.2 w (fun b => X b ∨ ∃ id, φ id = some b) vs (fun b hb => hb.elim (fun hb => (hr.ext b hb).1) fun ⟨id, h⟩ => (hr.own id b h).2.1) hr.all hl fun j y v hj hu => (hv j y v hj hu).ro_of (ownsL_get ho j y hj)).mono
      fun e w' ⟨v, h1, h2, h3⟩ => ⟨v, φ, h1, hr_below hr h3, turn_below hr h3, .ro h2, fun id hid _ _ => ⟨hid, rfl⟩⟩⟩
theorem new_fresh {f : FuncId} {args : List AV} {e : TypeId} {rows : List (List AV)} (h : New P f args (.os 0 rows.length) [.row e false rows]) (ho : (rows.all fun r => r.all flat) = true) : Fresh P f args e rows := by
  refine ⟨h.1, fun w X vs hX hvo hl hv => (h.2 w X vs hX hvo hl hv).mono ?_⟩
  rintro en w' ⟨v, φ, rfl, hr, hrv⟩
  cases hrv with
  | ro h => cases h
  | os g0 hid hv =>
    rcases (hv e false rows rfl).2 rfl with ⟨h, _⟩ | ⟨c, cap, cur, q1, q2, q3, q4, q5, q6⟩
    · cases h
    · obtain ⟨cur', p1, p2, p3, p4⟩ := hr.blk 0 _ c rfl q1
      rw [q3] at p1
      simp at p1
      subst p1
      refine ⟨c, cap, cur, by rw [q2], (hr.own 0 c q1).1, q3, p2, q4, q6, q5, fun i j row x v h1 h2 h3 => ⟨?_, (p4 i j row x v h1 h2 h3).2⟩, hr.fr⟩
      have hf : flat x = true := by
        simp only [List.all_eq_true] at ho
        exact ho row (List.mem_of_getElem? h1) x (List.mem_of_getElem? h2)
      have hno : owns x = false := flat_owns x hf
      exact ((p4 i j row x v h1 h2 h3).1.ro_of hno).of_flat hf
theorem exCall_sound (h1 : HookOk P hk) (h2 : CallOk P cf) {d : Bool} {g : Nat} {as : List AV} {H H' : List Blk} {r : AV} (h : exCall hk cf d g as H = some (r, H')) :
    (∃ u, CallE P g as H r u ∧ (∀ id b, u ≠ .set id b) ∧ H' = upd H u) ∨ (d = false ∧ CallG P g as H fun x G => x = r ∧ G = H') := by
  unfold exCall at h
  split at h
  · rename_i f hf
    split at h
    · rename_i r1 hr1
      split at h
      · rename_i hfl
        simp at h
        obtain ⟨rfl, rfl⟩ := h
        obtain ⟨ys, k1, k2⟩ := Option.bind_eq_some_iff.1 hr1
        exact .inl ⟨.no, pure_callE (h1 g f hf ys _ k2) k1 (.inl hfl), (fun _ _ q => Upd.noConfusion q), rfl⟩
      · simp at h
    · simp at h
  · split at h
    · split at h
      · rename_i ys hys
        split at h
        · rename_i r1 H1 hc
          split at h
          · rename_i e rows hfs
            simp at h
            obtain ⟨rfl, rfl⟩ := h
            unfold freshS at hfs
            split at hfs
            · rename_i n e' rows'
              split at hfs
              · rename_i hcond
                simp at hfs
                obtain ⟨rfl, rfl⟩ := hfs
                obtain ⟨hn, hfl⟩ := hcond
                subst hn
                exact .inl ⟨_, fresh_callE (new_fresh (callG_new (h2 _ _ _ _ _ hc)) hfl) hys (.inl hfl), (fun _ _ q => Upd.noConfusion q), rfl⟩
              · simp at hfs
            · simp at hfs
          · split at h
            · rename_i r2 hr2
              split at h
              · rename_i hfl
                simp at h
                obtain ⟨rfl, rfl⟩ := h
                exact .inl ⟨.no, pure_callE (new_pure (callG_new (h2 _ _ _ _ _ hc)) hr2) hys (.inl hfl), (fun _ _ q => Upd.noConfusion q), rfl⟩
              · split at h
                · rename_i hos
                  split at h
                  · rename_i r3 H3 hc3
                    split at h
                    · rename_i r4 hr4
                      simp at h
                      obtain ⟨rfl, rfl⟩ := h
                      exact .inl ⟨.no, own_E (new_pure (callG_new (h2 _ _ _ _ _ hc3)) hr4) hos, (fun _ _ q => Upd.noConfusion q), rfl⟩
                    · simp at h
                  · simp at h
                · simp at h
            · simp at h
        · simp at h
      · simp at h
    · rename_i hd
      exact .inr ⟨by simpa using hd, h2 _ _ _ _ _ h⟩
theorem exBody_sound (h1 : HookOk P hk) (h2 : CallOk P cf) {d : Bool} {all : List Oper} {o : Oper} {s s' : St} {K : St → Prop} (h : exBody P hk cf d all o s = some s') (hK : K s') : bodyC P d all o s K := by
  unfold exBody at h
  unfold bodyC
  split at h
  · rename_i f args ats hop
    simp only [hop]
    split at h
    · rename_i g caps hf
      split at h
      · rename_i r H' hc
        simp at h
        subst h
        refine ⟨g, caps, hf, ?_⟩
        rcases exCall_sound h1 h2 hc with ⟨u, k1, _, rfl⟩ | ⟨k1, k2⟩
        · exact .inl ⟨r, u, k1, hK⟩
        · exact .inr ⟨k1, callG_mono k2 fun x G ⟨e1, e2⟩ => by rw [e1, e2]; exact hK⟩
      · simp at h
    · simp at h
  · rename_i t a hop
    simp only [hop]
    split at h
    · rename_i hz
      refine ⟨fun hd => by subst hd; simpa using hz, ?_⟩
      split at h
      · rename_i v u he
        simp at h
        subst h
        rw [exOp_eq P he]
        exact hK
      · simp at h
    · simp at h
  · rename_i t a f hop
    simp only [hop]
    split at h
    · rename_i hz
      refine ⟨fun hd => by subst hd; simpa using hz, ?_⟩
      split at h
      · rename_i v u he
        simp at h
        subst h
        rw [exOp_eq P he]
        exact hK
      · simp at h
    · simp at h
  · rename_i hop hop2 hop3
    split at h
    · rename_i v u he
      simp at h
      subst h
      split
      · rename_i f args ats hop'
        exact (hop f args ats hop').elim
      · rename_i t' a' hop'
        exact (hop2 t' a' hop').elim
      · rename_i t' a' f' hop'
        exact (hop3 t' a' f' hop').elim
      · rename_i x' b' hop'
        simp [exOp, hop', eop] at he
      · rw [exOp_eq P he]; exact hK
    · simp at h
theorem exStep_sound (h1 : HookOk P hk) (h2 : CallOk P cf) {d : Bool} {all : List Oper} {o : Oper} {s s' : St} {K : St → Prop} (h : exStep P hk cf d all o s = some s') (hK : K s') : stepC P d all o s K := by
  unfold exStep at h
  unfold stepC
  split at h
  · rename_i hg
    simp only [hg]
    exact exBody_sound h1 h2 h hK
  · rename_i g b hg
    simp only [hg]
    split at h
    · rename_i t ht
      simp only [ht]
      split at h
      · rename_i c hc
        simp only [hc]
        split at h
        · rename_i hcb
          rw [if_pos hcb]
          exact exBody_sound h1 h2 h hK
        · rename_i hcb
          rw [if_neg hcb]
          simp at h
          subst h
          exact hK
      · rename_i hc
        simp only [hc]
        simp at h
        subst h
        exact hK
      · simp at h
    · simp at h
theorem exOps_sound (h1 : HookOk P hk) (h2 : CallOk P cf) {d : Bool} {all : List Oper} {K : St → Prop} : ∀ (l : List Oper) (s s' : St), exOps P hk cf d all l s = some s' → K s' → wopsC P d all l s K := by
  intro l
  induction l with
  | nil => intro s s' h hK; simp [exOps] at h; subst h; exact hK
  | cons o l ih =>
    intro s s' h hK
    simp only [exOps] at h
    split at h
    · rename_i s1 hs
      exact exStep_sound h1 h2 hs (ih s1 s' h hK)
    · simp at h
theorem exC_sound (h1 : HookOk P hk) (h2 : CallOk P cf) {L : Nat} : ∀ (c : Code) (s : St) (e : Ex) (s' : St) (Q : Ex → St → Prop), exC P hk cf m c s = some (e, s') → Q e s' → vc P L c s Q := by
  intro c
  induction c with
  | skip => intro s e s' Q h hQ; simp [exC] at h; obtain ⟨rfl, rfl⟩ := h; exact hQ
  | region id ops d =>
    intro s e s' Q h hQ
    simp only [exC] at h
    split at h
    · rename_i s1 hs
      simp at h
      obtain ⟨rfl, rfl⟩ := h
      exact exOps_sound h1 h2 _ _ _ hs hQ
    · simp at h
  | seq a b iha ihb =>
    intro s e s' Q h hQ
    simp only [exC] at h
    split at h
    · rename_i s1 hs
      exact iha _ _ _ _ hs (ihb _ _ _ _ h hQ)
    · rename_i hn
      refine iha _ _ _ _ h ?_
      cases e with
      | normal => exact (hn s' h).elim
      | exit j => exact hQ
      | ret => exact hQ
  | cond c a b iha ihb =>
    intro s e s' Q h hQ
    simp only [exC] at h
    simp only [vc]
    split at h
    · rename_i t ht
      simp only [ht]
      split at h
      · rename_i htt
        rw [if_pos htt]
        exact iha _ _ _ _ h hQ
      · rename_i htt
        rw [if_neg htt]
        exact ihb _ _ _ _ h hQ
    · simp at h
  | block id c ih =>
    intro s e s' Q h hQ
    simp only [exC] at h
    split at h
    · rename_i j s1 hs
      refine ih _ _ _ _ hs ?_
      split at h
      · rename_i hj
        simp at h
        obtain ⟨rfl, rfl⟩ := h
        simp only [hj, if_true]; exact hQ
      · rename_i hj
        simp at h
        obtain ⟨rfl, rfl⟩ := h
        simp only [hj, if_false]; exact hQ
    · rename_i hn
      refine ih _ _ _ _ h ?_
      cases e with
      | normal => exact hQ
      | exit j => exact (hn j s' h).elim
      | ret => exact hQ
  | loop c ih =>
    intro s e s' Q h hQ
    simp only [exC] at h
    refine ⟨fun n s1 => iterL (exC P hk cf m c) n s1 = some (e, s'), ⟨m, s, Weak.refl _, h⟩, fun n s1 hI => ?_⟩
    cases n with
    | zero => simp [iterL] at hI
    | succ n =>
      simp only [iterL] at hI
      split at hI
      · rename_i s2 hs
        exact ih _ _ _ _ hs ⟨n, by omega, s2, Weak.refl _, hI⟩
      · rename_i hn
        refine ih _ _ _ _ hI ?_
        cases e with
        | normal => exact (hn s' hI).elim
        | exit j => exact hQ
        | ret => exact hQ
  | exit id => intro s e s' Q h hQ; simp [exC] at h; obtain ⟨rfl, rfl⟩ := h; exact hQ
  | ret => intro s e s' Q h hQ; simp [exC] at h; obtain ⟨rfl, rfl⟩ := h; exact hQ
  | _ => intro s e s' Q h hQ; simp [exC] at h
theorem exF_sound (hm : P.follows .mixedOrders = true) (h1 : HookOk P hk) : ∀ n, CallOk P (exF P hk m n) := by
  intro n
  induction n with
  | zero => intro g as H r H' h; simp [exF] at h
  | succ n ih =>
    intro g as H r H' h
    simp only [exF] at h
    split at h
    · rename_i fn hf
      split at h
      · rename_i c hc
        split at h
        · rename_i hb
          simp only [Bool.and_eq_true, decide_eq_true_eq] at hb
          split at h
          · simp at h
          · rename_i e s hne hs
            split at h
            · rename_i x hx
              simp at h
              obtain ⟨rfl, rfl⟩ := h
              refine inl_G hm hf hc hb.1.1 hb.1.2 hb.2 (exC_sound h1 ih _ _ _ _ _ hs ?_)
              cases e with
              | normal => exact ⟨x, x, s.H, hx, Weak.refl _, rfl, rfl⟩
              | exit j => exact (hne j rfl).elim
              | ret => exact ⟨x, x, s.H, hx, Weak.refl _, rfl, rfl⟩
            · simp at h
          · simp at h
        · simp at h
      · simp at h
    · simp at h
/-- **A call on known values, computed.** -/
theorem exF_pure (hm : P.follows .mixedOrders = true) (h1 : HookOk P hk) {n : Nat} {f : FuncId} {args : List AV} {r : AV} (h : ((exF P hk m n f args []).bind fun x => reify x.2 8 x.1) = some r) : Pure P f args r := by
  obtain ⟨⟨x, H⟩, k1, k2⟩ := Option.bind_eq_some_iff.1 h
  exact new_pure (callG_new (exF_sound hm h1 n _ _ _ _ _ k1)) k2
def hkAdd (g : Nat) (f : List AV → Option AV) (hk : Hook) : Hook := fun n => if n = g then some f else hk n
theorem hkAdd_ok {g : Nat} {f : List AV → Option AV} (h : ∀ ys r, f ys = some r → Pure P g ys r) (hh : HookOk P hk) : HookOk P (hkAdd g f hk) := by
  intro n f' hn ys r hr
  unfold hkAdd at hn
  by_cases e : n = g
  · rw [if_pos e] at hn
    cases hn
    rw [e]
    exact h ys r hr
  · rw [if_neg e] at hn
    exact hh n f' hn ys r hr
theorem noHook : HookOk P fun _ => none := fun _ _ h => by simp at h
end
end Go.Proofs.YtdkcmfafganhhaaDoor
