/- Several texts of the abstract machine, one behind the other. -/
import Derived.Test.YthemglpccpjokaaGreatM3
import Derived.RangeFuncBound
set_option linter.unusedSimpArgs false
set_option linter.unusedVariables false
set_option linter.unnecessarySimpa false
set_option linter.unusedSectionVars false
namespace Go.Proofs.YthemglpccpjokaaGreat
open Go.RowKit
variable [Glob]
theorem ba_loop (b : ByteArray) : ∀ (n i : Nat) (r : List UInt8), b.size - i = n → i ≤ b.size → ByteArray.toList.loop b i r = r.reverse ++ b.data.toList.drop i := by
  intro n
  induction n with
  | zero =>
    intro i r h hi
    unfold ByteArray.toList.loop
    have h1 : i = b.size := by omega
    have h2 : b.data.toList.drop i = [] := by
      rw [List.drop_eq_nil_iff, h1]; exact Nat.le_of_eq rfl
    rw [if_neg (by omega), h2]; simp
  | succ n ih =>
    intro i r h hi
    unfold ByteArray.toList.loop
    have hlt : i < b.size := by omega
    have hlt' : i < b.data.toList.length := hlt
    rw [if_pos hlt, ih (i + 1) _ (by omega) (by omega), List.drop_eq_getElem_cons hlt']
    have hg : b.get! i = b.data.toList[i] := by
      show b.data[i]! = b.data.toList[i]
      rw [Array.getElem_toList]
      exact getElem!_pos b.data i hlt
    rw [hg]; simp
theorem ba_toList (b : ByteArray) : b.toList = b.data.toList := by
  have := ba_loop b _ 0 [] rfl (by omega)
  simpa [ByteArray.toList] using this
noncomputable section
def wrapOp (op : BinOp) (x y : AV) : Option AV :=
  match op, x, y with
  | .add, .int k a, .int k' b => if k = k' then some (.int k (k.wrap (a + b))) else none
  | .sub, .int k a, .int k' b => if k = k' then some (.int k (k.wrap (a - b))) else none
  | .mul, .int k a, .int k' b => if k = k' then some (.int k (k.wrap (a * b))) else none
  | .quo, .int k a, .int k' b => if k = k' then (if b = 0 then none else some (.int k (k.wrap (a.tdiv b)))) else none
  | .eql, .str a, .str b => some (.bool (a.data.toList == b.data.toList))
  | .neq, .str a, .str b => some (.bool (!(a.data.toList == b.data.toList)))
  | .lss, .str a, .str b => some (.bool (Op.bytesLess a.data.toList b.data.toList))
  | .leq, .str a, .str b => some (.bool (Op.bytesLess a.data.toList b.data.toList || a.data.toList == b.data.toList))
  | .gtr, .str a, .str b => some (.bool (!(Op.bytesLess a.data.toList b.data.toList || a.data.toList == b.data.toList)))
  | .geq, .str a, .str b => some (.bool (!Op.bytesLess a.data.toList b.data.toList))
  | .shl, .int k a, .int _ b => if 0 ≤ b ∧ b ≤ shW k then some (.int k (k.wrap (a * 2 ^ b.toNat))) else none
  | .and, .int k a, .int k' b => if k = k' then some (.int k (bits .and k a b)) else none
  | .or, .int k a, .int k' b => if k = k' then some (.int k (bits .or k a b)) else none
  | .xor, .int k a, .int k' b => if k = k' then some (.int k (bits .xor k a b)) else none
  | _, _, _ => none
def eqCsC : List Nat → List AV → List AV → Option Bool
  | [], [], [] => some true
  | 0 :: ks, .int k a :: r, .int k' b :: r' => if k = k' then (match eqCsC ks r r' with | some e => some ((a == b) && e) | none => none) else none
  | 1 :: ks, .bool a :: r, .bool b :: r' => (match eqCsC ks r r' with | some e => some ((a == b) && e) | none => none)
  | 2 :: ks, .str a :: r, .str b :: r' => (match eqCsC ks r r' with | some e => some ((a.data.toList == b.data.toList) && e) | none => none)
  | _, _, _ => none
theorem eqCsC_eq : ∀ (ks : List Nat) (x y : List AV), eqCs ks x y = eqCsC ks x y := by
  intro ks x y
  fun_induction eqCs ks x y <;> simp_all [eqCsC, ba_toList]
def keqC (ks : Bool × List Nat) (x y : AV) : Option Bool :=
  match ks with
  | (false, ks) => eqCsC ks [x] [y]
  | (true, ks) => match x, y with | .agg xs, .agg ys => eqCsC ks xs ys | _, _ => none
theorem keqC_eq (ks : Bool × List Nat) (x y : AV) : keq ks x y = keqC ks x y := by
  obtain ⟨b, ks⟩ := ks
  cases b
  · exact eqCsC_eq _ _ _
  · cases x <;> cases y <;> first | exact eqCsC_eq _ _ _ | rfl
def mfindC (ks : Bool × List Nat) (k : AV) : List (AV × AV) → Nat → Option (Option (Nat × AV))
  | [], _ => some none
  | e :: r, i => match keqC ks k e.1 with | some true => some (some (i, e.2)) | some false => mfindC ks k r (i + 1) | none => none
theorem mfindC_eq (ks : Bool × List Nat) (k : AV) : ∀ (l : List (AV × AV)) (i : Nat), mfind ks k l i = mfindC ks k l i := by
  intro l
  induction l with
  | nil => intro i; rfl
  | cons e l ih =>
    intro i
    simp only [mfind, mfindC, keqC_eq, ih]
    rfl
variable (P : Program)
theorem wrapOp_eq {op : BinOp} {t : TypeId} {x y v : AV} (h : wrapOp op x y = some v) : ebinT P op t x y = some v := by
  unfold wrapOp at h
  split at h
  all_goals first
    | (simp only [ebinT, ebin, wrapI_eq, bitI_eq, ba_toList]; exact h)
    | (simp only [ebinT, ebin, ebinS, wrapI_eq, ite_self]; exact h)
    | simp at h
def exOp (o : Oper) (s : St) : Option (AV × Upd) :=
  match o.op with
  | .binOp op t x y _ => match isNilS y, wrapOp op (ev s.T x) (ev s.T y), ev s.T x, ev s.T y with
    | false, some v, _, _ => some (v, .no)
    | false, none, .agg xs, .agg ys => (match eqKindsN P t with
      | some ks => match eqCsC ks xs ys with
        | some b => (match op with | .eql => some (.bool b, .no) | .neq => some (.bool !b, .no) | _ => none)
        | none => none
      | none => none)
    | _, _, _, _ => eop P o s
  | .lookup t mm k ok => match mapTy P t, ev s.T mm with
    | some (z, ks), .mp id => match s.H[id]? with
      | some (.map es) => match keqC ks (ev s.T k) (ev s.T k), mfindC ks (ev s.T k) es 0 with
        | some _, some r => some (if ok then .tup [mval z r, .bool r.isSome] else mval z r, .no)
        | _, _ => none
      | _ => none
    | _, _ => none
  | .mapUpdate t mm k x => match mapTy P t, ev s.T mm with
    | some (_, ks), .mp id => match s.H[id]? with
      | some (.map es) => match keqC ks (ev s.T k) (ev s.T k), mfindC ks (ev s.T k) es 0 with
        | some _, some r => some (.any, .set id (.map (mput es r (ev s.T k) (ev s.T x))))
        | _, _ => none
      | _ => none
    | _, _ => none
  | .mapEntry t mm k => match mapTy P t, ev s.T mm with
    | some (z, ks), .mp id => match s.H[id]? with
      | some (.map es) => match keqC ks (ev s.T k) (ev s.T k), mfindC ks (ev s.T k) es 0 with
        | some _, some r => some (.tup [mval z r, .ent id (mplace es r)], .set id (.map (mput es r (ev s.T k) (mval z r))))
        | _, _ => none
      | _ => none
    | _, _ => none
  | .unOp op _ x => match op, ev s.T x with | .neg, .int k n => some (.int k (k.wrap (0 - n)), .no) | _, _ => eop P o s
  | .convert src dst x => match ev s.T x with
    | .int _ n => match ty P src, ty P dst with
      | some _, some d => match d.int with | some k => some (.int k (k.wrap n), .no) | none => none
      | _, _ => none
    | _ => eop P o s
  | _ => eop P o s
theorem exOp_eq {o : Oper} {s : St} {r : AV × Upd} (h : exOp P o s = some r) : eop P o s = some r := by
  unfold exOp at h
  split at h
  · rename_i op t x y z ho
    split at h
    · rename_i v _ _ hn hv
      simp at h
      subst h
      have hm : isNilM y = false := by
        unfold isNilM
        split
        · simp only [ev, ofV, ofCell] at hv
          unfold wrapOp at hv
          split at hv <;> simp_all
        · rfl
      simp [eop, ho, hn, hm, wrapOp_eq P hv, same]
    · rename_i xs ys hn _ hx hy
      have hm : isNilM y = false := by
        unfold isNilM
        split
        · simp [ev, ofV, ofCell] at hy
        · rfl
      split at h
      · rename_i ks hks
        split at h
        · rename_i b hb
          split at h
          · simp at h; subst h; simp [eop, ho, hn, hm, hx, hy, ebinT, eqAgg, hks, eqCsC_eq, hb, same]
          · simp at h; subst h; simp [eop, ho, hn, hm, hx, hy, ebinT, eqAgg, hks, eqCsC_eq, hb, same]
          · simp at h
        · simp at h
      · simp at h
    · exact h
  · rename_i t mm k ok ho
    simp only [eop, ho, keqC_eq, mfindC_eq]
    exact h
  · rename_i t mm k x ho
    simp only [eop, ho, keqC_eq, mfindC_eq]
    exact h
  · rename_i t mm k ho
    simp only [eop, ho, keqC_eq, mfindC_eq]
    exact h
  · rename_i op t x ho
    split at h
    · rename_i k n hx
      simp at h
      subst h
      simp [eop, ho, hx, eun, wrapI_eq, same]
    · exact h
  · rename_i src dst x ho
    split at h
    · rename_i k n hx
      split at h
      · rename_i i d hi hd
        split at h
        · rename_i k' hk
          simp at h
          subst h
          simp [eop, ho, hx, hi, hd, hk, wrapI_eq]
        · simp at h
      · simp at h
    · exact h
  · exact h
abbrev Hook := Nat → Option (List AV → Option AV)
abbrev CallF := Nat → List AV → List Blk → Option (AV × List Blk)
variable (hk : Hook) (cf : CallF) (m : Nat)
def freshS (r : AV) (H1 : List Blk) : Option (TypeId × List (List AV)) :=
  match r, H1 with
  | .os 0 n, [.row e false rows] => if rows.length = n ∧ (rows.all fun r => r.all flat) = true then some (e, rows) else none
  | _, _ => none
def exCall (d : Bool) (g : Nat) (as : List AV) (H : List Blk) : Option (AV × List Blk) :=
  match hk g with
  | some f => match (as.mapM (reify H 8)).bind f with
    | some r => if flat r = true then some (r, H) else none
    | none => none
  | none => if d = true then
      match as.mapM (reify H 8) with
      | some ys => match cf g ys [] with
        | some (r, H1) => match freshS r H1 with
          | some (e, rows) => some (.os H.length rows.length, H ++ [.row e false rows])
          | none => match reify H1 8 r with
            | some r' => if flat r' = true then some (r', H) else if ownsL as = false then (match cf g as [] with
              | some (r, H1) => match reify H1 8 r with
                | some r' => some (r', H)
                | none => none
              | none => none) else none
            | none => none
        | none => none
      | none => none
    else cf g as H
def exBody (d : Bool) (all : List Oper) (o : Oper) (s : St) : Option St :=
  match o.op with
  | .call ⟨.value f, args, _⟩ => match ev s.T f with
    | .fn g caps => match exCall hk cf d g (args.toList.map (ev s.T) ++ caps) s.H with
      | some (r, H') => some ⟨tputD s.T o.dst r, H'⟩
      | none => none
    | _ => none
  | .load _ a => if (!d || notEp (ev s.T a) || strictB all) = true then (match exOp P o s with | some (v, u) => some ⟨tputD s.T o.dst v, upd s.H u⟩ | none => none) else none
  | .fieldAddr _ a _ => if (!d || notEp (ev s.T a) || strictB all) = true then (match exOp P o s with | some (v, u) => some ⟨tputD s.T o.dst v, upd s.H u⟩ | none => none) else none
  | _ => match exOp P o s with | some (v, u) => some ⟨tputD s.T o.dst v, upd s.H u⟩ | none => none
def exStep (d : Bool) (all : List Oper) (o : Oper) (s : St) : Option St :=
  match o.guard with
  | none => exBody P hk cf d all o s
  | some (g, b) => match (all[g]?).bind (·.dst) with
    | some t => match tget s.T t with | .bool c => if c = b then exBody P hk cf d all o s else some ⟨tputD s.T o.dst .und, s.H⟩ | .und => some ⟨tputD s.T o.dst .und, s.H⟩ | _ => none
    | none => none
def exOps (d : Bool) (all : List Oper) : List Oper → St → Option St
  | [], s => some s
  | o :: r, s => match exStep P hk cf d all o s with | some s' => exOps d all r s' | none => none
def iterL (f : St → Option (Ex × St)) : Nat → St → Option (Ex × St)
  | 0, _ => none
  | k + 1, s => match f s with
    | some (.normal, s') => iterL f k s'
    | r => r
def exC : Code → St → Option (Ex × St)
  | .skip, s => some (.normal, s)
  | .region _ ops d, s => match exOps P hk cf d ops.toList ops.toList s with | some s' => some (.normal, s') | none => none
  | .seq a b, s => match exC a s with | some (.normal, s') => exC b s' | r => r
  | .cond c a b, s => match ev s.T c with | .bool t => if t = true then exC a s else exC b s | _ => none
  | .block id c, s => match exC c s with | some (.exit j, s') => if j = id then some (.normal, s') else some (.exit j, s') | r => r
  | .loop c, s => iterL (exC c) m s
  | .exit id, s => some (.exit id, s)
  | .ret, s => some (.ret, s)
  | _, _ => none
def exF : Nat → CallF
  | 0, _, _, _ => none
  | n + 1, g, args, H => match P.funcs[g]? with
    | some fn => match fn.body with
      | some c => if (entersB P g && decide (args.length ≤ fn.ntmps) && okCode fn.ntmps c) = true then
          match exC P hk (exF n) m c ⟨argT 0 args, H⟩ with
          | some (.exit _, _) => none
          | some (_, s) => match resA P fn s with | some x => some (x, s.H) | none => none
          | none => none
        else none
      | none => none
    | none => none
end
section
variable {P : Program} {hk : Hook} {cf : CallF} {m : Nat}
theorem callG_new {f : FuncId} {args : List AV} {r : AV} {H1 : List Blk} (h : CallG P f args [] fun x H' => x = r ∧ H' = H1) : New P f args r H1 := by
  refine ⟨h.1, fun w X vs hX hvo hl hv => ?_⟩
  have hr0 : HR P w X w (fun _ => none) [] := ⟨hvo, Below.refl _ _, fun b hb => ⟨hX b hb, by simp⟩, fun _ _ h => by simp at h, fun _ _ _ h => by simp at h, fun _ _ _ h => by simp at h⟩
  refine (h.2 w w X (fun _ => none) vs hr0 hl fun j x v hx hu => .ro ((hv j x v hx hu).mono (Nat.le_refl _) fun b hb _ => ⟨rfl, fun h => h.elim hb fun ⟨_, h⟩ => by simp at h⟩)).mono ?_
  rintro e w' ⟨v, r', φ', H', h1, h2, _, h4, rfl, rfl⟩
  exact ⟨v, φ', h1, h2, h4⟩
theorem new_pure {f : FuncId} {args : List AV} {r r' : AV} {H1 : List Blk} (h : New P f args r H1) (hr : reify H1 8 r = some r') : Pure P f args r' :=
  ⟨h.1, fun w X vs hX hvo hl hv => (h.2 w X vs hX hvo hl hv).mono fun e w' ⟨v, φ1, h1, h2, h3⟩ => ⟨v, h1, reify_sound h2 8 _ _ _ hr h3, h2.fr⟩⟩
def HookOk (P : Program) (hk : Hook) : Prop := ∀ g f, hk g = some f → ∀ ys r, f ys = some r → Pure P g ys r
def CallOk (P : Program) (cf : CallF) : Prop := ∀ g as H r H', cf g as H = some (r, H') → CallG P g as H fun x G => x = r ∧ G = H'
mutual
theorem flat_owns : (x : AV) → flat x = true → owns x = false
  | .any, _ | .und, _ | .int .., _ | .bool _, _ | .str _, _ | .nilp, _ | .nils, _ | .nilf, _ | .nilm, _ | .yl _, _ | .nilc, _ | .rp _, _ | .rs _, _ | .fb .., _ => rfl
  | .op .., h | .ep .., h | .os .., h | .ow .., h | .mp _, h | .ent .., h | .it _, h | .fn .., h => by simp [flat] at h
  | .agg l, h => by simp only [flat] at h; simp only [owns]; exact flatL_owns l h
  | .tup l, h => by simp only [flat] at h; simp only [owns]; exact flatL_owns l h
theorem flatL_owns : (l : List AV) → flatL l = true → ownsL l = false
  | [], _ => rfl
  | x :: r, h => by
    simp only [flatL, Bool.and_eq_true] at h
    simp only [ownsL, flat_owns x h.1, flatL_owns r h.2, Bool.or_self]
end
theorem own_E {g : FuncId} {as : List AV} {r : AV} {H : List Blk} (hp : Pure P g as r) (ho : ownsL as = false) : CallE P g as H r .no :=
  ⟨hp.1, fun _ _ h => by simp at h, fun _ h => by simp at h, fun w0 w X φ G vs hr hG _ hl hv =>
    (hp.2 w (fun b => X b ∨ ∃ id, φ id = some b) vs (fun b hb => hb.elim (fun hb => (hr.ext b hb).1) fun ⟨id, h⟩ => (hr.own id b h).2.1) hr.all hl fun j y v hj hu => (hv j y v hj hu).ro_of (ownsL_get ho j y hj)).mono
      fun e w' ⟨v, h1, h2, h3⟩ => ⟨v, φ, h1, hr_below hr h3, turn_below hr h3, .ro h2, fun id hid _ _ => ⟨hid, rfl⟩⟩⟩
theorem new_fresh {f : FuncId} {args : List AV} {e : TypeId} {rows : List (List AV)} (h : New P f args (.os 0 rows.length) [.row e false rows]) (ho : (rows.all fun r => r.all flat) = true) : Fresh P f args e rows := by
  refine ⟨h.1, fun w X vs hX hvo hl hv => (h.2 w X vs hX hvo hl hv).mono ?_⟩
  rintro en w' ⟨v, φ, rfl, hr, hrv⟩
  cases hrv with
  | ro h => cases h
  | os g0 hid hv =>
    rcases (hv e false rows rfl).2 rfl with ⟨h, _⟩ | ⟨c, cap, cur, q1, q2, q3, q4, q5, q6⟩
    · cases h
    · obtain ⟨cur', p1, p2, p3, p4⟩ := hr.blk 0 _ c rfl q1
      rw [q3] at p1
      simp at p1
      subst p1
      refine ⟨c, cap, cur, by rw [q2], (hr.own 0 c q1).1, q3, p2, q4, q6, q5, fun i j row x v h1 h2 h3 => ⟨?_, (p4 i j row x v h1 h2 h3).2⟩, hr.fr⟩
      have hf : flat x = true := by
        simp only [List.all_eq_true] at ho
        exact ho row (List.mem_of_getElem? h1) x (List.mem_of_getElem? h2)
      have hno : owns x = false := flat_owns x hf
      exact ((p4 i j row x v h1 h2 h3).1.ro_of hno).of_flat hf
theorem exCall_sound (h1 : HookOk P hk) (h2 : CallOk P cf) {d : Bool} {g : Nat} {as : List AV} {H H' : List Blk} {r : AV} (h : exCall hk cf d g as H = some (r, H')) :
    (∃ u, CallE P g as H r u ∧ (∀ id b, u ≠ .set id b) ∧ H' = upd H u) ∨ (d = false ∧ CallG P g as H fun x G => x = r ∧ G = H') := by
  unfold exCall at h
  split at h
  · rename_i f hf
    split at h
    · rename_i r1 hr1
      split at h
      · rename_i hfl
        simp at h
        obtain ⟨rfl, rfl⟩ := h
        obtain ⟨ys, k1, k2⟩ := Option.bind_eq_some_iff.1 hr1
        exact .inl ⟨.no, pure_callE (h1 g f hf ys _ k2) k1 (.inl hfl), (fun _ _ q => Upd.noConfusion q), rfl⟩
      · simp at h
    · simp at h
  · split at h
    · split at h
      · rename_i ys hys
        split at h
        · rename_i r1 H1 hc
          split at h
          · rename_i e rows hfs
            simp at h
            obtain ⟨rfl, rfl⟩ := h
            unfold freshS at hfs
            split at hfs
            · rename_i n e' rows'
              split at hfs
              · rename_i hcond
                simp at hfs
                obtain ⟨rfl, rfl⟩ := hfs
                obtain ⟨hn, hfl⟩ := hcond
                subst hn
                exact .inl ⟨_, fresh_callE (new_fresh (callG_new (h2 _ _ _ _ _ hc)) hfl) hys (.inl hfl), (fun _ _ q => Upd.noConfusion q), rfl⟩
              · simp at hfs
            · simp at hfs
          · split at h
            · rename_i r2 hr2
              split at h
              · rename_i hfl
                simp at h
                obtain ⟨rfl, rfl⟩ := h
                exact .inl ⟨.no, pure_callE (new_pure (callG_new (h2 _ _ _ _ _ hc)) hr2) hys (.inl hfl), (fun _ _ q => Upd.noConfusion q), rfl⟩
              · split at h
                · rename_i hos
                  split at h
                  · rename_i r3 H3 hc3
                    split at h
                    · rename_i r4 hr4
                      simp at h
                      obtain ⟨rfl, rfl⟩ := h
                      exact .inl ⟨.no, own_E (new_pure (callG_new (h2 _ _ _ _ _ hc3)) hr4) hos, (fun _ _ q => Upd.noConfusion q), rfl⟩
                    · simp at h
                  · simp at h
                · simp at h
            · simp at h
        · simp at h
      · simp at h
    · rename_i hd
      exact .inr ⟨by simpa using hd, h2 _ _ _ _ _ h⟩
theorem exBody_sound (h1 : HookOk P hk) (h2 : CallOk P cf) {d : Bool} {all : List Oper} {o : Oper} {s s' : St} {K : St → Prop} (h : exBody P hk cf d all o s = some s') (hK : K s') : bodyC P d all o s K := by
  unfold exBody at h
  unfold bodyC
  split at h
  · rename_i f args ats hop
    simp only [hop]
    split at h
    · rename_i g caps hf
      split at h
      · rename_i r H' hc
        simp at h
        subst h
        refine Or.inl ⟨g, caps, hf, ?_⟩
        rcases exCall_sound h1 h2 hc with ⟨u, k1, _, rfl⟩ | ⟨k1, k2⟩
        · exact .inl ⟨r, u, k1, hK⟩
        · exact .inr ⟨k1, callG_mono k2 fun x G ⟨e1, e2⟩ => by rw [e1, e2]; exact hK⟩
      · simp at h
    · simp at h
  · rename_i t a hop
    simp only [hop]
    split at h
    · rename_i hz
      refine ⟨fun hd => by subst hd; simpa using hz, ?_⟩
      split at h
      · rename_i v u he
        simp at h
        subst h
        rw [exOp_eq P he]
        exact hK
      · simp at h
    · simp at h
  · rename_i t a f hop
    simp only [hop]
    split at h
    · rename_i hz
      refine ⟨fun hd => by subst hd; simpa using hz, ?_⟩
      split at h
      · rename_i v u he
        simp at h
        subst h
        rw [exOp_eq P he]
        exact hK
      · simp at h
    · simp at h
  · rename_i hop hop2 hop3
    split at h
    · rename_i v u he
      simp at h
      subst h
      split
      · rename_i f args ats hop'
        exact (hop f args ats hop').elim
      · rename_i t' a' hop'
        exact (hop2 t' a' hop').elim
      · rename_i t' a' f' hop'
        exact (hop3 t' a' f' hop').elim
      · rename_i x' b' hop'
        simp [exOp, hop', eop] at he
      · rw [exOp_eq P he]; exact hK
    · simp at h
theorem exStep_sound (h1 : HookOk P hk) (h2 : CallOk P cf) {d : Bool} {all : List Oper} {o : Oper} {s s' : St} {K : St → Prop} (h : exStep P hk cf d all o s = some s') (hK : K s') : stepC P d all o s K := by
  unfold exStep at h
  unfold stepC
  split at h
  · rename_i hg
    simp only [hg]
    exact exBody_sound h1 h2 h hK
  · rename_i g b hg
    simp only [hg]
    split at h
    · rename_i t ht
      simp only [ht]
      split at h
      · rename_i c hc
        simp only [hc]
        split at h
        · rename_i hcb
          rw [if_pos hcb]
          exact exBody_sound h1 h2 h hK
        · rename_i hcb
          rw [if_neg hcb]
          simp at h
          subst h
          exact hK
      · rename_i hc
        simp only [hc]
        simp at h
        subst h
        exact hK
      · simp at h
    · simp at h
theorem exOps_sound (h1 : HookOk P hk) (h2 : CallOk P cf) {d : Bool} {all : List Oper} {K : St → Prop} : ∀ (l : List Oper) (s s' : St), exOps P hk cf d all l s = some s' → K s' → wopsC P d all l s K := by
  intro l
  induction l with
  | nil => intro s s' h hK; simp [exOps] at h; subst h; exact hK
  | cons o l ih =>
    intro s s' h hK
    simp only [exOps] at h
    split at h
    · rename_i s1 hs
      exact exStep_sound h1 h2 hs (ih s1 s' h hK)
    · simp at h
theorem exC_sound (h1 : HookOk P hk) (h2 : CallOk P cf) {L : Nat} : ∀ (c : Code) (s : St) (e : Ex) (s' : St) (Q : Ex → St → Prop), exC P hk cf m c s = some (e, s') → Q e s' → vc P L c s Q := by
  intro c
  induction c with
  | skip => intro s e s' Q h hQ; simp [exC] at h; obtain ⟨rfl, rfl⟩ := h; exact hQ
  | region id ops d =>
    intro s e s' Q h hQ
    simp only [exC] at h
    split at h
    · rename_i s1 hs
      simp at h
      obtain ⟨rfl, rfl⟩ := h
      exact exOps_sound h1 h2 _ _ _ hs hQ
    · simp at h
  | seq a b iha ihb =>
    intro s e s' Q h hQ
    simp only [exC] at h
    split at h
    · rename_i s1 hs
      exact iha _ _ _ _ hs (ihb _ _ _ _ h hQ)
    · rename_i hn
      refine iha _ _ _ _ h ?_
      cases e with
      | normal => exact (hn s' h).elim
      | exit j => exact hQ
      | ret => exact hQ
  | cond c a b iha ihb =>
    intro s e s' Q h hQ
    simp only [exC] at h
    simp only [vc]
    split at h
    · rename_i t ht
      simp only [ht]
      split at h
      · rename_i htt
        rw [if_pos htt]
        exact iha _ _ _ _ h hQ
      · rename_i htt
        rw [if_neg htt]
        exact ihb _ _ _ _ h hQ
    · simp at h
  | block id c ih =>
    intro s e s' Q h hQ
    simp only [exC] at h
    split at h
    · rename_i j s1 hs
      refine ih _ _ _ _ hs ?_
      split at h
      · rename_i hj
        simp at h
        obtain ⟨rfl, rfl⟩ := h
        simp only [hj, if_true]; exact hQ
      · rename_i hj
        simp at h
        obtain ⟨rfl, rfl⟩ := h
        simp only [hj, if_false]; exact hQ
    · rename_i hn
      refine ih _ _ _ _ h ?_
      cases e with
      | normal => exact hQ
      | exit j => exact (hn j s' h).elim
      | ret => exact hQ
  | loop c ih =>
    intro s e s' Q h hQ
    simp only [exC] at h
    refine ⟨fun n s1 => iterL (exC P hk cf m c) n s1 = some (e, s'), ⟨m, s, Weak.refl _, h⟩, fun n s1 hI => ?_⟩
    cases n with
    | zero => simp [iterL] at hI
    | succ n =>
      simp only [iterL] at hI
      split at hI
      · rename_i s2 hs
        exact ih _ _ _ _ hs ⟨n, by omega, s2, Weak.refl _, hI⟩
      · rename_i hn
        refine ih _ _ _ _ hI ?_
        cases e with
        | normal => exact (hn s' hI).elim
        | exit j => exact hQ
        | ret => exact hQ
  | exit id => intro s e s' Q h hQ; simp [exC] at h; obtain ⟨rfl, rfl⟩ := h; exact hQ
  | ret => intro s e s' Q h hQ; simp [exC] at h; obtain ⟨rfl, rfl⟩ := h; exact hQ
  | _ => intro s e s' Q h hQ; simp [exC] at h
theorem exF_sound (hm : P.follows .mixedOrders = true) (h1 : HookOk P hk) : ∀ n, CallOk P (exF P hk m n) := by
  intro n
  induction n with
  | zero => intro g as H r H' h; simp [exF] at h
  | succ n ih =>
    intro g as H r H' h
    simp only [exF] at h
    split at h
    · rename_i fn hf
      split at h
      · rename_i c hc
        split at h
        · rename_i hb
          simp only [Bool.and_eq_true, decide_eq_true_eq] at hb
          split at h
          · simp at h
          · rename_i e s hne hs
            split at h
            · rename_i x hx
              simp at h
              obtain ⟨rfl, rfl⟩ := h
              refine inl_G hm hf hc hb.1.1 hb.1.2 hb.2 (exC_sound h1 ih _ _ _ _ _ hs ?_)
              cases e with
              | normal => exact ⟨x, x, s.H, hx, Weak.refl _, rfl, rfl⟩
              | exit j => exact (hne j rfl).elim
              | ret => exact ⟨x, x, s.H, hx, Weak.refl _, rfl, rfl⟩
            · simp at h
          · simp at h
        · simp at h
      · simp at h
    · simp at h
theorem exF_pure (hm : P.follows .mixedOrders = true) (h1 : HookOk P hk) {n : Nat} {f : FuncId} {args : List AV} {r : AV} (h : ((exF P hk m n f args []).bind fun x => reify x.2 8 x.1) = some r) : Pure P f args r := by
  obtain ⟨⟨x, H⟩, k1, k2⟩ := Option.bind_eq_some_iff.1 h
  exact new_pure (callG_new (exF_sound hm h1 n _ _ _ _ _ k1)) k2
def hkAdd (g : Nat) (f : List AV → Option AV) (hk : Hook) : Hook := fun n => if n = g then some f else hk n
theorem hkAdd_ok {g : Nat} {f : List AV → Option AV} (h : ∀ ys r, f ys = some r → Pure P g ys r) (hh : HookOk P hk) : HookOk P (hkAdd g f hk) := by
  intro n f' hn ys r hr
  unfold hkAdd at hn
  by_cases e : n = g
  · rw [if_pos e] at hn
    cases hn
    rw [e]
    exact h ys r hr
  · rw [if_neg e] at hn
    exact hh n f' hn ys r hr
theorem noHook : HookOk P fun _ => none := fun _ _ h => by simp at h
end
end Go.Proofs.YthemglpccpjokaaGreat
namespace Go.Proofs.YthemglpccpjokaaGreat
open Go.RowKit
variable [Glob]
mutual
def frA (id : Nat) (rows : List (List AV)) : AV → AV
  | .os i k => if i = id ∧ k = rows.length then .rs rows else .os i k
  | .agg l => .agg (frL id rows l)
  | .tup l => .tup (frL id rows l)
  | .fn f l => .fn f (frL id rows l)
  | v => v
def frL (id : Nat) (rows : List (List AV)) : List AV → List AV
  | [] => []
  | x :: r => frA id rows x :: frL id rows r
end
def frB (id : Nat) (rows : List (List AV)) : Blk → Blk
  | .box t cs => .box t (frL id rows cs)
  | .row e nb rs => .row e nb (rs.map (frL id rows))
  | .map es => .map (es.map fun e => (frA id rows e.1, frA id rows e.2))
  | .gone => .gone
  | .iter d n s => .iter d n s
def frH (id : Nat) (rows : List (List AV)) (H : List Blk) : List Blk := (H.map (frB id rows)).set id .gone
def clrF (φ : Nat → Option Nat) (id : Nat) : Nat → Option Nat := fun i => if i = id then none else φ i
theorem frL_get {id : Nat} {rows : List (List AV)} : ∀ (l : List AV) (j : Nat), (frL id rows l)[j]? = (l[j]?).map (frA id rows) := by
  intro l
  induction l with
  | nil => intro j; simp [frL]
  | cons x l ih =>
    intro j
    cases j with
    | zero => simp [frL]
    | succ j => simp only [frL, List.getElem?_cons_succ]; exact ih j
theorem frL_len {id : Nat} {rows : List (List AV)} (l : List AV) : (frL id rows l).length = l.length := by
  induction l with
  | nil => rfl
  | cons x l ih => simp [frL, ih]
theorem frL_same {id : Nat} {rows : List (List AV)} : ∀ {l : List AV}, (∀ (j : Nat) x, l[j]? = some x → frA id rows x = x) → frL id rows l = l := by
  intro l
  induction l with
  | nil => intro _; rfl
  | cons x l ih =>
    intro h
    simp only [frL]
    rw [h 0 x rfl, ih fun j y hj => h (j + 1) y (by simpa using hj)]
section
variable {P : Program} {w0 w : World} {X : Nat → Prop} {φ : Nat → Option Nat} {H : List Blk} {id : Nat} {rows : List (List AV)} {e : TypeId} {nb : Bool}
theorem ro_fr {Y : Nat → Prop} {x : AV} {v : Value} (h : RO w Y x v) : frA id rows x = x := by
  have key : ∀ {cs : List AV} {vs : Array Value}, cs.length = vs.size → (∀ (j : Nat) x v, cs[j]? = some x → vs[j]? = some v → frA id rows x = x) → frL id rows cs = cs := fun hl ih =>
    frL_same fun j x hj => by
      have hlt := (List.getElem?_eq_some_iff.1 hj).1
      exact ih j x _ hj (Array.getElem?_eq_getElem (by omega))
  induction h with
  | agg hl _ _ ih => simp only [frA]; rw [key hl ih]
  | tup hl _ ih => simp only [frA]; rw [key hl ih]
  | fn hl _ ih => simp only [frA]; rw [key hl ih]
  | _ => rfl
theorem frH_get {i : Nat} {b : Blk} (h : (frH id rows H)[i]? = some b) : (i = id ∧ b = .gone) ∨ (i ≠ id ∧ ∃ b0, H[i]? = some b0 ∧ b = frB id rows b0) := by
  unfold frH at h
  by_cases e : id = i
  · subst e
    rw [List.getElem?_set] at h
    simp at h
    exact .inl ⟨rfl, h.2.symm⟩
  · rw [List.getElem?_set_ne e, List.getElem?_map, Option.map_eq_some_iff] at h
    obtain ⟨b0, h1, h2⟩ := h
    exact .inr ⟨fun q => e q.symm, b0, h1, h2.symm⟩
theorem frH_len : (frH id rows H).length = H.length := by simp [frH]
theorem clrF_some {i c : Nat} (h : clrF φ id i = some c) : i ≠ id ∧ φ i = some c := by
  unfold clrF at h
  split at h
  · simp at h
  · exact ⟨by assumption, h⟩
theorem fr_os (hr : HR P w0 X w φ H) (hb : H[id]? = some (.row e nb rows)) (ho : ∀ r ∈ rows, ∀ c ∈ r, owns c = false) {v : Value} (hv : RV P w X φ H (.os id rows.length) v) : RO w (fun b => X b ∨ ∃ i, clrF φ id i = some b) (.rs rows) v := by
  have hφ1 : ∀ i c, (fun i => if i = id then φ id else none) i = some c → i = id ∧ φ id = some c := fun i c h => by
    simp only at h
    split at h
    · exact ⟨by assumption, h⟩
    · simp at h
  have hr1 : HR P w0 (fun b => X b ∨ ∃ i, clrF φ id i = some b) w (fun i => if i = id then φ id else none) H := by
    refine ⟨hr.vo.more fun b hb hz => ?_, hr.fr, fun b hb => ⟨?_, fun i hi => ?_⟩, fun i c hc => ?_, fun i j c hi hj => ?_, fun i b c hi hc => ?_⟩
    · rcases hz with hz | ⟨i, hz⟩
      · exact hz
      · have := (hr.own i b (clrF_some hz).2).1; omega
    · rcases hb with hb | ⟨i, hb⟩
      · exact (hr.ext b hb).1
      · exact (hr.own i b (clrF_some hb).2).2.1
    · obtain ⟨rfl, hi⟩ := hφ1 i b hi
      rcases hb with hb | ⟨k, hb⟩
      · exact (hr.ext b hb).2 i hi
      · obtain ⟨h1, h2⟩ := clrF_some hb
        exact h1 (hr.inj k i b h2 hi)
    · obtain ⟨rfl, hc⟩ := hφ1 i c hc
      exact hr.own i c hc
    · rw [(hφ1 i c hi).1, (hφ1 j c hj).1]
    · obtain ⟨rfl, hc⟩ := hφ1 i c hc
      rw [hb] at hi
      simp at hi
      subst hi
      obtain ⟨cur, h1, h2, h3, h4⟩ := hr.blk i _ c hb hc
      refine ⟨cur, h1, h2, h3, fun k j row x u q1 q2 q3 => ?_⟩
      obtain ⟨q4, q5⟩ := h4 k j row x u q1 q2 q3
      refine ⟨.ro ((q4.ro_of (ho row (List.mem_of_getElem? q1) x (List.mem_of_getElem? q2))).weaken fun b hb => ?_), q5⟩
      rcases hb with (hb | ⟨k2, hb⟩) | ⟨k2, hb⟩
      · exact .inl hb
      · exact .inr ⟨k2, (clrF_some hb).2⟩
      · obtain ⟨rfl, hb⟩ := hφ1 k2 b hb
        exact .inr ⟨k2, hb⟩
  have hv1 : RV P w (fun b => X b ∨ ∃ i, clrF φ id i = some b) (fun i => if i = id then φ id else none) H (.os id rows.length) v := by
    cases hv with
    | ro h => cases h
    | os h0 hid h => exact .os h0 hid fun e' nb' rs' hq => by simpa using h e' nb' rs' hq
  cases hv with
  | ro h => cases h
  | os h0 hid h =>
    rcases (h _ _ _ hb).2 rfl with ⟨_, _, ⟨A, rfl⟩, hz⟩ | ⟨c, cap, cur, hφ, rfl, hheap, hsz, hcap, hncap⟩
    · have : rows = [] := List.eq_nil_of_length_eq_zero hz
      subst this
      exact .rs 0 (fun _ _ => undef) rfl (Nat.le_refl _) (by simp) (by simp)
    · obtain ⟨cur', h1, h2, h3, h4⟩ := hr1.blk id _ c hb (by simpa using hφ)
      rw [hheap] at h1
      simp at h1
      subst h1
      have hcX : ¬ (X c ∨ ∃ i, clrF φ id i = some c) := fun q => (hr1.ext c q).2 id (by simpa using hφ)
      have hclt := (hr.own id c hφ).2.1
      have hcell : ∀ k, k < cur.size → w.cell? ((⟨c, 0, none⟩ : Addr).add k) = some (cur[k]?.getD undef) := fun k hk => by
        by_cases hz : k = 0
        · subst hz; simp [World.cell?, Addr.add, hheap, hk]
        · simp [World.cell?, Addr.add, hz, hheap, hk]
      have hidx : ∀ (i j : Nat) row, rows[i]? = some row → j < P.cellsOf e → i * P.cellsOf e + j < cur.size := fun i j row hi hj => by
        have hil := (List.getElem?_eq_some_iff.1 hi).1
        have : (i + 1) * P.cellsOf e ≤ rows.length * P.cellsOf e := Nat.mul_le_mul_right _ hil
        rw [Nat.add_mul, Nat.one_mul] at this
        omega
      refine .rs (P.cellsOf e) (fun i j => cur[i * P.cellsOf e + j]?.getD undef) rfl hncap (fun i row hi => ⟨h2 row (List.mem_of_getElem? hi), _, rfl, hclt, hcX, fun j hj => ?_⟩) fun i j row x hi hj => ?_
      · have hlt := hidx i j row hi hj
        refine ⟨hcell _ hlt, ?_⟩
        have hrl := h2 row (List.mem_of_getElem? hi)
        have := (h4 i j row (row[j]'(by omega)) cur[i * P.cellsOf e + j] hi (List.getElem?_eq_getElem (by omega)) (Array.getElem?_eq_getElem hlt)).2
        rw [Array.getElem?_eq_getElem hlt]
        exact this
      · have hrl := h2 row (List.mem_of_getElem? hi)
        have hjl := (List.getElem?_eq_some_iff.1 hj).1
        have hlt := hidx i j row hi (by omega)
        have h5 := (h4 i j row x cur[i * P.cellsOf e + j] hi hj (Array.getElem?_eq_getElem hlt)).1
        have h6 := h5.ro_of (ho row (List.mem_of_getElem? hi) x (List.mem_of_getElem? hj))
        rw [Array.getElem?_eq_getElem hlt]
        exact h6.weaken fun b hb => .inl hb
theorem fr_rv (hr : HR P w0 X w φ H) (hb : H[id]? = some (.row e nb rows)) (ho : ∀ r ∈ rows, ∀ c ∈ r, owns c = false) {x : AV} {v : Value} (hv : RV P w X φ H x v) : RV P w X (clrF φ id) (frH id rows H) (frA id rows x) v := by
  induction hv with
  | ro h =>
    rw [ro_fr h]
    exact .ro (h.weaken fun b hb => hb.elim .inl fun ⟨i, hi⟩ => .inr ⟨i, (clrF_some hi).2⟩)
  | op h0 hid h =>
    refine .op h0 (by rw [frH_len]; exact hid) fun t cs hq => ?_
    rcases frH_get hq with ⟨_, q⟩ | ⟨hne, b0, q1, q2⟩
    · cases q
    · cases b0 <;> simp [frB] at q2
      obtain ⟨rfl, rfl⟩ := q2
      obtain ⟨c, h1, h2⟩ := h _ _ q1
      exact ⟨c, by unfold clrF; rw [if_neg hne]; exact h1, h2⟩
  | ep h0 hid h =>
    refine .ep h0 (by rw [frH_len]; exact hid) fun e' nb' rs hq => ?_
    rcases frH_get hq with ⟨_, q⟩ | ⟨hne, b0, q1, q2⟩
    · cases q
    · cases b0 <;> simp [frB] at q2
      obtain ⟨rfl, rfl, rfl⟩ := q2
      obtain ⟨h1, h2⟩ := h _ _ _ q1
      refine ⟨by simpa using h1, fun q => ?_⟩
      obtain ⟨c, h3, h4⟩ := h2 (by simpa using q)
      exact ⟨c, by unfold clrF; rw [if_neg hne]; exact h3, h4⟩
  | @os id0 n v h0 hid h =>
    simp only [frA]
    split
    · rename_i hc
      obtain ⟨rfl, rfl⟩ := hc
      exact .ro (fr_os hr hb ho (.os h0 hid h))
    · rename_i hc
      refine .os h0 (by rw [frH_len]; exact hid) fun e' nb' rs hq => ?_
      rcases frH_get hq with ⟨_, q⟩ | ⟨hne, b0, q1, q2⟩
      · cases q
      · cases b0 <;> simp [frB] at q2
        obtain ⟨rfl, rfl, rfl⟩ := q2
        obtain ⟨h1, h2⟩ := h _ _ _ q1
        refine ⟨by simpa using h1, fun q => ?_⟩
        rcases h2 (by simpa using q) with ⟨g1, g2, g3, g4⟩ | ⟨c, cap, cur, g1, g2⟩
        · exact .inl ⟨g1, by unfold clrF; rw [if_neg hne]; exact g2, g3, g4⟩
        · exact .inr ⟨c, cap, cur, by unfold clrF; rw [if_neg hne]; exact g1, g2⟩
  | @ow id0 n lo hi v h0 hid h =>
    simp only [frA]
    refine .ow h0 (by rw [frH_len]; exact hid) fun e' nb' rs hq => ?_
    rcases frH_get hq with ⟨_, q⟩ | ⟨hne, b0, q1, q2⟩
    · cases q
    · cases b0 <;> simp [frB] at q2
      obtain ⟨rfl, rfl, rfl⟩ := q2
      obtain ⟨h1, h2⟩ := h _ _ _ q1
      refine ⟨by simpa using h1, fun q => ?_⟩
      obtain ⟨A, c, cap, cur, g1, g2⟩ := h2 (by simpa using q)
      exact ⟨A, c, cap, cur, by unfold clrF; rw [if_neg hne]; exact g1, g2⟩
  | mp h0 hid h =>
    refine .mp h0 (by rw [frH_len]; exact hid) fun es hq => ?_
    rcases frH_get hq with ⟨_, q⟩ | ⟨hne, b0, q1, q2⟩
    · cases q
    · cases b0 <;> simp [frB] at q2
      obtain ⟨c, h1, h2⟩ := h _ q1
      exact ⟨c, by unfold clrF; rw [if_neg hne]; exact h1, h2⟩
  | ent h0 hid h =>
    refine .ent h0 (by rw [frH_len]; exact hid) fun es hq => ?_
    rcases frH_get hq with ⟨_, q⟩ | ⟨hne, b0, q1, q2⟩
    · cases q
    · cases b0 <;> simp [frB] at q2
      obtain ⟨c, ents, clock, ent, h1, h2⟩ := h _ q1
      exact ⟨c, ents, clock, ent, by unfold clrF; rw [if_neg hne]; exact h1, h2⟩
  | it h0 hid h =>
    refine .it h0 (by rw [frH_len]; exact hid) fun d n s hq => ?_
    rcases frH_get hq with ⟨_, q⟩ | ⟨hne, b0, q1, q2⟩
    · cases q
    · cases b0 <;> simp [frB] at q2
      obtain ⟨c, h1, h2⟩ := h _ _ _ q1
      exact ⟨c, by unfold clrF; rw [if_neg hne]; exact h1, h2⟩
  | agg hl h1 _ ih =>
    refine .agg (by rw [frL_len]; exact hl) h1 fun j x v hj hu => ?_
    rw [frL_get, Option.map_eq_some_iff] at hj
    obtain ⟨x0, hj, rfl⟩ := hj
    exact ih j x0 v hj hu
  | tup hl _ ih =>
    refine .tup (by rw [frL_len]; exact hl) fun j x v hj hu => ?_
    rw [frL_get, Option.map_eq_some_iff] at hj
    obtain ⟨x0, hj, rfl⟩ := hj
    exact ih j x0 v hj hu
  | fn hl _ ih =>
    refine .fn (by rw [frL_len]; exact hl) fun j x v hj hu => ?_
    rw [frL_get, Option.map_eq_some_iff] at hj
    obtain ⟨x0, hj, rfl⟩ := hj
    exact ih j x0 v hj hu
theorem fr_turn : Turn w φ H w (clrF φ id) (frH id rows H) where
  size := Nat.le_refl _
  len := by rw [frH_len]; exact Nat.le_refl _
  old := fun b h _ => ⟨rfl, fun i q => h i (clrF_some q).2⟩
  box := fun i t cs' _ h => by
    rcases frH_get h with ⟨_, q⟩ | ⟨hne, b0, q1, q2⟩
    · cases q
    · cases b0 <;> simp [frB] at q2
      obtain ⟨rfl, rfl⟩ := q2
      exact ⟨_, q1, fun c hc => by unfold clrF; rw [if_neg hne]; exact hc⟩
  row := fun i e' nb' rows' _ h => by
    rcases frH_get h with ⟨_, q⟩ | ⟨hne, b0, q1, q2⟩
    · cases q
    · cases b0 <;> simp [frB] at q2
      obtain ⟨rfl, rfl, rfl⟩ := q2
      have hi : clrF φ id i = φ i := by unfold clrF; rw [if_neg hne]
      exact ⟨_, q1, by simp, fun _ => ⟨fun _ h => by rw [hi]; exact h, fun c hc => ⟨by rw [hi]; exact hc, fun cur hcur => ⟨cur, hcur, rfl⟩⟩⟩⟩
  map := fun i es' _ h => by
    rcases frH_get h with ⟨_, q⟩ | ⟨hne, b0, q1, q2⟩
    · cases q
    · cases b0 <;> simp [frB] at q2
      exact ⟨_, q1, fun c hc => ⟨by unfold clrF; rw [if_neg hne]; exact hc, bornK_same rfl⟩⟩
  iter := fun i d n s _ h => by
    rcases frH_get h with ⟨_, q⟩ | ⟨hne, b0, q1, q2⟩
    · cases q
    · cases b0 <;> simp [frB] at q2
      exact ⟨_, _, _, q1, fun c hc => by unfold clrF; rw [if_neg hne]; exact hc⟩
theorem fr_hr (hr : HR P w0 X w φ H) (hb : H[id]? = some (.row e nb rows)) (ho : ∀ r ∈ rows, ∀ c ∈ r, owns c = false) : HR P w0 X w (clrF φ id) (frH id rows H) := by
  refine ⟨hr.vo, hr.fr, ext_turn hr (fr_turn (id := id) (rows := rows)), fun i c hc => ?_, fun i j c hi hj => hr.inj i j c (clrF_some hi).2 (clrF_some hj).2, fun i b c hi hc => ?_⟩
  · have := hr.own i c (clrF_some hc).2
    rw [frH_len]; exact this
  · obtain ⟨hne, hc⟩ := clrF_some hc
    rcases frH_get hi with ⟨q, _⟩ | ⟨_, b0, q1, rfl⟩
    · exact absurd q hne
    · have hbk := hr.blk i b0 c q1 hc
      cases b0 with
      | box t cs =>
        obtain ⟨cur, h1, h2, h3⟩ := hbk
        refine ⟨cur, h1, by rw [frL_len]; exact h2, fun j x v hj hu => ?_⟩
        rw [frL_get, Option.map_eq_some_iff] at hj
        obtain ⟨x0, hj, rfl⟩ := hj
        exact ⟨fr_rv hr hb ho (h3 j x0 v hj hu).1, (h3 j x0 v hj hu).2⟩
      | row e' nb' rs =>
        obtain ⟨cur, h1, h2, h3, h4⟩ := hbk
        refine ⟨cur, h1, fun row hrow => ?_, by simpa using h3, fun k j row x v hk hj hu => ?_⟩
        · obtain ⟨r0, hr0, rfl⟩ := List.mem_map.1 hrow
          rw [frL_len]; exact h2 r0 hr0
        · rw [List.getElem?_map, Option.map_eq_some_iff] at hk
          obtain ⟨r0, hk, rfl⟩ := hk
          rw [frL_get, Option.map_eq_some_iff] at hj
          obtain ⟨x0, hj, rfl⟩ := hj
          exact ⟨fr_rv hr hb ho (h4 k j r0 x0 v hk hj hu).1, (h4 k j r0 x0 v hk hj hu).2⟩
      | map es =>
        obtain ⟨ents, clock, h1, h2, h3, h4, h5⟩ := hbk
        refine ⟨ents, clock, h1, by simpa using h2, h3, h4, fun k kk x ent hk hu => ?_⟩
        rw [List.getElem?_map, Option.map_eq_some_iff] at hk
        obtain ⟨⟨k0, x0⟩, hk, q⟩ := hk
        simp at q
        obtain ⟨rfl, rfl⟩ := q
        obtain ⟨h6, h7⟩ := h5 k k0 x0 ent hk hu
        exact ⟨fr_rv hr hb ho h6, fr_rv hr hb ho h7⟩
      | gone => trivial
      | iter d n s =>
        cases d with
        | none => exact hbk
        | some mid =>
          obtain ⟨d, since, seenA, stepped, B, k1, k2, k3, k4, k5, k6, k7, k8⟩ := hbk
          refine ⟨d, since, seenA, stepped, B, k1, k2, k3, k4, k5, k6, by rw [frH_len]; exact k7, fun es hes => ?_⟩
          rcases frH_get hes with ⟨_, q⟩ | ⟨hne2, b1, q1, q2⟩
          · cases q
          · cases b1 <;> simp [frB] at q2
            obtain ⟨r1, r2⟩ := k8 _ q1
            exact ⟨by unfold clrF; rw [if_neg hne2]; exact r1, r2⟩
theorem frz_G {g : FuncId} {args ys : List AV} {r : AV} {K : AV → List Blk → Prop} (hp : Pure P g ys r) (hb : H[id]? = some (.row e nb rows)) (ho : ∀ r ∈ rows, ∀ c ∈ r, owns c = false) (hy : frL id rows args = ys) (hos : ownsL ys = false) (hK : K r (frH id rows H)) : CallG P g args H K := by
  refine ⟨hp.1, fun w0 w X φ vs hr hl hv => ?_⟩
  have hr1 := fr_hr hr hb ho
  refine (hp.2 w (fun b => X b ∨ ∃ i, clrF φ id i = some b) vs (fun b hb => hb.elim (fun hb => (hr.ext b hb).1) fun ⟨i, h⟩ => (hr.own i b (clrF_some h).2).2.1) hr1.all (by rw [← hy, frL_len]; exact hl) fun j y v hj hu => ?_).mono ?_
  · have hos' := ownsL_get hos j y hj
    rw [← hy, frL_get, Option.map_eq_some_iff] at hj
    obtain ⟨x0, hj, rfl⟩ := hj
    exact (fr_rv hr hb ho (hv j x0 v hj hu)).ro_of hos'
  · rintro e' w' ⟨v, rfl, h2, h3⟩
    exact ⟨v, r, _, _, rfl, hr_below hr1 h3, fr_turn.trans (turn_below hr1 h3), .ro h2, hK⟩
end
attribute [simp] frL
end Go.Proofs.YthemglpccpjokaaGreat
namespace Go.Proofs.YthemglpccpjokaaGreat
open Go.RowKit
variable [Glob]
mutual
def mvA (id n m N : Nat) : AV → AV
  | .ow i k lo hi => if i = id ∧ k = n ∧ lo = 0 ∧ hi = m then .os N m else .ow i k lo hi
  | .agg l => .agg (mvL id n m N l)
  | .tup l => .tup (mvL id n m N l)
  | .fn f l => .fn f (mvL id n m N l)
  | v => v
def mvL (id n m N : Nat) : List AV → List AV
  | [] => []
  | x :: r => mvA id n m N x :: mvL id n m N r
end
def mvB (id n m N : Nat) : Blk → Blk
  | .box t cs => .box t (mvL id n m N cs)
  | .row e nb rs => .row e nb (rs.map (mvL id n m N))
  | .map es => .map (es.map fun e => (mvA id n m N e.1, mvA id n m N e.2))
  | .gone => .gone
  | .iter d k s => .iter d k s
def mvT (id n m N : Nat) (T : List (Nat × AV)) : List (Nat × AV) := T.map fun p => (p.1, mvA id n m N p.2)
def mvH (id n m N : Nat) (b : Blk) (H : List Blk) : List Blk := (H.map (mvB id n m N)).set id .gone ++ [mvB id n m N b]
def mvφ (φ : Nat → Option Nat) (id N : Nat) : Nat → Option Nat := fun i => if i = id then none else if i = N then φ id else φ i
section
variable {id n m N : Nat}
theorem mvL_get : ∀ (l : List AV) (j : Nat), (mvL id n m N l)[j]? = (l[j]?).map (mvA id n m N) := by
  intro l
  induction l with
  | nil => intro j; simp [mvL]
  | cons x l ih =>
    intro j
    cases j with
    | zero => simp [mvL]
    | succ j => simp only [mvL, List.getElem?_cons_succ]; exact ih j
theorem mvL_len (l : List AV) : (mvL id n m N l).length = l.length := by
  induction l with
  | nil => rfl
  | cons x l ih => simp [mvL, ih]
theorem mvL_same : ∀ {l : List AV}, (∀ (j : Nat) x, l[j]? = some x → mvA id n m N x = x) → mvL id n m N l = l := by
  intro l
  induction l with
  | nil => intro _; rfl
  | cons x l ih =>
    intro h
    simp only [mvL]
    rw [h 0 x rfl, ih fun j y hj => h (j + 1) y (by simpa using hj)]
theorem tget_mvT {T : List (Nat × AV)} {k : Nat} : tget (mvT id n m N T) k = mvA id n m N (tget T k) := by
  induction T with
  | nil => rfl
  | cons p T ih =>
    obtain ⟨j, v⟩ := p
    simp only [mvT, List.map_cons, tget]
    split
    · rfl
    · exact ih
theorem tget_frT {rows : List (List AV)} {T : List (Nat × AV)} {k : Nat} : tget (T.map fun p => (p.1, frA id rows p.2)) k = frA id rows (tget T k) := by
  induction T with
  | nil => rfl
  | cons p T ih =>
    obtain ⟨j, v⟩ := p
    simp only [List.map_cons, tget]
    split
    · rfl
    · exact ih
end
section
variable {P : Program} {w0 w : World} {X : Nat → Prop} {φ : Nat → Option Nat} {H : List Blk} {id n m : Nat} {rows : List (List AV)} {e : TypeId} {nb : Bool}
theorem ro_mv {N : Nat} {Y : Nat → Prop} {x : AV} {v : Value} (h : RO w Y x v) : mvA id n m N x = x := by
  have key : ∀ {cs : List AV} {vs : Array Value}, cs.length = vs.size → (∀ (j : Nat) x v, cs[j]? = some x → vs[j]? = some v → mvA id n m N x = x) → mvL id n m N cs = cs := fun hl ih =>
    mvL_same fun j x hj => by
      have hlt := (List.getElem?_eq_some_iff.1 hj).1
      exact ih j x _ hj (Array.getElem?_eq_getElem (by omega))
  induction h with
  | agg hl _ _ ih => simp only [mvA]; rw [key hl ih]
  | tup hl _ ih => simp only [mvA]; rw [key hl ih]
  | fn hl _ ih => simp only [mvA]; rw [key hl ih]
  | _ => rfl
theorem mvH_len {N : Nat} {b : Blk} : (mvH id n m N b H).length = H.length + 1 := by simp [mvH]
theorem mvH_old {b : Blk} {i : Nat} {b' : Blk} (hi : i < H.length) (h : (mvH id n m H.length b H)[i]? = some b') : (i = id ∧ b' = .gone) ∨ (i ≠ id ∧ ∃ b0, H[i]? = some b0 ∧ b' = mvB id n m H.length b0) := by
  unfold mvH at h
  rw [List.getElem?_append_left (by simpa using hi)] at h
  by_cases e : id = i
  · subst e
    rw [List.getElem?_set] at h
    simp at h
    exact .inl ⟨rfl, h.2.symm⟩
  · rw [List.getElem?_set_ne e, List.getElem?_map, Option.map_eq_some_iff] at h
    obtain ⟨b0, h1, h2⟩ := h
    exact .inr ⟨fun q => e q.symm, b0, h1, h2.symm⟩
theorem mvH_new {b : Blk} : (mvH id n m H.length b H)[H.length]? = some (mvB id n m H.length b) := by
  unfold mvH
  rw [List.getElem?_append_right (by simp)]
  simp
theorem mvφ_some {N i c : Nat} (h : mvφ φ id N i = some c) : i ≠ id ∧ ((i = N ∧ φ id = some c) ∨ (i ≠ N ∧ φ i = some c)) := by
  unfold mvφ at h
  split at h
  · simp at h
  · split at h
    · exact ⟨by assumption, .inl ⟨by assumption, h⟩⟩
    · exact ⟨by assumption, .inr ⟨by assumption, h⟩⟩
theorem mvφ_old {i : Nat} (h : i ≠ id) (hi : i < H.length) : mvφ φ id H.length i = φ i := by
  unfold mvφ
  rw [if_neg h, if_neg (by omega)]
theorem mv_own (hid : id < H.length) (hφ : ∀ i c, φ i = some c → i < H.length) {b : Nat} : (∃ i, mvφ φ id H.length i = some b) → ∃ i, φ i = some b := fun ⟨i, hi⟩ => by
  rcases (mvφ_some hi).2 with ⟨_, h⟩ | ⟨_, h⟩
  · exact ⟨_, h⟩
  · exact ⟨_, h⟩
theorem mv_rv (hr : HR P w0 X w φ H) (hb : H[id]? = some (.row e nb rows)) (hn : rows.length = n) (hm : m ≤ n) (h0 : 0 < n) {x : AV} {v : Value} (hv : RV P w X φ H x v) :
    RV P w X (mvφ φ id H.length) (mvH id n m H.length (.row e nb (rows.take m)) H) (mvA id n m H.length x) v := by
  have hidl : id < H.length := (List.getElem?_eq_some_iff.1 hb).1
  have hlen : ∀ i, i < H.length → i < (mvH id n m H.length (.row e nb (rows.take m)) H).length := fun i hi => by rw [mvH_len]; omega
  induction hv with
  | ro h =>
    rw [ro_mv h]
    exact .ro (h.weaken fun b hb => hb.elim .inl fun hb => .inr (mv_own hidl (fun i c hc => (hr.own i c hc).2.2) hb))
  | op h0 hid h =>
    refine .op h0 (hlen _ hid) fun t cs hq => ?_
    rcases mvH_old hid hq with ⟨_, q⟩ | ⟨hne, b0, q1, q2⟩
    · cases q
    · cases b0 <;> simp [mvB] at q2
      obtain ⟨rfl, rfl⟩ := q2
      obtain ⟨c, h1, h2⟩ := h _ _ q1
      exact ⟨c, by rw [mvφ_old hne hid]; exact h1, h2⟩
  | ep h0 hid h =>
    refine .ep h0 (hlen _ hid) fun e' nb' rs hq => ?_
    rcases mvH_old hid hq with ⟨_, q⟩ | ⟨hne, b0, q1, q2⟩
    · cases q
    · cases b0 <;> simp [mvB] at q2
      obtain ⟨rfl, rfl, rfl⟩ := q2
      obtain ⟨h1, h2⟩ := h _ _ _ q1
      refine ⟨by simpa using h1, fun q => ?_⟩
      obtain ⟨c, h3, h4⟩ := h2 (by simpa using q)
      exact ⟨c, by rw [mvφ_old hne hid]; exact h3, h4⟩
  | os h0 hid h =>
    refine .os h0 (hlen _ hid) fun e' nb' rs hq => ?_
    rcases mvH_old hid hq with ⟨_, q⟩ | ⟨hne, b0, q1, q2⟩
    · cases q
    · cases b0 <;> simp [mvB] at q2
      obtain ⟨rfl, rfl, rfl⟩ := q2
      obtain ⟨h1, h2⟩ := h _ _ _ q1
      refine ⟨by simpa using h1, fun q => ?_⟩
      rw [mvφ_old hne hid]
      exact h2 (by simpa using q)
  | @ow id0 k lo hi v h0' hid h =>
    simp only [mvA]
    split
    · rename_i hc
      obtain ⟨rfl, rfl, rfl, rfl⟩ := hc
      refine .os h0' (by rw [mvH_len]; omega) fun e' nb' rs hq => ?_
      rw [mvH_new] at hq
      simp only [mvB, Option.some.injEq, Blk.row.injEq] at hq
      obtain ⟨rfl, rfl, rfl⟩ := hq
      have hl : (List.map (mvL id0 k hi H.length) (rows.take hi)).length = hi := by simp; omega
      refine ⟨by omega, fun _ => .inr ?_⟩
      obtain ⟨A, c, cap, cur, g1, rfl, gA, g2, g3, g4, g5, g6, g7⟩ := (h _ _ _ hb).2 hn.symm
      rw [gA (by omega)]
      refine ⟨c, cap, cur, ?_, by simp, g2, g3, g4, by omega⟩
      unfold mvφ
      rw [if_neg (by omega), if_pos rfl]
      exact g1
    · refine .ow h0' (hlen _ hid) fun e' nb' rs hq => ?_
      rcases mvH_old hid hq with ⟨_, q⟩ | ⟨hne, b0, q1, q2⟩
      · cases q
      · cases b0 <;> simp [mvB] at q2
        obtain ⟨rfl, rfl, rfl⟩ := q2
        obtain ⟨h1, h2⟩ := h _ _ _ q1
        refine ⟨by simpa using h1, fun q => ?_⟩
        rw [mvφ_old hne hid]
        exact h2 (by simpa using q)
  | mp h0 hid h =>
    refine .mp h0 (hlen _ hid) fun es hq => ?_
    rcases mvH_old hid hq with ⟨_, q⟩ | ⟨hne, b0, q1, q2⟩
    · cases q
    · cases b0 <;> simp [mvB] at q2
      obtain ⟨c, h1, h2⟩ := h _ q1
      exact ⟨c, by rw [mvφ_old hne hid]; exact h1, h2⟩
  | ent h0 hid h =>
    refine .ent h0 (hlen _ hid) fun es hq => ?_
    rcases mvH_old hid hq with ⟨_, q⟩ | ⟨hne, b0, q1, q2⟩
    · cases q
    · cases b0 <;> simp [mvB] at q2
      obtain ⟨c, ents, clock, ent, h1, h2⟩ := h _ q1
      exact ⟨c, ents, clock, ent, by rw [mvφ_old hne hid]; exact h1, h2⟩
  | it h0 hid h =>
    refine .it h0 (hlen _ hid) fun d k s hq => ?_
    rcases mvH_old hid hq with ⟨_, q⟩ | ⟨hne, b0, q1, q2⟩
    · cases q
    · cases b0 <;> simp [mvB] at q2
      obtain ⟨c, h1, h2⟩ := h _ _ _ q1
      exact ⟨c, by rw [mvφ_old hne hid]; exact h1, h2⟩
  | agg hl h1 _ ih =>
    refine .agg (by rw [mvL_len]; exact hl) h1 fun j x v hj hu => ?_
    rw [mvL_get, Option.map_eq_some_iff] at hj
    obtain ⟨x0, hj, rfl⟩ := hj
    exact ih j x0 v hj hu
  | tup hl _ ih =>
    refine .tup (by rw [mvL_len]; exact hl) fun j x v hj hu => ?_
    rw [mvL_get, Option.map_eq_some_iff] at hj
    obtain ⟨x0, hj, rfl⟩ := hj
    exact ih j x0 v hj hu
  | fn hl _ ih =>
    refine .fn (by rw [mvL_len]; exact hl) fun j x v hj hu => ?_
    rw [mvL_get, Option.map_eq_some_iff] at hj
    obtain ⟨x0, hj, rfl⟩ := hj
    exact ih j x0 v hj hu
theorem BlkOk.mv (hr : HR P w0 X w φ H) (hb : H[id]? = some (.row e nb rows)) (hn : rows.length = n) (hm : m ≤ n) (h0 : 0 < n) {c : Nat} {b0 : Blk} (hbk : BlkOk P w X φ H c b0) :
    BlkOk P w X (mvφ φ id H.length) (mvH id n m H.length (.row e nb (rows.take m)) H) c (mvB id n m H.length b0) := by
  have hv := fun x v => mv_rv (x := x) (v := v) hr hb hn hm h0
  cases b0 with
  | box t cs =>
    obtain ⟨cur, h1, h2, h3⟩ := hbk
    refine ⟨cur, h1, by rw [mvL_len]; exact h2, fun j x v hj hu => ?_⟩
    rw [mvL_get, Option.map_eq_some_iff] at hj
    obtain ⟨x0, hj, rfl⟩ := hj
    exact ⟨hv _ _ (h3 j x0 v hj hu).1, (h3 j x0 v hj hu).2⟩
  | row e' nb' rs =>
    obtain ⟨cur, h1, h2, h3, h4⟩ := hbk
    refine ⟨cur, h1, fun row hrow => ?_, by simpa using h3, fun k j row x v hk hj hu => ?_⟩
    · obtain ⟨r0, hr0, rfl⟩ := List.mem_map.1 hrow
      rw [mvL_len]; exact h2 r0 hr0
    · rw [List.getElem?_map, Option.map_eq_some_iff] at hk
      obtain ⟨r0, hk, rfl⟩ := hk
      rw [mvL_get, Option.map_eq_some_iff] at hj
      obtain ⟨x0, hj, rfl⟩ := hj
      exact ⟨hv _ _ (h4 k j r0 x0 v hk hj hu).1, (h4 k j r0 x0 v hk hj hu).2⟩
  | map es =>
    obtain ⟨ents, clock, h1, h2, h3, h4, h5⟩ := hbk
    refine ⟨ents, clock, h1, by simpa using h2, h3, h4, fun k kk x ent hk hu => ?_⟩
    rw [List.getElem?_map, Option.map_eq_some_iff] at hk
    obtain ⟨⟨k0, x0⟩, hk, q⟩ := hk
    simp at q
    obtain ⟨rfl, rfl⟩ := q
    obtain ⟨h6, h7⟩ := h5 k k0 x0 ent hk hu
    exact ⟨hv _ _ h6, hv _ _ h7⟩
  | gone => trivial
  | iter d k s =>
    cases d with
    | none => exact hbk
    | some mid =>
      obtain ⟨d, since, seenA, stepped, B, k1, k2, k3, k4, k5, k6, k7, k8⟩ := hbk
      refine ⟨d, since, seenA, stepped, B, k1, k2, k3, k4, k5, k6, by rw [mvH_len]; omega, fun es hes => ?_⟩
      rcases mvH_old k7 hes with ⟨_, q⟩ | ⟨hne, b1, q1, q2⟩
      · cases q
      · cases b1 <;> simp [mvB] at q2
        obtain ⟨r1, r2⟩ := k8 _ q1
        exact ⟨by rw [mvφ_old hne k7]; exact r1, r2⟩
theorem mv_turn (hr : HR P w0 X w φ H) (hb : H[id]? = some (.row e nb rows)) {b : Blk} : Turn w φ H w (mvφ φ id H.length) (mvH id n m H.length b H) where
  size := Nat.le_refl _
  len := by rw [mvH_len]; omega
  old := fun b h _ => ⟨rfl, fun i q => by
    rcases (mvφ_some q).2 with ⟨_, q⟩ | ⟨_, q⟩
    · exact h _ q
    · exact h _ q⟩
  box := fun i t cs' hi h => by
    rcases mvH_old hi h with ⟨_, q⟩ | ⟨hne, b0, q1, q2⟩
    · cases q
    · cases b0 <;> simp [mvB] at q2
      obtain ⟨rfl, rfl⟩ := q2
      exact ⟨_, q1, fun c hc => by rw [mvφ_old hne hi]; exact hc⟩
  row := fun i e' nb' rows' hi h => by
    rcases mvH_old hi h with ⟨_, q⟩ | ⟨hne, b0, q1, q2⟩
    · cases q
    · cases b0 <;> simp [mvB] at q2
      obtain ⟨rfl, rfl, rfl⟩ := q2
      rw [mvφ_old hne hi]
      exact ⟨_, q1, by simp, fun _ => ⟨fun _ h => h, fun c hc => ⟨hc, fun cur hcur => ⟨cur, hcur, rfl⟩⟩⟩⟩
  map := fun i es' hi h => by
    rcases mvH_old hi h with ⟨_, q⟩ | ⟨hne, b0, q1, q2⟩
    · cases q
    · cases b0 <;> simp [mvB] at q2
      exact ⟨_, q1, fun c hc => ⟨by rw [mvφ_old hne hi]; exact hc, bornK_same rfl⟩⟩
  iter := fun i d k s hi h => by
    rcases mvH_old hi h with ⟨_, q⟩ | ⟨hne, b0, q1, q2⟩
    · cases q
    · cases b0 <;> simp [mvB] at q2
      exact ⟨_, _, _, q1, fun c hc => by rw [mvφ_old hne hi]; exact hc⟩
theorem mv_hr (hr : HR P w0 X w φ H) (hb : H[id]? = some (.row e nb rows)) (hn : rows.length = n) (hm : m ≤ n) (h0 : 0 < n) : HR P w0 X w (mvφ φ id H.length) (mvH id n m H.length (.row e nb (rows.take m)) H) := by
  have hidl : id < H.length := (List.getElem?_eq_some_iff.1 hb).1
  refine ⟨hr.vo, hr.fr, ext_turn hr (mv_turn (n := n) (m := m) (b := .row e nb (rows.take m)) hr hb), fun i c hc => ?_, fun i j c hi hj => ?_, fun i b c hi hc => ?_⟩
  · rw [mvH_len]
    rcases mvφ_some hc with ⟨_, ⟨rfl, q⟩ | ⟨_, q⟩⟩
    · have := hr.own _ c q; omega
    · have := hr.own _ c q; omega
  · rcases mvφ_some hi with ⟨n1, ⟨rfl, q⟩ | ⟨n2, q⟩⟩ <;> rcases mvφ_some hj with ⟨n3, ⟨rfl, q'⟩ | ⟨n4, q'⟩⟩
    · rfl
    · exact absurd (hr.inj _ _ _ q' q) n3
    · exact absurd (hr.inj _ _ _ q q') n1
    · exact hr.inj _ _ _ q q'
  · rcases mvφ_some hc with ⟨hne, ⟨rfl, q⟩ | ⟨n2, q⟩⟩
    · rw [mvH_new] at hi
      simp only [Option.some.injEq] at hi
      subst hi
      refine BlkOk.mv hr hb hn hm h0 ?_
      obtain ⟨cur, h1, h2, h3, h4⟩ := hr.blk id _ c hb q
      refine ⟨cur, h1, fun row hrow => h2 row (List.mem_of_mem_take hrow), Nat.le_trans (Nat.mul_le_mul_right _ (by simp; omega)) h3, fun k j row x v hk hj hu => ?_⟩
      rw [List.getElem?_take] at hk
      split at hk
      · exact h4 k j row x v hk hj hu
      · simp at hk
    · have hil := (hr.own _ c q).2.2
      rcases mvH_old hil hi with ⟨q2, _⟩ | ⟨_, b0, q1, rfl⟩
      · exact absurd q2 hne
      · exact BlkOk.mv hr hb hn hm h0 (hr.blk i b0 c q1 q)
theorem weak_mv {L : Nat} {s : St} (id n m : Nat) (e : TypeId) (nb : Bool) (rows : List (List AV)) (hb : s.H[id]? = some (.row e nb rows)) (hn : rows.length = n) (hm : m ≤ n) (h0 : 0 < n) :
    Weak P L s ⟨mvT id n m s.H.length s.T, mvH id n m s.H.length (.row e nb (rows.take m)) s.H⟩ := by
  intro B w0 X N φ a w hB hrel
  exact ⟨_, mv_hr hrel.hr hb hn hm h0, hrel.tn.trans (mv_turn hrel.hr hb), fun k => by rw [tget_mvT]; exact mv_rv hrel.hr hb hn hm h0 (hrel.t k), hrel.size, hrel.df.turn (mv_turn (n := n) (m := m) (b := .row e nb (rows.take m)) hrel.hr hb)⟩
theorem weak_frz {L : Nat} {s : St} (id : Nat) (e : TypeId) (nb : Bool) (rows : List (List AV)) (hb : s.H[id]? = some (.row e nb rows)) (ho : ∀ r ∈ rows, ∀ c ∈ r, owns c = false) :
    Weak P L s ⟨s.T.map fun p => (p.1, frA id rows p.2), frH id rows s.H⟩ := by
  intro B w0 X N φ a w hB hrel
  exact ⟨_, fr_hr hrel.hr hb ho, hrel.tn.trans fr_turn, fun k => by rw [tget_frT]; exact fr_rv hrel.hr hb ho (hrel.t k), hrel.size, hrel.df.turn (fr_turn (rows := rows) (H := s.H) (id := id) (φ := φ) (w := w))⟩
end
theorem own_G {P : Program} {g : FuncId} {as : List AV} {r : AV} {H : List Blk} {K : AV → List Blk → Prop} (hp : Pure P g as r) (ho : ownsL as = false) (hK : K r H) : CallG P g as H K :=
  ⟨hp.1, fun w0 w X φ vs hr hl hv => (hp.2 w (fun b => X b ∨ ∃ id, φ id = some b) vs (fun b hb => hb.elim (fun hb => (hr.ext b hb).1) fun ⟨id, h⟩ => (hr.own id b h).2.1) hr.all hl fun j y v hj hu => (hv j y v hj hu).ro_of (ownsL_get ho j y hj)).mono
      fun e w' ⟨v, h1, h2, h3⟩ => ⟨v, r, φ, H, h1, hr_below hr h3, turn_below hr h3, .ro h2, hK⟩⟩
end Go.Proofs.YthemglpccpjokaaGreat
namespace Go.Proofs.YthemglpccpjokaaGreat
open Go.RowKit
variable [Glob]
mutual
def fbA (id : Nat) (cs : List AV) : AV → AV
  | .op i o => if i = id then .rp (cs.drop o) else .op i o
  | .agg l => .agg (fbL id cs l)
  | .tup l => .tup (fbL id cs l)
  | .fn f l => .fn f (fbL id cs l)
  | v => v
def fbL (id : Nat) (cs : List AV) : List AV → List AV
  | [] => []
  | x :: r => fbA id cs x :: fbL id cs r
end
def fbB (id : Nat) (cs : List AV) : Blk → Blk
  | .box t l => .box t (fbL id cs l)
  | .row e nb rs => .row e nb (rs.map (fbL id cs))
  | .map es => .map (es.map fun e => (fbA id cs e.1, fbA id cs e.2))
  | .gone => .gone
  | .iter d n s => .iter d n s
def fbH (id : Nat) (cs : List AV) (H : List Blk) : List Blk := (H.map (fbB id cs)).set id .gone
theorem fbL_get {id : Nat} {cs : List AV} : ∀ (l : List AV) (j : Nat), (fbL id cs l)[j]? = (l[j]?).map (fbA id cs) := by
  intro l
  induction l with
  | nil => intro j; simp [fbL]
  | cons x l ih =>
    intro j
    cases j with
    | zero => simp [fbL]
    | succ j => simp only [fbL, List.getElem?_cons_succ]; exact ih j
theorem fbL_len {id : Nat} {cs : List AV} (l : List AV) : (fbL id cs l).length = l.length := by
  induction l with
  | nil => rfl
  | cons x l ih => simp [fbL, ih]
theorem fbL_same {id : Nat} {cs : List AV} : ∀ {l : List AV}, (∀ (j : Nat) x, l[j]? = some x → fbA id cs x = x) → fbL id cs l = l := by
  intro l
  induction l with
  | nil => intro _; rfl
  | cons x l ih =>
    intro h
    simp only [fbL]
    rw [h 0 x rfl, ih fun j y hj => h (j + 1) y (by simpa using hj)]
theorem tget_fbT {id : Nat} {cs : List AV} {T : List (Nat × AV)} {k : Nat} : tget (T.map fun p => (p.1, fbA id cs p.2)) k = fbA id cs (tget T k) := by
  induction T with
  | nil => rfl
  | cons p T ih =>
    obtain ⟨j, v⟩ := p
    simp only [List.map_cons, tget]
    split
    · rfl
    · exact ih
section
variable {P : Program} {w0 w : World} {X : Nat → Prop} {φ : Nat → Option Nat} {H : List Blk} {id : Nat} {cs : List AV} {t : TypeId}
theorem ro_fb {Y : Nat → Prop} {x : AV} {v : Value} (h : RO w Y x v) : fbA id cs x = x := by
  have key : ∀ {l : List AV} {vs : Array Value}, l.length = vs.size → (∀ (j : Nat) x v, l[j]? = some x → vs[j]? = some v → fbA id cs x = x) → fbL id cs l = l := fun hl ih =>
    fbL_same fun j x hj => by
      have hlt := (List.getElem?_eq_some_iff.1 hj).1
      exact ih j x _ hj (Array.getElem?_eq_getElem (by omega))
  induction h with
  | agg hl _ _ ih => simp only [fbA]; rw [key hl ih]
  | tup hl _ ih => simp only [fbA]; rw [key hl ih]
  | fn hl _ ih => simp only [fbA]; rw [key hl ih]
  | _ => rfl
theorem fbH_get {i : Nat} {b : Blk} (h : (fbH id cs H)[i]? = some b) : (i = id ∧ b = .gone) ∨ (i ≠ id ∧ ∃ b0, H[i]? = some b0 ∧ b = fbB id cs b0) := by
  unfold fbH at h
  by_cases e : id = i
  · subst e
    rw [List.getElem?_set] at h
    simp at h
    exact .inl ⟨rfl, h.2.symm⟩
  · rw [List.getElem?_set_ne e, List.getElem?_map, Option.map_eq_some_iff] at h
    obtain ⟨b0, h1, h2⟩ := h
    exact .inr ⟨fun q => e q.symm, b0, h1, h2.symm⟩
theorem fbH_len : (fbH id cs H).length = H.length := by simp [fbH]
theorem fb_op (hr : HR P w0 X w φ H) (hb : H[id]? = some (.box t cs)) (ho : ∀ c ∈ cs, owns c = false) {o : Nat} {v : Value} (hv : RV P w X φ H (.op id o) v) : RO w (fun b => X b ∨ ∃ i, clrF φ id i = some b) (.rp (cs.drop o)) v := by
  cases hv with
  | ro h => cases h
  | op h0 hid h =>
    obtain ⟨c, hφ, rfl⟩ := h _ _ hb
    obtain ⟨cur, h1, h2, h3⟩ := hr.blk id _ c hb hφ
    have hcX : ¬ (X c ∨ ∃ i, clrF φ id i = some c) := fun q => by
      rcases q with q | ⟨i, q⟩
      · exact (hr.ext c q).2 id hφ
      · obtain ⟨q1, q2⟩ := clrF_some q
        exact q1 (hr.inj i id c q2 hφ)
    have hclt := (hr.own id c hφ).2.1
    refine .rp (fun j => (cur[o + j]?).getD undef) hclt hcX (fun j x hj => ?_) fun j x hj => ?_
    · rw [List.getElem?_drop] at hj
      have hlt : o + j < cur.size := by rw [h2]; exact (List.getElem?_eq_some_iff.1 hj).1
      refine ⟨by rw [add_noneA, cell_row h1]; simp [hlt], ?_⟩
      have := (h3 (o + j) x cur[o + j] hj (by simp [hlt])).2
      simpa [hlt] using this
    · rw [List.getElem?_drop] at hj
      have hlt : o + j < cur.size := by rw [h2]; exact (List.getElem?_eq_some_iff.1 hj).1
      have h5 := (h3 (o + j) x cur[o + j] hj (by simp [hlt])).1
      have h6 := h5.ro_of (ho x (List.mem_of_getElem? hj))
      rw [Array.getElem?_eq_getElem hlt]
      refine h6.weaken fun b hb => ?_
      rcases hb with hb | ⟨i, hb⟩
      · exact .inl hb
      · exact .inr ⟨i, (clrF_some hb).2⟩
theorem fb_rv (hr : HR P w0 X w φ H) (hb : H[id]? = some (.box t cs)) (ho : ∀ c ∈ cs, owns c = false) {x : AV} {v : Value} (hv : RV P w X φ H x v) : RV P w X (clrF φ id) (fbH id cs H) (fbA id cs x) v := by
  induction hv with
  | ro h =>
    rw [ro_fb h]
    exact .ro (h.weaken fun b hb => hb.elim .inl fun ⟨i, hi⟩ => .inr ⟨i, (clrF_some hi).2⟩)
  | @op i o v h0 hid h =>
    simp only [fbA]
    split
    · rename_i e
      subst e
      exact .ro (fb_op hr hb ho (.op h0 hid h))
    · refine .op h0 (by rw [fbH_len]; exact hid) fun t cs hq => ?_
      rcases fbH_get hq with ⟨_, q⟩ | ⟨hne, b0, q1, q2⟩
      · cases q
      · cases b0 <;> simp [fbB] at q2
        obtain ⟨rfl, rfl⟩ := q2
        obtain ⟨c, h1, h2⟩ := h _ _ q1
        exact ⟨c, by unfold clrF; rw [if_neg hne]; exact h1, h2⟩
  | ep h0 hid h =>
    refine .ep h0 (by rw [fbH_len]; exact hid) fun e' nb' rs hq => ?_
    rcases fbH_get hq with ⟨_, q⟩ | ⟨hne, b0, q1, q2⟩
    · cases q
    · cases b0 <;> simp [fbB] at q2
      obtain ⟨rfl, rfl, rfl⟩ := q2
      obtain ⟨h1, h2⟩ := h _ _ _ q1
      refine ⟨by simpa using h1, fun q => ?_⟩
      obtain ⟨c, h3, h4⟩ := h2 (by simpa using q)
      exact ⟨c, by unfold clrF; rw [if_neg hne]; exact h3, h4⟩
  | @os id0 _ _ h0 hid h =>
    refine .os h0 (by rw [fbH_len]; exact hid) fun e' nb' rs hq => ?_
    rcases fbH_get hq with ⟨_, q⟩ | ⟨hne, b0, q1, q2⟩
    · cases q
    · cases b0 <;> simp [fbB] at q2
      obtain ⟨rfl, rfl, rfl⟩ := q2
      obtain ⟨h1, h2⟩ := h _ _ _ q1
      refine ⟨by simpa using h1, fun q => ?_⟩
      have e : clrF φ id id0 = φ id0 := by unfold clrF; rw [if_neg hne]
      rw [e]
      exact h2 (by simpa using q)
  | @ow id0 _ _ _ _ h0 hid h =>
    refine .ow h0 (by rw [fbH_len]; exact hid) fun e' nb' rs hq => ?_
    rcases fbH_get hq with ⟨_, q⟩ | ⟨hne, b0, q1, q2⟩
    · cases q
    · cases b0 <;> simp [fbB] at q2
      obtain ⟨rfl, rfl, rfl⟩ := q2
      obtain ⟨h1, h2⟩ := h _ _ _ q1
      refine ⟨by simpa using h1, fun q => ?_⟩
      have e : clrF φ id id0 = φ id0 := by unfold clrF; rw [if_neg hne]
      rw [e]
      exact h2 (by simpa using q)
  | mp h0 hid h =>
    refine .mp h0 (by rw [fbH_len]; exact hid) fun es hq => ?_
    rcases fbH_get hq with ⟨_, q⟩ | ⟨hne, b0, q1, q2⟩
    · cases q
    · cases b0 <;> simp [fbB] at q2
      obtain ⟨c, h1, h2⟩ := h _ q1
      exact ⟨c, by unfold clrF; rw [if_neg hne]; exact h1, h2⟩
  | ent h0 hid h =>
    refine .ent h0 (by rw [fbH_len]; exact hid) fun es hq => ?_
    rcases fbH_get hq with ⟨_, q⟩ | ⟨hne, b0, q1, q2⟩
    · cases q
    · cases b0 <;> simp [fbB] at q2
      obtain ⟨c, ents, clock, ent, h1, h2⟩ := h _ q1
      exact ⟨c, ents, clock, ent, by unfold clrF; rw [if_neg hne]; exact h1, h2⟩
  | it h0 hid h =>
    refine .it h0 (by rw [fbH_len]; exact hid) fun d n s hq => ?_
    rcases fbH_get hq with ⟨_, q⟩ | ⟨hne, b0, q1, q2⟩
    · cases q
    · cases b0 <;> simp [fbB] at q2
      obtain ⟨c, h1, h2⟩ := h _ _ _ q1
      exact ⟨c, by unfold clrF; rw [if_neg hne]; exact h1, h2⟩
  | agg hl h1 _ ih =>
    refine .agg (by rw [fbL_len]; exact hl) h1 fun j x v hj hu => ?_
    rw [fbL_get, Option.map_eq_some_iff] at hj
    obtain ⟨x0, hj, rfl⟩ := hj
    exact ih j x0 v hj hu
  | tup hl _ ih =>
    refine .tup (by rw [fbL_len]; exact hl) fun j x v hj hu => ?_
    rw [fbL_get, Option.map_eq_some_iff] at hj
    obtain ⟨x0, hj, rfl⟩ := hj
    exact ih j x0 v hj hu
  | fn hl _ ih =>
    refine .fn (by rw [fbL_len]; exact hl) fun j x v hj hu => ?_
    rw [fbL_get, Option.map_eq_some_iff] at hj
    obtain ⟨x0, hj, rfl⟩ := hj
    exact ih j x0 v hj hu
theorem fb_turn : Turn w φ H w (clrF φ id) (fbH id cs H) where
  size := Nat.le_refl _
  len := by rw [fbH_len]; exact Nat.le_refl _
  old := fun b h _ => ⟨rfl, fun i q => h i (clrF_some q).2⟩
  box := fun i t cs' _ h => by
    rcases fbH_get h with ⟨_, q⟩ | ⟨hne, b0, q1, q2⟩
    · cases q
    · cases b0 <;> simp [fbB] at q2
      obtain ⟨rfl, rfl⟩ := q2
      exact ⟨_, q1, fun c hc => by unfold clrF; rw [if_neg hne]; exact hc⟩
  row := fun i e' nb' rows' _ h => by
    rcases fbH_get h with ⟨_, q⟩ | ⟨hne, b0, q1, q2⟩
    · cases q
    · cases b0 <;> simp [fbB] at q2
      obtain ⟨rfl, rfl, rfl⟩ := q2
      have hi : clrF φ id i = φ i := by unfold clrF; rw [if_neg hne]
      exact ⟨_, q1, by simp, fun _ => ⟨fun _ h => by rw [hi]; exact h, fun c hc => ⟨by rw [hi]; exact hc, fun cur hcur => ⟨cur, hcur, rfl⟩⟩⟩⟩
  map := fun i es' _ h => by
    rcases fbH_get h with ⟨_, q⟩ | ⟨hne, b0, q1, q2⟩
    · cases q
    · cases b0 <;> simp [fbB] at q2
      exact ⟨_, q1, fun c hc => ⟨by unfold clrF; rw [if_neg hne]; exact hc, bornK_same rfl⟩⟩
  iter := fun i d n s _ h => by
    rcases fbH_get h with ⟨_, q⟩ | ⟨hne, b0, q1, q2⟩
    · cases q
    · cases b0 <;> simp [fbB] at q2
      exact ⟨_, _, _, q1, fun c hc => by unfold clrF; rw [if_neg hne]; exact hc⟩
theorem fb_hr (hr : HR P w0 X w φ H) (hb : H[id]? = some (.box t cs)) (ho : ∀ c ∈ cs, owns c = false) : HR P w0 X w (clrF φ id) (fbH id cs H) := by
  refine ⟨hr.vo, hr.fr, ext_turn hr (fb_turn (id := id) (cs := cs)), fun i c hc => ?_, fun i j c hi hj => hr.inj i j c (clrF_some hi).2 (clrF_some hj).2, fun i b c hi hc => ?_⟩
  · have := hr.own i c (clrF_some hc).2
    rw [fbH_len]; exact this
  · obtain ⟨hne, hc⟩ := clrF_some hc
    rcases fbH_get hi with ⟨q, _⟩ | ⟨_, b0, q1, rfl⟩
    · exact absurd q hne
    · have hbk := hr.blk i b0 c q1 hc
      cases b0 with
      | box t cs =>
        obtain ⟨cur, h1, h2, h3⟩ := hbk
        refine ⟨cur, h1, by rw [fbL_len]; exact h2, fun j x v hj hu => ?_⟩
        rw [fbL_get, Option.map_eq_some_iff] at hj
        obtain ⟨x0, hj, rfl⟩ := hj
        exact ⟨fb_rv hr hb ho (h3 j x0 v hj hu).1, (h3 j x0 v hj hu).2⟩
      | row e' nb' rs =>
        obtain ⟨cur, h1, h2, h3, h4⟩ := hbk
        refine ⟨cur, h1, fun row hrow => ?_, by simpa using h3, fun k j row x v hk hj hu => ?_⟩
        · obtain ⟨r0, hr0, rfl⟩ := List.mem_map.1 hrow
          rw [fbL_len]; exact h2 r0 hr0
        · rw [List.getElem?_map, Option.map_eq_some_iff] at hk
          obtain ⟨r0, hk, rfl⟩ := hk
          rw [fbL_get, Option.map_eq_some_iff] at hj
          obtain ⟨x0, hj, rfl⟩ := hj
          exact ⟨fb_rv hr hb ho (h4 k j r0 x0 v hk hj hu).1, (h4 k j r0 x0 v hk hj hu).2⟩
      | map es =>
        obtain ⟨ents, clock, h1, h2, h3, h4, h5⟩ := hbk
        refine ⟨ents, clock, h1, by simpa using h2, h3, h4, fun k kk x ent hk hu => ?_⟩
        rw [List.getElem?_map, Option.map_eq_some_iff] at hk
        obtain ⟨⟨k0, x0⟩, hk, q⟩ := hk
        simp at q
        obtain ⟨rfl, rfl⟩ := q
        obtain ⟨h6, h7⟩ := h5 k k0 x0 ent hk hu
        exact ⟨fb_rv hr hb ho h6, fb_rv hr hb ho h7⟩
      | gone => trivial
      | iter d n s =>
        cases d with
        | none => exact hbk
        | some mid =>
          obtain ⟨d, since, seenA, stepped, B, k1, k2, k3, k4, k5, k6, k7, k8⟩ := hbk
          refine ⟨d, since, seenA, stepped, B, k1, k2, k3, k4, k5, k6, by rw [fbH_len]; exact k7, fun es hes => ?_⟩
          rcases fbH_get hes with ⟨_, q⟩ | ⟨hne2, b1, q1, q2⟩
          · cases q
          · cases b1 <;> simp [fbB] at q2
            obtain ⟨r1, r2⟩ := k8 _ q1
            exact ⟨by unfold clrF; rw [if_neg hne2]; exact r1, r2⟩
theorem weak_frb {L : Nat} {s : St} (id : Nat) (t : TypeId) (cs : List AV) (hb : s.H[id]? = some (.box t cs)) (ho : ∀ c ∈ cs, owns c = false) :
    Weak P L s ⟨s.T.map fun p => (p.1, fbA id cs p.2), fbH id cs s.H⟩ := by
  intro B w0 X N φ a w hB hrel
  exact ⟨_, fb_hr hrel.hr hb ho, hrel.tn.trans fb_turn, fun k => by rw [tget_fbT]; exact fb_rv hrel.hr hb ho (hrel.t k), hrel.size, hrel.df.turn (fb_turn (cs := cs) (H := s.H) (id := id) (φ := φ) (w := w))⟩
theorem frb_G {g : FuncId} {args : List AV} {K : AV → List Blk → Prop} (hb : H[id]? = some (.box t cs)) (ho : ∀ c ∈ cs, owns c = false) (h : CallG P g (fbL id cs args) (fbH id cs H) K) : CallG P g args H K :=
  ⟨h.1, fun w0 w X φ vs hr hl hv => (h.2 w0 w X (clrF φ id) vs (fb_hr hr hb ho) (by rw [fbL_len]; exact hl) (fun j x v hj hu => by
      rw [fbL_get, Option.map_eq_some_iff] at hj
      obtain ⟨x0, hj, rfl⟩ := hj
      exact fb_rv hr hb ho (hv j x0 v hj hu))).mono fun e w' ⟨v, r, φ', H', k1, k2, k3, k4, k5⟩ => ⟨v, r, φ', H', k1, k2, fb_turn.trans k3, k4, k5⟩⟩
end
end Go.Proofs.YthemglpccpjokaaGreat
namespace Go.Proofs.YthemglpccpjokaaGreat
open Go.RowKit
variable [Glob]
def Keep (Z : Nat → Prop) (W : World) (Z' : Nat → Prop) (W' : World) : Prop := W.heap.size ≤ W'.heap.size ∧ ∀ b, ¬ Z b → b < W.heap.size → W'.heap[b]? = W.heap[b]? ∧ ¬ Z' b
def IterOk (P : Program) (f : FuncId) (caps : List AV) (n : Nat) (asg : Nat → AV) : Prop :=
  entersB P f = true ∧ ∀ (l : Nat) (W : World) (Z : Nat → Prop) (vs : Array Value) (J : Nat → (Nat → Prop) → World → Prop) (Jx : World → Prop),
    vs.size = caps.length → (∀ (j : Nat) x v, caps[j]? = some x → vs[j]? = some v → RO W Z x v) → J 0 Z W →
    (∀ k Z W, J k Z W → (∀ b, Z b → b < W.heap.size) ∧ VarsOk W Z) →
    (∀ k Z W W', J k Z W → Below W.heap.size W W' → J k Z W') →
    (∀ W W', Jx W → Below W.heap.size W W' → Jx W') →
    (∀ k Z W v, k < n → J k Z W → RO W Z (asg k) v → YieldAt Fence.wide 0 P l #[v] W fun e W' =>
      (e = .returned (.bool true) ∧ ∃ Z', J (k + 1) Z' W' ∧ Keep Z W Z' W') ∨ (e = .returned (.bool false) ∧ Jx W')) →
    Calls P f (#[.func (.yield l) #[] #[]] ++ vs) W fun e W' => (∃ v, e = .returned v) ∧ ((∃ Z', J n Z' W') ∨ Jx W')
omit [Glob] in
theorem Marks.but {w w' : World} {φ : Nat → Option Nat} {n m r : Nat} {nm : Bool} {ds : List Deferred} (h : Marks w φ n m nm ds) (hb : But r w w') {x : Loop} (hl : w.heap[r]? = some (.loop x)) : Marks w' φ n m nm ds := by
  obtain ⟨ms, h1, h2, h3⟩ := h
  refine ⟨ms, h1, h2, fun q hq => ?_⟩
  obtain ⟨k1, k2, k3, k4, k5⟩ := h3 q hq
  exact ⟨k1, k2, by rw [hb.size]; exact k3, (hb.same q fun e => by rw [e, hl] at k4; cases k4).trans k4, k5⟩
def rngA (P : Program) (L0 : Nat) (body : Code) (Hk : List Blk) (Q' : Ex → St → Prop) : Ex → St → Prop
  | .normal, s1 => s1.H = Hk ∧ run P L0 [.code body] s1 Q'
  | _, _ => False
def rngQ (P : Program) (L0 : Nat) (Q : Ex → St → Prop) (T : List (Nat × AV)) (I' : Prop) (H' : List Blk) : Ex → St → Prop
  | .normal, s2 => I' ∧ ∃ s3, Weak P L0 s2 s3 ∧ s3.H = H'
  | .ret, s2 => Q .ret ⟨T, s2.H⟩
  | .exit _, _ => False
section
variable {P : Program} {L : Nat} {s : St} {Q : Ex → St → Prop} {k : List Item}
theorem rngA_n {L0 : Nat} {body : Code} {Hk : List Blk} {Q' : Ex → St → Prop} {s1 : St} : rngA P L0 body Hk Q' .normal s1 = (s1.H = Hk ∧ run P L0 [.code body] s1 Q') := rfl
theorem rngQ_n {L0 : Nat} {T : List (Nat × AV)} {I' : Prop} {H' : List Blk} {s2 : St} : rngQ P L0 Q T I' H' .normal s2 = (I' ∧ ∃ s3, Weak P L0 s2 s3 ∧ s3.H = H') := rfl
theorem rngQ_r {L0 : Nat} {T : List (Nat × AV)} {I' : Prop} {H' : List Blk} {s2 : St} : rngQ P L0 Q T I' H' .ret s2 = Q .ret ⟨T, s2.H⟩ := rfl
theorem rng_next {L0 : Nat} {T : List (Nat × AV)} {I' : Prop} {H' : List Blk} {s2 : St} (T' : List (Nat × AV)) (hi : I') (h : Weak P L0 s2 ⟨T', H'⟩) : rngQ P L0 Q T I' H' .normal s2 := ⟨hi, _, h, rfl⟩
theorem range_sound (hm : P.follows .mixedOrders = true) {g : Operand} {p : Nat} {assign body : Code} {f : FuncId} {caps : List AV} {n : Nat} {asg : Nat → AV} (hg : ev s.T g = .fn f caps) (hown : ownsL caps = false) (hI : IterOk P f caps n asg)
    (I : Nat → Prop) (Hs : Nat → List Blk) (hI0 : I 0) (h0 : Hs 0 = s.H) (hlen : ∀ k, (Hs k).length = s.H.length) (hnd : noDefC assign = true) (hnd2 : noDefC body = true)
    (hround : ∀ k, k < n → I k → vc P s.H.length assign ⟨tput s.T p (asg k), Hs k⟩ fun e s1 => match e with
      | .normal => s1.H = Hs k ∧ vc P s.H.length body s1 (rngQ P s.H.length Q s.T (I (k + 1)) (Hs (k + 1)))
      | _ => False)
    (hend : I n → Q .normal ⟨s.T, Hs n⟩) : rangeD P L g #[p] assign body s Q := by
  intro B w0 X N φ a w hnm hpN hok1 hok2 hB hrel
  have hpN : p < N := by simpa using hpN
  refine wpIn_rangeFunc ?_
  intro fn hfn
  have hcl := ev_rel hrel.hr hrel.t g
  rw [hg] at hcl
  obtain ⟨vs, k1, k2, k3⟩ := hcl.fn_inv
  obtain ⟨rec, hrec⟩ : ∃ rec : LoopState → Option Code → Loop, rec = fun st pe => { state := st, pending := pe, fn, tmps := a.tmps, params := #[p], assign := unm assign, body := unm body, defers := w.heap.size } := ⟨_, rfl⟩
  obtain ⟨W1, hW1⟩ : ∃ W1, (w.alloc (.deferred (some []))).alloc (.loop (rec .ready none)) = W1 := ⟨_, rfl⟩
  have hL1 : W1.heap[w.heap.size + 1]? = some (.loop (rec .ready none)) := by
    rw [← hW1]; have := World.alloc_heap_new (w.alloc (.deferred (some []))) (.loop (rec .ready none)); rwa [World.size_alloc] at this
  have hK1 : W1.heap[w.heap.size]? = some (.deferred (some [])) := by
    rw [← hW1]; exact (Below.heap_alloc _ _ _ (by simp)).trans (World.alloc_heap_new w _)
  have hbel : Below w.heap.size w W1 := by
    rw [← hW1]; exact ((Below.refl _ w).alloc (Nat.le_refl _) _).alloc (by simp) _
  have hsz1 : w.heap.size < W1.heap.size := (Array.getElem?_eq_some_iff.1 hK1).1
  have hw0 : w0.heap.size ≤ w.heap.size := hrel.hr.fr.size
  have hBw : B.w.heap.size ≤ w.heap.size := hrel.tn.size
  obtain ⟨l, hl⟩ : ∃ l, l = w.heap.size + 1 := ⟨_, rfl⟩
  rw [← hl] at hL1
  have hnl0 : ∀ b, w.heap.size ≤ b → ∀ id, φ id ≠ some b := fun b hb id e => by have := (hrel.hr.own id b e).2.1; omega
  have hM1 : Marks W1 φ w0.heap.size B.lo B.nm (mark1 w.heap.size :: a.defers) := by
    obtain ⟨ms, q1, q2, q3⟩ := hrel.df.turn (turn_below hrel.hr hbel)
    obtain ⟨ms', q1', q2', q3'⟩ := hrel.df
    have hmm : ms = ms' := by
      have : ms.map mark1 = ms'.map mark1 := q1.symm.trans q1'
      have hinj : ∀ x y : Nat, mark1 x = mark1 y → x = y := fun x y e => by simpa [mark1] using e
      exact (List.map_inj_right hinj).1 this
    subst hmm
    refine ⟨w.heap.size :: ms, by simp [q1], ⟨List.nodup_cons.2 ⟨fun hin => by have := (q3' _ hin).2.2.1; omega, q2.1⟩, fun h => by rw [hnm] at h; cases h⟩, fun r hr => ?_⟩
    rcases List.mem_cons.1 hr with rfl | hr
    · exact ⟨hw0, Nat.le_trans B.hlo hBw, hsz1, hK1, hnl0 _ (Nat.le_refl _)⟩
    · exact q3 r hr
  refine ⟨l, [mark1 w.heap.size], W1, { target := .fn (.func f) vs, args := #[.func (.yield l) #[] #[]] }, W1, f,
    #[.func (.yield l) #[] #[]] ++ vs, W1, ?_, ?_, ?_, ?_, fun h => by simp [Fence.wide] at h, ?_⟩
  · rw [← hW1, hrec, hl]; exact run_enterLoop_outer _ _ _ _ _
  · simp only [resolve, k1]
    simp [go_sem]
  · intro f' _; trivial
  · simp [invoke, go_sem]
    exact run_callFunc hI.1 _ _
  · refine callsIn_wide.2 ?_
    refine (hI.2 l W1 (fun b => X b ∨ (∃ id, φ id = some b) ∨ b = l) vs
      (fun k Z W => I k ∧ ∃ φ', Z = (fun b => X b ∨ (∃ id, φ' id = some b) ∨ b = l) ∧ HR P w0 X W φ' (Hs k) ∧ Turn B.w B.φ B.H W φ' (Hs k) ∧ (∀ t, RV P W X φ' (Hs k) (tget s.T t) (a.tmps.getD t undef)) ∧
        Marks W φ' w0.heap.size B.lo B.nm (mark1 w.heap.size :: a.defers) ∧ W.heap[l]? = some (.loop (rec .ready none)) ∧ ∀ id, φ' id ≠ some l)
      (fun W => ∃ φ' H', Q .ret ⟨s.T, H'⟩ ∧ HR P w0 X W φ' H' ∧ Turn B.w B.φ B.H W φ' H' ∧ (∀ t, RV P W X φ' H' (tget s.T t) (a.tmps.getD t undef)) ∧
        Marks W φ' w0.heap.size B.lo B.nm (mark1 w.heap.size :: a.defers) ∧ W.heap[l]? = some (.loop (rec .done (some .ret))) ∧ ∀ id, φ' id ≠ some l)
      k2.symm (fun j x v hj hu => ?_) ?_ ?_ ?_ ?_ ?_).mono ?_
    · refine ((k3 j x v hj hu).ro_of (ownsL_get hown j x hj)).mono hbel.size fun b hb hlt => ⟨hbel.block b hlt, ?_⟩
      rintro (h | h | h)
      · exact hb (.inl h)
      · exact hb (.inr h)
      · omega
    · exact ⟨hI0, φ, rfl, by rw [h0]; exact hr_below hrel.hr hbel, by rw [h0]; exact hrel.tn.trans (turn_below hrel.hr hbel), fun t => by rw [h0]; exact (hrel.t t).turn (turn_below hrel.hr hbel), hM1, hL1, hnl0 l (by omega)⟩
    · rintro k Z W ⟨-, φ', rfl, hr, -, -, -, hll, -⟩
      refine ⟨?_, ?_⟩
      · rintro b (h | ⟨id, h⟩ | rfl)
        · exact (hr.ext b h).1
        · exact (hr.own id b h).2.1
        · exact (Array.getElem?_eq_some_iff.1 hll).1
      · have hva := hr.all
        refine ⟨fun g row hg => ?_, fun g cs hg => ?_⟩
        · have h1 := hr.vo.1 g row hg
          refine h1.mono hr.fr.size fun b hb hlt => ⟨hr.fr.block b hlt, ?_⟩
          rintro (h | ⟨id, h⟩ | h)
          · exact hb h
          · have := (hr.own id b h).1; omega
          · omega
        · obtain ⟨q1, q2, q3⟩ := hva.2 g cs hg
          have q0 := (hr.vo.2 g cs hg).1
          refine ⟨q1, ?_, q3⟩
          rintro (h | h | h)
          · exact q2 (.inl h)
          · exact q2 (.inr h)
          · omega
    · rintro k Z W W' ⟨hIk, φ', rfl, hr, ht, hT, hM, hll, hnl⟩ hb
      have htb := turn_below hr hb
      exact ⟨hIk, φ', rfl, hr_below hr hb, ht.trans htb, fun t => (hT t).turn htb, hM.turn htb, (hb.block l (Array.getElem?_eq_some_iff.1 hll).1).trans hll, hnl⟩
    · rintro W W' ⟨φ', H', hQ, hr, ht, hT, hM, hll, hnl⟩ hb
      have htb := turn_below hr hb
      exact ⟨φ', H', hQ, hr_below hr hb, ht.trans htb, fun t => (hT t).turn htb, hM.turn htb, (hb.block l (Array.getElem?_eq_some_iff.1 hll).1).trans hll, hnl⟩
    · rintro k Z W v hk ⟨hIk, φ', rfl, hr, ht, hT, hM, hll, hnl⟩ hv
      have hlt : l < W.heap.size := (Array.getElem?_eq_some_iff.1 hll).1
      have hy := run_yield (P := P) (args := #[v]) hll (by rw [hrec]; rfl)
      rw [hrec] at hy
      refine ⟨fn, _, unm assign, unm body, hy, roundIn_of_wpIn hfn ?_⟩
      have hrel0 : Rel P ⟨W, φ', Hs k, 0, Nat.zero_le _, true⟩ w0 X N ⟨tput s.T p (asg k), Hs k⟩ φ' { tmps := a.tmps.setIfInBounds p v, defers := [] } W := by
        refine ⟨hr, Turn.refl _ _ _, fun t => ?_, by simpa using hrel.size, Marks.nil⟩
        rw [tget_tput]
        by_cases ht : p = t
        · subst ht
          rw [if_pos rfl, show (a.tmps.setIfInBounds p v).getD p undef = v by simp [Array.getD_eq_getD_getElem?, hrel.size, hpN]]
          refine .ro (hv.mono (Nat.le_refl _) fun b hb _ => ⟨rfl, ?_⟩)
          rintro (h | h)
          · exact hb (.inl h)
          · exact hb (.inr (.inl h))
        · rw [if_neg ht, show (a.tmps.setIfInBounds p v).getD t undef = a.tmps.getD t undef by simp [Array.getD_eq_getD_getElem?, Array.getElem?_setIfInBounds, ht]]
          exact hT t
      have hs0 := vc_sound_r (L := s.H.length) hm (by simp [hlen]) (some l) assign _ _ φ' _ W (.inr hnd) hok1 (hround k hk hIk) hrel0
      have htm : (#[p].zip #[v]).foldl (fun tmps (t, a) => tmps.setIfInBounds t a) a.tmps = a.tmps.setIfInBounds p v := by simp
      refine wpIn_mono (F := fenceR (some l)) (by simpa using hs0) ?_
      intro e a1 w1 hq
      cases e with
      | normal =>
        obtain ⟨s1, φ1, ⟨e1, hbody⟩, hrel1⟩ := hq
        have hll1 : w1.heap[l]? = some (.loop (rec .ready none)) := (hrel1.tn.old l hnl hlt).1.trans hll
        have hnl1 : ∀ id, φ1 id ≠ some l := (hrel1.tn.old l hnl hlt).2
        have hlt1 : l < w1.heap.size := (Array.getElem?_eq_some_iff.1 hll1).1
        refine ⟨_, run_beginRound hll1 (by rw [hrec]), ?_⟩
        have hbut := but_put hll1 rfl (.loop { rec .ready none with state := .busy })
        have hrel2 : Rel P ⟨w1.putObj l (.loop { rec .ready none with state := .busy }), φ1, s1.H, 0, Nat.zero_le _, true⟩ w0 X N s1 φ1 a1 (w1.putObj l (.loop { rec .ready none with state := .busy })) :=
          ⟨hbut.hr hnl1 (by omega) hrel1.hr, Turn.refl _ _ _, fun t => hbut.rv hnl1 (hrel1.t t), hrel1.size, hrel1.df.but hbut hll1⟩
        have hll2 : (w1.putObj l (.loop { rec .ready none with state := .busy })).heap[l]? = some (.loop { rec .ready none with state := .busy }) := World.putObj_heap_same hlt1
        have hlt2 : l < (w1.putObj l (.loop { rec .ready none with state := .busy })).heap.size := by rw [hbut.size]; exact hlt1
        have hs1 := vc_sound_r (L := s.H.length) hm (by rw [e1, hlen]; exact Nat.le_refl _) (some l) body s1 _ φ1 a1 _ (.inr hnd2) hok2 hbody hrel2
        refine wpIn_mono (F := fenceR (some l)) hs1 ?_
        have fin : ∀ (jump : Option Code) (w3 : World) (φ3 : Nat → Option Nat) (H3 : List Blk), HR P w0 X w3 φ3 H3 → Turn (w1.putObj l (.loop { rec .ready none with state := .busy })) φ1 s1.H w3 φ3 H3 →
            (Instr.endRound l jump).run P w3 = .ok (.bool jump.isNone) (w3.putObj l (.loop (rec (if jump.isNone then .ready else .done) jump))) ∧
            HR P w0 X (w3.putObj l (.loop (rec (if jump.isNone then .ready else .done) jump))) φ3 H3 ∧ Turn B.w B.φ B.H (w3.putObj l (.loop (rec (if jump.isNone then .ready else .done) jump))) φ3 H3 ∧
            (∀ t, RV P (w3.putObj l (.loop (rec (if jump.isNone then .ready else .done) jump))) X φ3 H3 (tget s.T t) (a.tmps.getD t undef)) ∧
            Marks (w3.putObj l (.loop (rec (if jump.isNone then .ready else .done) jump))) φ3 w0.heap.size B.lo B.nm (mark1 w.heap.size :: a.defers) ∧
            (w3.putObj l (.loop (rec (if jump.isNone then .ready else .done) jump))).heap[l]? = some (.loop (rec (if jump.isNone then .ready else .done) jump)) ∧ (∀ id, φ3 id ≠ some l) ∧
            Keep (fun b => X b ∨ (∃ id, φ' id = some b) ∨ b = l) W (fun b => X b ∨ (∃ id, φ3 id = some b) ∨ b = l) (w3.putObj l (.loop (rec (if jump.isNone then .ready else .done) jump))) := by
          intro jump w3 φ3 H3 hr3 ht3
          have hll3 : w3.heap[l]? = some (.loop { rec .ready none with state := .busy }) := (ht3.old l hnl1 hlt2).1.trans hll2
          have hnl3 : ∀ id, φ3 id ≠ some l := (ht3.old l hnl1 hlt2).2
          have hlt3 : l < w3.heap.size := (Array.getElem?_eq_some_iff.1 hll3).1
          have hbut3 := but_put hll3 rfl (.loop (rec (if jump.isNone then .ready else .done) jump))
          have hend := run_endRound (P := P) jump hll3
          have hreq : ({ ({ rec .ready none with state := .busy } : Loop) with state := if jump.isNone then .ready else .done, pending := jump } : Loop) = rec (if jump.isNone then .ready else .done) jump := by rw [hrec]
          rw [hreq] at hend
          refine ⟨hend, hbut3.hr hnl3 (by omega) hr3, hbut3.turn hnl3 (by omega) ((hbut.turn hnl1 (by omega) (ht.trans hrel1.tn)).trans ht3), fun t => hbut3.rv hnl3 ((hbut.rv hnl1 ((hT t).turn hrel1.tn)).turn ht3),
            (((hM.turn hrel1.tn).but hbut hll1).turn ht3).but hbut3 hll3, World.putObj_heap_same hlt3, hnl3, ?_, fun b hb hltb => ?_⟩
          · show W.heap.size ≤ (w3.putObj _ _).heap.size
            rw [hbut3.size]; exact Nat.le_trans hrel1.tn.size (Nat.le_trans (Nat.le_of_eq hbut.size.symm) ht3.size)
          · have hb1 : ∀ id, φ' id ≠ some b := fun id e => hb (.inr (.inl ⟨id, e⟩))
            have hbl : b ≠ l := fun e => hb (.inr (.inr e))
            obtain ⟨q1, q2⟩ := hrel1.tn.old b hb1 hltb
            obtain ⟨q3, q4⟩ := ht3.old b q2 (by rw [hbut.size]; exact Nat.lt_of_lt_of_le hltb hrel1.tn.size)
            refine ⟨(hbut3.same b hbl).trans (q3.trans ((hbut.same b hbl).trans q1)), ?_⟩
            rintro (h | ⟨id, h⟩ | h)
            · exact hb (.inl h)
            · exact q4 id h
            · exact hbl h
        intro e a3 w3 hq
        cases e with
        | normal =>
          obtain ⟨s2, φ2, ⟨hIn, s3, hW, hH3⟩, hrel3⟩ := hq
          obtain ⟨φ3, hrel4⟩ := hW _ w0 X N φ2 a3 w3 (by show s1.H.length ≤ _; rw [e1, hlen]; exact Nat.le_refl _) hrel3
          obtain ⟨f1, f2, f3, f4, f5, f6, f7, f8⟩ := fin none w3 φ3 s3.H hrel4.hr hrel4.tn
          rw [hH3] at f2 f3 f4
          exact ⟨_, _, f1, .inl ⟨rfl, _, ⟨hIn, φ3, rfl, f2, f3, f4, f5, f6, f7⟩, f8⟩⟩
        | ret =>
          obtain ⟨s2, φ2, hQ, hrel3⟩ := hq
          obtain ⟨f1, f2, f3, f4, f5, f6, f7, f8⟩ := fin (some .ret) w3 φ2 s2.H hrel3.hr hrel3.tn
          exact ⟨_, _, f1, .inr ⟨rfl, φ2, s2.H, hQ, f2, f3, f4, f5, f6, f7⟩⟩
        | exit id => obtain ⟨_, _, h, _⟩ := hq; exact h.elim
        | _ => exact hq.elim
      | exit id => obtain ⟨_, _, h, _⟩ := hq; exact h.elim
      | ret => obtain ⟨_, _, h, _⟩ := hq; exact h.elim
      | _ => exact hq.elim
    · rintro e W' ⟨⟨v, rfl⟩, h⟩
      rcases h with ⟨Z', hIn, φ', -, hr, ht, hT, hM, hll, hnl⟩ | ⟨φ', H', hQ, hr, ht, hT, hM, hll, hnl⟩
      · have hend' := run_endLoop (P := P) hll (by rw [hrec]; simp)
        have hbut := but_put hll rfl (.loop { rec .ready none with state := .exhausted })
        generalize W'.putObj l (.loop { rec .ready none with state := .exhausted }) = w4 at hend' hbut
        rw [show (rec .ready none).pending = none by rw [hrec]] at hend'
        refine ⟨none, w4, hend', ?_⟩
        exact ⟨⟨s.T, Hs n⟩, φ', hend hIn, hbut.hr hnl (by omega) hr, hbut.turn hnl (by omega) ht, fun t => hbut.rv hnl (hT t), hrel.size, hM.but hbut hll⟩
      · have hend' := run_endLoop (P := P) hll (by rw [hrec]; simp)
        have hbut := but_put hll rfl (.loop { rec .done (some .ret) with state := .exhausted })
        generalize W'.putObj l (.loop { rec .done (some .ret) with state := .exhausted }) = w4 at hend' hbut
        rw [show (rec .done (some .ret)).pending = some .ret by rw [hrec]] at hend'
        refine ⟨some .ret, w4, hend', ?_⟩
        exact wpIn_ret ⟨⟨s.T, H'⟩, φ', hQ, hbut.hr hnl (by omega) hr, hbut.turn hnl (by omega) ht, fun t => hbut.rv hnl (hT t), hrel.size, hM.but hbut hll⟩
theorem range_intro (hm : P.follows .mixedOrders = true) {g : Operand} {p : Nat} {assign body : Code} {f : FuncId} {caps : List AV} {n : Nat} {asg : Nat → AV} (hg : ev s.T g = .fn f caps) (hown : ownsL caps = false) (hI : IterOk P f caps n asg)
    (I : Nat → Prop) (Hs : Nat → List Blk) (hI0 : I 0) (h0 : Hs 0 = s.H) (hlen : ∀ k, (Hs k).length = s.H.length) (hnd : noDefC assign = true) (hnd2 : noDefC body = true)
    (hround : ∀ i, i < n → I i → run P s.H.length [.code assign] ⟨tput s.T p (asg i), Hs i⟩ (rngA P s.H.length body (Hs i) (rngQ P s.H.length Q s.T (I (i + 1)) (Hs (i + 1)))))
    (hend : I n → run P L k ⟨s.T, Hs n⟩ Q) : rngD P L g #[p] assign body k s Q := by
  refine range_sound (Q := fun e s' => runX P L k e s' Q) hm hg hown hI I Hs hI0 h0 hlen hnd hnd2 (fun i hi hIi => ?_) hend
  have h := hround i hi hIi
  have e1 : ∀ s2, (runX P L k .ret s2 Q) = Q .ret s2 := fun s2 => runX_ret k
  have : run P s.H.length [.code assign] ⟨tput s.T p (asg i), Hs i⟩ (rngA P s.H.length body (Hs i) (rngQ P s.H.length Q s.T (I (i + 1)) (Hs (i + 1)))) = vc P s.H.length assign ⟨tput s.T p (asg i), Hs i⟩ (fun e s1 => match e with
      | .normal => s1.H = Hs i ∧ vc P s.H.length body s1 (rngQ P s.H.length (fun e s' => runX P L k e s' Q) s.T (I (i + 1)) (Hs (i + 1)))
      | _ => False) := by
    refine vc_congr fun e s1 => ?_
    cases e with
    | normal =>
      show (s1.H = Hs i ∧ vc P s.H.length body s1 _) = (s1.H = Hs i ∧ vc P s.H.length body s1 _)
      congr 1
      refine vc_congr fun e s2 => ?_
      cases e with
      | normal => rfl
      | ret => exact (e1 _).symm
      | exit id => rfl
    | _ => rfl
  exact Eq.mp this h
end
end Go.Proofs.YthemglpccpjokaaGreat
namespace Go.Proofs.YthemglpccpjokaaGreat
open Go.RowKit
variable [Glob]
section
variable {P : Program}
theorem rv_nil {w : World} {X : Nat → Prop} {φ : Nat → Option Nat} (hφ : ∀ id, φ id = none) {x : AV} {v : Value} (h : RV P w X φ [] x v) : RO w X x v := by
  induction h with
  | ro h => exact h.mono (Nat.le_refl _) fun b hb _ => ⟨rfl, fun h => hb (.inl h)⟩
  | op _ hid => simp at hid
  | ep _ hid => simp at hid
  | os _ hid => simp at hid
  | ow _ hid => simp at hid
  | mp _ hid => simp at hid
  | ent _ hid => simp at hid
  | it _ hid => simp at hid
  | agg hl h1 _ ih => exact .agg hl h1 ih
  | tup hl _ ih => exact .tup hl ih
  | fn hl _ ih => exact .fn hl ih
theorem wpOp_move {F : Fence} {n : Nat} {ops : Array Oper} {Q : Exit → Act → World → Prop} {i : Nat} {o : Oper} {x : Operand} {K : Act → World → Prop} {a : Act} {w : World} (hro : F.round = none) (hi : ops[i]? = some o) (ho : o.op = .move x) (hg : o.guard = none)
    (h : K (a.put o.dst (a.eval x)) w) : wpOpIn F n P ops Q i K a w := by
  unfold wpOpIn
  simp only [hi]
  rw [if_pos (by simp [Region.wanted, hg])]
  refine ⟨fun f hf => by simp [Oper.about, ho] at hf, ?_⟩
  rw [hro, Oper.semAt_none, show (execOp a.eval o).run P w = .ok (.value (a.eval x)) w by simp [execOp, ho]]
  exact h
theorem wpOp_yield {n : Nat} {ops : Array Oper} {Q : Exit → Act → World → Prop} {i : Nat} {o : Oper} {f x : Operand} {ats : Array TypeId} {K : Act → World → Prop} {a : Act} {w : World} {l : Nat} (hi : ops[i]? = some o) (ho : o.op = .call ⟨.value f, #[x], ats⟩) (hg : o.guard = none) (hf : a.eval f = .func (.yield l) #[] #[])
    (h : YieldAt Fence.wide 0 P l #[a.eval x] w fun e w' => ∃ v, e = .returned v ∧ K (a.put o.dst v) w') : wpOpIn Fence.wide n P ops Q i K a w := by
  unfold wpOpIn
  simp only [hi]
  rw [if_pos (by simp [Region.wanted, hg])]
  refine ⟨fun _ _ => trivial, ?_⟩
  obtain ⟨fn, tmps, assign, body, hy, hR⟩ := h
  have hrun : (execOp a.eval o).run P w = .ok (.round l fn tmps assign body) w := by
    simp [execOp, ho, Sem.run_bind, resolve, hf, Deferred.ofValue, invoke, hy]
  show Oper.uponIn Fence.wide n P o a K Q ((execOp a.eval o).run P w)
  rw [hrun]
  refine ⟨fun h => by simp [Fence.wide] at h, ?_⟩
  have hR : RoundIn Fence.wide (n - 1) P l fn tmps assign body w _ := ⟨hR.1, fun c cs _ => hR.2 c cs (room_wide _)⟩
  refine hR.mono ?_
  rintro e w' ⟨v, rfl, hk⟩
  exact hk
theorem iter_of (hm : P.follows .mixedOrders = true) {f : FuncId} {fn : Func} {A R : Code} {o0 o1 o2 : Oper} {i0 r1 v b d0 d1 : Nat} {ats : Array TypeId} {c : AV} {n : Nat} {asg : Nat → AV}
    (hf : P.funcs[f]? = some fn) (he : entersB P f = true)
    (hb : fn.body = some (.seq A (.block i0 (.loop (.seq (.seq (.region r1 #[o0, o1, o2] false) (.cond (.tmp b) .skip (.exit i0))) R)))))
    (ho0 : o0.op = .move (.tmp 0)) (hd0 : o0.dst = some d0) (hg0 : o0.guard = none)
    (ho1 : o1.op = .move (.tmp v)) (hd1 : o1.dst = some d1) (hg1 : o1.guard = none)
    (ho2 : o2.op = .call ⟨.value (.tmp d0), #[.tmp d1], ats⟩) (hd2 : o2.dst = some b) (hg2 : o2.guard = none)
    (hres : fn.results = #[]) (hnum : (decide (v < fn.ntmps) && decide (d0 < fn.ntmps) && decide (d1 < fn.ntmps) && decide (b < fn.ntmps) && decide (2 ≤ fn.ntmps) && decide (1 < d0) && decide (1 < d1) && decide (1 < b) && decide (1 < v) && decide (v ≠ d0) && decide (v ≠ d1) && decide (v ≠ b) && decide (d0 ≠ d1)) = true)
    (hokA : (noDefC A && okM fn.ntmps A) = true) (huA : unm A = A) (hokR : (noDefC R && okM fn.ntmps R) = true) (huR : unm R = R) (hn : 0 < n)
    (hA : ∀ l, vc P 0 A ⟨argT 0 [.yl l, c], []⟩ fun e s => match e with | .normal => Weak P 0 s ⟨[(0, .yl l), (1, c), (v, asg 0)], []⟩ | _ => False)
    (hR : ∀ l k, k < n → vc P 0 R ⟨[(0, .yl l), (1, c), (v, asg k)], []⟩ fun e s => match e with | .normal => k + 1 < n ∧ Weak P 0 s ⟨[(0, .yl l), (1, c), (v, asg (k + 1))], []⟩ | .ret => k + 1 = n | _ => False) :
    IterOk P f [c] n asg := by
  simp only [Bool.and_eq_true, decide_eq_true_eq] at hnum hokA hokR
  obtain ⟨⟨⟨⟨⟨⟨⟨⟨⟨⟨⟨⟨n1, n2⟩, n3⟩, n4⟩, n5⟩, n6⟩, n7⟩, n8⟩, n9⟩, n10⟩, n11⟩, n12⟩, n13⟩ := hnum
  refine ⟨he, fun l W Z vs J Jx hsz hcaps hJ0 hJZ hJb hJxb hY => ?_⟩
  refine callsIn_wide.1 (callsIn_of_wp (F := Fence.wide) (n := 0) hf hb trivial ?_)
  have hvs : vs.size = 1 := by simpa using hsz
  -- a state in which nothing is owned
  have hr0 : ∀ {k Z W}, J k Z W → HR P W Z W (fun _ => none) [] := fun {k Z W} h => ⟨(hJZ k Z W h).2, Below.refl _ _, fun b hb => ⟨(hJZ k Z W h).1 b hb, by simp⟩, fun _ _ h => by simp at h, fun _ _ _ h => by simp at h, fun _ _ _ h => by simp at h⟩
  -- what a walk leaves
  have hend : ∀ {T : List (Nat × AV)} {φ : Nat → Option Nat} {a : Act} {W W' : World} {Z : Nat → Prop}, Rel P ⟨W, fun _ => none, [], 0, Nat.zero_le _, true⟩ W Z fn.ntmps ⟨T, []⟩ φ a W' →
      a.defers = [] ∧ Below W.heap.size W W' ∧ a.tmps.size = fn.ntmps ∧ ∀ t, RO W' Z (tget T t) (a.tmps.getD t undef) := fun {T φ a W W' Z} h => by
    have hφ : ∀ id, φ id = none := fun id => by
      cases hi : φ id with
      | none => rfl
      | some c => have := (h.hr.own id c hi).2.2; simp at this
    obtain ⟨ms, q1, q2, _⟩ := h.df
    exact ⟨by rw [q1, q2.2 rfl]; rfl, h.hr.fr, h.size, fun t => rv_nil hφ (h.t t)⟩
  have hrelA : Rel P ⟨W, fun _ => none, [], 0, Nat.zero_le _, true⟩ W Z fn.ntmps ⟨argT 0 [.yl l, c], []⟩ (fun _ => none) { tmps := (#[.func (.yield l) #[] #[]] ++ vs) ++ Array.replicate (fn.ntmps - (#[Value.func (.yield l) #[] #[]] ++ vs).size) undef, defers := [] } W := by
    refine ⟨hr0 hJ0, Turn.refl _ _ _, start_t (by simpa using n5) (by simp [hvs]) fun j x u hx hu => ?_, by simp [hvs]; omega, Marks.nil⟩
    match j with
    | 0 =>
      have hu : Value.func (.yield l) #[] #[] = u := by simpa [Array.getElem?_append] using hu
      simp at hx; subst hx; subst hu; exact .ro .yl
    | j + 1 =>
      refine .ro ((hcaps j x u (by simpa using hx) (by simpa [Array.getElem?_append] using hu)).mono (Nat.le_refl _) fun b hb _ => ⟨rfl, fun h => h.elim hb fun ⟨id, h⟩ => by simp at h⟩)
  have hsA := vc_sound_r (L := 0) hm (Nat.le_refl _) none A _ _ _ _ _ (.inr hokA.1) hokA.2 (hA l) hrelA
  rw [huA] at hsA
  refine wpIn_seq (wpIn_mono hsA fun e a1 W1 hq => ?_)
  cases e with
  | normal =>
    obtain ⟨s1, φ1, hW1, hrel1⟩ := hq
    obtain ⟨φ2, hrel2⟩ := hW1 _ W Z fn.ntmps φ1 a1 W1 (Nat.le_refl _) hrel1
    obtain ⟨e1, e2, e3, e4⟩ := hend hrel2
    refine wpIn_block ?_
    refine wpIn_loop_n (fun m a w => ∃ k Z, k < n ∧ m = n - k ∧ J k Z w ∧ a.defers = [] ∧ a.tmps.size = fn.ntmps ∧ ∀ t, RO w Z (tget [(0, .yl l), (1, c), (v, asg k)] t) (a.tmps.getD t undef)) (n := n) ⟨0, Z, hn, rfl, hJb 0 Z W W1 hJ0 e2, e1, e3, e4⟩ ?_
    rintro m a w ⟨k, Z, hk, rfl, hJ, hdf, hsize, hT⟩
    have hy0 : a.eval (.tmp 0) = .func (.yield l) #[] #[] := by
      have := hT 0
      simp only [tget, if_true] at this
      show a.tmps.getD 0 undef = _
      generalize a.tmps.getD 0 undef = u at this
      cases this; rfl
    have hyv : RO w Z (asg k) (a.eval (.tmp v)) := by
      have := hT v
      rw [show tget [(0, .yl l), (1, c), (v, asg k)] v = asg k by simp [tget, show ¬ 0 = v by omega, show ¬ 1 = v by omega]] at this
      exact this
    refine wpIn_seq (wpIn_seq (wpIn_region ?_))
    rw [show List.range (#[o0, o1, o2] : Array Oper).size = [0, 1, 2] from rfl, wpOpsIn_cons]
    refine wpOp_move rfl (o := o0) rfl ho0 hg0 ?_
    rw [hd0, hy0, wpOpsIn_cons]
    refine wpOp_move rfl (o := o1) rfl ho1 hg1 ?_
    have hv1 : (a.put (some d0) (.func (.yield l) #[] #[])).eval (.tmp v) = a.eval (.tmp v) := by
      simp [Act.eval, Act.put, Array.getD_eq_getD_getElem?, Array.getElem?_setIfInBounds, show ¬ d0 = v from fun e => n10 e.symm]
    rw [hd1, hv1, wpOpsIn_cons]
    have hf2 : ((a.put (some d0) (.func (.yield l) #[] #[])).put (some d1) (a.eval (.tmp v))).eval (.tmp d0) = .func (.yield l) #[] #[] := by
      simp [Act.eval, Act.put, Array.getD_eq_getD_getElem?, Array.getElem?_setIfInBounds, show ¬ d1 = d0 from fun e => n13 e.symm, hsize, n2]
    have hx2 : ((a.put (some d0) (.func (.yield l) #[] #[])).put (some d1) (a.eval (.tmp v))).eval (.tmp d1) = a.eval (.tmp v) := by
      simp [Act.eval, Act.put, Array.getD_eq_getD_getElem?, Array.getElem?_setIfInBounds, hsize, n3]
    refine wpOp_yield (o := o2) rfl ho2 hg2 hf2 ?_
    rw [hx2, hd2]
    have hkeepT : ∀ (u : Value) t, t = 0 ∨ t = 1 ∨ t = v → (((a.put (some d0) (.func (.yield l) #[] #[])).put (some d1) (a.eval (.tmp v))).put (some b) u).tmps.getD t undef = a.tmps.getD t undef := fun u t ht => by
      have q0 : ¬ d0 = t := by omega
      have q1 : ¬ d1 = t := by omega
      have q2 : ¬ b = t := by omega
      simp [Act.put, Array.getD_eq_getD_getElem?, Array.getElem?_setIfInBounds, q0, q1, q2]
    have hb3 : ∀ (u : Value), (((a.put (some d0) (.func (.yield l) #[] #[])).put (some d1) (a.eval (.tmp v))).put (some b) u).eval (.tmp b) = u := fun u => by
      simp [Act.eval, Act.put, Array.getD_eq_getD_getElem?, Array.getElem?_setIfInBounds, hsize, n4]
    have hd3 : ∀ (u : Value), (((a.put (some d0) (.func (.yield l) #[] #[])).put (some d1) (a.eval (.tmp v))).put (some b) u).defers = [] := fun u => by simpa [Act.put] using hdf
    have hs3 : ∀ (u : Value), (((a.put (some d0) (.func (.yield l) #[] #[])).put (some d1) (a.eval (.tmp v))).put (some b) u).tmps.size = fn.ntmps := fun u => by simpa [Act.put] using hsize
    refine (hY k Z w _ hk hJ hyv).mono ?_
    rintro e w' (⟨rfl, Z', hJ', hkeep⟩ | ⟨rfl, hJx⟩)
    · refine ⟨_, rfl, ?_⟩
      show Code.wpIn Fence.wide 0 P _ _ _ _
      refine wpIn_cond (t := true) (hb3 _) ?_
      refine wpIn_skip ?_
      have hT' : ∀ t, RO w' Z' (tget [(0, .yl l), (1, c), (v, asg k)] t) ((((a.put (some d0) (.func (.yield l) #[] #[])).put (some d1) (a.eval (.tmp v))).put (some b) (.bool true)).tmps.getD t undef) := fun t => by
        by_cases ht : t = 0 ∨ t = 1 ∨ t = v
        · rw [hkeepT _ t ht]
          exact (hT t).mono hkeep.1 hkeep.2
        · have : tget [(0, .yl l), (1, c), (v, asg k)] t = .any := by
            simp [tget, show ¬ 0 = t by omega, show ¬ 1 = t by omega, show ¬ v = t by omega]
          rw [this]; exact .any
      have hrelR : Rel P ⟨w', fun _ => none, [], 0, Nat.zero_le _, true⟩ w' Z' fn.ntmps ⟨[(0, .yl l), (1, c), (v, asg k)], []⟩ (fun _ => none) (((a.put (some d0) (.func (.yield l) #[] #[])).put (some d1) (a.eval (.tmp v))).put (some b) (.bool true)) w' :=
        ⟨hr0 hJ', Turn.refl _ _ _, fun t => .ro ((hT' t).mono (Nat.le_refl _) fun b hb _ => ⟨rfl, fun h => Or.elim h hb fun ⟨id, h⟩ => by simp at h⟩), hs3 _, by rw [hd3]; exact Marks.nil⟩
      have hsR := vc_sound_r (L := 0) hm (Nat.le_refl _) none R _ _ _ _ _ (.inr hokR.1) hokR.2 (hR l k hk) hrelR
      rw [huR] at hsR
      refine wpIn_mono hsR fun e a4 w4 hq => ?_
      cases e with
      | normal =>
        obtain ⟨s4, φ4, ⟨hk4, hW4⟩, hrel4⟩ := hq
        obtain ⟨φ5, hrel5⟩ := hW4 _ w' Z' fn.ntmps φ4 a4 w4 (Nat.le_refl _) hrel4
        obtain ⟨e1, e2, e3, e4⟩ := hend hrel5
        exact ⟨n - (k + 1), by omega, k + 1, Z', hk4, rfl, hJb _ _ _ _ hJ' e2, e1, e3, e4⟩
      | ret =>
        obtain ⟨s4, φ4, hk4, hrel4⟩ := hq
        obtain ⟨ms, q1, q2, _⟩ := hrel4.df
        refine ⟨by rw [q1, q2.2 rfl]; rfl, .tuple #[], by simp [results, hres], ⟨_, rfl⟩, .inl ⟨Z', ?_⟩⟩
        rw [← hk4]; exact hJb _ _ _ _ hJ' hrel4.hr.fr
      | exit id => obtain ⟨_, _, h, _⟩ := hq; exact h.elim
      | _ => exact hq.elim
    · refine ⟨_, rfl, ?_⟩
      show Code.wpIn Fence.wide 0 P _ _ _ _
      refine wpIn_cond (t := false) (hb3 _) ?_
      refine wpIn_exit ?_
      show Exit.inBlock i0 _ (.exit i0) _ _
      simp only [Exit.inBlock, if_true]
      exact ⟨hd3 _, .tuple #[], by simp [results, hres], ⟨_, rfl⟩, .inr hJx⟩
  | exit id => obtain ⟨_, _, h, _⟩ := hq; exact h.elim
  | ret => obtain ⟨_, _, h, _⟩ := hq; exact h.elim
  | _ => exact hq.elim
end
end Go.Proofs.YthemglpccpjokaaGreat
namespace Go.Proofs.YthemglpccpjokaaGreat
open Go.RowKit
variable [Glob]
def nnA : AV → AV
  | .nils => .rs []
  | x => x
def nnR (rows : List (List AV)) : List (List AV) := rows.map fun r => r.map nnA
section
variable {P : Program}
theorem nn_rv {w : World} {X : Nat → Prop} {φ : Nat → Option Nat} {H : List Blk} {x : AV} {v : Value} (h : RV P w X φ H x v) : RV P w X φ H (nnA x) v := by
  cases x with
  | nils =>
    have := h.nils_inv
    subst this
    exact .ro (.rs 0 (fun _ _ => undef) rfl (Nat.le_refl _) (by simp) (by simp))
  | _ => exact h
theorem nn_turn {w : World} {φ : Nat → Option Nat} {H : List Blk} {id : Nat} {e : TypeId} {nb : Bool} {rows : List (List AV)} (hb : H[id]? = some (.row e nb rows)) : Turn w φ H w φ (H.set id (.row e nb (nnR rows))) := by
  have hid : id < H.length := (List.getElem?_eq_some_iff.1 hb).1
  have get : ∀ (i : Nat) b, (H.set id (.row e nb (nnR rows)))[i]? = some b → (i = id ∧ b = .row e nb (nnR rows)) ∨ H[i]? = some b := fun i b h => by
    rw [List.getElem?_set] at h
    split at h
    · rename_i q
      exact .inl ⟨q.symm, (Option.some.inj h).symm⟩
    · exact .inr h
  refine ⟨Nat.le_refl _, by simp, fun b hb hl => ⟨rfl, hb⟩, fun i t cs' hi h => ?_, fun i e' nb' rows' hi h => ?_, fun i es' hi h => ?_, fun i m n s' hi h => ?_⟩
  · rcases get i _ h with ⟨_, q⟩ | h
    · cases q
    · exact ⟨cs', h, fun c hc => hc⟩
  · rcases get i _ h with ⟨rfl, q⟩ | h
    · cases q
      exact ⟨rows, hb, by simp [nnR], fun _ => ⟨fun _ h => h, fun c hc => ⟨hc, fun cur hcur => ⟨cur, hcur, rfl⟩⟩⟩⟩
    · exact ⟨rows', h, Nat.le_refl _, fun _ => ⟨fun _ h => h, fun c hc => ⟨hc, fun cur hcur => ⟨cur, hcur, rfl⟩⟩⟩⟩
  · rcases get i _ h with ⟨_, q⟩ | h
    · cases q
    · exact ⟨es', h, fun c hc => ⟨hc, bornK_same rfl⟩⟩
  · rcases get i _ h with ⟨_, q⟩ | h
    · cases q
    · exact ⟨m, n, s', h, fun c hc => hc⟩
theorem nn_hr {w0 w : World} {X : Nat → Prop} {φ : Nat → Option Nat} {H : List Blk} {id : Nat} {e : TypeId} {nb : Bool} {rows : List (List AV)} (hr : HR P w0 X w φ H) (hb : H[id]? = some (.row e nb rows)) : HR P w0 X w φ (H.set id (.row e nb (nnR rows))) := by
  have hT := nn_turn (w := w) (φ := φ) hb
  have hid : id < H.length := (List.getElem?_eq_some_iff.1 hb).1
  refine ⟨hr.vo, hr.fr, hr.ext, fun i c hc => ⟨(hr.own i c hc).1, (hr.own i c hc).2.1, by simpa using (hr.own i c hc).2.2⟩, hr.inj, fun i b c hi hc => ?_⟩
  rw [List.getElem?_set] at hi
  split at hi
  · rename_i q
    subst q
    obtain rfl := (Option.some.inj hi).symm
    obtain ⟨cur, q1, q2, q3, q4⟩ := (hr.blk id _ c hb hc).turn hT rfl
    refine ⟨cur, q1, fun row hrow => ?_, by simpa [nnR] using q3, fun i' j row x v h5 h6 h7 => ?_⟩
    · simp only [nnR, List.mem_map] at hrow
      obtain ⟨r, h, rfl⟩ := hrow
      simpa using q2 r h
    · simp only [nnR, List.getElem?_map, Option.map_eq_some_iff] at h5
      obtain ⟨r, h5, rfl⟩ := h5
      simp only [List.getElem?_map, Option.map_eq_some_iff] at h6
      obtain ⟨y, h6, rfl⟩ := h6
      obtain ⟨k1, k2⟩ := q4 i' j r y v h5 h6 h7
      exact ⟨nn_rv k1, k2⟩
  · exact (hr.blk i b c hi hc).turn hT rfl
theorem weak_nn {L : Nat} {s : St} (id : Nat) (e : TypeId) (nb : Bool) (rows : List (List AV)) (hb : s.H[id]? = some (.row e nb rows)) : Weak P L s ⟨s.T, s.H.set id (.row e nb (nnR rows))⟩ := by
  intro B w0 X N φ a w hB hrel
  have hT := nn_turn (w := w) (φ := φ) hb
  exact ⟨φ, nn_hr hrel.hr hb, hrel.tn.trans hT, fun k => (hrel.t k).turn hT, hrel.size, hrel.df.turn hT⟩
end
end Go.Proofs.YthemglpccpjokaaGreat
