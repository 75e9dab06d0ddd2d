/- Maps in the abstract machine: what is read and written there holds in the model. -/
import Derived.Test.YtnldjmokemgaoaaAbOps
import Derived.MapKept
namespace Go.Proofs.Ytnldjmokemgaoaa
set_option linter.unusedSimpArgs false
set_option linter.unusedVariables false
set_option linter.unnecessarySimpa false
set_option linter.unusedSectionVars false
open Go.RowKit
variable [Glob]

section
variable {P : Program} {w0 w : World} {X : Nat → Prop} {φ : Nat → Option Nat} {G H : List Blk} {T : List (Nat × AV)} {a : Act}
theorem eqCs_int {ks : List Nat} {l l' : List AV} {b : Bool} (h : eqCs (0 :: ks) l l' = some b) : ∃ k a b0 r r' e, l = .int k a :: r ∧ l' = .int k b0 :: r' ∧ eqCs ks r r' = some e ∧ b = ((a == b0) && e) := by
  cases l with
  | nil => simp [eqCs] at h
  | cons x r =>
    cases l' with
    | nil => cases x <;> simp [eqCs] at h
    | cons y r' =>
      cases x <;> cases y <;> simp [eqCs] at h
      rename_i k a k' b0
      obtain ⟨rfl, h⟩ := h
      cases he : eqCs ks r r' with
      | none => rw [he] at h; simp at h
      | some e => rw [he] at h; simp at h; exact ⟨_, _, _, _, _, e, rfl, rfl, he, h.symm⟩
theorem eqCs_bool {ks : List Nat} {l l' : List AV} {b : Bool} (h : eqCs (1 :: ks) l l' = some b) : ∃ a b0 r r' e, l = .bool a :: r ∧ l' = .bool b0 :: r' ∧ eqCs ks r r' = some e ∧ b = ((a == b0) && e) := by
  cases l with
  | nil => simp [eqCs] at h
  | cons x r =>
    cases l' with
    | nil => cases x <;> simp [eqCs] at h
    | cons y r' =>
      cases x <;> cases y <;> simp [eqCs] at h
      rename_i a b0
      cases he : eqCs ks r r' with
      | none => rw [he] at h; simp at h
      | some e => rw [he] at h; simp at h; exact ⟨_, _, _, _, e, rfl, rfl, he, h.symm⟩
theorem eqCs_str {ks : List Nat} {l l' : List AV} {b : Bool} (h : eqCs (2 :: ks) l l' = some b) : ∃ a b0 r r' e, l = .str a :: r ∧ l' = .str b0 :: r' ∧ eqCs ks r r' = some e ∧ b = ((a.toList == b0.toList) && e) := by
  cases l with
  | nil => simp [eqCs] at h
  | cons x r =>
    cases l' with
    | nil => cases x <;> simp [eqCs] at h
    | cons y r' =>
      cases x <;> cases y <;> simp [eqCs] at h
      rename_i a b0
      cases he : eqCs ks r r' with
      | none => rw [he] at h; simp at h
      | some e => rw [he] at h; simp at h; exact ⟨_, _, _, _, e, rfl, rfl, he, h.symm⟩
theorem eqf_sound {d : Nat} {xs ys : Array Value} : ∀ (fs : List Field) (ks : List Nat) (k : Nat) (l l' : List AV) (b : Bool), fs.mapM (fun f => if f.name ≠ "_" then skind P f.type else none) = some ks → fs.map (·.offset) = List.range' k fs.length → eqCs ks l l' = some b →
    (∀ (j : Nat) x, l[j]? = some x → ∃ u, xs[k + j]? = some u ∧ RV P w X φ G x u) → (∀ (j : Nat) x, l'[j]? = some x → ∃ u, ys[k + j]? = some u ∧ RV P w X φ G x u) → (Op.eqFields (d + 1) xs ys fs).run P w = .ok b w := by
  intro fs
  induction fs with
  | nil =>
    intro ks k l l' b h _ he _ _
    simp at h
    subst h
    cases l with
    | nil => cases l' with
      | nil => simp [eqCs] at he; subst he; rfl
      | cons => simp [eqCs] at he
    | cons => simp [eqCs] at he
  | cons f fs ih =>
    intro ks k l l' b h ho he hx hy
    rw [List.mapM_cons] at h
    cases hk : (if f.name ≠ "_" then skind P f.type else none) with
    | none => simp [hk] at h
    | some kd =>
      cases hr : fs.mapM (fun f => if f.name ≠ "_" then skind P f.type else none) with
      | none => rw [hk, hr] at h; simp at h
      | some rest =>
        rw [hk, hr] at h
        simp at h
        subst h
        split at hk
        · rename_i hname
          simp only [List.map_cons, List.length_cons, List.range'_succ, List.cons.injEq] at ho
          obtain ⟨ho1, ho2⟩ := ho
          have hshift : ∀ {l : List AV} {y : AV} {zs : Array Value}, (∀ (j : Nat) x, (y :: l)[j]? = some x → ∃ u, zs[k + j]? = some u ∧ RV P w X φ G x u) → ∀ (j : Nat) x, l[j]? = some x → ∃ u, zs[k + 1 + j]? = some u ∧ RV P w X φ G x u := fun h j x hj => by
            obtain ⟨u, h1, h2⟩ := h (j + 1) x (by simpa using hj)
            exact ⟨u, by rw [show k + 1 + j = k + (j + 1) by omega]; exact h1, h2⟩
          have fin : ∀ {p q : AV} {u u' : Value} {r r' : List AV} {e e0 : Bool}, xs[k]? = some u → ys[k]? = some u' → (∀ w : World, (Go.part f.type xs k).run P w = .ok u w) → (∀ w : World, (Go.part f.type ys k).run P w = .ok u' w) → (∀ w : World, (Op.equalIn (d + 1) f.type u u').run P w = .ok e0 w) → (Op.eqFields (d + 1) xs ys fs).run P w = .ok e w → (Op.eqFields (d + 1) xs ys (f :: fs)).run P w = .ok (e0 && e) w := fun _ _ hp1 hp2 heq hrest => by
            simp only [Op.eqFields, hname, ne_eq, not_false_eq_true, if_true, Sem.run_bind, ho1, hp1, hp2, heq, Result.andThen_ok]
            rename_i e e0 _ _
            cases e0 <;> simp [hrest]
          have partRun : ∀ (zs : Array Value) (u : Value) (D : TypeDesc), P.underlying f.type = some D → (∀ fs, D ≠ .struct fs) → (∀ n e, D ≠ .array n e) → zs[k]? = some u → ∀ w : World, (Go.part f.type zs k).run P w = .ok u w := fun zs u D hD h1 h2 hz w => by
            have : (isAgg f.type).run P w = .ok false w := by
              simp only [isAgg, Sem.run_bind, run_underlying hD, Result.andThen_ok]
              cases D <;> first | rfl | exact absurd rfl (h1 _) | exact absurd rfl (h2 _ _)
            simp [Go.part, this, hz]
          have at0 : ∀ {l : List AV} {y : AV} {zs : Array Value}, (∀ (j : Nat) x, (y :: l)[j]? = some x → ∃ u, zs[k + j]? = some u ∧ RV P w X φ G x u) → ∃ u, zs[k]? = some u ∧ RV P w X φ G y u := fun h => by simpa using h 0 _ (by simp)
          unfold skind at hk
          split at hk
          · rename_i ik hD
            simp at hk
            subst hk
            obtain ⟨kk, a, b0, r, r', e, rfl, rfl, h1, rfl⟩ := eqCs_int he
            obtain ⟨u, q1, q2⟩ := at0 hx
            obtain ⟨u', q3, q4⟩ := at0 hy
            have e1 := q2.int_inv
            have e2 := q4.int_inv
            subst e1 e2
            exact fin (p := .nilp) (q := .nilp) (r := []) (r' := []) q1 q3 (partRun xs _ _ hD (fun _ h => by simp at h) (fun _ _ h => by simp at h) q1) (partRun ys _ _ hD (fun _ h => by simp at h) (fun _ _ h => by simp at h) q3) (fun w => run_equalIn_int w d f.type kk ik a b0 hD) (ih rest (k + 1) r r' e hr ho2 h1 (hshift hx) (hshift hy))
          · rename_i hD
            simp at hk
            subst hk
            obtain ⟨a, b0, r, r', e, rfl, rfl, h1, rfl⟩ := eqCs_bool he
            obtain ⟨u, q1, q2⟩ := at0 hx
            obtain ⟨u', q3, q4⟩ := at0 hy
            have e1 := q2.bool_inv
            have e2 := q4.bool_inv
            subst e1 e2
            exact fin (p := .nilp) (q := .nilp) (r := []) (r' := []) q1 q3 (partRun xs _ _ hD (fun _ h => by simp at h) (fun _ _ h => by simp at h) q1) (partRun ys _ _ hD (fun _ h => by simp at h) (fun _ _ h => by simp at h) q3) (fun w => run_equalIn_bool' w d f.type a b0 hD) (ih rest (k + 1) r r' e hr ho2 h1 (hshift hx) (hshift hy))
          · rename_i hD
            simp at hk
            subst hk
            obtain ⟨a, b0, r, r', e, rfl, rfl, h1, rfl⟩ := eqCs_str he
            obtain ⟨u, q1, q2⟩ := at0 hx
            obtain ⟨u', q3, q4⟩ := at0 hy
            have e1 := q2.str_inv
            have e2 := q4.str_inv
            subst e1 e2
            exact fin (p := .nilp) (q := .nilp) (r := []) (r' := []) q1 q3 (partRun xs _ _ hD (fun _ h => by simp at h) (fun _ _ h => by simp at h) q1) (partRun ys _ _ hD (fun _ h => by simp at h) (fun _ _ h => by simp at h) q3) (fun w => run_equalIn_string w d f.type a b0 hD) (ih rest (k + 1) r r' e hr ho2 h1 (hshift hx) (hshift hy))
          · simp at hk
        · simp at hk
/-- One value of a kind that is compared at once. -/
theorem eqCs_app : ∀ {ks1 ks2 : List Nat} {l l' : List AV} {b : Bool}, eqCs (ks1 ++ ks2) l l' = some b → ∃ l1 l2 l1' l2' b1 b2, l = l1 ++ l2 ∧ l' = l1' ++ l2' ∧ l1.length = ks1.length ∧ l1'.length = ks1.length ∧ eqCs ks1 l1 l1' = some b1 ∧ eqCs ks2 l2 l2' = some b2 ∧ b = (b1 && b2) := by
  intro ks1
  induction ks1 with
  | nil => intro ks2 l l' b h; exact ⟨[], l, [], l', true, b, rfl, rfl, rfl, rfl, rfl, h, by simp⟩
  | cons k ks1 ih =>
    intro ks2 l l' b h
    match k, h with
    | 0, h =>
      obtain ⟨kk, a, b0, r, r', e, rfl, rfl, h1, rfl⟩ := eqCs_int h
      obtain ⟨l1, l2, l1', l2', b1, b2, rfl, rfl, h2, h3, h4, h5, rfl⟩ := ih h1
      exact ⟨_ :: l1, l2, _ :: l1', l2', (a == b0) && b1, b2, rfl, rfl, by simp [h2], by simp [h3], by simp [eqCs, h4], h5, by rw [Bool.and_assoc]⟩
    | 1, h =>
      obtain ⟨a, b0, r, r', e, rfl, rfl, h1, rfl⟩ := eqCs_bool h
      obtain ⟨l1, l2, l1', l2', b1, b2, rfl, rfl, h2, h3, h4, h5, rfl⟩ := ih h1
      exact ⟨_ :: l1, l2, _ :: l1', l2', (a == b0) && b1, b2, rfl, rfl, by simp [h2], by simp [h3], by simp [eqCs, h4], h5, by rw [Bool.and_assoc]⟩
    | 2, h =>
      obtain ⟨a, b0, r, r', e, rfl, rfl, h1, rfl⟩ := eqCs_str h
      obtain ⟨l1, l2, l1', l2', b1, b2, rfl, rfl, h2, h3, h4, h5, rfl⟩ := ih h1
      exact ⟨_ :: l1, l2, _ :: l1', l2', (a.toList == b0.toList) && b1, b2, rfl, rfl, by simp [h2], by simp [h3], by simp [eqCs, h4], h5, by rw [Bool.and_assoc]⟩
    | k + 3, h => simp [eqCs] at h
theorem deepF_sound {d : Nat} {xs ys : Array Value} : ∀ (fs : List Field) (ks : List Nat) (k : Nat) (l l' : List AV) (b : Bool), deepF P fs k = some ks → eqCs ks l l' = some b →
    (∀ (j : Nat) x, l[j]? = some x → ∃ u, xs[k + j]? = some u ∧ RV P w X φ G x u) → (∀ (j : Nat) x, l'[j]? = some x → ∃ u, ys[k + j]? = some u ∧ RV P w X φ G x u) → (Op.eqFields (d + 2) xs ys fs).run P w = .ok b w := by
  intro fs
  induction fs with
  | nil =>
    intro ks k l l' b h he _ _
    simp [deepF] at h
    subst h
    cases l with
    | nil => cases l' with
      | nil => simp [eqCs] at he; subst he; rfl
      | cons => simp [eqCs] at he
    | cons => simp [eqCs] at he
  | cons f fs ih =>
    intro ks k l l' b h he hx hy
    unfold deepF at h
    split at h
    rotate_left
    · cases h
    rename_i hc
    obtain ⟨hname, hoff⟩ := hc
    have fin : ∀ {u u' : Value} {e e0 : Bool}, (Go.part f.type xs k).run P w = .ok u w → (Go.part f.type ys k).run P w = .ok u' w → (Op.equalIn (d + 2) f.type u u').run P w = .ok e0 w → (Op.eqFields (d + 2) xs ys fs).run P w = .ok e w → (Op.eqFields (d + 2) xs ys (f :: fs)).run P w = .ok (e0 && e) w := fun hp1 hp2 heq hrest => by
      simp only [Op.eqFields, hname, ne_eq, not_false_eq_true, if_true, Sem.run_bind, hoff, hp1, hp2, heq, Result.andThen_ok]
      rename_i e e0
      cases e0 <;> simp [hrest]
    split at h
    · rename_i n hn
      split at h
      · rename_i ks2 hks2
        cases h
        have h1 : (Op.eqFields (d + 1 + 1) xs ys [f]).run P w = .ok (match eqCs [n] (l.take 1) (l'.take 1) with | some e => e | none => false) w ∧ ∃ e2, eqCs ks2 (l.drop 1) (l'.drop 1) = some e2 ∧ b = ((match eqCs [n] (l.take 1) (l'.take 1) with | some e => e | none => false) && e2) ∧ 0 < l.length ∧ 0 < l'.length := by
          obtain ⟨l1, l2, l1', l2', b1, b2, rfl, rfl, q1, q2, q3, q4, rfl⟩ := eqCs_app (ks1 := [n]) (ks2 := ks2) he
          simp at q1 q2
          have t1 : (l1 ++ l2).take 1 = l1 := by rw [← q1, List.take_left]
          have t2 : (l1' ++ l2').take 1 = l1' := by rw [← q2, List.take_left]
          have t3 : (l1 ++ l2).drop 1 = l2 := by rw [← q1, List.drop_left]
          have t4 : (l1' ++ l2').drop 1 = l2' := by rw [← q2, List.drop_left]
          rw [t1, t2, t3, t4, q3]
          refine ⟨eqf_sound (d := d + 1) [f] [n] k l1 l1' b1 (by simp [hname, hn]) (by simp [hoff, List.range']) q3 (fun j x hj => hx j x ?_) (fun j x hj => hy j x ?_), b2, q4, rfl, by simp; omega, by simp; omega⟩
          · rw [List.getElem?_append_left (List.getElem?_eq_some_iff.1 hj).1]; exact hj
          · rw [List.getElem?_append_left (List.getElem?_eq_some_iff.1 hj).1]; exact hj
        obtain ⟨h1, e2, h2, rfl, hl1, hl2⟩ := h1
        have h3 := ih ks2 (k + 1) (l.drop 1) (l'.drop 1) e2 hks2 h2 (fun j x hj => by
          obtain ⟨u, p1, p2⟩ := hx (1 + j) x (by rwa [List.getElem?_drop] at hj)
          exact ⟨u, by rw [show k + 1 + j = k + (1 + j) by omega]; exact p1, p2⟩) (fun j x hj => by
          obtain ⟨u, p1, p2⟩ := hy (1 + j) x (by rwa [List.getElem?_drop] at hj)
          exact ⟨u, by rw [show k + 1 + j = k + (1 + j) by omega]; exact p1, p2⟩)
        simp only [Op.eqFields, hname, ne_eq, not_false_eq_true, if_true, Sem.run_bind] at h1 ⊢
        generalize (Go.part f.type xs f.offset).run P w = r1 at h1 ⊢
        cases r1 with
        | halt => simp [Result.andThen] at h1
        | ok a1 w1 =>
          simp only [Result.andThen_ok] at h1 ⊢
          generalize (Go.part f.type ys f.offset).run P w1 = r2 at h1 ⊢
          cases r2 with
          | halt => simp [Result.andThen] at h1
          | ok a2 w2 =>
            simp only [Result.andThen_ok] at h1 ⊢
            generalize (Op.equalIn (d + 1 + 1) f.type a1 a2).run P w2 = r3 at h1 ⊢
            cases r3 with
            | halt => simp [Result.andThen] at h1
            | ok e w3 =>
              simp only [Result.andThen_ok] at h1 ⊢
              cases e with
              | false =>
                simp only [Bool.not_false, if_true, Sem.run_pure] at h1 ⊢
                injection h1 with h1 hw
                rw [← h1, hw]; rfl
              | true =>
                simp only [Bool.not_true, Bool.false_eq_true, if_false, Sem.run_pure] at h1 ⊢
                injection h1 with h1 hw
                subst hw
                rw [← h1, h3]; simp
      · cases h
    · rename_i hn
      split at h
      · rename_i ks1 i hk1 hi
        split at h
        · rename_i hag
          split at h
          · rename_i ks2 hks2
            cases h
            obtain ⟨l1, l2, l1', l2', b1, b2, rfl, rfl, q1, q2, q3, q4, rfl⟩ := eqCs_app he
            have hprt : ∀ zs : Array Value, (Go.part f.type zs k).run P w = .ok (.agg (zs.extract k (k + i.sz))) w := fun zs => by
              simp [Go.part, run_isAgg_ty hi, hag.1, run_sizeOf_ty hi]
            have hex : ∀ (zs : Array Value) (m : List AV) (m2 : List AV), m.length = ks1.length → (∀ (j : Nat) x, (m ++ m2)[j]? = some x → ∃ u, zs[k + j]? = some u ∧ RV P w X φ G x u) → ∀ (j : Nat) x, m[j]? = some x → ∃ u, (zs.extract k (k + i.sz))[0 + j]? = some u ∧ RV P w X φ G x u := fun zs m m2 hm hz j x hj => by
              have hjl := (List.getElem?_eq_some_iff.1 hj).1
              obtain ⟨u, p1, p2⟩ := hz j x (by rw [List.getElem?_append_left hjl]; exact hj)
              refine ⟨u, ?_, p2⟩
              have hkj := (Array.getElem?_eq_some_iff.1 p1).1
              rw [Array.getElem?_extract, if_pos (by rw [hag.2]; omega), Nat.zero_add, p1]
            have heq : (Op.equalIn (d + 1 + 1) f.type (.agg (xs.extract k (k + i.sz))) (.agg (ys.extract k (k + i.sz)))).run P w = .ok b1 w := by
              obtain ⟨fs1, hD, c1, c3, hm⟩ : ∃ fs1, P.underlying f.type = some (.struct fs1) ∧ P.stoodInHeld f.type = false ∧ fs1.toList.map (·.offset) = List.range' 0 fs1.toList.length ∧ fs1.toList.mapM (fun f => if f.name ≠ "_" then skind P f.type else none) = some ks1 := by
                unfold eqKinds at hk1
                split at hk1
                · rename_i fs1 hD
                  split at hk1
                  · rename_i hc
                    exact ⟨fs1, hD, hc.1, hc.2.2, hk1⟩
                  · cases hk1
                · cases hk1
              have hfs : P.fieldsOf f.type = fs1 := by simp [Program.fieldsOf, hD]
              rw [run_equalIn_agg w (d + 1) f.type _ _ (by rw [hfs]; exact hD) c1, hfs]
              exact eqf_sound (d := d) fs1.toList ks1 0 l1 l1' b1 hm c3 q3 (hex xs l1 l2 q1 hx) (hex ys l1' l2' q2 hy)
            refine fin (hprt xs) (hprt ys) heq (ih ks2 (k + ks1.length) l2 l2' b2 hks2 q4 (fun j x hj => ?_) (fun j x hj => ?_))
            · obtain ⟨u, p1, p2⟩ := hx (ks1.length + j) x (by rw [List.getElem?_append_right (by omega)]; rw [show ks1.length + j - l1.length = j by omega]; exact hj)
              exact ⟨u, by rw [Nat.add_assoc]; exact p1, p2⟩
            · obtain ⟨u, p1, p2⟩ := hy (ks1.length + j) x (by rw [List.getElem?_append_right (by omega)]; rw [show ks1.length + j - l1'.length = j by omega]; exact hj)
              exact ⟨u, by rw [Nat.add_assoc]; exact p1, p2⟩
          · cases h
        · cases h
      · cases h
theorem skind_cases {t : TypeId} {n : Nat} (h : skind P t = some n) : (∃ k, P.underlying t = some (.int k) ∧ n = 0) ∨ (P.underlying t = some .bool ∧ n = 1) ∨ (P.underlying t = some .string ∧ n = 2) := by
  unfold skind at h
  split at h
  · rename_i k hk; simp at h; exact .inl ⟨k, hk, h.symm⟩
  · rename_i hk; simp at h; exact .inr (.inl ⟨hk, h.symm⟩)
  · rename_i hk; simp at h; exact .inr (.inr ⟨hk, h.symm⟩)
  · simp at h
theorem skind_check {t : TypeId} {n : Nat} (h : skind P t = some n) (em : Bool) (d : Nat) (v : Value) (w : World) : (Instr.checkKey em (d + 1) t v).run P w = .ok () w := by
  unfold Instr.checkKey
  rcases skind_cases h with ⟨k, hk, _⟩ | ⟨hk, _⟩ | ⟨hk, _⟩ <;> simp only [Sem.run_bind, run_underlying hk, Result.andThen_ok] <;> cases v <;> rfl
theorem skind_part {t : TypeId} {n : Nat} (h : skind P t = some n) (zs : Array Value) (k : Nat) (u : Value) (hz : zs[k]? = some u) (w : World) : (Go.part t zs k).run P w = .ok u w := by
  have : (isAgg t).run P w = .ok false w := by
    rcases skind_cases h with ⟨k, hk, _⟩ | ⟨hk, _⟩ | ⟨hk, _⟩ <;> simp [isAgg, run_underlying hk]
  simp [Go.part, this, hz]
/-- Equal values have the same signs. -/
theorem eqCs_bits : ∀ (ks : List Nat) (l l' : List AV) (us us' : List Value), eqCs ks l l' = some true → l.length = us.length → l'.length = us'.length → (∀ (j : Nat) x u, l[j]? = some x → us[j]? = some u → RV P w X φ G x u) → (∀ (j : Nat) x u, l'[j]? = some x → us'[j]? = some u → RV P w X φ G x u) →
    us.length = us'.length ∧ ∀ n, ((us.zip us').all fun (p : Value × Value) => Instr.sameBits (n + 1) p.1 p.2) = true := by
  intro ks
  induction ks with
  | nil =>
    intro l l' us us' h h1 h2 _ _
    cases l <;> cases l' <;> simp [eqCs] at h
    simp at h1 h2
    have e1 := List.eq_nil_of_length_eq_zero h1.symm
    have e2 := List.eq_nil_of_length_eq_zero h2.symm
    subst e1 e2
    exact ⟨rfl, fun n => rfl⟩
  | cons k ks ih =>
    intro l l' us us' h h1 h2 hx hy
    have fin : ∀ {x y : AV} {r r' : List AV}, l = x :: r → l' = y :: r' → eqCs ks r r' = some true → (∀ u u', RV P w X φ G x u → RV P w X φ G y u' → ∀ n, Instr.sameBits (n + 1) u u' = true) → us.length = us'.length ∧ ∀ n, ((us.zip us').all fun (p : Value × Value) => Instr.sameBits (n + 1) p.1 p.2) = true := fun e1 e2 he hs => by
      subst e1 e2
      cases us with
      | nil => simp at h1
      | cons u us =>
        cases us' with
        | nil => simp at h2
        | cons u' us' =>
          obtain ⟨q1, q2⟩ := ih _ _ us us' he (by simpa using h1) (by simpa using h2) (fun j x v h3 h4 => hx (j + 1) x v (by simpa using h3) (by simpa using h4)) (fun j x v h3 h4 => hy (j + 1) x v (by simpa using h3) (by simpa using h4))
          exact ⟨by simp [q1], fun n => by simp only [List.zip_cons_cons, List.all_cons, Bool.and_eq_true]; exact ⟨hs u u' (hx 0 _ u (by simp) (by simp)) (hy 0 _ u' (by simp) (by simp)) n, q2 n⟩⟩
    match k with
    | 0 =>
      obtain ⟨kk, a, b0, r, r', e, e1, e2, h3, h4⟩ := eqCs_int h
      have h4 := h4.symm
      simp at h4
      obtain ⟨rfl, rfl⟩ := h4
      exact fin e1 e2 h3 fun u u' q1 q2 n => by rw [q1.int_inv, q2.int_inv]; simp [Instr.sameBits]
    | 1 =>
      obtain ⟨a, b0, r, r', e, e1, e2, h3, h4⟩ := eqCs_bool h
      have h4 := h4.symm
      simp at h4
      obtain ⟨rfl, rfl⟩ := h4
      exact fin e1 e2 h3 fun u u' q1 q2 n => by rw [q1.bool_inv, q2.bool_inv]; simp [Instr.sameBits]
    | 2 =>
      obtain ⟨a, b0, r, r', e, e1, e2, h3, h4⟩ := eqCs_str h
      have h4 := h4.symm
      simp at h4
      obtain ⟨h5, rfl⟩ := h4
      exact fin e1 e2 h3 fun u u' q1 q2 n => by
        rw [q1.str_inv, q2.str_inv]
        have : (a == b0) = true := by rw [beq_toListBytes]; simpa using h5
        simpa [Instr.sameBits] using this
    | k + 3 => simp [eqCs] at h
theorem eqCs_swap : ∀ (ks : List Nat) (l l' : List AV), eqCs ks l l' = some true → eqCs ks l' l = some true := by
  intro ks
  induction ks with
  | nil => intro l l' h; cases l <;> cases l' <;> simp [eqCs] at h ⊢
  | cons k ks ih =>
    intro l l' h
    match k with
    | 0 =>
      obtain ⟨_, a, b0, r, r', e, rfl, rfl, h3, h4⟩ := eqCs_int h
      have h4 := h4.symm
      simp at h4
      obtain ⟨rfl, rfl⟩ := h4
      simp [eqCs, ih _ _ h3]
    | 1 =>
      obtain ⟨a, b0, r, r', e, rfl, rfl, h3, h4⟩ := eqCs_bool h
      have h4 := h4.symm
      simp at h4
      obtain ⟨rfl, rfl⟩ := h4
      simp [eqCs, ih _ _ h3]
    | 2 =>
      obtain ⟨a, b0, r, r', e, rfl, rfl, h3, h4⟩ := eqCs_str h
      have h4 := h4.symm
      simp at h4
      obtain ⟨h5, rfl⟩ := h4
      simp [eqCs, ih _ _ h3, h5]
    | k + 3 => simp [eqCs] at h
theorem keq_swap {ks : Bool × List Nat} {x y : AV} (h : keq ks x y = some true) : keq ks y x = some true := by
  obtain ⟨b, ks⟩ := ks
  cases b
  · exact eqCs_swap _ _ _ h
  · simp only [keq] at h ⊢
    split at h
    · exact eqCs_swap _ _ _ h
    · simp at h
theorem keyKs_cases {kt : TypeId} {ks : Bool × List Nat} (hks : keyKs P kt = some ks) : (∃ n, skind P kt = some n ∧ ks = (false, [n])) ∨ ∃ l, eqKinds P kt = some l ∧ ks = (true, l) := by
  unfold keyKs at hks
  split at hks
  · rename_i n hn; simp at hks; exact .inl ⟨n, hn, hks.symm⟩
  · split at hks
    · rename_i l hl; simp at hks; exact .inr ⟨l, hl, hks.symm⟩
    · simp at hks
theorem keq_agg {ks : List Nat} {x y : AV} {b : Bool} (h : keq (true, ks) x y = some b) : ∃ xs ys, x = .agg xs ∧ y = .agg ys ∧ eqCs ks xs ys = some b := by
  simp only [keq] at h
  split at h
  · exact ⟨_, _, rfl, rfl, h⟩
  · simp at h
theorem keq_bits {kt : TypeId} {ks : Bool × List Nat} (hks : keyKs P kt = some ks) {x y : AV} {u u' : Value} (h : keq ks x y = some true) (hx : RV P w X φ G x u) (hy : RV P w X φ G y u') : Instr.sameBits 10000 u u' = true := by
  rcases keyKs_cases hks with ⟨n, hn, rfl⟩ | ⟨l, hl, rfl⟩
  · obtain ⟨_, h2⟩ := eqCs_bits (P := P) (w := w) (X := X) (φ := φ) (G := G) [n] [x] [y] [u] [u'] h rfl rfl (fun j z v h3 h4 => by cases j with | zero => simp at h3 h4; subst h3 h4; exact hx | succ j => simp at h3) (fun j z v h3 h4 => by cases j with | zero => simp at h3 h4; subst h3 h4; exact hy | succ j => simp at h3)
    simpa using h2 9999
  · obtain ⟨xs, ys, rfl, rfl, h1⟩ := keq_agg h
    obtain ⟨vs, rfl, k1, _, k2⟩ := hx.agg_inv
    obtain ⟨vs', rfl, k3, _, k4⟩ := hy.agg_inv
    obtain ⟨h2, h3⟩ := eqCs_bits (P := P) (w := w) (X := X) (φ := φ) (G := G) l xs ys vs.toList vs'.toList h1 (by simpa using k1) (by simpa using k3) (fun j z v h3 h4 => k2 j z v h3 (by simpa using h4)) (fun j z v h3 h4 => k4 j z v h3 (by simpa using h4))
    have h4 := h3 9998
    simp only [Instr.sameBits, Bool.and_eq_true, beq_iff_eq]
    exact ⟨by simpa using h2, h4⟩
theorem eqKinds_spec {t : TypeId} {ks : List Nat} (h : eqKinds P t = some ks) : ∃ fs, P.underlying t = some (.struct fs) ∧ P.stoodInHeld t = false ∧ fs.toList.map (·.offset) = List.range' 0 fs.toList.length ∧ fs.toList.mapM (fun f => if f.name ≠ "_" then skind P f.type else none) = some ks := by
  unfold eqKinds at h
  split at h
  · rename_i fs hD
    split at h
    · rename_i hc
      exact ⟨fs, hD, hc.1, hc.2.2, h⟩
    · simp at h
  · simp at h
/-- Keys are compared. -/
theorem keq_eq {kt : TypeId} {ks : Bool × List Nat} (hks : keyKs P kt = some ks) {x y : AV} {u u' : Value} {b : Bool} (h : keq ks x y = some b) (hx : RV P w X φ G x u) (hy : RV P w X φ G y u') : (Op.equal kt u u').run P w = .ok b w := by
  rcases keyKs_cases hks with ⟨n, hn, rfl⟩ | ⟨l, hl, rfl⟩
  · simp only [keq] at h
    rcases skind_cases hn with ⟨k0, hk, rfl⟩ | ⟨hk, rfl⟩ | ⟨hk, rfl⟩
    · obtain ⟨kk, a, b0, r, r', e, e1, e2, h3, h4⟩ := eqCs_int h
      simp at e1 e2
      obtain ⟨rfl, rfl⟩ := e1
      obtain ⟨rfl, rfl⟩ := e2
      simp [eqCs] at h3
      subst h3
      rw [hx.int_inv, hy.int_inv, h4]
      simpa using (show (Op.equal kt (.int kk a) (.int kk b0)).run P w = .ok (a == b0) w from run_equalIn_int w 9999 kt kk k0 a b0 hk)
    · obtain ⟨a, b0, r, r', e, e1, e2, h3, h4⟩ := eqCs_bool h
      simp at e1 e2
      obtain ⟨rfl, rfl⟩ := e1
      obtain ⟨rfl, rfl⟩ := e2
      simp [eqCs] at h3
      subst h3
      rw [hx.bool_inv, hy.bool_inv, h4]
      simpa using (show (Op.equal kt (.bool a) (.bool b0)).run P w = .ok (a == b0) w from run_equalIn_bool' w 9999 kt a b0 hk)
    · obtain ⟨a, b0, r, r', e, e1, e2, h3, h4⟩ := eqCs_str h
      simp at e1 e2
      obtain ⟨rfl, rfl⟩ := e1
      obtain ⟨rfl, rfl⟩ := e2
      simp [eqCs] at h3
      subst h3
      rw [hx.str_inv, hy.str_inv, h4]
      simpa using (show (Op.equal kt (.string a) (.string b0)).run P w = .ok (a.toList == b0.toList) w from run_equalIn_string w 9999 kt a b0 hk)
  · obtain ⟨xs, ys, rfl, rfl, h1⟩ := keq_agg h
    obtain ⟨vs, rfl, k1, _, k2⟩ := hx.agg_inv
    obtain ⟨vs', rfl, k3, _, k4⟩ := hy.agg_inv
    obtain ⟨fs, hD, c1, c3, hm⟩ := eqKinds_spec hl
    have hfs : P.fieldsOf kt = fs := by simp [Program.fieldsOf, hD]
    show (Op.equalIn (9999 + 1) kt (.agg vs) (.agg vs')).run P w = .ok b w
    rw [run_equalIn_agg w 9999 kt vs vs' (by rw [hfs]; exact hD) c1, hfs]
    have hget : ∀ {cs : List AV} {vs : Array Value}, cs.length = vs.size → (∀ (j : Nat) x u, cs[j]? = some x → vs[j]? = some u → RV P w X φ G x u) → ∀ (j : Nat) x, cs[j]? = some x → ∃ u, vs[0 + j]? = some u ∧ RV P w X φ G x u := fun hl hr j x hj => by
      have := (List.getElem?_eq_some_iff.1 hj).1
      have hj' := Nat.lt_of_lt_of_eq this hl
      exact ⟨_, by rw [Nat.zero_add]; exact Array.getElem?_eq_getElem hj', hr j x _ hj (Array.getElem?_eq_getElem hj')⟩
    exact eqf_sound (d := 9998) fs.toList l 0 xs ys b hm c3 h1 (hget k1 k2) (hget k3 k4)
theorem eqCs_dom : ∀ (ks : List Nat) (l l' : List AV) (b : Bool), eqCs ks l l' = some b → l.length = ks.length := by
  intro ks
  induction ks with
  | nil => intro l l' b h; cases l <;> cases l' <;> simp [eqCs] at h; rfl
  | cons k ks ih =>
    intro l l' b h
    match k with
    | 0 => obtain ⟨_, _, _, r, r', e, rfl, rfl, h3, _⟩ := eqCs_int h; simp [ih _ _ _ h3]
    | 1 => obtain ⟨_, _, r, r', e, rfl, rfl, h3, _⟩ := eqCs_bool h; simp [ih _ _ _ h3]
    | 2 => obtain ⟨_, _, r, r', e, rfl, rfl, h3, _⟩ := eqCs_str h; simp [ih _ _ _ h3]
    | k + 3 => simp [eqCs] at h
theorem keq_check {kt : TypeId} {ks : Bool × List Nat} (hks : keyKs P kt = some ks) {x y : AV} {u : Value} {b : Bool} (h : keq ks x y = some b) (hx : RV P w X φ G x u) (em : Bool) : (Instr.checkKey em 10000 kt u).run P w = .ok () w := by
  rcases keyKs_cases hks with ⟨n, hn, rfl⟩ | ⟨l, hl, rfl⟩
  · exact skind_check hn em 9999 u w
  · obtain ⟨xs, ys, rfl, rfl, h1⟩ := keq_agg h
    obtain ⟨vs, rfl, k1, _, k2⟩ := hx.agg_inv
    obtain ⟨fs, hD, c1, c3, hm⟩ := eqKinds_spec hl
    have hlen := eqCs_dom _ _ _ _ h1
    have hfl : fs.toList.length = l.length := ((mapM_spec hm).1).symm
    unfold Instr.checkKey
    simp only [Sem.run_bind, run_underlying hD, Result.andThen_ok]
    rw [← Array.forIn_toList]
    have hbound : ∀ f ∈ fs.toList, f.offset < vs.size := fun f hf => by
      have : f.offset ∈ fs.toList.map (·.offset) := List.mem_map_of_mem hf
      rw [c3] at this
      have := (List.mem_range'_1.1 this).2
      omega
    have hsk : ∀ f ∈ fs.toList, f.name ≠ "_" ∧ ∃ n, skind P f.type = some n := fun f hf => by
      obtain ⟨j, hj, rfl⟩ := List.getElem_of_mem hf
      obtain ⟨y', _, h2⟩ := (mapM_spec hm).2 j _ (List.getElem?_eq_getElem hj)
      split at h2
      · rename_i hn; exact ⟨hn, _, h2⟩
      · simp at h2
    clear c3 hm hfl
    generalize fs.toList = L at hbound hsk
    induction L with
    | nil => simp
    | cons f L ih =>
      obtain ⟨hn, n, hs⟩ := hsk f (by simp)
      have hlt := hbound f (by simp)
      have p1 := skind_part hs vs f.offset _ (Array.getElem?_eq_getElem hlt) w
      have p2 := skind_check hs em 9998 vs[f.offset] w
      simp only [List.forIn_cons, Sem.run_bind, hn, ne_eq, not_false_eq_true, if_true, Result.andThen_ok, p1, p2, Sem.run_pure]
      exact ih (fun y hy => hbound y (by simp [hy])) (fun y hy => hsk y (by simp [hy]))
theorem mapTy_spec {t : TypeId} {z : AV} {ks : Bool × List Nat} (h : mapTy P t = some (z, ks)) : ∃ kt et zv, P.underlying t = some (.map kt et) ∧ keyKs P kt = some ks ∧ z = ofV zv ∧ ∀ w : World, (zeroValue et).run P w = .ok zv w := by
  unfold mapTy at h
  split at h
  · rename_i kt et hu
    split at h
    · rename_i ks' zv hk hz
      simp at h
      obtain ⟨rfl, rfl⟩ := h
      rw [Option.bind_eq_some_iff] at hz
      obtain ⟨i, h1, h2⟩ := hz
      exact ⟨kt, et, zv, hu, hk, rfl, fun w => by simp [zeroValue, typeInfo, h1, h2]⟩
    · simp at h
  · simp at h
/-- A key is looked for. -/
theorem find_sound {kt : TypeId} {ks : Bool × List Nat} (hks : keyKs P kt = some ks) {k : AV} {kv : Value} (hk : RV P w X φ G k kv) : ∀ (es : List (AV × AV)) (ents : List MapEntry) (i : Nat) (r : Option (Nat × AV)), mfind ks k es i = some r → ents.length = es.length →
    (∀ (j : Nat) k' x ent, es[j]? = some (k', x) → ents[j]? = some ent → RV P w X φ G k' ent.key ∧ RV P w X φ G x ent.val) →
    ∃ r', (Instr.findAsking kt kv ents i).run P w = .ok r' w ∧ (∀ d n, skind P kt = some n → P.underlying kt = some d → Instr.findNow d kv ents i = some r') ∧
      ((r = none ∧ r' = none) ∨ ∃ j x ent, r = some (i + j, x) ∧ r' = some (i + j, ent.val) ∧ ents[j]? = some ent ∧ RV P w X φ G x ent.val ∧ Instr.sameBits 10000 ent.key kv = true) := by
  intro es
  induction es with
  | nil =>
    intro ents i r h hl _
    simp [mfind] at h
    subst h
    have := List.eq_nil_of_length_eq_zero hl
    subst this
    exact ⟨none, rfl, fun _ _ _ _ => rfl, .inl ⟨rfl, rfl⟩⟩
  | cons e es ih =>
    intro ents i r h hl hr
    cases ents with
    | nil => simp at hl
    | cons ent ents =>
      obtain ⟨hk1, hk2⟩ := hr 0 e.1 e.2 ent (by simp) (by simp)
      have hnow : ∀ b d n, keq ks k e.1 = some b → skind P kt = some n → P.underlying kt = some d → Instr.sameNow d kv ent.key = some b := fun b d n hq hn hd => by
        rcases keyKs_cases hks with ⟨n', hn', rfl⟩ | ⟨l, hl', rfl⟩
        · simp only [keq] at hq
          rcases skind_cases hn' with ⟨k0, hk', rfl⟩ | ⟨hk', rfl⟩ | ⟨hk', rfl⟩
          · obtain ⟨kk, a, b0, r, r', e', e1, e2, h3, h4⟩ := eqCs_int hq
            simp at e1 e2
            obtain ⟨rfl, rfl⟩ := e1
            rw [hd] at hk'; simp at hk'; subst hk'
            have e2' := e2.1
            rw [e2'] at hk1
            obtain ⟨_, rfl⟩ := e2
            simp [eqCs] at h3
            subst h3
            rw [hk.int_inv, hk1.int_inv, h4]
            simp [Instr.sameNow]
          · obtain ⟨a, b0, r, r', e', e1, e2, h3, h4⟩ := eqCs_bool hq
            simp at e1 e2
            obtain ⟨rfl, rfl⟩ := e1
            rw [hd] at hk'; simp at hk'; subst hk'
            have e2' := e2.1
            rw [e2'] at hk1
            obtain ⟨_, rfl⟩ := e2
            simp [eqCs] at h3
            subst h3
            rw [hk.bool_inv, hk1.bool_inv, h4]
            simp [Instr.sameNow]
          · obtain ⟨a, b0, r, r', e', e1, e2, h3, h4⟩ := eqCs_str hq
            simp at e1 e2
            obtain ⟨rfl, rfl⟩ := e1
            rw [hd] at hk'; simp at hk'; subst hk'
            have e2' := e2.1
            rw [e2'] at hk1
            obtain ⟨_, rfl⟩ := e2
            simp [eqCs] at h3
            subst h3
            rw [hk.str_inv, hk1.str_inv, h4]
            simp only [Instr.sameNow, Bool.and_true, Option.some.injEq]
            exact beq_toListBytes _ _
        · unfold keyKs at hks
          rw [hn] at hks
          simp at hks
      simp only [mfind] at h
      split at h
      · rename_i hq
        simp at h
        subst h
        refine ⟨some (i, ent.val), ?_, fun d n hn hd => ?_, .inr ⟨0, e.2, ent, rfl, rfl, by simp, hk2, ?_⟩⟩
        · simp [Instr.findAsking, keq_eq hks hq hk hk1]
        · simp [Instr.findNow, hnow true d n hq hn hd]
        · exact keq_bits hks (keq_swap hq) hk1 hk
      · rename_i hq
        obtain ⟨r', h1, h2, h3⟩ := ih ents (i + 1) r h (by simpa using hl) (fun j k' x en q1 q2 => hr (j + 1) k' x en (by simpa using q1) (by simpa using q2))
        refine ⟨r', ?_, fun d n hn hd => ?_, ?_⟩
        · simp [Instr.findAsking, keq_eq hks hq hk hk1, h1]
        · simp [Instr.findNow, hnow false d n hq hn hd, h2 d n hn hd]
        · rcases h3 with h3 | ⟨j, x, en, q1, q2, q3, q4⟩
          · exact .inl h3
          · exact .inr ⟨j + 1, x, en, by rw [q1]; simp; omega, by rw [q2]; simp; omega, by simpa using q3, q4⟩
      · simp at h
theorem findKey_sound {kt : TypeId} {ks : Bool × List Nat} (hks : keyKs P kt = some ks) {k : AV} {kv : Value} (hk : RV P w X φ G k kv) {es : List (AV × AV)} {ents : Array MapEntry} {r : Option (Nat × AV)} (h : mfind ks k es 0 = some r) (hl : ents.size = es.length)
    (hr : ∀ (j : Nat) k' x ent, es[j]? = some (k', x) → ents[j]? = some ent → RV P w X φ G k' ent.key ∧ RV P w X φ G x ent.val) :
    ∃ r', (Instr.findKey kt kv ents.toList).run P w = .ok r' w ∧ ((r = none ∧ r' = none) ∨ ∃ j x ent, r = some (j, x) ∧ r' = some (j, ent.val) ∧ ents[j]? = some ent ∧ RV P w X φ G x ent.val ∧ Instr.sameBits 10000 ent.key kv = true) := by
  obtain ⟨r', h1, h2, h3⟩ := find_sound hks hk es ents.toList 0 r h (by simpa using hl) (fun j k' x ent q1 q2 => hr j k' x ent q1 (by simpa using q2))
  refine ⟨r', ?_, ?_⟩
  · rcases keyKs_cases hks with ⟨n, hn, _⟩ | ⟨l, hl', rfl⟩
    · have : ∃ d, P.underlying kt = some d := by rcases skind_cases hn with ⟨k0, hk', _⟩ | ⟨hk', _⟩ | ⟨hk', _⟩ <;> exact ⟨_, hk'⟩
      obtain ⟨d, hd⟩ := this
      exact Go.MapKept.run_findKey hd (h2 d n hn hd)
    · obtain ⟨fs, hD, _⟩ := eqKinds_spec hl'
      simp only [Instr.findKey, Sem.run_bind, run_underlying hD, Result.andThen_ok]
      cases hent : ents.toList with
      | nil =>
        rw [hent] at h1
        simp [Instr.findAsking] at h1
        simp [Instr.findNow, h1]
      | cons e es' =>
        rw [hent] at h1
        simp [Instr.findNow, Instr.sameNow, h1]
  · rcases h3 with h3 | ⟨j, x, ent, q1, q2, q3, q4, q5⟩
    · exact .inl h3
    · exact .inr ⟨j, x, ent, by simpa using q1, by simpa using q2, by simpa using q3, q4, q5⟩
/-- A map's block is turned. -/
theorem heap_setMap {w : World} {c : Nat} {es : Array MapEntry} {clock : Nat} (o : Obj) (hb : w.heap[c]? = some (.map es clock)) : (World.heap { w with heap := w.heap.setIfInBounds c o })[c]? = some o ∧ ∀ k, k ≠ c → (World.heap { w with heap := w.heap.setIfInBounds c o })[k]? = w.heap[k]? := by
  have hlt : c < w.heap.size := (Array.getElem?_eq_some_iff.1 hb).1
  exact ⟨by simp [hlt], fun k hne => by simp [Ne.symm hne]⟩
theorem turn_setMap (hr : HR P w0 X w φ G) {id c : Nat} {es es' : List (AV × AV)} (hb : G[id]? = some (.map es)) (hφ : φ id = some c) {ents ents' : Array MapEntry} {clock clock' : Nat} (hc : w.heap[c]? = some (.map ents clock)) :
    Turn w φ G { w with heap := w.heap.setIfInBounds c (.map ents' clock') } φ (G.set id (.map es')) where
  size := by simp
  len := by simp
  old := fun k h hl => ⟨(heap_setMap _ hc).2 k (fun e => h id (by rw [e]; exact hφ)), h⟩
  box := fun i t cs' _ h => by
    by_cases e : id = i
    · subst e
      rw [List.getElem?_set] at h
      simp at h
    · rw [List.getElem?_set_ne e] at h
      exact ⟨cs', h, fun _ h => h⟩
  row := fun i e' nb rows' _ h => by
    by_cases e : id = i
    · subst e
      rw [List.getElem?_set] at h
      simp at h
    · rw [List.getElem?_set_ne e] at h
      exact ⟨rows', h, Nat.le_refl _, fun _ => ⟨fun _ h => h, fun c' h' => ⟨h', fun cur h1 => ⟨cur, by rw [(heap_setMap _ hc).2 c' (fun e2 => e (hr.inj id i c hφ (by rw [← e2]; exact h')))]; exact h1, rfl⟩⟩⟩⟩
  map := fun i es2 _ h => by
    by_cases e : id = i
    · subst e
      exact ⟨es, hb, fun _ h => h⟩
    · rw [List.getElem?_set_ne e] at h
      exact ⟨es2, h, fun _ h => h⟩
theorem hr_setMap (hr : HR P w0 X w φ G) {id c : Nat} {es es' : List (AV × AV)} (hb : G[id]? = some (.map es)) (hφ : φ id = some c) {ents ents' : Array MapEntry} {clock clock' : Nat} (hc : w.heap[c]? = some (.map ents clock))
    (hl : ents'.size = es'.length) (hk : ∀ e ∈ ents'.toList, e.born < clock') (hnd : (ents'.toList.map (·.born)).Nodup) (hrv : ∀ (i : Nat) k x ent, es'[i]? = some (k, x) → ents'[i]? = some ent → RV P w X φ G k ent.key ∧ RV P w X φ G x ent.val) :
    HR P w0 X { w with heap := w.heap.setIfInBounds c (.map ents' clock') } φ (G.set id (.map es')) := by
  have hT := turn_setMap (es' := es') (ents' := ents') (clock' := clock') hr hb hφ hc
  have ho := (heap_setMap (.map ents' clock') hc)
  refine ⟨hr.vo, hr.fr.trans ⟨rfl, rfl, rfl, by simp, fun k hk => ho.2 k (by have := (hr.own id c hφ).1; omega)⟩, ext_turn hr hT, fun i c' hc' => ?_, hr.inj, fun i b2 c' hi hc' => ?_⟩
  · have := hr.own i c' hc'
    simpa using this
  · by_cases e : id = i
    · subst e
      rw [List.getElem?_set] at hi
      simp at hi
      obtain ⟨_, rfl⟩ := hi
      rw [hφ] at hc'
      simp at hc'
      subst hc'
      exact ⟨ents', clock', ho.1, hl, hk, hnd, fun i k x ent h1 h2 => ⟨(hrv i k x ent h1 h2).1.turn hT, (hrv i k x ent h1 h2).2.turn hT⟩⟩
    · rw [List.getElem?_set_ne e] at hi
      exact (hr.blk i b2 c' hi hc').turn hT (ho.2 c' fun e2 => e (hr.inj id i c hφ (by rw [← e2]; exact hc')))
/-- A map is read. -/
theorem lookup_sound (hr : HR P w0 X w φ G) {t id : Nat} {z k : AV} {ks : Bool × List Nat} {es : List (AV × AV)} {m kv : Value} {b : Bool} {r : Option (Nat × AV)} (ok : Bool) (ht : mapTy P t = some (z, ks)) (hb : G[id]? = some (.map es)) (hm : RV P w X φ G (.mp id) m) (hk : RV P w X φ G k kv)
    (hs : keq ks k k = some b) (hf : mfind ks k es 0 = some r) : ∃ x, (Instr.lookup t m kv ok).run P w = .ok x w ∧ RV P w X φ G (if ok then .tup [mval z r, .bool r.isSome] else mval z r) x := by
  obtain ⟨kt, et, zv, hu, hks, rfl, hz⟩ := mapTy_spec ht
  cases hm with
  | ro h => cases h
  | mp g0 hid hv =>
    obtain ⟨c, hc, rfl⟩ := hv es hb
    obtain ⟨ents, clock, q1, q2, q3, q4, q5⟩ := hr.blk id _ c hb hc
    obtain ⟨r', h1, h2⟩ := findKey_sound hks hk hf q2 q5
    have hck := keq_check hks hs hk ents.isEmpty
    have hzr : RV P w X φ G (ofV zv) zv := ofV_rv zv
    have fin : ∀ (v : AV) (u : Value) (o : Bool), RV P w X φ G v u → RV P w X φ G (if ok then .tup [v, .bool o] else v) (if ok then .tuple #[u, .bool o] else u) := fun v u o h => by
      cases ok
      · simpa using h
      · simp only [if_true]
        refine .tup rfl fun j x y h1 h2 => ?_
        match j with
        | 0 => simp at h1 h2; subst h1 h2; exact h
        | 1 => simp at h1 h2; subst h1 h2; exact .ro .bool
        | j + 2 => simp at h1
    rcases h2 with ⟨rfl, rfl⟩ | ⟨j, x, ent, rfl, rfl, q6, q7, q8⟩
    · exact ⟨_, by simp [Instr.lookup, run_underlying hu, Go.MapKept.run_getObj_map q1, hck, h1, hz], fin _ _ false hzr⟩
    · exact ⟨_, by simp [Instr.lookup, run_underlying hu, Go.MapKept.run_getObj_map q1, hck, h1], fin _ _ true q7⟩
/-- A map is written. -/
theorem update_sound (hr : HR P w0 X w φ G) {t id : Nat} {z k x : AV} {ks : Bool × List Nat} {es : List (AV × AV)} {m kv xv : Value} {b : Bool} {r : Option (Nat × AV)} (ht : mapTy P t = some (z, ks)) (hb : G[id]? = some (.map es)) (hm : RV P w X φ G (.mp id) m) (hk : RV P w X φ G k kv) (hx : RV P w X φ G x xv)
    (hs : keq ks k k = some b) (hf : mfind ks k es 0 = some r) : ∃ w', (Instr.mapUpdate t m kv xv).run P w = .ok () w' ∧ HR P w0 X w' φ (G.set id (.map (mput es r k x))) ∧ Turn w φ G w' φ (G.set id (.map (mput es r k x))) ∧ ∀ i, φ i = none → φ i = none ∧ (G.set id (.map (mput es r k x)))[i]? = G[i]? := by
  obtain ⟨kt, et, zv, hu, hks, rfl, hz⟩ := mapTy_spec ht
  cases hm with
  | ro h => cases h
  | mp g0 hid hv =>
    obtain ⟨c, hc, rfl⟩ := hv es hb
    obtain ⟨ents, clock, q1, q2, q3, q4, q5⟩ := hr.blk id _ c hb hc
    obtain ⟨r', h1, h2⟩ := findKey_sound hks hk hf q2 q5
    have hck := keq_check hks hs hk false
    have hlast : ∀ i, φ i = none → φ i = none ∧ (G.set id (.map (mput es r k x)))[i]? = G[i]? := fun i hi => ⟨hi, List.getElem?_set_ne (fun e => by subst e; rw [hi] at hc; simp at hc)⟩
    rcases h2 with ⟨rfl, rfl⟩ | ⟨j, x0, ent, rfl, rfl, q6, q7, q8⟩
    · refine ⟨_, by simp [Instr.mapUpdate, run_underlying hu, Go.MapKept.run_getObj_map q1, hck, h1, Go.MapKept.run_setObj_map _ q1]; rfl, hr_setMap hr hb hc q1 ?_ ?_ ?_ ?_, turn_setMap hr hb hc q1, hlast⟩
      · simp [mput, q2]
      · intro e he
        simp at he
        rcases he with he | rfl
        · have := q3 e (by simpa using he); omega
        · simp
      · rw [Array.toList_push, List.map_append, List.nodup_append]
        refine ⟨q4, by simp, fun y hy b' hb' => ?_⟩
        simp at hb'
        subst hb'
        obtain ⟨e, he, rfl⟩ := List.mem_map.1 hy
        have := q3 e he
        omega
      · intro i k' x' en h3 h4
        simp only [mput] at h3
        rw [List.getElem?_append] at h3
        rw [Array.getElem?_push] at h4
        by_cases hi : i < es.length
        · rw [if_pos hi] at h3
          rw [if_neg (by omega)] at h4
          exact q5 i k' x' en h3 h4
        · rw [if_neg hi] at h3
          by_cases hi2 : i = ents.size
          · rw [if_pos hi2] at h4
            simp at h4
            subst h4
            rw [show i - es.length = 0 by omega] at h3
            simp at h3
            obtain ⟨rfl, rfl⟩ := h3
            exact ⟨hk, hx⟩
          · rw [if_neg hi2] at h4
            have := (Array.getElem?_eq_some_iff.1 h4).1
            omega
    · have hj : j < ents.size := (Array.getElem?_eq_some_iff.1 q6).1
      refine ⟨_, by simp [Instr.mapUpdate, run_underlying hu, Go.MapKept.run_getObj_map q1, hck, h1, q6, Instr.keyThatStays, q8, Go.MapKept.run_setObj_map _ q1]; rfl, hr_setMap hr hb hc q1 ?_ ?_ ?_ ?_, turn_setMap hr hb hc q1, hlast⟩
      · simp [mput, q2]
      · intro e he
        obtain ⟨i, hi, rfl⟩ := List.getElem_of_mem he
        simp only [Array.getElem_toList, Array.getElem_modify]
        have hi' : i < ents.size := by simpa using hi
        have := q3 ents[i] (by simp)
        split <;> exact this
      · rw [Array.toList_modify]
        have : (ents.toList.modify j fun e => { e with key := kv, val := xv }).map (·.born) = ents.toList.map (·.born) := by
          apply List.ext_getElem?
          intro i
          simp only [List.getElem?_map, List.getElem?_modify]
          cases ents.toList[i]? with
          | none => rfl
          | some e => simp; split <;> rfl
        rw [this]; exact q4
      · intro i k' x' en h3 h4
        simp only [mput] at h3
        rw [Array.getElem?_modify] at h4
        rw [List.getElem?_set] at h3
        by_cases hi : j = i
        · subst hi
          rw [if_pos rfl, if_pos (by omega)] at h3
          simp at h3
          obtain ⟨rfl, rfl⟩ := h3
          rw [if_pos rfl, q6] at h4
          simp at h4
          subst h4
          exact ⟨hk, hx⟩
        · rw [if_neg hi] at h3 h4
          exact q5 i k' x' en h3 h4
end
end Go.Proofs.Ytnldjmokemgaoaa
