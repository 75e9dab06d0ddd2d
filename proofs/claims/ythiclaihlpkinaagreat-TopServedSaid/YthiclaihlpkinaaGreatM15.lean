/- Several texts of the abstract machine, one behind the other. -/
import Derived.Test.YthiclaihlpkinaaGreatChecked
import Derived.Test.YthiclaihlpkinaaGreatAbBase
import Derived.OpenShut
import Derived.ShutString
import Derived.ChangeOld
import Derived.Lib.SmallJoins
import Derived.Deep.Slices
import Derived.Deep.Strs
import Derived.Test.YthiclaihlpkinaaGreatM3
set_option linter.unusedSimpArgs false
set_option linter.unusedVariables false
set_option linter.unnecessarySimpa false
set_option linter.unusedSectionVars false
namespace Go.Proofs.YthiclaihlpkinaaGreat
open Go.ChangeShapes Go.WideShapes Go.ChangeAt Go.RowKit Go.Joins Go.Deep
variable [Glob]
theorem ownK : ownKnob Tryz.prog.godebug = none := by kernel_rfl
theorem laidK : laidOutB Tryz.prog = true := by kernel_rfl
section
variable (P : Program)
/-- The cells of a value of a type, read. -/
def shp : Nat → TypeId → List AV → Prop
  | 0, _, _ => False
  | n + 1, t, l => match P.underlying t with
    | some .bool => ∃ b, l = [.bool b]
    | some (.int k) => ∃ x, l = [.int k x] ∧ (Lit.int k x).wf = true
    | some .string => ∃ s, l = [.str s] ∧ s.size ≤ maxLen
    | some (.slice e) => ∃ rows, l = [.rs rows] ∧ rows.length ≤ maxLen ∧ ∀ row ∈ rows, shp n e row
    | some (.struct fs) => l.length = P.cellsOf t ∧ ∀ f ∈ fs.toList, shp n f.type ((l.drop f.offset).take (P.cellsOf f.type))
    | some (.array k e) => l.length = P.cellsOf t ∧ ∀ i, i < k → shp n e ((l.drop (i * P.cellsOf e)).take (P.cellsOf e))
    | _ => False
/-- Fields stand one behind the other. -/
def inRow : List Field → Nat → Nat → Bool
  | [], o, m => o == m
  | f :: fs, o, m => f.offset == o && inRow fs (o + P.cellsOf f.type) m
def plainT : Nat → TypeId → Bool
  | 0, _ => false
  | n + 1, t => match P.underlying t with
    | some .bool => true
    | some (.int _) => true
    | some .string => true
    | some (.slice e) => decide (0 < P.cellsOf e) && plainT n e
    | some (.struct fs) => inRow P fs.toList 0 (P.cellsOf t) && fs.toList.all fun f => plainT n f.type
    | some (.array k e) => k * P.cellsOf e == P.cellsOf t && plainT n e
    | _ => false
end
section
variable {H : Type} {enc : TypeId × Value → H} {P : Program} {w : World} {spare : Nat → Bool} {held : Bool} {base : Nat}
def ReadsL (w : World) (l : List AV) (cs : List Value) : Prop := l.length = cs.length ∧ (∀ (j : Nat) x v, l[j]? = some x → cs[j]? = some v → RO w (fun _ => False) x v) ∧ ∀ v ∈ cs, v.oneCell' = true
theorem ReadsL.one {x : AV} {v : Value} (h : RO w (fun _ => False) x v) (h1 : v.oneCell' = true) : ReadsL w [x] [v] :=
  ⟨rfl, fun j y u hy hu => by cases j with | zero => simp at hy hu; subst hy hu; exact h | succ j => simp at hy, by simpa using h1⟩
theorem ReadsL.append {l l' : List AV} {cs cs' : List Value} (h : ReadsL w l cs) (h' : ReadsL w l' cs') : ReadsL w (l ++ l') (cs ++ cs') := by
  obtain ⟨a1, a2, a3⟩ := h
  obtain ⟨b1, b2, b3⟩ := h'
  refine ⟨by simp [a1, b1], fun j x v hx hv => ?_, fun v hv => ?_⟩
  · by_cases hj : j < l.length
    · rw [List.getElem?_append_left hj] at hx
      rw [List.getElem?_append_left (by omega)] at hv
      exact a2 j x v hx hv
    · rw [List.getElem?_append_right (by omega)] at hx
      rw [List.getElem?_append_right (by omega)] at hv
      exact b2 _ x v hx (by rw [a1]; exact hv)
  · rw [List.mem_append] at hv
    exact hv.elim (a3 v) (b3 v)
theorem mapM_get {α β : Type} {f : α → Option β} {l : List α} {r : List β} (h : l.mapM f = some r) {j : Nat} {x : α} (hj : l[j]? = some x) : ∃ y, r[j]? = some y ∧ f x = some y := (mapM_spec h).2 j x hj
/-- Fields, one behind the other. -/
theorem fields_open {n : Nat} (ih : ∀ (t : TypeId) (fuel : Nat) (cs : List Value) (x : DataW H × List MemPlace), plainT P n t = true → DataW.trod enc P w base spare held fuel t cs = some x → ∃ l, ReadsL w l cs ∧ shp P n t l) {fuel : Nat} {cs : List Value} :
    ∀ (fs : List Field) (o m : Nat), inRow P fs o m = true → (∀ f ∈ fs, plainT P n f.type = true) → (∀ f ∈ fs, ∃ x, DataW.trod enc P w base spare held fuel f.type ((cs.drop f.offset).take (P.cellsOf f.type)) = some x) → cs.length = m → o ≤ m →
      ∃ l, ReadsL w l (cs.drop o) ∧ ∀ f ∈ fs, o ≤ f.offset ∧ shp P n f.type ((l.drop (f.offset - o)).take (P.cellsOf f.type)) := by
  intro fs
  induction fs with
  | nil =>
    intro o m h _ _ hl _
    simp [inRow] at h
    subst h
    exact ⟨[], by rw [List.drop_of_length_le (by omega)]; exact ⟨rfl, by simp, by simp⟩, by simp⟩
  | cons f fs ih2 =>
    intro o m h hp ht hl hom
    simp only [inRow, Bool.and_eq_true, beq_iff_eq] at h
    obtain ⟨h1, h2⟩ := h
    obtain ⟨x, hx⟩ := ht f (by simp)
    obtain ⟨l1, r1, s1⟩ := ih f.type fuel _ x (hp f (by simp)) hx
    have hle : o + P.cellsOf f.type ≤ m := by
      have : ∀ (gs : List Field) (o m : Nat), inRow P gs o m = true → o ≤ m := by
        intro gs
        induction gs with
        | nil => intro o m h; simp [inRow] at h; omega
        | cons g gs ih => intro o m h; simp only [inRow, Bool.and_eq_true] at h; have := ih _ _ h.2; omega
      exact this fs _ _ h2
    obtain ⟨l2, r2, s2⟩ := ih2 (o + P.cellsOf f.type) m h2 (fun g hg => hp g (by simp [hg])) (fun g hg => ht g (by simp [hg])) hl hle
    subst h1
    have hlen : l1.length = P.cellsOf f.type := by rw [r1.1]; simp; omega
    refine ⟨l1 ++ l2, ?_, fun g hg => ?_⟩
    · have : cs.drop f.offset = (cs.drop f.offset).take (P.cellsOf f.type) ++ cs.drop (f.offset + P.cellsOf f.type) := by
        rw [← List.drop_drop, List.take_append_drop]
      rw [this]
      exact r1.append r2
    · rcases List.mem_cons.1 hg with rfl | hg
      · refine ⟨Nat.le_refl _, ?_⟩
        rw [Nat.sub_self, List.drop_zero, List.take_append_of_le_length (by omega), List.take_of_length_le (by omega)]
        exact s1
      · obtain ⟨s3, s4⟩ := s2 g hg
        refine ⟨by omega, ?_⟩
        rw [List.drop_append, List.drop_of_length_le (by omega), List.nil_append, hlen, show g.offset - f.offset - P.cellsOf f.type = g.offset - (f.offset + P.cellsOf f.type) by omega]
        exact s4
/-- Elements of an array, one behind the other. -/
theorem elems_open {n : Nat} {e : TypeId} (ih : ∀ (t : TypeId) (fuel : Nat) (cs : List Value) (x : DataW H × List MemPlace), plainT P n t = true → DataW.trod enc P w base spare held fuel t cs = some x → ∃ l, ReadsL w l cs ∧ shp P n t l) {fuel : Nat} (hp : plainT P n e = true) :
    ∀ (k : Nat) (cs : List Value), (∀ i, i < k → ∃ x, DataW.trod enc P w base spare held fuel e ((cs.drop (i * P.cellsOf e)).take (P.cellsOf e)) = some x) → cs.length = k * P.cellsOf e →
      ∃ l, ReadsL w l cs ∧ ∀ i, i < k → shp P n e ((l.drop (i * P.cellsOf e)).take (P.cellsOf e)) := by
  intro k
  induction k with
  | zero =>
    intro cs _ hl
    have : cs = [] := List.eq_nil_of_length_eq_zero (by omega)
    subst this
    exact ⟨[], ⟨rfl, by simp, by simp⟩, fun i hi => by omega⟩
  | succ k ih2 =>
    intro cs ht hl
    obtain ⟨x, hx⟩ := ht 0 (by omega)
    rw [Nat.zero_mul, List.drop_zero] at hx
    obtain ⟨l1, r1, s1⟩ := ih e fuel _ x hp hx
    have hl' : cs.length = k * P.cellsOf e + P.cellsOf e := by rw [hl, Nat.add_mul]; omega
    obtain ⟨l2, r2, s2⟩ := ih2 (cs.drop (P.cellsOf e)) (fun i hi => by
      obtain ⟨y, hy⟩ := ht (i + 1) (by omega)
      refine ⟨y, ?_⟩
      rw [List.drop_drop, show P.cellsOf e + i * P.cellsOf e = (i + 1) * P.cellsOf e by rw [Nat.add_mul]; omega]
      exact hy) (by simp; omega)
    have hlen : l1.length = P.cellsOf e := by rw [r1.1]; simp; omega
    refine ⟨l1 ++ l2, ?_, fun i hi => ?_⟩
    · have : cs = cs.take (P.cellsOf e) ++ cs.drop (P.cellsOf e) := (List.take_append_drop _ _).symm
      rw [this]
      exact r1.append r2
    · cases i with
      | zero =>
        rw [Nat.zero_mul, List.drop_zero, List.take_append_of_le_length (by omega), List.take_of_length_le (by omega)]
        exact s1
      | succ i =>
        rw [List.drop_append, List.drop_of_length_le (by rw [Nat.add_mul]; omega), List.nil_append, hlen, show (i + 1) * P.cellsOf e - P.cellsOf e = i * P.cellsOf e by rw [Nat.add_mul]; omega]
        exact s2 i (by omega)
/-- **Everything of a plain type can be read.** -/
theorem open_trod : ∀ (n : Nat) (t : TypeId) (fuel : Nat) (cs : List Value) (x : DataW H × List MemPlace), plainT P n t = true → DataW.trod enc P w base spare held fuel t cs = some x → ∃ l, ReadsL w l cs ∧ shp P n t l := by
  intro n
  induction n with
  | zero => intro t fuel cs x h; simp [plainT] at h
  | succ n ih =>
    intro t fuel cs x hp h
    cases fuel with
    | zero => simp [DataW.trod] at h
    | succ fuel =>
      simp only [plainT] at hp
      simp only [shp]
      unfold DataW.trod at h
      split at hp
      · rename_i hu
        rw [hu] at h
        simp only at h
        have hb : ∃ b, cs = [.bool b] := by
          split at h <;> simp_all
        obtain ⟨b, rfl⟩ := hb
        exact ⟨[.bool b], .one .bool rfl, b, rfl⟩
      · rename_i k hu
        rw [hu] at h
        simp only at h
        have hb : ∃ m, cs = [.int k m] ∧ (Lit.int k m).wf = true := by
          split at h <;> simp_all
        obtain ⟨m, rfl, hw⟩ := hb
        exact ⟨[.int k m], .one .int rfl, m, rfl, hw⟩
      · rename_i hu
        rw [hu] at h
        simp only at h
        have hb : ∃ s, cs = [.string s] ∧ s.size ≤ maxLen := by
          split at h <;> simp_all
        obtain ⟨s, rfl, hc⟩ := hb
        exact ⟨[.str s], .one .str rfl, s, rfl, hc⟩
      · rename_i e hu
        rw [hu] at h
        simp only [Bool.and_eq_true, decide_eq_true_eq] at hp
        obtain ⟨hp0, hp⟩ := hp
        simp only at h
        have hb : cs = [.slice none 0 0] ∨ ∃ a len cap, cs = [.slice (some a) len cap] := by
          split at h <;> simp_all
        rcases hb with rfl | ⟨a, len, cap, rfl⟩
        · exact ⟨[.rs []], .one (.rs 0 (fun _ _ => undef) rfl (Nat.le_refl _) (fun i row hi => by simp at hi) (fun i j row x hi _ => by simp at hi)) rfl, [], rfl, by simp, by simp⟩
        · simp only at h
          split at h
          · rename_i hc
            obtain ⟨hc1, hc2, hc3⟩ := hc
            rw [Option.bind_eq_some_iff] at h
            obtain ⟨elems, he, _⟩ := h
            have hel := (mapM_spec he).1
            simp at hel
            have hrow : ∀ i, i < len → ∃ cells l, w.cells? base (a.add (i * P.cellsOf e)) (P.cellsOf e) = some cells ∧ ReadsL w l cells ∧ shp P n e l := fun i hi => by
              obtain ⟨y, _, h2⟩ := mapM_get he (j := i) (x := i) (by rw [List.getElem?_range hi])
              rw [Option.bind_eq_some_iff] at h2
              obtain ⟨cells, h3, h4⟩ := h2
              obtain ⟨l, h5, h6⟩ := ih e fuel cells y hp h4
              exact ⟨cells, l, h3, h5, h6⟩
            let cf : Nat → List Value := fun i => if h : i < len then Classical.choose (hrow i h) else []
            have hcf : ∀ i (h : i < len), ∃ l, w.cells? base (a.add (i * P.cellsOf e)) (P.cellsOf e) = some (cf i) ∧ ReadsL w l (cf i) ∧ shp P n e l := fun i h => by
              simp only [cf, h, dif_pos]; exact Classical.choose_spec (hrow i h)
            let lf : Nat → List AV := fun i => if h : i < len then Classical.choose (hcf i h) else []
            have hlf : ∀ i (h : i < len), w.cells? base (a.add (i * P.cellsOf e)) (P.cellsOf e) = some (cf i) ∧ ReadsL w (lf i) (cf i) ∧ shp P n e (lf i) := fun i h => by
              simp only [lf, h, dif_pos]; exact Classical.choose_spec (hcf i h)
            have hcell : ∀ i (h : i < len), (cf i).length = P.cellsOf e ∧ ∀ j (hj : j < (cf i).length), w.cell? (a.add (i * P.cellsOf e + j)) = some ((cf i)[j]'hj) := fun i h => by
              have h1 := (hlf i h).1
              unfold World.cells? at h1
              split at h1
              · have h2 := (mapM_spec h1).1
                simp at h2
                refine ⟨h2, fun j hj => ?_⟩
                obtain ⟨y, q1, q2⟩ := mapM_get h1 (j := j) (x := j) (by rw [List.getElem?_range (by omega)])
                rw [add_add] at q2
                rw [List.getElem?_eq_getElem hj] at q1
                simp at q1
                rw [q1]; exact q2
              · simp at h1
            refine ⟨[.rs ((List.range len).map lf)], .one (.rs (P.cellsOf e) (fun i j => (cf i).getD j undef) (by simp) hc2 (fun i row hi => ?_) (fun i j row y hi hj => ?_)) rfl, _, rfl, by simp; unfold maxLen at *; omega, fun row hr => ?_⟩
            · rw [List.getElem?_map, Option.map_eq_some_iff] at hi
              obtain ⟨i', hi, rfl⟩ := hi
              have hlt : i < len := by have := (List.getElem?_eq_some_iff.1 hi).1; simpa using this
              rw [List.getElem?_range hlt] at hi
              simp at hi
              subst hi
              obtain ⟨k1, k2⟩ := hcell i hlt
              refine ⟨by rw [(hlf i hlt).2.1.1, k1], a, rfl, ?_, fun h => h, fun j hj => ?_⟩
              · have := World.block_lt_of_cell? w _ (k2 0 (by omega))
                rw [add_block] at this; exact this
              · have hj' : j < (cf i).length := by omega
                rw [show (cf i).getD j undef = (cf i)[j] by simp [List.getD, hj']]
                exact ⟨k2 j hj', (hlf i hlt).2.1.2.2 _ (List.getElem_mem hj')⟩
            · rw [List.getElem?_map, Option.map_eq_some_iff] at hi
              obtain ⟨i', hi, rfl⟩ := hi
              have hlt : i < len := by have := (List.getElem?_eq_some_iff.1 hi).1; simpa using this
              rw [List.getElem?_range hlt] at hi
              simp at hi
              subst hi
              have hj' : j < (cf i).length := by rw [← (hlf i hlt).2.1.1]; exact (List.getElem?_eq_some_iff.1 hj).1
              refine (hlf i hlt).2.1.2.1 j y _ hj ?_
              simp [List.getD, hj']
            · obtain ⟨i, hi, rfl⟩ := List.mem_map.1 hr
              exact (hlf i (by simpa using hi)).2.2
          · simp at h
      · rename_i fs hu
        rw [hu] at h
        simp only [Bool.and_eq_true, List.all_eq_true] at hp
        simp only at h
        split at h
        · rename_i hl
          rw [Option.map_eq_some_iff] at h
          obtain ⟨xs, hx, _⟩ := h
          obtain ⟨l, h1, h2⟩ := fields_open (fun t fuel cs x h1 h2 => ih t fuel cs x h1 h2) (fuel := fuel) (cs := cs) fs.toList 0 _ hp.1 hp.2 (fun f hf => by
            obtain ⟨j, hj, rfl⟩ := List.getElem_of_mem hf
            obtain ⟨y, _, q⟩ := mapM_get hx (List.getElem?_eq_getElem hj)
            exact ⟨y, q⟩) hl (Nat.zero_le _)
          rw [List.drop_zero] at h1
          exact ⟨l, h1, by rw [h1.1]; exact hl, fun f hf => by simpa using (h2 f hf).2⟩
        · simp at h
      · rename_i k e hu
        rw [hu] at h
        simp only [Bool.and_eq_true, beq_iff_eq] at hp
        simp only at h
        split at h
        · rename_i hl
          rw [Option.map_eq_some_iff] at h
          obtain ⟨xs, hx, _⟩ := h
          obtain ⟨l, h1, h2⟩ := elems_open (fun t fuel cs x h1 h2 => ih t fuel cs x h1 h2) (fuel := fuel) hp.2 k cs (fun i hi => by
            obtain ⟨y, _, q⟩ := mapM_get hx (j := i) (x := i) (by rw [List.getElem?_range hi])
            exact ⟨y, q⟩) (by rw [hl, hp.1])
          exact ⟨l, h1, by rw [h1.1]; exact hl, h2⟩
        · simp at h
      · simp at hp
/-- An argument of a law. -/
def argS (P : Program) (t : TypeId) (x : AV) : Prop := match P.underlying t with
  | some (.struct _) => ∃ l, x = .agg l ∧ shp P 9 t l
  | some (.array _ _) => ∃ l, x = .agg l ∧ shp P 9 t l
  | _ => shp P 9 t [x]
theorem arg_open {t : TypeId} (hp : plainT P 9 t = true) (_ : true = true) {r : Reach} {b0 : Nat} {v : Value} {d : DataW H} {p : List MemPlace} (hv : Value.okWide P w r b0 t v) (h : DataW.Trod enc P w base spare held t v d p) :
    ∃ x, RO w (fun _ => False) x v ∧ argS P t x := by
  obtain ⟨fuel, hf⟩ := h
  obtain ⟨l, ⟨h1, h2, h3⟩, h4⟩ := open_trod 9 t fuel _ _ hp hf
  unfold argS
  have one : v.cells.toList = [v] → ∃ x, l = [x] ∧ RO w (fun _ => False) x v := fun hc => by
    rw [hc] at h1 h2
    match l, h1 with
    | [x], _ => exact ⟨x, rfl, h2 0 x v rfl rfl⟩
  cases hu : P.underlying t with
  | none => simp [plainT, hu] at hp
  | some k =>
    cases k
    case struct fs =>
      obtain ⟨cs, rfl, _⟩ := okWide_struct hu hv
      exact ⟨.agg l, .agg (by simpa [Value.cells] using h1) (by simpa [Value.cells] using h3) (fun j x v hx hv => h2 j x v hx (by simpa [Value.cells] using hv)), l, rfl, h4⟩
    case int q =>
      obtain ⟨m, rfl⟩ := okWide_int hu hv
      obtain ⟨x, rfl, hx⟩ := one rfl
      exact ⟨x, hx, h4⟩
    case bool =>
      obtain ⟨m, rfl⟩ := okWide_bool hu hv
      obtain ⟨x, rfl, hx⟩ := one rfl
      exact ⟨x, hx, h4⟩
    case string =>
      obtain ⟨m, rfl⟩ := okWide_string hu hv
      obtain ⟨x, rfl, hx⟩ := one rfl
      exact ⟨x, hx, h4⟩
    case slice e =>
      obtain ⟨A, m, c, rfl⟩ := okWide_slice hu hv
      obtain ⟨x, rfl, hx⟩ := one rfl
      exact ⟨x, hx, h4⟩
    case array k e =>
      obtain ⟨cs, rfl⟩ : ∃ cs, v = .agg cs := by
        simp only [Value.okWide, hu] at hv
        obtain ⟨cs, h1, h2, _⟩ := hv
        exact ⟨cs, h1⟩
      exact ⟨.agg l, .agg (by simpa [Value.cells] using h1) (by simpa [Value.cells] using h3) (fun j x v hx hv => h2 j x v hx (by simpa [Value.cells] using hv)), l, rfl, h4⟩
    all_goals simp [plainT, hu] at hp
theorem ro_tt {w : World} {X : Nat → Prop} {v : Value} (h : RO w X (.bool true) v) : v = .bool true := by cases h; rfl
end
end Go.Proofs.YthiclaihlpkinaaGreat
namespace Go.Proofs.YthiclaihlpkinaaGreat
open Go.RowKit
variable [Glob]
theorem rows_dec {α : Type} {f : α → List AV} {p : α → Prop} : ∀ (rows : List (List AV)), (∀ row ∈ rows, ∃ x, row = f x ∧ p x) → ∃ l, rows = rowsOf f l ∧ ∀ x ∈ l, p x := by
  intro rows
  induction rows with
  | nil => intro _; exact ⟨[], rfl, by simp⟩
  | cons r rows ih =>
    intro h
    obtain ⟨x, hx, hp⟩ := h r (by simp)
    obtain ⟨l, hl, hq⟩ := ih fun row hr => h row (by simp [hr])
    exact ⟨x :: l, by rw [hx, hl]; rfl, by intro y hy; rcases List.mem_cons.1 hy with rfl | hy; exact hp; exact hq y hy⟩
section
variable {P : Program} {n : Nat} {t : TypeId} {l : List AV} {x : AV}
theorem shp_int {k : IntKind} (h : P.underlying t = some (.int k)) (hs : shp P (n + 1) t l) : ∃ x, l = [.int k x] ∧ (Lit.int k x).wf = true := by simpa only [shp, h] using hs
theorem shp_bool (h : P.underlying t = some .bool) (hs : shp P (n + 1) t l) : ∃ b, l = [.bool b] := by simpa only [shp, h] using hs
theorem shp_str (h : P.underlying t = some .string) (hs : shp P (n + 1) t l) : ∃ s, l = [.str s] ∧ s.size ≤ maxLen := by simpa only [shp, h] using hs
theorem shp_slice {e : TypeId} (h : P.underlying t = some (.slice e)) (hs : shp P (n + 1) t l) : ∃ rows, l = [.rs rows] ∧ rows.length ≤ maxLen ∧ ∀ row ∈ rows, shp P n e row := by simpa only [shp, h] using hs
theorem shp_struct {fs : Array Field} (h : P.underlying t = some (.struct fs)) (hs : shp P (n + 1) t l) : l.length = P.cellsOf t ∧ ∀ f ∈ fs.toList, shp P n f.type ((l.drop f.offset).take (P.cellsOf f.type)) := by simpa only [shp, h] using hs
theorem arg_int {k : IntKind} (h : P.underlying t = some (.int k)) (hs : argS P t x) : ∃ i, x = .int k i ∧ (Lit.int k i).wf = true := by
  simp only [argS, h] at hs
  obtain ⟨i, h1, h2⟩ := shp_int h hs
  simp at h1
  exact ⟨i, h1, h2⟩
theorem arg_str (h : P.underlying t = some .string) (hs : argS P t x) : ∃ s, x = .str s ∧ s.size ≤ maxLen := by
  simp only [argS, h] at hs
  obtain ⟨i, h1, h2⟩ := shp_str h hs
  simp at h1
  exact ⟨i, h1, h2⟩
theorem arg_slice {e : TypeId} (h : P.underlying t = some (.slice e)) (hs : argS P t x) : ∃ rows, x = .rs rows ∧ rows.length ≤ maxLen ∧ ∀ row ∈ rows, shp P 8 e row := by
  simp only [argS, h] at hs
  obtain ⟨i, h1, h2⟩ := shp_slice h hs
  simp at h1
  exact ⟨i, h1, h2⟩
theorem arg_struct {fs : Array Field} (h : P.underlying t = some (.struct fs)) (hs : argS P t x) : ∃ l, x = .agg l ∧ l.length = P.cellsOf t ∧ ∀ f ∈ fs.toList, shp P 8 f.type ((l.drop f.offset).take (P.cellsOf f.type)) := by
  simp only [argS, h] at hs
  obtain ⟨l, h1, h2⟩ := hs
  exact ⟨l, h1, shp_struct h h2⟩
theorem arg_array {k : Nat} {e : TypeId} (h : P.underlying t = some (.array k e)) (hs : argS P t x) : ∃ l, x = .agg l ∧ l.length = P.cellsOf t ∧ ∀ i, i < k → shp P 8 e ((l.drop (i * P.cellsOf e)).take (P.cellsOf e)) := by
  unfold argS at hs
  rw [h] at hs
  obtain ⟨l, h1, h2⟩ := hs
  unfold shp at h2
  rw [h] at h2
  exact ⟨l, h1, h2⟩
end
theorem maxLen_eq : maxLen = 9223372036854775807 := by decide
/-- Numbers of 64 bits. -/
def inI (x : Int) : Prop := -9223372036854775808 ≤ x ∧ x ≤ 9223372036854775807
theorem inI_wf {x : Int} (h : (Lit.int .i64 x).wf = true) : inI x := by
  simp [Lit.wf, IntKind.min, IntKind.max, IntKind.signed, IntKind.bits] at h
  unfold inI
  omega
end Go.Proofs.YthiclaihlpkinaaGreat
