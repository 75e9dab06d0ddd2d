/- Several texts of the abstract machine, one behind the other. -/
import Derived.Test.YtpgoefakhecdnaaInsP
import Derived.Test.YtpgoefakhecdnaaMapL
import Derived.Test.YtpgoefakhecdnaaAbMv
import Derived.Test.YtpgoefakhecdnaaAbExec
import Derived.Test.YtpgoefakhecdnaaDel
/- The memory of the finder of instances. -/
namespace Go.Proofs.Ytpgoefakhecdnaa
set_option linter.unusedSimpArgs false
set_option linter.unusedVariables false
set_option linter.unnecessarySimpa false
set_option linter.unusedSectionVars false
open Go.RowKit
variable [Glob]
set_option maxRecDepth 100000
def xcC (x : Xc) : List AV := [.int .i64 x.st, .int .i64 x.rd, .int .i64 x.fr]
/-- A block behind the two fixed ones: the open executions of a key, or another one. -/
inductive FE where
  | ex (l : List Xc)
  | ot (b : Blk)
abbrev Fs := List FE
abbrev Es := List (Ky × Nat)
def blkF : FE → Blk
  | .ex l => .row 95 false (rowsOf xcC l)
  | .ot b => b
def kyA (k : Ky) : AV := .agg [.str k.1, .str k.2]
def valF (bs : Fs) (i : Nat) : AV := match bs[i]? with | some (.ex l) => .os (2 + i) l.length | _ => .any
def memF (es : Es) (fo : AV) (bs : Fs) : List Blk := [.box 66 [.mp 1, fo], .map (mE kyA (valF bs) es)] ++ bs.map blkF
theorem memF_len {es : Es} {fo : AV} {bs : Fs} : (memF es fo bs).length = 2 + bs.length := by simp [memF]; omega
theorem memF_get {es : Es} {fo : AV} {bs : Fs} {i : Nat} : (memF es fo bs)[2 + i]? = (bs[i]?).map blkF := by
  unfold memF
  rw [List.getElem?_append_right (by simp)]
  simp
theorem memF_getQ {es : Es} {fo : AV} {bs : Fs} {i : Nat} {b : FE} (hb : bs[i]? = some b) : (memF es fo bs)[2 + i]? = some (blkF b) := by rw [memF_get, hb]; rfl
theorem memF_0 {es : Es} {fo : AV} {bs : Fs} : (memF es fo bs)[0]? = some (.box 66 [.mp 1, fo]) := rfl
theorem memF_1 {es : Es} {fo : AV} {bs : Fs} : (memF es fo bs)[1]? = some (.map (mE kyA (valF bs) es)) := rfl
theorem memF_0E {es : Es} {fo : AV} {bs : Fs} {h : 0 < (memF es fo bs).length} : (memF es fo bs)[0]'h = .box 66 [.mp 1, fo] := rfl
theorem memF_1E {es : Es} {fo : AV} {bs : Fs} {h : 1 < (memF es fo bs).length} : (memF es fo bs)[1]'h = .map (mE kyA (valF bs) es) := rfl
/-- The entries lie where they are said to lie, each at a place of its own. -/
def EsOk (es : Es) (bs : Fs) : Prop := (es.map (·.2)).Nodup ∧ (es.map (·.1)).Nodup ∧ ∀ p ∈ es, ∃ l, bs[p.2]? = some (.ex l)
theorem valF_ex {bs : Fs} {i : Nat} {l : List Xc} (h : bs[i]? = some (.ex l)) : valF bs i = .os (2 + i) l.length := by unfold valF; rw [h]
theorem mE_same {vc vc' : Nat → AV} : ∀ es : Es, (∀ p ∈ es, vc p.2 = vc' p.2) → mE kyA vc es = mE kyA vc' es := fun es h => by
  unfold mE
  refine List.map_congr_left fun p hp => ?_
  rw [h p hp]
theorem memF_snoc {es : Es} {fo : AV} {bs : Fs} {b : Blk} (h : EsOk es bs) : memF es fo bs ++ [b] = memF es fo (bs ++ [.ot b]) := by
  unfold memF
  have : mE kyA (valF (bs ++ [.ot b])) es = mE kyA (valF bs) es := mE_same es fun p hp => by
    obtain ⟨l, hl⟩ := h.2.2 p hp
    rw [valF_ex hl, valF_ex (l := l) (by rw [List.getElem?_append_left (List.getElem?_eq_some_iff.1 hl).1]; exact hl)]
  rw [this]
  simp [blkF]
theorem EsOk.snoc {es : Es} {bs : Fs} {b : Blk} (h : EsOk es bs) : EsOk es (bs ++ [.ot b]) :=
  ⟨h.1, h.2.1, fun p hp => by obtain ⟨l, hl⟩ := h.2.2 p hp; exact ⟨l, by rw [List.getElem?_append_left (List.getElem?_eq_some_iff.1 hl).1]; exact hl⟩⟩
theorem memF_last {es : Es} {fo : AV} {bs : Fs} {b : Blk} : (memF es fo (bs ++ [.ot b]))[2 + bs.length]? = some b := by rw [memF_get]; simp [blkF]
theorem memF_lastE {es : Es} {fo : AV} {bs : Fs} {b : Blk} {h : 2 + bs.length < (memF es fo (bs ++ [.ot b])).length} : (memF es fo (bs ++ [.ot b]))[2 + bs.length]'h = b := by
  have := memF_last (es := es) (fo := fo) (bs := bs) (b := b)
  rw [List.getElem?_eq_getElem h] at this
  exact Option.some.inj this
theorem memF_getE {es : Es} {fo : AV} {bs : Fs} {i : Nat} {h : 2 + i < (memF es fo bs).length} : (memF es fo bs)[2 + i]'h = blkF (bs[i]'(by rw [memF_len] at h; omega)) := by
  have h2 : i < bs.length := by rw [memF_len] at h; omega
  have := memF_get (es := es) (fo := fo) (bs := bs) (i := i)
  rw [List.getElem?_eq_getElem h, List.getElem?_eq_getElem h2] at this
  exact Option.some.inj this
/-- The executions of a key that are open. -/
def lookF (es : Es) (bs : Fs) (k : Ky) : List Xc := match afind k es 0 with | some (_, i) => (match bs[i]? with | some (.ex l) => l | _ => []) | none => []
def valK (es : Es) (bs : Fs) (k : Ky) : AV := match afind k es 0 with | some (_, i) => valF bs i | none => .nils
theorem lookF_snoc {es : Es} {bs : Fs} {b : Blk} (h : EsOk es bs) (k : Ky) : lookF es (bs ++ [.ot b]) k = lookF es bs k := by
  unfold lookF
  cases hq : afind k es 0 with
  | none => rfl
  | some q =>
    obtain ⟨j, i⟩ := q
    obtain ⟨l, hl⟩ := h.2.2 (k, i) (List.mem_of_getElem? (afind_eq hq))
    simp only
    rw [List.getElem?_append_left (List.getElem?_eq_some_iff.1 hl).1]
theorem EsOk.more {es : Es} {bs : Fs} {xs : Fs} (h : EsOk es bs) : EsOk es (bs ++ xs) :=
  ⟨h.1, h.2.1, fun p hp => by obtain ⟨l, hl⟩ := h.2.2 p hp; exact ⟨l, by rw [List.getElem?_append_left (List.getElem?_eq_some_iff.1 hl).1]; exact hl⟩⟩
theorem mE_more {es : Es} {bs : Fs} {xs : Fs} (h : EsOk es bs) : mE kyA (valF (bs ++ xs)) es = mE kyA (valF bs) es := mE_same es fun p hp => by
  obtain ⟨l, hl⟩ := h.2.2 p hp
  rw [valF_ex hl, valF_ex (l := l) (by rw [List.getElem?_append_left (List.getElem?_eq_some_iff.1 hl).1]; exact hl)]
/-- A key that was not there before. -/
theorem memF_new {es : Es} {fo : AV} {bs : Fs} {k : Ky} {l : List Xc} {n : Nat} (h : EsOk es bs) (hn : n = l.length) :
    (memF es fo bs).set 1 (.map (mE kyA (valF bs) es ++ [(kyA k, .os (2 + bs.length) n)])) ++ [.row 95 false (rowsOf xcC l)] = memF (es ++ [(k, bs.length)]) fo (bs ++ [.ex l]) := by
  unfold memF
  have e : mE kyA (valF (bs ++ [.ex l])) (es ++ [(k, bs.length)]) = mE kyA (valF bs) es ++ [(kyA k, .os (2 + bs.length) n)] := by
    have h2 := mE_more (xs := [.ex l]) h
    unfold mE at h2 ⊢
    rw [List.map_append, h2, List.map_cons, List.map_nil, valF_ex (l := l) (by simp), hn]
  rw [e]
  simp [blkF]
theorem EsOk.new {es : Es} {bs : Fs} {k : Ky} {l : List Xc} (h : EsOk es bs) (hk : afind k es 0 = none) : EsOk (es ++ [(k, bs.length)]) (bs ++ [.ex l]) := by
  refine ⟨?_, ?_, fun p hp => ?_⟩
  · rw [List.map_append]
    refine List.nodup_append.2 ⟨h.1, by simp, fun x hx y hy => ?_⟩
    simp at hy
    obtain ⟨p, hp, rfl⟩ := List.mem_map.1 hx
    obtain ⟨l, hl⟩ := h.2.2 p hp
    have := (List.getElem?_eq_some_iff.1 hl).1
    omega
  · rw [List.map_append]
    refine List.nodup_append.2 ⟨h.2.1, by simp, fun x hx y hy e => ?_⟩
    simp at hy
    obtain ⟨p, hp, hpx⟩ := List.mem_map.1 hx
    have hpk : p.1 = k := by rw [hpx, e, hy]
    have : ∀ (r : Es) (i : Nat), p ∈ r → afind k r i ≠ none := by
      intro r
      induction r with
      | nil => intro i hm; cases hm
      | cons q r ih =>
        intro i hm
        simp only [afind]
        split
        · simp
        · rename_i hne
          rcases List.mem_cons.1 hm with rfl | hm
          · exact absurd hpk hne
          · exact ih _ hm
    exact this es 0 hp hk
  · rcases List.mem_append.1 hp with hp | hp
    · obtain ⟨l', hl⟩ := h.2.2 p hp
      exact ⟨l', by rw [List.getElem?_append_left (List.getElem?_eq_some_iff.1 hl).1]; exact hl⟩
    · simp at hp; subst hp; exact ⟨l, by simp⟩
theorem valF_app {bs : Fs} {i : Nat} {l : List Xc} {xs : Fs} (h : bs[i]? = some (.ex l)) : valF (bs ++ xs) i = .os (2 + i) l.length :=
  valF_ex (by rw [List.getElem?_append_left (List.getElem?_eq_some_iff.1 h).1]; exact h)
theorem xc_reify {H : List Blk} {n : Nat} {l : List Xc} : (rowsOf xcC l).mapM (fun row => row.mapM (reify H (n + 1))) = some (rowsOf xcC l) := rowsOf_reify fun x => by simp [xcC, reify]
theorem xc_refs {m : Nat} {l : List Xc} : refsR m (rowsOf xcC l) = true := rowsOf_refs fun x => by simp [xcC, refs]
theorem xc_all {l : List Xc} : allLen 3 (rowsOf xcC l) = true := rowsOf_allLen fun x => rfl
/-- A block without windows. -/
def mvI (b : Blk) : Prop := ∀ id n m N, mvB id n m N b = b
theorem mvI_box {t : TypeId} {l : List AV} (h : ∀ id n m N, mvL id n m N l = l) : mvI (.box t l) := fun id n m N => by simp only [mvB, h]
theorem mvI_key {t : TypeId} {a b : ByteArray} : mvI (.box t [.str a, .str b]) := fun _ _ _ _ => rfl
theorem mvI_int {t : TypeId} {n : Int} : mvI (.box t [.int .i64 n]) := fun _ _ _ _ => rfl
theorem mvI_row {t : TypeId} {nb : Bool} {a b c : Int} : mvI (.row t nb [[.int .i64 a, .int .i64 b, .int .i64 c]]) := fun _ _ _ _ => rfl
theorem ne1 {x : Nat} : (1 = 2 + x) = False := eq_false (by omega)
theorem ne0 {x : Nat} : (0 = 2 + x) = False := eq_false (by omega)
theorem ne1' {x : Nat} : (2 + x = 1) = False := eq_false (by omega)
theorem ne0' {x : Nat} : (2 + x = 0) = False := eq_false (by omega)
theorem lt1 {x : Nat} : (1 < 2 + x) = True := eq_true (by omega)
theorem lt0 {x : Nat} : (0 < 2 + x) = True := eq_true (by omega)
theorem fmf_key {es : Es} {vc : Nat → AV} {a b : ByteArray} : mfind (true, [2, 2]) (.agg [.str a, .str b]) (mE kyA vc es) 0 = some ((afind (a, b) es 0).map fun e => (e.1, vc e.2)) := by
  refine mfind_E (kc := kyA) (vc := vc) (ks := (true, [2, 2])) (fun x y => ?_) (a, b) es 0
  obtain ⟨x1, x2⟩ := x
  obtain ⟨y1, y2⟩ := y
  have hb : ∀ u v : ByteArray, (u.toList == v.toList) = decide (v = u) := fun u v => by
    by_cases h : v = u
    · subst h; simp
    · have : ¬ u.toList = v.toList := fun q => h (by rw [ba_toList, ba_toList] at q; cases u; cases v; simp at q; simp [q])
      simp [h, this]
  simp only [kyA, keq, eqCs, Option.some.injEq, hb, Bool.and_true]
  by_cases h1 : y1 = x1 <;> by_cases h2 : y2 = x2 <;> simp [h1, h2]
/-- The executions of a key that is there are others. -/
theorem idx_uniq {es : Es} {bs : Fs} {j j' : Nat} {p p' : Ky × Nat} (h : EsOk es bs) (h1 : es[j]? = some p) (h2 : es[j']? = some p') (he : p.2 = p'.2) : j = j' := by
  have hl1 := (List.getElem?_eq_some_iff.1 h1).1
  have hl2 := (List.getElem?_eq_some_iff.1 h2).1
  have hn := List.pairwise_iff_getElem.1 h.1
  have e1 : (es.map (·.2))[j]'(by simpa using hl1) = p.2 := by rw [List.getElem_map, (List.getElem?_eq_some_iff.1 h1).2]
  have e2 : (es.map (·.2))[j']'(by simpa using hl2) = p'.2 := by rw [List.getElem_map, (List.getElem?_eq_some_iff.1 h2).2]
  rcases Nat.lt_trichotomy j j' with q | q | q
  · exact absurd (e1.trans (he.trans e2.symm)) (hn j j' (by simpa using hl1) (by simpa using hl2) q)
  · exact q
  · exact absurd (e2.trans (he.symm.trans e1.symm)) (hn j' j (by simpa using hl2) (by simpa using hl1) q)
theorem mE_put {es : Es} {bs : Fs} {k : Ky} {j i : Nat} {L' : List Xc} (h : EsOk es bs) (hq : afind k es 0 = some (j, i)) (hi : i < bs.length) :
    (mE kyA (valF bs) es).set j (kyA k, .os (2 + i) L'.length) = mE kyA (valF (bs.set i (.ex L'))) es := by
  have hj := afind_eq hq
  refine List.ext_getElem? fun a => ?_
  simp only [mE, List.getElem?_set, List.getElem?_map, List.length_map]
  by_cases e : j = a
  · subst e
    rw [if_pos rfl, if_pos (List.getElem?_eq_some_iff.1 hj).1, hj]
    simp only [Option.map_some]
    rw [valF_ex (l := L') (by rw [List.getElem?_set, if_pos rfl, if_pos hi])]
  · rw [if_neg e]
    cases ha : es[a]? with
    | none => rfl
    | some p =>
      simp only [Option.map_some]
      have hne : ¬ i = p.2 := fun q => e (idx_uniq h hj ha q)
      have : valF (bs.set i (.ex L')) p.2 = valF bs p.2 := by
        unfold valF
        rw [List.getElem?_set, if_neg hne]
      rw [this]
theorem memF_put {es : Es} {fo : AV} {bs : Fs} {k : Ky} {j i n : Nat} {L' : List Xc} (h : EsOk es bs) (hq : afind k es 0 = some (j, i)) (hi : i < bs.length) (hn : n = L'.length) :
    ((memF es fo bs).set (2 + i) (.row 95 false (rowsOf xcC L'))).set 1 (.map ((mE kyA (valF bs) es).set j (kyA k, .os (2 + i) n))) = memF es fo (bs.set i (.ex L')) := by
  subst hn
  rw [mE_put h hq hi]
  unfold memF
  rw [Nat.add_comm 2 i]
  simp [List.map_set, blkF]
/-- .. of the same number. -/
theorem memF_same {es : Es} {fo : AV} {bs : Fs} {k : Ky} {j i : Nat} {L L' : List Xc} (h : EsOk es bs) (hq : afind k es 0 = some (j, i)) (hb : bs[i]? = some (.ex L)) (hn : L'.length = L.length) :
    (memF es fo bs).set (2 + i) (.row 95 false (rowsOf xcC L')) = memF es fo (bs.set i (.ex L')) := by
  have hi := (List.getElem?_eq_some_iff.1 hb).1
  rw [← memF_put (fo := fo) h hq hi hn.symm]
  have e : (mE kyA (valF bs) es).set j (kyA k, .os (2 + i) L.length) = mE kyA (valF bs) es := by
    have hj := afind_eq hq
    refine List.ext_getElem? fun a => ?_
    simp only [mE, List.getElem?_set, List.getElem?_map, List.length_map]
    by_cases e : j = a
    · subst e
      rw [if_pos rfl, if_pos (List.getElem?_eq_some_iff.1 hj).1, hj]
      simp only [Option.map_some]
      rw [valF_ex hb]
    · rw [if_neg e]
  rw [e]
  refine List.ext_getElem? fun a => ?_
  rw [List.getElem?_set (i := 1)]
  by_cases ha : 1 = a
  · subst ha
    rw [if_pos rfl, List.getElem?_set, if_neg (by omega), memF_1]
    simp [memF_len]
    omega
  · rw [if_neg ha]
theorem EsOk.put {es : Es} {bs : Fs} {i : Nat} {L' : List Xc} (h : EsOk es bs) (hi : i < bs.length) : EsOk es (bs.set i (.ex L')) :=
  ⟨h.1, h.2.1, fun p hp => by
    obtain ⟨l, hl⟩ := h.2.2 p hp
    by_cases e : i = p.2
    · exact ⟨L', by rw [List.getElem?_set, if_pos e, if_pos hi]⟩
    · exact ⟨l, by rw [List.getElem?_set, if_neg e]; exact hl⟩⟩
theorem lookF_put {es : Es} {bs : Fs} {k : Ky} {j i : Nat} {L' : List Xc} (h : EsOk es bs) (hq : afind k es 0 = some (j, i)) (hi : i < bs.length) (q : Ky) : lookF es (bs.set i (.ex L')) q = updF (lookF es bs) k L' q := by
  unfold updF
  by_cases e : q = k
  · subst e
    rw [if_pos rfl]
    unfold lookF
    rw [hq]
    simp only [List.getElem?_set, if_pos hi, if_true]
  · rw [if_neg e]
    unfold lookF
    cases hq2 : afind q es 0 with
    | none => rfl
    | some w =>
      obtain ⟨j2, i2⟩ := w
      simp only
      have hne : ¬ i = i2 := fun he => by
        have h1 := afind_eq hq
        have h2 := afind_eq hq2
        have := idx_uniq h h1 h2 he
        rw [this, h2] at h1
        simp at h1
        exact e h1.1
      rw [List.getElem?_set, if_neg hne]
theorem lookF_new {es : Es} {bs : Fs} {k : Ky} {l : List Xc} (h : EsOk es bs) (hk : afind k es 0 = none) (q : Ky) : lookF (es ++ [(k, bs.length)]) (bs ++ [.ex l]) q = updF (lookF es bs) k l q := by
  have key : ∀ (r : Es) (i : Nat), afind q (r ++ [(k, bs.length)]) i = match afind q r i with | some w => some w | none => if k = q then some (i + r.length, bs.length) else none := by
    intro r
    induction r with
    | nil => intro i; simp [afind]
    | cons p r ih =>
      intro i
      simp only [List.cons_append, afind]
      by_cases e : p.1 = q
      · rw [if_pos e, if_pos e]
      · rw [if_neg e, if_neg e, ih]
        cases afind q r (i + 1) with
        | some w => rfl
        | none => simp only [List.length_cons]; split <;> simp; omega
  unfold updF
  have hkk := key es 0
  by_cases e : q = k
  · subst e
    rw [if_pos rfl]
    unfold lookF
    rw [hkk, hk]
    simp
  · rw [if_neg e]
    unfold lookF
    rw [hkk]
    cases hq2 : afind q es 0 with
    | none => simp only; rw [if_neg (Ne.symm e)]
    | some w =>
      obtain ⟨j2, i2⟩ := w
      simp only
      obtain ⟨l2, hl2⟩ := h.2.2 (q, i2) (List.mem_of_getElem? (afind_eq hq2))
      rw [List.getElem?_append_left (List.getElem?_eq_some_iff.1 hl2).1]
theorem set121 {M : List Blk} {A B R : Blk} {i : Nat} : ((M.set 1 A).set (2 + i) R).set 1 B = (M.set (2 + i) R).set 1 B := by
  rw [List.set_comm _ _ (by omega : (1 : Nat) ≠ 2 + i), List.set_set]
theorem xc_snoc {l : List Xc} {x : Xc} : rowsOf xcC l ++ [xcC x] = rowsOf xcC (l ++ [x]) := by simp [rowsOf]
theorem xc_set {l : List Xc} {i : Nat} {x : Xc} : (rowsOf xcC l).set i (xcC x) = rowsOf xcC (l.set i x) := by simp [rowsOf, List.map_set]
theorem la01 {m : Nat} : (m < m + 1) = True := eq_true (by omega)
theorem la02 {m : Nat} : (m < m + 1 + 1) = True := eq_true (by omega)
theorem la03 {m : Nat} : (m < m + 1 + 1 + 1) = True := eq_true (by omega)
theorem la04 {m : Nat} : (m < m + 1 + 1 + 1 + 1) = True := eq_true (by omega)
theorem la05 {m : Nat} : (m < m + 1 + 1 + 1 + 1 + 1) = True := eq_true (by omega)
theorem la06 {m : Nat} : (m < m + 1 + 1 + 1 + 1 + 1 + 1) = True := eq_true (by omega)
theorem la12 {m : Nat} : (m + 1 < m + 1 + 1) = True := eq_true (by omega)
theorem la13 {m : Nat} : (m + 1 < m + 1 + 1 + 1) = True := eq_true (by omega)
theorem la14 {m : Nat} : (m + 1 < m + 1 + 1 + 1 + 1) = True := eq_true (by omega)
theorem la15 {m : Nat} : (m + 1 < m + 1 + 1 + 1 + 1 + 1) = True := eq_true (by omega)
theorem la16 {m : Nat} : (m + 1 < m + 1 + 1 + 1 + 1 + 1 + 1) = True := eq_true (by omega)
theorem la23 {m : Nat} : (m + 1 + 1 < m + 1 + 1 + 1) = True := eq_true (by omega)
theorem la24 {m : Nat} : (m + 1 + 1 < m + 1 + 1 + 1 + 1) = True := eq_true (by omega)
theorem la25 {m : Nat} : (m + 1 + 1 < m + 1 + 1 + 1 + 1 + 1) = True := eq_true (by omega)
theorem la26 {m : Nat} : (m + 1 + 1 < m + 1 + 1 + 1 + 1 + 1 + 1) = True := eq_true (by omega)
theorem la34 {m : Nat} : (m + 1 + 1 + 1 < m + 1 + 1 + 1 + 1) = True := eq_true (by omega)
theorem la35 {m : Nat} : (m + 1 + 1 + 1 < m + 1 + 1 + 1 + 1 + 1) = True := eq_true (by omega)
theorem la36 {m : Nat} : (m + 1 + 1 + 1 < m + 1 + 1 + 1 + 1 + 1 + 1) = True := eq_true (by omega)
theorem la45 {m : Nat} : (m + 1 + 1 + 1 + 1 < m + 1 + 1 + 1 + 1 + 1) = True := eq_true (by omega)
theorem la46 {m : Nat} : (m + 1 + 1 + 1 + 1 < m + 1 + 1 + 1 + 1 + 1 + 1) = True := eq_true (by omega)
theorem la56 {m : Nat} : (m + 1 + 1 + 1 + 1 + 1 < m + 1 + 1 + 1 + 1 + 1 + 1) = True := eq_true (by omega)
theorem na01 {m : Nat} : (m = m + 1) = False := eq_false (by omega)
theorem na02 {m : Nat} : (m = m + 1 + 1) = False := eq_false (by omega)
theorem na03 {m : Nat} : (m = m + 1 + 1 + 1) = False := eq_false (by omega)
theorem na04 {m : Nat} : (m = m + 1 + 1 + 1 + 1) = False := eq_false (by omega)
theorem na05 {m : Nat} : (m = m + 1 + 1 + 1 + 1 + 1) = False := eq_false (by omega)
theorem na10 {m : Nat} : (m + 1 = m) = False := eq_false (by omega)
theorem na12 {m : Nat} : (m + 1 = m + 1 + 1) = False := eq_false (by omega)
theorem na13 {m : Nat} : (m + 1 = m + 1 + 1 + 1) = False := eq_false (by omega)
theorem na14 {m : Nat} : (m + 1 = m + 1 + 1 + 1 + 1) = False := eq_false (by omega)
theorem na15 {m : Nat} : (m + 1 = m + 1 + 1 + 1 + 1 + 1) = False := eq_false (by omega)
theorem na20 {m : Nat} : (m + 1 + 1 = m) = False := eq_false (by omega)
theorem na21 {m : Nat} : (m + 1 + 1 = m + 1) = False := eq_false (by omega)
theorem na23 {m : Nat} : (m + 1 + 1 = m + 1 + 1 + 1) = False := eq_false (by omega)
theorem na24 {m : Nat} : (m + 1 + 1 = m + 1 + 1 + 1 + 1) = False := eq_false (by omega)
theorem na25 {m : Nat} : (m + 1 + 1 = m + 1 + 1 + 1 + 1 + 1) = False := eq_false (by omega)
theorem na30 {m : Nat} : (m + 1 + 1 + 1 = m) = False := eq_false (by omega)
theorem na31 {m : Nat} : (m + 1 + 1 + 1 = m + 1) = False := eq_false (by omega)
theorem na32 {m : Nat} : (m + 1 + 1 + 1 = m + 1 + 1) = False := eq_false (by omega)
theorem na34 {m : Nat} : (m + 1 + 1 + 1 = m + 1 + 1 + 1 + 1) = False := eq_false (by omega)
theorem na35 {m : Nat} : (m + 1 + 1 + 1 = m + 1 + 1 + 1 + 1 + 1) = False := eq_false (by omega)
theorem na40 {m : Nat} : (m + 1 + 1 + 1 + 1 = m) = False := eq_false (by omega)
theorem na41 {m : Nat} : (m + 1 + 1 + 1 + 1 = m + 1) = False := eq_false (by omega)
theorem na42 {m : Nat} : (m + 1 + 1 + 1 + 1 = m + 1 + 1) = False := eq_false (by omega)
theorem na43 {m : Nat} : (m + 1 + 1 + 1 + 1 = m + 1 + 1 + 1) = False := eq_false (by omega)
theorem na45 {m : Nat} : (m + 1 + 1 + 1 + 1 = m + 1 + 1 + 1 + 1 + 1) = False := eq_false (by omega)
theorem na50 {m : Nat} : (m + 1 + 1 + 1 + 1 + 1 = m) = False := eq_false (by omega)
theorem na51 {m : Nat} : (m + 1 + 1 + 1 + 1 + 1 = m + 1) = False := eq_false (by omega)
theorem na52 {m : Nat} : (m + 1 + 1 + 1 + 1 + 1 = m + 1 + 1) = False := eq_false (by omega)
theorem na53 {m : Nat} : (m + 1 + 1 + 1 + 1 + 1 = m + 1 + 1 + 1) = False := eq_false (by omega)
theorem na54 {m : Nat} : (m + 1 + 1 + 1 + 1 + 1 = m + 1 + 1 + 1 + 1) = False := eq_false (by omega)
theorem memF_setl {es : Es} {fo : AV} {bs : Fs} {b b' : Blk} : (memF es fo (bs ++ [.ot b])).set (2 + bs.length) b' = memF es fo (bs ++ [.ot b']) := by
  have hv : valF (bs ++ [.ot b]) = valF (bs ++ [.ot b']) := by
    funext i
    unfold valF
    by_cases h : i < bs.length
    · rw [List.getElem?_append_left h, List.getElem?_append_left h]
    · rw [List.getElem?_append_right (by omega), List.getElem?_append_right (by omega)]
      cases i - bs.length <;> simp
  unfold memF
  rw [hv, Nat.add_comm 2]
  simp [blkF, List.set_append]
theorem memF_set3 {es : Es} {fo : AV} {bs : Fs} {x y : FE} {b b' : Blk} : (memF es fo (bs ++ [x] ++ [y] ++ [.ot b])).set (2 + (bs.length + 1 + 1)) b' = memF es fo (bs ++ [x] ++ [y] ++ [.ot b']) := by
  have := memF_setl (es := es) (fo := fo) (bs := bs ++ [x] ++ [y]) (b := b) (b' := b')
  simpa only [List.length_append, List.length_singleton] using this
theorem memF_out {es : Es} {fo fo' : AV} {bs : Fs} : (memF es fo bs).set 0 (.box 66 [.mp 1, fo']) = memF es fo' bs := rfl
theorem memF_setot {es : Es} {fo : AV} {bs : Fs} {i : Nat} {b b' : Blk} (h : bs[i]? = some (.ot b)) : (memF es fo bs).set (2 + i) b' = memF es fo (bs.set i (.ot b')) := by
  have hv : valF (bs.set i (.ot b')) = valF bs := by
    funext j
    unfold valF
    rw [List.getElem?_set]
    by_cases e : i = j
    · subst e
      rw [if_pos rfl, if_pos (List.getElem?_eq_some_iff.1 h).1, h]
    · rw [if_neg e]
  unfold memF
  rw [hv, Nat.add_comm 2]
  simp [blkF, List.map_set]
theorem EsOk.setot {es : Es} {bs : Fs} {i : Nat} {b b' : Blk} (h : EsOk es bs) (hb : bs[i]? = some (.ot b)) : EsOk es (bs.set i (.ot b')) :=
  ⟨h.1, h.2.1, fun p hp => by
    obtain ⟨l, hl⟩ := h.2.2 p hp
    refine ⟨l, ?_⟩
    rw [List.getElem?_set]
    split
    · rename_i e
      rw [e, hl] at hb; simp at hb
    · exact hl⟩
theorem lookF_setot {es : Es} {bs : Fs} {i : Nat} {b b' : Blk} (h : EsOk es bs) (hb : bs[i]? = some (.ot b)) (k : Ky) : lookF es (bs.set i (.ot b')) k = lookF es bs k := by
  unfold lookF
  cases hq : afind k es 0 with
  | none => rfl
  | some w =>
    obtain ⟨j, i2⟩ := w
    obtain ⟨l, hl⟩ := h.2.2 (k, i2) (List.mem_of_getElem? (afind_eq hq))
    simp only
    rw [List.getElem?_set]
    by_cases e : i = i2
    · rw [e, hl] at hb; simp at hb
    · rw [if_neg e]
end Go.Proofs.Ytpgoefakhecdnaa

/- The finder's methods, walked: first. -/
namespace Go.Proofs.Ytpgoefakhecdnaa
set_option linter.unusedSimpArgs false
set_option linter.unusedVariables false
set_option linter.unnecessarySimpa false
set_option linter.unusedSectionVars false
open Go.RowKit
variable [Glob]
set_option maxRecDepth 100000
theorem exF_idx {p : Xc → Bool} {l : List Xc} {g : Nat} {caps : List AV} (hp : ∀ x ∈ l, Pure Try.prog g (.agg (xcC x) :: caps) (.bool (p x))) (hc : ∀ H k, caps.mapM (reify H (k + 5)) = some caps) (hf : refsL 0 caps = true) (hl : l.length ≤ 9223372036854775807) :
    Pure Try.prog 71 [.rs (rowsOf xcC l), .fn g caps] (.int .i64 (idxOf p l)) := by
  refine pure_of mixed Try.func71 rfl (by kernel_rfl) (of_decide_eq_true rfl) (by kernel_rfl) (vc_run ?_)
  simp -implicitDefEqProofs
  refine loop_intro (σ := Nat) (fun i => ⟨[(0, .rs (rowsOf xcC l)), (1, .fn g caps), (7, .int .i64 l.length), (8, .int .i64 i)], []⟩) (fun i => i ≤ l.length ∧ allF p (l.take i)) (fun i => l.length - i) 0 ⟨Nat.zero_le _, allF_nil⟩ ?_ ?_
  · refine weak_of 0 0 rfl rfl ?_ ?_ <;> simp [hf]
  · rintro i ⟨hi, hall⟩
    by_cases h : i < l.length
    · simp -implicitDefEqProofs [h, xcC]
      have hc8 : ∀ H, caps.mapM (reify H 8) = some caps := fun H => hc H 3
      refine call_intro (hp l[i] (by simp)) (by simp -implicitDefEqProofs [hc8, xcC]) (.inl rfl) ?_
      by_cases hpx : p l[i] = true
      · simp -implicitDefEqProofs [hpx]
        exact (idxOf_some p l i h hall hpx).symm
      · have hpx : p l[i] = false := by simpa using hpx
        simp -implicitDefEqProofs [hpx]
        refine ⟨i + 1, ⟨by omega, allF_succ hall h hpx⟩, by omega, weak_of 0 0 rfl rfl ?_ ?_⟩
        · simp [hf]
          exact (wrap_in (by omega) (by omega)).symm
        · simp
    · simp -implicitDefEqProofs [h]
      rw [idxOf_none p l (allF_all hall h)]
theorem fst1_pure (x : Xc) (s : Int) : Pure Try.prog 72 [.agg (xcC x), .rp [.int .i64 s]] (.bool (decide (x.st = s))) := by
  obtain ⟨a, b, c⟩ := x
  refine pure_of mixed Try.func72 rfl (by kernel_rfl) (of_decide_eq_true rfl) (by kernel_rfl) (vc_run ?_)
  ((try simp -implicitDefEqProofs [-loopQ_n, xcC]) <;> (repeat' (first | (refine condD_dec ?_ ?_ <;> (intro hc; (try simp -implicitDefEqProofs [-loopQ_n, hc, xcC]))) | (refine guardD_dec ?_ ?_ <;> (intro hc; (try simp -implicitDefEqProofs [-loopQ_n, hc, xcC]))) | (refine condD_intro ?_ ?_ <;> (intro hd; have hc := hd; (try simp at hc) <;> (try simp -implicitDefEqProofs [-loopQ_n, hd, hc, xcC]))) | (refine guardD_intro ?_ ?_ <;> (intro hd; have hc := hd; (try simp at hc) <;> (try simp -implicitDefEqProofs [-loopQ_n, hd, hc, xcC]))) | (refine ldD_ep ?_ ?_; (focus kernel_rfl); (try simp -implicitDefEqProofs [-loopQ_n, xcC])))))
theorem idx_pure (l : List Xc) (s : Int) (hl : l.length ≤ 1000000) : Pure Try.prog 71 [.rs (rowsOf xcC l), .fn 72 [.rp [.int .i64 s]]] (.int .i64 (idxOf (fun x : Xc => decide (x.st = s)) l)) :=
  exF_idx (p := fun x => decide (x.st = s)) (fun x _ => fst1_pure x s) (fun H k => by simp [reify]) (by simp [refsL, refs]) (by omega)
set_option maxHeartbeats 8000000 in
theorem first_G {es : Es} {fo : AV} {bs : Fs} {k : Ky} {s : Int} {K : AV → List Blk → Prop} (hE : EsOk es bs) (hl : (lookF es bs k).length ≤ 1000000)
    (hK : ∀ a b : Blk, mvI a → mvI b → K (.int .i64 (idxOf (fun x : Xc => decide (x.st = s)) (lookF es bs k))) (memF es fo (bs ++ [.ot a] ++ [.ot b]))) :
    CallG Try.prog 57 [.op 0 0, kyA k, .int .i64 s] (memF es fo bs) K := by
  obtain ⟨c, a⟩ := k
  have hI := idx_pure (lookF es bs (c, a)) s hl
  have sn := fun b => memF_snoc (fo := fo) (b := b) hE
  have sn2 := fun b0 b => memF_snoc (fo := fo) (b := b) (hE.snoc (b := b0))
  have hk := fun vc => fmf_key (es := es) (vc := vc) (a := c) (b := a)
  simp only [kyA]
  cases hq : afind (c, a) es 0 with
  | none =>
    have hL : lookF es bs (c, a) = [] := by unfold lookF; rw [hq]
    rw [hL] at hI hK
    refine inl_G mixed Try.func57 rfl (by kernel_rfl) (of_decide_eq_true rfl) (by kernel_rfl) (vc_run ?_)
    ((try simp -implicitDefEqProofs [-loopQ_n, sn, sn2, memF_0, memF_0E, memF_1, memF_1E, memF_len, memF_get, memF_getE, List.getElem?_append, List.getElem_append, blkF, hk, hq, -List.append_assoc, rowsOf_nil]) <;> (repeat' (first | (refine condD_dec ?_ ?_ <;> (intro hc; (try simp -implicitDefEqProofs [-loopQ_n, hc, sn, sn2, memF_0, memF_0E, memF_1, memF_1E, memF_len, memF_get, memF_getE, List.getElem?_append, List.getElem_append, blkF, hk, hq, -List.append_assoc, rowsOf_nil]))) | (refine guardD_dec ?_ ?_ <;> (intro hc; (try simp -implicitDefEqProofs [-loopQ_n, hc, sn, sn2, memF_0, memF_0E, memF_1, memF_1E, memF_len, memF_get, memF_getE, List.getElem?_append, List.getElem_append, blkF, hk, hq, -List.append_assoc, rowsOf_nil]))) | (refine condD_intro ?_ ?_ <;> (intro hd; have hc := hd; (try simp at hc) <;> (try simp -implicitDefEqProofs [-loopQ_n, hd, hc, sn, sn2, memF_0, memF_0E, memF_1, memF_1E, memF_len, memF_get, memF_getE, List.getElem?_append, List.getElem_append, blkF, hk, hq, -List.append_assoc, rowsOf_nil]))) | (refine guardD_intro ?_ ?_ <;> (intro hd; have hc := hd; (try simp at hc) <;> (try simp -implicitDefEqProofs [-loopQ_n, hd, hc, sn, sn2, memF_0, memF_0E, memF_1, memF_1E, memF_len, memF_get, memF_getE, List.getElem?_append, List.getElem_append, blkF, hk, hq, -List.append_assoc, rowsOf_nil]))) | (refine ldD_ep ?_ ?_; (focus kernel_rfl); (try simp -implicitDefEqProofs [-loopQ_n, sn, sn2, memF_0, memF_0E, memF_1, memF_1E, memF_len, memF_get, memF_getE, List.getElem?_append, List.getElem_append, blkF, hk, hq, -List.append_assoc, rowsOf_nil])) | (refine callS_mk ?_; (try simp -implicitDefEqProofs [-loopQ_n, sn, sn2, memF_0, memF_0E, memF_1, memF_1E, memF_len, memF_get, memF_getE, List.getElem?_append, List.getElem_append, blkF, hk, hq, -List.append_assoc, rowsOf_nil]); (first | refine callS_intro (hI) (.inl rfl) ?_); (try simp -implicitDefEqProofs [-loopQ_n, sn, sn2, memF_0, memF_0E, memF_1, memF_1E, memF_len, memF_get, memF_getE, List.getElem?_append, List.getElem_append, blkF, hk, hq, -List.append_assoc, rowsOf_nil])))))
    exact endG_r _ rfl (hK _ _ mvI_key mvI_int)
  | some q =>
    obtain ⟨j, i⟩ := q
    obtain ⟨L, hb⟩ := hE.2.2 ((c, a), i) (List.mem_of_getElem? (afind_eq hq))
    have hL : lookF es bs (c, a) = L := by unfold lookF; rw [hq]; simp only; rw [hb]
    rw [hL] at hI hK
    have hi := (List.getElem?_eq_some_iff.1 hb).1
    have hi1 : i < bs.length + 1 := by omega
    have hi2 : i < bs.length + 1 + 1 := by omega
    have hbE : bs[i] = .ex L := (List.getElem?_eq_some_iff.1 hb).2
    have hv := fun x y => valF_app (xs := [x, y]) hb
    have hv2 := fun x y => by have := valF_app (bs := bs ++ [x]) (xs := [y]) (by rw [List.getElem?_append_left hi]; exact hb); exact this
    refine inl_G mixed Try.func57 rfl (by kernel_rfl) (of_decide_eq_true rfl) (by kernel_rfl) (vc_run ?_)
    ((try simp -implicitDefEqProofs [-loopQ_n, sn, sn2, memF_0, memF_0E, memF_1, memF_1E, memF_len, memF_get, memF_getE, List.getElem?_append, List.getElem_append, blkF, hk, hq, hv2, hi, hi1, hi2, hb, hbE, -List.append_assoc, xc_reify, rowsOf_length]) <;> (repeat' (first | (refine condD_dec ?_ ?_ <;> (intro hc; (try simp -implicitDefEqProofs [-loopQ_n, hc, sn, sn2, memF_0, memF_0E, memF_1, memF_1E, memF_len, memF_get, memF_getE, List.getElem?_append, List.getElem_append, blkF, hk, hq, hv2, hi, hi1, hi2, hb, hbE, -List.append_assoc, xc_reify, rowsOf_length]))) | (refine guardD_dec ?_ ?_ <;> (intro hc; (try simp -implicitDefEqProofs [-loopQ_n, hc, sn, sn2, memF_0, memF_0E, memF_1, memF_1E, memF_len, memF_get, memF_getE, List.getElem?_append, List.getElem_append, blkF, hk, hq, hv2, hi, hi1, hi2, hb, hbE, -List.append_assoc, xc_reify, rowsOf_length]))) | (refine condD_intro ?_ ?_ <;> (intro hd; have hc := hd; (try simp at hc) <;> (try simp -implicitDefEqProofs [-loopQ_n, hd, hc, sn, sn2, memF_0, memF_0E, memF_1, memF_1E, memF_len, memF_get, memF_getE, List.getElem?_append, List.getElem_append, blkF, hk, hq, hv2, hi, hi1, hi2, hb, hbE, -List.append_assoc, xc_reify, rowsOf_length]))) | (refine guardD_intro ?_ ?_ <;> (intro hd; have hc := hd; (try simp at hc) <;> (try simp -implicitDefEqProofs [-loopQ_n, hd, hc, sn, sn2, memF_0, memF_0E, memF_1, memF_1E, memF_len, memF_get, memF_getE, List.getElem?_append, List.getElem_append, blkF, hk, hq, hv2, hi, hi1, hi2, hb, hbE, -List.append_assoc, xc_reify, rowsOf_length]))) | (refine ldD_ep ?_ ?_; (focus kernel_rfl); (try simp -implicitDefEqProofs [-loopQ_n, sn, sn2, memF_0, memF_0E, memF_1, memF_1E, memF_len, memF_get, memF_getE, List.getElem?_append, List.getElem_append, blkF, hk, hq, hv2, hi, hi1, hi2, hb, hbE, -List.append_assoc, xc_reify, rowsOf_length])) | (refine callS_mk ?_; (try simp -implicitDefEqProofs [-loopQ_n, sn, sn2, memF_0, memF_0E, memF_1, memF_1E, memF_len, memF_get, memF_getE, List.getElem?_append, List.getElem_append, blkF, hk, hq, hv2, hi, hi1, hi2, hb, hbE, -List.append_assoc, xc_reify, rowsOf_length]); (first | refine callS_intro (hI) (.inl rfl) ?_); (try simp -implicitDefEqProofs [-loopQ_n, sn, sn2, memF_0, memF_0E, memF_1, memF_1E, memF_len, memF_get, memF_getE, List.getElem?_append, List.getElem_append, blkF, hk, hq, hv2, hi, hi1, hi2, hb, hbE, -List.append_assoc, xc_reify, rowsOf_length])))))
    exact endG_r _ rfl (hK _ _ mvI_key mvI_int)
end Go.Proofs.Ytpgoefakhecdnaa

/- The finder's methods, walked: begin. -/
namespace Go.Proofs.Ytpgoefakhecdnaa
set_option linter.unusedSimpArgs false
set_option linter.unusedVariables false
set_option linter.unnecessarySimpa false
set_option linter.unusedSectionVars false
open Go.RowKit
variable [Glob]
set_option maxRecDepth 100000
set_option maxHeartbeats 8000000 in
theorem begin_none {es : Es} {fo : AV} {bs : Fs} {k : Ky} {s t : Int} {K : AV → List Blk → Prop} (hE : EsOk es bs) (hq : afind k es 0 = none)
    (hK : ∀ a b : Blk, mvI a → mvI b → K (.tup []) (memF (es ++ [(k, bs.length + 2)]) fo (bs ++ [.ot a] ++ [.ot b] ++ [.ex [⟨s, t, t⟩]]))) :
    CallG Try.prog 56 [.op 0 0, kyA k, .int .i64 s, .int .i64 t] (memF es fo bs) K := by
  obtain ⟨c, a⟩ := k
  have sn := fun b => memF_snoc (fo := fo) (b := b) hE
  have sn2 := fun b0 b => memF_snoc (fo := fo) (b := b) (hE.snoc (b := b0))
  have hk := fun vc => fmf_key (es := es) (vc := vc) (a := c) (b := a)
  simp only [kyA]
  refine inl_M [1] mixed Try.func56 rfl (by kernel_rfl) (of_decide_eq_true rfl) (by kernel_rfl) (vc_run ?_)
  ((try simp -implicitDefEqProofs [-loopQ_n, sn, sn2, memF_0, memF_0E, memF_1, memF_1E, memF_len, memF_get, memF_getE, List.getElem?_append, List.getElem_append, List.getElem?_set, List.getElem_set, blkF, hk, hq, ne0, ne1, ne0', ne1', lt0, lt1, mE_len, -List.append_assoc]) <;> (repeat' (first | (refine condD_dec ?_ ?_ <;> (intro hc; (try simp -implicitDefEqProofs [-loopQ_n, hc, sn, sn2, memF_0, memF_0E, memF_1, memF_1E, memF_len, memF_get, memF_getE, List.getElem?_append, List.getElem_append, List.getElem?_set, List.getElem_set, blkF, hk, hq, ne0, ne1, ne0', ne1', lt0, lt1, mE_len, -List.append_assoc]))) | (refine guardD_dec ?_ ?_ <;> (intro hc; (try simp -implicitDefEqProofs [-loopQ_n, hc, sn, sn2, memF_0, memF_0E, memF_1, memF_1E, memF_len, memF_get, memF_getE, List.getElem?_append, List.getElem_append, List.getElem?_set, List.getElem_set, blkF, hk, hq, ne0, ne1, ne0', ne1', lt0, lt1, mE_len, -List.append_assoc]))) | (refine condD_intro ?_ ?_ <;> (intro hd; have hc := hd; (try simp at hc) <;> (try simp -implicitDefEqProofs [-loopQ_n, hd, hc, sn, sn2, memF_0, memF_0E, memF_1, memF_1E, memF_len, memF_get, memF_getE, List.getElem?_append, List.getElem_append, List.getElem?_set, List.getElem_set, blkF, hk, hq, ne0, ne1, ne0', ne1', lt0, lt1, mE_len, -List.append_assoc]))) | (refine guardD_intro ?_ ?_ <;> (intro hd; have hc := hd; (try simp at hc) <;> (try simp -implicitDefEqProofs [-loopQ_n, hd, hc, sn, sn2, memF_0, memF_0E, memF_1, memF_1E, memF_len, memF_get, memF_getE, List.getElem?_append, List.getElem_append, List.getElem?_set, List.getElem_set, blkF, hk, hq, ne0, ne1, ne0', ne1', lt0, lt1, mE_len, -List.append_assoc]))) | (refine ldD_ep ?_ ?_; (focus kernel_rfl); (try simp -implicitDefEqProofs [-loopQ_n, sn, sn2, memF_0, memF_0E, memF_1, memF_1E, memF_len, memF_get, memF_getE, List.getElem?_append, List.getElem_append, List.getElem?_set, List.getElem_set, blkF, hk, hq, ne0, ne1, ne0', ne1', lt0, lt1, mE_len, -List.append_assoc])) | ((first | (refine ld2_op ?_ ?_; (focus kernel_rfl)) | (refine ld2_ep ?_ ?_; (focus kernel_rfl)) | (refine nbx_intro ?_ ?_; (focus kernel_rfl)) | (refine nbx_fin ?_; (focus kernel_rfl))); (try simp -implicitDefEqProofs [-loopQ_n, sn, sn2, memF_0, memF_0E, memF_1, memF_1E, memF_len, memF_get, memF_getE, List.getElem?_append, List.getElem_append, List.getElem?_set, List.getElem_set, blkF, hk, hq, ne0, ne1, ne0', ne1', lt0, lt1, mE_len, -List.append_assoc])))))
  refine endG_n (.tup []) rfl ?_
  have hE2 := hE.more (xs := [.ot (.box 91 [.str c, .str a])])
  have hE3 := hE2.more (xs := [.ot (.row 95 false [[.int .i64 s, .int .i64 t, .int .i64 t]])])
  have := memF_new (fo := fo) (k := (c, a)) (l := [⟨s, t, t⟩]) (n := 1) hE3 rfl
  simp only [List.length_append, List.length_singleton] at this
  rw [show bs.length + 1 + 1 = bs.length + 2 by omega] at this ⊢
  rw [show [[AV.int .i64 s, .int .i64 t, .int .i64 t]] = rowsOf xcC [⟨s, t, t⟩] from rfl, ← show kyA (c, a) = .agg [.str c, .str a] from rfl]
  refine (congrArg (K _) this).mpr (hK _ _ mvI_key mvI_row)
set_option maxHeartbeats 8000000 in
theorem begin_some {es : Es} {fo : AV} {bs : Fs} {k : Ky} {s t : Int} {j i : Nat} {L : List Xc} {K : AV → List Blk → Prop} (hE : EsOk es bs) (hq : afind k es 0 = some (j, i)) (hb : bs[i]? = some (.ex L)) (hl : L.length ≤ 1000000)
    (hK : ∀ a b : Blk, mvI a → mvI b → K (.tup []) (memF es fo (List.set (bs ++ [FE.ot a] ++ [FE.ot b]) i (FE.ex (L ++ [(⟨s, t, t⟩ : Xc)]))))) :
    CallG Try.prog 56 [.op 0 0, kyA k, .int .i64 s, .int .i64 t] (memF es fo bs) K := by
  obtain ⟨c, a⟩ := k
  have sn := fun b => memF_snoc (fo := fo) (b := b) hE
  have sn2 := fun b0 b => memF_snoc (fo := fo) (b := b) (hE.snoc (b := b0))
  have hk := fun vc => fmf_key (es := es) (vc := vc) (a := c) (b := a)
  have hi := (List.getElem?_eq_some_iff.1 hb).1
  have hi1 : i < bs.length + 1 := by omega
  have hi2 : i < bs.length + 1 + 1 := by omega
  have hbE : bs[i] = .ex L := (List.getElem?_eq_some_iff.1 hb).2
  have hv2 := fun x y => by have := valF_app (bs := bs ++ [x]) (xs := [y]) (by rw [List.getElem?_append_left hi]; exact hb); exact this
  have hj := afind_eq hq
  have hjl := (List.getElem?_eq_some_iff.1 hj).1
  have hjm : ∀ vc : Nat → AV, (mE kyA vc es)[j]? = some (kyA (c, a), vc i) := fun vc => by simp [mE, hj]
  have h5 : L.length + 1 ≤ 1073741824 := by omega
  simp only [kyA] at hjm
  simp only [kyA]
  refine inl_M [1] mixed Try.func56 rfl (by kernel_rfl) (of_decide_eq_true rfl) (by kernel_rfl) (vc_run ?_)
  ((try simp -implicitDefEqProofs [-loopQ_n, sn, sn2, memF_0, memF_0E, memF_1, memF_1E, memF_len, memF_get, memF_getE, List.getElem?_append, List.getElem_append, List.getElem?_set, List.getElem_set, blkF, hk, hq, hv2, hi, hi1, hi2, hb, hbE, hjm, hjl, h5, rowsOf_length, ne0, ne1, ne0', ne1', lt0, lt1, mE_len, -List.append_assoc]) <;> (repeat' (first | (refine condD_dec ?_ ?_ <;> (intro hc; (try simp -implicitDefEqProofs [-loopQ_n, hc, sn, sn2, memF_0, memF_0E, memF_1, memF_1E, memF_len, memF_get, memF_getE, List.getElem?_append, List.getElem_append, List.getElem?_set, List.getElem_set, blkF, hk, hq, hv2, hi, hi1, hi2, hb, hbE, hjm, hjl, h5, rowsOf_length, ne0, ne1, ne0', ne1', lt0, lt1, mE_len, -List.append_assoc]))) | (refine guardD_dec ?_ ?_ <;> (intro hc; (try simp -implicitDefEqProofs [-loopQ_n, hc, sn, sn2, memF_0, memF_0E, memF_1, memF_1E, memF_len, memF_get, memF_getE, List.getElem?_append, List.getElem_append, List.getElem?_set, List.getElem_set, blkF, hk, hq, hv2, hi, hi1, hi2, hb, hbE, hjm, hjl, h5, rowsOf_length, ne0, ne1, ne0', ne1', lt0, lt1, mE_len, -List.append_assoc]))) | (refine condD_intro ?_ ?_ <;> (intro hd; have hc := hd; (try simp at hc) <;> (try simp -implicitDefEqProofs [-loopQ_n, hd, hc, sn, sn2, memF_0, memF_0E, memF_1, memF_1E, memF_len, memF_get, memF_getE, List.getElem?_append, List.getElem_append, List.getElem?_set, List.getElem_set, blkF, hk, hq, hv2, hi, hi1, hi2, hb, hbE, hjm, hjl, h5, rowsOf_length, ne0, ne1, ne0', ne1', lt0, lt1, mE_len, -List.append_assoc]))) | (refine guardD_intro ?_ ?_ <;> (intro hd; have hc := hd; (try simp at hc) <;> (try simp -implicitDefEqProofs [-loopQ_n, hd, hc, sn, sn2, memF_0, memF_0E, memF_1, memF_1E, memF_len, memF_get, memF_getE, List.getElem?_append, List.getElem_append, List.getElem?_set, List.getElem_set, blkF, hk, hq, hv2, hi, hi1, hi2, hb, hbE, hjm, hjl, h5, rowsOf_length, ne0, ne1, ne0', ne1', lt0, lt1, mE_len, -List.append_assoc]))) | (refine ldD_ep ?_ ?_; (focus kernel_rfl); (try simp -implicitDefEqProofs [-loopQ_n, sn, sn2, memF_0, memF_0E, memF_1, memF_1E, memF_len, memF_get, memF_getE, List.getElem?_append, List.getElem_append, List.getElem?_set, List.getElem_set, blkF, hk, hq, hv2, hi, hi1, hi2, hb, hbE, hjm, hjl, h5, rowsOf_length, ne0, ne1, ne0', ne1', lt0, lt1, mE_len, -List.append_assoc])) | ((first | (refine ld2_op ?_ ?_; (focus kernel_rfl)) | (refine ld2_ep ?_ ?_; (focus kernel_rfl)) | (refine nbx_intro ?_ ?_; (focus kernel_rfl)) | (refine nbx_fin ?_; (focus kernel_rfl))); (try simp -implicitDefEqProofs [-loopQ_n, sn, sn2, memF_0, memF_0E, memF_1, memF_1E, memF_len, memF_get, memF_getE, List.getElem?_append, List.getElem_append, List.getElem?_set, List.getElem_set, blkF, hk, hq, hv2, hi, hi1, hi2, hb, hbE, hjm, hjl, h5, rowsOf_length, ne0, ne1, ne0', ne1', lt0, lt1, mE_len, -List.append_assoc])))))
  refine endG_n (.tup []) rfl ?_
  have hE2 := hE.more (xs := [.ot (.box 91 [.str c, .str a])])
  have hE3 := hE2.more (xs := [.ot (.row 95 false [[.int .i64 s, .int .i64 t, .int .i64 t]])])
  have hp := memF_put (fo := fo) (k := (c, a)) (n := L.length + 1) (L' := L ++ [⟨s, t, t⟩]) hE3 hq (by simp; omega) (by simp)
  have hsn : rowsOf xcC L ++ [[.int .i64 s, .int .i64 t, .int .i64 t]] = rowsOf xcC (L ++ [⟨s, t, t⟩]) := xc_snoc (x := ⟨s, t, t⟩)
  simp only [set121, hsn]
  exact (congrArg (K _) hp).mpr (hK _ _ mvI_key mvI_row)
end Go.Proofs.Ytpgoefakhecdnaa

/- The finder's methods, walked: change. -/
namespace Go.Proofs.Ytpgoefakhecdnaa
set_option linter.unusedSimpArgs false
set_option linter.unusedVariables false
set_option linter.unnecessarySimpa false
set_option linter.unusedSectionVars false
open Go.RowKit
variable [Glob]
set_option maxRecDepth 100000
theorem idx_none {s : Int} {L : List Xc} (h : fstX s L = none) : idxOf (fun x : Xc => decide (x.st = s)) L = -1 := by unfold idxOf; rw [show L.findIdx? _ = none from h]
theorem idx_some {s : Int} {L : List Xc} {n : Nat} (h : fstX s L = some n) : idxOf (fun x : Xc => decide (x.st = s)) L = n := by unfold idxOf; rw [show L.findIdx? _ = some n from h]
theorem fst_lt {s : Int} {L : List Xc} {n : Nat} (h : fstX s L = some n) : n < L.length := by
  unfold fstX at h
  exact (List.findIdx?_eq_some_iff_getElem.1 h).1
theorem fst_key {es : Es} {bs : Fs} {k : Ky} {s : Int} {n : Nat} (hE : EsOk es bs) (h : fstX s (lookF es bs k) = some n) : ∃ j i, afind k es 0 = some (j, i) ∧ bs[i]? = some (.ex (lookF es bs k)) := by
  cases hq : afind k es 0 with
  | none =>
    have : lookF es bs k = [] := by unfold lookF; rw [hq]
    rw [this] at h
    simp [fstX] at h
  | some q =>
    obtain ⟨j, i⟩ := q
    obtain ⟨l, hl⟩ := hE.2.2 (k, i) (List.mem_of_getElem? (afind_eq hq))
    have : lookF es bs k = l := by unfold lookF; rw [hq]; simp only; rw [hl]
    exact ⟨j, i, rfl, by rw [this]; exact hl⟩
set_option maxHeartbeats 8000000 in
theorem change_none {es : Es} {fo : AV} {bs : Fs} {k : Ky} {s t : Int} {K : AV → List Blk → Prop} (hE : EsOk es bs) (hl : (lookF es bs k).length ≤ 1000000) (hf : fstX s (lookF es bs k) = none)
    (hK : ∀ a b c : Blk, mvI a → mvI b → mvI c → K (.bool false) (memF es fo (bs ++ [.ot a] ++ [.ot b] ++ [.ot c]))) :
    CallG Try.prog 58 [.op 0 0, kyA k, .int .i64 s, .int .i64 t] (memF es fo bs) K := by
  have hix := idx_none hf
  obtain ⟨c, a⟩ := k
  have sn := fun b => memF_snoc (fo := fo) (b := b) hE
  have sn2 := fun b0 b => memF_snoc (fo := fo) (b := b) (hE.snoc (b := b0))
  simp only [kyA]
  refine inl_G mixed Try.func58 rfl (by kernel_rfl) (of_decide_eq_true rfl) (by kernel_rfl) (vc_run ?_)
  ((try simp -implicitDefEqProofs [-loopQ_n, sn, sn2, memF_0, memF_0E, memF_1, memF_1E, memF_len, memF_get, memF_getE, List.getElem?_append, List.getElem_append, blkF, -List.append_assoc]) <;> (repeat' (first | (refine condD_dec ?_ ?_ <;> (intro hc; (try simp -implicitDefEqProofs [-loopQ_n, hc, sn, sn2, memF_0, memF_0E, memF_1, memF_1E, memF_len, memF_get, memF_getE, List.getElem?_append, List.getElem_append, blkF, -List.append_assoc]))) | (refine guardD_dec ?_ ?_ <;> (intro hc; (try simp -implicitDefEqProofs [-loopQ_n, hc, sn, sn2, memF_0, memF_0E, memF_1, memF_1E, memF_len, memF_get, memF_getE, List.getElem?_append, List.getElem_append, blkF, -List.append_assoc]))) | (refine condD_intro ?_ ?_ <;> (intro hd; have hc := hd; (try simp at hc) <;> (try simp -implicitDefEqProofs [-loopQ_n, hd, hc, sn, sn2, memF_0, memF_0E, memF_1, memF_1E, memF_len, memF_get, memF_getE, List.getElem?_append, List.getElem_append, blkF, -List.append_assoc]))) | (refine guardD_intro ?_ ?_ <;> (intro hd; have hc := hd; (try simp at hc) <;> (try simp -implicitDefEqProofs [-loopQ_n, hd, hc, sn, sn2, memF_0, memF_0E, memF_1, memF_1E, memF_len, memF_get, memF_getE, List.getElem?_append, List.getElem_append, blkF, -List.append_assoc]))) | (refine ldD_ep ?_ ?_; (focus kernel_rfl); (try simp -implicitDefEqProofs [-loopQ_n, sn, sn2, memF_0, memF_0E, memF_1, memF_1E, memF_len, memF_get, memF_getE, List.getElem?_append, List.getElem_append, blkF, -List.append_assoc])))))
  refine callG_intro (first_G (es := es) (bs := bs ++ [FE.ot _]) (k := (c, a)) (s := s) hE.snoc (by rw [lookF_snoc hE]; exact hl) fun u v hu hv => ?_)
  rw [lookF_snoc hE, hix]
  ((try simp -implicitDefEqProofs [-loopQ_n, sn, sn2, memF_0, memF_0E, memF_1, memF_1E, memF_len, memF_get, memF_getE, List.getElem?_append, List.getElem_append, blkF, -List.append_assoc]) <;> (repeat' (first | (refine condD_dec ?_ ?_ <;> (intro hc; (try simp -implicitDefEqProofs [-loopQ_n, hc, sn, sn2, memF_0, memF_0E, memF_1, memF_1E, memF_len, memF_get, memF_getE, List.getElem?_append, List.getElem_append, blkF, -List.append_assoc]))) | (refine guardD_dec ?_ ?_ <;> (intro hc; (try simp -implicitDefEqProofs [-loopQ_n, hc, sn, sn2, memF_0, memF_0E, memF_1, memF_1E, memF_len, memF_get, memF_getE, List.getElem?_append, List.getElem_append, blkF, -List.append_assoc]))) | (refine condD_intro ?_ ?_ <;> (intro hd; have hc := hd; (try simp at hc) <;> (try simp -implicitDefEqProofs [-loopQ_n, hd, hc, sn, sn2, memF_0, memF_0E, memF_1, memF_1E, memF_len, memF_get, memF_getE, List.getElem?_append, List.getElem_append, blkF, -List.append_assoc]))) | (refine guardD_intro ?_ ?_ <;> (intro hd; have hc := hd; (try simp at hc) <;> (try simp -implicitDefEqProofs [-loopQ_n, hd, hc, sn, sn2, memF_0, memF_0E, memF_1, memF_1E, memF_len, memF_get, memF_getE, List.getElem?_append, List.getElem_append, blkF, -List.append_assoc]))) | (refine ldD_ep ?_ ?_; (focus kernel_rfl); (try simp -implicitDefEqProofs [-loopQ_n, sn, sn2, memF_0, memF_0E, memF_1, memF_1E, memF_len, memF_get, memF_getE, List.getElem?_append, List.getElem_append, blkF, -List.append_assoc])))))
  exact endG_r _ rfl (hK _ _ _ mvI_key hu hv)
set_option maxHeartbeats 8000000 in
theorem change_some {es : Es} {fo : AV} {bs : Fs} {k : Ky} {s t : Int} {j i n : Nat} {L : List Xc} {K : AV → List Blk → Prop} (hE : EsOk es bs) (hq : afind k es 0 = some (j, i)) (hb : bs[i]? = some (.ex L)) (hl : L.length ≤ 1000000) (hf : fstX s L = some n)
    (hK : ∀ a b c : Blk, mvI a → mvI b → mvI c → K (.bool true) (memF es fo (List.set (bs ++ [FE.ot a] ++ [FE.ot b] ++ [FE.ot c]) i (FE.ex (L.set n { exA L n with st := t }))))) :
    CallG Try.prog 58 [.op 0 0, kyA k, .int .i64 s, .int .i64 t] (memF es fo bs) K := by
  have hix := idx_some hf
  have hn := fst_lt hf
  have hL : lookF es bs k = L := by unfold lookF; rw [hq]; simp only; rw [hb]
  obtain ⟨c, a⟩ := k
  have sn := fun b => memF_snoc (fo := fo) (b := b) hE
  have sn2 := fun b0 b => memF_snoc (fo := fo) (b := b) (hE.snoc (b := b0))
  have hk := fun vc => fmf_key (es := es) (vc := vc) (a := c) (b := a)
  have hi := (List.getElem?_eq_some_iff.1 hb).1
  have hi1 : i < bs.length + 1 := by omega
  have hi2 : i < bs.length + 1 + 1 := by omega
  have hi3 : i < bs.length + 1 + 1 + 1 := by omega
  have hbE : bs[i] = .ex L := (List.getElem?_eq_some_iff.1 hb).2
  have hv3 := fun x y z => by have := valF_app (bs := bs ++ [x] ++ [y]) (i := i) (l := L) (xs := [z]) (by rw [List.getElem?_append_left (by simp; omega), List.getElem?_append_left hi]; exact hb); exact this
  obtain ⟨⟨x1, x2, x3⟩, hx⟩ : ∃ x, exA L n = x := ⟨_, rfl⟩
  have hLn : L[n]? = some ⟨x1, x2, x3⟩ := by
    rw [← hx]
    unfold exA
    rw [List.getD_eq_getElem?_getD, List.getElem?_eq_getElem hn]
    rfl
  have hLE : L[n] = ⟨x1, x2, x3⟩ := (List.getElem?_eq_some_iff.1 hLn).2
  have hr : (rowsOf xcC L)[n]? = some [.int .i64 x1, .int .i64 x2, .int .i64 x3] := by rw [rowsOf_get, hLn]; rfl
  rw [hx] at hK
  have hn0 : (0 : Int) ≤ n := by omega
  have hnl : (n : Int) < L.length := by omega
  simp only [kyA]
  refine inl_G mixed Try.func58 rfl (by kernel_rfl) (of_decide_eq_true rfl) (by kernel_rfl) (vc_run ?_)
  ((try simp -implicitDefEqProofs [-loopQ_n, sn, sn2, memF_0, memF_0E, memF_1, memF_1E, memF_len, memF_get, memF_getE, List.getElem?_append, List.getElem_append, blkF, -List.append_assoc]) <;> (repeat' (first | (refine condD_dec ?_ ?_ <;> (intro hc; (try simp -implicitDefEqProofs [-loopQ_n, hc, sn, sn2, memF_0, memF_0E, memF_1, memF_1E, memF_len, memF_get, memF_getE, List.getElem?_append, List.getElem_append, blkF, -List.append_assoc]))) | (refine guardD_dec ?_ ?_ <;> (intro hc; (try simp -implicitDefEqProofs [-loopQ_n, hc, sn, sn2, memF_0, memF_0E, memF_1, memF_1E, memF_len, memF_get, memF_getE, List.getElem?_append, List.getElem_append, blkF, -List.append_assoc]))) | (refine condD_intro ?_ ?_ <;> (intro hd; have hc := hd; (try simp at hc) <;> (try simp -implicitDefEqProofs [-loopQ_n, hd, hc, sn, sn2, memF_0, memF_0E, memF_1, memF_1E, memF_len, memF_get, memF_getE, List.getElem?_append, List.getElem_append, blkF, -List.append_assoc]))) | (refine guardD_intro ?_ ?_ <;> (intro hd; have hc := hd; (try simp at hc) <;> (try simp -implicitDefEqProofs [-loopQ_n, hd, hc, sn, sn2, memF_0, memF_0E, memF_1, memF_1E, memF_len, memF_get, memF_getE, List.getElem?_append, List.getElem_append, blkF, -List.append_assoc]))) | (refine ldD_ep ?_ ?_; (focus kernel_rfl); (try simp -implicitDefEqProofs [-loopQ_n, sn, sn2, memF_0, memF_0E, memF_1, memF_1E, memF_len, memF_get, memF_getE, List.getElem?_append, List.getElem_append, blkF, -List.append_assoc])))))
  refine callG_intro (first_G (es := es) (bs := bs ++ [FE.ot _]) (k := (c, a)) (s := s) hE.snoc (by rw [lookF_snoc hE, hL]; exact hl) fun u v hu hv => ?_)
  rw [lookF_snoc hE, hL, hix]
  ((try simp -implicitDefEqProofs [-loopQ_n, memF_0, memF_0E, memF_1, memF_1E, memF_len, memF_get, memF_getE, List.getElem?_append, List.getElem_append, List.getElem?_set, List.getElem_set, blkF, hk, hq, hv3, hi, hi1, hi2, hi3, hb, hbE, hn0, hnl, hn, hr, hLn, hLE, xcC, rowsOf_length, ne0, ne1, ne0', ne1', lt0, lt1, la01, la02, la03, la04, la05, la06, la12, la13, la14, la15, la16, la23, la24, la25, la26, la34, la35, la36, la45, la46, la56, -List.append_assoc]) <;> (repeat' (first | (refine condD_dec ?_ ?_ <;> (intro hc; (try simp -implicitDefEqProofs [-loopQ_n, hc, memF_0, memF_0E, memF_1, memF_1E, memF_len, memF_get, memF_getE, List.getElem?_append, List.getElem_append, List.getElem?_set, List.getElem_set, blkF, hk, hq, hv3, hi, hi1, hi2, hi3, hb, hbE, hn0, hnl, hn, hr, hLn, hLE, xcC, rowsOf_length, ne0, ne1, ne0', ne1', lt0, lt1, la01, la02, la03, la04, la05, la06, la12, la13, la14, la15, la16, la23, la24, la25, la26, la34, la35, la36, la45, la46, la56, -List.append_assoc]))) | (refine guardD_dec ?_ ?_ <;> (intro hc; (try simp -implicitDefEqProofs [-loopQ_n, hc, memF_0, memF_0E, memF_1, memF_1E, memF_len, memF_get, memF_getE, List.getElem?_append, List.getElem_append, List.getElem?_set, List.getElem_set, blkF, hk, hq, hv3, hi, hi1, hi2, hi3, hb, hbE, hn0, hnl, hn, hr, hLn, hLE, xcC, rowsOf_length, ne0, ne1, ne0', ne1', lt0, lt1, la01, la02, la03, la04, la05, la06, la12, la13, la14, la15, la16, la23, la24, la25, la26, la34, la35, la36, la45, la46, la56, -List.append_assoc]))) | (refine condD_intro ?_ ?_ <;> (intro hd; have hc := hd; (try simp at hc) <;> (try simp -implicitDefEqProofs [-loopQ_n, hd, hc, memF_0, memF_0E, memF_1, memF_1E, memF_len, memF_get, memF_getE, List.getElem?_append, List.getElem_append, List.getElem?_set, List.getElem_set, blkF, hk, hq, hv3, hi, hi1, hi2, hi3, hb, hbE, hn0, hnl, hn, hr, hLn, hLE, xcC, rowsOf_length, ne0, ne1, ne0', ne1', lt0, lt1, la01, la02, la03, la04, la05, la06, la12, la13, la14, la15, la16, la23, la24, la25, la26, la34, la35, la36, la45, la46, la56, -List.append_assoc]))) | (refine guardD_intro ?_ ?_ <;> (intro hd; have hc := hd; (try simp at hc) <;> (try simp -implicitDefEqProofs [-loopQ_n, hd, hc, memF_0, memF_0E, memF_1, memF_1E, memF_len, memF_get, memF_getE, List.getElem?_append, List.getElem_append, List.getElem?_set, List.getElem_set, blkF, hk, hq, hv3, hi, hi1, hi2, hi3, hb, hbE, hn0, hnl, hn, hr, hLn, hLE, xcC, rowsOf_length, ne0, ne1, ne0', ne1', lt0, lt1, la01, la02, la03, la04, la05, la06, la12, la13, la14, la15, la16, la23, la24, la25, la26, la34, la35, la36, la45, la46, la56, -List.append_assoc]))) | (refine ldD_ep ?_ ?_; (focus kernel_rfl); (try simp -implicitDefEqProofs [-loopQ_n, memF_0, memF_0E, memF_1, memF_1E, memF_len, memF_get, memF_getE, List.getElem?_append, List.getElem_append, List.getElem?_set, List.getElem_set, blkF, hk, hq, hv3, hi, hi1, hi2, hi3, hb, hbE, hn0, hnl, hn, hr, hLn, hLE, xcC, rowsOf_length, ne0, ne1, ne0', ne1', lt0, lt1, la01, la02, la03, la04, la05, la06, la12, la13, la14, la15, la16, la23, la24, la25, la26, la34, la35, la36, la45, la46, la56, -List.append_assoc])))))
  refine endG_r (.bool true) rfl ?_
  obtain ⟨kb, hkb⟩ : ∃ kb : Blk, kb = .box 91 [.str c, .str a] := ⟨_, rfl⟩
  have hE4 : EsOk es (bs ++ [FE.ot kb] ++ [FE.ot u] ++ [FE.ot v]) := ((hE.snoc).snoc).snoc
  have hb4 : (bs ++ [FE.ot kb] ++ [FE.ot u] ++ [FE.ot v])[i]? = some (.ex L) := by
    rw [List.getElem?_append_left (by simp; omega), List.getElem?_append_left (by simp; omega), List.getElem?_append_left hi]; exact hb
  have hp := memF_same (fo := fo) (L' := L.set n ⟨t, x2, x3⟩) hE4 hq hb4 (by simp)
  have hs : (rowsOf xcC L).set n [.int .i64 t, .int .i64 x2, .int .i64 x3] = rowsOf xcC (L.set n ⟨t, x2, x3⟩) := xc_set (x := ⟨t, x2, x3⟩)
  rw [hkb] at hp
  simp only [hs]
  exact (congrArg (K _) hp).mpr (hK _ _ _ mvI_key hu hv)
end Go.Proofs.Ytpgoefakhecdnaa

/- An execution is taken out of its key's list: the window that is left becomes a slice of its own. -/
namespace Go.Proofs.Ytpgoefakhecdnaa
set_option linter.unusedSimpArgs false
set_option linter.unusedVariables false
set_option linter.unnecessarySimpa false
set_option linter.unusedSectionVars false
open Go.RowKit
variable [Glob]
set_option maxRecDepth 100000
/-- Blocks that are no executions hold no windows. -/
def otI (bs : Fs) : Prop := ∀ (i : Nat) (b : Blk), bs[i]? = some (FE.ot b) → mvI b
theorem otI.snoc {bs : Fs} {b : Blk} (h : otI bs) (hb : mvI b) : otI (bs ++ [.ot b]) := fun i b' hi => by
  by_cases hl : i < bs.length
  · rw [List.getElem?_append_left hl] at hi; exact h i b' hi
  · rw [List.getElem?_append_right (by omega)] at hi
    cases hq : i - bs.length with
    | zero => rw [hq] at hi; simp at hi; rw [← hi]; exact hb
    | succ q => rw [hq] at hi; simp at hi
theorem otI.set_ex {bs : Fs} {i : Nat} {L : List Xc} (h : otI bs) : otI (bs.set i (.ex L)) := fun j b hj => by
  rw [List.getElem?_set] at hj
  split at hj
  · split at hj <;> simp at hj
  · exact h j b hj
theorem otI.new_ex {bs : Fs} {L : List Xc} (h : otI bs) : otI (bs ++ [.ex L]) := fun i b' hi => by
  by_cases hl : i < bs.length
  · rw [List.getElem?_append_left hl] at hi; exact h i b' hi
  · rw [List.getElem?_append_right (by omega)] at hi
    cases hq : i - bs.length with
    | zero => rw [hq] at hi; simp at hi
    | succ q => rw [hq] at hi; simp at hi
theorem xc_mvL {id n m N : Nat} {l : List Xc} : (rowsOf xcC l).map (mvL id n m N) = rowsOf xcC l := by
  simp only [rowsOf, List.map_map]
  exact List.map_congr_left fun x _ => rfl
theorem del_take {L : List Xc} {n : Nat} (h : n < L.length) : (delR (rowsOf xcC L) n).take (L.length - 1) = rowsOf xcC (L.eraseIdx n) := by
  unfold delR
  have e : ((rowsOf xcC L).take n ++ (rowsOf xcC L).drop (n + 1)).length = L.length - 1 := by simp [rowsOf]; omega
  rw [List.take_append_of_le_length (by omega), List.take_of_length_le (by omega), List.eraseIdx_eq_take_drop_succ]
  simp [rowsOf, List.map_take, List.map_drop]
theorem del_len {L : List Xc} {n : Nat} (h : n < L.length) : (delR (rowsOf xcC L) n).length = L.length := by
  unfold delR
  simp [rowsOf]; omega
theorem weak_del {Lv : Nat} {es : Es} {fo : AV} {bs : Fs} {k : Ky} {j i n : Nat} {L : List Xc} {T : List (Nat × AV)} (h : EsOk es bs) (ho : otI bs) (hq : afind k es 0 = some (j, i)) (hb : bs[i]? = some (.ex L)) (hn : n < L.length)
    (hf : ∀ id n m N, mvA id n m N fo = fo) (hT : ∀ id n m N, mvT id n m N T = T) :
    Weak Try.prog Lv ⟨T, ((memF es fo bs).set (2 + i) (.row 95 false (delR (rowsOf xcC L) n))).set 1 (.map ((mE kyA (valF bs) es).set j (kyA k, .ow (2 + i) L.length 0 (L.length - 1))))⟩
      ⟨T, memF (es.set j (k, bs.length)) fo (bs.set i (.ot .gone) ++ [.ex (L.eraseIdx n)])⟩ := by
  have hi := (List.getElem?_eq_some_iff.1 hb).1
  have hj := afind_eq hq
  have hjl := (List.getElem?_eq_some_iff.1 hj).1
  obtain ⟨H, hH⟩ : ∃ H, ((memF es fo bs).set (2 + i) (.row 95 false (delR (rowsOf xcC L) n))).set 1 (.map ((mE kyA (valF bs) es).set j (kyA k, .ow (2 + i) L.length 0 (L.length - 1)))) = H := ⟨_, rfl⟩
  rw [hH]
  have hHl : H.length = 2 + bs.length := by rw [← hH]; simp [memF_len]
  have g2 : H[2 + i]? = some (.row 95 false (delR (rowsOf xcC L) n)) := by
    rw [← hH, List.getElem?_set, if_neg (by omega), List.getElem?_set, if_pos rfl, if_pos (by rw [memF_len]; omega)]
  have hw := weak_mv (P := Try.prog) (L := Lv) (s := ⟨T, H⟩) (2 + i) L.length (L.length - 1) _ false _ g2 (del_len hn) (by omega) (by omega)
  rw [hT, del_take hn] at hw
  have he : mvH (2 + i) L.length (L.length - 1) H.length (.row 95 false (rowsOf xcC (L.eraseIdx n))) H = memF (es.set j (k, bs.length)) fo (bs.set i (.ot .gone) ++ [.ex (L.eraseIdx n)]) := by
    have hX : (L.eraseIdx n).length = L.length - 1 := by rw [List.length_eraseIdx, if_pos hn]
    have hlast : (bs.set i (.ot .gone) ++ [FE.ex (L.eraseIdx n)])[bs.length]? = some (.ex (L.eraseIdx n)) := by
      rw [List.getElem?_append_right (by simp)]; simp
    refine List.ext_getElem? fun a => ?_
    unfold mvH
    by_cases ha : a < H.length
    · rw [List.getElem?_append_left (by simpa using ha), List.getElem?_set]
      by_cases e2 : 2 + i = a
      · subst e2
        rw [if_pos rfl, if_pos (by simpa using ha), memF_get, List.getElem?_append_left (by simpa using hi), List.getElem?_set, if_pos rfl, if_pos hi]
        rfl
      · rw [if_neg e2, List.getElem?_map, ← hH, List.getElem?_set]
        by_cases e1 : 1 = a
        · subst e1
          rw [if_pos rfl, if_pos (by simp [memF_len]; omega), memF_1]
          simp only [Option.map_some, mvB, Option.some.injEq, Blk.map.injEq]
          refine List.ext_getElem? fun c => ?_
          simp only [mE, List.getElem?_map, List.getElem?_set, List.length_map]
          by_cases ec : j = c
          · subst ec
            rw [if_pos rfl, if_pos rfl, if_pos hjl, if_pos hjl]
            simp only [Option.map_some]
            rw [valF_ex hlast, hX]
            simp [kyA, mvA, mvL, hHl, memF_len]
          · rw [if_neg ec, if_neg ec]
            cases hc : es[c]? with
            | none => rfl
            | some p =>
              simp only [Option.map_some, Option.some.injEq, Prod.mk.injEq]
              obtain ⟨l, hl⟩ := h.2.2 p (List.mem_of_getElem? hc)
              have hne : ¬ i = p.2 := fun q => ec (idx_uniq h hj hc q)
              have hpl := (List.getElem?_eq_some_iff.1 hl).1
              have hl2 : (bs.set i (.ot .gone) ++ [FE.ex (L.eraseIdx n)])[p.2]? = some (.ex l) := by
                rw [List.getElem?_append_left (by simpa using hpl), List.getElem?_set, if_neg hne]; exact hl
              rw [valF_ex hl, valF_ex hl2]
              exact ⟨rfl, rfl⟩
        · rw [if_neg e1, List.getElem?_set, if_neg e2]
          cases a with
          | zero => rw [memF_0, memF_0]; simp only [Option.map_some, mvB, mvL, mvA, hf]
          | succ a =>
            cases a with
            | zero => exact absurd rfl e1
            | succ a =>
              rw [show a + 1 + 1 = 2 + a by omega, memF_get, memF_get]
              have hal : a < bs.length := by omega
              have hne : ¬ i = a := by omega
              rw [List.getElem?_append_left (by simpa using hal), List.getElem?_set, if_neg hne, List.getElem?_eq_getElem hal]
              simp only [Option.map_some, Option.some.injEq]
              cases hx : bs[a] with
              | ex l => simp only [blkF, mvB, xc_mvL]
              | ot b => exact ho a b (by rw [List.getElem?_eq_getElem hal, hx]) _ _ _ _
    · by_cases e : a = H.length
      · subst e
        rw [List.getElem?_append_right (by simp)]
        rw [hHl, memF_get, hlast]
        simp [hHl, mvB, xc_mvL, blkF]
      · rw [List.getElem?_eq_none (by simp; omega), List.getElem?_eq_none (by rw [memF_len]; simp; omega)]
  rw [he] at hw
  exact hw
end Go.Proofs.Ytpgoefakhecdnaa

/- The finder's methods, walked: complete. -/
namespace Go.Proofs.Ytpgoefakhecdnaa
set_option linter.unusedSimpArgs false
set_option linter.unusedVariables false
set_option linter.unnecessarySimpa false
set_option linter.unusedSectionVars false
open Go.RowKit
variable [Glob]
set_option maxRecDepth 100000
theorem mvI_exb {t : TypeId} {a b c : Int} : mvI (.box t [.int .i64 a, .int .i64 b, .int .i64 c]) := fun _ _ _ _ => rfl
theorem mvI_evt {t : TypeId} {e : Evt} : mvI (.box t (evtC e)) := fun _ _ _ _ => rfl
theorem app7 {bs : Fs} {i : Nat} {b a1 a2 a3 a4 a5 a6 a7 : FE} (h : bs[i]? = some b) : (bs ++ [a1] ++ [a2] ++ [a3] ++ [a4] ++ [a5] ++ [a6] ++ [a7])[i]? = some b := by
  have hl := (List.getElem?_eq_some_iff.1 h).1
  simp only [List.append_assoc]
  rw [List.getElem?_append_left hl]; exact h
/-- What the finder holds: the open executions by key, and what was put out. -/
structure FS (f : Of) (out : List Ins) (es : Es) (fo : AV) (bs : Fs) : Prop where
  ok : EsOk es bs
  look : ∀ k, lookF es bs k = f k
  ots : otI bs
  res : (out = [] ∧ fo = .nils) ∨ (out ≠ [] ∧ ∃ ido nb, fo = .os (2 + ido) out.length ∧ bs[ido]? = some (.ot (.row 26 nb (rowsOf insC out))))
theorem FS.snoc {f : Of} {out : List Ins} {es : Es} {fo : AV} {bs : Fs} {b : Blk} (h : FS f out es fo bs) (hb : mvI b) : FS f out es fo (bs ++ [.ot b]) :=
  ⟨h.ok.snoc, fun k => by rw [lookF_snoc h.ok]; exact h.look k, h.ots.snoc hb, h.res.imp id fun ⟨h1, ido, nb, h2, h3⟩ => ⟨h1, ido, nb, h2, by rw [List.getElem?_append_left (List.getElem?_eq_some_iff.1 h3).1]; exact h3⟩⟩
theorem ins_mvI {t : TypeId} {nb : Bool} {l : List Ins} : mvI (.row t nb (rowsOf insC l)) := fun id n m N => by
  simp only [mvB, rowsOf, List.map_map]
  exact congrArg _ (List.map_congr_left fun x _ => rfl)
/-- The first one that is put out. -/
theorem FS.first {f : Of} {es : Es} {fo : AV} {bs : Fs} {x : Ins} {nb : Bool} (h : FS f [] es fo bs) : FS f [x] es (.os (2 + bs.length) 1) (bs ++ [.ot (.row 26 nb (rowsOf insC [x]))]) :=
  ⟨h.ok.snoc, fun k => by rw [lookF_snoc h.ok]; exact h.look k, h.ots.snoc ins_mvI, .inr ⟨by simp, bs.length, nb, rfl, by simp⟩⟩
theorem FS.next {f : Of} {out : List Ins} {es : Es} {fo : AV} {bs : Fs} {x : Ins} {ido : Nat} {nb : Bool} (h : FS f out es fo bs) (hr : bs[ido]? = some (.ot (.row 26 nb (rowsOf insC out)))) :
    FS f (out ++ [x]) es (.os (2 + ido) (out.length + 1)) (bs.set ido (.ot (.row 26 nb (rowsOf insC (out ++ [x]))))) := by
  have hl := (List.getElem?_eq_some_iff.1 hr).1
  refine ⟨h.ok.setot hr, fun k => by rw [lookF_setot h.ok hr]; exact h.look k, fun i b hb => ?_, .inr ⟨by simp, ido, nb, by simp, by rw [List.getElem?_set, if_pos rfl, if_pos hl]⟩⟩
  rw [List.getElem?_set] at hb
  by_cases e : ido = i
  · subst e
    rw [if_pos rfl, if_pos hl] at hb
    simp only [Option.some.injEq, FE.ot.injEq] at hb
    rw [← hb]; exact ins_mvI
  · rw [if_neg e] at hb
    exact h.ots i b hb
set_option maxHeartbeats 16000000 in
theorem complete_none {es : Es} {bs : Fs} {k : Ky} {e : Evt} {K : AV → List Blk → Prop} (hE : EsOk es bs) (hl : (lookF es bs k).length ≤ 1000000) (h2 : fstX 2 (lookF es bs k) = none) (h1 : fstX 1 (lookF es bs k) = none) {f : Of} (hF : FS f [] es .nils bs)
    (hK : ∀ fo' bs', FS f [insOf e ⟨2, e.time, e.time⟩] es fo' bs' → K (.tup []) (memF es fo' bs')) :
    CallG Try.prog 59 [.op 0 0, kyA k, .agg (evtC e)] (memF es .nils bs) K := by
  have i2 := idx_none h2
  have i1 := idx_none h1
  obtain ⟨c, a⟩ := k
  obtain ⟨ec, ea, er, el, et, ed⟩ := e
  have sn := fun b => memF_snoc (fo := .nils) (b := b) hE
  have sn2 := fun b0 b => memF_snoc (fo := .nils) (b := b) (hE.snoc (b := b0))
  have sn3 := fun b0 b1 b => memF_snoc (fo := .nils) (b := b) ((hE.snoc (b := b0)).snoc (b := b1))
  simp only [kyA, evtC]
  refine inl_G mixed Try.func59 rfl (by kernel_rfl) (of_decide_eq_true rfl) (by kernel_rfl) (vc_run ?_)
  ((try simp -implicitDefEqProofs [-loopQ_n, sn, sn2, sn3, memF_0, memF_0E, memF_1, memF_1E, memF_len, memF_get, memF_getE, List.getElem?_append, List.getElem_append, List.getElem?_set, List.getElem_set, blkF, rowsOf_length, ne0, ne1, memF_set3, na01, na02, na03, na04, na05, na10, na12, na13, na14, na15, na20, na21, na23, na24, na25, na30, na31, na32, na34, na35, na40, na41, na42, na43, na45, na50, na51, na52, na53, na54, ne0', ne1', lt0, lt1, la01, la02, la03, la04, la05, la06, la12, la13, la14, la15, la16, la23, la24, la25, la26, la34, la35, la36, la45, la46, la56, -List.append_assoc]) <;> (repeat' (first | (refine condD_dec ?_ ?_ <;> (intro hc; (try simp -implicitDefEqProofs [-loopQ_n, hc, sn, sn2, sn3, memF_0, memF_0E, memF_1, memF_1E, memF_len, memF_get, memF_getE, List.getElem?_append, List.getElem_append, List.getElem?_set, List.getElem_set, blkF, rowsOf_length, ne0, ne1, memF_set3, na01, na02, na03, na04, na05, na10, na12, na13, na14, na15, na20, na21, na23, na24, na25, na30, na31, na32, na34, na35, na40, na41, na42, na43, na45, na50, na51, na52, na53, na54, ne0', ne1', lt0, lt1, la01, la02, la03, la04, la05, la06, la12, la13, la14, la15, la16, la23, la24, la25, la26, la34, la35, la36, la45, la46, la56, -List.append_assoc]))) | (refine guardD_dec ?_ ?_ <;> (intro hc; (try simp -implicitDefEqProofs [-loopQ_n, hc, sn, sn2, sn3, memF_0, memF_0E, memF_1, memF_1E, memF_len, memF_get, memF_getE, List.getElem?_append, List.getElem_append, List.getElem?_set, List.getElem_set, blkF, rowsOf_length, ne0, ne1, memF_set3, na01, na02, na03, na04, na05, na10, na12, na13, na14, na15, na20, na21, na23, na24, na25, na30, na31, na32, na34, na35, na40, na41, na42, na43, na45, na50, na51, na52, na53, na54, ne0', ne1', lt0, lt1, la01, la02, la03, la04, la05, la06, la12, la13, la14, la15, la16, la23, la24, la25, la26, la34, la35, la36, la45, la46, la56, -List.append_assoc]))) | (refine condD_intro ?_ ?_ <;> (intro hd; have hc := hd; (try simp at hc) <;> (try simp -implicitDefEqProofs [-loopQ_n, hd, hc, sn, sn2, sn3, memF_0, memF_0E, memF_1, memF_1E, memF_len, memF_get, memF_getE, List.getElem?_append, List.getElem_append, List.getElem?_set, List.getElem_set, blkF, rowsOf_length, ne0, ne1, memF_set3, na01, na02, na03, na04, na05, na10, na12, na13, na14, na15, na20, na21, na23, na24, na25, na30, na31, na32, na34, na35, na40, na41, na42, na43, na45, na50, na51, na52, na53, na54, ne0', ne1', lt0, lt1, la01, la02, la03, la04, la05, la06, la12, la13, la14, la15, la16, la23, la24, la25, la26, la34, la35, la36, la45, la46, la56, -List.append_assoc]))) | (refine guardD_intro ?_ ?_ <;> (intro hd; have hc := hd; (try simp at hc) <;> (try simp -implicitDefEqProofs [-loopQ_n, hd, hc, sn, sn2, sn3, memF_0, memF_0E, memF_1, memF_1E, memF_len, memF_get, memF_getE, List.getElem?_append, List.getElem_append, List.getElem?_set, List.getElem_set, blkF, rowsOf_length, ne0, ne1, memF_set3, na01, na02, na03, na04, na05, na10, na12, na13, na14, na15, na20, na21, na23, na24, na25, na30, na31, na32, na34, na35, na40, na41, na42, na43, na45, na50, na51, na52, na53, na54, ne0', ne1', lt0, lt1, la01, la02, la03, la04, la05, la06, la12, la13, la14, la15, la16, la23, la24, la25, la26, la34, la35, la36, la45, la46, la56, -List.append_assoc]))) | (refine ldD_ep ?_ ?_; (focus kernel_rfl); (try simp -implicitDefEqProofs [-loopQ_n, sn, sn2, sn3, memF_0, memF_0E, memF_1, memF_1E, memF_len, memF_get, memF_getE, List.getElem?_append, List.getElem_append, List.getElem?_set, List.getElem_set, blkF, rowsOf_length, ne0, ne1, memF_set3, na01, na02, na03, na04, na05, na10, na12, na13, na14, na15, na20, na21, na23, na24, na25, na30, na31, na32, na34, na35, na40, na41, na42, na43, na45, na50, na51, na52, na53, na54, ne0', ne1', lt0, lt1, la01, la02, la03, la04, la05, la06, la12, la13, la14, la15, la16, la23, la24, la25, la26, la34, la35, la36, la45, la46, la56, -List.append_assoc])))))
  have lk : ∀ x y z : Blk, lookF es (bs ++ [FE.ot x] ++ [FE.ot y] ++ [FE.ot z]) (c, a) = lookF es bs (c, a) := fun x y z => by rw [lookF_snoc (hE.snoc.snoc), lookF_snoc hE.snoc, lookF_snoc hE]
  have lk2 : ∀ x y z u v : Blk, lookF es (bs ++ [FE.ot x] ++ [FE.ot y] ++ [FE.ot z] ++ [FE.ot u] ++ [FE.ot v]) (c, a) = lookF es bs (c, a) := fun x y z u v => by rw [lookF_snoc hE.snoc.snoc.snoc.snoc, lookF_snoc hE.snoc.snoc.snoc, lk]
  refine callG_intro (first_G (es := es) (k := (c, a)) (s := 2) hE.snoc.snoc.snoc ?_ fun u v hu hv => ?_)
  · rw [lk]; exact hl
  rw [lk, i2]
  ((try simp -implicitDefEqProofs [-loopQ_n, memF_0, memF_0E, memF_1, memF_1E, memF_len, memF_get, memF_getE, List.getElem?_append, List.getElem_append, List.getElem?_set, List.getElem_set, blkF, rowsOf_length, ne0, ne1, memF_set3, na01, na02, na03, na04, na05, na10, na12, na13, na14, na15, na20, na21, na23, na24, na25, na30, na31, na32, na34, na35, na40, na41, na42, na43, na45, na50, na51, na52, na53, na54, ne0', ne1', lt0, lt1, la01, la02, la03, la04, la05, la06, la12, la13, la14, la15, la16, la23, la24, la25, la26, la34, la35, la36, la45, la46, la56, -List.append_assoc]) <;> (repeat' (first | (refine condD_dec ?_ ?_ <;> (intro hc; (try simp -implicitDefEqProofs [-loopQ_n, hc, memF_0, memF_0E, memF_1, memF_1E, memF_len, memF_get, memF_getE, List.getElem?_append, List.getElem_append, List.getElem?_set, List.getElem_set, blkF, rowsOf_length, ne0, ne1, memF_set3, na01, na02, na03, na04, na05, na10, na12, na13, na14, na15, na20, na21, na23, na24, na25, na30, na31, na32, na34, na35, na40, na41, na42, na43, na45, na50, na51, na52, na53, na54, ne0', ne1', lt0, lt1, la01, la02, la03, la04, la05, la06, la12, la13, la14, la15, la16, la23, la24, la25, la26, la34, la35, la36, la45, la46, la56, -List.append_assoc]))) | (refine guardD_dec ?_ ?_ <;> (intro hc; (try simp -implicitDefEqProofs [-loopQ_n, hc, memF_0, memF_0E, memF_1, memF_1E, memF_len, memF_get, memF_getE, List.getElem?_append, List.getElem_append, List.getElem?_set, List.getElem_set, blkF, rowsOf_length, ne0, ne1, memF_set3, na01, na02, na03, na04, na05, na10, na12, na13, na14, na15, na20, na21, na23, na24, na25, na30, na31, na32, na34, na35, na40, na41, na42, na43, na45, na50, na51, na52, na53, na54, ne0', ne1', lt0, lt1, la01, la02, la03, la04, la05, la06, la12, la13, la14, la15, la16, la23, la24, la25, la26, la34, la35, la36, la45, la46, la56, -List.append_assoc]))) | (refine condD_intro ?_ ?_ <;> (intro hd; have hc := hd; (try simp at hc) <;> (try simp -implicitDefEqProofs [-loopQ_n, hd, hc, memF_0, memF_0E, memF_1, memF_1E, memF_len, memF_get, memF_getE, List.getElem?_append, List.getElem_append, List.getElem?_set, List.getElem_set, blkF, rowsOf_length, ne0, ne1, memF_set3, na01, na02, na03, na04, na05, na10, na12, na13, na14, na15, na20, na21, na23, na24, na25, na30, na31, na32, na34, na35, na40, na41, na42, na43, na45, na50, na51, na52, na53, na54, ne0', ne1', lt0, lt1, la01, la02, la03, la04, la05, la06, la12, la13, la14, la15, la16, la23, la24, la25, la26, la34, la35, la36, la45, la46, la56, -List.append_assoc]))) | (refine guardD_intro ?_ ?_ <;> (intro hd; have hc := hd; (try simp at hc) <;> (try simp -implicitDefEqProofs [-loopQ_n, hd, hc, memF_0, memF_0E, memF_1, memF_1E, memF_len, memF_get, memF_getE, List.getElem?_append, List.getElem_append, List.getElem?_set, List.getElem_set, blkF, rowsOf_length, ne0, ne1, memF_set3, na01, na02, na03, na04, na05, na10, na12, na13, na14, na15, na20, na21, na23, na24, na25, na30, na31, na32, na34, na35, na40, na41, na42, na43, na45, na50, na51, na52, na53, na54, ne0', ne1', lt0, lt1, la01, la02, la03, la04, la05, la06, la12, la13, la14, la15, la16, la23, la24, la25, la26, la34, la35, la36, la45, la46, la56, -List.append_assoc]))) | (refine ldD_ep ?_ ?_; (focus kernel_rfl); (try simp -implicitDefEqProofs [-loopQ_n, memF_0, memF_0E, memF_1, memF_1E, memF_len, memF_get, memF_getE, List.getElem?_append, List.getElem_append, List.getElem?_set, List.getElem_set, blkF, rowsOf_length, ne0, ne1, memF_set3, na01, na02, na03, na04, na05, na10, na12, na13, na14, na15, na20, na21, na23, na24, na25, na30, na31, na32, na34, na35, na40, na41, na42, na43, na45, na50, na51, na52, na53, na54, ne0', ne1', lt0, lt1, la01, la02, la03, la04, la05, la06, la12, la13, la14, la15, la16, la23, la24, la25, la26, la34, la35, la36, la45, la46, la56, -List.append_assoc])))))
  have hE3 : ∀ x y z : Blk, EsOk es (bs ++ [FE.ot x] ++ [FE.ot y] ++ [FE.ot z]) := fun x y z => hE.snoc.snoc.snoc
  refine callG_intro (first_G (es := es) (k := (c, a)) (s := 1) hE.snoc.snoc.snoc.snoc.snoc ?_ fun u2 v2 hu2 hv2 => ?_)
  · rw [lk2]; exact hl
  rw [lk2, i1]
  ((try simp -implicitDefEqProofs [-loopQ_n, memF_0, memF_0E, memF_1, memF_1E, memF_len, memF_get, memF_getE, List.getElem?_append, List.getElem_append, List.getElem?_set, List.getElem_set, blkF, rowsOf_length, ne0, ne1, memF_set3, na01, na02, na03, na04, na05, na10, na12, na13, na14, na15, na20, na21, na23, na24, na25, na30, na31, na32, na34, na35, na40, na41, na42, na43, na45, na50, na51, na52, na53, na54, ne0', ne1', lt0, lt1, la01, la02, la03, la04, la05, la06, la12, la13, la14, la15, la16, la23, la24, la25, la26, la34, la35, la36, la45, la46, la56, -List.append_assoc]) <;> (repeat' (first | (refine condD_dec ?_ ?_ <;> (intro hc; (try simp -implicitDefEqProofs [-loopQ_n, hc, memF_0, memF_0E, memF_1, memF_1E, memF_len, memF_get, memF_getE, List.getElem?_append, List.getElem_append, List.getElem?_set, List.getElem_set, blkF, rowsOf_length, ne0, ne1, memF_set3, na01, na02, na03, na04, na05, na10, na12, na13, na14, na15, na20, na21, na23, na24, na25, na30, na31, na32, na34, na35, na40, na41, na42, na43, na45, na50, na51, na52, na53, na54, ne0', ne1', lt0, lt1, la01, la02, la03, la04, la05, la06, la12, la13, la14, la15, la16, la23, la24, la25, la26, la34, la35, la36, la45, la46, la56, -List.append_assoc]))) | (refine guardD_dec ?_ ?_ <;> (intro hc; (try simp -implicitDefEqProofs [-loopQ_n, hc, memF_0, memF_0E, memF_1, memF_1E, memF_len, memF_get, memF_getE, List.getElem?_append, List.getElem_append, List.getElem?_set, List.getElem_set, blkF, rowsOf_length, ne0, ne1, memF_set3, na01, na02, na03, na04, na05, na10, na12, na13, na14, na15, na20, na21, na23, na24, na25, na30, na31, na32, na34, na35, na40, na41, na42, na43, na45, na50, na51, na52, na53, na54, ne0', ne1', lt0, lt1, la01, la02, la03, la04, la05, la06, la12, la13, la14, la15, la16, la23, la24, la25, la26, la34, la35, la36, la45, la46, la56, -List.append_assoc]))) | (refine condD_intro ?_ ?_ <;> (intro hd; have hc := hd; (try simp at hc) <;> (try simp -implicitDefEqProofs [-loopQ_n, hd, hc, memF_0, memF_0E, memF_1, memF_1E, memF_len, memF_get, memF_getE, List.getElem?_append, List.getElem_append, List.getElem?_set, List.getElem_set, blkF, rowsOf_length, ne0, ne1, memF_set3, na01, na02, na03, na04, na05, na10, na12, na13, na14, na15, na20, na21, na23, na24, na25, na30, na31, na32, na34, na35, na40, na41, na42, na43, na45, na50, na51, na52, na53, na54, ne0', ne1', lt0, lt1, la01, la02, la03, la04, la05, la06, la12, la13, la14, la15, la16, la23, la24, la25, la26, la34, la35, la36, la45, la46, la56, -List.append_assoc]))) | (refine guardD_intro ?_ ?_ <;> (intro hd; have hc := hd; (try simp at hc) <;> (try simp -implicitDefEqProofs [-loopQ_n, hd, hc, memF_0, memF_0E, memF_1, memF_1E, memF_len, memF_get, memF_getE, List.getElem?_append, List.getElem_append, List.getElem?_set, List.getElem_set, blkF, rowsOf_length, ne0, ne1, memF_set3, na01, na02, na03, na04, na05, na10, na12, na13, na14, na15, na20, na21, na23, na24, na25, na30, na31, na32, na34, na35, na40, na41, na42, na43, na45, na50, na51, na52, na53, na54, ne0', ne1', lt0, lt1, la01, la02, la03, la04, la05, la06, la12, la13, la14, la15, la16, la23, la24, la25, la26, la34, la35, la36, la45, la46, la56, -List.append_assoc]))) | (refine ldD_ep ?_ ?_; (focus kernel_rfl); (try simp -implicitDefEqProofs [-loopQ_n, memF_0, memF_0E, memF_1, memF_1E, memF_len, memF_get, memF_getE, List.getElem?_append, List.getElem_append, List.getElem?_set, List.getElem_set, blkF, rowsOf_length, ne0, ne1, memF_set3, na01, na02, na03, na04, na05, na10, na12, na13, na14, na15, na20, na21, na23, na24, na25, na30, na31, na32, na34, na35, na40, na41, na42, na43, na45, na50, na51, na52, na53, na54, ne0', ne1', lt0, lt1, la01, la02, la03, la04, la05, la06, la12, la13, la14, la15, la16, la23, la24, la25, la26, la34, la35, la36, la45, la46, la56, -List.append_assoc])))))
  refine endG_n (.tup []) rfl ?_
  have hF7 := ((((((hF.snoc (mvI_key (t := 91) (a := c) (b := a))).snoc (mvI_evt (t := 41) (e := ⟨ec, ea, er, el, et, ed⟩))).snoc (mvI_exb (t := 95) (a := 2) (b := et) (c := et))).snoc hu).snoc hv).snoc hu2).snoc hv2
  have hF8 := hF7.snoc (ins_mvI (t := 26) (nb := false) (l := [⟨ec, ea, er, et, et, et⟩]))
  have hF9 := hF8.first (x := ⟨ec, ea, er, et, et, et⟩) (nb := false)
  have hm := hK _ _ hF9
  rw [← memF_snoc hF8.ok, ← memF_snoc hF7.ok] at hm
  simp only [List.length_append, List.length_singleton] at hm
  exact hm
set_option maxHeartbeats 16000000 in
theorem complete_none2 {es : Es} {bs : Fs} {out : List Ins} {ido : Nat} {nb : Bool} {k : Ky} {e : Evt} {K : AV → List Blk → Prop} (hE : EsOk es bs) (hl : (lookF es bs k).length ≤ 1000000) (h2 : fstX 2 (lookF es bs k) = none) (h1 : fstX 1 (lookF es bs k) = none) {f : Of} (hF : FS f out es (.os (2 + ido) out.length) bs) (hrow : bs[ido]? = some (.ot (.row 26 nb (rowsOf insC out)))) (hol : out.length ≤ 1000000)
    (hK : ∀ fo' bs', FS f (out ++ [insOf e ⟨2, e.time, e.time⟩]) es fo' bs' → K (.tup []) (memF es fo' bs')) :
    CallG Try.prog 59 [.op 0 0, kyA k, .agg (evtC e)] (memF es (.os (2 + ido) out.length) bs) K := by
  have i2 := idx_none h2
  have i1 := idx_none h1
  obtain ⟨c, a⟩ := k
  obtain ⟨ec, ea, er, el, et, ed⟩ := e
  have sn := fun b => memF_snoc (fo := .os (2 + ido) out.length) (b := b) hE
  have sn2 := fun b0 b => memF_snoc (fo := .os (2 + ido) out.length) (b := b) (hE.snoc (b := b0))
  have sn3 := fun b0 b1 b => memF_snoc (fo := .os (2 + ido) out.length) (b := b) ((hE.snoc (b := b0)).snoc (b := b1))
  have r0 := (List.getElem?_eq_some_iff.1 hrow).1
  have rE : bs[ido] = .ot (.row 26 nb (rowsOf insC out)) := (List.getElem?_eq_some_iff.1 hrow).2
  have r1 : ido < bs.length + 1 := by omega
  have r2 : ido < bs.length + 1 + 1 := by omega
  have r3 : ido < bs.length + 1 + 1 + 1 := by omega
  have r4 : ido < bs.length + 1 + 1 + 1 + 1 := by omega
  have r5 : ido < bs.length + 1 + 1 + 1 + 1 + 1 := by omega
  have r6 : ido < bs.length + 1 + 1 + 1 + 1 + 1 + 1 := by omega
  have r7 : ido < bs.length + 1 + 1 + 1 + 1 + 1 + 1 + 1 := by omega
  have r8 : ido < bs.length + 1 + 1 + 1 + 1 + 1 + 1 + 1 + 1 := by omega
  have rr : ido < 2 + (bs.length + 1 + 1 + 1 + 1 + 1 + 1 + 1) := by omega
  have rr2 : 2 + ido < 2 + (bs.length + 1 + 1 + 1 + 1 + 1 + 1 + 1) := by omega
  have h5 : out.length + 1 ≤ 1073741824 := by omega
  simp only [kyA, evtC]
  refine inl_G mixed Try.func59 rfl (by kernel_rfl) (of_decide_eq_true rfl) (by kernel_rfl) (vc_run ?_)
  ((try simp -implicitDefEqProofs [-loopQ_n, sn, sn2, sn3, memF_0, memF_0E, memF_1, memF_1E, memF_len, memF_get, memF_getE, List.getElem?_append, List.getElem_append, List.getElem?_set, List.getElem_set, blkF, rowsOf_length, ne0, ne1, memF_set3, na01, na02, na03, na04, na05, na10, na12, na13, na14, na15, na20, na21, na23, na24, na25, na30, na31, na32, na34, na35, na40, na41, na42, na43, na45, na50, na51, na52, na53, na54, ne0', ne1', lt0, lt1, la01, la02, la03, la04, la05, la06, la12, la13, la14, la15, la16, la23, la24, la25, la26, la34, la35, la36, la45, la46, la56, -List.append_assoc]) <;> (repeat' (first | (refine condD_dec ?_ ?_ <;> (intro hc; (try simp -implicitDefEqProofs [-loopQ_n, hc, sn, sn2, sn3, memF_0, memF_0E, memF_1, memF_1E, memF_len, memF_get, memF_getE, List.getElem?_append, List.getElem_append, List.getElem?_set, List.getElem_set, blkF, rowsOf_length, ne0, ne1, memF_set3, na01, na02, na03, na04, na05, na10, na12, na13, na14, na15, na20, na21, na23, na24, na25, na30, na31, na32, na34, na35, na40, na41, na42, na43, na45, na50, na51, na52, na53, na54, ne0', ne1', lt0, lt1, la01, la02, la03, la04, la05, la06, la12, la13, la14, la15, la16, la23, la24, la25, la26, la34, la35, la36, la45, la46, la56, -List.append_assoc]))) | (refine guardD_dec ?_ ?_ <;> (intro hc; (try simp -implicitDefEqProofs [-loopQ_n, hc, sn, sn2, sn3, memF_0, memF_0E, memF_1, memF_1E, memF_len, memF_get, memF_getE, List.getElem?_append, List.getElem_append, List.getElem?_set, List.getElem_set, blkF, rowsOf_length, ne0, ne1, memF_set3, na01, na02, na03, na04, na05, na10, na12, na13, na14, na15, na20, na21, na23, na24, na25, na30, na31, na32, na34, na35, na40, na41, na42, na43, na45, na50, na51, na52, na53, na54, ne0', ne1', lt0, lt1, la01, la02, la03, la04, la05, la06, la12, la13, la14, la15, la16, la23, la24, la25, la26, la34, la35, la36, la45, la46, la56, -List.append_assoc]))) | (refine condD_intro ?_ ?_ <;> (intro hd; have hc := hd; (try simp at hc) <;> (try simp -implicitDefEqProofs [-loopQ_n, hd, hc, sn, sn2, sn3, memF_0, memF_0E, memF_1, memF_1E, memF_len, memF_get, memF_getE, List.getElem?_append, List.getElem_append, List.getElem?_set, List.getElem_set, blkF, rowsOf_length, ne0, ne1, memF_set3, na01, na02, na03, na04, na05, na10, na12, na13, na14, na15, na20, na21, na23, na24, na25, na30, na31, na32, na34, na35, na40, na41, na42, na43, na45, na50, na51, na52, na53, na54, ne0', ne1', lt0, lt1, la01, la02, la03, la04, la05, la06, la12, la13, la14, la15, la16, la23, la24, la25, la26, la34, la35, la36, la45, la46, la56, -List.append_assoc]))) | (refine guardD_intro ?_ ?_ <;> (intro hd; have hc := hd; (try simp at hc) <;> (try simp -implicitDefEqProofs [-loopQ_n, hd, hc, sn, sn2, sn3, memF_0, memF_0E, memF_1, memF_1E, memF_len, memF_get, memF_getE, List.getElem?_append, List.getElem_append, List.getElem?_set, List.getElem_set, blkF, rowsOf_length, ne0, ne1, memF_set3, na01, na02, na03, na04, na05, na10, na12, na13, na14, na15, na20, na21, na23, na24, na25, na30, na31, na32, na34, na35, na40, na41, na42, na43, na45, na50, na51, na52, na53, na54, ne0', ne1', lt0, lt1, la01, la02, la03, la04, la05, la06, la12, la13, la14, la15, la16, la23, la24, la25, la26, la34, la35, la36, la45, la46, la56, -List.append_assoc]))) | (refine ldD_ep ?_ ?_; (focus kernel_rfl); (try simp -implicitDefEqProofs [-loopQ_n, sn, sn2, sn3, memF_0, memF_0E, memF_1, memF_1E, memF_len, memF_get, memF_getE, List.getElem?_append, List.getElem_append, List.getElem?_set, List.getElem_set, blkF, rowsOf_length, ne0, ne1, memF_set3, na01, na02, na03, na04, na05, na10, na12, na13, na14, na15, na20, na21, na23, na24, na25, na30, na31, na32, na34, na35, na40, na41, na42, na43, na45, na50, na51, na52, na53, na54, ne0', ne1', lt0, lt1, la01, la02, la03, la04, la05, la06, la12, la13, la14, la15, la16, la23, la24, la25, la26, la34, la35, la36, la45, la46, la56, -List.append_assoc])))))
  have lk : ∀ x y z : Blk, lookF es (bs ++ [FE.ot x] ++ [FE.ot y] ++ [FE.ot z]) (c, a) = lookF es bs (c, a) := fun x y z => by rw [lookF_snoc (hE.snoc.snoc), lookF_snoc hE.snoc, lookF_snoc hE]
  have lk2 : ∀ x y z u v : Blk, lookF es (bs ++ [FE.ot x] ++ [FE.ot y] ++ [FE.ot z] ++ [FE.ot u] ++ [FE.ot v]) (c, a) = lookF es bs (c, a) := fun x y z u v => by rw [lookF_snoc hE.snoc.snoc.snoc.snoc, lookF_snoc hE.snoc.snoc.snoc, lk]
  refine callG_intro (first_G (es := es) (k := (c, a)) (s := 2) hE.snoc.snoc.snoc ?_ fun u v hu hv => ?_)
  · rw [lk]; exact hl
  rw [lk, i2]
  ((try simp -implicitDefEqProofs [-loopQ_n, memF_0, memF_0E, memF_1, memF_1E, memF_len, memF_get, memF_getE, List.getElem?_append, List.getElem_append, List.getElem?_set, List.getElem_set, blkF, rowsOf_length, ne0, ne1, memF_set3, na01, na02, na03, na04, na05, na10, na12, na13, na14, na15, na20, na21, na23, na24, na25, na30, na31, na32, na34, na35, na40, na41, na42, na43, na45, na50, na51, na52, na53, na54, ne0', ne1', lt0, lt1, la01, la02, la03, la04, la05, la06, la12, la13, la14, la15, la16, la23, la24, la25, la26, la34, la35, la36, la45, la46, la56, -List.append_assoc]) <;> (repeat' (first | (refine condD_dec ?_ ?_ <;> (intro hc; (try simp -implicitDefEqProofs [-loopQ_n, hc, memF_0, memF_0E, memF_1, memF_1E, memF_len, memF_get, memF_getE, List.getElem?_append, List.getElem_append, List.getElem?_set, List.getElem_set, blkF, rowsOf_length, ne0, ne1, memF_set3, na01, na02, na03, na04, na05, na10, na12, na13, na14, na15, na20, na21, na23, na24, na25, na30, na31, na32, na34, na35, na40, na41, na42, na43, na45, na50, na51, na52, na53, na54, ne0', ne1', lt0, lt1, la01, la02, la03, la04, la05, la06, la12, la13, la14, la15, la16, la23, la24, la25, la26, la34, la35, la36, la45, la46, la56, -List.append_assoc]))) | (refine guardD_dec ?_ ?_ <;> (intro hc; (try simp -implicitDefEqProofs [-loopQ_n, hc, memF_0, memF_0E, memF_1, memF_1E, memF_len, memF_get, memF_getE, List.getElem?_append, List.getElem_append, List.getElem?_set, List.getElem_set, blkF, rowsOf_length, ne0, ne1, memF_set3, na01, na02, na03, na04, na05, na10, na12, na13, na14, na15, na20, na21, na23, na24, na25, na30, na31, na32, na34, na35, na40, na41, na42, na43, na45, na50, na51, na52, na53, na54, ne0', ne1', lt0, lt1, la01, la02, la03, la04, la05, la06, la12, la13, la14, la15, la16, la23, la24, la25, la26, la34, la35, la36, la45, la46, la56, -List.append_assoc]))) | (refine condD_intro ?_ ?_ <;> (intro hd; have hc := hd; (try simp at hc) <;> (try simp -implicitDefEqProofs [-loopQ_n, hd, hc, memF_0, memF_0E, memF_1, memF_1E, memF_len, memF_get, memF_getE, List.getElem?_append, List.getElem_append, List.getElem?_set, List.getElem_set, blkF, rowsOf_length, ne0, ne1, memF_set3, na01, na02, na03, na04, na05, na10, na12, na13, na14, na15, na20, na21, na23, na24, na25, na30, na31, na32, na34, na35, na40, na41, na42, na43, na45, na50, na51, na52, na53, na54, ne0', ne1', lt0, lt1, la01, la02, la03, la04, la05, la06, la12, la13, la14, la15, la16, la23, la24, la25, la26, la34, la35, la36, la45, la46, la56, -List.append_assoc]))) | (refine guardD_intro ?_ ?_ <;> (intro hd; have hc := hd; (try simp at hc) <;> (try simp -implicitDefEqProofs [-loopQ_n, hd, hc, memF_0, memF_0E, memF_1, memF_1E, memF_len, memF_get, memF_getE, List.getElem?_append, List.getElem_append, List.getElem?_set, List.getElem_set, blkF, rowsOf_length, ne0, ne1, memF_set3, na01, na02, na03, na04, na05, na10, na12, na13, na14, na15, na20, na21, na23, na24, na25, na30, na31, na32, na34, na35, na40, na41, na42, na43, na45, na50, na51, na52, na53, na54, ne0', ne1', lt0, lt1, la01, la02, la03, la04, la05, la06, la12, la13, la14, la15, la16, la23, la24, la25, la26, la34, la35, la36, la45, la46, la56, -List.append_assoc]))) | (refine ldD_ep ?_ ?_; (focus kernel_rfl); (try simp -implicitDefEqProofs [-loopQ_n, memF_0, memF_0E, memF_1, memF_1E, memF_len, memF_get, memF_getE, List.getElem?_append, List.getElem_append, List.getElem?_set, List.getElem_set, blkF, rowsOf_length, ne0, ne1, memF_set3, na01, na02, na03, na04, na05, na10, na12, na13, na14, na15, na20, na21, na23, na24, na25, na30, na31, na32, na34, na35, na40, na41, na42, na43, na45, na50, na51, na52, na53, na54, ne0', ne1', lt0, lt1, la01, la02, la03, la04, la05, la06, la12, la13, la14, la15, la16, la23, la24, la25, la26, la34, la35, la36, la45, la46, la56, -List.append_assoc])))))
  have hE3 : ∀ x y z : Blk, EsOk es (bs ++ [FE.ot x] ++ [FE.ot y] ++ [FE.ot z]) := fun x y z => hE.snoc.snoc.snoc
  refine callG_intro (first_G (es := es) (k := (c, a)) (s := 1) hE.snoc.snoc.snoc.snoc.snoc ?_ fun u2 v2 hu2 hv2 => ?_)
  · rw [lk2]; exact hl
  rw [lk2, i1]
  ((try simp -implicitDefEqProofs [-loopQ_n, r0, r1, r2, r3, r4, r5, r6, r7, r8, rr, rr2, rE, hrow, h5, memF_0, memF_0E, memF_1, memF_1E, memF_len, memF_get, memF_getE, List.getElem?_append, List.getElem_append, List.getElem?_set, List.getElem_set, blkF, rowsOf_length, ne0, ne1, memF_set3, na01, na02, na03, na04, na05, na10, na12, na13, na14, na15, na20, na21, na23, na24, na25, na30, na31, na32, na34, na35, na40, na41, na42, na43, na45, na50, na51, na52, na53, na54, ne0', ne1', lt0, lt1, la01, la02, la03, la04, la05, la06, la12, la13, la14, la15, la16, la23, la24, la25, la26, la34, la35, la36, la45, la46, la56, -List.append_assoc]) <;> (repeat' (first | (refine condD_dec ?_ ?_ <;> (intro hc; (try simp -implicitDefEqProofs [-loopQ_n, hc, r0, r1, r2, r3, r4, r5, r6, r7, r8, rr, rr2, rE, hrow, h5, memF_0, memF_0E, memF_1, memF_1E, memF_len, memF_get, memF_getE, List.getElem?_append, List.getElem_append, List.getElem?_set, List.getElem_set, blkF, rowsOf_length, ne0, ne1, memF_set3, na01, na02, na03, na04, na05, na10, na12, na13, na14, na15, na20, na21, na23, na24, na25, na30, na31, na32, na34, na35, na40, na41, na42, na43, na45, na50, na51, na52, na53, na54, ne0', ne1', lt0, lt1, la01, la02, la03, la04, la05, la06, la12, la13, la14, la15, la16, la23, la24, la25, la26, la34, la35, la36, la45, la46, la56, -List.append_assoc]))) | (refine guardD_dec ?_ ?_ <;> (intro hc; (try simp -implicitDefEqProofs [-loopQ_n, hc, r0, r1, r2, r3, r4, r5, r6, r7, r8, rr, rr2, rE, hrow, h5, memF_0, memF_0E, memF_1, memF_1E, memF_len, memF_get, memF_getE, List.getElem?_append, List.getElem_append, List.getElem?_set, List.getElem_set, blkF, rowsOf_length, ne0, ne1, memF_set3, na01, na02, na03, na04, na05, na10, na12, na13, na14, na15, na20, na21, na23, na24, na25, na30, na31, na32, na34, na35, na40, na41, na42, na43, na45, na50, na51, na52, na53, na54, ne0', ne1', lt0, lt1, la01, la02, la03, la04, la05, la06, la12, la13, la14, la15, la16, la23, la24, la25, la26, la34, la35, la36, la45, la46, la56, -List.append_assoc]))) | (refine condD_intro ?_ ?_ <;> (intro hd; have hc := hd; (try simp at hc) <;> (try simp -implicitDefEqProofs [-loopQ_n, hd, hc, r0, r1, r2, r3, r4, r5, r6, r7, r8, rr, rr2, rE, hrow, h5, memF_0, memF_0E, memF_1, memF_1E, memF_len, memF_get, memF_getE, List.getElem?_append, List.getElem_append, List.getElem?_set, List.getElem_set, blkF, rowsOf_length, ne0, ne1, memF_set3, na01, na02, na03, na04, na05, na10, na12, na13, na14, na15, na20, na21, na23, na24, na25, na30, na31, na32, na34, na35, na40, na41, na42, na43, na45, na50, na51, na52, na53, na54, ne0', ne1', lt0, lt1, la01, la02, la03, la04, la05, la06, la12, la13, la14, la15, la16, la23, la24, la25, la26, la34, la35, la36, la45, la46, la56, -List.append_assoc]))) | (refine guardD_intro ?_ ?_ <;> (intro hd; have hc := hd; (try simp at hc) <;> (try simp -implicitDefEqProofs [-loopQ_n, hd, hc, r0, r1, r2, r3, r4, r5, r6, r7, r8, rr, rr2, rE, hrow, h5, memF_0, memF_0E, memF_1, memF_1E, memF_len, memF_get, memF_getE, List.getElem?_append, List.getElem_append, List.getElem?_set, List.getElem_set, blkF, rowsOf_length, ne0, ne1, memF_set3, na01, na02, na03, na04, na05, na10, na12, na13, na14, na15, na20, na21, na23, na24, na25, na30, na31, na32, na34, na35, na40, na41, na42, na43, na45, na50, na51, na52, na53, na54, ne0', ne1', lt0, lt1, la01, la02, la03, la04, la05, la06, la12, la13, la14, la15, la16, la23, la24, la25, la26, la34, la35, la36, la45, la46, la56, -List.append_assoc]))) | (refine ldD_ep ?_ ?_; (focus kernel_rfl); (try simp -implicitDefEqProofs [-loopQ_n, r0, r1, r2, r3, r4, r5, r6, r7, r8, rr, rr2, rE, hrow, h5, memF_0, memF_0E, memF_1, memF_1E, memF_len, memF_get, memF_getE, List.getElem?_append, List.getElem_append, List.getElem?_set, List.getElem_set, blkF, rowsOf_length, ne0, ne1, memF_set3, na01, na02, na03, na04, na05, na10, na12, na13, na14, na15, na20, na21, na23, na24, na25, na30, na31, na32, na34, na35, na40, na41, na42, na43, na45, na50, na51, na52, na53, na54, ne0', ne1', lt0, lt1, la01, la02, la03, la04, la05, la06, la12, la13, la14, la15, la16, la23, la24, la25, la26, la34, la35, la36, la45, la46, la56, -List.append_assoc])))))
  refine endG_n (.tup []) rfl ?_
  have hF7 := ((((((hF.snoc (mvI_key (t := 91) (a := c) (b := a))).snoc (mvI_evt (t := 41) (e := ⟨ec, ea, er, el, et, ed⟩))).snoc (mvI_exb (t := 95) (a := 2) (b := et) (c := et))).snoc hu).snoc hv).snoc hu2).snoc hv2
  have hr7 := app7 (a1 := .ot (.box 91 [.str c, .str a])) (a2 := .ot (.box 41 (evtC ⟨ec, ea, er, el, et, ed⟩))) (a3 := .ot (.box 95 [.int .i64 2, .int .i64 et, .int .i64 et])) (a4 := .ot u) (a5 := .ot v) (a6 := .ot u2) (a7 := .ot v2) hrow
  have hF8 := hF7.next (x := ⟨ec, ea, er, et, et, et⟩) hr7
  have hF9 := hF8.snoc (ins_mvI (t := 26) (nb := false) (l := [⟨ec, ea, er, et, et, et⟩]))
  have hm := hK _ _ hF9
  rw [← memF_snoc hF8.ok, ← memF_setot hr7, ← memF_out (fo := .os (2 + ido) out.length), List.set_comm _ _ (by omega : (0 : Nat) ≠ 2 + ido)] at hm
  have hsn : rowsOf insC out ++ [[AV.str ec, .str ea, .str er, .int .i64 et, .int .i64 et, .int .i64 et]] = rowsOf insC (out ++ [⟨ec, ea, er, et, et, et⟩]) := by simp [rowsOf, insC]
  rw [hsn]
  exact hm
end Go.Proofs.Ytpgoefakhecdnaa

/- The finder's methods, walked: complete, an execution having started. -/
namespace Go.Proofs.Ytpgoefakhecdnaa
set_option linter.unusedSimpArgs false
set_option linter.unusedVariables false
set_option linter.unnecessarySimpa false
set_option linter.unusedSectionVars false
open Go.RowKit
variable [Glob]
set_option maxRecDepth 100000
theorem app5 {bs : Fs} {i : Nat} {b a1 a2 a3 a4 a5 : FE} (h : bs[i]? = some b) : (bs ++ [a1] ++ [a2] ++ [a3] ++ [a4] ++ [a5])[i]? = some b := by
  have hl := (List.getElem?_eq_some_iff.1 h).1
  simp only [List.append_assoc]
  rw [List.getElem?_append_left hl]; exact h
theorem memF_set35 {es : Es} {fo : AV} {bs : Fs} {x y z w : FE} {b b' : Blk} : (memF es fo (bs ++ [x] ++ [y] ++ [.ot b] ++ [z] ++ [w])).set (2 + (bs.length + 1 + 1)) b' = memF es fo (bs ++ [x] ++ [y] ++ [.ot b'] ++ [z] ++ [w]) := by
  have h : (bs ++ [x] ++ [y] ++ [.ot b] ++ [z] ++ [w])[bs.length + 1 + 1]? = some (.ot b) := by
    simp only [List.append_assoc]
    rw [List.getElem?_append_right (by omega), show bs.length + 1 + 1 - bs.length = 2 by omega]
    rfl
  rw [memF_setot h]
  congr 1
  simp only [List.append_assoc]
  rw [List.set_append_right _ _ (by omega), show bs.length + 1 + 1 - bs.length = 2 by omega]
  rfl
theorem fin_eq {es : Es} {fo fo' : AV} {X : Fs} {i j : Nat} {D r1 r2 : Blk} {p : AV × AV} (hE : EsOk es X) (hi : i < X.length) :
    (((memF es fo X).set (2 + i) D).set 1 (.map ((mE kyA (valF X) es).set j p))).set 0 (.box 66 [.mp 1, fo']) ++ [r1] ++ [r2] =
      ((memF es fo' (X ++ [.ot r1] ++ [.ot r2])).set (2 + i) D).set 1 (.map ((mE kyA (valF (X ++ [.ot r1] ++ [.ot r2])) es).set j p)) := by
  rw [mE_more (hE.snoc (b := r1)), mE_more hE, ← memF_snoc (hE.snoc (b := r1)), ← memF_snoc hE, ← memF_out (fo := fo) (fo' := fo')]
  have hl : (memF es fo X).length = 2 + X.length := memF_len
  rw [List.set_append_left _ _ (by simp [hl]; omega), List.set_append_left _ _ (by simp [hl]; omega), List.set_append_left _ _ (by simp [hl]; omega), List.set_append_left _ _ (by simp [hl]; omega)]
  rw [List.set_comm _ _ (by omega : (0 : Nat) ≠ 2 + i), List.set_comm _ _ (by omega : (0 : Nat) ≠ 1)]
theorem afind_setv {k : Ky} {v v0 : Nat} (q : Ky) : ∀ (es : Es) (m j : Nat), afind k es m = some (m + j, v0) → afind q (es.set j (k, v)) m = if q = k then some (m + j, v) else afind q es m := by
  intro es
  induction es with
  | nil => intro m j h; simp [afind] at h
  | cons e r ih =>
    intro m j h
    simp only [afind] at h
    by_cases h1 : e.1 = k
    · rw [if_pos h1] at h
      have hj : j = 0 := by
        have := congrArg Prod.fst (Option.some.inj h)
        simp only at this
        omega
      subst hj
      simp only [List.set_cons_zero, afind]
      by_cases h2 : q = k
      · rw [if_pos h2.symm, if_pos h2]; rfl
      · rw [if_neg (Ne.symm h2), if_neg h2, if_neg (fun h3 => h2 (h3.symm.trans h1))]
    · rw [if_neg h1] at h
      have hs := h
      rw [afind_shift] at hs
      cases h3 : afind k r 0 with
      | none => rw [h3] at hs; simp at hs
      | some w =>
        rw [h3] at hs
        simp only [Option.map_some, Option.some.injEq, Prod.mk.injEq] at hs
        obtain ⟨j2, rfl⟩ : ∃ j2, j = j2 + 1 := ⟨w.1, by omega⟩
        have h4 := ih (m + 1) j2 (by rw [h]; congr 2; omega)
        simp only [List.set_cons_succ, afind]
        rw [h4]
        by_cases h2 : q = k
        · subst h2
          rw [if_neg h1, if_pos rfl, if_pos rfl]
          congr 2; omega
        · rw [if_neg h2, if_neg h2]
theorem FS.del {f : Of} {out : List Ins} {es : Es} {fo : AV} {X : Fs} {k : Ky} {j i : Nat} {L L' : List Xc} (h : FS f out es fo X) (hq : afind k es 0 = some (j, i)) (hb : X[i]? = some (.ex L)) :
    FS (updF f k L') out (es.set j (k, X.length)) fo (X.set i (.ot .gone) ++ [.ex L']) := by
  have hi := (List.getElem?_eq_some_iff.1 hb).1
  have hj := afind_eq hq
  have hjl := (List.getElem?_eq_some_iff.1 hj).1
  have hlast : (X.set i (.ot .gone) ++ [FE.ex L'])[X.length]? = some (.ex L') := by rw [List.getElem?_append_right (by simp)]; simp
  have hold : ∀ a b, X[a]? = some b → a ≠ i → (X.set i (.ot .gone) ++ [FE.ex L'])[a]? = some b := fun a b ha hne => by
    rw [List.getElem?_append_left (by simpa using (List.getElem?_eq_some_iff.1 ha).1), List.getElem?_set, if_neg (Ne.symm hne)]; exact ha
  have hkeys : (es.set j (k, X.length)).map (·.1) = es.map (·.1) := by
    refine List.ext_getElem? fun a => ?_
    simp only [List.getElem?_map, List.getElem?_set]
    split
    · rename_i e
      subst e
      rw [hj]; simp [hjl]
    · rfl
  have hmem : ∀ a p, (es.set j (k, X.length))[a]? = some p → (a = j ∧ p = (k, X.length)) ∨ (a ≠ j ∧ es[a]? = some p) := fun a p ha => by
    rw [List.getElem?_set] at ha
    by_cases e : j = a
    · rw [if_pos e, if_pos hjl] at ha
      exact .inl ⟨e.symm, (Option.some.inj ha).symm⟩
    · rw [if_neg e] at ha
      exact .inr ⟨Ne.symm e, ha⟩
  have hlt : ∀ p ∈ es, p.2 < X.length := fun p hp => by
    obtain ⟨l, hl⟩ := h.ok.2.2 p hp
    exact (List.getElem?_eq_some_iff.1 hl).1
  have hok : EsOk (es.set j (k, X.length)) (X.set i (.ot .gone) ++ [.ex L']) := by
    refine ⟨?_, by rw [hkeys]; exact h.ok.2.1, fun p hp => ?_⟩
    · rw [List.nodup_iff_pairwise_ne, List.pairwise_iff_getElem]
      intro a b ha hb' hab
      simp only [List.getElem_map]
      have ha2 : a < (es.set j (k, X.length)).length := by simpa using ha
      have hb2 : b < (es.set j (k, X.length)).length := by simpa using hb'
      rcases hmem a _ (List.getElem?_eq_getElem ha2) with ⟨e1, e2⟩ | ⟨e1, e2⟩ <;> rcases hmem b _ (List.getElem?_eq_getElem hb2) with ⟨e3, e4⟩ | ⟨e3, e4⟩
      · omega
      · rw [e2]
        have := hlt _ (List.mem_of_getElem? e4)
        simp only; omega
      · rw [e4]
        have := hlt _ (List.mem_of_getElem? e2)
        simp only; omega
      · intro q
        have := idx_uniq h.ok e2 e4 q
        omega
    · obtain ⟨a, ha, rfl⟩ := List.getElem_of_mem hp
      rcases hmem a _ (List.getElem?_eq_getElem ha) with ⟨_, e2⟩ | ⟨e1, e2⟩
      · rw [e2]; exact ⟨L', hlast⟩
      · obtain ⟨l, hl⟩ := h.ok.2.2 _ (List.mem_of_getElem? e2)
        exact ⟨l, hold _ _ hl fun q => e1 (idx_uniq h.ok e2 hj q)⟩
  have hfind : ∀ q, afind q (es.set j (k, X.length)) 0 = if q = k then some (j, X.length) else afind q es 0 := by
    intro q
    have := afind_setv (v := X.length) q es 0 j (by rw [Nat.zero_add]; exact hq)
    rw [Nat.zero_add] at this
    exact this
  refine ⟨hok, fun q => ?_, fun a b hab => ?_, h.res.imp id fun ⟨h1, ido, nb, h2, h3⟩ => ⟨h1, ido, nb, h2, hold _ _ h3 fun e => by rw [e, hb] at h3; simp at h3⟩⟩
  · unfold updF lookF
    rw [hfind]
    by_cases e : q = k
    · rw [if_pos e, if_pos e]
      simp only [hlast]
    · rw [if_neg e, if_neg e, ← h.look q]
      unfold lookF
      cases hq2 : afind q es 0 with
      | none => rfl
      | some w =>
        obtain ⟨j2, i2⟩ := w
        obtain ⟨l, hl⟩ := h.ok.2.2 (q, i2) (List.mem_of_getElem? (afind_eq hq2))
        simp only
        have hne : i2 ≠ i := fun he => by
          have := idx_uniq h.ok (afind_eq hq2) hj he
          have h1 := afind_eq hq2
          rw [this, hj] at h1
          simp at h1
          exact e h1.1.symm
        rw [hl, hold _ _ hl hne]
  · by_cases ha : a < X.length
    · rw [List.getElem?_append_left (by simpa using ha), List.getElem?_set] at hab
      split at hab
      · simp only [hi, if_true, Option.some.injEq, FE.ot.injEq] at hab
        rw [← hab]; exact fun _ _ _ _ => rfl
      · exact h.ots a b hab
    · rw [List.getElem?_append_right (by simpa using ha)] at hab
      cases hq3 : a - (X.set i (.ot .gone)).length with
      | zero => rw [hq3] at hab; simp at hab
      | succ _ => rw [hq3] at hab; simp at hab
theorem xc_flat {l : List Xc} : flatR (rowsOf xcC l) = true := by
  unfold flatR
  rw [List.all_eq_true]
  intro r hr
  obtain ⟨x, _, rfl⟩ := List.mem_map.1 hr
  rfl
theorem del_call {es : Es} {fo : AV} {X : Fs} {i n : Nat} {L : List Xc} {Lv : Nat} {T : List (Nat × AV)} {dst : Option Nat} {all r : List Oper} {jj : Nat} {k : List Item} {Q : Ex → St → Prop} (hb : X[i]? = some (.ex L)) (hn : n < L.length) (hl : L.length ≤ 1000000) (hnew : lastNew all jj = true)
    (h : run Try.prog Lv (.ops2 all (jj + 1) r :: k) ⟨tputD T dst (.ow (2 + i) L.length 0 (L.length - 1)), (memF es fo X).set (2 + i) (.row 95 false (delR (rowsOf xcC L) n))⟩ Q) :
    call2D Try.prog Lv (.fn 60 []) [.os (2 + i) L.length, .int .i64 n, .int .i64 (n + 1)] dst all jj r k ⟨T, memF es fo X⟩ Q := by
  have hq := memF_getQ (es := es) (fo := fo) hb
  have hi := (List.getElem?_eq_some_iff.1 hb).1
  refine ⟨_, _, rfl, .inr ⟨hnew, _, 2 + i, _, ?_, rfl, ?_, del_at (rowsOf xcC L) L.length n (2 + i) (rowsOf_length) hn xc_all (by omega) xc_flat hq, h⟩⟩
  · show 2 + i < (memF es fo X).length
    rw [memF_len]; omega
  · show isBoxO (memF es fo X)[2 + i]? = false
    rw [hq]; rfl
set_option maxHeartbeats 16000000 in
theorem complete_two {es : Es} {bs : Fs} {k : Ky} {e : Evt} {j i n : Nat} {L : List Xc} {K : AV → List Blk → Prop} (hE : EsOk es bs) (hq : afind k es 0 = some (j, i)) (hb : bs[i]? = some (.ex L)) (hl : L.length ≤ 1000000) (h2 : fstX 2 L = some n) {f : Of} (hF : FS f [] es .nils bs)
    (hK : ∀ es' fo' bs', FS (updF f k (L.eraseIdx n)) [insOf e (exA L n)] es' fo' bs' → K (.tup []) (memF es' fo' bs')) :
    CallG Try.prog 59 [.op 0 0, kyA k, .agg (evtC e)] (memF es .nils bs) K := by
  have hix := idx_some h2
  have hn := fst_lt h2
  have hL : lookF es bs k = L := by unfold lookF; rw [hq]; simp only; rw [hb]
  obtain ⟨c, a⟩ := k
  obtain ⟨ec, ea, er, el, et, ed⟩ := e
  have sn := fun b => memF_snoc (fo := .nils) (b := b) hE
  have sn2 := fun b0 b => memF_snoc (fo := .nils) (b := b) (hE.snoc (b := b0))
  have sn3 := fun b0 b1 b => memF_snoc (fo := .nils) (b := b) ((hE.snoc (b := b0)).snoc (b := b1))
  have hk := fun vc => fmf_key (es := es) (vc := vc) (a := c) (b := a)
  have hi := (List.getElem?_eq_some_iff.1 hb).1
  have j1 : i < bs.length + 1 := by omega
  have j2 : i < bs.length + 1 + 1 := by omega
  have j3 : i < bs.length + 1 + 1 + 1 := by omega
  have j4 : i < bs.length + 1 + 1 + 1 + 1 := by omega
  have j5 : i < bs.length + 1 + 1 + 1 + 1 + 1 := by omega
  have j6 : i < bs.length + 1 + 1 + 1 + 1 + 1 + 1 := by omega
  have m0 : (i = bs.length) = False := eq_false (by omega)
  have m1 : (i = bs.length + 1) = False := eq_false (by omega)
  have m2 : (i = bs.length + 1 + 1) = False := eq_false (by omega)
  have m3 : (i = bs.length + 1 + 1 + 1) = False := eq_false (by omega)
  have m4 : (i = bs.length + 1 + 1 + 1 + 1) = False := eq_false (by omega)
  have m5 : (i = bs.length + 1 + 1 + 1 + 1 + 1) = False := eq_false (by omega)
  have m6 : (i = bs.length + 1 + 1 + 1 + 1 + 1 + 1) = False := eq_false (by omega)
  have hbE : bs[i] = .ex L := (List.getElem?_eq_some_iff.1 hb).2
  have hv5 : ∀ x y z u v : FE, valF (bs ++ [x] ++ [y] ++ [z] ++ [u] ++ [v]) i = .os (2 + i) L.length := fun x y z u v => by
    simp only [List.append_assoc]
    exact valF_app hb
  obtain ⟨⟨x1, x2, x3⟩, hx⟩ : ∃ x, exA L n = x := ⟨_, rfl⟩
  have hLn : L[n]? = some ⟨x1, x2, x3⟩ := by
    rw [← hx]
    unfold exA
    rw [List.getD_eq_getElem?_getD, List.getElem?_eq_getElem hn]
    rfl
  have hLE : L[n] = ⟨x1, x2, x3⟩ := (List.getElem?_eq_some_iff.1 hLn).2
  have hr : (rowsOf xcC L)[n]? = some [.int .i64 x1, .int .i64 x2, .int .i64 x3] := by rw [rowsOf_get, hLn]; rfl
  rw [hx] at hK
  have hn0 : (0 : Int) ≤ n := by omega
  have hn1 : ¬ (n : Int) < 0 := by omega
  have hnl : (n : Int) < L.length := by omega
  have wn : wrapI .i64 ((n : Int) + 1) = (n : Int) + 1 := wrap_in (by omega) (by omega)
  simp only [kyA, evtC]
  refine inl_M [9] mixed Try.func59 rfl (by kernel_rfl) (of_decide_eq_true rfl) (by kernel_rfl) (vc_run ?_)
  ((try simp -implicitDefEqProofs [-loopQ_n, sn, sn2, sn3, memF_0, memF_0E, memF_1, memF_1E, memF_len, memF_get, memF_getE, List.getElem?_append, List.getElem_append, List.getElem?_set, List.getElem_set, blkF, rowsOf_length, ne0, ne1, memF_set3, memF_set35, na01, na02, na03, na04, na05, na10, na12, na13, na14, na15, na20, na21, na23, na24, na25, na30, na31, na32, na34, na35, na40, na41, na42, na43, na45, na50, na51, na52, na53, na54, ne0', ne1', lt0, lt1, la01, la02, la03, la04, la05, la06, la12, la13, la14, la15, la16, la23, la24, la25, la26, la34, la35, la36, la45, la46, la56, -List.append_assoc]) <;> (repeat' (first | (refine condD_dec ?_ ?_ <;> (intro hc; (try simp -implicitDefEqProofs [-loopQ_n, hc, sn, sn2, sn3, memF_0, memF_0E, memF_1, memF_1E, memF_len, memF_get, memF_getE, List.getElem?_append, List.getElem_append, List.getElem?_set, List.getElem_set, blkF, rowsOf_length, ne0, ne1, memF_set3, memF_set35, na01, na02, na03, na04, na05, na10, na12, na13, na14, na15, na20, na21, na23, na24, na25, na30, na31, na32, na34, na35, na40, na41, na42, na43, na45, na50, na51, na52, na53, na54, ne0', ne1', lt0, lt1, la01, la02, la03, la04, la05, la06, la12, la13, la14, la15, la16, la23, la24, la25, la26, la34, la35, la36, la45, la46, la56, -List.append_assoc]))) | (refine guardD_dec ?_ ?_ <;> (intro hc; (try simp -implicitDefEqProofs [-loopQ_n, hc, sn, sn2, sn3, memF_0, memF_0E, memF_1, memF_1E, memF_len, memF_get, memF_getE, List.getElem?_append, List.getElem_append, List.getElem?_set, List.getElem_set, blkF, rowsOf_length, ne0, ne1, memF_set3, memF_set35, na01, na02, na03, na04, na05, na10, na12, na13, na14, na15, na20, na21, na23, na24, na25, na30, na31, na32, na34, na35, na40, na41, na42, na43, na45, na50, na51, na52, na53, na54, ne0', ne1', lt0, lt1, la01, la02, la03, la04, la05, la06, la12, la13, la14, la15, la16, la23, la24, la25, la26, la34, la35, la36, la45, la46, la56, -List.append_assoc]))) | (refine condD_intro ?_ ?_ <;> (intro hd; have hc := hd; (try simp at hc) <;> (try simp -implicitDefEqProofs [-loopQ_n, hd, hc, sn, sn2, sn3, memF_0, memF_0E, memF_1, memF_1E, memF_len, memF_get, memF_getE, List.getElem?_append, List.getElem_append, List.getElem?_set, List.getElem_set, blkF, rowsOf_length, ne0, ne1, memF_set3, memF_set35, na01, na02, na03, na04, na05, na10, na12, na13, na14, na15, na20, na21, na23, na24, na25, na30, na31, na32, na34, na35, na40, na41, na42, na43, na45, na50, na51, na52, na53, na54, ne0', ne1', lt0, lt1, la01, la02, la03, la04, la05, la06, la12, la13, la14, la15, la16, la23, la24, la25, la26, la34, la35, la36, la45, la46, la56, -List.append_assoc]))) | (refine guardD_intro ?_ ?_ <;> (intro hd; have hc := hd; (try simp at hc) <;> (try simp -implicitDefEqProofs [-loopQ_n, hd, hc, sn, sn2, sn3, memF_0, memF_0E, memF_1, memF_1E, memF_len, memF_get, memF_getE, List.getElem?_append, List.getElem_append, List.getElem?_set, List.getElem_set, blkF, rowsOf_length, ne0, ne1, memF_set3, memF_set35, na01, na02, na03, na04, na05, na10, na12, na13, na14, na15, na20, na21, na23, na24, na25, na30, na31, na32, na34, na35, na40, na41, na42, na43, na45, na50, na51, na52, na53, na54, ne0', ne1', lt0, lt1, la01, la02, la03, la04, la05, la06, la12, la13, la14, la15, la16, la23, la24, la25, la26, la34, la35, la36, la45, la46, la56, -List.append_assoc]))) | (refine ldD_ep ?_ ?_; (focus kernel_rfl); (try simp -implicitDefEqProofs [-loopQ_n, sn, sn2, sn3, memF_0, memF_0E, memF_1, memF_1E, memF_len, memF_get, memF_getE, List.getElem?_append, List.getElem_append, List.getElem?_set, List.getElem_set, blkF, rowsOf_length, ne0, ne1, memF_set3, memF_set35, na01, na02, na03, na04, na05, na10, na12, na13, na14, na15, na20, na21, na23, na24, na25, na30, na31, na32, na34, na35, na40, na41, na42, na43, na45, na50, na51, na52, na53, na54, ne0', ne1', lt0, lt1, la01, la02, la03, la04, la05, la06, la12, la13, la14, la15, la16, la23, la24, la25, la26, la34, la35, la36, la45, la46, la56, -List.append_assoc])) | ((first | (refine ld2_op ?_ ?_; (focus kernel_rfl)) | (refine ld2_ep ?_ ?_; (focus kernel_rfl)) | (refine nbx_intro ?_ ?_; (focus kernel_rfl)) | (refine nbx_fin ?_; (focus kernel_rfl))); (try simp -implicitDefEqProofs [-loopQ_n, sn, sn2, sn3, memF_0, memF_0E, memF_1, memF_1E, memF_len, memF_get, memF_getE, List.getElem?_append, List.getElem_append, List.getElem?_set, List.getElem_set, blkF, rowsOf_length, ne0, ne1, memF_set3, memF_set35, na01, na02, na03, na04, na05, na10, na12, na13, na14, na15, na20, na21, na23, na24, na25, na30, na31, na32, na34, na35, na40, na41, na42, na43, na45, na50, na51, na52, na53, na54, ne0', ne1', lt0, lt1, la01, la02, la03, la04, la05, la06, la12, la13, la14, la15, la16, la23, la24, la25, la26, la34, la35, la36, la45, la46, la56, -List.append_assoc])))))
  have lk : ∀ x y z : Blk, lookF es (bs ++ [FE.ot x] ++ [FE.ot y] ++ [FE.ot z]) (c, a) = L := fun x y z => by rw [lookF_snoc (hE.snoc.snoc), lookF_snoc hE.snoc, lookF_snoc hE, hL]
  refine callG_intro (first_G (es := es) (k := (c, a)) (s := 2) hE.snoc.snoc.snoc ?_ fun u v hu hv => ?_)
  · rw [lk]; exact hl
  rw [lk, hix]
  ((try simp -implicitDefEqProofs [-loopQ_n, hn0, hn1, hnl, hn, hr, hLn, hLE, xcC, hk, hq, hv5, hi, j1, j2, j3, j4, j5, j6, m0, m1, m2, m3, m4, m5, m6, hb, hbE, wn, memF_0, memF_0E, memF_1, memF_1E, memF_len, memF_get, memF_getE, List.getElem?_append, List.getElem_append, List.getElem?_set, List.getElem_set, blkF, rowsOf_length, ne0, ne1, memF_set3, memF_set35, na01, na02, na03, na04, na05, na10, na12, na13, na14, na15, na20, na21, na23, na24, na25, na30, na31, na32, na34, na35, na40, na41, na42, na43, na45, na50, na51, na52, na53, na54, ne0', ne1', lt0, lt1, la01, la02, la03, la04, la05, la06, la12, la13, la14, la15, la16, la23, la24, la25, la26, la34, la35, la36, la45, la46, la56, -List.append_assoc]) <;> (repeat' (first | (refine condD_dec ?_ ?_ <;> (intro hc; (try simp -implicitDefEqProofs [-loopQ_n, hc, hn0, hn1, hnl, hn, hr, hLn, hLE, xcC, hk, hq, hv5, hi, j1, j2, j3, j4, j5, j6, m0, m1, m2, m3, m4, m5, m6, hb, hbE, wn, memF_0, memF_0E, memF_1, memF_1E, memF_len, memF_get, memF_getE, List.getElem?_append, List.getElem_append, List.getElem?_set, List.getElem_set, blkF, rowsOf_length, ne0, ne1, memF_set3, memF_set35, na01, na02, na03, na04, na05, na10, na12, na13, na14, na15, na20, na21, na23, na24, na25, na30, na31, na32, na34, na35, na40, na41, na42, na43, na45, na50, na51, na52, na53, na54, ne0', ne1', lt0, lt1, la01, la02, la03, la04, la05, la06, la12, la13, la14, la15, la16, la23, la24, la25, la26, la34, la35, la36, la45, la46, la56, -List.append_assoc]))) | (refine guardD_dec ?_ ?_ <;> (intro hc; (try simp -implicitDefEqProofs [-loopQ_n, hc, hn0, hn1, hnl, hn, hr, hLn, hLE, xcC, hk, hq, hv5, hi, j1, j2, j3, j4, j5, j6, m0, m1, m2, m3, m4, m5, m6, hb, hbE, wn, memF_0, memF_0E, memF_1, memF_1E, memF_len, memF_get, memF_getE, List.getElem?_append, List.getElem_append, List.getElem?_set, List.getElem_set, blkF, rowsOf_length, ne0, ne1, memF_set3, memF_set35, na01, na02, na03, na04, na05, na10, na12, na13, na14, na15, na20, na21, na23, na24, na25, na30, na31, na32, na34, na35, na40, na41, na42, na43, na45, na50, na51, na52, na53, na54, ne0', ne1', lt0, lt1, la01, la02, la03, la04, la05, la06, la12, la13, la14, la15, la16, la23, la24, la25, la26, la34, la35, la36, la45, la46, la56, -List.append_assoc]))) | (refine condD_intro ?_ ?_ <;> (intro hd; have hc := hd; (try simp at hc) <;> (try simp -implicitDefEqProofs [-loopQ_n, hd, hc, hn0, hn1, hnl, hn, hr, hLn, hLE, xcC, hk, hq, hv5, hi, j1, j2, j3, j4, j5, j6, m0, m1, m2, m3, m4, m5, m6, hb, hbE, wn, memF_0, memF_0E, memF_1, memF_1E, memF_len, memF_get, memF_getE, List.getElem?_append, List.getElem_append, List.getElem?_set, List.getElem_set, blkF, rowsOf_length, ne0, ne1, memF_set3, memF_set35, na01, na02, na03, na04, na05, na10, na12, na13, na14, na15, na20, na21, na23, na24, na25, na30, na31, na32, na34, na35, na40, na41, na42, na43, na45, na50, na51, na52, na53, na54, ne0', ne1', lt0, lt1, la01, la02, la03, la04, la05, la06, la12, la13, la14, la15, la16, la23, la24, la25, la26, la34, la35, la36, la45, la46, la56, -List.append_assoc]))) | (refine guardD_intro ?_ ?_ <;> (intro hd; have hc := hd; (try simp at hc) <;> (try simp -implicitDefEqProofs [-loopQ_n, hd, hc, hn0, hn1, hnl, hn, hr, hLn, hLE, xcC, hk, hq, hv5, hi, j1, j2, j3, j4, j5, j6, m0, m1, m2, m3, m4, m5, m6, hb, hbE, wn, memF_0, memF_0E, memF_1, memF_1E, memF_len, memF_get, memF_getE, List.getElem?_append, List.getElem_append, List.getElem?_set, List.getElem_set, blkF, rowsOf_length, ne0, ne1, memF_set3, memF_set35, na01, na02, na03, na04, na05, na10, na12, na13, na14, na15, na20, na21, na23, na24, na25, na30, na31, na32, na34, na35, na40, na41, na42, na43, na45, na50, na51, na52, na53, na54, ne0', ne1', lt0, lt1, la01, la02, la03, la04, la05, la06, la12, la13, la14, la15, la16, la23, la24, la25, la26, la34, la35, la36, la45, la46, la56, -List.append_assoc]))) | (refine ldD_ep ?_ ?_; (focus kernel_rfl); (try simp -implicitDefEqProofs [-loopQ_n, hn0, hn1, hnl, hn, hr, hLn, hLE, xcC, hk, hq, hv5, hi, j1, j2, j3, j4, j5, j6, m0, m1, m2, m3, m4, m5, m6, hb, hbE, wn, memF_0, memF_0E, memF_1, memF_1E, memF_len, memF_get, memF_getE, List.getElem?_append, List.getElem_append, List.getElem?_set, List.getElem_set, blkF, rowsOf_length, ne0, ne1, memF_set3, memF_set35, na01, na02, na03, na04, na05, na10, na12, na13, na14, na15, na20, na21, na23, na24, na25, na30, na31, na32, na34, na35, na40, na41, na42, na43, na45, na50, na51, na52, na53, na54, ne0', ne1', lt0, lt1, la01, la02, la03, la04, la05, la06, la12, la13, la14, la15, la16, la23, la24, la25, la26, la34, la35, la36, la45, la46, la56, -List.append_assoc])) | ((first | (refine ld2_op ?_ ?_; (focus kernel_rfl)) | (refine ld2_ep ?_ ?_; (focus kernel_rfl)) | (refine nbx_intro ?_ ?_; (focus kernel_rfl)) | (refine nbx_fin ?_; (focus kernel_rfl))); (try simp -implicitDefEqProofs [-loopQ_n, hn0, hn1, hnl, hn, hr, hLn, hLE, xcC, hk, hq, hv5, hi, j1, j2, j3, j4, j5, j6, m0, m1, m2, m3, m4, m5, m6, hb, hbE, wn, memF_0, memF_0E, memF_1, memF_1E, memF_len, memF_get, memF_getE, List.getElem?_append, List.getElem_append, List.getElem?_set, List.getElem_set, blkF, rowsOf_length, ne0, ne1, memF_set3, memF_set35, na01, na02, na03, na04, na05, na10, na12, na13, na14, na15, na20, na21, na23, na24, na25, na30, na31, na32, na34, na35, na40, na41, na42, na43, na45, na50, na51, na52, na53, na54, ne0', ne1', lt0, lt1, la01, la02, la03, la04, la05, la06, la12, la13, la14, la15, la16, la23, la24, la25, la26, la34, la35, la36, la45, la46, la56, -List.append_assoc])))))
  refine del_call (app5 hb) hn hl (by kernel_rfl) ?_
  ((try simp -implicitDefEqProofs [-loopQ_n, hn0, hn1, hnl, hn, hr, hLn, hLE, xcC, hk, hq, hv5, hi, j1, j2, j3, j4, j5, j6, m0, m1, m2, m3, m4, m5, m6, hb, hbE, wn, memF_0, memF_0E, memF_1, memF_1E, memF_len, memF_get, memF_getE, List.getElem?_append, List.getElem_append, List.getElem?_set, List.getElem_set, blkF, rowsOf_length, ne0, ne1, memF_set3, memF_set35, na01, na02, na03, na04, na05, na10, na12, na13, na14, na15, na20, na21, na23, na24, na25, na30, na31, na32, na34, na35, na40, na41, na42, na43, na45, na50, na51, na52, na53, na54, ne0', ne1', lt0, lt1, la01, la02, la03, la04, la05, la06, la12, la13, la14, la15, la16, la23, la24, la25, la26, la34, la35, la36, la45, la46, la56, -List.append_assoc]) <;> (repeat' (first | (refine condD_dec ?_ ?_ <;> (intro hc; (try simp -implicitDefEqProofs [-loopQ_n, hc, hn0, hn1, hnl, hn, hr, hLn, hLE, xcC, hk, hq, hv5, hi, j1, j2, j3, j4, j5, j6, m0, m1, m2, m3, m4, m5, m6, hb, hbE, wn, memF_0, memF_0E, memF_1, memF_1E, memF_len, memF_get, memF_getE, List.getElem?_append, List.getElem_append, List.getElem?_set, List.getElem_set, blkF, rowsOf_length, ne0, ne1, memF_set3, memF_set35, na01, na02, na03, na04, na05, na10, na12, na13, na14, na15, na20, na21, na23, na24, na25, na30, na31, na32, na34, na35, na40, na41, na42, na43, na45, na50, na51, na52, na53, na54, ne0', ne1', lt0, lt1, la01, la02, la03, la04, la05, la06, la12, la13, la14, la15, la16, la23, la24, la25, la26, la34, la35, la36, la45, la46, la56, -List.append_assoc]))) | (refine guardD_dec ?_ ?_ <;> (intro hc; (try simp -implicitDefEqProofs [-loopQ_n, hc, hn0, hn1, hnl, hn, hr, hLn, hLE, xcC, hk, hq, hv5, hi, j1, j2, j3, j4, j5, j6, m0, m1, m2, m3, m4, m5, m6, hb, hbE, wn, memF_0, memF_0E, memF_1, memF_1E, memF_len, memF_get, memF_getE, List.getElem?_append, List.getElem_append, List.getElem?_set, List.getElem_set, blkF, rowsOf_length, ne0, ne1, memF_set3, memF_set35, na01, na02, na03, na04, na05, na10, na12, na13, na14, na15, na20, na21, na23, na24, na25, na30, na31, na32, na34, na35, na40, na41, na42, na43, na45, na50, na51, na52, na53, na54, ne0', ne1', lt0, lt1, la01, la02, la03, la04, la05, la06, la12, la13, la14, la15, la16, la23, la24, la25, la26, la34, la35, la36, la45, la46, la56, -List.append_assoc]))) | (refine condD_intro ?_ ?_ <;> (intro hd; have hc := hd; (try simp at hc) <;> (try simp -implicitDefEqProofs [-loopQ_n, hd, hc, hn0, hn1, hnl, hn, hr, hLn, hLE, xcC, hk, hq, hv5, hi, j1, j2, j3, j4, j5, j6, m0, m1, m2, m3, m4, m5, m6, hb, hbE, wn, memF_0, memF_0E, memF_1, memF_1E, memF_len, memF_get, memF_getE, List.getElem?_append, List.getElem_append, List.getElem?_set, List.getElem_set, blkF, rowsOf_length, ne0, ne1, memF_set3, memF_set35, na01, na02, na03, na04, na05, na10, na12, na13, na14, na15, na20, na21, na23, na24, na25, na30, na31, na32, na34, na35, na40, na41, na42, na43, na45, na50, na51, na52, na53, na54, ne0', ne1', lt0, lt1, la01, la02, la03, la04, la05, la06, la12, la13, la14, la15, la16, la23, la24, la25, la26, la34, la35, la36, la45, la46, la56, -List.append_assoc]))) | (refine guardD_intro ?_ ?_ <;> (intro hd; have hc := hd; (try simp at hc) <;> (try simp -implicitDefEqProofs [-loopQ_n, hd, hc, hn0, hn1, hnl, hn, hr, hLn, hLE, xcC, hk, hq, hv5, hi, j1, j2, j3, j4, j5, j6, m0, m1, m2, m3, m4, m5, m6, hb, hbE, wn, memF_0, memF_0E, memF_1, memF_1E, memF_len, memF_get, memF_getE, List.getElem?_append, List.getElem_append, List.getElem?_set, List.getElem_set, blkF, rowsOf_length, ne0, ne1, memF_set3, memF_set35, na01, na02, na03, na04, na05, na10, na12, na13, na14, na15, na20, na21, na23, na24, na25, na30, na31, na32, na34, na35, na40, na41, na42, na43, na45, na50, na51, na52, na53, na54, ne0', ne1', lt0, lt1, la01, la02, la03, la04, la05, la06, la12, la13, la14, la15, la16, la23, la24, la25, la26, la34, la35, la36, la45, la46, la56, -List.append_assoc]))) | (refine ldD_ep ?_ ?_; (focus kernel_rfl); (try simp -implicitDefEqProofs [-loopQ_n, hn0, hn1, hnl, hn, hr, hLn, hLE, xcC, hk, hq, hv5, hi, j1, j2, j3, j4, j5, j6, m0, m1, m2, m3, m4, m5, m6, hb, hbE, wn, memF_0, memF_0E, memF_1, memF_1E, memF_len, memF_get, memF_getE, List.getElem?_append, List.getElem_append, List.getElem?_set, List.getElem_set, blkF, rowsOf_length, ne0, ne1, memF_set3, memF_set35, na01, na02, na03, na04, na05, na10, na12, na13, na14, na15, na20, na21, na23, na24, na25, na30, na31, na32, na34, na35, na40, na41, na42, na43, na45, na50, na51, na52, na53, na54, ne0', ne1', lt0, lt1, la01, la02, la03, la04, la05, la06, la12, la13, la14, la15, la16, la23, la24, la25, la26, la34, la35, la36, la45, la46, la56, -List.append_assoc])) | ((first | (refine ld2_op ?_ ?_; (focus kernel_rfl)) | (refine ld2_ep ?_ ?_; (focus kernel_rfl)) | (refine nbx_intro ?_ ?_; (focus kernel_rfl)) | (refine nbx_fin ?_; (focus kernel_rfl))); (try simp -implicitDefEqProofs [-loopQ_n, hn0, hn1, hnl, hn, hr, hLn, hLE, xcC, hk, hq, hv5, hi, j1, j2, j3, j4, j5, j6, m0, m1, m2, m3, m4, m5, m6, hb, hbE, wn, memF_0, memF_0E, memF_1, memF_1E, memF_len, memF_get, memF_getE, List.getElem?_append, List.getElem_append, List.getElem?_set, List.getElem_set, blkF, rowsOf_length, ne0, ne1, memF_set3, memF_set35, na01, na02, na03, na04, na05, na10, na12, na13, na14, na15, na20, na21, na23, na24, na25, na30, na31, na32, na34, na35, na40, na41, na42, na43, na45, na50, na51, na52, na53, na54, ne0', ne1', lt0, lt1, la01, la02, la03, la04, la05, la06, la12, la13, la14, la15, la16, la23, la24, la25, la26, la34, la35, la36, la45, la46, la56, -List.append_assoc])))))
  have hF5 := ((((hF.snoc (mvI_key (t := 91) (a := c) (b := a))).snoc (mvI_evt (t := 41) (e := ⟨ec, ea, er, el, et, ed⟩))).snoc (mvI_exb (t := 95) (a := x1) (b := x2) (c := x3))).snoc hu).snoc hv
  have hb5 := app5 (a1 := .ot (.box 91 [.str c, .str a])) (a2 := .ot (.box 41 (evtC ⟨ec, ea, er, el, et, ed⟩))) (a3 := .ot (.box 95 [.int .i64 x1, .int .i64 x2, .int .i64 x3])) (a4 := .ot u) (a5 := .ot v) hb
  have hi5 := (List.getElem?_eq_some_iff.1 hb5).1
  have hF7 := (hF5.snoc (ins_mvI (t := 26) (nb := false) (l := [⟨ec, ea, er, x2, x3, et⟩]))).first (x := ⟨ec, ea, er, x2, x3, et⟩) (nb := false)
  have hb7 := (List.getElem?_append_left (l₂ := [FE.ot (.row 26 false (rowsOf insC [⟨ec, ea, er, x2, x3, et⟩]))]) (by rw [List.length_append]; omega)).trans ((List.getElem?_append_left (l₂ := [FE.ot (.row 26 false (rowsOf insC [⟨ec, ea, er, x2, x3, et⟩]))]) hi5).trans hb5)
  simp only [List.length_append, List.length_singleton] at hF7
  have hFd := hF7.del (L' := L.eraseIdx n) hq hb7
  have hw := weak_del (Lv := 2 + bs.length) (fo := .os (2 + (bs.length + 1 + 1 + 1 + 1 + 1 + 1)) 1) (T := [(0, .tup [])]) hF7.ok hF7.ots hq hb7 hn (fun _ _ _ _ => rfl) (fun _ _ _ _ => rfl)
  have hm := hK _ _ _ hFd
  refine ⟨.tup [], .tup [], _, rfl, ?_, hm⟩
  have hfin := fin_eq (fo := .nils) (fo' := .os (2 + (bs.length + 1 + 1 + 1 + 1 + 1 + 1)) 1) (j := j) (D := .row 95 false (delR (rowsOf xcC L) n)) (r1 := .row 26 false (rowsOf insC [⟨ec, ea, er, x2, x3, et⟩])) (r2 := .row 26 false (rowsOf insC [⟨ec, ea, er, x2, x3, et⟩])) (p := (kyA (c, a), .ow (2 + i) L.length 0 (L.length - 1))) hF5.ok hi5
  rw [← hfin] at hw
  exact hw
end Go.Proofs.Ytpgoefakhecdnaa
