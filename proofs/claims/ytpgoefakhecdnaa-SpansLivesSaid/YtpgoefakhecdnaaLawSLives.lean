/- Each Complete event ends one instance, and events of another case change nothing (the law SpansLives holds for every input; no condition). -/
import Derived.Test.YtpgoefakhecdnaaRows
import Derived.Test.YtpgoefakhecdnaaInsY
import Derived.Test.YtpgoefakhecdnaaInsV
import Derived.Test.YtpgoefakhecdnaaDecL
import Derived.Test.YtpgoefakhecdnaaAbFrz
namespace Go.Proofs.Ytpgoefakhecdnaa.lawSLives
set_option linter.unusedSimpArgs false
set_option linter.unusedVariables false
set_option linter.unnecessarySimpa false
set_option linter.unusedSectionVars false
open Go.ChangeShapes Go.WideShapes Go.ChangeAt Go.RowKit Go.Joins Go.Deep
section
variable [Glob]
set_option maxRecDepth 100000
theorem run_len : ∀ (l : List Evt) (f : Of) (out : List Ins), (runI f out l).1.length ≤ out.length + l.length := by
  intro l
  induction l with
  | nil => intro f out; simp [runI]
  | cons e r ih =>
    intro f out
    simp only [runI]
    split
    · simp
    · rename_i L x _
      have h := ih (updF f (kyE e) L) (out ++ outE e x)
      have := outE_len (e := e) (x := x)
      simp only [List.length_append, List.length_cons] at h ⊢
      omega
theorem inst_len (l : List Evt) : (instL l).1.length ≤ l.length := by
  unfold instL
  split
  · have h1 := run_len l (fun _ => []) []
    simpa using h1
  · simp
theorem ins_own : ∀ {l : List Ins}, ∀ r ∈ rowsOf insC l, ∀ c ∈ r, owns c = false := rowsOf_owns' fun s c hc => by simp [insC] at hc; rcases hc with rfl | rfl | rfl | rfl | rfl | rfl <;> rfl
theorem evt_own : ∀ {l : List Evt}, ∀ r ∈ rowsOf evtC l, ∀ c ∈ r, owns c = false := rowsOf_owns' fun s c hc => by simp [evtC] at hc; rcases hc with rfl | rfl | rfl | rfl | rfl | rfl <;> rfl
theorem ins_mBr {ρ : Nat → Nat} {t : TypeId} {nb : Bool} {l : List Ins} : mB ρ (.row t nb (rowsOf insC l)) = .row t nb (rowsOf insC l) := by
  simp only [mB, rowsOf, List.map_map]
  congr 1
/-- slices.DeleteFunc at a slice anywhere. -/
theorem delC_at {g : Nat} {p : Ins → Bool} (hp : ∀ x, Pure Try.prog g [.agg (insC x)] (.bool (p x))) {nb : Bool} {l : List Ins} (hl : l.length ≤ 2000) {H : List Blk} {id : Nat} (hid : H[id]? = some (.row 26 nb (rowsOf insC l)))
    {K : AV → List Blk → Prop} (hK : ∀ id' H', H'[id']? = some (.row 26 nb (rowsOf insC (l.filter fun x => !p x))) → (∀ j, j < H.length → j ≠ id → H'[j]? = H[j]?) → K (.os id' (l.filter fun x => !p x).length) H') :
    CallG Try.prog 18 [.os id l.length, .fn g []] H K := by
  have hlt : id < H.length := (List.getElem?_eq_some_iff.1 hid).1
  refine foot_G (delC_G hp nb l hl) [id] rfl (by simp) (by simpa using hlt) (fun j i b hj hbb => ?_) (by simp [rn, mL, mA]) fun r H' hle hk => ?_
  · cases j with
    | succ j => simp at hj
    | zero =>
      simp at hj hbb
      subst hj hbb
      rw [hid, ins_mBr]
  rcases hk with ⟨rfl, rfl, hf⟩ | ⟨F, hf, rfl, rfl⟩
  · have e1 : mA (rn [id] H.length) (.os 0 l.length) = .os id l.length := by simp [mA, rn]
    have e2 : (putB H [id] ([Blk.row 26 nb (rowsOf insC l)].map (mB (rn [id] H.length)))) = H.set id (.row 26 nb (rowsOf insC l)) := by
      simp only [List.map_cons, List.map_nil, ins_mBr]
      simp [putB]
    rw [e1, e2]
    have := hK id (H.set id (.row 26 nb (rowsOf insC l))) (by rw [hf, List.getElem?_set, if_pos rfl, if_pos hlt]) (fun j _ hj => by rw [List.getElem?_set, if_neg (Ne.symm hj)])
    rw [hf] at this
    exact this
  · have e1 : mA (rn [id] H.length) (.os 1 F.length) = .os H.length F.length := by simp [mA, rn]
    have e2 : (putB H [id] ([Blk.gone, Blk.row 26 nb (rowsOf insC F)].map (mB (rn [id] H.length)))) = H.set id .gone ++ [.row 26 nb (rowsOf insC F)] := by
      simp only [List.map_cons, List.map_nil, ins_mBr]
      simp [putB, mB]
    rw [e1, e2, ← hf]
    refine hK _ _ (by rw [List.getElem?_append_right (by simp)]; simp) fun j hj hne => ?_
    rw [List.getElem?_append_left (by simpa using hj), List.getElem?_set, if_neg (Ne.symm hne)]
theorem evt_snoc {l : List Evt} {c a r : ByteArray} {li t : Int} {d : List Fld} : rowsOf evtC l ++ [[.str c, .str a, .str r, .int .i64 li, .int .i64 t, .rs (rowsOf fldC d)]] = rowsOf evtC (l ++ [⟨c, a, r, li, t, d⟩]) := by simp [rowsOf, evtC]
theorem evtL_reify {H : List Blk} {n : Nat} {l : List Evt} : (rowsOf evtC l).mapM (fun row => row.mapM (reify H (n + 1))) = some (rowsOf evtC l) := rowsOf_reify fun x => by simp [evtC, reify]
theorem fldL_refs {m : Nat} {l : List Fld} : refsR m (rowsOf fldC l) = true := rowsOf_refs fun x => by simp [fldC, refs]
def mgI (l o : List Evt) (i j : Nat) : List Evt := mgE (l.drop i) (o.drop j)
theorem mg_take {l o : List Evt} {i j : Nat} {v w : Evt} (hi : i < l.length) (hj : j < o.length) (hv : l[i] = v) (hw : o[j] = w) (h : w.time < v.time) : mgI l o i j = apE w :: mgI l o i (j + 1) := by
  unfold mgI
  rw [List.drop_eq_getElem_cons hi, List.drop_eq_getElem_cons hj, hv, hw, mgE, if_pos h]
theorem mg_own1 {l o : List Evt} {i j : Nat} {v w : Evt} (hi : i < l.length) (hj : j < o.length) (hv : l[i] = v) (hw : o[j] = w) (h : ¬ w.time < v.time) : mgI l o i j = v :: mgI l o (i + 1) j := by
  unfold mgI
  rw [List.drop_eq_getElem_cons hi, List.drop_eq_getElem_cons hj, hv, hw, mgE, if_neg h]
theorem mg_own2 {l o : List Evt} {i j : Nat} {v : Evt} (hi : i < l.length) (hj : ¬ j < o.length) (hv : l[i] = v) : mgI l o i j = v :: mgI l o (i + 1) j := by
  unfold mgI
  have e : o.drop j = [] := List.drop_eq_nil_of_le (by omega)
  rw [List.drop_eq_getElem_cons hi, e, hv, mgE]
theorem mg_rest {l o : List Evt} {i j : Nat} {w : Evt} (hi : ¬ i < l.length) (hj : j < o.length) (hw : o[j] = w) : mgI l o i j = apE w :: mgI l o i (j + 1) := by
  unfold mgI
  rw [List.drop_eq_nil_of_le (by omega), List.drop_eq_getElem_cons hj, hw]
  simp [mgE]
theorem mg_end {l o : List Evt} {i j : Nat} (hi : ¬ i < l.length) (hj : ¬ j < o.length) : mgI l o i j = [] := by
  unfold mgI
  rw [List.drop_eq_nil_of_le (by omega), List.drop_eq_nil_of_le (by omega)]
  simp [mgE]
/-- The rest of the instances at a place of the log. -/
def okI (l : List Evt) (x : List Ins) (i k : Nat) : Prop := k ≤ x.length ∧ okRun l (l.drop i) (x.drop k)
theorem okI_skip {l : List Evt} {x : List Ins} {i k : Nat} (hi : i < l.length) (hn : l[i].life ≠ 5) (h : okI l x i k) : okI l x (i + 1) k := by
  obtain ⟨h1, h2⟩ := h
  rw [List.drop_eq_getElem_cons hi, okRun, if_neg hn] at h2
  exact ⟨h1, h2⟩
theorem okI_ends {l : List Evt} {x : List Ins} {i k : Nat} (hi : i < l.length) (hn : l[i].life = 5) (h : okI l x i k) : ∃ (hk : k < x.length), goodI l l[i] x[k] ∧ okI l x (i + 1) (k + 1) := by
  obtain ⟨h1, h2⟩ := h
  rw [List.drop_eq_getElem_cons hi, okRun, if_pos hn] at h2
  obtain ⟨y, x', hx, hg, hr⟩ := h2
  have hk : k < x.length := by
    by_cases q : k < x.length
    · exact q
    · rw [List.drop_eq_nil_of_le (by omega)] at hx; cases hx
  rw [List.drop_eq_getElem_cons hk] at hx
  obtain ⟨rfl, rfl⟩ := List.cons.inj hx
  exact ⟨hk, hg, hk, hr⟩
theorem okI_fin {l : List Evt} {x : List Ins} {i k : Nat} (hi : ¬ i < l.length) (h : okI l x i k) : k = x.length := by
  obtain ⟨h1, h2⟩ := h
  rw [List.drop_eq_nil_of_le (by omega), okRun] at h2
  have := congrArg List.length h2
  simp at this
  omega
set_option maxHeartbeats 32000000 in
theorem main (l o : List Evt) (hl : l.length ≤ 9223372036854775807) (hd : ∀ e ∈ l, e.data.length ≤ 9223372036854775807) (ho : o.length ≤ 9223372036854775807) (hdo : ∀ e ∈ o, e.data.length ≤ 9223372036854775807) :
    Pure Try.prog 4 [.agg [.rs (rowsOf evtC l)], .agg [.rs (rowsOf evtC o)]] (.bool true) := by
  have hG := lgd_pure l hl hd
  have hGo := lgd_pure o ho hdo
  have hI := instances_pure l
  have hIo := instances_pure o
  have hxl := inst_len l
  have hzl := inst_len o
  have hbad := inst_bad l
  have hokR : ∀ x, instL l = (x, 0) → okI l x 0 0 := fun x h => ⟨Nat.zero_le _, (inst_okRun h).2⟩
  have hLaw := fun x z (h1 : instL l = (x, 0)) (h2 : instL o = (z, 0)) => lives_law h1 h2
  have hIM := instances_pure (mgE l o)
  have hyl := inst_len (mgE l o)
  have hML := mg_len _ l o rfl
  have hV := rlog_pure o
  obtain ⟨⟨x, ex⟩, hX⟩ : ∃ q, instL l = q := ⟨_, rfl⟩
  obtain ⟨⟨z, ez⟩, hZ⟩ : ∃ q, instL o = q := ⟨_, rfl⟩
  obtain ⟨⟨y, ey⟩, hY⟩ : ∃ q, instL (mgE l o) = q := ⟨_, rfl⟩
  rw [hX] at hI hxl hbad
  rw [hZ] at hIo hzl
  rw [hY] at hIM hyl
  simp only [insO] at hI hIo hIM hxl hzl hyl hbad
  obtain ⟨M, hM⟩ : ∃ M, mgE l o = M := ⟨_, rfl⟩
  rw [hM] at hIM hyl hML
  have hM0 : mgI l o 0 0 = M := by rw [← hM]; rfl
  have a2 := lgEvt_any (p := fun e => !ownE e) (l := l) (g := 17) (caps := []) (fun w _ => liv2_pure w) (fun H k => rfl) rfl hl
  have hSi := sing_pure o ho
  refine pure_of mixed Try.func4 rfl (by kernel_rfl) (of_decide_eq_true rfl) (by kernel_rfl) (vc_run ?_)
  by_cases g1 : lgdB l = true
  rotate_left
  · have g1 : lgdB l = false := by simpa using g1
    ((try simp -implicitDefEqProofs [-loopQ_n, g1]) <;> (repeat' (first | (refine condD_dec ?_ ?_ <;> (intro hc; (try simp -implicitDefEqProofs [-loopQ_n, hc, g1]))) | (refine guardD_dec ?_ ?_ <;> (intro hc; (try simp -implicitDefEqProofs [-loopQ_n, hc, g1]))) | (refine condD_intro ?_ ?_ <;> (intro hd; have hc := hd; (try simp at hc) <;> (try simp -implicitDefEqProofs [-loopQ_n, hd, hc, g1]))) | (refine guardD_intro ?_ ?_ <;> (intro hd; have hc := hd; (try simp at hc) <;> (try simp -implicitDefEqProofs [-loopQ_n, hd, hc, g1]))) | (refine ldD_ep ?_ ?_; (focus kernel_rfl); (try simp -implicitDefEqProofs [-loopQ_n, g1])) | (refine callS_mk ?_; (try simp -implicitDefEqProofs [-loopQ_n, g1]); (first | refine callS_intro (awake_pure) (.inl rfl) ?_ | refine callS_intro (hG) (.inl rfl) ?_); (try simp -implicitDefEqProofs [-loopQ_n, g1])))))
  by_cases g2 : (60 : Int) < l.length
  · ((try simp -implicitDefEqProofs [-loopQ_n, g1, g2]) <;> (repeat' (first | (refine condD_dec ?_ ?_ <;> (intro hc; (try simp -implicitDefEqProofs [-loopQ_n, hc, g1, g2]))) | (refine guardD_dec ?_ ?_ <;> (intro hc; (try simp -implicitDefEqProofs [-loopQ_n, hc, g1, g2]))) | (refine condD_intro ?_ ?_ <;> (intro hd; have hc := hd; (try simp at hc) <;> (try simp -implicitDefEqProofs [-loopQ_n, hd, hc, g1, g2]))) | (refine guardD_intro ?_ ?_ <;> (intro hd; have hc := hd; (try simp at hc) <;> (try simp -implicitDefEqProofs [-loopQ_n, hd, hc, g1, g2]))) | (refine ldD_ep ?_ ?_; (focus kernel_rfl); (try simp -implicitDefEqProofs [-loopQ_n, g1, g2])) | (refine callS_mk ?_; (try simp -implicitDefEqProofs [-loopQ_n, g1, g2]); (first | refine callS_intro (awake_pure) (.inl rfl) ?_ | refine callS_intro (hG) (.inl rfl) ?_); (try simp -implicitDefEqProofs [-loopQ_n, g1, g2])))))
  by_cases g3 : lgdB o = true
  rotate_left
  · have g3 : lgdB o = false := by simpa using g3
    ((try simp -implicitDefEqProofs [-loopQ_n, g1, g2, g3]) <;> (repeat' (first | (refine condD_dec ?_ ?_ <;> (intro hc; (try simp -implicitDefEqProofs [-loopQ_n, hc, g1, g2, g3]))) | (refine guardD_dec ?_ ?_ <;> (intro hc; (try simp -implicitDefEqProofs [-loopQ_n, hc, g1, g2, g3]))) | (refine condD_intro ?_ ?_ <;> (intro hd; have hc := hd; (try simp at hc) <;> (try simp -implicitDefEqProofs [-loopQ_n, hd, hc, g1, g2, g3]))) | (refine guardD_intro ?_ ?_ <;> (intro hd; have hc := hd; (try simp at hc) <;> (try simp -implicitDefEqProofs [-loopQ_n, hd, hc, g1, g2, g3]))) | (refine ldD_ep ?_ ?_; (focus kernel_rfl); (try simp -implicitDefEqProofs [-loopQ_n, g1, g2, g3])) | (refine callS_mk ?_; (try simp -implicitDefEqProofs [-loopQ_n, g1, g2, g3]); (first | refine callS_intro (awake_pure) (.inl rfl) ?_ | refine callS_intro (hG) (.inl rfl) ?_ | refine callS_intro (hGo) (.inl rfl) ?_); (try simp -implicitDefEqProofs [-loopQ_n, g1, g2, g3])))))
  by_cases g4 : (60 : Int) < o.length
  · ((try simp -implicitDefEqProofs [-loopQ_n, g1, g2, g3, g4]) <;> (repeat' (first | (refine condD_dec ?_ ?_ <;> (intro hc; (try simp -implicitDefEqProofs [-loopQ_n, hc, g1, g2, g3, g4]))) | (refine guardD_dec ?_ ?_ <;> (intro hc; (try simp -implicitDefEqProofs [-loopQ_n, hc, g1, g2, g3, g4]))) | (refine condD_intro ?_ ?_ <;> (intro hd; have hc := hd; (try simp at hc) <;> (try simp -implicitDefEqProofs [-loopQ_n, hd, hc, g1, g2, g3, g4]))) | (refine guardD_intro ?_ ?_ <;> (intro hd; have hc := hd; (try simp at hc) <;> (try simp -implicitDefEqProofs [-loopQ_n, hd, hc, g1, g2, g3, g4]))) | (refine ldD_ep ?_ ?_; (focus kernel_rfl); (try simp -implicitDefEqProofs [-loopQ_n, g1, g2, g3, g4])) | (refine callS_mk ?_; (try simp -implicitDefEqProofs [-loopQ_n, g1, g2, g3, g4]); (first | refine callS_intro (awake_pure) (.inl rfl) ?_ | refine callS_intro (hG) (.inl rfl) ?_ | refine callS_intro (hGo) (.inl rfl) ?_); (try simp -implicitDefEqProofs [-loopQ_n, g1, g2, g3, g4])))))
  have hl60 : l.length ≤ 60 := by omega
  have ho60 : o.length ≤ 60 := by omega
  by_cases g5 : ex = 0
  rotate_left
  · have hx0 := hbad g5
    subst hx0
    ((try simp -implicitDefEqProofs [-loopQ_n, g1, g2, g3, g4, g5, rowsOf_nil]) <;> (repeat' (first | (refine condD_dec ?_ ?_ <;> (intro hc; (try simp -implicitDefEqProofs [-loopQ_n, hc, g1, g2, g3, g4, g5, rowsOf_nil]))) | (refine guardD_dec ?_ ?_ <;> (intro hc; (try simp -implicitDefEqProofs [-loopQ_n, hc, g1, g2, g3, g4, g5, rowsOf_nil]))) | (refine condD_intro ?_ ?_ <;> (intro hd; have hc := hd; (try simp at hc) <;> (try simp -implicitDefEqProofs [-loopQ_n, hd, hc, g1, g2, g3, g4, g5, rowsOf_nil]))) | (refine guardD_intro ?_ ?_ <;> (intro hd; have hc := hd; (try simp at hc) <;> (try simp -implicitDefEqProofs [-loopQ_n, hd, hc, g1, g2, g3, g4, g5, rowsOf_nil]))) | (refine ldD_ep ?_ ?_; (focus kernel_rfl); (try simp -implicitDefEqProofs [-loopQ_n, g1, g2, g3, g4, g5, rowsOf_nil])) | (refine callS_mk ?_; (try simp -implicitDefEqProofs [-loopQ_n, g1, g2, g3, g4, g5, rowsOf_nil]); (first | refine callS_intro (awake_pure) (.inl rfl) ?_ | refine callS_intro (hG) (.inl rfl) ?_ | refine callS_intro (hGo) (.inl rfl) ?_ | refine callS_intro (hI) (.inr ⟨rfl, rfl⟩) ?_); (try simp -implicitDefEqProofs [-loopQ_n, g1, g2, g3, g4, g5, rowsOf_nil])))))
  subst g5
  have hok := hokR x hX
  ((try simp -implicitDefEqProofs [-loopQ_n, g1, g2, g3, g4]) <;> (repeat' (first | (refine condD_dec ?_ ?_ <;> (intro hc; (try simp -implicitDefEqProofs [-loopQ_n, hc, g1, g2, g3, g4]))) | (refine guardD_dec ?_ ?_ <;> (intro hc; (try simp -implicitDefEqProofs [-loopQ_n, hc, g1, g2, g3, g4]))) | (refine condD_intro ?_ ?_ <;> (intro hd; have hc := hd; (try simp at hc) <;> (try simp -implicitDefEqProofs [-loopQ_n, hd, hc, g1, g2, g3, g4]))) | (refine guardD_intro ?_ ?_ <;> (intro hd; have hc := hd; (try simp at hc) <;> (try simp -implicitDefEqProofs [-loopQ_n, hd, hc, g1, g2, g3, g4]))) | (refine ldD_ep ?_ ?_; (focus kernel_rfl); (try simp -implicitDefEqProofs [-loopQ_n, g1, g2, g3, g4])) | (refine callS_mk ?_; (try simp -implicitDefEqProofs [-loopQ_n, g1, g2, g3, g4]); (first | refine callS_intro (awake_pure) (.inl rfl) ?_ | refine callS_intro (hG) (.inl rfl) ?_ | refine callS_intro (hGo) (.inl rfl) ?_ | refine callS_intro (hI) (.inr ⟨rfl, rfl⟩) ?_); (try simp -implicitDefEqProofs [-loopQ_n, g1, g2, g3, g4])))))
  refine loop_intro (σ := Nat × Nat) (fun q => ⟨[(2, .op 0 0), (3, .op 1 0), (5, .rs (rowsOf insC x)), (7, .int .i64 q.2), (53, .rs (rowsOf evtC l)), (54, .int .i64 l.length), (55, .int .i64 q.1)], [.box 24 [.rs (rowsOf evtC l)], .box 24 [.rs (rowsOf evtC o)]]⟩)
    (fun q => q.1 ≤ l.length ∧ okI l x q.1 q.2) (fun q => l.length - q.1) (0, 0) ⟨by simp, hok⟩ ?_ ?_
  · refine weak_of 2 0 rfl rfl ?_ ?_ <;> simp [evtI_refs, ins_refs]
  clear hok
  rintro ⟨i, k⟩ ⟨hi, hok⟩
  simp only at hi hok
  by_cases h : i < l.length
  · have w1 := w_succ' h (by omega)
    have hsk := okI_skip (x := x) (k := k) h
    have hen := okI_ends (x := x) (k := k) h
    have hmem := List.getElem_mem h
    obtain ⟨⟨ec, ea, er, el, et, ed⟩, hf⟩ : ∃ e, l[i] = e := ⟨_, rfl⟩
    rw [hf] at hsk hen hmem
    by_cases c5 : el = 5
    · subst c5
      obtain ⟨hk, hg, hok'⟩ := hen rfl hok
      have w2 := w_succ' hk (by omega)
      obtain ⟨⟨yc, ya, yr, y1, y2, y3⟩, hfy⟩ : ∃ e, x[k] = e := ⟨_, rfl⟩
      rw [hfy] at hg
      obtain ⟨q1, rfl, rfl, rfl, rfl, q6⟩ := hg
      have hk2 : (k : Int) < x.length := by omega
      have hk3 : ¬ x.length ≤ k := by omega
      have hv1 := svalid1_pure ⟨yc, ya, yr, y1, y2, y3⟩
      rw [q1] at hv1
      have hA := lgEvt_any (p := fun w => decide (w.case_ = yc) && decide (w.act = ya) && decide (w.time = y1)) (l := l) (g := 14) (caps := [.rp (insC ⟨yc, ya, yr, y1, y2, y3⟩)]) (fun w _ => liv1_pure w ⟨yc, ya, yr, y1, y2, y3⟩) (fun H k => by simp) (by simp [refsL, refs]) hl
      have hany : (l.any fun w => decide (w.case_ = yc) && decide (w.act = ya) && decide (w.time = y1)) = true := by
        obtain ⟨w, hw, h1, h2, h3⟩ := q6
        rw [List.any_eq_true]
        exact ⟨w, hw, by simp at h1 h2 h3; simp [h1, h2, h3]⟩
      rw [hany] at hA
      simp only [insC] at hv1 hA
      ((try simp -implicitDefEqProofs [-loopQ_n, h, hf, hk, hk2, hk3, hfy, evtC, insC, w1, w2]) <;> (repeat' (first | (refine condD_dec ?_ ?_ <;> (intro hc; (try simp -implicitDefEqProofs [-loopQ_n, hc, h, hf, hk, hk2, hk3, hfy, evtC, insC, w1, w2]))) | (refine guardD_dec ?_ ?_ <;> (intro hc; (try simp -implicitDefEqProofs [-loopQ_n, hc, h, hf, hk, hk2, hk3, hfy, evtC, insC, w1, w2]))) | (refine condD_intro ?_ ?_ <;> (intro hd; have hc := hd; (try simp at hc) <;> (try simp -implicitDefEqProofs [-loopQ_n, hd, hc, h, hf, hk, hk2, hk3, hfy, evtC, insC, w1, w2]))) | (refine guardD_intro ?_ ?_ <;> (intro hd; have hc := hd; (try simp at hc) <;> (try simp -implicitDefEqProofs [-loopQ_n, hd, hc, h, hf, hk, hk2, hk3, hfy, evtC, insC, w1, w2]))) | (refine ldD_ep ?_ ?_; (focus kernel_rfl); (try simp -implicitDefEqProofs [-loopQ_n, h, hf, hk, hk2, hk3, hfy, evtC, insC, w1, w2])) | (refine callS_mk ?_; (try simp -implicitDefEqProofs [-loopQ_n, h, hf, hk, hk2, hk3, hfy, evtC, insC, w1, w2]); (first | refine callS_intro (hv1) (.inl rfl) ?_ | refine callS_intro (hA) (.inl rfl) ?_); (try simp -implicitDefEqProofs [-loopQ_n, h, hf, hk, hk2, hk3, hfy, evtC, insC, w1, w2])))))
      refine loop_next (i + 1, k + 1) ⟨h, hok'⟩ (by simp only; omega) (weak_of 2 0 rfl rfl ?_ ?_) <;> simp [evtI_refs, ins_refs, w1, w2]
    · have hok' := hsk c5 hok
      ((try simp -implicitDefEqProofs [-loopQ_n, h, hf, evtC, c5, w1]) <;> (repeat' (first | (refine condD_dec ?_ ?_ <;> (intro hc; (try simp -implicitDefEqProofs [-loopQ_n, hc, h, hf, evtC, c5, w1]))) | (refine guardD_dec ?_ ?_ <;> (intro hc; (try simp -implicitDefEqProofs [-loopQ_n, hc, h, hf, evtC, c5, w1]))) | (refine condD_intro ?_ ?_ <;> (intro hd; have hc := hd; (try simp at hc) <;> (try simp -implicitDefEqProofs [-loopQ_n, hd, hc, h, hf, evtC, c5, w1]))) | (refine guardD_intro ?_ ?_ <;> (intro hd; have hc := hd; (try simp at hc) <;> (try simp -implicitDefEqProofs [-loopQ_n, hd, hc, h, hf, evtC, c5, w1]))) | (refine ldD_ep ?_ ?_; (focus kernel_rfl); (try simp -implicitDefEqProofs [-loopQ_n, h, hf, evtC, c5, w1])))))
      refine loop_next (i + 1, k) ⟨h, hok'⟩ (by simp only; omega) (weak_of 2 0 rfl rfl ?_ ?_) <;> simp [evtI_refs, ins_refs, w1]
  have hkx := okI_fin h hok
  subst hkx
  clear hok hi
  by_cases g6 : logV o = true
  rotate_left
  · have g6 : logV o = false := by simpa using g6
    rw [g6] at hV
    ((try simp -implicitDefEqProofs [-loopQ_n, h]) <;> (repeat' (first | (refine condD_dec ?_ ?_ <;> (intro hc; (try simp -implicitDefEqProofs [-loopQ_n, hc, h]))) | (refine guardD_dec ?_ ?_ <;> (intro hc; (try simp -implicitDefEqProofs [-loopQ_n, hc, h]))) | (refine condD_intro ?_ ?_ <;> (intro hd; have hc := hd; (try simp at hc) <;> (try simp -implicitDefEqProofs [-loopQ_n, hd, hc, h]))) | (refine guardD_intro ?_ ?_ <;> (intro hd; have hc := hd; (try simp at hc) <;> (try simp -implicitDefEqProofs [-loopQ_n, hd, hc, h]))) | (refine ldD_ep ?_ ?_; (focus kernel_rfl); (try simp -implicitDefEqProofs [-loopQ_n, h])) | (refine callS_mk ?_; (try simp -implicitDefEqProofs [-loopQ_n, h]); (first | refine callS_intro (hV) (.inl rfl) ?_); (try simp -implicitDefEqProofs [-loopQ_n, h])))))
  rw [g6] at hV
  ((try simp -implicitDefEqProofs [-loopQ_n, h]) <;> (repeat' (first | (refine condD_dec ?_ ?_ <;> (intro hc; (try simp -implicitDefEqProofs [-loopQ_n, hc, h]))) | (refine guardD_dec ?_ ?_ <;> (intro hc; (try simp -implicitDefEqProofs [-loopQ_n, hc, h]))) | (refine condD_intro ?_ ?_ <;> (intro hd; have hc := hd; (try simp at hc) <;> (try simp -implicitDefEqProofs [-loopQ_n, hd, hc, h]))) | (refine guardD_intro ?_ ?_ <;> (intro hd; have hc := hd; (try simp at hc) <;> (try simp -implicitDefEqProofs [-loopQ_n, hd, hc, h]))) | (refine ldD_ep ?_ ?_; (focus kernel_rfl); (try simp -implicitDefEqProofs [-loopQ_n, h])) | (refine callS_mk ?_; (try simp -implicitDefEqProofs [-loopQ_n, h]); (first | refine callS_intro (hV) (.inl rfl) ?_); (try simp -implicitDefEqProofs [-loopQ_n, h])))))
  clear h
  refine loop_intro (σ := Nat × Nat × List Evt × Bool) (fun q => ⟨[(2, .op 0 0), (3, .op 1 0), (5, .rs (rowsOf insC x)), (11, .os 2 q.2.2.1.length), (12, .int .i64 q.2.1), (123, .rs (rowsOf evtC l)), (124, .int .i64 l.length), (125, .int .i64 q.1)], [.box 24 [.rs (rowsOf evtC l)], .box 24 [.rs (rowsOf evtC o)], .row 41 q.2.2.2 (rowsOf evtC q.2.2.1)]⟩)
    (fun q => q.1 ≤ l.length ∧ q.2.1 ≤ o.length ∧ q.2.2.1.length ≤ q.1 + q.2.1 ∧ q.2.2.1 ++ mgI l o q.1 q.2.1 = M) (fun q => l.length - q.1) (0, 0, [], true) ⟨by simp, by simp, by simp, by simpa using hM0⟩ ?_ ?_
  · refine weak_of 2 1 rfl rfl ?_ ?_ <;> simp [evtI_refs, ins_refs, rowsOf_nil]
  rintro ⟨i, j, acc, nb⟩ ⟨hi, hj, hal, hR⟩
  simp only at hi hj hal hR
  by_cases h : i < l.length
  · have w1 := w_succ' h (by omega)
    obtain ⟨⟨ec, ea, er, el, et, ed⟩, hf⟩ : ∃ e, l[i] = e := ⟨_, rfl⟩
    ((try simp -implicitDefEqProofs [-loopQ_n, h, hf, evtC]) <;> (repeat' (first | (refine condD_dec ?_ ?_ <;> (intro hc; (try simp -implicitDefEqProofs [-loopQ_n, hc, h, hf, evtC]))) | (refine guardD_dec ?_ ?_ <;> (intro hc; (try simp -implicitDefEqProofs [-loopQ_n, hc, h, hf, evtC]))) | (refine condD_intro ?_ ?_ <;> (intro hd; have hc := hd; (try simp at hc) <;> (try simp -implicitDefEqProofs [-loopQ_n, hd, hc, h, hf, evtC]))) | (refine guardD_intro ?_ ?_ <;> (intro hd; have hc := hd; (try simp at hc) <;> (try simp -implicitDefEqProofs [-loopQ_n, hd, hc, h, hf, evtC]))) | (refine ldD_ep ?_ ?_; (focus kernel_rfl); (try simp -implicitDefEqProofs [-loopQ_n, h, hf, evtC])))))
    refine loop_intro (σ := Nat × List Evt × Bool) (fun q => ⟨[(2, .op 0 0), (3, .op 1 0), (5, .rs (rowsOf insC x)), (11, .os 2 q.2.1.length), (12, .int .i64 q.1), (14, .op 3 0), (123, .rs (rowsOf evtC l)), (124, .int .i64 l.length), (125, .int .i64 i)], [.box 24 [.rs (rowsOf evtC l)], .box 24 [.rs (rowsOf evtC o)], .row 41 q.2.2 (rowsOf evtC q.2.1), .box 41 [.str ec, .str ea, .str er, .int .i64 el, .int .i64 et, .rs (rowsOf fldC ed)]]⟩)
      (fun q => q.1 ≤ o.length ∧ q.2.1.length ≤ i + q.1 ∧ q.2.1 ++ mgI l o i q.1 = M) (fun q => o.length - q.1) (j, acc, nb) ⟨hj, hal, hR⟩ ?_ ?_
    · refine weak_of 4 0 rfl rfl ?_ ?_ <;> simp [evtI_refs, ins_refs, fldL_refs]
    clear hj hal hR
    rintro ⟨j, acc, nb⟩ ⟨hj, hal, hR⟩
    simp only at hj hal hR
    have hl1 : acc.length ≤ 1073741823 := by omega
    by_cases g : j < o.length
    · have w2 := w_succ' g (by omega)
      have hap := apart_pure o[j]
      have mt := mg_take (w := o[j]) h g hf rfl
      have mo := mg_own1 (w := o[j]) h g hf rfl
      obtain ⟨⟨oc, oa, or_, ol, ot, od⟩, hfo⟩ : ∃ e, o[j] = e := ⟨_, rfl⟩
      rw [hfo] at mt mo hap
      simp only [apE, evtC, apB] at hap mt
      by_cases c1 : ot < et
      · rw [mt c1] at hR
        ((try simp -implicitDefEqProofs [-loopQ_n, g, hfo, evtC, c1, w2, hl1, evt_snoc]) <;> (repeat' (first | (refine condD_dec ?_ ?_ <;> (intro hc; (try simp -implicitDefEqProofs [-loopQ_n, hc, g, hfo, evtC, c1, w2, hl1, evt_snoc]))) | (refine guardD_dec ?_ ?_ <;> (intro hc; (try simp -implicitDefEqProofs [-loopQ_n, hc, g, hfo, evtC, c1, w2, hl1, evt_snoc]))) | (refine condD_intro ?_ ?_ <;> (intro hd; have hc := hd; (try simp at hc) <;> (try simp -implicitDefEqProofs [-loopQ_n, hd, hc, g, hfo, evtC, c1, w2, hl1, evt_snoc]))) | (refine guardD_intro ?_ ?_ <;> (intro hd; have hc := hd; (try simp at hc) <;> (try simp -implicitDefEqProofs [-loopQ_n, hd, hc, g, hfo, evtC, c1, w2, hl1, evt_snoc]))) | (refine ldD_ep ?_ ?_; (focus kernel_rfl); (try simp -implicitDefEqProofs [-loopQ_n, g, hfo, evtC, c1, w2, hl1, evt_snoc])) | (refine callS_mk ?_; (try simp -implicitDefEqProofs [-loopQ_n, g, hfo, evtC, c1, w2, hl1, evt_snoc]); (first | refine callS_intro (hap) (.inr ⟨rfl, rfl⟩) ?_); (try simp -implicitDefEqProofs [-loopQ_n, g, hfo, evtC, c1, w2, hl1, evt_snoc])))))
        refine loop_next (j + 1, acc ++ [⟨⟨#[97, 112, 97, 114, 116]⟩, oa, or_, ol, ot, od⟩], nb) ⟨g, by simp only [List.length_append, List.length_singleton]; omega, by simpa using hR⟩ (by simp only; omega) (weak_of 4 0 rfl rfl ?_ ?_) <;> simp [evtI_refs, ins_refs, fldL_refs, w2]
      · rw [mo c1] at hR
        ((try simp -implicitDefEqProofs [-loopQ_n, g, hfo, evtC, c1, w1, hl1, evt_snoc]) <;> (repeat' (first | (refine condD_dec ?_ ?_ <;> (intro hc; (try simp -implicitDefEqProofs [-loopQ_n, hc, g, hfo, evtC, c1, w1, hl1, evt_snoc]))) | (refine guardD_dec ?_ ?_ <;> (intro hc; (try simp -implicitDefEqProofs [-loopQ_n, hc, g, hfo, evtC, c1, w1, hl1, evt_snoc]))) | (refine condD_intro ?_ ?_ <;> (intro hd; have hc := hd; (try simp at hc) <;> (try simp -implicitDefEqProofs [-loopQ_n, hd, hc, g, hfo, evtC, c1, w1, hl1, evt_snoc]))) | (refine guardD_intro ?_ ?_ <;> (intro hd; have hc := hd; (try simp at hc) <;> (try simp -implicitDefEqProofs [-loopQ_n, hd, hc, g, hfo, evtC, c1, w1, hl1, evt_snoc]))) | (refine ldD_ep ?_ ?_; (focus kernel_rfl); (try simp -implicitDefEqProofs [-loopQ_n, g, hfo, evtC, c1, w1, hl1, evt_snoc])))))
        refine loop_next (i + 1, j, acc ++ [⟨ec, ea, er, el, et, ed⟩], nb) ⟨h, hj, by simp only [List.length_append, List.length_singleton]; omega, by simpa using hR⟩ (by simp only; omega) (weak_of 3 0 rfl rfl ?_ ?_) <;> simp [evtI_refs, ins_refs, w1]
    · rw [mg_own2 h g hf] at hR
      ((try simp -implicitDefEqProofs [-loopQ_n, g, evtC, w1, hl1, evt_snoc]) <;> (repeat' (first | (refine condD_dec ?_ ?_ <;> (intro hc; (try simp -implicitDefEqProofs [-loopQ_n, hc, g, evtC, w1, hl1, evt_snoc]))) | (refine guardD_dec ?_ ?_ <;> (intro hc; (try simp -implicitDefEqProofs [-loopQ_n, hc, g, evtC, w1, hl1, evt_snoc]))) | (refine condD_intro ?_ ?_ <;> (intro hd; have hc := hd; (try simp at hc) <;> (try simp -implicitDefEqProofs [-loopQ_n, hd, hc, g, evtC, w1, hl1, evt_snoc]))) | (refine guardD_intro ?_ ?_ <;> (intro hd; have hc := hd; (try simp at hc) <;> (try simp -implicitDefEqProofs [-loopQ_n, hd, hc, g, evtC, w1, hl1, evt_snoc]))) | (refine ldD_ep ?_ ?_; (focus kernel_rfl); (try simp -implicitDefEqProofs [-loopQ_n, g, evtC, w1, hl1, evt_snoc])))))
      refine loop_next (i + 1, j, acc ++ [⟨ec, ea, er, el, et, ed⟩], nb) ⟨h, hj, by simp only [List.length_append, List.length_singleton]; omega, by simpa using hR⟩ (by simp only; omega) (weak_of 3 0 rfl rfl ?_ ?_) <;> simp [evtI_refs, ins_refs, w1]
  ((try simp -implicitDefEqProofs [-loopQ_n, h]) <;> (repeat' (first | (refine condD_dec ?_ ?_ <;> (intro hc; (try simp -implicitDefEqProofs [-loopQ_n, hc, h]))) | (refine guardD_dec ?_ ?_ <;> (intro hc; (try simp -implicitDefEqProofs [-loopQ_n, hc, h]))) | (refine condD_intro ?_ ?_ <;> (intro hd; have hc := hd; (try simp at hc) <;> (try simp -implicitDefEqProofs [-loopQ_n, hd, hc, h]))) | (refine guardD_intro ?_ ?_ <;> (intro hd; have hc := hd; (try simp at hc) <;> (try simp -implicitDefEqProofs [-loopQ_n, hd, hc, h]))) | (refine ldD_ep ?_ ?_; (focus kernel_rfl); (try simp -implicitDefEqProofs [-loopQ_n, h])))))
  refine loop_intro (σ := Nat × List Evt × Bool) (fun q => if q.1 < o.length then ⟨[(2, .op 0 0), (3, .op 1 0), (5, .rs (rowsOf insC x)), (11, .os 2 q.2.1.length), (12, .int .i64 q.1)], [.box 24 [.rs (rowsOf evtC l)], .box 24 [.rs (rowsOf evtC o)], .row 41 q.2.2 (rowsOf evtC q.2.1)]⟩
      else ⟨[(2, .op 0 0), (3, .op 1 0), (5, .rs (rowsOf insC x)), (11, .rs (rowsOf evtC q.2.1)), (12, .int .i64 q.1)], [.box 24 [.rs (rowsOf evtC l)], .box 24 [.rs (rowsOf evtC o)]]⟩)
    (fun q => q.1 ≤ o.length ∧ q.2.1.length ≤ i + q.1 ∧ q.2.1 ++ mgI l o i q.1 = M) (fun q => o.length - q.1) (j, acc, nb) ⟨hj, hal, hR⟩ ?_ ?_
  · simp only
    split
    · refine weak_of 3 0 rfl rfl ?_ ?_ <;> simp [evtI_refs, ins_refs]
    · refine (weak_frz 2 41 nb (rowsOf evtC acc) rfl evt_own).trans ?_
      refine weak_of 2 0 rfl rfl ?_ ?_ <;> simp [frH, frB, frL, frA, evtI_refs, ins_refs]
  clear hj hal hR
  rintro ⟨j, acc, nb⟩ ⟨hj, hal, hR⟩
  simp only at hj hal hR
  by_cases g : j < o.length
  · have hl1 : acc.length ≤ 1073741823 := by omega
    have w2 := w_succ' g (by omega)
    have hap := apart_pure o[j]
    have mr := mg_rest (w := o[j]) h g rfl
    obtain ⟨⟨oc, oa, or_, ol, ot, od⟩, hfo⟩ : ∃ e, o[j] = e := ⟨_, rfl⟩
    rw [hfo] at mr hap
    simp only [apE, evtC, apB] at hap mr
    rw [mr] at hR
    simp only [g, if_true]
    ((try simp -implicitDefEqProofs [-loopQ_n, g, hfo, evtC, w2, hl1, evt_snoc]) <;> (repeat' (first | (refine condD_dec ?_ ?_ <;> (intro hc; (try simp -implicitDefEqProofs [-loopQ_n, hc, g, hfo, evtC, w2, hl1, evt_snoc]))) | (refine guardD_dec ?_ ?_ <;> (intro hc; (try simp -implicitDefEqProofs [-loopQ_n, hc, g, hfo, evtC, w2, hl1, evt_snoc]))) | (refine condD_intro ?_ ?_ <;> (intro hd; have hc := hd; (try simp at hc) <;> (try simp -implicitDefEqProofs [-loopQ_n, hd, hc, g, hfo, evtC, w2, hl1, evt_snoc]))) | (refine guardD_intro ?_ ?_ <;> (intro hd; have hc := hd; (try simp at hc) <;> (try simp -implicitDefEqProofs [-loopQ_n, hd, hc, g, hfo, evtC, w2, hl1, evt_snoc]))) | (refine ldD_ep ?_ ?_; (focus kernel_rfl); (try simp -implicitDefEqProofs [-loopQ_n, g, hfo, evtC, w2, hl1, evt_snoc])) | (refine callS_mk ?_; (try simp -implicitDefEqProofs [-loopQ_n, g, hfo, evtC, w2, hl1, evt_snoc]); (first | refine callS_intro (hap) (.inr ⟨rfl, rfl⟩) ?_); (try simp -implicitDefEqProofs [-loopQ_n, g, hfo, evtC, w2, hl1, evt_snoc])))))
    refine loop_next (j + 1, acc ++ [⟨⟨#[97, 112, 97, 114, 116]⟩, oa, or_, ol, ot, od⟩], nb) ⟨g, by simp only [List.length_append, List.length_singleton]; omega, by simpa using hR⟩ (by simp only; omega) ?_
    simp only
    split
    · refine weak_of 3 0 rfl rfl ?_ ?_ <;> simp [evtI_refs, ins_refs, w2]
    · refine (weak_frz 2 41 nb (rowsOf evtC (acc ++ [⟨⟨#[97, 112, 97, 114, 116]⟩, oa, or_, ol, ot, od⟩])) rfl evt_own).trans ?_
      refine weak_of 2 0 rfl rfl ?_ ?_ <;> simp [frH, frB, frL, frA, evtI_refs, ins_refs, w2]
  rw [mg_end h g, List.append_nil] at hR
  subst hR
  simp only [g, if_false]
  have hM2 : ¬ (2000 : Int) < acc.length := by omega
  by_cases g7 : ez = 0
  rotate_left
  · ((try simp -implicitDefEqProofs [-loopQ_n, g, hM2, g7, evtL_reify]) <;> (repeat' (first | (refine condD_dec ?_ ?_ <;> (intro hc; (try simp -implicitDefEqProofs [-loopQ_n, hc, g, hM2, g7, evtL_reify]))) | (refine guardD_dec ?_ ?_ <;> (intro hc; (try simp -implicitDefEqProofs [-loopQ_n, hc, g, hM2, g7, evtL_reify]))) | (refine condD_intro ?_ ?_ <;> (intro hd; have hc := hd; (try simp at hc) <;> (try simp -implicitDefEqProofs [-loopQ_n, hd, hc, g, hM2, g7, evtL_reify]))) | (refine guardD_intro ?_ ?_ <;> (intro hd; have hc := hd; (try simp at hc) <;> (try simp -implicitDefEqProofs [-loopQ_n, hd, hc, g, hM2, g7, evtL_reify]))) | (refine ldD_ep ?_ ?_; (focus kernel_rfl); (try simp -implicitDefEqProofs [-loopQ_n, g, hM2, g7, evtL_reify])) | (refine callS_mk ?_; (try simp -implicitDefEqProofs [-loopQ_n, g, hM2, g7, evtL_reify]); (first | refine callS_intro (hIM) (.inr ⟨rfl, rfl⟩) ?_ | refine callS_intro (hIo) (.inr ⟨rfl, rfl⟩) ?_); (try simp -implicitDefEqProofs [-loopQ_n, g, hM2, g7, evtL_reify])))))
  subst g7
  by_cases g8 : (l.any fun e => !ownE e) = true
  · rw [g8] at a2
    ((try simp -implicitDefEqProofs [-loopQ_n, g, hM2, evtL_reify]) <;> (repeat' (first | (refine condD_dec ?_ ?_ <;> (intro hc; (try simp -implicitDefEqProofs [-loopQ_n, hc, g, hM2, evtL_reify]))) | (refine guardD_dec ?_ ?_ <;> (intro hc; (try simp -implicitDefEqProofs [-loopQ_n, hc, g, hM2, evtL_reify]))) | (refine condD_intro ?_ ?_ <;> (intro hd; have hc := hd; (try simp at hc) <;> (try simp -implicitDefEqProofs [-loopQ_n, hd, hc, g, hM2, evtL_reify]))) | (refine guardD_intro ?_ ?_ <;> (intro hd; have hc := hd; (try simp at hc) <;> (try simp -implicitDefEqProofs [-loopQ_n, hd, hc, g, hM2, evtL_reify]))) | (refine ldD_ep ?_ ?_; (focus kernel_rfl); (try simp -implicitDefEqProofs [-loopQ_n, g, hM2, evtL_reify])) | (refine callS_mk ?_; (try simp -implicitDefEqProofs [-loopQ_n, g, hM2, evtL_reify]); (first | refine callS_intro (hIM) (.inr ⟨rfl, rfl⟩) ?_ | refine callS_intro (hIo) (.inr ⟨rfl, rfl⟩) ?_ | refine callS_intro (a2) (.inl rfl) ?_); (try simp -implicitDefEqProofs [-loopQ_n, g, hM2, evtL_reify])))))
  have g8' : (l.any fun e => !ownE e) = false := by simpa using g8
  rw [g8'] at a2
  have hyB : y.length ≤ 2000 := by omega
  have hxB : x.length ≤ 1000000 := by omega
  have hown : ∀ e ∈ l, ownE e = true := fun e he => by simpa using List.any_eq_false.1 g8' e he
  ((try simp -implicitDefEqProofs [-loopQ_n, g, hM2, evtL_reify]) <;> (repeat' (first | (refine condD_dec ?_ ?_ <;> (intro hc; (try simp -implicitDefEqProofs [-loopQ_n, hc, g, hM2, evtL_reify]))) | (refine guardD_dec ?_ ?_ <;> (intro hc; (try simp -implicitDefEqProofs [-loopQ_n, hc, g, hM2, evtL_reify]))) | (refine condD_intro ?_ ?_ <;> (intro hd; have hc := hd; (try simp at hc) <;> (try simp -implicitDefEqProofs [-loopQ_n, hd, hc, g, hM2, evtL_reify]))) | (refine guardD_intro ?_ ?_ <;> (intro hd; have hc := hd; (try simp at hc) <;> (try simp -implicitDefEqProofs [-loopQ_n, hd, hc, g, hM2, evtL_reify]))) | (refine ldD_ep ?_ ?_; (focus kernel_rfl); (try simp -implicitDefEqProofs [-loopQ_n, g, hM2, evtL_reify])) | (refine callS_mk ?_; (try simp -implicitDefEqProofs [-loopQ_n, g, hM2, evtL_reify]); (first | refine callS_intro (hIM) (.inr ⟨rfl, rfl⟩) ?_ | refine callS_intro (hIo) (.inr ⟨rfl, rfl⟩) ?_ | refine callS_intro (a2) (.inl rfl) ?_); (try simp -implicitDefEqProofs [-loopQ_n, g, hM2, evtL_reify])))))
  refine callG_intro (cloneIn_G y (by omega) fun nb => ?_)
  ((try simp -implicitDefEqProofs [-loopQ_n]) <;> (repeat' (first | (refine condD_dec ?_ ?_ <;> (intro hc; (try simp -implicitDefEqProofs [-loopQ_n, hc]))) | (refine guardD_dec ?_ ?_ <;> (intro hc; (try simp -implicitDefEqProofs [-loopQ_n, hc]))) | (refine condD_intro ?_ ?_ <;> (intro hd; have hc := hd; (try simp at hc) <;> (try simp -implicitDefEqProofs [-loopQ_n, hd, hc]))) | (refine guardD_intro ?_ ?_ <;> (intro hd; have hc := hd; (try simp at hc) <;> (try simp -implicitDefEqProofs [-loopQ_n, hd, hc]))) | (refine ldD_ep ?_ ?_; (focus kernel_rfl); (try simp -implicitDefEqProofs [-loopQ_n])))))
  refine callG_intro (delC_at (p := fun v => !ownI v) liv3_pure hyB rfl fun id' H' hid hH => ?_)
  have h0 := hH 0 (by simp) (by simp)
  have h1 := hH 1 (by simp) (by simp)
  simp at h0 h1
  cases hs : singB o with
  | false =>
    rw [hs] at hSi
    ((try simp -implicitDefEqProofs [-loopQ_n, h0, h1, hid]) <;> (repeat' (first | (refine condD_dec ?_ ?_ <;> (intro hc; (try simp -implicitDefEqProofs [-loopQ_n, hc, h0, h1, hid]))) | (refine guardD_dec ?_ ?_ <;> (intro hc; (try simp -implicitDefEqProofs [-loopQ_n, hc, h0, h1, hid]))) | (refine condD_intro ?_ ?_ <;> (intro hd; have hc := hd; (try simp at hc) <;> (try simp -implicitDefEqProofs [-loopQ_n, hd, hc, h0, h1, hid]))) | (refine guardD_intro ?_ ?_ <;> (intro hd; have hc := hd; (try simp at hc) <;> (try simp -implicitDefEqProofs [-loopQ_n, hd, hc, h0, h1, hid]))) | (refine ldD_ep ?_ ?_; (focus kernel_rfl); (try simp -implicitDefEqProofs [-loopQ_n, h0, h1, hid])) | (refine callS_mk ?_; (try simp -implicitDefEqProofs [-loopQ_n, h0, h1, hid]); (first | refine callS_intro (hSi) (.inl rfl) ?_); (try simp -implicitDefEqProofs [-loopQ_n, h0, h1, hid])))))
  | true =>
    rw [hs] at hSi
    obtain ⟨y', hy1, hy2, hy3⟩ := hLaw x z hX hZ hl60 ho60 hown (singB_spec hs)
    rw [hY] at hy1
    simp only [Prod.mk.injEq] at hy1
    obtain ⟨rfl, rfl⟩ := hy1
    have hfil : (y.filter fun v => !!ownI v) = x := by simpa using hy2
    rw [hfil] at hid ⊢
    have hEq := eqIn_self x hxB
    have w9 : wrapI .i64 ((x.length : Int) + z.length) = ((x.length + z.length : Nat) : Int) := by rw [wrap_in (by omega) (by omega)]; omega
    ((try simp -implicitDefEqProofs [-loopQ_n, h0, h1, hid, ins_reify, hy3, w9]) <;> (repeat' (first | (refine condD_dec ?_ ?_ <;> (intro hc; (try simp -implicitDefEqProofs [-loopQ_n, hc, h0, h1, hid, ins_reify, hy3, w9]))) | (refine guardD_dec ?_ ?_ <;> (intro hc; (try simp -implicitDefEqProofs [-loopQ_n, hc, h0, h1, hid, ins_reify, hy3, w9]))) | (refine condD_intro ?_ ?_ <;> (intro hd; have hc := hd; (try simp at hc) <;> (try simp -implicitDefEqProofs [-loopQ_n, hd, hc, h0, h1, hid, ins_reify, hy3, w9]))) | (refine guardD_intro ?_ ?_ <;> (intro hd; have hc := hd; (try simp at hc) <;> (try simp -implicitDefEqProofs [-loopQ_n, hd, hc, h0, h1, hid, ins_reify, hy3, w9]))) | (refine ldD_ep ?_ ?_; (focus kernel_rfl); (try simp -implicitDefEqProofs [-loopQ_n, h0, h1, hid, ins_reify, hy3, w9])) | (refine callS_mk ?_; (try simp -implicitDefEqProofs [-loopQ_n, h0, h1, hid, ins_reify, hy3, w9]); (first | refine callS_intro (hSi) (.inl rfl) ?_ | refine callS_intro (hEq) (.inl rfl) ?_); (try simp -implicitDefEqProofs [-loopQ_n, h0, h1, hid, ins_reify, hy3, w9])))))
theorem both (x0 : AV) (s0 : argS Try.prog 24 x0) (x1 : AV) (s1 : argS Try.prog 24 x1) : Pure Try.prog 4 [x0, x1] (.bool true) := by
  obtain ⟨l, rfl, hl, hd⟩ := log_dec s0
  rw [maxLen_eq] at hl
  have hd : ∀ e ∈ l, e.data.length ≤ 9223372036854775807 := fun e he => by have := hd e he; rwa [maxLen_eq] at this
  obtain ⟨o, rfl, ho, hdo⟩ := log_dec s1
  rw [maxLen_eq] at ho
  have hdo : ∀ e ∈ o, e.data.length ≤ 9223372036854775807 := fun e he => by have := hdo e he; rwa [maxLen_eq] at this
  exact main l o hl hd ho hdo
theorem walk (W : World) (hvo : VarsOk W (fun _ => False)) (v0 : Value) (x0 : AV) (r0 : RO W (fun _ => False) x0 v0) (s0 : argS Try.prog 24 x0) (v1 : Value) (x1 : AV) (r1 : RO W (fun _ => False) x1 v1) (s1 : argS Try.prog 24 x1) :
    Calls Try.prog 4 #[v0, v1] W fun e w' => e = .returned (.bool true) ∧ Below W.heap.size W w' := by
  refine ((both x0 s0 x1 s1).2 W (fun _ => False) _ (fun _ h => h.elim) hvo rfl ?_).mono ?_
  · intro j x v hj hv
    match j with
    | 0 => simp at hj hv; subst hj hv; exact r0
    | 1 => simp at hj hv; subst hj hv; exact r1
    | j + 2 => simp at hj
  · rintro e w' ⟨v, rfl, hv, hb⟩
    rw [ro_tt hv]
    exact ⟨rfl, hb⟩
end
set_option maxRecDepth 100000 in
theorem lifted (os : Os) (started : os.Started) (H : Type) (enc : TypeId × Value → H) :
    ReturnsInHanded {} Try.checked os 4 .any (Rows.spansLivesSpec.pre6 enc Try.prog Try.f4 Rows.spansLivesRow.domain false) (Rows.spansLivesSpec.post enc Try.prog Try.f4 false true false false) := by
  refine returnsInHanded_of_change (C := Try.checked) (@ownK { row := fun _ => none }) started (by kernel_rfl) Try.func4
    (ChangeSpec.witness6 (enc := enc) (C := Try.checked) false ⟨#[], #[.agg #[.slice none 0 0], .agg #[.slice none 0 0]], []⟩ 8 (by kernel_rfl) (by kernel_rfl) (by kernel_rfl) (by kernel_rfl)) ?_
  intro W base args ds gs before hval0 hW hcnd _
  have hval : ∀ (j : Nat) t v, Try.f4.params[j]? = some t → args[j]? = some v → Value.okWide Try.prog W .any base t v := hval0
  have hW' := hW
  obtain ⟨p, q, hA0, hV, rfl, hfz, hnd⟩ := hW
  have hA : DataW.TrodAll enc Try.prog W 0 (fun _ => true) true Try.f4.params.toList args.toList ds p := hA0
  rw [Try.params4] at hA hval
  obtain ⟨v0, vs0, d0, ds0, p0, q0, hargs, rfl, rfl, h0, r0⟩ := trodAll_cons hA
  obtain ⟨v1, vs1, d1, ds1, p1, q1, rfl, rfl, rfl, h1, r1⟩ := trodAll_cons r0
  obtain ⟨rfl, rfl, rfl⟩ := trodAll_nil r1
  obtain rfl : args = #[v0, v1] := by cases args; simp_all
  obtain ⟨rfl, rfl⟩ := trodVars_none hV
  letI : Glob := { row := fun _ => none }
  have k0 := h0
  have lt0 : ∀ x ∈ p0, x.block < W.heap.size := by obtain ⟨m, hm⟩ := k0; exact DataW.trod_lt m _ _ _ hm
  obtain ⟨x0, y0, s0⟩ := arg_open (P := Try.prog) (t := 24) (by kernel_rfl) (by kernel_rfl) (hval 0 24 v0 rfl rfl) h0
  have k1 := h1
  have lt1 : ∀ x ∈ p1, x.block < W.heap.size := by obtain ⟨m, hm⟩ := k1; exact DataW.trod_lt m _ _ _ hm
  obtain ⟨x1, y1, s1⟩ := arg_open (P := Try.prog) (t := 24) (by kernel_rfl) (by kernel_rfl) (hval 1 24 v1 rfl rfl) h1
  clear hA0 hval0
  refine (walk W ⟨fun g row h => (by cases h), fun g cs h => (by cases h)⟩ v0 x0 y0 s0 v1 x1 y1 s1).mono fun e W' ⟨he, bel⟩ => ?_
  subst he
  exact ⟨_, rfl, _, _, _, [], _, [], hW', trodAll_mk1 (shut_bool Try.underlying4 _), (trodAll_cons_mk (Below.trod laidK (by kernel_rfl) (of_decide_eq_true (by kernel_rfl)) k0 bel lt0) (trodAll_cons_mk (Below.trod laidK (by kernel_rfl) (of_decide_eq_true (by kernel_rfl)) k1 bel lt1) trodAll_mk0)), rfl, bel.frame _, fun h => by cases h⟩

theorem over : Rows.spansLivesRow.holds Try.pinned (OpenSpec.ofChange Rows.spansLivesSpec) :=
  OpenClaim.holds_of_wide 4 Try.f4 rfl rfl rfl rfl rfl rfl rfl ⟨rfl, rfl, rfl, rfl, rfl⟩ rfl rfl rfl rfl rfl (by kernel_rfl) Try.func4 (by kernel_rfl)
    (of_decide_eq_true (by kernel_rfl)) (by unfold Func.isWrapper; first | (rw [if_pos (by decide +kernel)]; kernel_rfl) | (rw [if_neg (by decide +kernel)]; exact ⟨rfl, rfl⟩))
    (fun os started H enc _ => lifted os started H enc)

theorem proved : Rows.SpansLivesSaid := over
end Go.Proofs.Ytpgoefakhecdnaa.lawSLives
