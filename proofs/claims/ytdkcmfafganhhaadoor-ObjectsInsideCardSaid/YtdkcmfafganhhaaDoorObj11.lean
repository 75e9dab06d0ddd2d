/- The log of a type of objects: the program's answer and the reference's. -/
import Derived.Test.YtdkcmfafganhhaaDoorObj10
import Derived.Test.YtdkcmfafganhhaaDoorEv0
namespace Go.Proofs.YtdkcmfafganhhaaDoor
set_option linter.unusedSimpArgs false
set_option linter.unusedVariables false
set_option linter.unnecessarySimpa false
set_option linter.unusedSectionVars false
open Go.RowKit
variable [Glob]
set_option maxRecDepth 100000
theorem evtC_len {e : Evt} : (evtC e).length = 6 := rfl
/-- The event of an object. -/
def mkE (act : ByteArray) (time : Int) (id : ByteArray) : Evt := ⟨id, act, ByteArray.empty, 5, time, []⟩
theorem oplain_pure (act : ByteArray) (time : Int) (refs : List Rf) (id : ByteArray) : Pure Tryd.prog 28 [.agg [.str act, .int .i64 time, .rs (rowsOf refC refs)], .str id] (.agg (evtC (mkE act time id))) := by
  refine pure_of mixed Tryd.func28 rfl (by kernel_rfl) (of_decide_eq_true rfl) (by kernel_rfl) (vc_run ?_)
  ((try simp -implicitDefEqProofs [-loopQ_n, evtC, mkE]) <;> (repeat' (first | (refine condD_dec ?_ ?_ <;> (intro hc; (try simp -implicitDefEqProofs [-loopQ_n, hc, evtC, mkE]))) | (refine guardD_dec ?_ ?_ <;> (intro hc; (try simp -implicitDefEqProofs [-loopQ_n, hc, evtC, mkE]))) | (refine condD_intro ?_ ?_ <;> (intro hd; have hc := hd; (try simp at hc) <;> (try simp -implicitDefEqProofs [-loopQ_n, hd, hc, evtC, mkE]))) | (refine guardD_intro ?_ ?_ <;> (intro hd; have hc := hd; (try simp at hc) <;> (try simp -implicitDefEqProofs [-loopQ_n, hd, hc, evtC, mkE]))) | (refine ldD_ep ?_ ?_; (focus kernel_rfl); (try simp -implicitDefEqProofs [-loopQ_n, evtC, mkE])))))
theorem rplain_pure (act : ByteArray) (time : Int) (refs : List Rf) (id : ByteArray) : Pure Tryd.prog 37 [.agg [.str act, .int .i64 time, .rs (rowsOf refC refs)], .str id] (.agg (evtC (mkE act time id))) := by
  refine pure_of mixed Tryd.func37 rfl (by kernel_rfl) (of_decide_eq_true rfl) (by kernel_rfl) (vc_run ?_)
  ((try simp -implicitDefEqProofs [-loopQ_n, evtC, mkE]) <;> (repeat' (first | (refine condD_dec ?_ ?_ <;> (intro hc; (try simp -implicitDefEqProofs [-loopQ_n, hc, evtC, mkE]))) | (refine guardD_dec ?_ ?_ <;> (intro hc; (try simp -implicitDefEqProofs [-loopQ_n, hc, evtC, mkE]))) | (refine condD_intro ?_ ?_ <;> (intro hd; have hc := hd; (try simp at hc) <;> (try simp -implicitDefEqProofs [-loopQ_n, hd, hc, evtC, mkE]))) | (refine guardD_intro ?_ ?_ <;> (intro hd; have hc := hd; (try simp at hc) <;> (try simp -implicitDefEqProofs [-loopQ_n, hd, hc, evtC, mkE]))) | (refine ldD_ep ?_ ?_; (focus kernel_rfl); (try simp -implicitDefEqProofs [-loopQ_n, evtC, mkE])))))
/-- The events of all objects of a type. -/
def flatEv (l : List Obj) (t : ByteArray) : List Evt := l.flatMap fun o => (ofL o.refs t).map fun r => mkE o.act o.time r.b
theorem flatEv_len {t : ByteArray} : ∀ {l : List Obj}, (∀ o ∈ l, o.refs.length ≤ 20) → (flatEv l t).length ≤ 20 * l.length := by
  intro l
  induction l with
  | nil => intro _; simp [flatEv]
  | cons o r ih =>
    intro h
    have h1 := h o (by simp)
    have h2 := ih fun q hq => h q (by simp [hq])
    have h3 : (ofL o.refs t).length ≤ o.refs.length := List.length_filter_le _ _
    simp only [flatEv, List.flatMap_cons, List.length_append, List.length_map, List.length_cons] at *
    omega
theorem evt_reify {H : List Blk} {n : Nat} {l : List Evt} : (rowsOf evtC l).mapM (fun row => row.mapM (reify H (n + 1))) = some (rowsOf evtC l) := rowsOf_reify fun x => by simp [evtC, reify]
theorem evt_refsR {m : Nat} {l : List Evt} : refsR m (rowsOf evtC l) = true := rowsOf_refs fun x => by simp [evtC, refs]
theorem evt_snoc {l : List Evt} {e : Evt} : rowsOf evtC l ++ [evtC e] = rowsOf evtC (l ++ [e]) := by simp [rowsOf]
def flatOut (l : List Obj) (t : ByteArray) : List Evt × Int :=
  if objV l = true ∧ isNameS t = true then (if flatEv l t = [] then ([], 10) else if ((flatEv l t).length : Int) > 2000 then ([], 5) else (flatEv l t, 0)) else ([], 1)
set_option maxHeartbeats 8000000 in
theorem oflat_pure (l : List Obj) (t : ByteArray) : Pure Tryd.prog 18 [.agg [.rs (rowsOf objC l)], .str t] (.tup [.agg [.rs (rowsOf evtC (flatOut l t).1)], .int .i64 (flatOut l t).2]) := by
  refine pure_of mixed Tryd.func18 rfl (by kernel_rfl) (of_decide_eq_true rfl) (by kernel_rfl) (vc_run ?_)
  ((try simp -implicitDefEqProofs [-loopQ_n, flatOut]) <;> (repeat' (first | (refine condD_dec ?_ ?_ <;> (intro hc; (try simp -implicitDefEqProofs [-loopQ_n, hc, flatOut]))) | (refine guardD_dec ?_ ?_ <;> (intro hc; (try simp -implicitDefEqProofs [-loopQ_n, hc, flatOut]))) | (refine condD_intro ?_ ?_ <;> (intro hd; have hc := hd; (try simp at hc) <;> (try simp -implicitDefEqProofs [-loopQ_n, hd, hc, flatOut]))) | (refine guardD_intro ?_ ?_ <;> (intro hd; have hc := hd; (try simp at hc) <;> (try simp -implicitDefEqProofs [-loopQ_n, hd, hc, flatOut]))) | (refine ldD_ep ?_ ?_; (focus kernel_rfl); (try simp -implicitDefEqProofs [-loopQ_n, flatOut])) | (refine callS_mk ?_; (try simp -implicitDefEqProofs [-loopQ_n, flatOut]); (first | refine callS_intro (ovalid_pure _) (.inl rfl) ?_ | refine callS_intro (isName_pure _) (.inl rfl) ?_); (try simp -implicitDefEqProofs [-loopQ_n, flatOut])))))
  have hsm := objV_small ‹objV l = true›
  have hln := hsm.1
  have hbd := flatEv_len (t := t) hsm.2
  refine loop_intro (σ := Nat × List Evt) (fun x => ⟨[(1, .str t), (4, .op 1 0), (6, .op 2 0), (22, .rs (rowsOf objC l)), (23, .int .i64 l.length), (24, .int .i64 x.1)], [.gone, .box 33 [.nils], .box 33 [.os 3 x.2.length], .row 51 true (rowsOf evtC x.2)]⟩)
    (fun x => x.1 ≤ l.length ∧ x.2 ++ flatEv (l.drop x.1) t = flatEv l t) (fun x => l.length - x.1) (0, []) ⟨by simp, by simp⟩ ?_ ?_
  · refine weak_of 3 1 rfl rfl ?_ ?_ <;> simp
  · rintro ⟨i, acc⟩ ⟨hi, hR⟩
    simp only at hi hR
    by_cases h : i < l.length
    · have w1 := w_succ h (by omega)
      obtain ⟨⟨act, time, refs⟩, hf⟩ : ∃ e, l[i] = e := ⟨_, rfl⟩
      have hl : refs.length ≤ 20 := by have := hsm.2 _ (List.getElem_mem h); rw [hf] at this; exact this
      have hl2 : (ofL refs t).length ≤ refs.length := List.length_filter_le _ _
      have hR2 : acc ++ ((ofL refs t).map (fun r => mkE act time r.b) ++ flatEv (l.drop (i + 1)) t) = flatEv l t := by rw [← hR, List.drop_eq_getElem_cons h, hf]; simp [flatEv]
      ((try simp -implicitDefEqProofs [-loopQ_n, h, hf, objC]) <;> (repeat' (first | (refine condD_dec ?_ ?_ <;> (intro hc; (try simp -implicitDefEqProofs [-loopQ_n, hc, h, hf, objC]))) | (refine guardD_dec ?_ ?_ <;> (intro hc; (try simp -implicitDefEqProofs [-loopQ_n, hc, h, hf, objC]))) | (refine condD_intro ?_ ?_ <;> (intro hd; have hc := hd; (try simp at hc) <;> (try simp -implicitDefEqProofs [-loopQ_n, hd, hc, h, hf, objC]))) | (refine guardD_intro ?_ ?_ <;> (intro hd; have hc := hd; (try simp at hc) <;> (try simp -implicitDefEqProofs [-loopQ_n, hd, hc, h, hf, objC]))) | (refine ldD_ep ?_ ?_; (focus kernel_rfl); (try simp -implicitDefEqProofs [-loopQ_n, h, hf, objC])) | (refine callS_mk ?_; (try simp -implicitDefEqProofs [-loopQ_n, h, hf, objC]); (first | refine callS_intro (oof_pure _ _ _ _ hl) (.inr ⟨rfl, rfl⟩) ?_); (try simp -implicitDefEqProofs [-loopQ_n, h, hf, objC])))))
      refine loop_intro (σ := Nat × List Evt) (fun x => ⟨[(1, .str t), (4, .op 1 0), (6, .op 2 0), (8, .op 4 0), (22, .rs (rowsOf objC l)), (23, .int .i64 l.length), (24, .int .i64 i), (30, .rs (rowsOf refC (ofL refs t))), (31, .int .i64 (ofL refs t).length), (32, .int .i64 x.1)], [.gone, .box 33 [.nils], .box 33 [.os 3 x.2.length], .row 51 true (rowsOf evtC x.2), .box 48 [.str act, .int .i64 time, .rs (rowsOf refC refs)]]⟩)
        (fun x => x.1 ≤ (ofL refs t).length ∧ x.2 ++ (((ofL refs t).drop x.1).map (fun r => mkE act time r.b) ++ flatEv (l.drop (i + 1)) t) = flatEv l t) (fun x => (ofL refs t).length - x.1) (0, acc) ⟨by simp, by simpa using hR2⟩ ?_ ?_
      · refine weak_of 5 0 rfl rfl ?_ ?_ <;> simp [evt_refsR]
      · rintro ⟨j, acc⟩ ⟨hj, hR⟩
        simp only at hj hR
        by_cases g : j < (ofL refs t).length
        · have w2 := w_succ g (by omega)
          obtain ⟨⟨a, b⟩, hr⟩ : ∃ e, (ofL refs t)[j] = e := ⟨_, rfl⟩
          rw [List.drop_eq_getElem_cons g, hr] at hR
          have hlen : acc.length + 1 ≤ 1073741824 := by
            have := congrArg List.length hR
            simp only [List.length_append, List.length_map, List.length_cons] at this
            omega
          ((try simp -implicitDefEqProofs [-loopQ_n, g, hr, refC, hlen, evtC_len]) <;> (repeat' (first | (refine condD_dec ?_ ?_ <;> (intro hc; (try simp -implicitDefEqProofs [-loopQ_n, hc, g, hr, refC, hlen, evtC_len]))) | (refine guardD_dec ?_ ?_ <;> (intro hc; (try simp -implicitDefEqProofs [-loopQ_n, hc, g, hr, refC, hlen, evtC_len]))) | (refine condD_intro ?_ ?_ <;> (intro hd; have hc := hd; (try simp at hc) <;> (try simp -implicitDefEqProofs [-loopQ_n, hd, hc, g, hr, refC, hlen, evtC_len]))) | (refine guardD_intro ?_ ?_ <;> (intro hd; have hc := hd; (try simp at hc) <;> (try simp -implicitDefEqProofs [-loopQ_n, hd, hc, g, hr, refC, hlen, evtC_len]))) | (refine ldD_ep ?_ ?_; (focus kernel_rfl); (try simp -implicitDefEqProofs [-loopQ_n, g, hr, refC, hlen, evtC_len])) | (refine callS_mk ?_; (try simp -implicitDefEqProofs [-loopQ_n, g, hr, refC, hlen, evtC_len]); (first | refine callS_intro (oplain_pure _ _ _ _) (.inr ⟨rfl, rfl⟩) ?_); (try simp -implicitDefEqProofs [-loopQ_n, g, hr, refC, hlen, evtC_len])))))
          refine loop_next (j + 1, acc ++ [mkE act time b]) ⟨by simp only; omega, by simp only; rw [← hR]; simp⟩ (by simp only; omega) (weak_of 5 0 rfl rfl ?_ ?_) <;> simp [w2, evt_refsR, evt_snoc]
        · rw [List.drop_eq_nil_of_le (by omega)] at hR
          ((try simp -implicitDefEqProofs [-loopQ_n, g]) <;> (repeat' (first | (refine condD_dec ?_ ?_ <;> (intro hc; (try simp -implicitDefEqProofs [-loopQ_n, hc, g]))) | (refine guardD_dec ?_ ?_ <;> (intro hc; (try simp -implicitDefEqProofs [-loopQ_n, hc, g]))) | (refine condD_intro ?_ ?_ <;> (intro hd; have hc := hd; (try simp at hc) <;> (try simp -implicitDefEqProofs [-loopQ_n, hd, hc, g]))) | (refine guardD_intro ?_ ?_ <;> (intro hd; have hc := hd; (try simp at hc) <;> (try simp -implicitDefEqProofs [-loopQ_n, hd, hc, g]))) | (refine ldD_ep ?_ ?_; (focus kernel_rfl); (try simp -implicitDefEqProofs [-loopQ_n, g])))))
          refine loop_next (i + 1, acc) ⟨by simp only; omega, by simp only; rw [← hR]; simp⟩ (by simp only; omega) (weak_of 4 0 rfl rfl ?_ ?_) <;> simp [w1, evt_refsR]
    · rw [List.drop_eq_nil_of_le (by omega)] at hR
      simp only [flatEv, List.flatMap_nil, List.append_nil] at hR
      have hR : acc = flatEv l t := hR
      subst hR
      ((try simp -implicitDefEqProofs [-loopQ_n, h, evt_reify]) <;> (repeat' (first | (refine condD_dec ?_ ?_ <;> (intro hc; (try simp -implicitDefEqProofs [-loopQ_n, hc, h, evt_reify]))) | (refine guardD_dec ?_ ?_ <;> (intro hc; (try simp -implicitDefEqProofs [-loopQ_n, hc, h, evt_reify]))) | (refine condD_intro ?_ ?_ <;> (intro hd; have hc := hd; (try simp at hc) <;> (try simp -implicitDefEqProofs [-loopQ_n, hd, hc, h, evt_reify]))) | (refine guardD_intro ?_ ?_ <;> (intro hd; have hc := hd; (try simp at hc) <;> (try simp -implicitDefEqProofs [-loopQ_n, hd, hc, h, evt_reify]))) | (refine ldD_ep ?_ ?_; (focus kernel_rfl); (try simp -implicitDefEqProofs [-loopQ_n, h, evt_reify])))))
theorem eq_drop {α : Type} {a b : List α} {i : Nat} (h : i < a.length) (h' : i < b.length) : (a.drop i = b.drop i) ↔ (a[i] = b[i] ∧ a.drop (i + 1) = b.drop (i + 1)) := by
  rw [List.drop_eq_getElem_cons h, List.drop_eq_getElem_cons h', List.cons.injEq]
end Go.Proofs.YtdkcmfafganhhaaDoor
