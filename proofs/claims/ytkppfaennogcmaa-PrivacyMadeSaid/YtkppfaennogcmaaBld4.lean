/- strings.Builder: Grow of a fresh builder, as a contract. -/
import Derived.Test.YtkppfaennogcmaaBld3
namespace Go.Proofs.Ytkppfaennogcmaa
set_option linter.unusedSimpArgs false
set_option linter.unusedVariables false
set_option linter.unnecessarySimpa false
set_option linter.unusedSectionVars false
open Go.RowKit
variable [Glob]
set_option maxRecDepth 100000
theorem grow_G {n : Nat} (h0 : 0 < n) (hn : n ≤ 1073741824) : Foot Try.prog 107 [.op 0 0, .int .i64 n] [.box bT [.nilp, .nils]] (.tup []) [.box bT [.op 0 0, .os 1 0], .row 5 false (bR [])] := by
  refine ⟨by kernel_rfl, fun w0 w X φ vs hr hl hv => ?_⟩
  obtain ⟨v0, v1, rfl⟩ : ∃ v0 v1, vs = #[v0, v1] := by
    obtain ⟨l⟩ := vs
    match l, hl with
    | [a, b], _ => exact ⟨a, b, rfl⟩
  have hv0 := hv 0 _ v0 rfl rfl
  have e1 := (hv 1 _ v1 rfl rfl).int_inv
  subst e1
  have hb : ([Blk.box bT [.nilp, .nils]] : List Blk)[0]? = some (.box bT [.nilp, .nils]) := rfl
  obtain ⟨c, hc, rfl⟩ := own_ptr (w0 := w0) hb hv0
  obtain ⟨cur, q1, q2, q3⟩ := hr.blk 0 _ c hb hc
  have hs2 : cur.size = 2 := by simpa using q2
  obtain ⟨u0, u1, rfl⟩ : ∃ u0 u1, cur = #[u0, u1] := by
    obtain ⟨l⟩ := cur
    match l, hs2 with
    | [a, b], _ => exact ⟨a, b, rfl⟩
  have e0 : u0 = .pointer none := by cases (q3 0 _ u0 rfl rfl).1 with | ro h => cases h; rfl
  have e1 := (q3 1 _ u1 rfl rfl).1.nils_inv
  subst e0 e1
  have hclt : c < w.heap.size := (hr.own 0 c hc).2.1
  refine (Grow_calls c n w q1 (by omega)).mono ?_
  rintro e w' ⟨rfl, w2, hw2, ⟨h, _⟩ | ⟨cs, hcs, rfl⟩⟩
  · omega
  rw [setCell_eq_setRow w c 0 _ bT (0, 0) _ q1] at hw2
  have hw2' : w2 = w.setRow c #[.pointer (some ⟨c, 0, none⟩), .slice none 0 0] := hw2
  clear hw2
  have hsh : Shape (.box bT [.nilp, .nils]) (.box bT [.op 0 0, .nils]) := ⟨fun t cs e => (by cases e; exact ⟨_, rfl⟩), fun _ _ _ e => (by cases e), fun _ e => (by cases e)⟩
  have hT2 := turn_setRow hr hb hc hsh (cur' := #[.pointer (some ⟨c, 0, none⟩), .slice none 0 0]) q1 rfl
  have hr2 := hr_setRow hr hb hc hsh (cur' := #[.pointer (some ⟨c, 0, none⟩), .slice none 0 0]) q1 rfl ⟨_, setRow_heap w c _ _ _ _ q1, rfl, fun j y v hy hv => by
    match j with
    | 0 => simp at hy hv; subst hy hv; exact ⟨hv0.turn hT2, rfl⟩
    | 1 => simp at hy hv; subst hy hv; exact ⟨.ro .nils, rfl⟩
    | j + 2 => simp at hy⟩
  rw [← hw2'] at hT2 hr2
  have hsz : w2.heap.size = w.heap.size := by rw [hw2']; simp [World.setRow]
  have hp2 := hr_push hr2 (.row 5 false [])
  have hpT := turn_push w2 φ (([Blk.box bT [.nilp, .nils]] : List Blk).set 0 (.box bT [.op 0 0, .nils])) (.row 5 false [])
  have hce : Try.prog.cellsOf 5 = 1 := by kernel_rfl
  have hφ1 : φ 1 = none := by
    cases h : φ 1 with
    | none => rfl
    | some g => have := (hr.own 1 g h).2.2; simp at this
  obtain ⟨x, w3, φ3, hx, hr3, hT3, hv3, _⟩ := newRow_sound (P := Try.prog) hp2 (e := 5) (cur := cs) (rows := []) (nid := 1) (cap := cs.size) (by simp) (by rw [hce]; omega) (by simp) (hcs (by unfold maxLen; omega)) (by simp) rfl hφ1 (r := .ok (.value (.slice (some ⟨w2.heap.size, 0, none⟩) 0 cs.size)) (w2.alloc (.cells cs 5))) rfl
  obtain ⟨rfl, rfl⟩ : x = .slice (some ⟨w2.heap.size, 0, none⟩) 0 cs.size ∧ w3 = w2.alloc (.cells cs 5) := by
    rcases hx with h | ⟨h, _⟩
    · simp at h; exact ⟨h.1.symm, h.2.symm⟩
    · simp at h
  have hc3 : φ3 0 = some c := by
    obtain ⟨_, _, h⟩ := hT3.box 0 bT [.op 0 0, .nils] (by simp) rfl
    exact h c hc
  have q3' : (w2.alloc (.cells cs 5)).heap[c]? = some (.cells #[.pointer (some ⟨c, 0, none⟩), .slice none 0 0] bT (0, 0)) := by
    rw [heap_alloc w2 _ c (by omega), hw2']
    exact setRow_heap w c _ _ _ _ q1
  have hp3 : RV Try.prog (w2.alloc (.cells cs 5)) X φ3 _ (.op 0 0) (.pointer (some ⟨c, 0, none⟩)) := ((hv0.turn hT2).turn hpT).turn hT3
  have hsh3 : Shape (.box bT [.op 0 0, .nils]) (.box bT [.op 0 0, .os 1 0]) := ⟨fun t cs e => (by cases e; exact ⟨_, rfl⟩), fun _ _ _ e => (by cases e), fun _ e => (by cases e)⟩
  have hT4 := turn_setRow hr3 (id := 0) (b := .box bT [.op 0 0, .nils]) rfl hc3 hsh3 (cur' := #[.pointer (some ⟨c, 0, none⟩), .slice (some ⟨w2.heap.size, 0, none⟩) 0 cs.size]) q3' rfl
  have hr4 := hr_setRow hr3 (id := 0) (b := .box bT [.op 0 0, .nils]) rfl hc3 hsh3 (cur' := #[.pointer (some ⟨c, 0, none⟩), .slice (some ⟨w2.heap.size, 0, none⟩) 0 cs.size]) q3' rfl ⟨_, setRow_heap _ c _ _ _ _ q3', rfl, fun j y v hy hv => by
    match j with
    | 0 => simp at hy hv; subst hy hv; exact ⟨hp3.turn hT4, rfl⟩
    | 1 => simp at hy hv; subst hy hv; exact ⟨hv3.turn hT4, rfl⟩
    | j + 2 => simp at hy⟩
  have hw : ((w2.setCell ⟨c, 1, none⟩ (.slice (some ⟨w.heap.size, 0, none⟩) 0 cs.size)).alloc (.cells cs 5)) = (w2.alloc (.cells cs 5)).setRow c #[.pointer (some ⟨c, 0, none⟩), .slice (some ⟨w2.heap.size, 0, none⟩) 0 cs.size] := by
    rw [← World.setCell_alloc_past _ c 1 _ (by omega), setCell_eq_setRow _ c 1 _ bT (0, 0) _ q3', hsz]
    rfl
  rw [hw]
  refine ⟨_, .tup [], φ3, _, rfl, hr_drew (hr_drew (hr_drew (hr_drew hr4))), ((((hT2.trans hpT).trans hT3).trans hT4).trans (turn_drew _ _ _)).trans ((turn_drew _ _ _).trans ((turn_drew _ _ _).trans (turn_drew _ _ _))), .ro (.tup rfl (by simp)), rfl, rfl⟩
end Go.Proofs.Ytkppfaennogcmaa
