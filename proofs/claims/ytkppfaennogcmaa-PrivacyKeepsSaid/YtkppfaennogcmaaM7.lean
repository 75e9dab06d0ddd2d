/- Several texts of the abstract machine, one behind the other. -/
import Derived.Test.YtkppfaennogcmaaM3
import Derived.Test.YtkppfaennogcmaaAbBase
import Derived.Test.YtkppfaennogcmaaTy
import Derived.Lib.Builder
import Derived.Lib.MakeNoZero
import Derived.Shelf.Strings.Builder1
import Derived.ProofKit
/- strings.Builder: copyCheck, String and Grow as contracts on the call's own blocks. -/
namespace Go.Proofs.Ytkppfaennogcmaa
set_option linter.unusedSimpArgs false
set_option linter.unusedVariables false
set_option linter.unnecessarySimpa false
set_option linter.unusedSectionVars false
open Go.RowKit
variable [Glob]
set_option maxRecDepth 100000
theorem arg_one {α β : Type} {a : Array β} {x : α} (h : [x].length = a.size) : ∃ v, a = #[v] := by
  obtain ⟨l⟩ := a
  match l, h with
  | [v], _ => exact ⟨v, rfl⟩
abbrev bT : TypeId := 151
theorem b_info : ∃ j, Try.prog.info? bT = some j ∧ j.size = 2 := by
  obtain ⟨j, h1, h2⟩ := Option.map_eq_some_iff.1 (show (Try.prog.info? bT).map (·.size) = some 2 by kernel_rfl)
  exact ⟨j, h1, h2⟩
set_option maxHeartbeats 1000000 in
theorem cc_used (b : Nat) (w : World) (h0 : w.cell? ⟨b, 0, none⟩ = some (.pointer (some ⟨b, 0, none⟩))) :
    Calls Try.prog 117 #[.pointer (some ⟨b, 0, none⟩)] w fun e w' => e = .returned (.tuple #[]) ∧ w' = w := by
  obtain ⟨j, hj, _⟩ := b_info
  go_enter Try.func117, Try.ntmps117
  go_wp2
  rw [Lib.run_neq_ptr_same w _ Try.underlying149 hj]
  go_wp2
  go_end0
  exact ⟨rfl, rfl⟩
set_option maxHeartbeats 1000000 in
theorem cc_fresh (b : Nat) (w : World) (h0 : w.cell? ⟨b, 0, none⟩ = some (.pointer none)) (hsh : w.shape? b = some (bT, 2)) (hfz : w.frozen? ⟨b, 0, none⟩ = false) :
    Calls Try.prog 117 #[.pointer (some ⟨b, 0, none⟩)] w fun e w' => e = .returned (.tuple #[]) ∧ w' = w.setCell ⟨b, 0, none⟩ (.pointer (some ⟨b, 0, none⟩)) := by
  obtain ⟨j, hj, hjs⟩ := b_info
  go_enter Try.func117, Try.ntmps117
  go_wp2
  rw [Lib.run_to_unsafe w ⟨b, 0, none⟩ Try.underlying149 Try.underlying175 hj (by rw [hjs]; decide) hsh (Nat.zero_lt_succ 1)]
  simp only [Result.andThen]
  rw [Oper.upon_value]
  go_wp2
  rw [run_callFunc_extern Try.func130 (by kernel_rfl) (by kernel_rfl) (by kernel_rfl) (e := Extern.AbiNoEscape.same) (by kernel_rfl)]
  rw [Lib.run_noEscape]
  simp only [Result.andThen]
  rw [Oper.upon_value]
  go_wp2
  rw [Lib.run_from_unsafe w ⟨b, 0, none⟩ Try.underlying175 Try.underlying149 hj hsh (by kernel_rfl)]
  simp only [Result.andThen]
  rw [Oper.upon_value]
  go_wp2
  go_end0
  exact ⟨rfl, rfl⟩
theorem own_ptr {w0 w : World} {X : Nat → Prop} {φ : Nat → Option Nat} {H : List Blk} {id : Nat} {t : TypeId} {cs : List AV} {v : Value} (hb : H[id]? = some (.box t cs)) (h : RV Try.prog w X φ H (.op id 0) v) : ∃ c, φ id = some c ∧ v = .pointer (some ⟨c, 0, none⟩) := by
  cases h with
  | ro h => cases h
  | op h0 hid h => exact h _ _ hb
theorem cc_G {H : List Blk} {id : Nat} {p x : AV} {K : AV → List Blk → Prop} (hb : H[id]? = some (.box bT [p, x])) (hp : p = .nilp ∨ p = .op id 0) (hK : K (.tup []) (H.set id (.box bT [.op id 0, x]))) :
    CallG Try.prog 117 [.op id 0] H K := by
  refine ⟨by kernel_rfl, fun w0 w X φ vs hr hl hv => ?_⟩
  obtain ⟨v0, rfl⟩ := arg_one hl
  have hv0 := hv 0 _ v0 rfl rfl
  obtain ⟨c, hc, rfl⟩ := own_ptr (w0 := w0) hb hv0
  obtain ⟨cur, q1, q2, q3⟩ := hr.blk id _ c hb hc
  have hs2 : cur.size = 2 := by simpa using q2
  obtain ⟨u0, u1, rfl⟩ : ∃ u0 u1, cur = #[u0, u1] := by
    obtain ⟨l⟩ := cur
    match l, hs2 with
    | [a, b], _ => exact ⟨a, b, rfl⟩
  have hu0 := (q3 0 p u0 rfl rfl)
  have c0 : w.cell? ⟨c, 0, none⟩ = some u0 := by rw [cell_row q1]; rfl
  rcases hp with rfl | rfl
  · have e0 : u0 = .pointer none := by cases hu0.1 with | ro h => cases h; rfl
    subst e0
    refine (cc_fresh c w c0 (by simp [World.shape?, q1]) (by simp [World.frozen?, q1])).mono ?_
    rintro e w' ⟨rfl, rfl⟩
    rw [setCell_eq_setRow w c 0 _ bT (0, 0) _ q1]
    have hsh : Shape (.box bT [.nilp, x]) (.box bT [.op id 0, x]) := ⟨fun t cs e => (by cases e; exact ⟨_, rfl⟩), fun _ _ _ e => (by cases e), fun _ e => (by cases e)⟩
    have hT := turn_setRow hr hb hc hsh (cur' := #[.pointer (some ⟨c, 0, none⟩), u1]) q1 rfl
    refine ⟨_, .tup [], φ, _, rfl, hr_setRow hr hb hc hsh q1 rfl ⟨_, setRow_heap w c _ _ _ _ q1, rfl, fun j y v hy hv => ?_⟩, hT, .ro (.tup rfl (by simp)), hK⟩
    match j with
    | 0 => simp at hy hv; subst hy hv; exact ⟨hv0.turn hT, rfl⟩
    | 1 => simp at hy hv; subst hy hv; exact ⟨(q3 1 x _ rfl rfl).1.turn hT, (q3 1 x _ rfl rfl).2⟩
    | j + 2 => simp at hy
  · obtain ⟨c', hc', rfl⟩ := own_ptr (w0 := w0) hb hu0.1
    rw [hc] at hc'; simp at hc'; subst hc'
    refine (cc_used c w c0).mono ?_
    rintro e w' ⟨rfl, rfl⟩
    have hself : H.set id (.box bT [.op id 0, x]) = H := set_self hb
    rw [hself] at hK
    exact ⟨_, .tup [], φ, H, rfl, hr, Turn.refl _ _ _, .ro (.tup rfl (by simp)), hK⟩
set_option maxHeartbeats 1000000 in
theorem str_some (b g cap : Nat) (cur : Array Value) (p : Value) (l : List UInt8) (w : World) (hbk : w.heap[b]? = some (.cells #[p, .slice (some ⟨g, 0, none⟩) l.length cap] bT (0, 0))) (hg : w.heap[g]? = some (.cells cur 5 (0, 0))) (h0 : l ≠ []) (hnc : l.length ≤ cap) (hcm : cap ≤ maxLen) (hcs : cur.size = cap)
    (hcell : ∀ (j : Nat) (x : UInt8), l[j]? = some x → w.cell? ⟨g, j, none⟩ = some (.int .u8 x.toNat)) :
    Calls Try.prog 109 #[.pointer (some ⟨b, 0, none⟩)] w fun e w' => e = .returned (.string ⟨l.toArray⟩) ∧ w' = w.drew.freeze ⟨g, 0, none⟩ l.length := by
  have hl0 : l.length ≠ 0 := by simpa using h0
  have c1 : w.drew.cell? ⟨b, 1, none⟩ = some (.slice (some ⟨g, 0, none⟩) l.length cap) := by
    have : w.drew.heap[b]? = some (.cells #[p, .slice (some ⟨g, 0, none⟩) l.length cap] bT (0, 0)) := hbk
    rw [cell_row this]; rfl
  have hSD : (Builtin.unsafeSliceData_ #[68] 164 #[.slice (some ⟨g, 0, none⟩) l.length cap]).run Try.prog w.drew = .ok (.pointer (some ⟨g, 0, none⟩)) w.drew :=
    Lib.run_unsafeSliceData_row _ _ _ _ _ _ (by omega)
  have hUS : (Builtin.unsafeString_ #[164, 3] 9 #[.pointer (some ⟨g, 0, none⟩), .int .i64 l.length]).run Try.prog w.drew = .ok (.string ⟨l.toArray⟩) (w.drew.freeze ⟨g, 0, none⟩ l.length) := by
    refine Lib.run_unsafeString_row w.drew 164 3 9 5 Try.underlying164 (by kernel_rfl) g cur.size (by have hg' : w.drew.heap[g]? = some (.cells cur 5 (0, 0)) := hg; simp [World.shape?, hg']) l h0 (by omega) (by unfold maxLen at hcm; omega) ?_
    intro j x hx
    have := hcell j x hx
    rw [add_noneA, Nat.zero_add]; exact this
  have mixed := mixed
  go_enter Try.func109, Try.ntmps109
  go_wp2
  go_region_o
  all_goals (go_wp2; go_ret; exact ⟨rfl, rfl⟩)
set_option maxHeartbeats 1000000 in
theorem str_nil (b : Nat) (p : Value) (w : World) (hbk : w.heap[b]? = some (.cells #[p, .slice none 0 0] bT (0, 0))) :
    Calls Try.prog 109 #[.pointer (some ⟨b, 0, none⟩)] w fun e w' => e = .returned (.string ⟨#[]⟩) ∧ w' = w.drew := by
  have hUS : ∀ (W : World) (q : Option Addr), (Builtin.unsafeString_ #[164, 3] 9 #[.pointer q, .int .i64 0]).run Try.prog W = .ok (.string .empty) W := fun W q => Lib.run_unsafeString_none W _ _ _ q
  have c1 : w.drew.cell? ⟨b, 1, none⟩ = some (.slice none 0 0) := by
    have : w.drew.heap[b]? = some (.cells #[p, .slice none 0 0] bT (0, 0)) := hbk
    rw [cell_row this]; rfl
  have hSD : (Builtin.unsafeSliceData_ #[68] 164 #[.slice none 0 0]).run Try.prog w.drew = .ok (.pointer none) w.drew := rfl
  have mixed := mixed
  go_enter Try.func109, Try.ntmps109
  go_wp2
  go_region_o
  all_goals (go_wp2; go_ret; exact ⟨rfl, rfl⟩)
/-- Block j's bytes are frozen: nothing is said of it any more. -/
theorem turn_gone {w0 w w' : World} {X : Nat → Prop} {φ : Nat → Option Nat} {H : List Blk} (hr : HR Try.prog w0 X w φ H) {j g : Nat} {b : Blk} (hj : H[j]? = some b) (hg : φ j = some g) (hs : w'.heap.size = w.heap.size) (hne : ∀ k, k ≠ g → w'.heap[k]? = w.heap[k]?) : Turn w φ H w' φ (H.set j .gone) := by
  have hset : ∀ i b', (H.set j .gone)[i]? = some b' → b' = .gone ∨ (i ≠ j ∧ H[i]? = some b') := fun i b' h => by
    rw [List.getElem?_set] at h
    split at h
    · split at h
      · simp at h; exact .inl h.symm
      · simp at h
    · rename_i e; exact .inr ⟨fun q => e q.symm, h⟩
  have hcc : ∀ i c, i ≠ j → φ i = some c → w'.heap[c]? = w.heap[c]? := fun i c hi hc => hne c fun e => hi (hr.inj i j c hc (by rw [e]; exact hg))
  exact {
    size := by omega
    len := by simp
    old := fun b h _ => ⟨hne b fun e => h j (by rw [e]; exact hg), h⟩
    box := fun i t cs _ h => by
      rcases hset i _ h with e | ⟨hi, h⟩
      · cases e
      · exact ⟨cs, h, fun _ h => h⟩
    row := fun i e nb rows _ h => by
      rcases hset i _ h with q | ⟨hi, h⟩
      · cases q
      · exact ⟨rows, h, Nat.le_refl _, fun _ => ⟨fun _ h => h, fun c hc => ⟨hc, fun cur hcur => ⟨cur, by rw [hcc i c hi hc]; exact hcur, rfl⟩⟩⟩⟩
    map := fun i es _ h => by
      rcases hset i _ h with q | ⟨hi, h⟩
      · cases q
      · exact ⟨es, h, fun c hc => ⟨hc, bornK_same (hcc i c hi hc)⟩⟩
    iter := fun i m n s _ h => by
      rcases hset i _ h with q | ⟨hi, h⟩
      · cases q
      · exact ⟨m, n, s, h, fun _ h => h⟩ }
theorem hr_gone {w0 w w' : World} {X : Nat → Prop} {φ : Nat → Option Nat} {H : List Blk} (hr : HR Try.prog w0 X w φ H) {j g : Nat} {b : Blk} (hj : H[j]? = some b) (hg : φ j = some g) (hs : w'.heap.size = w.heap.size) (hne : ∀ k, k ≠ g → w'.heap[k]? = w.heap[k]?) (hB : Below w0.heap.size w0 w') : HR Try.prog w0 X w' φ (H.set j .gone) := by
  have hT := turn_gone hr hj hg hs hne
  refine ⟨hr.vo, hB, ext_turn hr hT, fun i c hc => ?_, hr.inj, fun i b' c hb hc => ?_⟩
  · have := hr.own i c hc
    simp; omega
  · rw [List.getElem?_set] at hb
    split at hb
    · split at hb
      · simp at hb; subst hb; trivial
      · simp at hb
    · rename_i e
      exact (hr.blk i b' c hb hc).turn hT (hne c fun q => e (hr.inj j i c (by rw [q]; exact hg) hc))
def byteC (c : UInt8) : List AV := [.int .u8 c.toNat]
theorem bytesRows_eq (b : ByteArray) : bytesRows b = rowsOf byteC b.data.toList := rfl
theorem freeze_ne (w : World) (g n k : Nat) (h : k ≠ g) : (w.freeze ⟨g, 0, none⟩ n).heap[k]? = w.heap[k]? := by
  unfold World.freeze
  split
  · rfl
  · simp only [Array.getElem?_modify]
    rw [if_neg fun e => h e.symm]
theorem freeze_size (w : World) (g n : Nat) : (w.freeze ⟨g, 0, none⟩ n).heap.size = w.heap.size := by
  unfold World.freeze
  split
  · rfl
  · simp
theorem str_G {H : List Blk} {id j n : Nat} {p : AV} {e : TypeId} {nb : Bool} {l : List UInt8} {K : AV → List Blk → Prop} (hb : H[id]? = some (.box bT [p, .os j n])) (hj : H[j]? = some (.row 5 nb (rowsOf byteC l))) (hn : l.length = n) (h0 : l ≠ []) (hK : K (.str ⟨l.toArray⟩) (H.set j .gone)) :
    CallG Try.prog 109 [.op id 0] H K := by
  refine ⟨by kernel_rfl, fun w0 w X φ vs hr hl hv => ?_⟩
  obtain ⟨v0, rfl⟩ := arg_one hl
  have hv0 := hv 0 _ v0 rfl rfl
  obtain ⟨c, hc, rfl⟩ := own_ptr (w0 := w0) hb hv0
  obtain ⟨cur, q1, q2, q3⟩ := hr.blk id _ c hb hc
  have hs2 : cur.size = 2 := by simpa using q2
  obtain ⟨u0, u1, rfl⟩ : ∃ u0 u1, cur = #[u0, u1] := by
    obtain ⟨l⟩ := cur
    match l, hs2 with
    | [a, b], _ => exact ⟨a, b, rfl⟩
  have hu1 := (q3 1 _ u1 rfl rfl).1
  have hl0 : l.length ≠ 0 := by simpa using h0
  obtain ⟨g, cap, cur, hg, hu, hcur, hcs, hcm, hnc⟩ : ∃ g cap cur, φ j = some g ∧ u1 = .slice (some ⟨g, 0, none⟩) l.length cap ∧ w.heap[g]? = some (.cells cur 5 (0, 0)) ∧ cur.size = cap ∧ cap ≤ maxLen ∧ l.length ≤ cap := by
    have hce : Try.prog.cellsOf 5 = 1 := by kernel_rfl
    cases hu1 with
    | ro h => cases h
    | os g0 hid h =>
      rcases (h _ nb _ hj).2 (by rw [rowsOf_length, hn]) with ⟨_, _, _, q⟩ | ⟨g, cap, cur, k1, k2, k3, k4, k5, k6⟩
      · omega
      · exact ⟨g, cap, cur, k1, by rw [hn]; exact k2, k3, by rw [k4, hce]; omega, k5, by omega⟩
  subst hu
  obtain ⟨cur', r1, r2, r3, r4⟩ := hr.blk j _ g hj hg
  rw [hcur] at r1; simp at r1; subst r1
  have hce : Try.prog.cellsOf 5 = 1 := by kernel_rfl
  rw [hce] at r4
  refine (str_some c g cap cur u0 l w q1 hcur h0 hnc hcm hcs fun i x hx => ?_).mono ?_
  · have hi := (List.getElem?_eq_some_iff.1 hx).1
    have := (r4 i 0 (byteC x) (.int .u8 x.toNat) cur[i] (by simp [rowsOf, hx]) rfl (by simp [show i < cur.size by omega])).1.int_inv
    rw [cell_row hcur]
    simp [show i < cur.size by omega, this]
  rintro e w' ⟨rfl, rfl⟩
  have hr' := hr_drew hr
  have hne : ∀ k, k ≠ g → (w.drew.freeze ⟨g, 0, none⟩ l.length).heap[k]? = w.drew.heap[k]? := fun k hk => freeze_ne _ g _ k hk
  have hBl : Below w0.heap.size w0 (w.drew.freeze ⟨g, 0, none⟩ l.length) := Lib.below_freeze hr.fr.drew (p := ⟨g, 0, none⟩) (hr.own j g hg).1 _
  exact ⟨_, .str ⟨l.toArray⟩, φ, _, rfl, hr_gone hr' hj hg (freeze_size _ _ _) hne hBl, (turn_drew w φ H).trans (turn_gone hr' hj hg (freeze_size _ _ _) hne), .ro .str, hK⟩
theorem strn_G {H : List Blk} {id : Nat} {p : AV} {K : AV → List Blk → Prop} (hb : H[id]? = some (.box bT [p, .nils])) (hK : K (.str ⟨#[]⟩) H) : CallG Try.prog 109 [.op id 0] H K := by
  refine ⟨by kernel_rfl, fun w0 w X φ vs hr hl hv => ?_⟩
  obtain ⟨v0, rfl⟩ := arg_one hl
  have hv0 := hv 0 _ v0 rfl rfl
  obtain ⟨c, hc, rfl⟩ := own_ptr (w0 := w0) hb hv0
  obtain ⟨cur, q1, q2, q3⟩ := hr.blk id _ c hb hc
  have hs2 : cur.size = 2 := by simpa using q2
  obtain ⟨u0, u1, rfl⟩ : ∃ u0 u1, cur = #[u0, u1] := by
    obtain ⟨l⟩ := cur
    match l, hs2 with
    | [a, b], _ => exact ⟨a, b, rfl⟩
  have hu1 := (q3 1 _ u1 rfl rfl).1.nils_inv
  subst hu1
  refine (str_nil c u0 w q1).mono ?_
  rintro e w' ⟨rfl, rfl⟩
  exact ⟨_, .str ⟨#[]⟩, φ, H, rfl, hr_drew hr, turn_drew w φ H, .ro .str, hK⟩
end Go.Proofs.Ytkppfaennogcmaa

/- strings.Builder: WriteByte, WriteString and Grow on the call's own blocks. -/
namespace Go.Proofs.Ytkppfaennogcmaa
set_option linter.unusedSimpArgs false
set_option linter.unusedVariables false
set_option linter.unnecessarySimpa false
set_option linter.unusedSectionVars false
open Go.RowKit
variable [Glob]
set_option maxRecDepth 100000
theorem rows_refsR {m : Nat} {rows : List (List AV)} (h : ∀ r ∈ rows, ∀ x ∈ r, refs m x = true) : refsR m rows = true := by
  simp only [refsR, List.all_eq_true]
  exact h
/-- Rows of plain data: one byte each. -/
def bR (l : List UInt8) : List (List AV) := rowsOf byteC l
theorem bR_refs {m : Nat} {l : List UInt8} : refsR m (bR l) = true := rowsOf_refs fun x => by simp [byteC, refs]
theorem bR_len {l : List UInt8} : (bR l).length = l.length := by simp [bR]
theorem bR_snoc {l : List UInt8} {c : UInt8} : bR l ++ [[.int .u8 c.toNat]] = bR (l ++ [c]) := by simp [bR, rowsOf, byteC]
theorem bR_app {l : List UInt8} {s : ByteArray} : bR l ++ bytesRows s = bR (l ++ s.data.toList) := by simp [bR, rowsOf, bytesRows_eq]
theorem bR_all1 {l : List UInt8} : allLen 1 (bR l) = true := rowsOf_allLen fun x => rfl
theorem bytesRows_len {s : ByteArray} : (bytesRows s).length = s.size := by simp [bytesRows]
set_option maxHeartbeats 4000000 in
theorem ws_more (s : ByteArray) (nb : Bool) (l : List UInt8) (hl : l.length + s.size ≤ 1073741824) : Foot Try.prog 108 [.op 0 0, .str s] [.box bT [.op 0 0, .os 1 l.length], .row 5 nb (bR l)] (.tup [.int .i64 s.size, .any]) [.box bT [.op 0 0, .os 1 (l.length + s.size)], .row 5 nb (bR (l ++ s.data.toList))] := by
  refine foot_of mixed Try.func108 rfl (by kernel_rfl) (of_decide_eq_true rfl) (by kernel_rfl) (vc_run ?_)
  ((try simp -implicitDefEqProofs [-loopQ_n]) <;> (repeat' (first | (refine condD_dec ?_ ?_ <;> (intro hc; (try simp -implicitDefEqProofs [-loopQ_n, hc]))) | (refine guardD_dec ?_ ?_ <;> (intro hc; (try simp -implicitDefEqProofs [-loopQ_n, hc]))) | (refine condD_intro ?_ ?_ <;> (intro hd; have hc := hd; (try simp at hc) <;> (try simp -implicitDefEqProofs [-loopQ_n, hd, hc]))) | (refine guardD_intro ?_ ?_ <;> (intro hd; have hc := hd; (try simp at hc) <;> (try simp -implicitDefEqProofs [-loopQ_n, hd, hc]))) | (refine ldD_ep ?_ ?_; (focus kernel_rfl); (try simp -implicitDefEqProofs [-loopQ_n])))))
  refine callG_intro (cc_G (id := 0) rfl (.inr rfl) ?_)
  ((try simp -implicitDefEqProofs [-loopQ_n, bR_len, hl, bytesRows_len, bR_app]) <;> (repeat' (first | (refine condD_dec ?_ ?_ <;> (intro hc; (try simp -implicitDefEqProofs [-loopQ_n, hc, bR_len, hl, bytesRows_len, bR_app]))) | (refine guardD_dec ?_ ?_ <;> (intro hc; (try simp -implicitDefEqProofs [-loopQ_n, hc, bR_len, hl, bytesRows_len, bR_app]))) | (refine condD_intro ?_ ?_ <;> (intro hd; have hc := hd; (try simp at hc) <;> (try simp -implicitDefEqProofs [-loopQ_n, hd, hc, bR_len, hl, bytesRows_len, bR_app]))) | (refine guardD_intro ?_ ?_ <;> (intro hd; have hc := hd; (try simp at hc) <;> (try simp -implicitDefEqProofs [-loopQ_n, hd, hc, bR_len, hl, bytesRows_len, bR_app]))) | (refine ldD_ep ?_ ?_; (focus kernel_rfl); (try simp -implicitDefEqProofs [-loopQ_n, bR_len, hl, bytesRows_len, bR_app])))))
  exact ⟨.tup [.int .i64 s.size, .any], .tup [.int .i64 s.size, .any], _, rfl, weak_ofL 2 0 rfl (by simp) rfl ⟨.inr (.inl ⟨rfl, rfl⟩), trivial⟩ (by simp [bR_refs]), rfl, rfl⟩
end Go.Proofs.Ytkppfaennogcmaa

/- strings.Builder: Grow of a fresh builder. -/
namespace Go.Proofs.Ytkppfaennogcmaa
set_option linter.unusedSimpArgs false
set_option linter.unusedVariables false
set_option linter.unnecessarySimpa false
set_option linter.unusedSectionVars false
open Go.RowKit
variable [Glob]
set_option maxRecDepth 1000000
set_option maxHeartbeats 2000000 in
theorem grow_calls (b n : Nat) (w : World) (hbk : w.heap[b]? = some (.cells #[.pointer (some ⟨b, 0, none⟩), .slice none 0 0] bT (0, 0))) (hn : n ≤ 281474976710656) :
    Calls Try.prog 118 #[.pointer (some ⟨b, 0, none⟩), .int .i64 n] w fun e w' => e = .returned (.tuple #[]) ∧ ∃ cs : Array Value, (n ≤ maxLen → cs.size ≤ maxLen) ∧ w' = ((w.setCell ⟨b, 1, none⟩ (.slice (some ⟨w.heap.size, 0, none⟩) 0 cs.size)).alloc (.cells cs 5)).drew.drew.drew := by
  obtain ⟨cs, hrun, hle, hmax⟩ := Lib.run_makeNoZero (P := Try.prog) w.drew #[3] 68 5 Try.underlying68 n hn
  have hw : IntKind.i64.wrap (IntKind.i64.wrap 0 + (n : Int)) = n := by
    rw [IntKind.wrap_i64, IntKind.wrap_i64]
    omega
  have hcall : (callFunc 131 #[.int .i64 (IntKind.i64.wrap (IntKind.i64.wrap 0 + (n : Int)))]).run Try.prog w.drew = .ok (.value (.slice (some ⟨w.drew.heap.size, 0, none⟩) n cs.size)) (w.drew.drew.drew.alloc (.cells cs 5)) := by
    rw [hw, run_callFunc_extern Try.func131 (by kernel_rfl) (by kernel_rfl) (by kernel_rfl) (e := Extern.BytealgMakeNoZero.makeNoZero #[3] #[68]) (by kernel_rfl), hrun]
    rfl
  have hlt : b < w.heap.size := (Array.getElem?_eq_some_iff.1 hbk).1
  have c1 : w.drew.cell? ⟨b, 1, none⟩ = some (.slice none 0 0) := by
    have : w.drew.heap[b]? = _ := hbk
    rw [cell_row this]; rfl
  have c2 : (w.alloc (.cells cs 5)).cell? ⟨b, 1, none⟩ = some (.slice none 0 0) := by
    have : (w.alloc (.cells cs 5)).heap[b]? = _ := (Lib.alloc_old w _ b hlt).trans hbk
    rw [cell_row this]; rfl
  have f2 : (w.alloc (.cells cs 5)).frozen? ⟨b, 1, none⟩ = false := Lib.frozen_of_heap ((Lib.alloc_old w _ b hlt).trans hbk) 1
  have hcopy : ∀ W : World, (Builtin.copy_ #[68, 68] 3 #[.slice (some ⟨w.heap.size, 0, none⟩) 0 cs.size, .slice none 0 0]).run Try.prog W = .ok (goInt 0) W :=
    fun W => run_copy_none W 68 68 3 5 _ _ 0 cs.size 0 0 Try.underlying68 (by kernel_rfl) rfl
  clear hw
  have mixed := mixed
  go_enter Try.func118, Try.ntmps118
  go_wp2
  go_region_o
  all_goals (go_wp2; go_end0; exact ⟨rfl, cs, hmax, rfl⟩)
set_option maxHeartbeats 2000000 in
theorem Grow_calls (b n : Nat) (w : World) (hbk : w.heap[b]? = some (.cells #[.pointer none, .slice none 0 0] bT (0, 0))) (hn : n ≤ 281474976710656) :
    Calls Try.prog 107 #[.pointer (some ⟨b, 0, none⟩), .int .i64 n] w fun e w' => e = .returned (.tuple #[]) ∧ ∃ w2, w2 = w.setCell ⟨b, 0, none⟩ (.pointer (some ⟨b, 0, none⟩)) ∧ ((n = 0 ∧ w' = w2.drew) ∨ ∃ cs : Array Value, (n ≤ maxLen → cs.size ≤ maxLen) ∧ w' = ((w2.setCell ⟨b, 1, none⟩ (.slice (some ⟨w.heap.size, 0, none⟩) 0 cs.size)).alloc (.cells cs 5)).drew.drew.drew.drew) := by
  have hbk1 : (w.setCell ⟨b, 0, none⟩ (.pointer (some ⟨b, 0, none⟩))).heap[b]? = some (.cells #[.pointer (some ⟨b, 0, none⟩), .slice none 0 0] bT (0, 0)) := by
    simp [World.setCell, Array.getElem?_modify, hbk]
  have c1' : (w.setCell ⟨b, 0, none⟩ (.pointer (some ⟨b, 0, none⟩))).drew.cell? ⟨b, 1, none⟩ = some (.slice none 0 0) := by
    have : (w.setCell ⟨b, 0, none⟩ (.pointer (some ⟨b, 0, none⟩))).drew.heap[b]? = _ := hbk1
    rw [cell_row this]; rfl
  have e240 : ∀ args w, (callFunc 117 args).run Try.prog w = .ok (.enter 117 args) w := enters_of Try.func117 (by kernel_rfl) rfl
  have e241 : ∀ args w, (callFunc 118 args).run Try.prog w = .ok (.enter 118 args) w := enters_of Try.func118 (by kernel_rfl) rfl
  have mixed := mixed
  go_enter Try.func107, Try.ntmps107
  go_wp2_with (go_at_fn 117; refine (cc_fresh b w (by rw [cell_row hbk]; rfl) (by simp [World.shape?, hbk]) (Lib.frozen_of_heap hbk 0)).mono ?_; rintro e w' ⟨rfl, rfl⟩)
  go_region_o
  all_goals go_wp2_with (go_at_fn 118; refine (grow_calls b n (w.setCell ⟨b, 0, none⟩ (.pointer (some ⟨b, 0, none⟩))).drew hbk1 hn).mono ?_; rintro e w' ⟨rfl, cs, h1, rfl⟩)
  all_goals first
    | (go_end0; exact ⟨rfl, _, rfl, .inr ⟨cs, h1, rfl⟩⟩)
    | (go_end0; exact ⟨rfl, _, rfl, .inl ⟨by omega, rfl⟩⟩)
end Go.Proofs.Ytkppfaennogcmaa

/- strings.Builder: Grow of a fresh builder, as a contract. -/
namespace Go.Proofs.Ytkppfaennogcmaa
set_option linter.unusedSimpArgs false
set_option linter.unusedVariables false
set_option linter.unnecessarySimpa false
set_option linter.unusedSectionVars false
open Go.RowKit
variable [Glob]
set_option maxRecDepth 100000
theorem grow_G {n : Nat} (h0 : 0 < n) (hn : n ≤ 1073741824) : Foot Try.prog 107 [.op 0 0, .int .i64 n] [.box bT [.nilp, .nils]] (.tup []) [.box bT [.op 0 0, .os 1 0], .row 5 false (bR [])] := by
  refine ⟨by kernel_rfl, fun w0 w X φ vs hr hl hv => ?_⟩
  obtain ⟨v0, v1, rfl⟩ : ∃ v0 v1, vs = #[v0, v1] := by
    obtain ⟨l⟩ := vs
    match l, hl with
    | [a, b], _ => exact ⟨a, b, rfl⟩
  have hv0 := hv 0 _ v0 rfl rfl
  have e1 := (hv 1 _ v1 rfl rfl).int_inv
  subst e1
  have hb : ([Blk.box bT [.nilp, .nils]] : List Blk)[0]? = some (.box bT [.nilp, .nils]) := rfl
  obtain ⟨c, hc, rfl⟩ := own_ptr (w0 := w0) hb hv0
  obtain ⟨cur, q1, q2, q3⟩ := hr.blk 0 _ c hb hc
  have hs2 : cur.size = 2 := by simpa using q2
  obtain ⟨u0, u1, rfl⟩ : ∃ u0 u1, cur = #[u0, u1] := by
    obtain ⟨l⟩ := cur
    match l, hs2 with
    | [a, b], _ => exact ⟨a, b, rfl⟩
  have e0 : u0 = .pointer none := by cases (q3 0 _ u0 rfl rfl).1 with | ro h => cases h; rfl
  have e1 := (q3 1 _ u1 rfl rfl).1.nils_inv
  subst e0 e1
  have hclt : c < w.heap.size := (hr.own 0 c hc).2.1
  refine (Grow_calls c n w q1 (by omega)).mono ?_
  rintro e w' ⟨rfl, w2, hw2, ⟨h, _⟩ | ⟨cs, hcs, rfl⟩⟩
  · omega
  rw [setCell_eq_setRow w c 0 _ bT (0, 0) _ q1] at hw2
  have hw2' : w2 = w.setRow c #[.pointer (some ⟨c, 0, none⟩), .slice none 0 0] := hw2
  clear hw2
  have hsh : Shape (.box bT [.nilp, .nils]) (.box bT [.op 0 0, .nils]) := ⟨fun t cs e => (by cases e; exact ⟨_, rfl⟩), fun _ _ _ e => (by cases e), fun _ e => (by cases e)⟩
  have hT2 := turn_setRow hr hb hc hsh (cur' := #[.pointer (some ⟨c, 0, none⟩), .slice none 0 0]) q1 rfl
  have hr2 := hr_setRow hr hb hc hsh (cur' := #[.pointer (some ⟨c, 0, none⟩), .slice none 0 0]) q1 rfl ⟨_, setRow_heap w c _ _ _ _ q1, rfl, fun j y v hy hv => by
    match j with
    | 0 => simp at hy hv; subst hy hv; exact ⟨hv0.turn hT2, rfl⟩
    | 1 => simp at hy hv; subst hy hv; exact ⟨.ro .nils, rfl⟩
    | j + 2 => simp at hy⟩
  rw [← hw2'] at hT2 hr2
  have hsz : w2.heap.size = w.heap.size := by rw [hw2']; simp [World.setRow]
  have hp2 := hr_push hr2 (.row 5 false [])
  have hpT := turn_push w2 φ (([Blk.box bT [.nilp, .nils]] : List Blk).set 0 (.box bT [.op 0 0, .nils])) (.row 5 false [])
  have hce : Try.prog.cellsOf 5 = 1 := by kernel_rfl
  have hφ1 : φ 1 = none := by
    cases h : φ 1 with
    | none => rfl
    | some g => have := (hr.own 1 g h).2.2; simp at this
  obtain ⟨x, w3, φ3, hx, hr3, hT3, hv3, _⟩ := newRow_sound (P := Try.prog) hp2 (e := 5) (cur := cs) (rows := []) (nid := 1) (cap := cs.size) (by simp) (by rw [hce]; omega) (by simp) (hcs (by unfold maxLen; omega)) (by simp) rfl hφ1 (r := .ok (.value (.slice (some ⟨w2.heap.size, 0, none⟩) 0 cs.size)) (w2.alloc (.cells cs 5))) rfl
  obtain ⟨rfl, rfl⟩ : x = .slice (some ⟨w2.heap.size, 0, none⟩) 0 cs.size ∧ w3 = w2.alloc (.cells cs 5) := by
    rcases hx with h | ⟨h, _⟩
    · simp at h; exact ⟨h.1.symm, h.2.symm⟩
    · simp at h
  have hc3 : φ3 0 = some c := by
    obtain ⟨_, _, h⟩ := hT3.box 0 bT [.op 0 0, .nils] (by simp) rfl
    exact h c hc
  have q3' : (w2.alloc (.cells cs 5)).heap[c]? = some (.cells #[.pointer (some ⟨c, 0, none⟩), .slice none 0 0] bT (0, 0)) := by
    rw [heap_alloc w2 _ c (by omega), hw2']
    exact setRow_heap w c _ _ _ _ q1
  have hp3 : RV Try.prog (w2.alloc (.cells cs 5)) X φ3 _ (.op 0 0) (.pointer (some ⟨c, 0, none⟩)) := ((hv0.turn hT2).turn hpT).turn hT3
  have hsh3 : Shape (.box bT [.op 0 0, .nils]) (.box bT [.op 0 0, .os 1 0]) := ⟨fun t cs e => (by cases e; exact ⟨_, rfl⟩), fun _ _ _ e => (by cases e), fun _ e => (by cases e)⟩
  have hT4 := turn_setRow hr3 (id := 0) (b := .box bT [.op 0 0, .nils]) rfl hc3 hsh3 (cur' := #[.pointer (some ⟨c, 0, none⟩), .slice (some ⟨w2.heap.size, 0, none⟩) 0 cs.size]) q3' rfl
  have hr4 := hr_setRow hr3 (id := 0) (b := .box bT [.op 0 0, .nils]) rfl hc3 hsh3 (cur' := #[.pointer (some ⟨c, 0, none⟩), .slice (some ⟨w2.heap.size, 0, none⟩) 0 cs.size]) q3' rfl ⟨_, setRow_heap _ c _ _ _ _ q3', rfl, fun j y v hy hv => by
    match j with
    | 0 => simp at hy hv; subst hy hv; exact ⟨hp3.turn hT4, rfl⟩
    | 1 => simp at hy hv; subst hy hv; exact ⟨hv3.turn hT4, rfl⟩
    | j + 2 => simp at hy⟩
  have hw : ((w2.setCell ⟨c, 1, none⟩ (.slice (some ⟨w.heap.size, 0, none⟩) 0 cs.size)).alloc (.cells cs 5)) = (w2.alloc (.cells cs 5)).setRow c #[.pointer (some ⟨c, 0, none⟩), .slice (some ⟨w2.heap.size, 0, none⟩) 0 cs.size] := by
    rw [← World.setCell_alloc_past _ c 1 _ (by omega), setCell_eq_setRow _ c 1 _ bT (0, 0) _ q3', hsz]
    rfl
  rw [hw]
  refine ⟨_, .tup [], φ3, _, rfl, hr_drew (hr_drew (hr_drew (hr_drew hr4))), ((((hT2.trans hpT).trans hT3).trans hT4).trans (turn_drew _ _ _)).trans ((turn_drew _ _ _).trans ((turn_drew _ _ _).trans (turn_drew _ _ _))), .ro (.tup rfl (by simp)), rfl, rfl⟩
end Go.Proofs.Ytkppfaennogcmaa

/- strings.Builder: calls of WriteByte, WriteString, String and Grow where they stand. -/
namespace Go.Proofs.Ytkppfaennogcmaa
set_option linter.unusedSimpArgs false
set_option linter.unusedVariables false
set_option linter.unnecessarySimpa false
set_option linter.unusedSectionVars false
open Go.RowKit
variable [Glob]
set_option maxRecDepth 100000
section
variable {L : Nat} {k : List Item} {s : St} {Q : Ex → St → Prop} {dst : Option Nat} {all rest : List Oper}
theorem bR_mL {ρ : Nat → Nat} {l : List UInt8} : (bR l).map (mL ρ) = bR l := by
  simp only [bR, rowsOf, List.map_map]
  congr 1
theorem two_box {l : List Nat} {H : List Blk} {id j : Nat} (hl : l = [id, j]) : rn l H.length 0 = id ∧ rn l H.length 1 = j := by subst hl; exact ⟨rfl, rfl⟩
theorem ws_call {b : ByteArray} {id j n : Nat} {nb : Bool} {l : List UInt8} (hb : s.H[id]? = some (.box bT [.op id 0, .os j n])) (hj : s.H[j]? = some (.row 5 nb (bR l))) (hn : l.length = n) (hl : n + b.size ≤ 1073741824)
    (h3 : run Try.prog L (.ops false all rest :: k) ⟨tputD s.T dst (.tup [.int .i64 b.size, .any]), (s.H.set id (.box bT [.op id 0, .os j (n + b.size)])).set j (.row 5 nb (bR (l ++ b.data.toList)))⟩ Q) : callD Try.prog L (.fn 108 []) [.op id 0, .str b] dst false all rest k s Q := by
  subst hn
  have hne : id ≠ j := fun e => by subst e; rw [hb] at hj; simp at hj
  have h1 := (List.getElem?_eq_some_iff.1 hb).1
  have h2 := (List.getElem?_eq_some_iff.1 hj).1
  obtain ⟨r0, r1⟩ := two_box (l := [id, j]) (H := s.H) rfl
  refine foot_intro (ws_more b nb l hl) [id, j] rfl (by simp [hne]) (by simp [h1, h2]) ?_ ?_ ?_
  · simp [hb, hj, mB, mL, mA, r0, r1, bR_mL]
  · simp [mL, mA, r0]
  · simpa [putB, mB, mL, mA, r0, r1, bR_mL] using h3
theorem grow_call {m : Int} {n : Nat} {id : Nat} (hm : m = (n : Int)) (h0 : 0 < n) (hn : n ≤ 1073741824) (hb : s.H[id]? = some (.box bT [.nilp, .nils]))
    (h3 : run Try.prog L (.ops false all rest :: k) ⟨tputD s.T dst (.tup []), s.H.set id (.box bT [.op id 0, .os s.H.length 0]) ++ [.row 5 false (bR [])]⟩ Q) : callD Try.prog L (.fn 107 []) [.op id 0, .int .i64 m] dst false all rest k s Q := by
  subst hm
  have h1 := (List.getElem?_eq_some_iff.1 hb).1
  have r0 : rn [id] s.H.length 0 = id := rfl
  have r1 : rn [id] s.H.length 1 = s.H.length := by unfold rn; simp
  refine foot_intro (grow_G h0 hn) [id] rfl (by simp) (by simp [h1]) ?_ ?_ ?_
  · simp [hb, mB, mL, mA]
  · simp [mL, mA, r0]
  · simpa [putB, mB, mL, mA, r0, r1, bR_mL] using h3
theorem str_call {id j n : Nat} {p : AV} {nb : Bool} {l : List UInt8} (hb : s.H[id]? = some (.box bT [p, .os j n])) (hj : s.H[j]? = some (.row 5 nb (bR l))) (hn : l.length = n) (h0 : l ≠ [])
    (h3 : run Try.prog L (.ops false all rest :: k) ⟨tputD s.T dst (.str ⟨l.toArray⟩), s.H.set j .gone⟩ Q) : callD Try.prog L (.fn 109 []) [.op id 0] dst false all rest k s Q :=
  callG_intro (str_G (e := 0) hb hj hn h0 h3)
theorem str_call0 {id : Nat} {p : AV} (hb : s.H[id]? = some (.box bT [p, .nils])) (h3 : run Try.prog L (.ops false all rest :: k) ⟨tputD s.T dst (.str ⟨#[]⟩), s.H⟩ Q) : callD Try.prog L (.fn 109 []) [.op id 0] dst false all rest k s Q :=
  callG_intro (strn_G hb h3)
end
end Go.Proofs.Ytkppfaennogcmaa
