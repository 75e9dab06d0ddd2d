/- strings.Builder: copyCheck, String and Grow as contracts on the call's own blocks. -/
import Derived.Test.YtkppfaennogcmaaM3
import Derived.Test.YtkppfaennogcmaaAbBase
import Derived.Test.YtkppfaennogcmaaTy
import Derived.Lib.Builder
import Derived.Lib.MakeNoZero
import Derived.Shelf.Strings.Builder1
import Derived.ProofKit
namespace Go.Proofs.Ytkppfaennogcmaa
set_option linter.unusedSimpArgs false
set_option linter.unusedVariables false
set_option linter.unnecessarySimpa false
set_option linter.unusedSectionVars false
open Go.RowKit
variable [Glob]
set_option maxRecDepth 100000
theorem arg_one {α β : Type} {a : Array β} {x : α} (h : [x].length = a.size) : ∃ v, a = #[v] := by
  obtain ⟨l⟩ := a
  match l, h with
  | [v], _ => exact ⟨v, rfl⟩
abbrev bT : TypeId := 151
theorem b_info : ∃ j, Try.prog.info? bT = some j ∧ j.size = 2 := by
  obtain ⟨j, h1, h2⟩ := Option.map_eq_some_iff.1 (show (Try.prog.info? bT).map (·.size) = some 2 by kernel_rfl)
  exact ⟨j, h1, h2⟩
set_option maxHeartbeats 1000000 in
theorem cc_used (b : Nat) (w : World) (h0 : w.cell? ⟨b, 0, none⟩ = some (.pointer (some ⟨b, 0, none⟩))) :
    Calls Try.prog 117 #[.pointer (some ⟨b, 0, none⟩)] w fun e w' => e = .returned (.tuple #[]) ∧ w' = w := by
  obtain ⟨j, hj, _⟩ := b_info
  go_enter Try.func117, Try.ntmps117
  go_wp2
  rw [Lib.run_neq_ptr_same w _ Try.underlying149 hj]
  go_wp2
  go_end0
  exact ⟨rfl, rfl⟩
set_option maxHeartbeats 1000000 in
theorem cc_fresh (b : Nat) (w : World) (h0 : w.cell? ⟨b, 0, none⟩ = some (.pointer none)) (hsh : w.shape? b = some (bT, 2)) (hfz : w.frozen? ⟨b, 0, none⟩ = false) :
    Calls Try.prog 117 #[.pointer (some ⟨b, 0, none⟩)] w fun e w' => e = .returned (.tuple #[]) ∧ w' = w.setCell ⟨b, 0, none⟩ (.pointer (some ⟨b, 0, none⟩)) := by
  obtain ⟨j, hj, hjs⟩ := b_info
  go_enter Try.func117, Try.ntmps117
  go_wp2
  rw [Lib.run_to_unsafe w ⟨b, 0, none⟩ Try.underlying149 Try.underlying175 hj (by rw [hjs]; decide) hsh (Nat.zero_lt_succ 1)]
  simp only [Result.andThen]
  rw [Oper.upon_value]
  go_wp2
  rw [run_callFunc_extern Try.func130 (by kernel_rfl) (by kernel_rfl) (by kernel_rfl) (e := Extern.AbiNoEscape.same) (by kernel_rfl)]
  rw [Lib.run_noEscape]
  simp only [Result.andThen]
  rw [Oper.upon_value]
  go_wp2
  rw [Lib.run_from_unsafe w ⟨b, 0, none⟩ Try.underlying175 Try.underlying149 hj hsh (by kernel_rfl)]
  simp only [Result.andThen]
  rw [Oper.upon_value]
  go_wp2
  go_end0
  exact ⟨rfl, rfl⟩
theorem own_ptr {w0 w : World} {X : Nat → Prop} {φ : Nat → Option Nat} {H : List Blk} {id : Nat} {t : TypeId} {cs : List AV} {v : Value} (hb : H[id]? = some (.box t cs)) (h : RV Try.prog w X φ H (.op id 0) v) : ∃ c, φ id = some c ∧ v = .pointer (some ⟨c, 0, none⟩) := by
  cases h with
  | ro h => cases h
  | op h0 hid h => exact h _ _ hb
theorem cc_G {H : List Blk} {id : Nat} {p x : AV} {K : AV → List Blk → Prop} (hb : H[id]? = some (.box bT [p, x])) (hp : p = .nilp ∨ p = .op id 0) (hK : K (.tup []) (H.set id (.box bT [.op id 0, x]))) :
    CallG Try.prog 117 [.op id 0] H K := by
  refine ⟨by kernel_rfl, fun w0 w X φ vs hr hl hv => ?_⟩
  obtain ⟨v0, rfl⟩ := arg_one hl
  have hv0 := hv 0 _ v0 rfl rfl
  obtain ⟨c, hc, rfl⟩ := own_ptr (w0 := w0) hb hv0
  obtain ⟨cur, q1, q2, q3⟩ := hr.blk id _ c hb hc
  have hs2 : cur.size = 2 := by simpa using q2
  obtain ⟨u0, u1, rfl⟩ : ∃ u0 u1, cur = #[u0, u1] := by
    obtain ⟨l⟩ := cur
    match l, hs2 with
    | [a, b], _ => exact ⟨a, b, rfl⟩
  have hu0 := (q3 0 p u0 rfl rfl)
  have c0 : w.cell? ⟨c, 0, none⟩ = some u0 := by rw [cell_row q1]; rfl
  rcases hp with rfl | rfl
  · have e0 : u0 = .pointer none := by cases hu0.1 with | ro h => cases h; rfl
    subst e0
    refine (cc_fresh c w c0 (by simp [World.shape?, q1]) (by simp [World.frozen?, q1])).mono ?_
    rintro e w' ⟨rfl, rfl⟩
    rw [setCell_eq_setRow w c 0 _ bT (0, 0) _ q1]
    have hsh : Shape (.box bT [.nilp, x]) (.box bT [.op id 0, x]) := ⟨fun t cs e => (by cases e; exact ⟨_, rfl⟩), fun _ _ _ e => (by cases e), fun _ e => (by cases e)⟩
    have hT := turn_setRow hr hb hc hsh (cur' := #[.pointer (some ⟨c, 0, none⟩), u1]) q1 rfl
    refine ⟨_, .tup [], φ, _, rfl, hr_setRow hr hb hc hsh q1 rfl ⟨_, setRow_heap w c _ _ _ _ q1, rfl, fun j y v hy hv => ?_⟩, hT, .ro (.tup rfl (by simp)), hK⟩
    match j with
    | 0 => simp at hy hv; subst hy hv; exact ⟨hv0.turn hT, rfl⟩
    | 1 => simp at hy hv; subst hy hv; exact ⟨(q3 1 x _ rfl rfl).1.turn hT, (q3 1 x _ rfl rfl).2⟩
    | j + 2 => simp at hy
  · obtain ⟨c', hc', rfl⟩ := own_ptr (w0 := w0) hb hu0.1
    rw [hc] at hc'; simp at hc'; subst hc'
    refine (cc_used c w c0).mono ?_
    rintro e w' ⟨rfl, rfl⟩
    have hself : H.set id (.box bT [.op id 0, x]) = H := set_self hb
    rw [hself] at hK
    exact ⟨_, .tup [], φ, H, rfl, hr, Turn.refl _ _ _, .ro (.tup rfl (by simp)), hK⟩
set_option maxHeartbeats 1000000 in
theorem str_some (b g cap : Nat) (cur : Array Value) (p : Value) (l : List UInt8) (w : World) (hbk : w.heap[b]? = some (.cells #[p, .slice (some ⟨g, 0, none⟩) l.length cap] bT (0, 0))) (hg : w.heap[g]? = some (.cells cur 5 (0, 0))) (h0 : l ≠ []) (hnc : l.length ≤ cap) (hcm : cap ≤ maxLen) (hcs : cur.size = cap)
    (hcell : ∀ (j : Nat) (x : UInt8), l[j]? = some x → w.cell? ⟨g, j, none⟩ = some (.int .u8 x.toNat)) :
    Calls Try.prog 109 #[.pointer (some ⟨b, 0, none⟩)] w fun e w' => e = .returned (.string ⟨l.toArray⟩) ∧ w' = w.drew.freeze ⟨g, 0, none⟩ l.length := by
  have hl0 : l.length ≠ 0 := by simpa using h0
  have c1 : w.drew.cell? ⟨b, 1, none⟩ = some (.slice (some ⟨g, 0, none⟩) l.length cap) := by
    have : w.drew.heap[b]? = some (.cells #[p, .slice (some ⟨g, 0, none⟩) l.length cap] bT (0, 0)) := hbk
    rw [cell_row this]; rfl
  have hSD : (Builtin.unsafeSliceData_ #[68] 164 #[.slice (some ⟨g, 0, none⟩) l.length cap]).run Try.prog w.drew = .ok (.pointer (some ⟨g, 0, none⟩)) w.drew :=
    Lib.run_unsafeSliceData_row _ _ _ _ _ _ (by omega)
  have hUS : (Builtin.unsafeString_ #[164, 3] 9 #[.pointer (some ⟨g, 0, none⟩), .int .i64 l.length]).run Try.prog w.drew = .ok (.string ⟨l.toArray⟩) (w.drew.freeze ⟨g, 0, none⟩ l.length) := by
    refine Lib.run_unsafeString_row w.drew 164 3 9 5 Try.underlying164 (by kernel_rfl) g cur.size (by have hg' : w.drew.heap[g]? = some (.cells cur 5 (0, 0)) := hg; simp [World.shape?, hg']) l h0 (by omega) (by unfold maxLen at hcm; omega) ?_
    intro j x hx
    have := hcell j x hx
    rw [add_noneA, Nat.zero_add]; exact this
  have mixed := mixed
  go_enter Try.func109, Try.ntmps109
  go_wp2
  go_region_o
  all_goals (go_wp2; go_ret; exact ⟨rfl, rfl⟩)
set_option maxHeartbeats 1000000 in
theorem str_nil (b : Nat) (p : Value) (w : World) (hbk : w.heap[b]? = some (.cells #[p, .slice none 0 0] bT (0, 0))) :
    Calls Try.prog 109 #[.pointer (some ⟨b, 0, none⟩)] w fun e w' => e = .returned (.string ⟨#[]⟩) ∧ w' = w.drew := by
  have hUS : ∀ (W : World) (q : Option Addr), (Builtin.unsafeString_ #[164, 3] 9 #[.pointer q, .int .i64 0]).run Try.prog W = .ok (.string .empty) W := fun W q => Lib.run_unsafeString_none W _ _ _ q
  have c1 : w.drew.cell? ⟨b, 1, none⟩ = some (.slice none 0 0) := by
    have : w.drew.heap[b]? = some (.cells #[p, .slice none 0 0] bT (0, 0)) := hbk
    rw [cell_row this]; rfl
  have hSD : (Builtin.unsafeSliceData_ #[68] 164 #[.slice none 0 0]).run Try.prog w.drew = .ok (.pointer none) w.drew := rfl
  have mixed := mixed
  go_enter Try.func109, Try.ntmps109
  go_wp2
  go_region_o
  all_goals (go_wp2; go_ret; exact ⟨rfl, rfl⟩)
/-- Block j's bytes are frozen: nothing is said of it any more. -/
theorem turn_gone {w0 w w' : World} {X : Nat → Prop} {φ : Nat → Option Nat} {H : List Blk} (hr : HR Try.prog w0 X w φ H) {j g : Nat} {b : Blk} (hj : H[j]? = some b) (hg : φ j = some g) (hs : w'.heap.size = w.heap.size) (hne : ∀ k, k ≠ g → w'.heap[k]? = w.heap[k]?) : Turn w φ H w' φ (H.set j .gone) := by
  have hset : ∀ i b', (H.set j .gone)[i]? = some b' → b' = .gone ∨ (i ≠ j ∧ H[i]? = some b') := fun i b' h => by
    rw [List.getElem?_set] at h
    split at h
    · split at h
      · simp at h; exact .inl h.symm
      · simp at h
    · rename_i e; exact .inr ⟨fun q => e q.symm, h⟩
  have hcc : ∀ i c, i ≠ j → φ i = some c → w'.heap[c]? = w.heap[c]? := fun i c hi hc => hne c fun e => hi (hr.inj i j c hc (by rw [e]; exact hg))
  exact {
    size := by omega
    len := by simp
    old := fun b h _ => ⟨hne b fun e => h j (by rw [e]; exact hg), h⟩
    box := fun i t cs _ h => by
      rcases hset i _ h with e | ⟨hi, h⟩
      · cases e
      · exact ⟨cs, h, fun _ h => h⟩
    row := fun i e nb rows _ h => by
      rcases hset i _ h with q | ⟨hi, h⟩
      · cases q
      · exact ⟨rows, h, Nat.le_refl _, fun _ => ⟨fun _ h => h, fun c hc => ⟨hc, fun cur hcur => ⟨cur, by rw [hcc i c hi hc]; exact hcur, rfl⟩⟩⟩⟩
    map := fun i es _ h => by
      rcases hset i _ h with q | ⟨hi, h⟩
      · cases q
      · exact ⟨es, h, fun c hc => ⟨hc, bornK_same (hcc i c hi hc)⟩⟩
    iter := fun i m n s _ h => by
      rcases hset i _ h with q | ⟨hi, h⟩
      · cases q
      · exact ⟨m, n, s, h, fun _ h => h⟩ }
theorem hr_gone {w0 w w' : World} {X : Nat → Prop} {φ : Nat → Option Nat} {H : List Blk} (hr : HR Try.prog w0 X w φ H) {j g : Nat} {b : Blk} (hj : H[j]? = some b) (hg : φ j = some g) (hs : w'.heap.size = w.heap.size) (hne : ∀ k, k ≠ g → w'.heap[k]? = w.heap[k]?) (hB : Below w0.heap.size w0 w') : HR Try.prog w0 X w' φ (H.set j .gone) := by
  have hT := turn_gone hr hj hg hs hne
  refine ⟨hr.vo, hB, ext_turn hr hT, fun i c hc => ?_, hr.inj, fun i b' c hb hc => ?_⟩
  · have := hr.own i c hc
    simp; omega
  · rw [List.getElem?_set] at hb
    split at hb
    · split at hb
      · simp at hb; subst hb; trivial
      · simp at hb
    · rename_i e
      exact (hr.blk i b' c hb hc).turn hT (hne c fun q => e (hr.inj j i c (by rw [q]; exact hg) hc))
def byteC (c : UInt8) : List AV := [.int .u8 c.toNat]
theorem bytesRows_eq (b : ByteArray) : bytesRows b = rowsOf byteC b.data.toList := rfl
theorem freeze_ne (w : World) (g n k : Nat) (h : k ≠ g) : (w.freeze ⟨g, 0, none⟩ n).heap[k]? = w.heap[k]? := by
  unfold World.freeze
  split
  · rfl
  · simp only [Array.getElem?_modify]
    rw [if_neg fun e => h e.symm]
theorem freeze_size (w : World) (g n : Nat) : (w.freeze ⟨g, 0, none⟩ n).heap.size = w.heap.size := by
  unfold World.freeze
  split
  · rfl
  · simp
theorem str_G {H : List Blk} {id j n : Nat} {p : AV} {e : TypeId} {nb : Bool} {l : List UInt8} {K : AV → List Blk → Prop} (hb : H[id]? = some (.box bT [p, .os j n])) (hj : H[j]? = some (.row 5 nb (rowsOf byteC l))) (hn : l.length = n) (h0 : l ≠ []) (hK : K (.str ⟨l.toArray⟩) (H.set j .gone)) :
    CallG Try.prog 109 [.op id 0] H K := by
  refine ⟨by kernel_rfl, fun w0 w X φ vs hr hl hv => ?_⟩
  obtain ⟨v0, rfl⟩ := arg_one hl
  have hv0 := hv 0 _ v0 rfl rfl
  obtain ⟨c, hc, rfl⟩ := own_ptr (w0 := w0) hb hv0
  obtain ⟨cur, q1, q2, q3⟩ := hr.blk id _ c hb hc
  have hs2 : cur.size = 2 := by simpa using q2
  obtain ⟨u0, u1, rfl⟩ : ∃ u0 u1, cur = #[u0, u1] := by
    obtain ⟨l⟩ := cur
    match l, hs2 with
    | [a, b], _ => exact ⟨a, b, rfl⟩
  have hu1 := (q3 1 _ u1 rfl rfl).1
  have hl0 : l.length ≠ 0 := by simpa using h0
  obtain ⟨g, cap, cur, hg, hu, hcur, hcs, hcm, hnc⟩ : ∃ g cap cur, φ j = some g ∧ u1 = .slice (some ⟨g, 0, none⟩) l.length cap ∧ w.heap[g]? = some (.cells cur 5 (0, 0)) ∧ cur.size = cap ∧ cap ≤ maxLen ∧ l.length ≤ cap := by
    have hce : Try.prog.cellsOf 5 = 1 := by kernel_rfl
    cases hu1 with
    | ro h => cases h
    | os g0 hid h =>
      rcases (h _ nb _ hj).2 (by rw [rowsOf_length, hn]) with ⟨_, _, _, q⟩ | ⟨g, cap, cur, k1, k2, k3, k4, k5, k6⟩
      · omega
      · exact ⟨g, cap, cur, k1, by rw [hn]; exact k2, k3, by rw [k4, hce]; omega, k5, by omega⟩
  subst hu
  obtain ⟨cur', r1, r2, r3, r4⟩ := hr.blk j _ g hj hg
  rw [hcur] at r1; simp at r1; subst r1
  have hce : Try.prog.cellsOf 5 = 1 := by kernel_rfl
  rw [hce] at r4
  refine (str_some c g cap cur u0 l w q1 hcur h0 hnc hcm hcs fun i x hx => ?_).mono ?_
  · have hi := (List.getElem?_eq_some_iff.1 hx).1
    have := (r4 i 0 (byteC x) (.int .u8 x.toNat) cur[i] (by simp [rowsOf, hx]) rfl (by simp [show i < cur.size by omega])).1.int_inv
    rw [cell_row hcur]
    simp [show i < cur.size by omega, this]
  rintro e w' ⟨rfl, rfl⟩
  have hr' := hr_drew hr
  have hne : ∀ k, k ≠ g → (w.drew.freeze ⟨g, 0, none⟩ l.length).heap[k]? = w.drew.heap[k]? := fun k hk => freeze_ne _ g _ k hk
  have hBl : Below w0.heap.size w0 (w.drew.freeze ⟨g, 0, none⟩ l.length) := Lib.below_freeze hr.fr.drew (p := ⟨g, 0, none⟩) (hr.own j g hg).1 _
  exact ⟨_, .str ⟨l.toArray⟩, φ, _, rfl, hr_gone hr' hj hg (freeze_size _ _ _) hne hBl, (turn_drew w φ H).trans (turn_gone hr' hj hg (freeze_size _ _ _) hne), .ro .str, hK⟩
theorem strn_G {H : List Blk} {id : Nat} {p : AV} {K : AV → List Blk → Prop} (hb : H[id]? = some (.box bT [p, .nils])) (hK : K (.str ⟨#[]⟩) H) : CallG Try.prog 109 [.op id 0] H K := by
  refine ⟨by kernel_rfl, fun w0 w X φ vs hr hl hv => ?_⟩
  obtain ⟨v0, rfl⟩ := arg_one hl
  have hv0 := hv 0 _ v0 rfl rfl
  obtain ⟨c, hc, rfl⟩ := own_ptr (w0 := w0) hb hv0
  obtain ⟨cur, q1, q2, q3⟩ := hr.blk id _ c hb hc
  have hs2 : cur.size = 2 := by simpa using q2
  obtain ⟨u0, u1, rfl⟩ : ∃ u0 u1, cur = #[u0, u1] := by
    obtain ⟨l⟩ := cur
    match l, hs2 with
    | [a, b], _ => exact ⟨a, b, rfl⟩
  have hu1 := (q3 1 _ u1 rfl rfl).1.nils_inv
  subst hu1
  refine (str_nil c u0 w q1).mono ?_
  rintro e w' ⟨rfl, rfl⟩
  exact ⟨_, .str ⟨#[]⟩, φ, H, rfl, hr_drew hr, turn_drew w φ H, .ro .str, hK⟩
end Go.Proofs.Ytkppfaennogcmaa
