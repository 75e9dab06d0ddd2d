/- Several texts of the abstract machine, one behind the other. -/
import Derived.Test.YthiclaihlpkinaaGreatM3
import Derived.Test.YthiclaihlpkinaaGreatTy
import Derived.Shelf.SlSortCmp.WholeK
import Derived.Test.YthiclaihlpkinaaGreatM11
import Derived.Test.YthiclaihlpkinaaGreatLaySp
import Derived.Shelf.SlicesG.Cmp
import Derived.ProofKit
import Derived.Deep.RegionHeld3
import Derived.Laws.AppendOwn
import Derived.Test.YthiclaihlpkinaaGreatM10
import Derived.Test.YthiclaihlpkinaaGreatAbBase
import Derived.Test.YthiclaihlpkinaaGreatM4
import Derived.Lib.SliceRun
import Derived.Lib.Walk
import Derived.Test.YthiclaihlpkinaaGreatM8
set_option linter.unusedSimpArgs false
set_option linter.unusedVariables false
set_option linter.unnecessarySimpa false
set_option linter.unusedSectionVars false
set_option maxRecDepth 100000
namespace Go.Proofs.YthiclaihlpkinaaGreat
open Go.RowKit Go.Sort Go.Shelf Go.Lib
variable [Glob]
section
variable {P : Program} {w0 w : World} {X : Nat → Prop} {φ : Nat → Option Nat} {G : List Blk}
theorem heap_putV {c k : Nat} {os : Array Obj} {cur : Array Value} {e : TypeId} (F : Array Value) (hc : w.heap[c]? = some (.cells cur e (0, 0))) :
    (grow (putRow id (Sort.ahead w k) c 0 F) os).heap[c]? = some (.cells (putCells id 0 F cur) e (0, 0)) := by
  have hg : c < w.heap.size := (Array.getElem?_eq_some_iff.1 hc).1
  rw [heap_grow_old _ _ (by simpa using hg)]
  simp [putRow, mapBlock, Sort.ahead, Array.getElem?_modify, hc, onCells]
theorem below_putV {c k : Nat} {os : Array Obj} {cur : Array Value} {e : TypeId} (F : Array Value) (hc : w.heap[c]? = some (.cells cur e (0, 0))) :
    Go.RowKit.Below (w.setRow c (putCells id 0 F cur)).heap.size (w.setRow c (putCells id 0 F cur)) (grow (putRow id (Sort.ahead w k) c 0 F) os) := by
  have hg : c < w.heap.size := (Array.getElem?_eq_some_iff.1 hc).1
  refine ⟨rfl, rfl, rfl, by simp, fun i hi => ?_⟩
  have hi' : i < w.heap.size := by simpa using hi
  by_cases e1 : i = c
  · subst e1
    rw [heap_putV F hc, setRow_heap w i _ _ _ _ hc]
  · rw [heap_grow_old _ _ (by simpa using hi'), heap_setRow w c _ i e1]
    have : c ≠ i := fun q => e1 q.symm
    simp [putRow, mapBlock, Sort.ahead, Array.getElem?_modify, this]
theorem flatK_get {α : Type} [Inhabited α] (enc : α → List Value) (k : Nat) (d : Array α) (hk : ∀ x, (enc x).length = k) {i j : Nat} (hi : i < d.size) (hj : j < k) : (flatK enc k d)[i * k + j]? = (enc d[i])[j]? := by
  have hlt : i * k + j < d.size * k := by
    calc i * k + j < i * k + k := by omega
      _ = (i + 1) * k := by rw [Nat.add_mul, Nat.one_mul]
      _ ≤ d.size * k := Nat.mul_le_mul_right _ hi
  have hsz : (flatK enc k d).size = d.size * k := by simp [flatK]
  have h1 := get_flatK enc k d (i * k + j) hlt
  rw [getElem!_pos _ _ (by rw [hsz]; exact hlt)] at h1
  rw [Array.getElem?_eq_getElem (by rw [hsz]; exact hlt), h1]
  have hdv : (i * k + j) / k = i := by
    rw [Nat.mul_comm, Nat.mul_add_div (by omega), Nat.div_eq_of_lt hj]; omega
  have hmd : (i * k + j) % k = j := by rw [Nat.mul_comm, Nat.mul_add_mod, Nat.mod_eq_of_lt hj]
  rw [hdv, hmd, getElem!_pos d i hi, getElem!_pos _ j (by rw [hk]; exact hj), List.getElem?_eq_getElem]
/-- The row is turned. -/
theorem putK_row {e : TypeId} {nb : Bool} {rows : List (List AV)} {bid c m k : Nat} {os : Array Obj} {cur : Array Value} {α : Type} [Inhabited α] (hr : HR P w0 X w φ G) (hb : G[bid]? = some (.row e nb rows)) (hφ : φ bid = some c) (hc : w.heap[c]? = some (.cells cur e (0, 0))) (hce : P.cellsOf e = k) (hk0 : 0 < k)
    (enc : α → List Value) (C : α → List AV) (hk : ∀ x, (enc x).length = k) (hC : ∀ x, (C x).length = k) (hread : ∀ x (j : Nat) a v, (C x)[j]? = some a → (enc x)[j]? = some v → RV P w X φ G a v ∧ v.oneCell' = true) (d : Array α) (hd : d.size = rows.length) (hle : rows.length * k ≤ cur.size) :
    HR P w0 X (sortWorldK enc k w c 0 m d os) φ (G.set bid (.row e nb (d.toList.map C))) ∧ Turn w φ G (sortWorldK enc k w c 0 m d os) φ (G.set bid (.row e nb (d.toList.map C))) := by
  have hsz : (putCells id 0 (flatK enc k d) cur).size = cur.size := by simp [putCells]
  have hF : (flatK enc k d).size = d.size * k := by simp [flatK]
  have hs : Shape (.row e nb rows) (.row e nb (d.toList.map C)) := ⟨fun _ _ h => by simp at h, fun e1 nb1 rows1 h => by simp at h; obtain ⟨rfl, rfl, rfl⟩ := h; exact ⟨_, rfl, by simp [hd]⟩, fun _ h => by simp at h⟩
  have hT := turn_setRow hr hb hφ hs hc hsz
  have h1 := hr_setRow hr hb hφ hs hc hsz (by
    refine ⟨_, setRow_heap w c _ _ _ _ hc, fun row hrow => ?_, by rw [hce, hsz]; simp [hd]; exact hle, fun i j row x v hi hj hv => ?_⟩
    · simp only [List.mem_map] at hrow
      obtain ⟨s, _, rfl⟩ := hrow
      rw [hC, hce]
    · rw [hce] at hv
      simp only [List.getElem?_map, Option.map_eq_some_iff] at hi
      obtain ⟨s, hi, rfl⟩ := hi
      have hlt : i < d.size := by have := (List.getElem?_eq_some_iff.1 hi).1; simpa using this
      have hds : d[i] = s := by
        rw [Array.getElem?_toList, Array.getElem?_eq_getElem hlt] at hi; simpa using hi
      have hjk : j < k := by have := (List.getElem?_eq_some_iff.1 hj).1; rwa [hC] at this
      have hij : i * k + j < d.size * k := by
        calc i * k + j < i * k + k := by omega
          _ = (i + 1) * k := by rw [Nat.add_mul, Nat.one_mul]
          _ ≤ d.size * k := Nat.mul_le_mul_right _ hlt
      have hcur : i * k + j < cur.size := by rw [hd] at hij; omega
      have hfl := flatK_get enc k d hk hlt hjk
      rw [hds] at hfl
      have hv2 : (enc s)[j]? = some v := by
        rw [← hfl, ← hv]
        simp only [putCells, Array.getElem?_mapIdx, Array.getElem?_eq_getElem hcur, Option.map_some]
        rw [if_pos (by rw [hF]; omega), Nat.sub_zero, getElem!_pos _ _ (by rw [hF]; exact hij), Array.getElem?_eq_getElem (by rw [hF]; exact hij)]
        rfl
      obtain ⟨q1, q2⟩ := hread s j x v hj hv2
      exact ⟨q1.turn hT, q2⟩)
  have hB := below_putV (k := m) (os := os) (flatK enc k d) hc
  exact ⟨hr_below h1 hB, hT.trans (turn_below h1 hB)⟩
/-- What the row holds. -/
theorem holdsK_row {e : TypeId} {nb : Bool} {bid c k : Nat} {cur : Array Value} {α : Type} [Inhabited α] {l : List α} {C : α → List AV} (hr : HR P w0 X w φ G) (hb : G[bid]? = some (.row e nb (l.map C))) (hφ : φ bid = some c) (hc : w.heap[c]? = some (.cells cur e (0, 0))) (hce : P.cellsOf e = k)
    (enc : α → List Value) (hk : ∀ x, (enc x).length = k) (hC : ∀ x, (C x).length = k) (hdet : ∀ (i j : Nat) x a v u, l[i]? = some x → (C x)[j]? = some a → (enc x)[j]? = some v → cur[i * k + j]? = some u → RV P w X φ G a u → u = v) : l.length * k ≤ cur.size ∧ HoldsK enc k w c 0 l.toArray := by
  obtain ⟨cur', h1, h2, h3, h4⟩ := hr.blk bid _ c hb hφ
  rw [hc] at h1
  simp at h1
  subst h1
  rw [hce] at h3 h4
  simp only [List.length_map] at h3
  refine ⟨h3, fun t ht => ?_⟩
  have hsz : (flatK enc k l.toArray).size = l.length * k := by simp [flatK]
  rw [hsz] at ht
  have hk0 : 0 < k := by
    rcases Nat.eq_zero_or_pos k with e0 | e0
    · rw [e0] at ht; omega
    · exact e0
  have hi : t / k < l.length := Nat.div_lt_of_lt_mul (by rw [Nat.mul_comm]; exact ht)
  have hj : t % k < k := Nat.mod_lt _ hk0
  have hfl := flatK_get enc k l.toArray hk (i := t / k) (j := t % k) (by simpa using hi) hj
  have htt : t / k * k + t % k = t := by rw [Nat.mul_comm]; exact Nat.div_add_mod t k
  rw [htt] at hfl
  have hlt : t < cur.size := by omega
  have hx : (l.toArray)[t / k]'(by simpa using hi) = l[t / k] := by simp
  rw [hx] at hfl
  have hlen := hk l[t / k]
  obtain ⟨v, hv⟩ : ∃ v, (enc l[t / k])[t % k]? = some v := ⟨_, List.getElem?_eq_getElem (l := enc l[t / k]) (i := t % k) (by omega)⟩
  obtain ⟨a, ha⟩ : ∃ a, (C l[t / k])[t % k]? = some a := ⟨_, List.getElem?_eq_getElem (l := C l[t / k]) (i := t % k) (by rw [hC]; exact hj)⟩
  have hu := h4 (t / k) (t % k) (C l[t / k]) a cur[t] (by simp [hi]) ha (by rw [htt]; simp [hlt])
  have huv := hdet (t / k) (t % k) l[t / k] a v cur[t] (by simp [hi]) ha hv (by rw [htt]; simp [hlt]) hu.1
  rw [hv] at hfl
  have hf2 : (flatK enc k l.toArray)[t]! = v := by
    rw [getElem!_pos _ _ (by rw [hsz]; exact ht)]
    rw [Array.getElem?_eq_getElem (by rw [hsz]; exact ht)] at hfl
    exact Option.some.inj hfl
  rw [hf2]
  refine ⟨?_, ?_⟩
  · rw [cell_row hc]
    simp [hlt, huv]
  · simp [World.frozen?, hc]
end
end Go.Proofs.YthiclaihlpkinaaGreat
namespace Go.Proofs.YthiclaihlpkinaaGreat
open Go.RowKit Go.Sort Go.Shelf
variable [Glob]
def rdI : Rd Int := fun w a x => w.cell? a = some (.int .i64 x)
abbrev IntsS := Sl rdI 1
theorem mono_intS : Mono rdI := fun _ _ _ _ hb h => Below.cell_some hb h
theorem Sl.intS {w : World} {A : Option Addr} {n k : Nat} {l : List Int} (h : IntsS w A n l) (hk : k < n) :
    ∃ ad, A = some ad ∧ ∃ h : k < l.length, w.cell? (ad.add k) = some (.int .i64 l[k]) := by
  obtain ⟨rfl, _, h2⟩ := h
  obtain ⟨ad, h3, h4⟩ := h2 k hk
  exact ⟨ad, h3, hk, by simpa [rdI] using h4⟩
def orL : List Int → Int
  | [] => 0
  | x :: r => if x = 0 then orL r else x
theorem or_calls (A : Option Addr) (n c : Nat) (l : List Int) (w : World) (h : IntsS w A n l) :
    Calls Tryz.prog 31 #[.slice A n c] w fun e w' => e = .returned (.int .i64 (orL l)) ∧ Grown w w' := by
  have hn := h.len
  have hla := Lib.hid h.1
  go_enter Tryz.func31, Tryz.ntmps31
  go_wp2_with fail
  go_loopw [8] (fun i wr => ∃ k : Nat, k ≤ n ∧ i = .int .i64 k ∧ Hid (Grown w wr) ∧ Hid (orL (l.drop k) = orL l)) (fun i _ => n - (intOf i).toNat)
  case atStart => exact ⟨0, Nat.zero_le _, rfl, Grown.refl _, by simp [Hid]⟩
  case round =>
    obtain ⟨k, hk, rfl, hb, hR⟩ := hrel
    have hB := Lib.hid hb.out.below
    by_cases hlt : k < n
    · obtain ⟨ad, rfl, hk1, hc⟩ := (h.below mono_intS hB.out).intS hlt
      have hR2 := hR.out
      rw [List.drop_eq_getElem_cons hk1, orL] at hR2
      by_cases hz : l[k] = 0
      · rw [if_pos hz] at hR2
        have hR2 := Lib.hid hR2
        go_wp2_with fail
        go_roundw
        case rel => exact ⟨k + 1, by omega, by go_num, hb, hR2⟩
        case measure => simp [intOf]; omega
      · rw [if_neg hz] at hR2
        have hR2 := Lib.hid hR2
        go_wp2_with fail
        go_ret
        exact ⟨by first | exact ret_int hR2.out | rfl, hb.out⟩
    · have hR2 := hR.out
      rw [List.drop_eq_nil_of_le (by have := hla.out; omega)] at hR2
      have hR2 : (0 : Int) = orL l := hR2
      have hR2 := Lib.hid hR2
      go_wp2_with fail
      go_ret
      exact ⟨by first | exact ret_int hR2.out | rfl, hb.out⟩
end Go.Proofs.YthiclaihlpkinaaGreat
namespace Go.Proofs.YthiclaihlpkinaaGreat
open Go.RowKit Go.Sort Go.Shelf
variable [Glob]
theorem pair_ints (w : World) (b : Nat) (x y : Int) (t : TypeId) (h : w.heap[b]? = some (.cells #[.int .i64 x, .int .i64 y] t (0, 0))) : IntsS w (some ⟨b, 0, none⟩) 2 [x, y] := by
  refine ⟨rfl, by decide, fun k hk => ⟨⟨b, 0, none⟩, rfl, ?_⟩⟩
  match k, hk with
  | 0, _ => simp [rdI, World.cell?, Addr.add, h]
  | 1, _ => simp [rdI, World.cell?, Addr.add, h]
  | k + 2, hk => simp at hk; omega
theorem pair_cells (W : World) (x1 x2 y1 y2 : Value) (t : TypeId) : ((W.alloc (.cells #[x1, x2] t)).alloc (.cells #[y1, y2] t)).cell? ⟨W.heap.size, 0, none⟩ = some x1 ∧ ((W.alloc (.cells #[x1, x2] t)).alloc (.cells #[y1, y2] t)).cell? ⟨W.heap.size, 1, none⟩ = some x2 ∧
    ((W.alloc (.cells #[x1, x2] t)).alloc (.cells #[y1, y2] t)).cell? ⟨W.heap.size + 1, 0, none⟩ = some y1 ∧ ((W.alloc (.cells #[x1, x2] t)).alloc (.cells #[y1, y2] t)).cell? ⟨W.heap.size + 1, 1, none⟩ = some y2 := by
  have h1 : ((W.alloc (.cells #[x1, x2] t)).alloc (.cells #[y1, y2] t)).heap[W.heap.size]? = some (.cells #[x1, x2] t (0, 0)) := by
    rw [Below.heap_alloc _ _ _ (by simp)]; exact heap_alloc_new W _
  have h2 : ((W.alloc (.cells #[x1, x2] t)).alloc (.cells #[y1, y2] t)).heap[W.heap.size + 1]? = some (.cells #[y1, y2] t (0, 0)) := by
    have := heap_alloc_new (W.alloc (.cells #[x1, x2] t)) (.cells #[y1, y2] t)
    simpa using this
  refine ⟨?_, ?_, ?_, ?_⟩ <;> first | (simp only [World.cell?, h1]; rfl) | (simp only [World.cell?, h2]; rfl)
theorem keepS {w0 w' : World} {n : Nat} {x1 x2 y1 y2 : Value} (q0 : w0.cell? ⟨n, 0, none⟩ = some x1) (q1 : w0.cell? ⟨n, 1, none⟩ = some x2) (q2 : w0.cell? ⟨n + 1, 0, none⟩ = some y1) (q3 : w0.cell? ⟨n + 1, 1, none⟩ = some y2) (h : Grown w0 w') :
    Grown w0 w' ∧ w'.cell? ⟨n, 0, none⟩ = some x1 ∧ w'.cell? ⟨n, 1, none⟩ = some x2 ∧ w'.cell? ⟨n + 1, 0, none⟩ = some y1 ∧ w'.cell? ⟨n + 1, 1, none⟩ = some y2 :=
  ⟨h, Below.cell_some h.below q0, Below.cell_some h.below q1, Below.cell_some h.below q2, Below.cell_some h.below q3⟩
set_option maxHeartbeats 4000000 in
theorem mostCmp_calls (x1 x2 y1 y2 : Int) (W : World) : Calls Tryz.prog 30 #[.agg #[.int .i64 x1, .int .i64 x2], .agg #[.int .i64 y1, .int .i64 y2]] W fun e w' => e = .returned (.int .i64 (orL [Lib.compareInt x1 y1, Lib.compareInt x2 y2])) ∧ Grown W w' := by
  have h1 := fun W' => AnyG.cmp_Compare_int Tryz.cmpIL x1 y1 W'
  have h2 := fun W' => AnyG.cmp_Compare_int Tryz.cmpIL x2 y2 W'
  change ∀ W', Calls Tryz.prog 32 _ _ _ at h1
  change ∀ W', Calls Tryz.prog 32 _ _ _ at h2
  generalize Lib.compareInt x1 y1 = r1 at h1 ⊢
  generalize Lib.compareInt x2 y2 = r2 at h2 ⊢
  go_enter Tryz.func30, Tryz.ntmps30
  go_wp2_with fail
  obtain ⟨q0, q1, q2, q3⟩ := pair_cells W (.int .i64 x1) (.int .i64 x2) (.int .i64 y1) (.int .i64 y2) 83
  have hG : Grown W ((W.alloc (.cells #[.int .i64 x1, .int .i64 x2] 83)).alloc (.cells #[.int .i64 y1, .int .i64 y2] 83)) := ((Grown.refl W).alloc _).alloc _
  have hz : W.heap.size + 2 = ((W.alloc (.cells #[.int .i64 x1, .int .i64 x2] 83)).alloc (.cells #[.int .i64 y1, .int .i64 y2] 83)).heap.size := by simp
  generalize (W.alloc (.cells #[.int .i64 x1, .int .i64 x2] 83)).alloc (.cells #[.int .i64 y1, .int .i64 y2] 83) = w0 at *
  go_region_held3 (fun w' => Grown w0 w' ∧ w'.cell? ⟨W.heap.size, 0, none⟩ = some (.int .i64 x1) ∧ w'.cell? ⟨W.heap.size, 1, none⟩ = some (.int .i64 x2) ∧ w'.cell? ⟨W.heap.size + 1, 0, none⟩ = some (.int .i64 y1) ∧ w'.cell? ⟨W.heap.size + 1, 1, none⟩ = some (.int .i64 y2))
    (first | assumption | exact keepS q0 q1 q2 q3 (by first | assumption | exact (Grown.refl _).drew | exact ((Grown.refl _).alloc _).drew | exact (Grown.refl _).drew.alloc _ | exact Grown.drew (by assumption) | exact Grown.alloc (by assumption) _ | exact Grown.trans ((Grown.refl _).alloc _).drew (by assumption) | exact Grown.trans ((Grown.refl _).drew.alloc _) (by assumption) | exact Grown.trans (by assumption) (by assumption)))
    (first | (go_at_call_of 32 x1; with_reducible refine (h1 _).mono ?_; rintro e w' ⟨rfl, rfl⟩) | (go_at_call_of 32 x2; with_reducible refine (h2 _).mono ?_; rintro e w' ⟨rfl, rfl⟩) | (go_at_call 31; refine (or_calls _ 2 2 [r1, r2] _ (pair_ints _ _ _ _ _ (by first | exact heap_alloc_new _ _ | exact heap_alloc_new _ _))).mono ?_; rintro e w' ⟨rfl, hg⟩))
  have hS := ‹Grown w0 w' ∧ _›
  go_wp2_with fail
  go_ret
  exact ⟨rfl, hG.trans hS.1⟩
end Go.Proofs.YthiclaihlpkinaaGreat
namespace Go.Proofs.YthiclaihlpkinaaGreat
open Go.RowKit
variable [Glob]
theorem one_argC {vs : Array Value} {x : AV} (h : [x].length = vs.size) : ∃ v, vs = #[v] := by
  rcases vs with ⟨l⟩
  match l, h with
  | [a], _ => exact ⟨a, rfl⟩
/-- A copy of an empty slice: nil, or an own one without elements. -/
theorem clone0_core {P : Program} {f : FuncId} {e : TypeId} (hen : entersB P f = true) (hnil : ∀ c w, Calls P f #[.slice none 0 c] w fun en w' => en = .returned (.slice none 0 0) ∧ w' = w)
    (hzero : ∀ a c w, Calls P f #[.slice (some a) 0 c] w fun en w' => ∃ v', en = .returned v' ∧ w'.ownsRow w.heap.size e (P.cellsOf e) v' 0 [] ∧ Below w.heap.size w w')
    {H : List Blk} {K : AV → List Blk → Prop} (hK : ∀ nb, K (.os H.length 0) (H ++ [.row e nb []])) : CallG P f [.rs []] H K := by
  refine ⟨hen, fun w0 w X φ vs hr hl hv => ?_⟩
  obtain ⟨v0, rfl⟩ := one_argC hl
  have hv0 := hv 0 _ v0 rfl rfl
  obtain ⟨A, c, rfl⟩ : ∃ A c, v0 = .slice A 0 c := by
    cases hv0 with
    | ro h =>
      cases h with
      | @rs _ A n cap sz f hn hcap hA hx =>
        have : n = 0 := by simpa using hn.symm
        subst this
        exact ⟨A, cap, rfl⟩
  have hφ : φ H.length = none := by
    cases h : φ H.length with
    | none => rfl
    | some g => have := (hr.own _ g h).2.2; omega
  have hbk : ∀ nb, (H ++ [Blk.row e nb []])[H.length]? = some (.row e nb []) := fun nb => by simp
  have knil : ∀ w', Below w.heap.size w w' → ∃ v r φ' H', Ending.returned (.slice none 0 0) = .returned v ∧ HR P w0 X w' φ' H' ∧ Turn w φ H w' φ' H' ∧ RV P w' X φ' H' r v ∧ K r H' := fun w' hb => by
    refine ⟨_, .os H.length 0, φ, _, rfl, hr_push (hr_below hr hb) _, (turn_below hr hb).trans (turn_push w' φ H _), .os rfl (by simp) (fun e' nb rows h => ?_), hK true⟩
    rw [hbk] at h
    simp at h
    obtain ⟨rfl, rfl, rfl⟩ := h
    exact ⟨Nat.le_refl _, fun _ => .inl ⟨rfl, hφ, ⟨none, rfl⟩, rfl⟩⟩
  cases A with
  | none =>
    refine (hnil c w).mono ?_
    rintro en w' ⟨rfl, rfl⟩
    exact knil _ (Below.refl _ _)
  | some a =>
    refine (hzero a c w).mono ?_
    rintro en w' ⟨v', rfl, hown, hb⟩
    rcases hown.2 with ⟨rfl, _⟩ | ⟨g, cap, cur, rfl, hg, hheap, hncap, hcapm, hcs, _⟩
    · exact knil _ hb
    · have hr1 := hr_push hr (.row e false [])
      have hT0 := turn_push w φ H (.row e false [])
      have hT := turn_new hr1 hb (hbk false) hφ (fun _ _ h => by simp at h) hg
      have hglt : g < w'.heap.size := (Array.getElem?_eq_some_iff.1 hheap).1
      refine ⟨_, .os H.length 0, setφ φ H.length g, _, rfl, ⟨hr.vo, hr.fr.trans (hb.mono hr.fr.size), ext_turn hr1 hT, fun i k hk => ?_, fun i j k hi hj => ?_, fun i b k hi hk => ?_⟩, hT0.trans hT, .os rfl (by simp) (fun e' nb rows h => ?_), hK false⟩
      · unfold setφ at hk
        split at hk
        · rename_i e1; simp at hk; subst hk e1
          exact ⟨Nat.le_trans hr.fr.size hg, hglt, by simp⟩
        · have := hr1.own i k hk; have := hb.size; omega
      · unfold setφ at hi hj
        split at hi <;> split at hj
        · subst_vars; rfl
        · simp at hi; subst hi; have := (hr1.own j _ hj).2.1; omega
        · simp at hj; subst hj; have := (hr1.own i _ hi).2.1; omega
        · exact hr.inj i j k hi hj
      · by_cases e1 : i = H.length
        · subst e1
          rw [hbk] at hi
          simp at hi
          subst hi
          simp [setφ] at hk
          subst hk
          exact ⟨cur, hheap, by simp, by simp, fun i j row x v q1 q2 q3 => by simp at q1⟩
        · simp [setφ, e1] at hk
          exact (hr1.blk i b k hi hk).turn hT (hb.block k (hr1.own i k hk).2.1)
      · rw [hbk] at h
        simp at h
        obtain ⟨rfl, rfl, rfl⟩ := h
        exact ⟨Nat.le_refl _, fun _ => .inr ⟨g, cap, cur, by simp [setφ], rfl, hheap, hcs, hcapm, hncap⟩⟩
end Go.Proofs.YthiclaihlpkinaaGreat
namespace Go.Proofs.YthiclaihlpkinaaGreat
open Go.RowKit Go.Sort Go.Shelf Go.Lib
variable [Glob]
def encSp (s : Sp) : List Value := [.int .i64 s.f, .int .i64 s.t]
instance : Inhabited Sp := ⟨⟨0, 0⟩⟩
def cfM (x y : Sp) : Int := orL [Lib.compareInt x.f y.f, Lib.compareInt x.t y.t]
theorem cmpI (a b : Int) : (a < b ∧ Lib.compareInt a b = -1) ∨ (a = b ∧ Lib.compareInt a b = 0) ∨ (b < a ∧ Lib.compareInt a b = 1) := by
  unfold Lib.compareInt
  rcases Int.lt_trichotomy a b with h | h | h
  · exact .inl ⟨h, by simp [h]⟩
  · subst h; exact .inr (.inl ⟨rfl, by simp⟩)
  · exact .inr (.inr ⟨h, by rw [if_neg (by omega), if_pos (by omega)]⟩)
theorem or_lex (a b c d : Int) : orL [Lib.compareInt a b, Lib.compareInt c d] < 0 ↔ a < b ∨ (a = b ∧ c < d) := by
  simp only [orL]
  rcases cmpI a b with ⟨h, e⟩ | ⟨h, e⟩ | ⟨h, e⟩ <;> rcases cmpI c d with ⟨h', e'⟩ | ⟨h', e'⟩ | ⟨h', e'⟩ <;> rw [e, e'] <;> simp <;> omega
theorem ltM (x y : Sp) : ltOf cfM x y = decide (x.f < y.f ∨ (x.f = y.f ∧ x.t < y.t)) := by
  unfold ltOf cfM
  exact decide_eq_decide.2 (or_lex _ _ _ _)
theorem ltM_le {x y : Sp} (h : ltOf cfM y x = false) : x.f ≤ y.f := by
  rw [ltM] at h
  simp only [decide_eq_false_iff_not] at h
  omega
theorem swoM : SWO (ltOf cfM) where
  irrefl x := by rw [ltM]; simp
  trans x y z h1 h2 := by rw [ltM] at *; simp only [decide_eq_true_eq] at *; omega
  ntrans x y z h1 h2 := by rw [ltM] at *; simp only [decide_eq_false_iff_not] at *; omega
theorem sp_info : ∃ i, Tryz.prog.info? 81 = some i ∧ i.zero = some (.agg #[.int .i64 0, .int .i64 0]) ∧ i.size = 2 ∧ i.bytes = 16 := by
  obtain ⟨j, h1, h2⟩ := Option.map_eq_some_iff.1 (show (Tryz.prog.info? 81).map (fun i => (i.zero, i.size, i.bytes)) = some (some (.agg #[.int .i64 0, .int .i64 0]), 2, 16) by kernel_rfl)
  simp only [Prod.mk.injEq] at h2
  exact ⟨j, h1, h2.1, h2.2.1, h2.2.2⟩
end Go.Proofs.YthiclaihlpkinaaGreat
namespace Go.Proofs.YthiclaihlpkinaaGreat
open Go.RowKit
variable [Glob]
theorem spU_set {l : List Sp} {i : Nat} {f t : Int} : (rowsOf spC l).set i [.int .i64 f, .int .i64 t] = rowsOf spC (l.set i ⟨f, t⟩) := by simp [rowsOf, spC, List.map_set]
theorem spU_snoc {l : List Sp} {f t : Int} : rowsOf spC l ++ [[.int .i64 f, .int .i64 t]] = rowsOf spC (l ++ [⟨f, t⟩]) := by simp [rowsOf, spC]
theorem spU_one {f t : Int} : rowsOf spC [⟨f, t⟩] = [[.int .i64 f, .int .i64 t]] := rfl
theorem spU_reify {H : List Blk} {n : Nat} {l : List Sp} : (rowsOf spC l).mapM (fun row => row.mapM (reify H (n + 1))) = some (rowsOf spC l) := rowsOf_reify fun x => by simp [spC, reify]
def uniR (l : List Sp) : List Sp × Int := if l.length ≤ 1000 ∧ l.all spV = true then (unionL l, 0) else ([], 1)
def spsO (r : List Sp × Int) : AV := .tup [.rs (rowsOf spC r.1), .int .i64 r.2]
end Go.Proofs.YthiclaihlpkinaaGreat
namespace Go.Proofs.YthiclaihlpkinaaGreat
open Go.RowKit
variable [Glob]
def actS (x : Ins) : Option Sp := if x.from_ < x.to_ then some ⟨x.from_, x.to_⟩ else none
def activeL (l : List Ins) : List Sp := l.filterMap actS
theorem activeL_len {l : List Ins} : (activeL l).length ≤ l.length := List.length_filterMap_le _ _
theorem activeL_mem {l : List Ins} {s : Sp} (h : s ∈ activeL l) : ∃ x ∈ l, x.from_ < x.to_ ∧ s = ⟨x.from_, x.to_⟩ := by
  obtain ⟨x, h1, h2⟩ := List.mem_filterMap.1 h
  unfold actS at h2
  split at h2
  · simp at h2; exact ⟨x, h1, by assumption, h2.symm⟩
  · cases h2
theorem active_ok {l : List Ins} (h : ∀ x ∈ l, insV x = true) : ∀ s ∈ activeL l, 0 ≤ s.f ∧ s.f < s.t ∧ s.t ≤ 1099511627776 := fun s hs => by
  obtain ⟨x, h1, h2, rfl⟩ := activeL_mem hs
  have := insV_bd (h x h1)
  simp only
  omega
set_option maxHeartbeats 8000000 in
theorem active_pure (l : List Ins) (hl : l.length ≤ 1000000) : Pure Tryz.prog 28 [.rs (rowsOf insC l)] (.rs (rowsOf spC (activeL l))) := by
  obtain ⟨R, hRR⟩ : ∃ R, activeL l = R := ⟨_, rfl⟩
  rw [hRR]
  refine pure_of mixed Tryz.func28 rfl (by kernel_rfl) (of_decide_eq_true rfl) (by kernel_rfl) (vc_run ?_)
  ((try simp -implicitDefEqProofs [-loopQ_n]) <;> (repeat' (first | ((first | refine condD_dec ?_ ?_ | refine guardD_dec ?_ ?_) <;> (intro hc; (try simp -implicitDefEqProofs [-loopQ_n, hc]))) | ((first | refine condD_intro ?_ ?_ | refine guardD_intro ?_ ?_) <;> (intro hd; have hc := hd; (try simp at hc) <;> (try simp -implicitDefEqProofs [-loopQ_n, hd, hc]))) | (refine ldD_ep ?_ ?_; (focus kernel_rfl); (try simp -implicitDefEqProofs [-loopQ_n])))))
  refine loop_intro (σ := Nat × List Sp) (fun x => ⟨[(3, .os 0 x.2.length), (6, .rs (rowsOf insC l)), (7, .int .i64 l.length), (8, .int .i64 x.1)], [.row 81 true (rowsOf spC x.2)]⟩) (fun x => x.1 ≤ l.length ∧ x.2.length ≤ x.1 ∧ x.2 ++ activeL (l.drop x.1) = R) (fun x => l.length - x.1) (0, []) ⟨by simp, by simp, by simpa using hRR⟩ ?_ ?_
  · refine weak_of 0 1 rfl rfl ?_ ?_ <;> simp [ins_refs, rowsOf_nil]
  rintro ⟨i, acc⟩ ⟨hi, hal, hR⟩
  simp only at hi hal hR
  by_cases h : i < l.length
  · have w1 := w_succ' h (by omega)
    obtain ⟨⟨cs, a, r, t1, t2, t3⟩, hf⟩ : ∃ e, l[i] = e := ⟨_, rfl⟩
    rw [List.drop_eq_getElem_cons h, activeL, List.filterMap_cons, hf] at hR
    have hl1 : acc.length ≤ 1073741823 := by omega
    by_cases c1 : t2 < t3
    · have ha : actS ⟨cs, a, r, t1, t2, t3⟩ = some ⟨t2, t3⟩ := by simp [actS, c1]
      rw [ha] at hR
      simp only at hR
      ((try simp -implicitDefEqProofs [-loopQ_n, h, hf, insC, c1, w1, hl1, spU_snoc]) <;> (repeat' (first | ((first | refine condD_dec ?_ ?_ | refine guardD_dec ?_ ?_) <;> (intro hc; (try simp -implicitDefEqProofs [-loopQ_n, hc, h, hf, insC, c1, w1, hl1, spU_snoc]))) | ((first | refine condD_intro ?_ ?_ | refine guardD_intro ?_ ?_) <;> (intro hd; have hc := hd; (try simp at hc) <;> (try simp -implicitDefEqProofs [-loopQ_n, hd, hc, h, hf, insC, c1, w1, hl1, spU_snoc]))) | (refine ldD_ep ?_ ?_; (focus kernel_rfl); (try simp -implicitDefEqProofs [-loopQ_n, h, hf, insC, c1, w1, hl1, spU_snoc])))))
      refine loop_next (i + 1, acc ++ [⟨t2, t3⟩]) ⟨h, by simp; omega, by rw [activeL]; simpa using hR⟩ (by simp only; omega) (weak_of 1 0 rfl rfl ?_ ?_) <;> simp [ins_refs, sp_refs]
    · have ha : actS ⟨cs, a, r, t1, t2, t3⟩ = none := by simp [actS, c1]
      rw [ha] at hR
      simp only at hR
      ((try simp -implicitDefEqProofs [-loopQ_n, h, hf, insC, c1, w1]) <;> (repeat' (first | ((first | refine condD_dec ?_ ?_ | refine guardD_dec ?_ ?_) <;> (intro hc; (try simp -implicitDefEqProofs [-loopQ_n, hc, h, hf, insC, c1, w1]))) | ((first | refine condD_intro ?_ ?_ | refine guardD_intro ?_ ?_) <;> (intro hd; have hc := hd; (try simp at hc) <;> (try simp -implicitDefEqProofs [-loopQ_n, hd, hc, h, hf, insC, c1, w1]))) | (refine ldD_ep ?_ ?_; (focus kernel_rfl); (try simp -implicitDefEqProofs [-loopQ_n, h, hf, insC, c1, w1])))))
      refine loop_next (i + 1, acc) ⟨h, by simp only; omega, by rw [activeL]; exact hR⟩ (by simp only; omega) (weak_of 1 0 rfl rfl ?_ ?_) <;> simp [ins_refs, sp_refs]
  · rw [List.drop_eq_nil_of_le (by omega), activeL, List.filterMap_nil, List.append_nil] at hR
    subst hR
    ((try simp -implicitDefEqProofs [-loopQ_n, h, spU_reify]) <;> (repeat' (first | ((first | refine condD_dec ?_ ?_ | refine guardD_dec ?_ ?_) <;> (intro hc; (try simp -implicitDefEqProofs [-loopQ_n, hc, h, spU_reify]))) | ((first | refine condD_intro ?_ ?_ | refine guardD_intro ?_ ?_) <;> (intro hd; have hc := hd; (try simp at hc) <;> (try simp -implicitDefEqProofs [-loopQ_n, hd, hc, h, spU_reify]))) | (refine ldD_ep ?_ ?_; (focus kernel_rfl); (try simp -implicitDefEqProofs [-loopQ_n, h, spU_reify])))))
theorem insI_set {M : List Ins} {i : Nat} {c a r : ByteArray} {t1 t2 t3 : Int} : (rowsOf insC M).set i [.str c, .str a, .str r, .int .i64 t1, .int .i64 t2, .int .i64 t3] = rowsOf insC (M.set i ⟨c, a, r, t1, t2, t3⟩) := by simp [rowsOf, insC, List.map_set]
def zIn : List AV := [.str ByteArray.empty, .str ByteArray.empty, .str ByteArray.empty, .int .i64 0, .int .i64 0, .int .i64 0]
theorem ins_mvL {id n m N : Nat} {l : List Ins} : (rowsOf insC l).map (mvL id n m N) = rowsOf insC l := by
  unfold rowsOf
  rw [List.map_map]
  exact List.map_congr_left fun x _ => rfl
theorem putR_take {rows ys : List (List AV)} {k : Nat} (h : k ≤ rows.length) : (putR rows k ys).take k = rows.take k := by
  unfold putR
  rw [List.append_assoc, List.take_append_of_le_length (by simp; omega), List.take_of_length_le (by simp; omega)]
theorem find_ofI {α : Type} {p : α → Bool} {l : List α} : (l.findIdx? p = none ∧ l.filter (fun x => !p x) = l) ∨ ∃ k, ∃ (h : k < l.length), l.findIdx? p = some k ∧ (∀ x ∈ l.take k, p x = false) ∧ p l[k] = true := by
  cases hk : l.findIdx? p with
  | none =>
    refine .inl ⟨rfl, ?_⟩
    rw [List.findIdx?_eq_none_iff] at hk
    exact List.filter_eq_self.2 fun x hx => by simp [hk x hx]
  | some k =>
    refine .inr ⟨k, ?_⟩
    rw [List.findIdx?_eq_some_iff_getElem] at hk
    obtain ⟨h1, h2, h3⟩ := hk
    refine ⟨h1, rfl, fun x hx => ?_, h2⟩
    obtain ⟨j, hj, rfl⟩ := List.getElem_of_mem hx
    have hjk : j < k := by simp at hj; omega
    rw [List.getElem_take]
    simpa using h3 j hjk
end Go.Proofs.YthiclaihlpkinaaGreat
namespace Go.Proofs.YthiclaihlpkinaaGreat
open Go.RowKit Go.Sort Go.Shelf Go.Lib
variable [Glob]
def chC (c : Chg) : List AV := [.int .i64 c.time, .int .i64 c.by_]
def encCh (c : Chg) : List Value := [.int .i64 c.time, .int .i64 c.by_]
instance : Inhabited Chg := ⟨⟨0, 0⟩⟩
def cfC (x y : Chg) : Int := orL [Lib.compareInt x.time y.time, Lib.compareInt x.by_ y.by_]
theorem ltK (x y : Chg) : ltOf cfC x y = decide (x.time < y.time ∨ (x.time = y.time ∧ x.by_ < y.by_)) := by
  unfold ltOf cfC
  exact decide_eq_decide.2 (or_lex _ _ _ _)
theorem ltK_le {x y : Chg} (h : ltOf cfC y x = false) : leC x y := by
  rw [ltK] at h
  simp only [decide_eq_false_iff_not] at h
  unfold leC
  omega
theorem swoC : SWO (ltOf cfC) where
  irrefl x := by rw [ltK]; simp
  trans x y z h1 h2 := by rw [ltK] at *; simp only [decide_eq_true_eq] at *; omega
  ntrans x y z h1 h2 := by rw [ltK] at *; simp only [decide_eq_false_iff_not] at *; omega
theorem mostCmp_lays (blk off size : Nat) (w : World) : CmpLays Tryz.prog 30 #[] encCh 2 cfC blk off size w :=
  fun _ _ _ _ x y => mostCmp_calls x.time x.by_ y.time y.by_ _
theorem sortC_G {nb : Bool} {l : List Chg} {id n : Nat} {H : List Blk} {K : AV → List Blk → Prop} (hb : H[id]? = some (.row 83 nb (rowsOf chC l))) (hn : n = l.length) (h0 : l ≠ []) (hlen : l.length ≤ 1073741824)
    (hK : ∀ l', l'.Perm l → l'.Pairwise (fun a b => leC a b) → K (.tup []) (H.set id (.row 83 nb (rowsOf chC l')))) : CallG Tryz.prog 29 [.os id n, .fn 30 []] H K := by
  refine ⟨by kernel_rfl, fun w0 w X φ vs hr hl hv => ?_⟩
  obtain ⟨v0, v1, rfl⟩ := args2 hl
  have hv0 := hv 0 (.os id n) v0 rfl rfl
  have hv1 := hv 1 (.fn 30 []) v1 rfl rfl
  obtain rfl : v1 = .func (.func 30) #[] #[] := by
    cases hv1 with
    | ro h => cases h with | fn h1 h2 => simp at h1; rw [Array.eq_empty_of_size_eq_zero h1.symm]
    | fn h1 h2 => simp at h1; rw [Array.eq_empty_of_size_eq_zero h1.symm]
  have hl0 : l.length ≠ 0 := by simpa using h0
  have hce : Tryz.prog.cellsOf 83 = 2 := by kernel_rfl
  cases hv0 with
  | ro h => cases h
  | os g0 hid hv' =>
    rcases (hv' _ nb _ hb).2 (by rw [hn, rowsOf_length]) with ⟨_, _, _, hz⟩ | ⟨c, cap, cur, hφ, rfl, hheap, hsz, hcap, hncap⟩
    · omega
    · have hk : ∀ x, (encCh x).length = 2 := fun x => rfl
      have hC : ∀ x, (chC x).length = 2 := fun x => rfl
      obtain ⟨hle, hH⟩ := holdsK_row (k := 2) (l := l) (C := chC) hr hb hφ hheap hce encCh hk hC fun i j x a v u _ ha hv _ hu => by
        match j with
        | 0 => simp [chC, encCh] at ha hv; subst ha hv; exact hu.int_inv
        | 1 => simp [chC, encCh] at ha hv; subst ha hv; exact hu.int_inv
        | j + 2 => simp [chC] at ha
      have eg : ∀ args w, (callFunc 30 args).run Tryz.prog w = .ok (.enter 30 args) w := enters_of Tryz.func30 (by kernel_rfl) rfl
      have hcon := AnyQ.slices_SortFunc Tryz.sortChL 2 Tryz.isAgg83 Tryz.sizeOf83 encCh hk (fun x v hv => by simp [encCh] at hv; rcases hv with rfl | rfl <;> rfl) cfC swoC 30 #[] c 0 cap l.toArray w eg (mostCmp_lays c 0 _ w) hH (Array.getElem?_eq_some_iff.1 hheap).1 (by simp; omega)
      change Calls Tryz.prog 29 _ _ _ at hcon
      rw [List.size_toArray, ← hn] at hcon
      refine hcon.mono ?_
      rintro e w' ⟨rfl, d', m, os, hp, hs, rfl⟩
      have hd' : d'.size = l.length := by have := hp.1; simpa [hn] using this
      obtain ⟨h1, h2⟩ := putK_row (k := 2) (m := m) (os := os) hr hb hφ hheap hce (by omega) encCh chC hk hC (fun x j a v ha hv => by
        match j with
        | 0 => simp [chC, encCh] at ha hv; subst ha hv; exact ⟨.ro .int, rfl⟩
        | 1 => simp [chC, encCh] at ha hv; subst ha hv; exact ⟨.ro .int, rfl⟩
        | j + 2 => simp [chC] at ha) d' (by rw [rowsOf_length, hd']) (by rw [rowsOf_length]; exact hle)
      refine ⟨_, .tup [], φ, _, rfl, h1, h2, .ro (.tup rfl (by simp)), hK d'.toList ?_ ?_⟩
      · have := hp.2.2
        rw [hn] at this
        have e1 : (d'.extract 0 l.length).toList = d'.toList := by rw [← hd']; simp
        have e2 : (l.toArray.extract 0 l.length).toList = l := by simp
        rw [e1, e2] at this
        exact this
      · rw [List.pairwise_iff_getElem]
        intro i j hi hj hij
        have hi' : i < d'.size := by simpa using hi
        have hj' : j < d'.size := by simpa using hj
        have := hs i j (Nat.zero_le _) hij (by rw [hn, ← hd']; exact hj')
        rw [getElem!_pos d' i hi', getElem!_pos d' j hj'] at this
        have := ltK_le this
        simpa using this
theorem sortC_nil : Pure Tryz.prog 29 [.rs [], .fn 30 []] (.tup []) := exFC_pure (m := 64) (n := 20) mixed noHook noRow noBase (by kernel_rfl)
def mostL (A : List Sp) : Int × Int := (A.map Sp.f).foldl (stepA A) (0, 0)
theorem mostL_ok (A : List Sp) : MostS A (mostL A).1 (mostL A).2 := look_most fun s hs => List.mem_map.2 ⟨s, hs, rfl⟩
def mostR (l : List Ins) : Int × Int × Int := if insL l = true then ((mostL (activeL l)).1, (mostL (activeL l)).2, 0) else (0, 0, 1)
def mostO (r : Int × Int × Int) : AV := .tup [.int .i64 r.1, .int .i64 r.2.1, .int .i64 r.2.2]
theorem sweep_by {A : List Sp} {c : Chg} (h : c ∈ sweepL A) : c.by_ = 1 ∨ c.by_ = -1 := by
  simp only [sweepL, List.mem_flatMap] at h
  obtain ⟨s, _, h⟩ := h
  simp at h
  rcases h with rfl | rfl <;> simp
theorem sweep_len {A : List Sp} : (sweepL A).length = 2 * A.length := by
  induction A with
  | nil => rfl
  | cons s r ih => rw [sweepL, List.flatMap_cons, List.length_append]; rw [sweepL] at ih; rw [ih]; simp; omega
theorem ch_refs {m : Nat} {l : List Chg} : refsR m (rowsOf chC l) = true := rowsOf_refs fun x => by simp [chC, refs]
theorem ch_snoc {l : List Chg} {f t : Int} : rowsOf chC l ++ [[.int .i64 f, .int .i64 1], [.int .i64 t, .int .i64 (-1)]] = rowsOf chC (l ++ [⟨f, 1⟩, ⟨t, -1⟩]) := by simp [rowsOf, chC]
set_option maxHeartbeats 8000000 in
theorem most_pure (l : List Ins) (hl : l.length ≤ 9223372036854775807) : Pure Tryz.prog 11 [.rs (rowsOf insC l)] (mostO (mostR l)) := by
  refine pure_of mixed Tryz.func11 rfl (by kernel_rfl) (of_decide_eq_true rfl) (by kernel_rfl) (vc_run ?_)
  by_cases hV : insL l = true
  rotate_left
  · rw [mostR, if_neg hV]
    have hV : insL l = false := by simpa using hV
    ((try simp -implicitDefEqProofs [-loopQ_n, hV, mostO]) <;> (repeat' (first | ((first | refine condD_dec ?_ ?_ | refine guardD_dec ?_ ?_) <;> (intro hc; (try simp -implicitDefEqProofs [-loopQ_n, hc, hV, mostO]))) | ((first | refine condD_intro ?_ ?_ | refine guardD_intro ?_ ?_) <;> (intro hd; have hc := hd; (try simp at hc) <;> (try simp -implicitDefEqProofs [-loopQ_n, hd, hc, hV, mostO]))) | ((first | (refine ldD_ep ?_ ?_; (focus kernel_rfl)) | (refine callS_mk ?_; (try simp -implicitDefEqProofs [-loopQ_n, hV, mostO]); (first | refine callS_intro (svalid_pure l hl) (.inl rfl) ?_))); (try simp -implicitDefEqProofs [-loopQ_n, hV, mostO])))))
  rw [mostR, if_pos hV]
  obtain ⟨hl2, hm⟩ := insL_mem hV
  have hA := active_ok hm
  have hAl := activeL_len (l := l)
  have hact := active_pure l (by omega)
  generalize activeL l = A at *
  have hr2 : ([0, 1] : List Nat) = List.range 2 := rfl
  obtain ⟨S, hS⟩ : ∃ S, sweepL A = S := ⟨_, rfl⟩
  ((try simp -implicitDefEqProofs [-loopQ_n, hV, ins_reify]) <;> (repeat' (first | ((first | refine condD_dec ?_ ?_ | refine guardD_dec ?_ ?_) <;> (intro hc; (try simp -implicitDefEqProofs [-loopQ_n, hc, hV, ins_reify]))) | ((first | refine condD_intro ?_ ?_ | refine guardD_intro ?_ ?_) <;> (intro hd; have hc := hd; (try simp at hc) <;> (try simp -implicitDefEqProofs [-loopQ_n, hd, hc, hV, ins_reify]))) | ((first | (refine ldD_ep ?_ ?_; (focus kernel_rfl)) | (refine callS_mk ?_; (try simp -implicitDefEqProofs [-loopQ_n, hV, ins_reify]); (first | refine callS_intro (svalid_pure l hl) (.inl rfl) ?_ | refine callS_intro (hact) (.inr ⟨rfl, rfl⟩) ?_))); (try simp -implicitDefEqProofs [-loopQ_n, hV, ins_reify])))))
  refine loop_intro (σ := Nat × List Chg) (fun x => ⟨[(5, .os 0 x.2.length), (17, .rs (rowsOf spC A)), (18, .int .i64 A.length), (19, .int .i64 x.1)], [.row 83 true (rowsOf chC x.2)]⟩)
    (fun x => x.1 ≤ A.length ∧ x.2.length = 2 * x.1 ∧ x.2 ++ sweepL (A.drop x.1) = S) (fun x => A.length - x.1) (0, []) ⟨by simp, by simp, by simpa using hS⟩ ?_ ?_
  · refine weak_of 0 1 rfl rfl ?_ ?_ <;> simp [sp_refs, rowsOf_nil]
  rintro ⟨i, acc⟩ ⟨hi, hal, hR⟩
  simp only at hi hal hR
  by_cases h : i < A.length
  · have w1 := w_succ' h (by omega)
    obtain ⟨⟨f, t⟩, hf⟩ : ∃ e, A[i] = e := ⟨_, rfl⟩
    rw [List.drop_eq_getElem_cons h, hf, sweepL, List.flatMap_cons] at hR
    have hl1 : acc.length + 2 ≤ 1073741824 := by omega
    ((try simp -implicitDefEqProofs [-loopQ_n, h, hf, spC, w1, hl1, ch_snoc]) <;> (repeat' (first | ((first | refine condD_dec ?_ ?_ | refine guardD_dec ?_ ?_) <;> (intro hc; (try simp -implicitDefEqProofs [-loopQ_n, hc, h, hf, spC, w1, hl1, ch_snoc]))) | ((first | refine condD_intro ?_ ?_ | refine guardD_intro ?_ ?_) <;> (intro hd; have hc := hd; (try simp at hc) <;> (try simp -implicitDefEqProofs [-loopQ_n, hd, hc, h, hf, spC, w1, hl1, ch_snoc]))) | (refine ldD_ep ?_ ?_; (focus kernel_rfl); (try simp -implicitDefEqProofs [-loopQ_n, h, hf, spC, w1, hl1, ch_snoc])))))
    refine loop_next (i + 1, acc ++ [⟨f, 1⟩, ⟨t, -1⟩]) ⟨h, by simp; omega, by rw [← hR]; simp [sweepL]⟩ (by simp only; omega) (weak_of 1 0 rfl rfl ?_ ?_) <;> simp [sp_refs, ch_refs, w1]
  have hi : i = A.length := by omega
  rw [List.drop_eq_nil_of_le (by omega)] at hR
  have hR : acc = S := by simpa [sweepL] using hR
  rw [← hS] at hR
  clear hS
  have hms := mostL_ok A
  have hdir : ∀ l' : List Chg, l'.Perm (sweepL A) → l'.Pairwise (fun a b => leC a b) → l'.length = acc.length ∧ (∀ c ∈ l', c.by_ = 1 ∨ c.by_ = -1) ∧ (l'.foldl scanM (0, 0, 0)).2 = mostL A := fun l' hp hs => by
    refine ⟨by rw [hp.length_eq, hR], fun c hc => sweep_by (hp.mem_iff.1 hc), ?_⟩
    obtain ⟨e1, e2⟩ := most_uniq (sweep_most (fun s hs => (hA s hs).2.1) hp hs) hms
    exact Prod.ext e1 e2
  have hslen : acc.length = 2 * A.length := by rw [hR, sweep_len]
  by_cases h0 : acc = []
  · subst h0
    have hA0 : A = [] := by cases A with | nil => rfl | cons s r => simp at hslen
    subst hA0
    have hm0 : mostL [] = (0, 0) := rfl
    rw [hm0]
    have hi0 : i = 0 := hi
    subst hi0
    ((try simp -implicitDefEqProofs [-loopQ_n, rowsOf_nil]) <;> (repeat' (first | ((first | refine condD_dec ?_ ?_ | refine guardD_dec ?_ ?_) <;> (intro hc; (try simp -implicitDefEqProofs [-loopQ_n, hc, rowsOf_nil]))) | ((first | refine condD_intro ?_ ?_ | refine guardD_intro ?_ ?_) <;> (intro hd; have hc := hd; (try simp at hc) <;> (try simp -implicitDefEqProofs [-loopQ_n, hd, hc, rowsOf_nil]))) | ((first | (refine ldD_ep ?_ ?_; (focus kernel_rfl)) | (refine callS_mk ?_; (try simp -implicitDefEqProofs [-loopQ_n, rowsOf_nil]); (first | refine callS_intro (sortC_nil) (.inl rfl) ?_))); (try simp -implicitDefEqProofs [-loopQ_n, rowsOf_nil])))))
    refine loop_intro (σ := Unit) (fun _ => ⟨[(8, .int .i64 0), (9, .int .i64 0), (10, .int .i64 0), (35, .os 0 0), (36, .int .i64 0), (37, .int .i64 0)], [.row 83 true []]⟩) (fun _ => True) (fun _ => 0) () trivial ?_ ?_
    · refine weak_of 1 0 rfl rfl ?_ ?_ <;> simp
    rintro _ _
    ((try simp -implicitDefEqProofs [-loopQ_n, mostO]) <;> (repeat' (first | ((first | refine condD_dec ?_ ?_ | refine guardD_dec ?_ ?_) <;> (intro hc; (try simp -implicitDefEqProofs [-loopQ_n, hc, mostO]))) | ((first | refine condD_intro ?_ ?_ | refine guardD_intro ?_ ?_) <;> (intro hd; have hc := hd; (try simp at hc) <;> (try simp -implicitDefEqProofs [-loopQ_n, hd, hc, mostO]))) | (refine ldD_ep ?_ ?_; (focus kernel_rfl); (try simp -implicitDefEqProofs [-loopQ_n, mostO])))))
  · rw [← hR] at hdir
    ((try simp -implicitDefEqProofs [-loopQ_n, h]) <;> (repeat' (first | ((first | refine condD_dec ?_ ?_ | refine guardD_dec ?_ ?_) <;> (intro hc; (try simp -implicitDefEqProofs [-loopQ_n, hc, h]))) | ((first | refine condD_intro ?_ ?_ | refine guardD_intro ?_ ?_) <;> (intro hd; have hc := hd; (try simp at hc) <;> (try simp -implicitDefEqProofs [-loopQ_n, hd, hc, h]))) | (refine ldD_ep ?_ ?_; (focus kernel_rfl); (try simp -implicitDefEqProofs [-loopQ_n, h])))))
    refine callG_intro (sortC_G (nb := true) (l := acc) (by simp) (by simp) h0 (by omega) fun l' hp hs => ?_)
    obtain ⟨d1, d2, d3⟩ := hdir l' hp hs
    clear hdir hp hs
    generalize mostL A = M at *
    obtain ⟨N, hN⟩ : ∃ N, acc.length = N := ⟨_, rfl⟩
    rw [hN] at d1 hslen ⊢
    ((try simp -implicitDefEqProofs [-loopQ_n, d1]) <;> (repeat' (first | ((first | refine condD_dec ?_ ?_ | refine guardD_dec ?_ ?_) <;> (intro hc; (try simp -implicitDefEqProofs [-loopQ_n, hc, d1]))) | ((first | refine condD_intro ?_ ?_ | refine guardD_intro ?_ ?_) <;> (intro hd; have hc := hd; (try simp at hc) <;> (try simp -implicitDefEqProofs [-loopQ_n, hd, hc, d1]))) | (refine ldD_ep ?_ ?_; (focus kernel_rfl); (try simp -implicitDefEqProofs [-loopQ_n, d1])))))
    refine loop_intro (σ := Nat × Int × Int × Int) (fun x => ⟨[(8, .int .i64 x.2.1), (9, .int .i64 x.2.2.1), (10, .int .i64 x.2.2.2), (35, .os 0 N), (36, .int .i64 N), (37, .int .i64 x.1)], [.row 83 true (rowsOf chC l')]⟩)
      (fun x => x.1 ≤ N ∧ -(x.1 : Int) ≤ x.2.1 ∧ x.2.1 ≤ x.1 ∧ ((l'.drop x.1).foldl scanM x.2).2 = M) (fun x => N - x.1) (0, 0, 0, 0) ⟨by simp, by simp, by simp, by simpa using d3⟩ ?_ ?_
    · refine weak_of 1 0 rfl rfl ?_ ?_ <;> simp [ch_refs]
    rintro ⟨i, s, m, t⟩ ⟨hi, hs1, hs2, hR⟩
    simp only at hi hs1 hs2 hR
    by_cases h : i < N
    · have h2 : i < l'.length := by omega
      have w1 := w_succ' h (by omega)
      have hby := d2 _ (List.getElem_mem h2)
      obtain ⟨⟨f, b⟩, hf⟩ : ∃ e, l'[i] = e := ⟨_, rfl⟩
      rw [hf] at hby
      simp only at hby
      have w2 : wrapI .i64 (s + b) = s + b := wrap_in (by omega) (by omega)
      rw [List.drop_eq_getElem_cons h2, hf, List.foldl_cons] at hR
      by_cases c1 : m < s + b
      · have hsc : scanM (s, m, t) ⟨f, b⟩ = (s + b, s + b, f) := by simp [scanM, c1]
        rw [hsc] at hR
        ((try simp -implicitDefEqProofs [-loopQ_n, h, h2, hf, chC, d1, w1, w2, c1]) <;> (repeat' (first | ((first | refine condD_dec ?_ ?_ | refine guardD_dec ?_ ?_) <;> (intro hc; (try simp -implicitDefEqProofs [-loopQ_n, hc, h, h2, hf, chC, d1, w1, w2, c1]))) | ((first | refine condD_intro ?_ ?_ | refine guardD_intro ?_ ?_) <;> (intro hd; have hc := hd; (try simp at hc) <;> (try simp -implicitDefEqProofs [-loopQ_n, hd, hc, h, h2, hf, chC, d1, w1, w2, c1]))) | (refine ldD_ep ?_ ?_; (focus kernel_rfl); (try simp -implicitDefEqProofs [-loopQ_n, h, h2, hf, chC, d1, w1, w2, c1])))))
        refine loop_next (i + 1, s + b, s + b, f) ⟨h, by simp only; omega, by simp only; omega, hR⟩ (by simp only; omega) (weak_of 1 0 rfl rfl ?_ ?_) <;> simp [ch_refs, w1, w2]
      · have hsc : scanM (s, m, t) ⟨f, b⟩ = (s + b, m, t) := by simp [scanM, c1]
        rw [hsc] at hR
        ((try simp -implicitDefEqProofs [-loopQ_n, h, h2, hf, chC, d1, w1, w2, c1]) <;> (repeat' (first | ((first | refine condD_dec ?_ ?_ | refine guardD_dec ?_ ?_) <;> (intro hc; (try simp -implicitDefEqProofs [-loopQ_n, hc, h, h2, hf, chC, d1, w1, w2, c1]))) | ((first | refine condD_intro ?_ ?_ | refine guardD_intro ?_ ?_) <;> (intro hd; have hc := hd; (try simp at hc) <;> (try simp -implicitDefEqProofs [-loopQ_n, hd, hc, h, h2, hf, chC, d1, w1, w2, c1]))) | (refine ldD_ep ?_ ?_; (focus kernel_rfl); (try simp -implicitDefEqProofs [-loopQ_n, h, h2, hf, chC, d1, w1, w2, c1])))))
        refine loop_next (i + 1, s + b, m, t) ⟨h, by simp only; omega, by simp only; omega, hR⟩ (by simp only; omega) (weak_of 1 0 rfl rfl ?_ ?_) <;> simp [ch_refs, w1, w2]
    · rw [List.drop_eq_nil_of_le (by omega), List.foldl_nil] at hR
      simp only at hR
      subst hR
      ((try simp -implicitDefEqProofs [-loopQ_n, h, mostO]) <;> (repeat' (first | ((first | refine condD_dec ?_ ?_ | refine guardD_dec ?_ ?_) <;> (intro hc; (try simp -implicitDefEqProofs [-loopQ_n, hc, h, mostO]))) | ((first | refine condD_intro ?_ ?_ | refine guardD_intro ?_ ?_) <;> (intro hd; have hc := hd; (try simp at hc) <;> (try simp -implicitDefEqProofs [-loopQ_n, hd, hc, h, mostO]))) | (refine ldD_ep ?_ ?_; (focus kernel_rfl); (try simp -implicitDefEqProofs [-loopQ_n, h, mostO])))))
end Go.Proofs.YthiclaihlpkinaaGreat
