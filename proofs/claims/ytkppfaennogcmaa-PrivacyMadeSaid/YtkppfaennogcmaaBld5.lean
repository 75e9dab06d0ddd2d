/- strings.Builder: calls of WriteByte, WriteString, String and Grow where they stand. -/
import Derived.Test.YtkppfaennogcmaaBld4
namespace Go.Proofs.Ytkppfaennogcmaa
set_option linter.unusedSimpArgs false
set_option linter.unusedVariables false
set_option linter.unnecessarySimpa false
set_option linter.unusedSectionVars false
open Go.RowKit
variable [Glob]
set_option maxRecDepth 100000
section
variable {L : Nat} {k : List Item} {s : St} {Q : Ex → St → Prop} {dst : Option Nat} {all rest : List Oper}
theorem bR_mL {ρ : Nat → Nat} {l : List UInt8} : (bR l).map (mL ρ) = bR l := by
  simp only [bR, rowsOf, List.map_map]
  congr 1
theorem two_box {l : List Nat} {H : List Blk} {id j : Nat} (hl : l = [id, j]) : rn l H.length 0 = id ∧ rn l H.length 1 = j := by subst hl; exact ⟨rfl, rfl⟩
theorem ws_call {b : ByteArray} {id j n : Nat} {nb : Bool} {l : List UInt8} (hb : s.H[id]? = some (.box bT [.op id 0, .os j n])) (hj : s.H[j]? = some (.row 5 nb (bR l))) (hn : l.length = n) (hl : n + b.size ≤ 1073741824)
    (h3 : run Try.prog L (.ops false all rest :: k) ⟨tputD s.T dst (.tup [.int .i64 b.size, .any]), (s.H.set id (.box bT [.op id 0, .os j (n + b.size)])).set j (.row 5 nb (bR (l ++ b.data.toList)))⟩ Q) : callD Try.prog L (.fn 108 []) [.op id 0, .str b] dst false all rest k s Q := by
  subst hn
  have hne : id ≠ j := fun e => by subst e; rw [hb] at hj; simp at hj
  have h1 := (List.getElem?_eq_some_iff.1 hb).1
  have h2 := (List.getElem?_eq_some_iff.1 hj).1
  obtain ⟨r0, r1⟩ := two_box (l := [id, j]) (H := s.H) rfl
  refine foot_intro (ws_more b nb l hl) [id, j] rfl (by simp [hne]) (by simp [h1, h2]) ?_ ?_ ?_
  · simp [hb, hj, mB, mL, mA, r0, r1, bR_mL]
  · simp [mL, mA, r0]
  · simpa [putB, mB, mL, mA, r0, r1, bR_mL] using h3
theorem grow_call {m : Int} {n : Nat} {id : Nat} (hm : m = (n : Int)) (h0 : 0 < n) (hn : n ≤ 1073741824) (hb : s.H[id]? = some (.box bT [.nilp, .nils]))
    (h3 : run Try.prog L (.ops false all rest :: k) ⟨tputD s.T dst (.tup []), s.H.set id (.box bT [.op id 0, .os s.H.length 0]) ++ [.row 5 false (bR [])]⟩ Q) : callD Try.prog L (.fn 107 []) [.op id 0, .int .i64 m] dst false all rest k s Q := by
  subst hm
  have h1 := (List.getElem?_eq_some_iff.1 hb).1
  have r0 : rn [id] s.H.length 0 = id := rfl
  have r1 : rn [id] s.H.length 1 = s.H.length := by unfold rn; simp
  refine foot_intro (grow_G h0 hn) [id] rfl (by simp) (by simp [h1]) ?_ ?_ ?_
  · simp [hb, mB, mL, mA]
  · simp [mL, mA, r0]
  · simpa [putB, mB, mL, mA, r0, r1, bR_mL] using h3
theorem str_call {id j n : Nat} {p : AV} {nb : Bool} {l : List UInt8} (hb : s.H[id]? = some (.box bT [p, .os j n])) (hj : s.H[j]? = some (.row 5 nb (bR l))) (hn : l.length = n) (h0 : l ≠ [])
    (h3 : run Try.prog L (.ops false all rest :: k) ⟨tputD s.T dst (.str ⟨l.toArray⟩), s.H.set j .gone⟩ Q) : callD Try.prog L (.fn 109 []) [.op id 0] dst false all rest k s Q :=
  callG_intro (str_G (e := 0) hb hj hn h0 h3)
theorem str_call0 {id : Nat} {p : AV} (hb : s.H[id]? = some (.box bT [p, .nils])) (h3 : run Try.prog L (.ops false all rest :: k) ⟨tputD s.T dst (.str ⟨#[]⟩), s.H⟩ Q) : callD Try.prog L (.fn 109 []) [.op id 0] dst false all rest k s Q :=
  callG_intro (strn_G hb h3)
end
end Go.Proofs.Ytkppfaennogcmaa
