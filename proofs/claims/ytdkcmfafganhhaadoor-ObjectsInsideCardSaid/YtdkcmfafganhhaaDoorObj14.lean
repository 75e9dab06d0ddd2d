/- Which events are connected: the sets that are united. -/
import Derived.Test.YtdkcmfafganhhaaDoorObj13
import Derived.Test.YtdkcmfafganhhaaDoorGr
namespace Go.Proofs.YtdkcmfafganhhaaDoor
set_option linter.unusedSimpArgs false
set_option linter.unusedVariables false
set_option linter.unnecessarySimpa false
set_option linter.unusedSectionVars false
open Go.RowKit
variable [Glob]
set_option maxRecDepth 100000
def natC (x : Nat) : List AV := [.int .i64 x]
theorem natC_set {u : List Nat} {i v : Nat} : (rowsOf natC u).set i [.int .i64 v] = rowsOf natC (u.set i v) := by simp [rowsOf, natC, List.map_set]
theorem par_get {u : List Nat} {i : Nat} (h : i < u.length) : par u i = u[i] := by simp [par, h]
theorem natC_refsR {m : Nat} {l : List Nat} : refsR m (rowsOf natC l) = true := rowsOf_refs fun x => by simp [natC, refs]
theorem natC_mL {ρ : Nat → Nat} {l : List Nat} : (rowsOf natC l).map (mL ρ) = rowsOf natC l := by
  simp only [rowsOf, List.map_map]
  congr 1
theorem natC_mB {ρ : Nat → Nat} {e : Nat} {nb : Bool} {l : List Nat} : mB ρ (.row e nb (rowsOf natC l)) = .row e nb (rowsOf natC l) := by simp only [mB, natC_mL]
set_option maxHeartbeats 8000000 in
theorem find_G (u : List Nat) (i : Nat) (hg : goodU u) (hi : i < u.length) (hl : u.length ≤ 2000) :
    CallG Tryd.prog 52 [.os 0 u.length, .int .i64 i] [.row 3 false (rowsOf natC u)] fun r H => r = .int .i64 (root u i) ∧ ∃ u' : List Nat, H = [.row 3 false (rowsOf natC u')] ∧ u'.length = u.length ∧ goodU u' ∧ ∀ x, root u' x = root u x := by
  refine inl_G mixed Tryd.func52 rfl (by kernel_rfl) (of_decide_eq_true rfl) (by kernel_rfl) (vc_run ?_)
  ((try simp -implicitDefEqProofs [-loopQ_n]) <;> (repeat' (first | (refine condD_dec ?_ ?_ <;> (intro hc; (try simp -implicitDefEqProofs [-loopQ_n, hc]))) | (refine guardD_dec ?_ ?_ <;> (intro hc; (try simp -implicitDefEqProofs [-loopQ_n, hc]))) | (refine condD_intro ?_ ?_ <;> (intro hd; have hc := hd; (try simp at hc) <;> (try simp -implicitDefEqProofs [-loopQ_n, hd, hc]))) | (refine guardD_intro ?_ ?_ <;> (intro hd; have hc := hd; (try simp at hc) <;> (try simp -implicitDefEqProofs [-loopQ_n, hd, hc]))) | (refine ldD_ep ?_ ?_; (focus kernel_rfl); (try simp -implicitDefEqProofs [-loopQ_n])))))
  refine loop_intro (σ := Nat × List Nat) (fun x => ⟨[(0, .os 0 x.2.length), (1, .int .i64 x.1)], [.row 3 false (rowsOf natC x.2)]⟩)
    (fun x => x.1 < u.length ∧ x.2.length = u.length ∧ goodU x.2 ∧ (∀ y, root x.2 y = root u y) ∧ root u x.1 = root u i) (fun x => x.1) (i, u) ⟨hi, rfl, hg, fun _ => rfl, rfl⟩ ?_ ?_
  · refine weak_ofL 1 0 rfl (by simp) rfl ?_ ?_ <;> simp [natC_refsR]
  · rintro ⟨j, v⟩ ⟨hj, hlv, hgv, hrv, hrj⟩
    simp only at hj hlv hgv hrv hrj
    have h1 : j < v.length := by omega
    have p1 := hgv j
    obtain ⟨a, ha⟩ : ∃ a, par v j = a := ⟨_, rfl⟩
    have ha2 := ha
    rw [par_get h1] at ha2
    rw [ha] at p1
    have h2 : a < v.length := by omega
    have p2 := hgv a
    obtain ⟨b, hb⟩ : ∃ b, par v a = b := ⟨_, rfl⟩
    have hb2 := hb
    rw [par_get h2] at hb2
    rw [hb] at p2
    have hh := halve hgv h1
    rw [ha, hb] at hh
    ((try simp -implicitDefEqProofs [-loopQ_n, h1, ha2, h2, hb2, natC]) <;> (repeat' (first | (refine condD_dec ?_ ?_ <;> (intro hc; (try simp -implicitDefEqProofs [-loopQ_n, hc, h1, ha2, h2, hb2, natC]))) | (refine guardD_dec ?_ ?_ <;> (intro hc; (try simp -implicitDefEqProofs [-loopQ_n, hc, h1, ha2, h2, hb2, natC]))) | (refine condD_intro ?_ ?_ <;> (intro hd; have hc := hd; (try simp at hc) <;> (try simp -implicitDefEqProofs [-loopQ_n, hd, hc, h1, ha2, h2, hb2, natC]))) | (refine guardD_intro ?_ ?_ <;> (intro hd; have hc := hd; (try simp at hc) <;> (try simp -implicitDefEqProofs [-loopQ_n, hd, hc, h1, ha2, h2, hb2, natC]))) | (refine ldD_ep ?_ ?_; (focus kernel_rfl); (try simp -implicitDefEqProofs [-loopQ_n, h1, ha2, h2, hb2, natC])))))
    · have haj : a = j := by omega
      refine endG_r (.int .i64 j) rfl ⟨?_, v, rfl, hlv, hgv, hrv⟩
      have : root v j = j := by rw [root_eq hgv, if_pos (by rw [ha, haj])]
      rw [← hrj, ← hrv, this]
    · have haj : ¬ a = j := by omega
      have q1 : root v b = root v a := by rw [← hb]; exact root_par hgv a
      have q2 : root v a = root v j := by rw [← ha]; exact root_par hgv j
      refine loop_next (b, v.set j b) ⟨by simp only; omega, by simpa using hlv, hh.1, fun y => by rw [hh.2, hrv], by simp only; rw [← hrv, q1, q2, hrv, hrj]⟩ (by simp only; omega) (weak_ofL 1 0 rfl (by simp) rfl ?_ ?_) <;> simp [natC_set, natC_refsR]
set_option maxHeartbeats 8000000 in
theorem unite_G (u : List Nat) (i j : Nat) (hg : goodU u) (hi : i < u.length) (hj : j < u.length) (hl : u.length ≤ 2000) :
    CallG Tryd.prog 51 [.os 0 u.length, .int .i64 i, .int .i64 j] [.row 3 false (rowsOf natC u)] fun r H => r = .tup [] ∧ ∃ u' : List Nat, H = [.row 3 false (rowsOf natC u')] ∧ u'.length = u.length ∧ goodU u' ∧
      ∀ x, root u' x = if root u x = max (root u i) (root u j) then min (root u i) (root u j) else root u x := by
  refine inl_G mixed Tryd.func51 rfl (by kernel_rfl) (of_decide_eq_true rfl) (by kernel_rfl) (vc_run ?_)
  ((try simp -implicitDefEqProofs [-loopQ_n]) <;> (repeat' (first | (refine condD_dec ?_ ?_ <;> (intro hc; (try simp -implicitDefEqProofs [-loopQ_n, hc]))) | (refine guardD_dec ?_ ?_ <;> (intro hc; (try simp -implicitDefEqProofs [-loopQ_n, hc]))) | (refine condD_intro ?_ ?_ <;> (intro hd; have hc := hd; (try simp at hc) <;> (try simp -implicitDefEqProofs [-loopQ_n, hd, hc]))) | (refine guardD_intro ?_ ?_ <;> (intro hd; have hc := hd; (try simp at hc) <;> (try simp -implicitDefEqProofs [-loopQ_n, hd, hc]))) | (refine ldD_ep ?_ ?_; (focus kernel_rfl); (try simp -implicitDefEqProofs [-loopQ_n])))))
  refine callG_intro ((find_G u i hg hi hl).weaken ?_)
  rintro _ _ ⟨rfl, v, rfl, hlv, hgv, hrv⟩
  rw [← hlv]
  ((try simp -implicitDefEqProofs [-loopQ_n]) <;> (repeat' (first | (refine condD_dec ?_ ?_ <;> (intro hc; (try simp -implicitDefEqProofs [-loopQ_n, hc]))) | (refine guardD_dec ?_ ?_ <;> (intro hc; (try simp -implicitDefEqProofs [-loopQ_n, hc]))) | (refine condD_intro ?_ ?_ <;> (intro hd; have hc := hd; (try simp at hc) <;> (try simp -implicitDefEqProofs [-loopQ_n, hd, hc]))) | (refine guardD_intro ?_ ?_ <;> (intro hd; have hc := hd; (try simp at hc) <;> (try simp -implicitDefEqProofs [-loopQ_n, hd, hc]))) | (refine ldD_ep ?_ ?_; (focus kernel_rfl); (try simp -implicitDefEqProofs [-loopQ_n])))))
  refine callG_intro ((find_G v j hgv (by omega) (by omega)).weaken ?_)
  rintro _ _ ⟨rfl, x, rfl, hlx, hgx, hrx⟩
  rw [← hlx]
  have r1 : root u i ≤ i := root_le hg i
  have r2 : root u j ≤ j := root_le hg j
  rw [hrv]
  have hrx : ∀ y, root x y = root u y := fun y => by rw [hrx, hrv]
  have f1 : par x (root u i) = root u i := by have := root_fix hgx i; rwa [hrx] at this
  have f2 : par x (root u j) = root u j := by have := root_fix hgx j; rwa [hrx] at this
  generalize root u i = a at *
  generalize root u j = b at *
  by_cases hab : a ≤ b
  · have hab' : (if a < b then (b : Int) else a) = b := by split <;> omega
    have hab2 : ¬ (b : Int) < a := by omega
    have hab3 : ¬ b < a := by omega
    have hb : b < x.length := by omega
    obtain ⟨u1, u2⟩ := unite hgx hab f1 f2 hb
    ((try simp -implicitDefEqProofs [-loopQ_n, hab', hab2, hab3, hb, natC, natC_set]) <;> (repeat' (first | (refine condD_dec ?_ ?_ <;> (intro hc; (try simp -implicitDefEqProofs [-loopQ_n, hc, hab', hab2, hab3, hb, natC, natC_set]))) | (refine guardD_dec ?_ ?_ <;> (intro hc; (try simp -implicitDefEqProofs [-loopQ_n, hc, hab', hab2, hab3, hb, natC, natC_set]))) | (refine condD_intro ?_ ?_ <;> (intro hd; have hc := hd; (try simp at hc) <;> (try simp -implicitDefEqProofs [-loopQ_n, hd, hc, hab', hab2, hab3, hb, natC, natC_set]))) | (refine guardD_intro ?_ ?_ <;> (intro hd; have hc := hd; (try simp at hc) <;> (try simp -implicitDefEqProofs [-loopQ_n, hd, hc, hab', hab2, hab3, hb, natC, natC_set]))) | (refine ldD_ep ?_ ?_; (focus kernel_rfl); (try simp -implicitDefEqProofs [-loopQ_n, hab', hab2, hab3, hb, natC, natC_set])))))
    refine endG_n (.tup []) rfl ⟨rfl, x.set b a, rfl, by simp, u1, fun y => ?_⟩
    rw [u2, hrx, show max a b = b by omega, show min a b = a by omega]
  · have hab' : ¬ a < b := by omega
    have hab2 : (b : Int) < a := by omega
    have hab3 : b < a := by omega
    have hb : a < x.length := by omega
    obtain ⟨u1, u2⟩ := unite hgx (show b ≤ a by omega) f2 f1 hb
    ((try simp -implicitDefEqProofs [-loopQ_n, hab', hab2, hab3, hb, natC, natC_set]) <;> (repeat' (first | (refine condD_dec ?_ ?_ <;> (intro hc; (try simp -implicitDefEqProofs [-loopQ_n, hc, hab', hab2, hab3, hb, natC, natC_set]))) | (refine guardD_dec ?_ ?_ <;> (intro hc; (try simp -implicitDefEqProofs [-loopQ_n, hc, hab', hab2, hab3, hb, natC, natC_set]))) | (refine condD_intro ?_ ?_ <;> (intro hd; have hc := hd; (try simp at hc) <;> (try simp -implicitDefEqProofs [-loopQ_n, hd, hc, hab', hab2, hab3, hb, natC, natC_set]))) | (refine guardD_intro ?_ ?_ <;> (intro hd; have hc := hd; (try simp at hc) <;> (try simp -implicitDefEqProofs [-loopQ_n, hd, hc, hab', hab2, hab3, hb, natC, natC_set]))) | (refine ldD_ep ?_ ?_; (focus kernel_rfl); (try simp -implicitDefEqProofs [-loopQ_n, hab', hab2, hab3, hb, natC, natC_set])))))
    refine endG_n (.tup []) rfl ⟨rfl, x.set a b, rfl, by simp, u1, fun y => ?_⟩
    rw [u2, hrx, show max a b = a by omega, show min a b = b by omega]
end Go.Proofs.YtdkcmfafganhhaaDoor
