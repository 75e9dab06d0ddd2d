/- Several texts of the abstract machine, one behind the other. -/
import Derived.Test.YthiclaihlpkinaaGreatTy
import Derived.Test.YthiclaihlpkinaaGreatM3
import Derived.Test.YthiclaihlpkinaaGreatAbBase
import Derived.Test.YthiclaihlpkinaaGreatLib
import Derived.Test.YthiclaihlpkinaaGreatM4
set_option linter.unusedSimpArgs false
set_option linter.unusedVariables false
set_option linter.unnecessarySimpa false
set_option linter.unusedSectionVars false
set_option maxRecDepth 100000
namespace Go.Proofs.YthiclaihlpkinaaGreat
open Go.RowKit
variable [Glob]
def letterC (c : UInt8) : Bool := (decide ((65 : Int) ≤ c.toNat) && decide ((c.toNat : Int) ≤ 90)) || (decide ((97 : Int) ≤ c.toNat) && decide ((c.toNat : Int) ≤ 122))
def partC (c : UInt8) : Bool := letterC c || ((decide ((48 : Int) ≤ c.toNat) && decide ((c.toNat : Int) ≤ 57)) || decide ((c.toNat : Int) = 95) || decide ((c.toNat : Int) = 45) || decide ((c.toNat : Int) = 46))
abbrev byteV (c : UInt8) : AV := .int .u8 c.toNat
theorem letter_pure (c : UInt8) : Pure Tryz.prog 105 [byteV c] (.bool (letterC c)) := by
  refine pure_of mixed Tryz.func105 rfl (by kernel_rfl) (of_decide_eq_true rfl) (by kernel_rfl) (vc_run ?_)
  by_cases h1 : (65 : Int) ≤ c.toNat <;> by_cases h2 : (c.toNat : Int) ≤ 90 <;> by_cases h3 : (97 : Int) ≤ c.toNat <;> by_cases h4 : (c.toNat : Int) ≤ 122 <;> simp -implicitDefEqProofs [h1, h2, h3, h4, letterC] <;> omega
theorem part_pure (c : UInt8) : Pure Tryz.prog 106 [byteV c] (.bool (partC c)) := by
  refine pure_of mixed Tryz.func106 rfl (by kernel_rfl) (of_decide_eq_true rfl) (by kernel_rfl) (vc_run ?_)
  ((try simp -implicitDefEqProofs [-loopQ_n]) <;> (repeat' (first | ((first | refine condD_dec ?_ ?_ | refine guardD_dec ?_ ?_) <;> (intro hc; (try simp -implicitDefEqProofs [-loopQ_n, hc]))) | ((first | refine condD_intro ?_ ?_ | refine guardD_intro ?_ ?_) <;> (intro hd; have hc := hd; (try simp at hc) <;> (try simp -implicitDefEqProofs [-loopQ_n, hd, hc]))) | ((first | (refine ldD_ep ?_ ?_; (focus kernel_rfl)) | (refine callS_mk ?_; (try simp -implicitDefEqProofs [-loopQ_n]); (first | refine callS_intro (letter_pure c) (.inl rfl) ?_))); (try simp -implicitDefEqProofs [-loopQ_n])))))
  all_goals (first | omega | (rw [Bool.eq_iff_iff]; simp_all [partC]; done) | (rw [Bool.eq_iff_iff]; simp_all [partC]; omega) | (simp_all [partC]; done) | (simp_all [partC]; omega))
end Go.Proofs.YthiclaihlpkinaaGreat
namespace Go.Proofs.YthiclaihlpkinaaGreat
open Go.RowKit
variable [Glob]
theorem byte_at {s : ByteArray} {i : Nat} (h : i < s.size) : s.data[i]? = some (s.data[i]'h) := Array.getElem?_eq_getElem h
/-- The bytes before a place all meet the test. -/
def uptoB (p : UInt8 → Bool) (s : ByteArray) (i : Nat) : Prop := ∀ j (h : j < s.size), j < i → p (s.data[j]'h) = true
theorem uptoB_zero (p : UInt8 → Bool) (s : ByteArray) : uptoB p s 0 := fun _ _ h => by omega
theorem uptoB_succ {p : UInt8 → Bool} {s : ByteArray} {i : Nat} (h : uptoB p s i) (hi : i < s.size) (hp : p (s.data[i]'hi) = true) : uptoB p s (i + 1) := fun j hj hlt => by
  by_cases e : j = i
  · subst e; exact hp
  · exact h j hj (by omega)
theorem uptoB_all {p : UInt8 → Bool} {s : ByteArray} {i : Nat} (h : uptoB p s i) (hi : ¬ i < s.size) : s.data.toList.all p = true := by
  simp only [List.all_eq_true]
  intro x hx
  obtain ⟨j, hj, rfl⟩ := List.getElem_of_mem hx
  have hj' : j < s.size := by simpa using hj
  simpa using h j hj' (by omega)
theorem uptoB_not {p : UInt8 → Bool} {s : ByteArray} {i : Nat} (hi : i < s.size) (hp : p (s.data[i]'hi) = false) : s.data.toList.all p = false := by
  simp only [List.all_eq_false]
  exact ⟨s.data[i]'hi, by simp, by simp [hp]⟩
def isNameS (s : ByteArray) : Bool := decide (1 ≤ s.size ∧ s.size ≤ 40) && letterC (s.data[0]?.getD 0) && s.data.toList.all partC
theorem isName_pure (s : ByteArray) : Pure Tryz.prog 78 [.str s] (.bool (isNameS s)) := by
  refine pure_of mixed Tryz.func78 rfl (by kernel_rfl) (of_decide_eq_true rfl) (by kernel_rfl) (vc_run ?_)
  by_cases h1 : (s.size : Int) < 1
  · simp -implicitDefEqProofs [h1, isNameS]
    omega
  by_cases h2 : (40 : Int) < s.size
  · simp -implicitDefEqProofs [h1, h2, isNameS]
    omega
  have h0 : 0 < s.size := by omega
  simp -implicitDefEqProofs [h1, h2, byte_at h0]
  refine call_intro (letter_pure (s.data[0]'h0)) (by simp -implicitDefEqProofs) (.inl rfl) ?_
  by_cases h3 : letterC (s.data[0]'h0) = true
  rotate_left
  · have h3 : letterC (s.data[0]'h0) = false := by simpa using h3
    simp -implicitDefEqProofs [h3, isNameS, byte_at h0]
  simp -implicitDefEqProofs [h3]
  refine loop_intro (σ := Nat) (fun i => ⟨[(0, .str s), (19, .int .i64 s.size), (20, .int .i64 i)], []⟩) (fun i => i ≤ s.size ∧ uptoB partC s i) (fun i => s.size - i) 0 ⟨by omega, uptoB_zero _ _⟩ ?_ ?_
  · refine weak_of 0 0 rfl rfl ?_ ?_ <;> simp
  · rintro i ⟨hi, hp⟩
    by_cases h : i < s.size
    · simp -implicitDefEqProofs [h, byte_at h]
      refine call_intro (part_pure (s.data[i]'h)) (by simp -implicitDefEqProofs) (.inl rfl) ?_
      by_cases h4 : partC (s.data[i]'h) = true
      · simp -implicitDefEqProofs [h4]
        refine ⟨i + 1, ⟨by omega, uptoB_succ hp h h4⟩, by omega, ?_⟩
        refine weak_of 0 0 rfl rfl ?_ ?_ <;> simp
        exact (wrap_in (by omega) (by omega)).symm
      · have h4 : partC (s.data[i]'h) = false := by simpa using h4
        simp -implicitDefEqProofs [h4, isNameS, uptoB_not h h4]
    · simp -implicitDefEqProofs [h, isNameS, byte_at h0, h3, uptoB_all hp h]
      omega
end Go.Proofs.YthiclaihlpkinaaGreat
namespace Go.Proofs.YthiclaihlpkinaaGreat
open Go.RowKit
variable [Glob]
/-- A value. -/
structure Val where
  kind : Int
  n : Int
  s : ByteArray
structure Fld where
  name : ByteArray
  v : Val
def fldC (f : Fld) : List AV := [.str f.name, .int .i64 f.v.kind, .int .i64 f.v.n, .str f.v.s]
structure Evt where
  case_ : ByteArray
  act : ByteArray
  res : ByteArray
  life : Int
  time : Int
  data : List Fld
def evtC (e : Evt) : List AV := [.str e.case_, .str e.act, .str e.res, .int .i64 e.life, .int .i64 e.time, .rs (rowsOf fldC e.data)]
end Go.Proofs.YthiclaihlpkinaaGreat
namespace Go.Proofs.YthiclaihlpkinaaGreat
open Go.RowKit
variable [Glob]
def byteC (c : UInt8) : List AV := [.int .u8 c.toNat]
theorem bytesRows_eq (s : ByteArray) : bytesRows s = rowsOf byteC s.data.toList := rfl
attribute [simp] bytesRows_eq byteC
def printC (c : UInt8) : Bool := !(decide ((c.toNat : Int) < 32) || decide ((126 : Int) < c.toNat))
def printS (s : ByteArray) : Bool := s.data.toList.all printC
def textV (s : ByteArray) : Bool := decide (s.size ≤ 200) && printS s
theorem any_not_print (s : ByteArray) : (s.data.toList.any fun c => !printC c) = !printS s := by simp [printS, List.any_eq_not_all_not]
def numV (n : Int) : Bool := decide (-4503599627370496 ≤ n) && decide (n ≤ 4503599627370496)
def valC (v : Val) : List AV := [.int .i64 v.kind, .int .i64 v.n, .str v.s]
def emptyS (s : ByteArray) : Bool := s.toList == []
def valueV (v : Val) : Bool := if v.kind = 1 then (v.n == 0 || v.n == 1) && emptyS v.s else if v.kind = 2 then numV v.n && emptyS v.s else if v.kind = 3 then v.n == 0 && textV v.s else false
end Go.Proofs.YthiclaihlpkinaaGreat
namespace Go.Proofs.YthiclaihlpkinaaGreat
open Go.RowKit
variable [Glob]
theorem w_succ' {i n : Nat} (h : i < n) (hn : n ≤ 9223372036854775807) : wrapI .i64 ((i : Int) + 1) = ((i + 1 : Nat) : Int) := by rw [wrap_in (by omega) (by omega)]; omega
structure Ins where
  case_ : ByteArray
  act : ByteArray
  res : ByteArray
  ready : Int
  from_ : Int
  to_ : Int
deriving DecidableEq
def insC (x : Ins) : List AV := [.str x.case_, .str x.act, .str x.res, .int .i64 x.ready, .int .i64 x.from_, .int .i64 x.to_]
def insV (x : Ins) : Bool := isNameS x.case_ && isNameS x.act && (emptyS x.res || isNameS x.res) && decide (0 ≤ x.ready) && decide (x.ready ≤ x.from_) && decide (x.from_ ≤ x.to_) && decide (x.to_ ≤ 1099511627776)
def insL (l : List Ins) : Bool := decide ((l.length : Int) ≤ 2000) && !l.any fun x => !insV x
theorem ins_reify {H : List Blk} {n : Nat} {l : List Ins} : (rowsOf insC l).mapM (fun row => row.mapM (reify H (n + 1))) = some (rowsOf insC l) := rowsOf_reify fun x => by simp [insC, reify]
theorem ins_refs {m : Nat} {l : List Ins} : refsR m (rowsOf insC l) = true := rowsOf_refs fun x => by simp [insC, refs]
theorem ins_all {l : List Ins} : allLen 6 (rowsOf insC l) = true := rowsOf_allLen fun x => rfl
theorem insV_bd {x : Ins} (h : insV x = true) : 0 ≤ x.ready ∧ x.ready ≤ x.from_ ∧ x.from_ ≤ x.to_ ∧ x.to_ ≤ 1099511627776 := by
  simp only [insV, Bool.and_eq_true, decide_eq_true_eq] at h
  omega
theorem insL_mem {l : List Ins} (h : insL l = true) : l.length ≤ 2000 ∧ ∀ x ∈ l, insV x = true := by
  simp only [insL, Bool.and_eq_true, decide_eq_true_eq, Bool.not_eq_true', List.any_eq_false, Bool.not_eq_false] at h
  exact ⟨by omega, h.2⟩
theorem svalid1_pure (x : Ins) : Pure Tryz.prog 55 [.agg (insC x)] (.bool (insV x)) := by
  obtain ⟨c, a, r, t1, t2, t3⟩ := x
  refine pure_of mixed Tryz.func55 rfl (by kernel_rfl) (of_decide_eq_true rfl) (by kernel_rfl) (vc_run ?_)
  ((try simp -implicitDefEqProofs [-loopQ_n, insC]) <;> (repeat' (first | ((first | refine condD_dec ?_ ?_ | refine guardD_dec ?_ ?_) <;> (intro hc; (try simp -implicitDefEqProofs [-loopQ_n, hc, insC]))) | ((first | refine condD_intro ?_ ?_ | refine guardD_intro ?_ ?_) <;> (intro hd; have hc := hd; (try simp at hc) <;> (try simp -implicitDefEqProofs [-loopQ_n, hd, hc, insC]))) | ((first | (refine ldD_ep ?_ ?_; (focus kernel_rfl)) | (refine callS_mk ?_; (try simp -implicitDefEqProofs [-loopQ_n, insC]); (first | refine callS_intro (isName_pure _) (.inl rfl) ?_))); (try simp -implicitDefEqProofs [-loopQ_n, insC])))))
  all_goals first | (simp [insV, emptyS, *]; done) | (simp [insV, emptyS, *]; omega)
theorem svalidc_pure (x : Ins) : Pure Tryz.prog 54 [.agg (insC x)] (.bool (!insV x)) := by
  refine pure_of mixed Tryz.func54 rfl (by kernel_rfl) (of_decide_eq_true rfl) (by kernel_rfl) (vc_run ?_)
  ((try simp -implicitDefEqProofs [-loopQ_n, insC]) <;> (repeat' (first | ((first | refine condD_dec ?_ ?_ | refine guardD_dec ?_ ?_) <;> (intro hc; (try simp -implicitDefEqProofs [-loopQ_n, hc, insC]))) | ((first | refine condD_intro ?_ ?_ | refine guardD_intro ?_ ?_) <;> (intro hd; have hc := hd; (try simp at hc) <;> (try simp -implicitDefEqProofs [-loopQ_n, hd, hc, insC]))) | ((first | (refine ldD_ep ?_ ?_; (focus kernel_rfl)) | (refine callS_mk ?_; (try simp -implicitDefEqProofs [-loopQ_n, insC]); (first | refine callS_intro (svalid1_pure x) (.inl rfl) ?_))); (try simp -implicitDefEqProofs [-loopQ_n, insC])))))
theorem ins_idx {p : Ins → Bool} {l : List Ins} {g : Nat} {caps : List AV} (hp : ∀ x ∈ l, Pure Tryz.prog g (.agg (insC x) :: caps) (.bool (p x))) (hc : ∀ H k, caps.mapM (reify H (k + 5)) = some caps) (hf : refsL 0 caps = true) (hl : l.length ≤ 9223372036854775807) :
    Pure Tryz.prog 77 [.rs (rowsOf insC l), .fn g caps] (.int .i64 (idxOf p l)) := by
  refine pure_of mixed Tryz.func77 rfl (by kernel_rfl) (of_decide_eq_true rfl) (by kernel_rfl) (vc_run ?_)
  simp -implicitDefEqProofs
  refine loop_intro (σ := Nat) (fun i => ⟨[(0, .rs (rowsOf insC l)), (1, .fn g caps), (7, .int .i64 l.length), (8, .int .i64 i)], []⟩) (fun i => i ≤ l.length ∧ allF p (l.take i)) (fun i => l.length - i) 0 ⟨Nat.zero_le _, allF_nil⟩ ?_ ?_
  · refine weak_of 0 0 rfl rfl ?_ ?_ <;> simp [hf]
  · rintro i ⟨hi, hall⟩
    by_cases h : i < l.length
    · simp -implicitDefEqProofs [h, insC]
      have hc8 : ∀ H, caps.mapM (reify H 8) = some caps := fun H => hc H 3
      refine call_intro (hp l[i] (by simp)) (by simp -implicitDefEqProofs [hc8, insC]) (.inl rfl) ?_
      by_cases hpx : p l[i] = true
      · simp -implicitDefEqProofs [hpx]
        exact (idxOf_some p l i h hall hpx).symm
      · have hpx : p l[i] = false := by simpa using hpx
        simp -implicitDefEqProofs [hpx]
        refine ⟨i + 1, ⟨by omega, allF_succ hall h hpx⟩, by omega, weak_of 0 0 rfl rfl ?_ ?_⟩
        · simp [hf]
          exact (wrap_in (by omega) (by omega)).symm
        · simp
    · simp -implicitDefEqProofs [h]
      rw [idxOf_none p l (allF_all hall h)]
theorem ins_any {p : Ins → Bool} {l : List Ins} {g : Nat} {caps : List AV} (hp : ∀ x ∈ l, Pure Tryz.prog g (.agg (insC x) :: caps) (.bool (p x))) (hc : ∀ H k, caps.mapM (reify H (k + 5)) = some caps) (hf : refsL 0 caps = true) (hl : l.length ≤ 9223372036854775807) :
    Pure Tryz.prog 53 [.rs (rowsOf insC l), .fn g caps] (.bool (l.any p)) := by
  refine pure_of mixed Tryz.func53 rfl (by kernel_rfl) (of_decide_eq_true rfl) (by kernel_rfl) (vc_run ?_)
  simp -implicitDefEqProofs
  have hc7 : ∀ H, caps.mapM (reify H 7) = some caps := fun H => hc H 2
  refine call_intro (ins_idx hp hc hf hl) (by simp -implicitDefEqProofs [hc7]) (.inl rfl) ?_
  simp -implicitDefEqProofs
  rw [← ge_idxOf]
theorem svalid_pure (l : List Ins) (hl : l.length ≤ 9223372036854775807) : Pure Tryz.prog 27 [.rs (rowsOf insC l)] (.bool (insL l)) := by
  have hA := ins_any (p := fun x => !insV x) (l := l) (g := 54) (caps := []) (fun x _ => svalidc_pure x) (fun H k => rfl) rfl hl
  refine pure_of mixed Tryz.func27 rfl (by kernel_rfl) (of_decide_eq_true rfl) (by kernel_rfl) (vc_run ?_)
  ((try simp -implicitDefEqProofs [-loopQ_n]) <;> (repeat' (first | ((first | refine condD_dec ?_ ?_ | refine guardD_dec ?_ ?_) <;> (intro hc; (try simp -implicitDefEqProofs [-loopQ_n, hc]))) | ((first | refine condD_intro ?_ ?_ | refine guardD_intro ?_ ?_) <;> (intro hd; have hc := hd; (try simp at hc) <;> (try simp -implicitDefEqProofs [-loopQ_n, hd, hc]))) | ((first | (refine ldD_ep ?_ ?_; (focus kernel_rfl)) | (refine callS_mk ?_; (try simp -implicitDefEqProofs [-loopQ_n]); (first | refine callS_intro (hA) (.inl rfl) ?_))); (try simp -implicitDefEqProofs [-loopQ_n])))))
  all_goals simp [insL, *]
def bigI (x : Ins) : Bool := decide ((100 : Int) < x.case_.size) || decide ((100 : Int) < x.act.size) || decide ((100 : Int) < x.res.size)
def fewI (l : List Ins) : Bool := (decide ((l.length : Int) ≤ 40) || (decide ((2000 : Int) < l.length) && decide ((l.length : Int) < 2005))) && !l.any bigI
end Go.Proofs.YthiclaihlpkinaaGreat
